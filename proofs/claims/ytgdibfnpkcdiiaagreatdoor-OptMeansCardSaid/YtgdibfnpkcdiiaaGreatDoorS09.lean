/- Joint text: EvP, EvPa. By an AI agent. -/
import Derived.Test.YtgdibfnpkcdiiaaGreatDoorSzy
import Derived.Test.YtgdibfnpkcdiiaaGreatDoorS08
import Derived.Laws.IdiomStrings
import Derived.Laws.StructEq
set_option linter.all false
set_option maxRecDepth 100000
set_option maxHeartbeats 64000000
noncomputable section
namespace Go.Proofs.YtgdibfnpkcdiiaaGreatDoor
namespace Ev
section
variable {P:Program}{K:Kon}{o:Oper}
def lesser(a b:Nat):Nat:=sel (Nat.ble a b) a b
def wM(a b:Nat):lesser a b=min a b:=by unfold lesser;cases h:Nat.ble a b with|true=>have:=fF h;rw[aj];omega|false=>
  have:¬a<=b:=λhc=>by rw[Nat.ble_eq_true_of_le hc]at h;cases h
  rw[ag];omega
def Lj(size:Nat)(d x:Opd)(st:St):RS:=sel (Nat.beq (rd st.T x) 6) (sel (slB (rd st.T d)) (.ok 2361183241434822606898 st) .no)
  (sel (Nat.beq (Nat.mod (rd st.T d) 16) 7) (sel (Nat.beq (se (rd st.T d)) size) (sel (Nat.beq (Nat.mod (rd st.T x) 16) 7) (sel (Nat.beq (se (rd st.T x)) size)
   (fc (lesser (sl (rd st.T x)) (sl (rd st.T d))) λn=>sel (Nat.beq n 0) (.ok 2361183241434822606898 st) (sel (Nat.beq (pz (rd st.T d)) 0) .no (sel (Nat.beq (gt st.M (ps (rd st.T d))) 0) .no
    (fc (up st.M (Nat.add (ps (rd st.T d)) (so (rd st.T d))) (Nat.mul n size) (ch st.M (Nat.add (ps (rd st.T x)) (so (rd st.T x))) (Nat.mul n size))) λM=> .ok (Nat.add 2361183241434822606898 (Nat.mul 256 n)) (setM M st.nM st))))) .no) .no) .no) .no)
def JO{t u el:TypeId}{q:TypeInfo}(ht:P.underlying t=some (.slice el))(f:P.info? el=some q)(i:TypeId){b x:Option Addr}{l c d e n:Nat}{w w':World}{cs:Array Value}(hn:Nat.min d l=n)(hf:(Builtin.firstCells q.size n (.slice x d e)).run P w=.ok cs w)(h:∀a,b=some a->(storeCells a cs.toList).run P w=.ok () w')(g:b=none->w'=w):(Builtin.copy_ #[t,u] i #[.slice b l c,.slice x d e]).run P w=.ok (goInt n) w':=by cases b with|none=>have:=g rfl;subst this;simp[Builtin.copy_,jqa ht,Builtin.lenOf,dG f,hn,hf]|some a=>simp[Builtin.copy_,jqa ht,Builtin.lenOf,dG f,hn,hf,h a rfl]
def Q3{t u el:TypeId}{d x:Operand}{q:TypeInfo}(ho:o.op=.call {callee:=.builtin .copy,args:=#[d,x],argTypes:=#[t,u]})(ht:P.underlying t=some (.slice el))(I:P.info? el=some q)(_h0:0<q.size):OpV P K o (Lj q.size (cOp K d) (cOp K x)):=λg st a w z st' hk r L e=>by
 unfold Lj at e;have s:=L d (by simp[ho,Op.operands,Call.operands]);have J:=L x (by simp[ho,Op.operands,Call.operands]);have run:∀{v:Value}{w':World},(Builtin.copy_ #[t,u] o.type #[a.eval d,a.eval x]).run P w=.ok v w'->(execOp a.eval o).run P w=.ok (.value v) w':=λh=>by simp[execOp,ho,resolve,invoke,builtin,h]
 have none_:∀(b D:Option Addr)(l c C H:Nat),a.eval d=.slice b l c->a.eval x=.slice D C H->Nat.min C l=0->(execOp a.eval o).run P w=.ok (.value (goInt (0:Nat))) w:=λb D l c C H h1 h2 h3=>by refine run ?_;rw[h1,h2];refine JO (P:=P) ht I o.type (cs:=#[]) h3 ?_ (λ_ _=>rfl) (λ_=>rfl);cases D with|none=>rfl|some ad=>rw[Builtin.firstCells,jzr];rfl
 have z0:TR g st.R st.nR 2361183241434822606898 (goInt (0:Nat)):=by rw[eY];exact .cell _ _ (.int _ _ (by decide) (by decide))
 cases h1:Nat.beq (rd st.T (cOp K x)) 6 with
 |true=>rw[h1,aj]at e;obtain⟨h2,e⟩:=ae e;injection e with k m;have Y:=J.nil (ah h1);subst m;have key:∀(b:Option Addr)(l c:Nat),a.eval d=.slice b l c->(execOp a.eval o).run P w=.ok (.value (goInt (0:Nat))) w:=λb l c hv=>none_ _ _ _ _ _ _ hv Y (jqy (qqy _));refine⟨g,w,_,.inl ?_,by rw[<-k];exact .same r z0,λq=>absurd q (by simp[ho,dC])⟩;unfold slB at h2;cases h3:Nat.beq (Nat.mod (rd st.T (cOp K d)) 16) 7 with|true=>obtain⟨blk,base,room,cap,ad,M,i,_⟩:=s.sli (ah h3);exact key _ _ _ i|false=>rw[h3,ag]at h2;cases p:Nat.beq (rd st.T (cOp K d)) 6 with|true=>exact key _ _ _ (s.nil (ah p))|false=>rw[p,ag]at h2;obtain⟨ad,i⟩:=s.emp (ah h2);exact key _ _ _ i
 |false=>
  rw[h1,ag]at e;obtain⟨h2,e⟩:=ae e;obtain⟨h3,e⟩:=ae e;obtain⟨p,e⟩:=ae e;obtain⟨y,e⟩:=ae e;rw[bX]at e;have h3:=ah h3;have y:=ah y;obtain⟨blk,base,room,cap,ad,M,i,a3,a4,a5,a6,N,O,a9,E⟩:=s.sli (ah h2);obtain⟨e0,base',room',i0,d0,b1,b2,b3,b4,b5,b6,Q,G,R,F⟩:=J.sli (ah p);rw[h3]at O E;rw[y]at G F;have hn:Nat.min (sl (rd st.T (cOp K x))) (sl (rd st.T (cOp K d)))=lesser (sl (rd st.T (cOp K x))) (sl (rd st.T (cOp K d))):=(wM _ _).symm;have S:lesser (sl (rd st.T (cOp K x))) (sl (rd st.T (cOp K d)))<=sl (rd st.T (cOp K x)):=by rw[wM];omega
  have T:lesser (sl (rd st.T (cOp K x))) (sl (rd st.T (cOp K d)))<=sl (rd st.T (cOp K d)):=by rw[wM];omega
  generalize lesser (sl (rd st.T (cOp K x))) (sl (rd st.T (cOp K d)))=n at*;cases f:Nat.beq n 0 with|true=>rw[f,aj]at e;injection e with k m;subst m;have f:=ah f;rw[f]at hn;exact⟨g,w,_,.inl (none_ _ _ _ _ _ _ i b2 hn),by rw[<-k];exact .same r z0,λq=>absurd q (by simp[ho,dC])⟩|false=>
   rw[f,ag]at e;obtain⟨A,e⟩:=oQ e;obtain⟨B,e⟩:=oQ e;rw[bX]at e;injection e with k m;have f:=gM f;have A:=gM A;have B:=gM B;simp only[nA,nM]at k m;obtain⟨cs,c1,c2,c3⟩:=rX (P:=P) r Q G R F S;obtain⟨rfl,j0⟩:=E.resolve_left oqo;have hm:n*q.size<=sl (rd st.T (cOp K d))*q.size:=jqo _ T;obtain⟨w',U,V,X⟩:=r.store P (o:=so (rd st.T (cOp K d))) (n:=n*q.size) (cw:=ch st.M (ps (rd st.T (cOp K x))+so (rd st.T (cOp K x))) (n*q.size)) N ⟨0,Nat.pos_of_ne_zero A,by rw[qzz];exact B⟩ oqo (jT _ _ _) cs.toList
    (by rw[jql,c1]) (λj hj=>by have:=c3 j hj;rwa[qqm,qjf,<-qqg]);subst m;refine⟨g,w',goInt n,.inl (run ?_),⟨V,X,Ext.refl _ _,?_,rfl,rfl⟩,λq=>absurd q (by simp[ho,dC])⟩;·rw[i,b2];exact JO (P:=P) ht I o.type hn (c2 w rfl) (λZ ha=>by injection ha with ha;subst ha;exact U) (λh=>by cases h)
   ·rw[<-k,<-uX];exact .cell _ _ (.int _ _ oqo oqo)
def K7(x:Opd)(st:St):RS:=sel (Nat.beq (Nat.mod (rd st.T x) 16) 3) (pY (ln (rd st.T x)) 1 st.M (wK st.S (sa (rd st.T x)) (ln (rd st.T x))) st) .no
def QV{s d el:TypeId}{x:Operand}(ho:o.op=.convert s d x)(hs:P.underlying s=some .string)(hd:P.underlying d=some (.slice el))(he:P.underlying el=some (.int .u8)):OpV P K o (K7 (cOp K x)):=λg st a w z st' hk f p e=>by
 unfold K7 at e;obtain⟨h1,e⟩:=ae e;obtain⟨v,k,a3,a4,a5⟩:=(p x (by simp[ho,Op.operands])).str (ah h1);obtain⟨r,u⟩:=Df g st.S (sa (rd st.T (cOp K x))) (ln (rd st.T (cOp K x)));have h:=run_bytes_of_string w s d el (strOf g.S (sa (rd st.T (cOp K x))) (ln (rd st.T (cOp K x)))) hs hd he;rw[gD]at h;have m:=grownCap_ge w (ln (rd st.T (cOp K x))) 0 el;generalize grownCap w (ln (rd st.T (cOp K x))) 0 el=cap at*;have c:((strOf g.S (sa (rd st.T (cOp K x))) (ln (rd st.T (cOp K x)))).data.map λb=>Value.int .u8 b.toNat).size=ln (rd st.T (cOp K x)):=by have:=gD g.S (sa (rd st.T (cOp K x))) (ln (rd st.T (cOp K x)));rw[Array.size_map];exact this
 have l:(bytesRow (strOf g.S (sa (rd st.T (cOp K x))) (ln (rd st.T (cOp K x)))) cap).size=cap:=by unfold bytesRow;rw[jjj,c,jxm,gD];omega
 obtain⟨g',n⟩:=Bt (el:=el) (cap:=cap) (cs:=(strOf g.S (sa (rd st.T (cOp K x))) (ln (rd st.T (cOp K x)))).data.map λb=>Value.int .u8 b.toNat) (rest:=Array.replicate (cap-ln (rd st.T (cOp K x))) (.int .u8 0)) st.M f e (by decide)
  (by rw[c,jzc]) (by rw[jzc];exact r) (λj hj=>by
   rw[jzc]at hj;have:=u j hj;rw[f.S]at this;have hv:((strOf g.S (sa (rd st.T (cOp K x))) (ln (rd st.T (cOp K x)))).data.map λb=>Value.int .u8 b.toNat).getD j undef=.int .u8 (aH g.S (sa (rd st.T (cOp K x))+j):Nat):=by rw[qqg,Array.getElem?_map,<-qjf,bL,qqp,qqz hj];simp only[jqf,qzm,byte_toNat]
   rw[hv,f.S];exact this) m (by rw[jxm,jzc]) (λi hi=>by rw[jxm]at hi;simp[qqg,hi,Value.oneCell'])
  ((bytesRow (strOf g.S (sa (rd st.T (cOp K x))) (ln (rd st.T (cOp K x)))) cap).size,(bytesRow (strOf g.S (sa (rd st.T (cOp K x))) (ln (rd st.T (cOp K x)))) cap).size+1) (.inr (by rw[l,jjj,c,jxm];show _<=cap;omega));refine⟨g',_,_,.inl ?_,n,λq=>absurd q (by simp[ho,dC,hd])⟩;simp only[execOp,ho,k,qjm,h,qjl,jzk];unfold bytesRow;rw[gD]
def HR.mark{g:Gh}{st:St}{w:World}(h:HR g st w){s blk base z room:Nat}(hr:g.rho s=.cells blk base z room){c:Array Value}{e:TypeId}{fr:Nat×Nat}(l:w.heap[blk]? =some (.cells c e fr))(fr':Nat×Nat)(u:ry fr c.size->ry fr' c.size){w':World}(hw:w'.heap=w.heap.setIfInBounds blk (.cells c e fr'))(ho:w'.os=w.os/\w'.tape=w.tape/\w'.output=w.output):HR g st w'/\Fr g w g w':=by
 have v:=(qqs.1 l).1;have m:∀b,b≠blk->w'.heap[b]? =w.heap[b]?:=λb y=>by rw[hw,qzy,qzc (Ne.symm y)]
 have new:w'.heap[blk]? =some (.cells c e fr'):=by rw[hw,qzy,qzb rfl,qzb v]
 refine⟨⟨h.S,h.nS,h.Slt,h.Mlt,h.Rlt,h.top,h.jR,λs' j ba z' r hs=>?_,h.rows,λs' b hs=>?_,h.inj,h.pK⟩,⟨ho.1,ho.2.1,ho.2.2,by rw[hw];simp,Gh.le.refl _,λb _ hn=>m b (λf=>hn (by subst f;exact .inl ⟨s,base,z,room,hr⟩)),λ_ _ h=>h⟩⟩
 ·obtain⟨c2,k,n,hc⟩:=h.cells s' j ba z' r hs;by_cases f:j=blk
  ·subst f;have p:c2=c/\k=e/\n=fr:=by have:=hc.heap.symm.trans l;injection this with this;injection this with a b d;exact⟨a,b,d⟩
   obtain⟨rfl,rfl,rfl⟩:=p;exact⟨c2,k,fr',new,hc.size,hc.room,hc.one,hc.vr,λhl=>u (hc.thaw hl)⟩
  ·exact⟨c2,k,n,by rw[m j f];exact hc.heap,hc.size,hc.room,hc.one,hc.vr,hc.thaw⟩
 ·obtain⟨x,i,hm⟩:=h.maps s' b hs;refine⟨x,?_,hm⟩;rw[m b (λf=>?_)];·exact i
  ·subst f;rw[l]at i;injection i with i;subst i;obtain⟨_,_,_,_,_,_,_,_,_,_,_,q,_⟩:=hm;cases q
def LG(x:Opd)(st:St):RS:=sel (Nat.beq (Nat.mod (rd st.T x) 16) 7) (sel (Nat.blt 0 (sl (rd st.T x))) (.ok (rd st.T x) st) .no) .no
def Rc{s el:TypeId}{x:Operand}(ho:o.op=.convert s s x)(hs:P.underlying s=some (.slice el))(he:P.underlying el=some (.int .u8)):OpV P K o (LG (cOp K x)):=λg st a w z st' hk l A e=>by
 unfold LG at e;obtain⟨h1,e⟩:=ae e;obtain⟨h2,e⟩:=ae e;injection e with r u;have h2:=aT h2;have m:=A x (by simp[ho,Op.operands]);obtain⟨blk,base,room,cap,ad,D,p,a3,a4,a5,E,h,F,a9,n⟩:=m.sli (ah h1);obtain⟨rfl,G⟩:=n.resolve_left oqo;obtain⟨c,j,fr,hc⟩:=l.cells _ _ _ _ _ h;subst u;have v:=(qqs.1 hc.heap).1;have y:w.shape? blk=some (j,c.size):=by unfold World.shape?;rw[hc.heap]
 obtain⟨d,f⟩:=fr;have k:w.freeze ⟨blk,c.size,none⟩ 1={w with heap:=w.heap.setIfInBounds blk (.cells c j (if d==f then(c.size,c.size+1)else(min d c.size,max f (c.size+1))))}:=by
  unfold World.freeze;rw[qzc (by decide)];congr 1;apply Array.ext_getElem?;intro i;rw[Array.getElem?_modify,qzy];by_cases hi:blk=i;·subst hi;rw[qzb rfl,qzb rfl,qzb v,hc.heap];rfl
  ·rw[qzc hi,qzc hi]
 obtain⟨B,C⟩:=l.mark h hc.heap (if d==f then(c.size,c.size+1)else(min d c.size,max f (c.size+1))) (λht=>by
  rcases ht with ht|ht;·dsimp only at ht;subst ht;rw[if_pos (by simp)];exact .inr (qqf _)
  ·dsimp only at ht;split;·exact .inr (qqf _)
   ·exact .inr (by show c.size<=min d c.size;omega)) (w':=w.freeze ⟨blk,c.size,none⟩ 1) (by rw[k]) (by rw[k];exact⟨rfl,rfl,rfl⟩);refine⟨g,w.freeze ⟨blk,c.size,none⟩ 1,a.eval x,.inl ?_,⟨B,C,Ext.refl _ _,by rw[<-r];exact m,rfl,rfl⟩,λq=>absurd q (by simp[ho,dC,hs])⟩;simp[execOp,ho,p,convert,jqa hs,jqa he,markStringish,y]
def RX(c n:Nat):Bool:=(List.range n).all λi=>sel (Nat.beq (Nat.mod (gt c i) 256) 66) (sel (Nat.ble 9223372036854775808 (Nat.div (gt c i) 256)) (Nat.blt (ixN (gt c i)) 256) false) false
def EF(c n:Nat):Nat:=(List.range n).foldr (λi m=>Nat.add (ixN (gt c i)) (Nat.mul 256 m)) 0
def xI{c n i:Nat}(h:RX c n=true)(hi:i<n):gt c i%256=66/\9223372036854775808<=gt c i/256/\ixN (gt c i)<256:=by have h:=qqw.1 h i (qzg.2 hi);cases h1:Nat.beq (Nat.mod (gt c i) 256) 66 with|false=>rw[h1]at h;cases h|true=>rw[h1,aj]at h;cases h2:Nat.ble 9223372036854775808 (Nat.div (gt c i) 256)with|false=>rw[h2]at h;cases h|true=>rw[h2,aj]at h;exact⟨ah h1,fF h2,aT h⟩
def YB{g:Gh}{w:Nat}{v:Value}(h:VR g w v)(hm:w%256=66)(c:9223372036854775808<=w/256):v=.int .u8 (ixN w:Nat):=by obtain⟨k,hk⟩:=(TR.cell (g:=g) (R:=0) (nR:=0) w v h).ix oqo c;obtain⟨n,d,a,_⟩:=(TR.cell (g:=g) (R:=0) (nR:=0) w v h).int (k:=.u8) hm;rw[a]at hk;injection hk with h1 h2;subst h1;rw[a,h2];rfl
def Jz(c n:Nat)(h:RX c n=true):EF c n=iW ((List.range n).map λi=>UInt8.ofNat (ixN (gt c i))):=by
 unfold EF iW;rw[List.foldr_map];have:∀l:List Nat,(∀i∈l,ixN (gt c i)<256)->l.foldr (λi m=>Nat.add (ixN (gt c i)) (Nat.mul 256 m)) 0=l.foldr (λi m=>(UInt8.ofNat (ixN (gt c i))).toNat+256*m) 0:=by intro l;induction l with|nil=>intro _;rw[List.foldr_nil,List.foldr_nil]|cons i l ih=>intro hl;rw[List.foldr_cons,List.foldr_cons,ih (λj hj=>hl j (by simp[hj])),UInt8.toNat_ofNat'];have:=hl i (by simp);rw[nA,nM,qje this]
 exact this _ λi hi=>(xI h (qzg.1 hi)).2.2
def KL(x:Opd)(st:St):RS:=sel (Nat.beq (rd st.T x) 6) (.ok 3 st) (sel (Nat.beq (rd st.T x) 57) (.ok 3 st)
  (sel (Nat.beq (Nat.mod (rd st.T x) 16) 7) (sel (Nat.beq (se (rd st.T x)) 1) (sel (Nat.blt st.nS 4294967296)
   (fc (ch st.M (Nat.add (ps (rd st.T x)) (so (rd st.T x))) (sl (rd st.T x))) λc=>sel (RX c (sl (rd st.T x)))
    (fc (adS st.S st.nS (EF c (sl (rd st.T x)))) λS=>.ok (dE st.nS (sl (rd st.T x))) (setS S (Nat.add st.nS (sl (rd st.T x))) st)) .no) .no) .no) .no))
def yw:∀l:List UInt8,iW l<2^(8*l.length)
 |[]=>Nat.two_pow_pos _|b::l=>by
  have ih:=yw l;have a:b.toNat<256:=b.toNat_lt;have e:iW (b::l)=b.toNat+256*iW l:=rfl;rw[e,qzv,show 8*(l.length+1)=8+8*l.length by omega,Nat.pow_add];have:(2:Nat)^8=256:=by decide
  rw[this];omega
def Om(S:Nat):strOf S 0 0=ByteArray.empty:=by apply jjn;apply jxt;rw[bL];rfl
def Rn{s d el:TypeId}{x:Operand}(ho:o.op=.convert s d x)(hs:P.underlying s=some (.slice el))(he:P.underlying el=some (.int .u8))(hd:P.underlying d=some .string):OpV P K o (KL (cOp K x)):=λg st a w z st' hk m G e=>by
 unfold KL at e;have r:=G x (by simp[ho,Op.operands]);have emp:∀b:Option Addr,a.eval x=.slice b 0 0->(execOp a.eval o).run P w=.ok (.value (.string (strOf g.S 0 0))) w:=λb hv=>by rw[Om];simp only[execOp,ho,hv,qjm,run_convert_bytes_string w s d el b 0 0 hs he hd];cases b with|none=>rfl|some ad=>simp[Conv.bytesToString,loadCells,loadCellsFrom]
 have t0:TR g st.R st.nR 3 (.string (strOf g.S 0 0)):=.cell _ _ (VR.str (g:=g) 0 0 (by decide) (qqy _) (by decide));cases h1:Nat.beq (rd st.T (cOp K x)) 6 with|true=>rw[h1,aj]at e;injection e with h k;subst k;exact⟨g,w,_,.inl (emp _ (r.nil (ah h1))),by rw[<-h];exact .same m t0,λ_=>.inl rfl⟩|false=>rw[h1,ag]at e;cases h2:Nat.beq (rd st.T (cOp K x)) 57 with|true=>rw[h2,aj]at e;injection e with h k;subst k;obtain⟨ad,n⟩:=r.emp (ah h2);exact⟨g,w,_,.inl (emp _ n),by rw[<-h];exact .same m t0,λ_=>.inl rfl⟩|false=>
   rw[h2,ag]at e;obtain⟨h3,e⟩:=ae e;obtain⟨p,e⟩:=ae e;obtain⟨q,e⟩:=ae e;rw[bX]at e;obtain⟨l,e⟩:=ae e;rw[bX]at e;injection e with h k;have p:=ah p;have q:=aT q;simp only[nA]at h k l;obtain⟨blk,base,room,cap,ad,J,n,a3,a4,a5,M,y,v,a9,u⟩:=r.sli (ah h3);rw[p]at v u;obtain⟨cs,c1,c2,c3⟩:=rX (P:=P) m y v a9 u (qqf _);rw[jzc]at c1 c2 c3;generalize so (rd st.T (cOp K x))=c at*;generalize sl (rd st.T (cOp K x))=L at*;generalize ps (rd st.T (cOp K x))=f at*;have hl:=yw ((List.range L).map λi=>UInt8.ofNat (ixN (gt (ch st.M (f+c) L) i)));rw[<-Jz _ _ l,qqv,List.length_range]at hl;obtain⟨H,I⟩:=m.pool L _ hl;have B:∀j,j<L->cs.getD j undef=.int .u8 (ixN (gt (ch st.M (f+c) L) j):Nat):=λj hj=>by obtain⟨b1,b2,N⟩:=xI l hj;exact YB (c3 j hj) b1 b2
   have E:(convert s d (.slice (some ad) L cap)).run P w=.ok (.string ⟨((List.range L).map λi=>UInt8.ofNat (ixN (gt (ch st.M (f+c) L) i))).toArray⟩) w:=by
    have A:=run_bytesToString (P:=P) w ad L cap ((List.range L).map λi=>((ixN (gt (ch st.M (f+c) L) i):Nat):Int)) (by
     rw[c2 w rfl];congr 1;apply Array.ext_getElem?;intro j;by_cases hj:j<L;·rw[zD oqo,B j hj];simp[hj]
     ·rw[jxf oqo,jxf (by simp;omega)]);rw[run_convert_bytes_string w s d el (some ad) L cap hs he hd,A];have hm:((List.range L).map λi=>((ixN (gt (ch st.M (f+c) L) i):Nat):Int))=((List.range L).map λi=>UInt8.ofNat (ixN (gt (ch st.M (f+c) L) i))).map λb=>(b.toNat:Int):=by rw[qzx];refine jqj λi hi=>?_;have:=(xI l (qzg.1 hi)).2.2;simp only[Function.comp,UInt8.toNat_ofNat'];rw[qje this]
    rw[hm,foldl_push_byteCells];have C:ByteArray.empty.data=#[]:=rfl;rw[C];simp
   subst k;refine⟨_,w,.string ⟨((List.range L).map λi=>UInt8.ofNat (ixN (gt (ch st.M (f+c) L) i))).toArray⟩,.inl ?_,⟨H,I,Ext.refl _ _,?_,rfl,rfl⟩,λ_=>.inl rfl⟩;·simp only[execOp,ho,n,qjm,E,qjl];rfl
   ·rw[<-h];have F:strOf (adS st.S st.nS (EF (ch st.M (f+c) L) L)) st.nS L=⟨((List.range L).map λi=>UInt8.ofNat (ixN (gt (ch st.M (f+c) L) i))).toArray⟩:=by
     apply jjn;apply jxt;rw[bL];apply List.ext_getElem;·rw[qqv,qqv]
     ·intro i D O;have hi:i<L:=by simpa using D
      simp only[jjl,List.getElem_range];rw[jX _ _ m.Slt,qzc oqo,show st.nS+i-st.nS=i by omega,Jz _ _ l,mP _ _ (by simpa using hi),jjl,List.getElem_range,UInt8.toNat_ofNat',qje (xI l hi).2.2]
    rw[<-F];exact .cell _ _ (VR.str (g:={g with S:=adS st.S st.nS (EF (ch st.M (f+c) L) L),nS:=st.nS+L}) st.nS L a5 (qqf _) q)
def kR(neg:Bool)(a c d:Nat)(x:Opd)(st:St):RS:=sel (Nat.beq (rd st.T x) a) (.ok (sel neg 1 17) st) (sel (Nat.beq (Nat.mod (rd st.T x) 16) c) (.ok (sel neg 17 1) st) (sel (Nat.beq (Nat.mod (rd st.T x) 16) d) (.ok (sel neg 17 1) st) .no))
def Cg(g:Gh)(R nR:Nat)(b:Bool):TR g R nR (sel b 17 1) (.bool b):=by cases b<;>first|exact .cell _ _ (.bool true)|exact .cell _ _ (.bool false)
def gV{t:TypeId}{x y:Value}{b:Bool}{W:World}(h:∀d,(Op.equalIn (d+1) t x y).run P W=.ok b W):(Op.equal t x y).run P W=.ok b W:=h 9999
section
variable {t:TypeId}{b:Bool}{W:World}
def Rj(neg:Bool){p q:Option Addr}(h:(Op.equal t (.pointer p) (.pointer q)).run P W=.ok b W):(binOp (if neg then .neq else .eql) t (.pointer p) (.pointer q)).run P W=.ok (.bool (neg^^b)) W:=by cases neg<;>simp only[binOp,qjm,h,qjl,jzo,jxa,qzr]<;>cases b<;>rfl
def Yb(neg:Bool){p q:Option Addr}{l c d a:Nat}(h:(Op.equal t (.slice p l c) (.slice q d a)).run P W=.ok b W):(binOp (if neg then .neq else .eql) t (.slice p l c) (.slice q d a)).run P W=.ok (.bool (neg^^b)) W:=by cases neg<;>simp only[binOp,qjm,h,qjl,jzo,jxa,qzr]<;>cases b<;>rfl
def XR(neg:Bool){p q:Option Nat}(h:(Op.equal t (.map p) (.map q)).run P W=.ok b W):(binOp (if neg then .neq else .eql) t (.map p) (.map q)).run P W=.ok (.bool (neg^^b)) W:=by cases neg<;>simp only[binOp,qjm,h,qjl,jzo,jxa,qzr]<;>cases b<;>rfl
def XE(neg:Bool){f:Fn}{x y:Array Value}(h:(Op.equal t (.func f x y) .nilFunc).run P W=.ok b W):(binOp (if neg then .neq else .eql) t (.func f x y) .nilFunc).run P W=.ok (.bool (neg^^b)) W:=by cases neg<;>simp only[binOp,qjm,h,qjl,jzo,jxa,qzr]<;>cases b<;>rfl
def Zb(neg:Bool)(h:(Op.equal t .nilFunc .nilFunc).run P W=.ok b W):(binOp (if neg then .neq else .eql) t .nilFunc .nilFunc).run P W=.ok (.bool (neg^^b)) W:=by cases neg<;>simp only[binOp,qjm,h,qjl,jzo,jxa,qzr]<;>cases b<;>rfl
def aaL(neg:Bool){d:TypeId}{x:Value}(h:(Op.equal t (.iface d x) .nilIface).run P W=.ok b W):(binOp (if neg then .neq else .eql) t (.iface d x) .nilIface).run P W=.ok (.bool (neg^^b)) W:=by cases neg<;>simp only[binOp,qjm,h,qjl,jzo,jxa,qzr]<;>cases b<;>rfl
def ZA(neg:Bool)(h:(Op.equal t .nilIface .nilIface).run P W=.ok b W):(binOp (if neg then .neq else .eql) t .nilIface .nilIface).run P W=.ok (.bool (neg^^b)) W:=by cases neg<;>simp only[binOp,qjm,h,qjl,jzo,jxa,qzr]<;>cases b<;>rfl
def aaB(neg:Bool){x y:Bool}(h:(Op.equal t (.bool x) (.bool y)).run P W=.ok b W):(binOp (if neg then .neq else .eql) t (.bool x) (.bool y)).run P W=.ok (.bool (neg^^b)) W:=by cases neg<;>simp only[binOp,qjm,h,qjl,jzo,jxa,qzr]<;>cases b<;>rfl
end
def vC(W:World):(pure ():Sem Unit).run P W=.ok () W:=rfl
def pF{t u:TypeId}{x:Operand}{n:Value}(neg:Bool)(c d j:Nat)(ho:o.op=.binOp (if neg then .neq else .eql) t x (.const n) u)(hn:∀(g:Gh)(R nR w:Nat)(v:Value)(W:World),TR g R nR w v->w=c->(eqGuard (if neg then .neq else .eql) t x (.const n) v n).run P W=.ok () W/\(binOp (if neg then .neq else .eql) t v n).run P W=.ok (.bool (!neg)) W)(ht:∀(g:Gh)(R nR w:Nat)(v:Value)(W:World),TR g R nR w v->w%16=d\/w%16=j->(eqGuard (if neg then .neq else .eql) t x (.const n) v n).run P W=.ok () W/\(binOp (if neg then .neq else .eql) t v n).run P W=.ok (.bool neg) W):OpV P K o (kR neg c d j (cOp K x)):=.pure λg st a w z st' _ _ m e=>by
 unfold kR at e;have k:=m x (by simp[ho,Op.operands]);have fin:∀b:Bool,((eqGuard (if neg then .neq else .eql) t x (.const n) (a.eval x) n).run P w=.ok () w/\(binOp (if neg then .neq else .eql) t (a.eval x) n).run P w=.ok (.bool b) w)->(execOp a.eval o).run P w=.ok (.value (.bool b)) w:=λb h=>by have l:a.eval (.const n)=n:=rfl;simp only[execOp,ho,l,qjm,h.1,h.2,qjl];rfl
 have yes:RS.ok (sel neg 1 17) st=.ok z st'->TR g st.R st.nR (rd st.T (cOp K x)) (a.eval x)->rd st.T (cOp K x)=c->st'=st/\∃v,(execOp a.eval o).run P w=.ok (.value v) w/\TR g st.R st.nR z v:=λe h1 h2=>by injection e with f i;refine⟨i.symm,_,fin _ (hn g _ _ _ _ w h1 h2),?_⟩;rw[<-f];have:=Cg g st.R st.nR (!neg);cases neg<;>exact this
 have no:RS.ok (sel neg 17 1) st=.ok z st'->(rd st.T (cOp K x)%16=d\/rd st.T (cOp K x)%16=j)->st'=st/\∃v,(execOp a.eval o).run P w=.ok (.value v) w/\TR g st.R st.nR z v:=λe h2=>by injection e with f i;refine⟨i.symm,_,fin _ (ht g _ _ _ _ w k h2),?_⟩;rw[<-f];exact Cg g st.R st.nR neg
 cases h1:Nat.beq (rd st.T (cOp K x)) c with|true=>rw[h1,aj]at e;exact yes e k (ah h1)|false=>rw[h1,ag]at e;cases h2:Nat.beq (Nat.mod (rd st.T (cOp K x)) 16) d with|true=>rw[h2,aj]at e;exact no e (.inl (ah h2))|false=>rw[h2,ag]at e;obtain⟨h3,e⟩:=ae e;exact no e (.inr (ah h3))
def EH{t u:TypeId}{el:TypeId}{x:Operand}(neg:Bool)(ho:o.op=.binOp (if neg then .neq else .eql) t x (.const (.pointer none)) u)(ht:P.underlying t=some (.pointer el)):OpV P K o (kR neg 4 5 5 (cOp K x)):=pF neg 4 5 5 ho (λg R nR w v W h e=>by have:=(h.aM oqo oqo oqo oqo).ES oqo;subst this;have h2:(Op.equal t (.pointer none) (.pointer none)).run P W=.ok true W:=(gV λd=>by simp[Op.equalIn,jqa ht]);have h3:=Rj neg h2;refine⟨by rw[eqGuard_at_pointer];rfl,?_⟩;cases neg<;>exact h3) (λg R nR w v W h e=>by obtain⟨blk,base,room,_,rfl,_⟩:=h.ptr oqo;have h2:(Op.equal t (.pointer (some ⟨blk,base+po w,none⟩)) (.pointer none)).run P W=.ok false W:=(gV λd=>by simp[Op.equalIn,jqa ht]);have h3:=Rj neg h2;refine⟨by rw[eqGuard_at_pointer];rfl,?_⟩;cases neg<;>exact h3)
def Ht{t u:TypeId}{el:TypeId}{c:Nat}{x:Operand}(neg:Bool)(ho:o.op=.binOp (if neg then .neq else .eql) t x (.const (.slice none 0 c)) u)(ht:P.underlying t=some (.slice el)):OpV P K o (kR neg 6 7 7 (cOp K x)):=pF neg 6 7 7 ho (λg R nR w v W h e=>by have:=h.nil e;subst this;have h2:(Op.equal t (.slice none 0 0) (.slice none 0 c)).run P W=.ok true W:=(gV λd=>by simp[Op.equalIn,jqa ht]);have h3:=Yb neg h2;refine⟨by rw[eqGuard_at_slice];rfl,?_⟩;cases neg<;>exact h3) (λg R nR w v W h e=>by obtain⟨blk,base,room,cap,ad,_,rfl,_⟩:=h.sli oqo;have h2:(Op.equal t (.slice (some ad) (sl w) cap) (.slice none 0 c)).run P W=.ok false W:=(gV λd=>by simp[Op.equalIn,jqa ht]);have h3:=Yb neg h2;refine⟨by rw[eqGuard_at_slice];rfl,?_⟩;cases neg<;>exact h3)
def FK{t u:TypeId}{ps i:Array TypeId}{vr:Bool}{x:Operand}(neg:Bool)(ho:o.op=.binOp (if neg then .neq else .eql) t x (.const .nilFunc) u)(ht:P.underlying t=some (.func ps i vr)):OpV P K o (kR neg 25 10 15 (cOp K x)):=pF neg 25 10 15 ho (λg R nR w v W h e=>by have:=(h.aM oqo oqo oqo oqo).Fp e;subst this;have h2:(Op.equal t .nilFunc .nilFunc).run P W=.ok true W:=(gV λd=>by simp[Op.equalIn,jqa ht]);have h3:=Zb neg h2;refine⟨by rw[eqGuard_at_nilFunc];rfl,?_⟩;cases neg<;>exact h3) (λg R nR w v W h e=>by
  have hv:=h.aM oqo oqo oqo oqo;rcases e with e|e;·obtain⟨f,m,n,s,ws,c,a,_,rfl,_⟩:=hv.om e;have h2:(Op.equal t (.func (.func f) c a) .nilFunc).run P W=.ok false W:=(gV λd=>by simp[Op.equalIn,jqa ht]);have h3:=XE neg h2;refine⟨by rw[eqGuard_at_func];rfl,?_⟩;cases neg<;>exact h3
  ·obtain⟨f,_,rfl,_⟩:=hv.tq e;have h2:(Op.equal t (.func (.func f) #[] #[]) .nilFunc).run P W=.ok false W:=(gV λd=>by simp[Op.equalIn,jqa ht]);have h3:=XE neg h2;refine⟨by rw[eqGuard_at_func];rfl,?_⟩;cases neg<;>exact h3)
def FO{t u:TypeId}{ms:Array (String×TypeId)}{x:Operand}(neg:Bool)(ho:o.op=.binOp (if neg then .neq else .eql) t x (.const .nilIface) u)(ht:P.underlying t=some (.interface ms)):OpV P K o (kR neg 41 11 11 (cOp K x)):=pF neg 41 11 11 ho (λg R nR w v W h e=>by have:=(h.aM oqo oqo oqo oqo).EE e;subst this;have h2:(Op.equal t .nilIface .nilIface).run P W=.ok true W:=(gV λd=>by simp[Op.equalIn,jqa ht]);have h3:=ZA neg h2;refine⟨by rw[eqGuard_nil_constR];rfl,?_⟩;cases neg<;>exact h3) (λg R nR w v W h e=>by obtain⟨a,s,c,y,_,rfl,_⟩:=(h.aM oqo oqo oqo oqo).Jk oqo;have h2:(Op.equal t (.iface a y) .nilIface).run P W=.ok false W:=(gV λd=>by simp[Op.equalIn,jqa ht]);have h3:=aaL neg h2;refine⟨by rw[eqGuard_at_iface];rfl,?_⟩;cases neg<;>exact h3)
def Ff{t u:TypeId}{k el:TypeId}{x:Operand}(neg:Bool)(ho:o.op=.binOp (if neg then .neq else .eql) t x (.const (.map none)) u)(ht:P.underlying t=some (.map k el)):OpV P K o (kR neg 9 8 8 (cOp K x)):=pF neg 9 8 8 ho (λg R nR w v W h e=>by have:=(h.aM oqo oqo oqo oqo).Ey e;subst this;have h2:(Op.equal t (.map none) (.map none)).run P W=.ok true W:=(gV λd=>by simp[Op.equalIn,jqa ht]);have h3:=XR neg h2;refine⟨by rw[eqGuard_at_map];rfl,?_⟩;cases neg<;>exact h3) (λg R nR w v W h e=>by obtain⟨s,blk,_,rfl,_⟩:=(h.aM oqo oqo oqo oqo).Cc oqo;have h2:(Op.equal t (.map (some blk)) (.map none)).run P W=.ok false W:=(gV λd=>by simp[Op.equalIn,jqa ht]);have h3:=XR neg h2;refine⟨by rw[eqGuard_at_map];rfl,?_⟩;cases neg<;>exact h3)
def Lg(neg:Bool)(x y:Opd)(st:St):RS:=sel (Nat.beq (Nat.mod (rd st.T x) 16) 5) (sel (Nat.beq (Nat.mod (rd st.T y) 16) 5) (sel (Nat.beq (ps (rd st.T x)) (ps (rd st.T y))) (.ok (sel (Nat.beq (po (rd st.T x)) (po (rd st.T y))) (sel neg 1 17) (sel neg 17 1)) st) .no) .no) .no
def Ju{t u el:TypeId}{x y:Operand}{i:TypeInfo}(neg:Bool)(ho:o.op=.binOp (if neg then .neq else .eql) t x y u)(ht:P.underlying t=some (.pointer el))(hi:P.info? el=some i)(hz:i.size≠0):OpV P K o (Lg neg (cOp K x) (cOp K y)):=.pure λg st a w z st' _ _ k e=>by
 unfold Lg at e;obtain⟨h1,e⟩:=ae e;obtain⟨h2,e⟩:=ae e;obtain⟨h3,e⟩:=ae e;injection e with m n;have h3:=ah h3;obtain⟨blk,base,room,q,l,a3,a4,a5,r⟩:=(k x (by simp[ho,Op.operands])).ptr (ah h1);obtain⟨B,base',room',b1,b2,s,v,j,A⟩:=(k y (by simp[ho,Op.operands])).ptr (ah h2);rw[<-h3,a5]at j;injection j with c1 c2 c3 c4;subst c1;subst c2;have p:Nat.beq (po (rd st.T (cOp K x))) (po (rd st.T (cOp K y)))=decide (base+po (rd st.T (cOp K x))=base+po (rd st.T (cOp K y))):=by rw[qzd,Nat.beq_eq,qqu];omega
 refine⟨n.symm,.bool (neg^^decide (base+po (rd st.T (cOp K x))=base+po (rd st.T (cOp K y)))),?_,?_⟩
 ·generalize base+po (rd st.T (cOp K x))=c at*;generalize base+po (rd st.T (cOp K y))=f at*;have hd:decide (c=f)=((⟨blk,c,none⟩:Addr)==⟨blk,f,none⟩):=by rw[qzd,qqu,jzb];exact⟨λh=>by rw[h],λh=>by injection h⟩
  rw[hd];have h2:(Op.equal t (.pointer (some ⟨blk,c,none⟩)) (.pointer (some ⟨blk,f,none⟩))).run P w=.ok ((⟨blk,c,none⟩:Addr)==⟨blk,f,none⟩) w:=gV λd=>by simp[Op.equalIn,jqa ht,dG hi,hz,sameAddr]
  have h3:=Rj neg h2;simp only[execOp,ho,l,b2,qjm,eqGuard_at_pointer,vC,qjl,h3];rfl
 ·rw[<-m,p];cases neg<;>cases decide (base+po (rd st.T (cOp K x))=base+po (rd st.T (cOp K y)))<;>first|exact .cell _ _ (.bool true)|exact .cell _ _ (.bool false)
def Me(neg:Bool)(x y:Opd)(st:St):RS:=sel (Nat.beq (Nat.mod (rd st.T x) 16) 1) (sel (Nat.beq (Nat.mod (rd st.T y) 16) 1) (.ok (sel (Nat.beq (rd st.T x) (rd st.T y)) (sel neg 1 17) (sel neg 17 1)) st) .no) .no
def Jf{t u:TypeId}{x y:Operand}(neg:Bool)(ho:o.op=.binOp (if neg then .neq else .eql) t x y u)(ht:P.underlying t=some .bool):OpV P K o (Me neg (cOp K x) (cOp K y)):=.pure λg st a w z st' _ _ f e=>by
 unfold Me at e;obtain⟨h1,e⟩:=ae e;obtain⟨h2,e⟩:=ae e;injection e with j k;have h1:rd st.T (cOp K x)%16=1:=ah h1;have h2:rd st.T (cOp K y)%16=1:=ah h2;obtain⟨b,h,i⟩:=((f x (by simp[ho,Op.operands])).aM oqo oqo oqo oqo).iC h1;obtain⟨c,b1,b2⟩:=((f y (by simp[ho,Op.operands])).aM oqo oqo oqo oqo).iC h2;refine⟨k.symm,.bool (neg^^(b==c)),?_,?_⟩
 ·have h2:(Op.equal t (.bool b) (.bool c)).run P w=.ok (b==c) w:=gV λd=>by simp[Op.equalIn,jqa ht]
  have h3:=aaB neg h2;simp only[execOp,ho,i,b2,qjm,eqGuard_at_bool,vC,qjl,h3];rfl
 ·rw[<-j,h,b1];cases neg<;>cases b<;>cases c<;>first|exact .cell _ _ (.bool true)|exact .cell _ _ (.bool false)
def LB(a:Bool)(x y:Opd)(st:St):RS:=sel (Nat.beq (Nat.mod (rd st.T x) 16) 2) (sel (Nat.beq (Nat.mod (rd st.T y) 256) (Nat.mod (rd st.T x) 256)) (.ok (sel (sel a (Nat.ble (rd st.T y) (rd st.T x)) (Nat.ble (rd st.T x) (rd st.T y))) (rd st.T x) (rd st.T y)) st) .no) .no
def Jn{r:Array TypeId}{x y:Operand}(h:Bool)(ho:o.op=.call {callee:=.builtin (if h then .max else .min),args:=#[x,y],argTypes:=r}):OpV P K o (LB h (cOp K x) (cOp K y)):=.pure λg st a w z st' _ _ q e=>by
 unfold LB at e;obtain⟨h1,e⟩:=ae e;obtain⟨h2,e⟩:=ae e;injection e with f l;have h1:rd st.T (cOp K x)%16=2:=ah h1;have h2:rd st.T (cOp K y)%256=rd st.T (cOp K x)%256:=ah h2;obtain⟨k,n,i,c,a3,a4⟩:=(q x (by simp[ho,Op.operands,Call.operands])).int' h1;rw[i,uN]at h2;obtain⟨m,b1,b2,d,j⟩:=(q y (by simp[ho,Op.operands,Call.operands])).int h2;rw[i,b1]at f;have p:∀a b:Int,-9223372036854775808<=a->-9223372036854775808<=b->Nat.ble (ay k a) (ay k b)=decide (a<=b):=λa b ha s=>by rw[qzd];simp only[Nat.ble_eq,qqu];unfold ay;omega
 rw[p _ _ d a3,p _ _ a3 d]at f;cases h with|true=>
  refine⟨l.symm,.int k (if m<=n then n else m),?_,?_⟩
  ·by_cases hc:m<=n
   ·have:¬m>n:=by omega
    simp[execOp,ho,resolve,invoke,builtin,Builtin.max_,Builtin.max2,c,b2,hc,this]
   ·have:m>n:=by omega
    simp[execOp,ho,resolve,invoke,builtin,Builtin.max_,Builtin.max2,c,b2,hc,this]
  ·rw[<-f];by_cases hc:m<=n;·rw[qzb hc,aj,qqx hc];exact .cell _ _ (.int k n a3 a4)
   ·rw[qzc hc,aj,qqt hc];exact .cell _ _ (.int k m d j)|false=>
  refine⟨l.symm,.int k (if n<=m then n else m),?_,?_⟩
  ·by_cases hc:n<=m
   ·have:¬m<n:=by omega
    simp[execOp,ho,resolve,invoke,builtin,Builtin.min_,Builtin.min2,c,b2,hc,this]
   ·have:m<n:=by omega
    simp[execOp,ho,resolve,invoke,builtin,Builtin.min_,Builtin.min2,c,b2,hc,this]
  ·rw[<-f];by_cases hc:n<=m;·rw[qzb hc,ag,qqx hc];exact .cell _ _ (.int k n a3 a4)
   ·rw[qzc hc,ag,qqt hc];exact .cell _ _ (.int k m d j)
end
end Ev
namespace Ev
def Ex(P:Program):List Field->Option (List (Nat×Nat))|[]=>some []|f::l=>match P.underlying f.type,Ex P l with|some (.int k),some r=>if f.name= "_" then none else some ((f.offset,2+16*kc k)::r)|_,_=>none
def Lb(R a b:Nat):List (Nat×Nat)->Option Bool:=λl=>List.rec (some true) (λq _ ih=>Prod.rec (λo t=>sel (Nat.beq (Nat.mod (gt R (Nat.add a o)) 256) t) (sel (Nat.beq (Nat.mod (gt R (Nat.add b o)) 256) t) (sel (Nat.beq (gt R (Nat.add a o)) (gt R (Nat.add b o))) ih (some false)) none) none) q) l
def Mh(neg:Bool)(n:Nat)(l:List (Nat×Nat))(x y:Opd)(st:St):RS:=sel (Nat.beq (Nat.mod (rd st.T x) 16) 12) (sel (Nat.beq (Nat.mod (rd st.T y) 16) 12) (sel (Nat.beq (ln (rd st.T x)) n) (sel (Nat.beq (ln (rd st.T y)) n)
  (Option.rec .no (λb=>.ok (sel b (sel neg 1 17) (sel neg 17 1)) st) (Lb st.R (sa (rd st.T x)) (sa (rd st.T y)) l)) .no) .no) .no) .no
section
variable {P:Program}{K:Kon}{o:Oper}
def P9{t:TypeId}{x y:Value}{b:Bool}{W:World}(h:∀d,(Op.equalIn (d+2) t x y).run P W=.ok b W):(Op.equal t x y).run P W=.ok b W:=h 9998
def JJ{g:Gh}{R a b n:Nat}{xs u:Array Value}(S:xs.size=n)(T:u.size=n)(H:∀i,i<n->VR g (gt R (a+i)) (xs.getD i undef))(I:∀i,i<n->VR g (gt R (b+i)) (u.getD i undef))(d:Nat)(w:World): ∀(fs:List Field)(l:List (Nat×Nat))(r:Bool),Ex P fs=some l->(∀q∈l,q.1<n)->Lb R a b l=some r->(Op.eqFields (d+1) xs u fs).run P w=.ok r w
 |[],l,r,h,_,e=>by injection h with h;subst h;have e:some true=some r:=e;injection e with e;subst e;rfl|f::fs,l,r,h,C,A=>by
  simp only[Ex]at h;split at h
  ·rename_i k G hk hr;split at h;·cases h
   ·rename_i hn;injection h with h;subst h;have ho:=C (f.offset,2+16*kc k) (by simp);dsimp only at ho;have e:sel (Nat.beq (Nat.mod (gt R (a+f.offset)) 256) (2+16*kc k)) (sel (Nat.beq (Nat.mod (gt R (b+f.offset)) 256) (2+16*kc k)) (sel (Nat.beq (gt R (a+f.offset)) (gt R (b+f.offset))) (Lb R a b G) (some false)) none) none=some r:=A;clear A;have X:=jy k;have v:=H _ ho;have x:=I _ ho;generalize gt R (a+f.offset)=p at e v;generalize gt R (b+f.offset)=q at e x;have hd:gU (.int k)=false:=rfl;have E:=rV (P:=P) hk hd (show f.offset<xs.size by omega) w;have F:=rV (P:=P) hk hd (show f.offset<u.size by omega) w;generalize xs.getD f.offset undef=u1 at E v;generalize u.getD f.offset undef=u2 at F x;cases h1:Nat.beq (Nat.mod p 256) (2+16*kc k)with|false=>rw[h1]at e;cases e|true=>rw[h1,aj]at e;have h1:p%256=2+16*kc k:=ah h1;cases h2:Nat.beq (Nat.mod q 256) (2+16*kc k)with|false=>rw[h2]at e;cases e|true=>
      rw[h2,aj]at e;have h2:q%256=2+16*kc k:=ah h2;obtain⟨k1,c,y,J,a3,a4⟩:=v.jB oqo;obtain⟨k2,s,b1,b2,U,V⟩:=x.jB oqo;have B:∀(j:IntKind)(m:Int)(z:Nat),z=ay j m->z%256=2+16*kc k->j=k:=λj m z hz hm=>by
       have:ay j m%256=2+16*kc j:=by have:=jy j;unfold ay;omega
       rw[hz,this]at hm;exact xu oqo
      have L:=B k1 c p y h1;have M:=B k2 s q b1 h2;subst L;subst M;have O:f.name≠ "_":=hn;have D:(Nat.beq p q=true)↔c=s:=by
       rw[y,b1];constructor;·intro h;have h:=ah h;unfold ay at h;omega
       ·intro h;subst h;exact Nat.beq_refl _
      have N:(Op.equalIn (d+1) f.type u1 u2).run P w=.ok (c==s) w:=by rw[J,b2];exact run_equalIn_int w d f.type _ _ c s hk
      have step:(Op.eqFields (d+1) xs u (f::fs)).run P w=if c=s then(Op.eqFields (d+1) xs u fs).run P w else .ok false w:=by
       simp only[Op.eqFields];rw[qzb O];simp only[qjm,E,F,N,qjl];by_cases hm:c=s;·subst hm;simp
       ·have:(c==s)=false:=by simpa using hm
        rw[this,qzc hm];rfl
      rw[step];cases h3:Nat.beq p q with|true=>rw[h3,aj]at e;rw[qzb (D.1 h3)];exact JJ S T H I d w fs G r hr (λq Q=>C q (by simp[Q])) e|false=>rw[h3,ag]at e;injection e with e;subst e;rw[qzc (λh=>by rw[D.2 h]at h3;cases h3)]
  ·cases h
def Js{t u:TypeId}{x y:Operand}{fs:Array Field}{n:Nat}{l:List (Nat×Nat)}(neg:Bool)(ho:o.op=.binOp (if neg then .neq else .eql) t x y u)(ht:P.underlying t=some (.struct fs))(C:P.eqGuardType P.depth t=false)(D:P.stoodInHeld t=false)(hl:Ex P fs.toList=some l)(h:(l.all λq=>Nat.blt q.1 n)=true):OpV P K o (Mh neg n l (cOp K x) (cOp K y)):=.pure λg st a w z st' _ I k e=>by unfold Mh at e;obtain⟨h1,e⟩:=ae e;obtain⟨h2,e⟩:=ae e;obtain⟨h3,e⟩:=ae e;obtain⟨f,e⟩:=ae e;have h3:=ah h3;have f:=ah f;obtain⟨xs,b1,b2,F,G,H,m,p⟩:=(k x (by simp[ho,Op.operands])).agg' (ah h1);obtain⟨c,c1,c2,c3,c4,c5,c6,c7⟩:=(k y (by simp[ho,Op.operands])).agg' (ah h2);cases hs:Lb st.R (sa (rd st.T (cOp K x))) (sa (rd st.T (cOp K y))) l with|none=>rw[hs]at e;cases e|some r=>
  rw[hs]at e;injection e with s v;have j:P.fieldsOf t=fs:=by simp[Program.fieldsOf,ht]
  rw[qqw]at h;have B:(Op.equal t (.agg xs) (.agg c)).run P w=.ok r w:=P9 λd=>by rw[run_equalIn_struct w (d+1) t xs c (by rw[j];exact ht) D,j];exact JJ (g:=g) (n:=n) (by rw[m,h3]) (by rw[c6,f]) (λi hi=>p i oqo) (λi hi=>c7 i oqo) d w fs.toList l r hl (λq E=>aT (h q E)) hs
  refine⟨v.symm,.bool (neg^^r),?_,?_⟩
  ·have A:(binOp (if neg then .neq else .eql) t (.agg xs) (.agg c)).run P w=.ok (.bool (neg^^r)) w:=by cases neg<;>simp only[binOp,qjm,B,qjl,jzo,jxa,qzr]<;>cases r<;>rfl
   simp only[execOp,ho,b2,c2,qjm,run_eqGuard_agg w _ t x y xs c C,qjl,A];rfl
  ·rw[<-s];have:=Cg g st.R st.nR (neg^^r);cases neg<;>cases r<;>exact this
end
end Ev
