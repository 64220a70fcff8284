/- Joint text: EvI, EvJ, EvK. By an AI agent. -/
import Derived.Test.YtgdibfnpkcdiiaaGreatDoorSzy
import Derived.Test.YtgdibfnpkcdiiaaGreatDoorS06
set_option linter.all false
set_option maxRecDepth 100000
set_option maxHeartbeats 64000000
noncomputable section
namespace Go.Proofs.YtgdibfnpkcdiiaaGreatDoor
namespace Ev
def ps(w:Nat):Nat:=Nat.mod (Nat.div w 16) 16777216
def pz(w:Nat):Nat:=Nat.mod (Nat.div w 268435456) 16777216
def po(w:Nat):Nat:=Nat.div w 4503599627370496
def sl(w:Nat):Nat:=Nat.mod (Nat.div w 4503599627370496) 16777216
def se(w:Nat):Nat:=Nat.mod (Nat.div w 75557863725914323419136) 256
def so(w:Nat):Nat:=Nat.div w 19342813113834066795298816
def Vd{s z o:Nat}(hs:s<16777216):ps (dU s z o)=s:=by show dU s z o/16%16777216=s;unfold dU;omega
def WA{s z o:Nat}(hs:s<16777216)(hz:z<16777216):pz (dU s z o)=z:=by show dU s z o/268435456%16777216=z;unfold dU;omega
def WK{s z o:Nat}(hs:s<16777216)(hz:z<16777216):po (dU s z o)=o:=by show dU s z o/4503599627370496=o;unfold dU;omega
def TR.ptr{g:Gh}{R nR w:Nat}{v:Value}(h:TR g R nR w v)(hm:w%16=5):∃blk base room,w=dU (ps w) (pz w) (po w)/\v=.pointer (some ⟨blk,base+po w,none⟩)/\ps w<16777216/\pz w<16777216/\g.rho (ps w)=.cells blk base (pz w) room/\po w<=pz w:=by obtain⟨s,z,o,blk,base,room,e,a,hs,hz,hr,ho⟩:=(h.aM oqo oqo oqo oqo).Jo hm;subst e;rw[Vd hs,WA hs hz,WK hs hz];exact⟨blk,base,room,rfl,a,hs,hz,hr,ho⟩
def Vg{s z l e o:Nat}(hs:s<16777216):ps (bF s z l e o)=s:=by show bF s z l e o/16%16777216=s;unfold bF;omega
def U0{s z l e o:Nat}(hs:s<16777216)(hz:z<16777216):pz (bF s z l e o)=z:=by show bF s z l e o/268435456%16777216=z;unfold bF;omega
def Ji{s z l e o:Nat}(hs:s<16777216)(hz:z<16777216)(hl:l<16777216):sl (bF s z l e o)=l:=by show bF s z l e o/4503599627370496%16777216=l;unfold bF;omega
def U6{s z l e o:Nat}(hs:s<16777216)(hz:z<16777216)(hl:l<16777216)(he:e<256):se (bF s z l e o)=e:=by show bF s z l e o/75557863725914323419136%256=e;unfold bF;omega
def BZ{s z l e o:Nat}(hs:s<16777216)(hz:z<16777216)(hl:l<16777216)(he:e<256):so (bF s z l e o)=o:=by show bF s z l e o/19342813113834066795298816=o;unfold bF;omega
def TR.sli{g:Gh}{R nR w:Nat}{v:Value}(h:TR g R nR w v)(hm:w%16=7):∃blk base room cap a,w=bF (ps w) (pz w) (sl w) (se w) (so w)/\v=.slice (some a) (sl w) cap/\ps w<16777216/\pz w<16777216/\sl w<16777216/\se w<256/\g.rho (ps w)=.cells blk base (pz w) room/\so w+sl w*se w<=pz w/\sl w<=cap/\(cap=0\/(a=⟨blk,base+so w,none⟩/\so w+cap*se w<=room)):=by obtain⟨s,z,l,e,o,blk,base,room,cap,a,c,b,hs,hz,hl,he,hr,ho,hc,ha⟩:=(h.aM oqo oqo oqo oqo).BH hm;subst c;rw[Vg hs,U0 hs hz,Ji hs hz hl,U6 hs hz hl he,BZ hs hz hl he];exact⟨blk,base,room,cap,a,rfl,b,hs,hz,hl,he,hr,ho,hc,ha⟩
section
variable {P:Program}{K:Kon}{o:Oper}
def Mi(off:Nat)(x:Opd)(st:St):RS:=sel (Nat.beq (Nat.mod (rd st.T x) 16) 5) (sel (Nat.ble (Nat.add (po (rd st.T x)) off) (pz (rd st.T x))) (.ok (Nat.add (rd st.T x) (Nat.mul 4503599627370496 off)) st) .no) .no
def IX{t:TypeId}{fs:Array Field}{j:Nat}{f:Field}{i:TypeInfo}(ht:P.underlying t=some (.struct fs))(hf:fs[j]? =some f)(hi:P.info? f.type=some i)(hz:i.size≠0)(b q:Nat)(w:World):(Instr.fieldAt t (.pointer (some ⟨b,q,none⟩)) j).run P w=.ok (.pointer (some ⟨b,q+f.offset,none⟩)) w:=by simp[Instr.fieldAt,jqa ht,hf,Instr.sureAddr,fieldPlace,dG hi,hz,kG]
def R8{t:TypeId}{x:Operand}{j:Nat}{fs:Array Field}{f:Field}{i:TypeInfo}(ho:o.op=.fieldAddr t x j)(ht:P.underlying t=some (.struct fs))(hf:fs[j]? =some f)(hi:P.info? f.type=some i)(hz:i.size≠0):OpV P K o (Mi f.offset (cOp K x)):=.pure λg st a w z st' _ m k e=>by
 unfold Mi at e;obtain⟨h1,e⟩:=ae e;obtain⟨h2,e⟩:=ae e;injection e with b h;have h2:=fF h2;simp only[nA,nM]at h2 b;obtain⟨blk,base,room,c,d,a3,a4,a5,l⟩:=(k x (by simp[ho,Op.operands])).ptr (ah h1);refine⟨h.symm,.pointer (some ⟨blk,base+po (rd st.T (cOp K x))+f.offset,none⟩),?_,?_⟩;·simp only[execOp,ho,d,qjm,IX ht hf hi hz,qjl];rfl
 ·have:z=dU (ps (rd st.T (cOp K x))) (pz (rd st.T (cOp K x))) (po (rd st.T (cOp K x))+f.offset):=by
   rw[<-b];conv=>lhs;rw[c]
   unfold dU;omega
  rw[this,jqu];exact .cell _ _ (.ptr _ _ _ blk base room a3 a4 a5 h2)
def ixN(w:Nat):Nat:=Nat.sub (Nat.div w 256) 9223372036854775808
def sP(w:Nat):Bool:=sel (Nat.beq (Nat.mod w 16) 2) (Nat.ble 9223372036854775808 (Nat.div w 256)) false
def TR.ixN{g:Gh}{R nR w:Nat}{v:Value}(h:TR g R nR w v)(hm:sP w=true):∃k,v=.int k (ixN w:Nat):=by unfold sP at hm;cases h1:Nat.beq (Nat.mod w 16) 2 with|false=>rw[h1]at hm;cases hm|true=>rw[h1,aj]at hm;have h3:=fF hm;rw[nD]at h3;obtain⟨k,hk⟩:=h.ix (ah h1) h3;exact⟨k,by rw[hk];unfold Ev.ixN;rw[nS,nD]⟩
def Kz(size:Nat)(x y:Opd)(st:St):RS:=sel (Nat.beq (Nat.mod (rd st.T x) 16) 7) (sel (sP (rd st.T y)) (sel (Nat.blt (ixN (rd st.T y)) (sl (rd st.T x))) (sel (Nat.beq (se (rd st.T x)) size)
  (.ok (Nat.add (Nat.sub (Nat.mod (rd st.T x) 4503599627370496) 2) (Nat.mul 4503599627370496 (Nat.add (so (rd st.T x)) (Nat.mul (ixN (rd st.T y)) size)))) st) .no) .no) .no) .no
def UQ{t e:TypeId}{i:TypeInfo}(ht:P.underlying t=some (.slice e))(hi:P.info? e=some i)(b q l c:Nat)(k:IntKind)(j:Nat)(hj:j<l)(w:World):(Instr.indexAt t (.slice (some ⟨b,q,none⟩) l c) (.int k (j:Int))).run P w=.ok (.pointer (some ⟨b,q+j*i.size,none⟩)) w:=by have h1:(0:Int)<=(j:Int)/\(j:Int)<(l:Int):=oqo;simp[Instr.indexAt,asIntOf,jqa ht,dG hi,kG,h1];intro hc;omega
def Xf{s z l e q k:Nat}(hs:s<16777216)(hz:z<16777216):bF s z l e q%4503599627370496-2+4503599627370496*k=dU s z k:=by unfold bF dU;omega
def PM{j l e:Nat}(h:j<l):j*e+e<=l*e:=by have:=jqo e (Nat.succ_le_of_lt h);rwa[Nat.succ_mul]at this
def QS{t e:TypeId}{x y:Operand}{i:TypeInfo}(ho:o.op=.indexAddr t x y)(ht:P.underlying t=some (.slice e))(hi:P.info? e=some i):OpV P K o (Kz i.size (cOp K x) (cOp K y)):=.pure λg st a w z st' _ r f e=>by
 unfold Kz at e;obtain⟨h1,e⟩:=ae e;obtain⟨h2,e⟩:=ae e;obtain⟨h3,e⟩:=ae e;obtain⟨c,e⟩:=ae e;injection e with b p;have h3:=aT h3;have c:=ah c;simp only[nA,nM,Ev.nS,Ev.nR]at b;obtain⟨blk,base,room,cap,ad,h,l,a3,a4,a5,m,n,q,a9,j⟩:=(f x (by simp[ho,Op.operands])).sli (ah h1);obtain⟨k,b2⟩:=(f y (by simp[ho,Op.operands])).ixN h2;obtain⟨rfl,s⟩:=j.resolve_left oqo;rw[h,Xf a3 a4]at b;rw[BZ a3 a4 a5 m]at b;have hm:=PM (e:=se (rd st.T (cOp K x))) h3;refine⟨p.symm,.pointer (some ⟨blk,base+so (rd st.T (cOp K x))+ixN (rd st.T (cOp K y))*i.size,none⟩),?_,?_⟩;·simp only[execOp,ho,l,b2,qjm,UQ ht hi _ _ _ _ k _ h3,qjl];rfl
 ·have d:so (rd st.T (cOp K x))+ixN (rd st.T (cOp K y))*se (rd st.T (cOp K x))<=pz (rd st.T (cOp K x)):=by omega
  rw[c]at d;rw[jqu];exact b▸TR.cell _ _ (VR.ptr _ _ _ blk base room a3 a4 n d)
def Ka(n size:Nat)(x y:Opd)(st:St):RS:=sel (Nat.beq (Nat.mod (rd st.T x) 16) 5) (sel (sP (rd st.T y)) (sel (Nat.blt (ixN (rd st.T y)) n) (sel (Nat.ble (Nat.add (po (rd st.T x)) (Nat.mul (ixN (rd st.T y)) size)) (pz (rd st.T x)))
  (.ok (Nat.add (rd st.T x) (Nat.mul 4503599627370496 (Nat.mul (ixN (rd st.T y)) size))) st) .no) .no) .no) .no
def U7{t e:TypeId}{n:Nat}{i:TypeInfo}(ht:P.underlying t=some (.array n e))(hi:P.info? e=some i)(b q:Nat)(k:IntKind)(j:Nat)(hj:j<n)(w:World):(Instr.indexAt t (.pointer (some ⟨b,q,none⟩)) (.int k (j:Int))).run P w=.ok (.pointer (some ⟨b,q+j*i.size,none⟩)) w:=by have h1:(0:Int)<=(j:Int)/\(j:Int)<(n:Int):=oqo;simp[Instr.indexAt,asIntOf,jqa ht,Instr.sureAddr,dG hi,kG,h1];intro hc;omega
def Ri{t e:TypeId}{x y:Operand}{n:Nat}{i:TypeInfo}(ho:o.op=.indexAddr t x y)(ht:P.underlying t=some (.array n e))(hi:P.info? e=some i):OpV P K o (Ka n i.size (cOp K x) (cOp K y)):=.pure λg st a w z st' _ m d e=>by
 unfold Ka at e;obtain⟨h1,e⟩:=ae e;obtain⟨h2,e⟩:=ae e;obtain⟨h3,e⟩:=ae e;obtain⟨b,e⟩:=ae e;injection e with c j;have h3:=aT h3;have b:=fF b;simp only[nA,nM]at c b;obtain⟨blk,base,room,f,h,a3,a4,a5,l⟩:=(d x (by simp[ho,Op.operands])).ptr (ah h1);obtain⟨k,b2⟩:=(d y (by simp[ho,Op.operands])).ixN h2;refine⟨j.symm,.pointer (some ⟨blk,base+po (rd st.T (cOp K x))+ixN (rd st.T (cOp K y))*i.size,none⟩),?_,?_⟩;·simp only[execOp,ho,h,b2,qjm,U7 ht hi _ _ k _ h3,qjl];rfl
 ·have:z=dU (ps (rd st.T (cOp K x))) (pz (rd st.T (cOp K x))) (po (rd st.T (cOp K x))+ixN (rd st.T (cOp K y))*i.size):=by
   rw[<-c];conv=>lhs;lhs;rw[f]
   unfold dU;generalize ixN (rd st.T (cOp K y))*i.size=q;omega
  rw[this,jqu];exact .cell _ _ (.ptr _ _ _ blk base room a3 a4 a5 b)
def Gu(x:Opd)(st:St):RS:=sel (Nat.beq (Nat.mod (rd st.T x) 16) 5) (sel (Nat.blt (po (rd st.T x)) (pz (rd st.T x))) (.ok (gt st.M (Nat.add (ps (rd st.T x)) (po (rd st.T x)))) st) .no) .no
def JX{t:TypeId}{x:Operand}{d:TypeDesc}(ho:o.op=.load t x)(ht:P.underlying t=some d)(hd:gU d=false):OpV P K o (Gu (cOp K x)):=.pure λg st a w z st' _ h i e=>by unfold Gu at e;obtain⟨h1,e⟩:=ae e;obtain⟨h2,e⟩:=ae e;injection e with b f;have h2:=aT h2;rw[nA]at b;obtain⟨blk,base,room,j,c,a3,a4,a5,k⟩:=(i x (by simp[ho,Op.operands])).ptr (ah h1);obtain⟨v,hv,hr⟩:=h.load a5 h2;refine⟨f.symm,v,?_,by rw[<-b];exact .cell _ _ hr⟩;simp[execOp,ho,c,Instr.loadAt,Instr.sureAddr,loadVar,rD ht,hd,hv]
def Ac(n:Nat)(x:Opd)(st:St):RS:=sel (Nat.beq (Nat.mod (rd st.T x) 16) 5) (sel (Nat.ble (Nat.add (po (rd st.T x)) n) (pz (rd st.T x))) (sel (Nat.blt st.nR 4294967296)
  (fc (ad st.R st.nR (ch st.M (Nat.add (ps (rd st.T x)) (po (rd st.T x))) n)) λR=>.ok (Nat.add (Nat.add 12 (Nat.mul 16 n)) (Nat.mul 268435456 st.nR)) (setR R (Nat.add st.nR n) st)) .no) .no) .no
def EP{t:TypeId}{x:Operand}{d:TypeDesc}{i:TypeInfo}(ho:o.op=.load t x)(ht:P.underlying t=some d)(hd:gU d=true)(hi:P.info? t=some i)(hn:i.size<16777216):OpV P K o (Ac i.size (cOp K x)):=λg st a w z st' _ b r e=>by
 unfold Ac at e;obtain⟨h1,e⟩:=ae e;obtain⟨h2,e⟩:=ae e;obtain⟨h3,e⟩:=ae e;rw[bX]at e;injection e with c h;have h2:=fF h2;have h3:=aT h3;simp only[nA,nM]at c h h2;obtain⟨blk,base,room,u,l,a3,a4,a5,y⟩:=(r x (by simp[ho,Op.operands])).ptr (ah h1);generalize po (rd st.T (cOp K x))=q at*;generalize ps (rd st.T (cOp K x))=s at*;generalize pz (rd st.T (cOp K x))=A at*;have k:∀j,j<i.size->∃v,w.cell? ⟨blk,base+q+j,none⟩=some v/\VR g (gt st.M (s+q+j)) v:=λj hj=>by have:=b.load (o:=q+j) a5 oqo;rwa[<-jqu,<-jqu]at this
 let f:Nat->Value:=λj=>(w.cell? ⟨blk,base+q+j,none⟩).getD undef;have hf:∀j,j<i.size->w.cell? (Addr.add ⟨blk,base+q,none⟩ j)=some (f j):=λj hj=>by obtain⟨v,hv,_⟩:=k j hj;rw[kG,hv];simp[f,hv]
 have p:=run_loadCells (P:=P) w ⟨blk,base+q,none⟩ i.size f hf;have n:=jT st.M (s+q) i.size;have m:=Ext.ad i.size (ch st.M (s+q) i.size) b.Rlt;subst h;refine⟨g,w,.agg ((List.range i.size).map f).toArray,.inl ?_,⟨b.frame _ _ (iJ b.Rlt n),Fr.refl _ _,m,?_,rfl,rfl⟩,λ_=>.inl rfl⟩;·simp[execOp,ho,l,Instr.loadAt,Instr.sureAddr,loadVar,rD ht,hd,dG hi,p]
 ·rw[<-c,show 12+16*i.size+268435456*st.nR=dY st.nR i.size from rfl];refine .agg _ _ _ hn h3 (qqf _) (by simp) λj hj=>?_;rw[dK _ _ b.Rlt,qzc oqo,show st.nR+j-st.nR=j by omega,jW,qzb hj];obtain⟨v,hv,hr⟩:=k j hj;have:(((List.range i.size).map f).toArray).getD j undef=v:=by simp[hj,f,hv]
  rw[this];exact hr
end
end Ev
namespace Ev
def fU(w:Nat):Bool:=sel (Nat.beq w 0) false (sel (Nat.ble (Nat.mod w 16) 11) true (Nat.beq (Nat.mod w 16) 15))
def TR.fU{g:Gh}{R nR w:Nat}{v:Value}(h:TR g R nR w v)(a:fU w=true):VR g w v:=by unfold Ev.fU at a;cases h0:Nat.beq w 0 with|true=>rw[h0]at a;cases a|false=>rw[h0,ag]at a;have h0:=gM h0;cases h1:Nat.ble (Nat.mod w 16) 11 with|true=>have h1:=fF h1;rw[Ev.nR]at h1;exact h.aM oqo oqo oqo h0|false=>rw[h1,ag]at a;have a:=ah a;rw[Ev.nR]at a;exact h.aM oqo oqo oqo h0
def cells_one{v:Value}(h:v.oneCell'=true):v.cells=#[v]:=by cases v<;>first|rfl|cases h
def dZ(ws:List Nat):Nat:=ws.foldr (λw n=>w+340282366920938463463374607431768211456*n) 0
def O4(M i:Nat):gt M i=M/2^(128*i)%2^128:=by show(M>>>(128*i))&&&(2^128-1)=_;rw[Nat.and_two_pow_sub_one_eq_mod,Nat.shiftRight_eq_div_pow]
def VS{w n i:Nat}(hw:w<2^128):gt (w+2^128*n) i=if i=0 then w else gt n (i-1):=by rw[O4];cases i with|zero=>rw[qzb rfl,Nat.mul_zero,Nat.pow_zero,Nat.div_one,Nat.add_mul_mod_self_left,qje hw]|succ i=>rw[qzc oqo,Nat.add_sub_cancel,O4,show 128*(i+1)=128+128*i by omega,Nat.pow_add,<-Nat.div_div_eq_div_mul,Nat.add_mul_div_left _ _ (Nat.two_pow_pos 128),Nat.div_eq_of_lt hw,qja]
def gQ:∀(ws:List Nat)(i:Nat),(∀w∈ws,w<2^128)->gt (dZ ws) i=ws.getD i 0|[],i,_=>by rw[show dZ []=0 from rfl,xV];rfl|w::ws,i,h=>by have e:dZ (w::ws)=w+2^128*dZ ws:=rfl;rw[e,VS (h w (by simp))];cases i with|zero=>rfl|succ i=>rw[qzc oqo,Nat.add_sub_cancel,gQ ws i (λx a=>h x (by simp[a]))];rfl
def mF:∀(ws:List Nat),(∀w∈ws,w<2^128)->dZ ws<2^(128*ws.length)|[],_=>by rw[show dZ []=0 from rfl];exact Nat.two_pow_pos _|w::ws,h=>by have e:dZ (w::ws)=w+2^128*dZ ws:=rfl;have ih:=mF ws (λx a=>h x (by simp[a]));have hw:=h w (by simp);rw[e,qzv,show 128*(ws.length+1)=128+128*ws.length by omega,Nat.pow_add];calc w+2^128*dZ ws<2^128+2^128*dZ ws:=Nat.add_lt_add_right hw _
   _=2^128*(dZ ws+1):=by rw[Nat.mul_succ,Nat.add_comm]
   _<=_:=Nat.mul_le_mul_left _ ih
def bV(K:Kon)(l:List Value):Nat:=dZ (l.map (cV K))
def eD(K:Kon)(l:List Value):Bool:=l.all λv=>fU (cV K v)
def jJ{K:Kon}{g:Gh}(h:K.In g){l:List Value}(a:eD K l=true):bV K l<2^(128*l.length)/\∀i,i<l.length->VR g (gt (bV K l) i) (l.getD i undef):=by
 have hv:∀v∈l,VR g (cV K v) v:=λv hv=>(Ef h 0 0 v).fU (qqw.1 a v hv);have hw:∀w∈l.map (cV K),w<2^128:=λw hw=>by obtain⟨v,hm,rfl⟩:=qjb.1 hw;exact(hv v hm).lt
 refine⟨by have:=mF _ hw;rwa[qqv]at this,λi hi=>?_⟩;rw[bV,gQ _ _ hw,qqm,qqm,qqp,qqh hi];exact hv _ (jxr hi)
section
variable {P:Program}{K:Kon}{o:Oper}
def TQ(x y:Opd)(st:St):RS:=sel (Nat.beq (Nat.mod (rd st.T x) 16) 5) (sel (Nat.blt (po (rd st.T x)) (pz (rd st.T x))) (sel (Nat.beq (gt st.M (ps (rd st.T x))) 0) .no (sel (fU (rd st.T y))
  (fc (up st.M (Nat.add (ps (rd st.T x)) (po (rd st.T x))) 1 (rd st.T y)) λM=>.ok 0 (setM M st.nM st)) .no)) .no) .no
def VY{t:TypeId}{x y:Operand}{i:TypeInfo}(ho:o.op=.store t x y)(hi:P.info? t=some i)(j:i.size=1):OpV P K o (TQ (cOp K x) (cOp K y)):=λg st a w z st' _ l d e=>by unfold TQ at e;obtain⟨h1,e⟩:=ae e;obtain⟨h2,e⟩:=ae e;obtain⟨h3,e⟩:=oQ e;obtain⟨k,e⟩:=ae e;rw[bX]at e;injection e with h b;have h2:=aT h2;have h3:=gM h3;rw[nA]at b;obtain⟨blk,base,room,s,f,a3,a4,a5,u⟩:=(d x (by simp[ho,Op.operands])).ptr (ah h1);have hv:=(d y (by simp[ho,Op.operands])).fU k;have c:=hv.lt;obtain⟨w',m,p,r⟩:=l.store P (o:=po (rd st.T (cOp K x))) (n:=1) (cw:=rd st.T (cOp K y)) a5 ⟨0,by omega,by rw[qzz];exact h3⟩ oqo c [a.eval y] rfl (λi hi=>by have:i=0:=oqo;subst this;rw[gP _ c,qzb rfl];exact hv);have hc:=cells_one hv.one;subst b;refine⟨g,w',undef,.inr ⟨?_,rfl⟩,⟨p,r,Ext.refl _ _,by rw[<-h];exact .unk _,rfl,rfl⟩,λq=>absurd q (by simp[ho,dC])⟩;simp[execOp,ho,f,Instr.storeAt,Instr.sureAddr,storeVar,hc,dG hi,j,m]
def TR.agg'{g:Gh}{R nR w:Nat}{v:Value}(h:TR g R nR w v)(hm:w%16=12):∃vs,w=dY (sa w) (ln w)/\v=.agg vs/\ln w<16777216/\sa w<4294967296/\sa w+ln w<=nR/\vs.size=ln w/\ ∀i,i<ln w->VR g (gt R (sa w+i)) (vs.getD i undef):=by
 obtain⟨st,n,vs,rfl,e,h1,h2,h3,c,d⟩:=h.Cx hm;have a:ln (dY st n)=n:=by show dY st n/16%16777216=n;unfold dY;omega
 have b:sa (dY st n)=st:=by show dY st n/268435456=st;unfold dY;omega
 rw[a,b];exact⟨vs,rfl,e,h1,h2,h3,c,d⟩
def LP(n:Nat)(x y:Opd)(st:St):RS:=sel (Nat.beq (Nat.mod (rd st.T x) 16) 5) (sel (Nat.ble (Nat.add (po (rd st.T x)) n) (pz (rd st.T x))) (sel (Nat.beq (gt st.M (ps (rd st.T x))) 0) .no
  (sel (Nat.beq (Nat.mod (rd st.T y) 16) 12) (sel (Nat.beq (ln (rd st.T y)) n)
   (fc (up st.M (Nat.add (ps (rd st.T x)) (po (rd st.T x))) n (ch st.R (sa (rd st.T y)) n)) λM=>.ok 0 (setM M st.nM st)) .no) .no)) .no) .no
def Qe{t:TypeId}{x y:Operand}{i:TypeInfo}(ho:o.op=.store t x y)(hi:P.info? t=some i)(h0:0<i.size):OpV P K o (LP i.size (cOp K x) (cOp K y)):=λg st a w z st' _ p f e=>by
 unfold LP at e;obtain⟨h1,e⟩:=ae e;obtain⟨h2,e⟩:=ae e;obtain⟨h3,e⟩:=oQ e;obtain⟨m,e⟩:=ae e;obtain⟨b,e⟩:=ae e;rw[bX]at e;injection e with l d;have h2:=fF h2;have h3:=gM h3;have b:=ah b;rw[nA]at d h2;obtain⟨blk,base,room,v,h,a3,a4,a5,A⟩:=(f x (by simp[ho,Op.operands])).ptr (ah h1);obtain⟨vs,b1,b2,B,C,D,c,k⟩:=(f y (by simp[ho,Op.operands])).agg' (ah m);obtain⟨w',r,s,u⟩:=p.store P (o:=po (rd st.T (cOp K x))) (n:=i.size) (cw:=ch st.R (sa (rd st.T (cOp K y))) i.size) a5 ⟨0,by omega,by rw[qzz];exact h3⟩ h2 (jT _ _ _) vs.toList
  (by rw[jql,c,b]) (λj hj=>by rw[jW,qzb hj,qqm,qjf,<-qqg];exact k j oqo);subst d;refine⟨g,w',undef,.inr ⟨?_,rfl⟩,⟨s,u,Ext.refl _ _,by rw[<-l];exact .unk _,rfl,rfl⟩,λq=>absurd q (by simp[ho,dC])⟩;simp[execOp,ho,h,b2,Instr.storeAt,Instr.sureAddr,storeVar,Value.cells,dG hi,c,b,r]
def uE(n cw:Nat)(st:St):RS:=sel (Nat.blt st.nM 16777216) (fc (ad st.M st.nM cw) λM=>.ok (Nat.add (Nat.add 5 (Nat.mul 16 st.nM)) (Nat.mul 268435456 n)) (setM M (Nat.add (Nat.add st.nM n) 1) st)) .no
def uD{g:Gh}{st:St}{w:World}(f:HR g st w){c:Array Value}{t:TypeId}{cw z:Nat}{st':St}(hn:c.size<16777216)(d:cw<2^(128*c.size))(hv:∀i,i<c.size->VR g (gt cw i) (c.getD i undef))(e:uE c.size cw st=.ok z st'):∃g' w' v,(newVar t (.agg c)).run P w=.ok v w'/\Post g st w g' st' w' z (.pointer (some v)):=by
 unfold uE at e;obtain⟨h1,e⟩:=ae e;rw[bX]at e;injection e with a b;have h1:=aT h1;simp only[nA,nM]at a b;obtain⟨h,j⟩:=f.alloc c t (0,0) (qqf _) d hv (λi hi=>(hv i hi).one) (.inl rfl);subst b;refine⟨_,_,⟨w.heap.size,0,none⟩,?_,⟨h,j,Ext.refl _ _,?_,rfl,rfl⟩⟩;·simp[newVar,newRow,Value.cells]
 ·have:z=dU st.nM c.size 0:=by rw[<-a];rfl
  rw[this];exact .cell _ _ (.ptr st.nM c.size 0 w.heap.size 0 c.size h1 hn (by rw[Gh.bK,qzb rfl]) (qqy _))
def WJ{t:TypeId}{i:TypeInfo}{z:Value}(ho:o.op=.alloc t)(hi:P.info? t=some i)(hz:i.zero=some z)(b:eD K z.cells.toList=true)(hn:z.cells.size<16777216):OpV P K o (uE z.cells.size (bV K z.cells.toList)):=λg st a w x st' hk d k e=>by obtain⟨c1,c2⟩:=jJ hk b;obtain⟨g',w',v,f,j⟩:=uD (P:=P) d (c:=z.cells) (t:=t) hn (by rwa[jql]at c1) (λi hi=>by have:=c2 i (by rwa[jql]);rwa[qqm,qjf,<-qqg]at this) e;refine⟨g',w',_,.inl ?_,j,λq=>absurd q (by simp[ho,dC])⟩;have h:(newVar t z).run P w=.ok v w':=f;simp[execOp,ho,Instr.alloc,zeroValue,kr hi,hz,h]
def Sr(x:Opd)(st:St):RS:=sel (fU (rd st.T x)) (uE 1 (rd st.T x) st) .no
def Vn{t:TypeId}{x:Operand}(ho:o.op=.box t x):OpV P K o (Sr (cOp K x)):=λg st a w z st' hk b d e=>by
 unfold Sr at e;obtain⟨h1,e⟩:=ae e;have hv:=(d x (by simp[ho,Op.operands])).fU h1;have hc:=cells_one hv.one;obtain⟨g',w',v,f,j⟩:=uD (P:=P) b (c:=#[a.eval x]) (t:=t) (by simp) (by simpa using hv.lt) (λi hi=>by
  have:i=0:=by simpa using hi
  subst this;rw[gP _ hv.lt,qzb rfl];exact hv) e;refine⟨g',w',_,.inl ?_,j,λq=>absurd q (by simp[ho,dC])⟩;have h:(newVar t (a.eval x)).run P w=.ok v w':=by unfold newVar at*;rw[hc];exact f
 simp[execOp,ho,Instr.box,h]
def KW(x:Opd)(st:St):RS:=sel (Nat.beq (Nat.mod (rd st.T x) 16) 12) (uE (ln (rd st.T x)) (ch st.R (sa (rd st.T x)) (ln (rd st.T x))) st) .no
def Sb{t:TypeId}{x:Operand}(ho:o.op=.box t x):OpV P K o (KW (cOp K x)):=λg st a w z st' hk h j e=>by unfold KW at e;obtain⟨h1,e⟩:=ae e;obtain⟨vs,b1,b2,b,m,n,f,d⟩:=(j x (by simp[ho,Op.operands])).agg' (ah h1);rw[<-f]at e b d;obtain⟨g',w',v,k,l⟩:=uD (P:=P) h (c:=vs) (t:=t) b (jT _ _ _) (λi hi=>by rw[jW,qzb hi];exact d i hi) e;refine⟨g',w',_,.inl ?_,l,λq=>absurd q (by simp[ho,dC])⟩;simp[execOp,ho,b2,Instr.box,k]
def zD{vs:Array Value}{j:Nat}(hj:j<vs.size):vs[j]? =some (vs.getD j undef):=by rw[jqi hj,qqg,jqi hj];rfl
def QQ(j:Nat)(x:Opd)(st:St):RS:=sel (Nat.beq (Nat.mod (rd st.T x) 16) 13) (sel (Nat.blt j (ln (rd st.T x))) (.ok (gt st.R (Nat.add (sa (rd st.T x)) j)) st) .no) .no
def TR.aaG{g:Gh}{R nR w:Nat}{v:Value}(h:TR g R nR w v)(hm:w%16=13):∃vs,w=fJ (sa w) (ln w)/\v=.tuple vs/\ln w<16777216/\sa w<4294967296/\sa w+ln w<=nR/\vs.size=ln w/\ ∀i,i<ln w->TR g R nR (gt R (sa w+i)) (vs.getD i undef):=by
 obtain⟨st,n,vs,rfl,e,h1,h2,h3,c,d⟩:=h.um hm;have a:ln (fJ st n)=n:=by show fJ st n/16%16777216=n;unfold fJ;omega
 have b:sa (fJ st n)=st:=by show fJ st n/268435456=st;unfold fJ;omega
 rw[a,b];exact⟨vs,rfl,e,h1,h2,h3,c,d⟩
def WM{x:Operand}{j:Nat}(ho:o.op=.extract x j):OpV P K o (QQ j (cOp K x)):=.pure λg st a w z st' _ m f e=>by unfold QQ at e;obtain⟨h1,e⟩:=ae e;obtain⟨h2,e⟩:=ae e;injection e with b d;have h2:=aT h2;rw[nA]at b;obtain⟨vs,b1,b2,h,i,k,l,c⟩:=(f x (by simp[ho,Op.operands])).aaG (ah h1);refine⟨d.symm,vs.getD j undef,?_,by rw[<-b];exact c j h2⟩;have hj:j<vs.size:=oqo;have:=zD hj;generalize vs.getD j undef=u at*;simp[execOp,ho,b2,Instr.extract,this]
def TY(off:Nat)(x:Opd)(st:St):RS:=sel (Nat.beq (Nat.mod (rd st.T x) 16) 12) (sel (Nat.blt off (ln (rd st.T x))) (.ok (gt st.R (Nat.add (sa (rd st.T x)) off)) st) .no) .no
def SL(off n:Nat)(x:Opd)(st:St):RS:=sel (Nat.beq (Nat.mod (rd st.T x) 16) 12) (sel (Nat.ble (Nat.add off n) (ln (rd st.T x))) (sel (Nat.blt (Nat.add (sa (rd st.T x)) off) 4294967296) (.ok (Nat.add (Nat.add 12 (Nat.mul 16 n)) (Nat.mul 268435456 (Nat.add (sa (rd st.T x)) off))) st) .no) .no) .no
def rV{t:TypeId}{d:TypeDesc}(ht:P.underlying t=some d)(hd:gU d=false){vs:Array Value}{off:Nat}(h:off<vs.size)(w:World):(part t vs off).run P w=.ok (vs.getD off undef) w:=by have:=zD h;generalize vs.getD off undef=u at*;simp[part,rD ht,hd,this]
def Gx{t:TypeId}{d:TypeDesc}{i:TypeInfo}(ht:P.underlying t=some d)(hd:gU d=true)(hi:P.info? t=some i)(vs:Array Value)(off:Nat)(w:World):(part t vs off).run P w=.ok (.agg (vs.extract off (off+i.size))) w:=by simp[part,rD ht,hd,dG hi]
def TR.view{g:Gh}{R nR s n m off:Nat}{vs:Array Value}(hm:m<16777216)(hs:s+off<4294967296)(a:s+n<=nR)(hv:vs.size=n)(ho:off+m<=n)(h:∀i,i<n->VR g (gt R (s+i)) (vs.getD i undef)):TR g R nR (dY (s+off) m) (.agg (vs.extract off (off+m))):=by
 refine .agg _ _ _ hm hs oqo (by simp;omega) λi hi=>?_;have:=h (off+i) oqo;rw[<-jqu]at this;have e:(vs.extract off (off+m)).getD i undef=vs.getD (off+i) undef:=by rw[qqg,qqg,Array.getElem?_extract,qzb oqo]
 rw[e];exact this
def VL{t:TypeId}{x:Operand}{j:Nat}{fs:Array Field}{f:Field}{d:TypeDesc}(ho:o.op=.field t x j)(ht:P.underlying t=some (.struct fs))(hf:fs[j]? =some f)(hu:P.underlying f.type=some d)(hd:gU d=false):OpV P K o (TY f.offset (cOp K x)):=.pure λg st a w z st' _ p i e=>by unfold TY at e;obtain⟨h1,e⟩:=ae e;obtain⟨h2,e⟩:=ae e;injection e with b h;have h2:=aT h2;rw[nA]at b;obtain⟨vs,b1,b2,k,l,m,n,c⟩:=(i x (by simp[ho,Op.operands])).agg' (ah h1);refine⟨h.symm,vs.getD f.offset undef,?_,by rw[<-b];exact .cell _ _ (c _ h2)⟩;simp[execOp,ho,b2,Instr.field,jqa ht,hf,asAgg,rV hu hd (show f.offset<vs.size by omega)]
def WV{t:TypeId}{x:Operand}{j:Nat}{fs:Array Field}{f:Field}{d:TypeDesc}{i:TypeInfo}(ho:o.op=.field t x j)(ht:P.underlying t=some (.struct fs))(hf:fs[j]? =some f)(hu:P.underlying f.type=some d)(hd:gU d=true)(hi:P.info? f.type=some i)(hn:i.size<16777216):OpV P K o (SL f.offset i.size (cOp K x)):=.pure λg st a w z st' _ q m e=>by
 unfold SL at e;obtain⟨h1,e⟩:=ae e;obtain⟨h2,e⟩:=ae e;obtain⟨h3,e⟩:=ae e;injection e with b l;have h2:=fF h2;have h3:=aT h3;simp only[nA,nM]at b h2 h3;obtain⟨vs,b1,b2,n,p,c,h,k⟩:=(m x (by simp[ho,Op.operands])).agg' (ah h1);refine⟨l.symm,.agg (vs.extract f.offset (f.offset+i.size)),?_,?_⟩;·simp[execOp,ho,b2,Instr.field,jqa ht,hf,asAgg,Gx hu hd hi]
 ·have:z=dY (sa (rd st.T (cOp K x))+f.offset) i.size:=by rw[<-b];rfl
  rw[this];exact TR.view hn h3 c h h2 k
def Tj(n size:Nat)(x y:Opd)(st:St):RS:=sel (Nat.beq (Nat.mod (rd st.T x) 16) 12) (sel (sP (rd st.T y)) (sel (Nat.blt (ixN (rd st.T y)) n) (sel (Nat.blt (Nat.mul (ixN (rd st.T y)) size) (ln (rd st.T x)))
  (.ok (gt st.R (Nat.add (sa (rd st.T x)) (Nat.mul (ixN (rd st.T y)) size))) st) .no) .no) .no) .no
def Uj(n size:Nat)(x y:Opd)(st:St):RS:=sel (Nat.beq (Nat.mod (rd st.T x) 16) 12) (sel (sP (rd st.T y)) (sel (Nat.blt (ixN (rd st.T y)) n) (sel (Nat.ble (Nat.add (Nat.mul (ixN (rd st.T y)) size) size) (ln (rd st.T x))) (sel (Nat.blt (Nat.add (sa (rd st.T x)) (Nat.mul (ixN (rd st.T y)) size)) 4294967296)
  (.ok (Nat.add (Nat.add 12 (Nat.mul 16 size)) (Nat.mul 268435456 (Nat.add (sa (rd st.T x)) (Nat.mul (ixN (rd st.T y)) size)))) st) .no) .no) .no) .no) .no
def CS{t e:TypeId}{n:Nat}{i:TypeInfo}(ht:P.underlying t=some (.array n e))(hi:P.info? e=some i)(cs:Array Value)(k:IntKind)(j:Nat)(hj:j<n)(w:World){v:Value}(h:(part e cs (j*i.size)).run P w=.ok v w):(Instr.index t (.agg cs) (.int k (j:Int))).run P w=.ok v w:=by have h1:(0:Int)<=(j:Int)/\(j:Int)<(n:Int):=oqo;simp[Instr.index,asIntOf,jqa ht,dG hi,h];intro hc;omega
def VV{t e:TypeId}{x y:Operand}{n:Nat}{i:TypeInfo}{d:TypeDesc}(ho:o.op=.index t x y)(ht:P.underlying t=some (.array n e))(hi:P.info? e=some i)(hu:P.underlying e=some d)(hd:gU d=false):OpV P K o (Tj n i.size (cOp K x) (cOp K y)):=.pure λg st a w z st' _ r f e=>by unfold Tj at e;obtain⟨h1,e⟩:=ae e;obtain⟨h2,e⟩:=ae e;obtain⟨h3,e⟩:=ae e;obtain⟨b,e⟩:=ae e;injection e with c l;have h3:=aT h3;have b:=aT b;simp only[nA,nM]at c b;obtain⟨vs,b1,b2,m,p,q,h,j⟩:=(f x (by simp[ho,Op.operands])).agg' (ah h1);obtain⟨k,c2⟩:=(f y (by simp[ho,Op.operands])).ixN h2;refine⟨l.symm,vs.getD (ixN (rd st.T (cOp K y))*i.size) undef,?_,by rw[<-c];exact .cell _ _ (j _ b)⟩;have:=CS ht hi vs k _ h3 w (rV hu hd (show _<vs.size by rw[h];exact b) w);simp only[execOp,ho,b2,c2,qjm,this,qjl];rfl
def WY{t e:TypeId}{x y:Operand}{n:Nat}{i:TypeInfo}{d:TypeDesc}(ho:o.op=.index t x y)(ht:P.underlying t=some (.array n e))(hi:P.info? e=some i)(hu:P.underlying e=some d)(hd:gU d=true)(hn:i.size<16777216):OpV P K o (Uj n i.size (cOp K x) (cOp K y)):=.pure λg st a w z st' _ s h e=>by
 unfold Uj at e;obtain⟨h1,e⟩:=ae e;obtain⟨h2,e⟩:=ae e;obtain⟨h3,e⟩:=ae e;obtain⟨b,e⟩:=ae e;obtain⟨c,e⟩:=ae e;injection e with f p;have h3:=aT h3;have b:=fF b;have c:=aT c;simp only[nA,nM]at f b c;obtain⟨vs,b1,b2,q,r,j,l,m⟩:=(h x (by simp[ho,Op.operands])).agg' (ah h1);obtain⟨k,c2⟩:=(h y (by simp[ho,Op.operands])).ixN h2;refine⟨p.symm,.agg (vs.extract (ixN (rd st.T (cOp K y))*i.size) (ixN (rd st.T (cOp K y))*i.size+i.size)),?_,?_⟩;·have:=CS ht hi vs k _ h3 w (Gx hu hd hi vs _ w);simp only[execOp,ho,b2,c2,qjm,this,qjl];rfl
 ·have:z=dY (sa (rd st.T (cOp K x))+ixN (rd st.T (cOp K y))*i.size) i.size:=by rw[<-f];rfl
  rw[this];exact TR.view hn c j l b m
def K9(x:Opd)(st:St):RS:=sel (Nat.beq (Nat.mod (rd st.T x) 16) 5) (.ok (rd st.T x) st) (sel (Nat.beq (Nat.mod (rd st.T x) 16) 10) (.ok (rd st.T x) st) (sel (Nat.beq (Nat.mod (rd st.T x) 16) 15) (.ok (rd st.T x) st) .no))
def Tw{x:Operand}(ho:o.op=.nilCheck x):OpV P K o (K9 (cOp K x)):=.pure λg st a w z st' _ p j e=>by unfold K9 at e;have b:=j x (by simp[ho,Op.operands]);cases h1:Nat.beq (Nat.mod (rd st.T (cOp K x)) 16) 5 with|true=>rw[h1,aj]at e;injection e with d h;obtain⟨blk,base,room,i,c,_⟩:=b.ptr (ah h1);exact⟨h.symm,a.eval x,by simp[execOp,ho,c],by rw[<-d];exact b⟩|false=>rw[h1,ag]at e;cases h2:Nat.beq (Nat.mod (rd st.T (cOp K x)) 16) 10 with|true=>rw[h2,aj]at e;injection e with d h;have h2:rd st.T (cOp K x)%16=10:=ah h2;obtain⟨f,m,n,s,ws,l,k,i,c,_⟩:=(b.aM oqo oqo oqo oqo).om h2;exact⟨h.symm,a.eval x,by simp[execOp,ho,c],by rw[<-d];exact b⟩|false=>rw[h2,ag]at e;obtain⟨h3,e⟩:=ae e;injection e with d h;have h3:rd st.T (cOp K x)%16=15:=ah h3;obtain⟨f,i,c,_⟩:=(b.aM oqo oqo oqo oqo).tq h3;exact⟨h.symm,a.eval x,by simp[execOp,ho,c],by rw[<-d];exact b⟩
def rds(T:Nat)(l:List Opd):List Nat:=l.map (rd T)
def RH(f m n:Nat)(l:List Opd)(st:St):RS:=sel (l.all λx=>fU (rd st.T x)) (sel (Nat.blt st.nM 16777216) (fc (ad st.M st.nM (dZ (rds st.T l))) λM=> .ok (Nat.add (Nat.add (Nat.add (Nat.add 10 (Nat.mul 16 f)) (Nat.mul 1048576 m)) (Nat.mul 268435456 n)) (Nat.mul 68719476736 st.nM)) (setM M (Nat.add (Nat.add st.nM (Nat.add m n)) 1) st)) .no) .no
def yN(T:Nat)(l:List Opd)(i:Nat)(h:i<l.length):(rds T l).getD i 0=rd T l[i]:=by simp[rds,qqm,qqh h]
def WX{f:Nat}{first b:Array Operand}(ho:o.op=.makeFunc (.func f) first b)(hf:f<65536)(hm:first.size<256)(hn:b.size<256):OpV P K o (RH f first.size b.size (first.toList.map (cOp K)++b.toList.map (cOp K))):=λg st a w z st' hk m n e=>by
 unfold RH at e;obtain⟨h1,e⟩:=ae e;obtain⟨h2,e⟩:=ae e;rw[bX]at e;injection e with h j;have h2:=aT h2;simp only[nA,nM]at h j;rw[qqw]at h1;have k:(rds st.T (first.toList.map (cOp K)++b.toList.map (cOp K))).length=first.size+b.size:=by simp[rds]
 have hv:∀x,x∈first\/x∈b->VR g (rd st.T (cOp K x)) (a.eval x):=λx c=>(n x (by simpa [ho,Op.operands]using c)).fU (h1 _ (by
  rcases c with c|c;·exact qzu.2 (.inl (qjb.2 ⟨x,by simpa using c,rfl⟩))
  ·exact qzu.2 (.inr (qjb.2 ⟨x,by simpa using c,rfl⟩))));have hw:∀w∈rds st.T (first.toList.map (cOp K)++b.toList.map (cOp K)),w<2^128:=λw hm'=>by
  simp only[rds,jzy,qzx,qzu,qjb,Function.comp]at hm';rcases hm' with⟨x,c,rfl⟩|⟨x,c,rfl⟩;·exact(hv x (.inl (by simpa using c))).lt
  ·exact(hv x (.inr (by simpa using c))).lt
 obtain⟨l,d⟩:=m.row _ (mF _ hw) (λi hi=>gQ _ i hw);rw[k]at l;subst j;refine⟨_,w,.func (.func f) (first.map a.eval) (b.map a.eval),.inl ?_,⟨l,d,Ext.refl _ _,?_,rfl,rfl⟩,λ_=>.inl rfl⟩;·simp[execOp,ho,Instr.makeFunc]
 ·have:z=fe f first.size b.size st.nM:=by rw[<-h];rfl
  rw[this];refine .cell _ _ (.func f _ _ st.nM _ _ _ hf hm hn h2 (by rw[Gh.bK,qzb rfl]) (by simp) (by simp) k (λi hi=>?_) (λi hi=>?_))
  ·refine VR.mono d.le ?_;rw[yN _ _ _ (by simp;omega),List.getElem_append_left (by simpa using hi),jjl];have e:(first.map a.eval).getD i undef=a.eval first[i]:=by simp[qqg,hi]
   rw[e,Array.getElem_toList];exact hv _ (.inl (Array.getElem_mem hi))
  ·refine VR.mono d.le ?_;rw[yN _ _ _ (by simp;omega),List.getElem_append_right (by simp),jjl];have e:(b.map a.eval).getD i undef=a.eval b[i]:=by simp[qqg,hi]
   rw[e];simp only[qqv,jql,Nat.add_sub_cancel_left,Array.getElem_toList];exact hv _ (.inr (Array.getElem_mem hi))
def Rp(t:Nat)(x:Opd)(st:St):RS:=sel (fU (rd st.T x)) (sel (Nat.blt st.nM 16777216) (fc (ad st.M st.nM (dZ [rd st.T x])) λM=>.ok (Nat.add (Nat.add 11 (Nat.mul 16 t)) (Nat.mul 68719476736 st.nM)) (setM M (Nat.add (Nat.add st.nM 1) 1) st)) .no) .no
def Vy{t:TypeId}{x:Operand}{d:TypeDesc}(ho:o.op=.makeInterface t x)(ht:P.underlying t=some d)(hd:∀ms,d≠.interface ms)(hl:t<1048576):OpV P K o (Rp t (cOp K x)):=λg st a w z st' hk h j e=>by
 unfold Rp at e;obtain⟨h1,e⟩:=ae e;obtain⟨h2,e⟩:=ae e;rw[bX]at e;injection e with b c;have h2:=aT h2;simp only[nA,nM]at b c;have hv:=(j x (by simp[ho,Op.operands])).fU h1;have h0:rd st.T (cOp K x)≠0:=λhc=>by rw[hc]at h1;exact absurd h1 (by decide)
 have hw:∀w∈[rd st.T (cOp K x)],w<2^128:=λw hm=>by rw[jzm]at hm;subst hm;exact hv.lt
 obtain⟨k,f⟩:=h.row _ (mF _ hw) (λi hi=>gQ _ i hw);subst c;refine⟨_,w,.iface t (a.eval x),.inl ?_,⟨k,f,Ext.refl _ _,?_,rfl,rfl⟩,λ_=>.inl rfl⟩;·cases d<;>first|(exact absurd rfl (hd _))|simp[execOp,ho,Instr.makeInterface,jqa ht]
 ·have:z=jb t st.nM:=by rw[<-b];rfl
  rw[this];exact .cell _ _ (.ifc t st.nM _ _ hl h2 (by rw[Gh.bK,qzb rfl]) (hv.mono f.le) h0)
end
end Ev
namespace Ev
structure Prt where
 off:Nat
 n:Nat
 x:Opd
def kF(T R:Nat):List Prt->Nat->Option Nat:=λl=>List.rec (λc=>some c) (λp _ ih c=>sel (Nat.beq p.n 0) (sel (fU (rd T p.x)) (fc (up c p.off 1 (rd T p.x)) ih) none)
  (sel (Nat.beq (Nat.mod (rd T p.x) 16) 12) (sel (Nat.beq (ln (rd T p.x)) p.n) (fc (up c p.off p.n (ch R (sa (rd T p.x)) p.n)) ih) none) none)) l
def CK(T R c:Nat):kF T R [] c=some c:=rfl
def Bg(T R:Nat)(p:Prt)(l:List Prt)(c:Nat):kF T R (p::l) c=sel (Nat.beq p.n 0) (sel (fU (rd T p.x)) (kF T R l (up c p.off 1 (rd T p.x))) none)
  (sel (Nat.beq (Nat.mod (rd T p.x) 16) 12) (sel (Nat.beq (ln (rd T p.x)) p.n) (kF T R l (up c p.off p.n (ch R (sa (rd T p.x)) p.n))) none) none):=by
 have:kF T R (p::l) c=sel (Nat.beq p.n 0) (sel (fU (rd T p.x)) (fc (up c p.off 1 (rd T p.x)) (kF T R l)) none)
  (sel (Nat.beq (Nat.mod (rd T p.x) 16) 12) (sel (Nat.beq (ln (rd T p.x)) p.n) (fc (up c p.off p.n (ch R (sa (rd T p.x)) p.n)) (kF T R l)) none) none):=rfl;rw[this,bX,bX]
def Fa:∀(l:List Value)(k off:Nat)(cs:Array Value),off+k+l.length<=cs.size->((l.zipIdx k).foldl (λcs(c,j)=>cs.setIfInBounds (off+j) c) cs).size=cs.size/\ ∀i,((l.zipIdx k).foldl (λcs(c,j)=>cs.setIfInBounds (off+j) c) cs).getD i undef=if off+k<=i/\i<off+k+l.length then l.getD (i-(off+k)) undef else cs.getD i undef
 |[],k,off,cs,h=>⟨rfl,λi=>by rw[qzc (by rintro⟨h1,h2⟩;simp at h2;omega)];rfl⟩|v::l,k,off,cs,h=>by
  simp only[qzv]at h;obtain⟨h1,h2⟩:=Fa l (k+1) off (cs.setIfInBounds (off+k) v) (by simp;omega);rw[List.zipIdx_cons,List.foldl_cons];refine⟨by rw[h1];simp,λi=>?_⟩;rw[h2];by_cases hi:i=off+k;·subst hi;rw[qzc oqo,qzb (by simp),jzg];simp[qqg,show off+k<cs.size by omega]
  ·by_cases hj:off+(k+1)<=i/\i<off+(k+1)+l.length;·rw[qzb hj,qzb (by simp;omega),show i-(off+k)=(i-(off+(k+1)))+1 by omega];rfl
   ·rw[qzc hj,qzc (by simp;omega)];simp[qqg,Ne.symm hi]
def Un(v:Array Value)(off:Nat)(cs:Array Value)(h:off+v.size<=cs.size):(v.zipIdx.foldl (λcs(c,j)=>cs.setIfInBounds (off+j) c) cs).size=cs.size/\ ∀i,(v.zipIdx.foldl (λcs(c,j)=>cs.setIfInBounds (off+j) c) cs).getD i undef=if off<=i/\i<off+v.size then v.getD (i-off) undef else cs.getD i undef:=by have:=Fa v.toList 0 off cs (by simpa using h);rw[<-Array.foldl_toList,Array.toList_zipIdx];refine⟨this.1,λi=>?_⟩;rw[this.2 i];simp only[qzz,jql,qqm,qjf,qqg]
def Lt(K:Kon)(a:Nat->Option (Nat×Nat×Bool))(c:Nat)(x:Nat×Operand):Option Prt:=match a x.1 with|some (off,sz,b)=>if off+sz<=c then(if b=true then(if 0<sz then some ⟨off,sz,cOp K x.2⟩else none)else if sz=1 then some ⟨off,0,cOp K x.2⟩else none)else none|none=>none
def mW(K:Kon)(a:Nat->Option (Nat×Nat×Bool))(b:Nat):List (Nat×Operand)->Option (List Prt)|[]=>some []|x::l=>match Lt K a b x,mW K a b l with|some p,some ps=>some (p::ps)|_,_=>none
def NG{K:Kon}{c:Nat->Option (Nat×Nat×Bool)}{d:Nat}{x:Nat×Operand}{p:Prt}(h:Lt K c d x=some p): ∃sz b,c x.1=some (p.off,sz,b)/\p.off+sz<=d/\((b=true/\p.n=sz/\0<sz)\/(b=false/\sz=1/\p.n=0))/\p.x=cOp K x.2:=by
 unfold Lt at h;split at h
 ·rename_i off sz b a;split at h
  ·rename_i h1;split at h
   ·rename_i h2;split at h;·rename_i h3;injection h with h;subst h;exact⟨sz,b,a,h1,.inl ⟨h2,rfl,h3⟩,rfl⟩
    ·cases h
   ·rename_i h2;split at h;·rename_i h3;injection h with h;subst h;exact⟨sz,b,a,h1,.inr ⟨by simpa using h2,h3,rfl⟩,rfl⟩
    ·cases h
  ·cases h
 ·cases h
def yh{K:Kon}{g:Gh}{R nR T:Nat}{a:Act}{z:Nat->Option (Nat×Nat×Bool)}{d:Nat}:∀(l:List (Nat×Operand))(ps:List Prt),mW K z d l=some ps->(∀x∈l,TR g R nR (rd T (cOp K x.2)) (a.eval x.2))->∀(cells:Array Value)(c f:Nat),cells.size=d->c<2^(128*d)->(∀j,j<d->VR g (gt c j) (cells.getD j undef))->kF T R ps c=some f-> ∃h,Instr.fill (λi=>(z i).map λq=>(q.1,q.2.1)) cells (l.map λx=>(x.1,a.eval x.2))=some h/\h.size=d/\f<2^(128*d)/\∀j,j<d->VR g (gt f j) (h.getD j undef)
 |[],ps,m,_,cells,c,f,hs,hc,hv,e=>by rw[mW]at m;injection m with m;subst m;rw[CK]at e;injection e with e;subst e;exact⟨cells,rfl,hs,hc,hv⟩|x::l,W,n,D,cells,c,f,hs,hc,hv,e=>by
  rw[mW]at n;split at n;rotate_left;·cases n
  rename_i p ps m L;injection n with n;subst n;obtain⟨sz,b,h1,h2,h3,I⟩:=NG m;rw[Bg]at e;have w:=D x (by simp);rw[<-I]at w;have key:∀(vs:Array Value)(cw:Nat),(a.eval x.2).cells=vs->vs.size=sz->cw<2^(128*sz)->(∀j,j<sz->VR g (gt cw j) (vs.getD j undef))->kF T R ps (up c p.off sz cw)=some f-> ∃h,Instr.fill (λi=>(z i).map λq=>(q.1,q.2.1)) cells ((x::l).map λx=>(x.1,a.eval x.2))=some h/\h.size=d/\f<2^(128*d)/\∀j,j<d->VR g (gt f j) (h.getD j undef):=by
   intro vs cw A F B G H;obtain⟨f1,f2⟩:=Un vs p.off cells oqo;obtain⟨h,N,O⟩:=yh l ps L (λy M=>D y (by simp[M])) _ _ f (f1.trans hs) (Be hc oqo B) (λj hj=>by
    rw[mZ _ _ _ B,f2 j];by_cases C:p.off<=j/\j<p.off+sz;·rw[qzb C,qzb oqo];exact G _ oqo
    ·rw[qzc C,qzc oqo];exact hv j hj) H;refine⟨h,?_,O⟩;rw[jqx,Instr.fill];simp only[h1,jqf];rw[qzc (by simp[A,F];omega),A];exact N
  cases k:Nat.beq p.n 0 with
  |true=>
   rw[k,aj]at e;have k:=ah k;rcases h3 with⟨_,r,J⟩|⟨_,r,_⟩;·omega
   ·subst r;cases v:fU (rd T p.x)with|false=>rw[v]at e;cases e|true=>rw[v,aj]at e;have t:=w.fU v;refine key #[a.eval x.2] _ (cells_one t.one) rfl t.lt (λj hj=>?_) e;have:j=0:=oqo;subst this;rw[gP _ t.lt,qzb rfl];exact t
  |false=>
   rw[k,ag]at e;have k:=gM k;rcases h3 with⟨_,r,J⟩|⟨_,_,r⟩;·cases u:Nat.beq (Nat.mod (rd T p.x) 16) 12 with|false=>rw[u]at e;cases e|true=>rw[u,aj]at e;cases s:Nat.beq (ln (rd T p.x)) p.n with|false=>rw[s]at e;cases e|true=>rw[s,aj]at e;have s:=ah s;obtain⟨vs,b1,b2,Q,S,U,V,E⟩:=w.agg' (ah u);rw[r]at e s;exact key vs _ (by rw[b2];rfl) oqo (jT _ _ _) (λj hj=>by rw[jW,qzb hj];exact E j oqo) e
   ·omega
section
variable {P:Program}{K:Kon}{o:Oper}
def Cu(n c0:Nat)(ps:List Prt)(st:St):RS:=sel (Nat.blt st.nR 4294967296) (Option.rec .no (λc=>fc (ad st.R st.nR c) λR=>.ok (Nat.add (Nat.add 12 (Nat.mul 16 n)) (Nat.mul 268435456 st.nR)) (setR R (Nat.add st.nR n) st)) (kF st.T st.R ps c0)) .no
def J5{g:Gh}{st:St}{w:World}(a:HR g st w){n c x:Nat}{st':St}{cells:Array Value}(hn:n<16777216)(hr:st.nR<4294967296)(hs:cells.size=n)(hc:c<2^(128*n))(hv:∀j,j<n->VR g (gt c j) (cells.getD j undef))(e:(fc (ad st.R st.nR c) λR=>RS.ok (Nat.add (Nat.add 12 (Nat.mul 16 n)) (Nat.mul 268435456 st.nR)) {st with R:=R,nR:=Nat.add st.nR n})=.ok x st'):Post g st w g st' w x (.agg cells):=by
 rw[bX]at e;injection e with b d;simp only[nA,nM]at b d;subst d;refine⟨a.frame _ _ (iJ a.Rlt hc),Fr.refl _ _,Ext.ad _ _ a.Rlt,?_,rfl,rfl⟩;have:x=dY st.nR n:=by rw[<-b];rfl
 rw[this];refine .agg _ _ _ hn hr (qqf _) hs λj hj=>?_;rw[dK _ _ a.Rlt,qzc oqo,show st.nR+j-st.nR=j by omega];exact hv j hj
def plS(P:Program)(fs:Array Field)(i:Nat):Option (Nat×Nat×Bool):=(fs[i]?).map λf=>(f.offset,((P.info? f.type).map (·.size)).getD 0,gU ((P.underlying f.type).getD .invalid))
def run_places{fs:Array Field}(h:∀f∈fs,(P.info? f.type).isSome=true)(w:World):(fs.mapM λ(f:Field)=>(do pure (f.offset,<-sizeOf f.type):Sem (Nat×Nat))).run P w=.ok (fs.map λf=>(f.offset,((P.info? f.type).map (·.size)).getD 0)) w:=by
 rw[<-jzp (xs:=fs)]at h⊢;generalize fs.toList=l at h⊢;rw[List.mapM_toArray,List.map_toArray];have:∀l:List Field,(∀f∈l,(P.info? f.type).isSome=true)->(l.mapM λf=>(do pure (f.offset,<-sizeOf f.type):Sem (Nat×Nat))).run P w=.ok (l.map λf=>(f.offset,((P.info? f.type).map (·.size)).getD 0)) w:=by intro l;induction l with|nil=>intro _;rfl|cons f l ih=>intro h;obtain⟨i,hi⟩:=jzu.1 (h f (by simp));have ih:=ih (λx a=>h x (by simp[a]));rw[List.mapM_cons];simp only[qjm,dG hi,qjl,jzk,ih,jqx,hi,jqf,qzm]
 rw[Sem.run_map,this l (by simpa using h)];rfl
def Sj{t:TypeId}{parts:Array (Nat×Operand)}{fs:Array Field}{i:TypeInfo}{z:Value}{ps:List Prt}(ho:o.op=.build t parts)(ht:P.underlying t=some (.struct fs))(hi:P.info? t=some i)(hz:i.zero=some z)(h:eD K z.cells.toList=true)(hn:z.cells.size<16777216)(hf:∀f∈fs,(P.info? f.type).isSome=true)(l:mW K (plS P fs) z.cells.size parts.toList=some ps):OpV P K o (Cu z.cells.size (bV K z.cells.toList) ps):=λg st a w x st' hk k n e=>by unfold Cu at e;obtain⟨h1,e⟩:=ae e;have h1:=aT h1;obtain⟨c1,c2⟩:=jJ hk h;rw[jql]at c1 c2;cases b:kF st.T st.R ps (bV K z.cells.toList)with|none=>rw[b]at e;cases e|some c=>
  rw[b]at e;obtain⟨cells,d,s,u,v⟩:=yh parts.toList ps l (λy p=>n y.2 (by simp only[ho,Op.operands,List.mem_toArray,qjb];exact⟨y,p,rfl⟩)) z.cells _ c rfl c1 (λj hj=>by have:=c2 j hj;rwa[qqm,qjf,<-qqg]at this) b;refine⟨g,w,.agg cells,.inl ?_,J5 k hn h1 s u v e,λ_=>.inl rfl⟩;have m:(λi=>(plS P fs i).map λq=>(q.1,q.2.1))=λi=>(fs.map λf=>(f.offset,((P.info? f.type).map (·.size)).getD 0))[i]?:=by funext i;simp[plS,Function.comp_def]
  rw[m]at d;have r:(parts.map λx=>(x.1,a.eval x.2)).toList=parts.toList.map λx=>(x.1,a.eval x.2):=by simp
  rw[<-r]at d;simp only[execOp,ho,Instr.build,qjm,zeroValue,kr hi,hz,jqa ht,qjl,jzk,run_places hf,d]
def Tt{t e:TypeId}{parts:Array (Nat×Operand)}{n:Nat}{b:Bool}{i q:TypeInfo}{z:Value}{ps:List Prt}(ho:o.op=.build t parts)(ht:P.underlying t=some (.array n e))(hi:P.info? t=some i)(hz:i.zero=some z)(m:P.info? e=some q)(h:eD K z.cells.toList=true)(hn:z.cells.size<16777216)(l:mW K (λi=>some (i*q.size,q.size,b)) z.cells.size parts.toList=some ps):OpV P K o (Cu z.cells.size (bV K z.cells.toList) ps):=λg st a w x st' hk k p e=>by unfold Cu at e;obtain⟨h1,e⟩:=ae e;have h1:=aT h1;obtain⟨c1,c2⟩:=jJ hk h;rw[jql]at c1 c2;cases d:kF st.T st.R ps (bV K z.cells.toList)with|none=>rw[d]at e;cases e|some c=>
  rw[d]at e;obtain⟨cells,f,u,v,A⟩:=yh parts.toList ps l (λy r=>p y.2 (by simp only[ho,Op.operands,List.mem_toArray,qjb];exact⟨y,r,rfl⟩)) z.cells _ c rfl c1 (λj hj=>by have:=c2 j hj;rwa[qqm,qjf,<-qqg]at this) d;refine⟨g,w,.agg cells,.inl ?_,J5 k hn h1 u v A e,λ_=>.inl rfl⟩;simp only[jqf]at f;have s:(parts.map λx=>(x.1,a.eval x.2)).toList=parts.toList.map λx=>(x.1,a.eval x.2):=by simp
  rw[<-s]at f;simp only[execOp,ho,Instr.build,qjm,zeroValue,kr hi,hz,jqa ht,qjl,jzk,dG m,f]
def Cn(l e c0:Nat)(ps:List Prt)(st:St):RS:=sel (Nat.blt st.nM 16777216) (Option.rec .no (λc=>fc (ad st.M st.nM c) λM=> .ok (Nat.add (Nat.add (Nat.add (Nat.add 7 (Nat.mul 16 st.nM)) (Nat.mul 268435456 (Nat.mul l e))) (Nat.mul 4503599627370496 l)) (Nat.mul 75557863725914323419136 e)) (setM M (Nat.add (Nat.add st.nM (Nat.mul l e)) 1) st)) (kF st.T st.R ps c0)) .no
def SE{g:Gh}{st:St}{w:World}(h:HR g st w){l e cap cw x:Nat}{c:Array Value}{t:TypeId}{fr:Nat×Nat}{st':St}(hm:st.nM<16777216)(hz:l*e<16777216)(hl:l<16777216)(he:e<256)(a:l<=cap)(hs:c.size=cap*e)(f:cw<2^(128*(l*e)))(hv:∀j,j<l*e->VR g (gt cw j) (c.getD j undef))(one:∀i,i<c.size->(c.getD i undef).oneCell'=true)(thaw:ry fr c.size)(b:7+16*st.nM+268435456*(l*e)+4503599627370496*l+75557863725914323419136*e=x)(d:{st with M:=ad st.M st.nM cw,nM:=st.nM+l*e+1}=st'): ∃g',Post g st w g' st' (w.alloc (.cells c t fr)) x (.slice (some ⟨w.heap.size,0,none⟩) l cap):=by
 have k:l*e<=c.size:=by rw[hs];exact jqo e a
 obtain⟨m,n⟩:=h.alloc c t fr k f hv one thaw;subst d;refine⟨_,m,n,Ext.refl _ _,?_,rfl,rfl⟩;have:x=bF st.nM (l*e) l e 0:=by rw[<-b];rfl
 rw[this];exact .cell _ _ (.sli st.nM (l*e) l e 0 w.heap.size 0 c.size cap _ hm hz hl he (by rw[Gh.bK,qzb rfl]) oqo a (.inr ⟨rfl,by omega⟩))
def WO{t el:TypeId}{len:Nat}{parts:Array (Nat×Operand)}{b:Bool}{q:TypeInfo}{z:Value}{ps:List Prt}{zs:Array Value}(ho:o.op=.buildSlice t len parts)(ht:P.underlying t=some (.slice el))(l:P.info? el=some q)(hz:q.zero=some z)(n:zs=(Array.range (len*q.size)).map (λi=>z.cells[i%z.cells.size]!))(s:eD K zs.toList=true)(hn:len*q.size<16777216)(h0:len*q.size≠0)(hl:len<16777216)(he:q.size<256)(v:mW K (λi=>some (i*q.size,q.size,b)) (len*q.size) parts.toList=some ps):OpV P K o (Cn len q.size (bV K zs.toList) ps):=λg st a w x st' hk u B e=>by
 have m:zs.size=len*q.size:=by rw[n];simp
 obtain⟨c1,c2⟩:=jJ hk s;rw[jql,m]at c1 c2;unfold Cn at e;have r:¬len*q.size>2^24:=oqo;obtain⟨h1,e⟩:=ae e;have h1:=aT h1;cases d:kF st.T st.R ps (bV K zs.toList)with|none=>rw[d]at e;cases e|some c=>
  rw[d]at e;simp only[bX]at e;injection e with h k;simp only[nA,nM]at h k;obtain⟨cells,f,E,F,p⟩:=yh parts.toList ps v (λy C=>B y.2 (by simp only[ho,Op.operands,List.mem_toArray,qjb];exact⟨y,C,rfl⟩)) zs _ c m c1 (λj hj=>by have:=c2 j hj;rwa[qqm,qjf,<-qqg]at this) d;obtain⟨g',A⟩:=SE (t:=el) u h1 hn hl he (qqf len) E F p (λi hi=>(p i oqo).one) (fr:=(0,0)) (.inl rfl) h k;refine⟨g',_,_,.inl ?_,A,λq=>absurd (ah (by simpa [ho,dC]using q)) (λe=>h0 (by rw[e,jzr]))⟩;simp only[jqf]at f;have D:(parts.map λx=>(x.1,a.eval x.2)).toList=parts.toList.map λx=>(x.1,a.eval x.2):=by simp
  rw[<-D,n]at f;simp only[execOp,ho,Instr.buildSlice,qjm,jqa ht,qjl,dG l,qzc r,qzc h0,zeroValue,kr l,hz,jzk,f,newRow,run_newObj_alloc]
def L8(st:St):RS:=.ok 57 st
def QX{t el:TypeId}{parts:Array (Nat×Operand)}{q:TypeInfo}(ho:o.op=.buildSlice t 0 parts)(ht:P.underlying t=some (.slice el))(h:P.info? el=some q)(f:parts=#[]):OpV P K o L8:=λg st a w x st' hk d k e=>by unfold L8 at e;injection e with b c;subst b;subst c;subst f;obtain⟨i,j⟩:=d.push (.cells #[] el (0,0));refine⟨g,_,.slice (some ⟨w.heap.size,0,none⟩) 0 0,.inl ?_,⟨i,j,Ext.refl _ _,.cell _ _ (.semp _),rfl,rfl⟩,λ_=>.inr ⟨rfl,rfl,ma.push w _⟩⟩;simp[execOp,ho,Instr.buildSlice,jqa ht,dG h,Instr.fill,newRow,Array.range_zero']
end
end Ev
