/- Joint text: OSweep, OPackP, OPacked, HEqI. By an AI agent. -/
import Derived.Test.YtgdibfnpkcdiiaaGreatDoorSzy
import Derived.Test.YtgdibfnpkcdiiaaGreatDoorS22
set_option linter.all false
set_option maxRecDepth 100000
set_option maxHeartbeats 64000000
namespace Go.Proofs.YtgdibfnpkcdiiaaGreatDoor
open Go.RowKit
structure SwI(w0:World)(O:Nat->Prop)(lv:Value)(p:Nat->Bool)(b:List In)(i:Nat)(w:World)(li:List InV):Prop where
 own:bP w O lv li
 ko:KO O w0 w
 code:li.map (·.1)=fA p b i
def mV:InV:=({},.slice none 0 0)
section
variable {w0 w w':World}{O:Nat->Prop}{g n cap:Nat}{p:Nat->Bool}{b:List In}{i:Nat}{li:List InV}
def SwI.len{lv:Value}(h:SwI w0 O lv p b i w li):li.length=b.length:=by have:=jqp List.length h.code;rw[oZ]at this;simpa using this
def SwI.at{lv:Value}(h:SwI w0 O lv p b i w li)(hi:i<b.length):∃y,li[i]? =some y/\b[i]? =some y.1:=by obtain⟨y,a⟩:∃y,li[i]? =some y:=⟨_,qqh (by rw[h.len];exact hi)⟩;refine⟨y,a,?_⟩;rw[<-wO p (qqf i),<-h.code,qqp,a];rfl
def NY{x:In}(h:x∈fA p b i):x={}\/x∈b:=by
 unfold fA at h;obtain⟨j,hj,rfl⟩:=qjb.1 h;rw[qzg]at hj;split;·exact Or.inl rfl
 ·right;rw[qqm,qqh hj];exact jxr hj
def SwI.all{lv:Value}{Q:In->Prop}(h:SwI w0 O lv p b i w li)(h1:Q {})(h2:∀x∈b,Q x):∀y∈li,Q y.1:=λy a=>by
 have:y.1∈fA p b i:=by rw[<-h.code];exact qjb.2 ⟨y,a,rfl⟩
 rcases NY this with e|e;·rw[e];exact h1
 ·exact h2 _ e
def U3{w:World}{G n c:Nat}{l:List InV}(h:dS w (.slice (some ⟨G,0,none⟩) n c) l){i t:Nat}(hi:i<=t)(ht:t<=l.length):dS w (.slice (some ⟨G,i*10,none⟩) (t-i) (c-i)) ((l.take t).drop i):=by
 obtain⟨A,q,e,hc,hr⟩:=h;injection e with f k d;subst f;subst k;subst d;refine⟨_,_,by rw[List.length_drop,jqg,jqy ht],by rw[List.length_drop,jqg,jqy ht];omega,?_⟩;rcases hr with rfl|⟨b,o,e,hr⟩;·exact Or.inl (by simp)
 ·injection e with e;injection e with d m _;subst d;subst m;refine Or.inr ⟨_,_,rfl,λj x a=>?_⟩;rw[jzs,qzw]at a;split at a;·have:=hr (i+j) x a;rwa[show 0+(i+j)*10=i*10+j*10 by omega]at this
  ·cases a
def Oe{p:Nat->Bool}{b:List In}{i j:Nat}(hj:i<=j)(t:Nat):((fA p b i).take t).drop j=(b.take t).drop j:=by
 apply jqk;intro k;rw[jzs,jzs,qzw,qzw];split;·exact wO p oqo
 ·rfl
def C9{F:Act}{V:World}{o:Oper}{bx k:Nat}{cs:Array Value}(ho:o.op=.load 71 (.tmp k))(a:F.tmps[k]? =some (.pointer (some ⟨bx,0,none⟩)))(hc:V.rangeAt bx 0 cs.toList)(hs:cs.size=10):(execOp F.eval o).run Tryz.prog V=.ok (.value (.agg cs)) V:=by
 have c:F.eval (.tmp k)=.pointer (some ⟨bx,0,none⟩):=by simp[Act.eval,a]
 have hi:(Tryz.prog.info? 71).map (·.size)=some cs.toList.length:=by rw[jql,hs];kernel_rfl
 unfold execOp;simp only[ho,c,Instr.loadAt,Instr.sureAddr,qjm,jzk,qjl,run_loadVar_mid V bx 0 71 cs.toList _ hc Tryz.underlying71 rfl hi,jzp]
def SwI.ins(h:SwI w0 O (.slice (some ⟨g,0,none⟩) n cap) p b i w li){j:Nat}{y:InV}(d:li[j]? =some y):gF w g (j*10) y:=by
 obtain⟨A,c,e,_,hr⟩:=h.own.ins;injection e with f _ _;rcases hr with a|⟨m,o,a,hr⟩;·rw[a]at d;simp at d
 ·rw[<-f]at a;injection a with a;injection a with k l _;have:=hr j y d;rw[<-k,<-l,qja]at this;exact this
def SwI.below{lv:Value}(h:SwI w0 O lv p b i w li)(a:Below w.heap.size w w'):SwI w0 O lv p b i w' li:=⟨h.own.below a,h.ko.trans (KO.below a),h.code⟩
def SwI.skip{lv:Value}(h:SwI w0 O lv p b i w li)(a:p i=false):SwI w0 O lv p b (i+1) w li:=⟨h.own,h.ko,by rw[LZ a];exact h.code⟩
def SwI.set(h:SwI w0 O (.slice (some ⟨g,0,none⟩) n cap) p b i w li)(a:O g)(hi:i<b.length)(d:p i=true):SwI w0 O (.slice (some ⟨g,0,none⟩) n cap) p b (i+1) (w.setCells g (i*10) (aY mV)) (li.set i mV):=by
 obtain⟨y,e,_⟩:=h.at hi;refine⟨h.own.set e (KO.below (qjk _ _)) (Or.inl ⟨by decide,?_⟩) (λc=>by cases c) (λ_=>rfl),h.ko.trans (KO.puts a _ _ _),?_⟩;·exact⟨rfl,dz w none 0⟩
 ·rw[List.map_set,h.code];exact NH d hi
def SwI.there(h:SwI w0 O (.slice (some ⟨g,0,none⟩) n cap) p b i w li)(hi:i<b.length):w.there g (i*10) 10:=by obtain⟨y,a,_⟩:=h.at hi;exact h.own.there a (KO.below (qjk _ _))
end
def Cm:(aY mV).toArray.all (·.oneCell')=true:=xm rfl
def JU:kS {}:=⟨λu h=>(by cases h),λv h=>(by cases h)⟩
open Classical in def Na(lv:Value)(l:List InV)(O:Nat->Prop)(w:World)(h:bP w O lv l)(hO:∀k,O k->k<w.heap.size)(h0:0<l.length)(hn:l.length<=8000)(r0:∀x∈l,0<=x.1.to/\x.1.to<=l.length)(y3:∀x∈l,x.1.op<15)(hv:∀x∈l,kS x.1)(m3:∀x∈l,x.1.args.length<=1000):Calls Tryz.prog 127 #[lv] w λe w'=>e=.returned (.tuple #[])/\∃l',l'.map (·.1)=eT (l.map (·.1))/\bP w' O lv l'/\KO O w w':=by
 obtain⟨n,p0⟩:∃n,n=l.length:=⟨_,rfl⟩;obtain⟨G,c,rfl,l3⟩:∃G c,lv=.slice (some ⟨G,0,none⟩) n c/\O G:=by obtain⟨G,cap,hv,_,_⟩:=h.row.form h0;exact⟨G,cap,by rw[p0];exact hv,h.uV G (by rw[hv];rfl)⟩
 rw[<-p0]at h0 hn r0;have HN:=hqh p0;have H:=hqh h;have HO:=hqh hO;have HT:=hqh r0;have r4:=hqh y3;have HV:=hqh hv;have p4:=hqh m3;have s0:=hqh l3;have RC:=Ir (.slice (some ⟨G,0,none⟩) n c) l w h.ins oqo (λx o=>(r0 x o).1);clear p0 h hO r0 y3 hv m3 l3;go_enter Tryz.func127,Tryz.ntmps127;go_wp2_with(first
  | (go_at_call 90;refine RC.mono ?_;rintro e w1⟨⟨bv,rfl,m2⟩,n3⟩;obtain⟨BG,cb,rfl,b6⟩:∃BG cb,bv=.slice (some ⟨BG,0,none⟩) n cb/\w.heap.size<=BG:=by
       have:=m2;unfold dh at this;have l5:(nk (l.map (·.1))).length=n:=by rw[HN.o];simp[nk]
       rw[l5]at this;obtain⟨G',cap,hv,_,_⟩:=this.form h0;exact⟨G',cap,hv,(this.lt G' (by rw[hv];rfl)).1⟩
     have j2:=hqh m2;have g2:=hqh n3;clear m2 n3)|fail);clear RC;obtain⟨b1,m1⟩:∃b1,b1=l.map (·.1):=⟨_,rfl⟩;have g6:b1.length=n:=by rw[m1,qqv,HN.o]
 obtain⟨p1,b4⟩:∃p1:Nat->Bool,p1=λj=>decide (¬Reach b1 j/\j+1<b1.length):=⟨_,rfl⟩;have a1:=hqh (show SwI w O (.slice (some ⟨G,0,none⟩) n c) p1 b1 0 w1 l from⟨H.o.below g2.o,KO.below g2.o,by rw[vv,m1]⟩);rw[<-m1]at j2;have y1:=hqh b4;have s2:=hqh m1;clear b4 m1;have p6:IntKind.i64.wrap ((n:Int)-1)=(n:Int)-1:=jqv _ oqo;go_loopw [16](λv wr=>∃(i:Nat)(li:List InV),v=.int .i64 i/\i<=n/\Hid (SwI w O (.slice (some ⟨G,0,none⟩) n c) p1 b1 i wr li)/\Hid (dh wr w.heap.size (.slice (some ⟨BG,0,none⟩) n cb) (nk b1)))(λv _=>match v with| .int _ x=>((n:Int)-x).toNat|_=>0);case atStart=>exact⟨0,l,rfl,qqy _,a1,j2⟩
 case round=>
  clear a1 j2 g2;obtain⟨i,li,rfl,hi,f,HB⟩:=hrel;rename World=>C;by_cases d2:(i:Int)<(n:Int)
  ·have I:i<b1.length:=by omega
   obtain⟨y,P,j0⟩:=f.o.at I;obtain⟨l2,_⟩:=HB.o.cell (show(nk b1)[i]? =some (decide (Reach b1 i))by unfold nk;rw[qqp,qqz I];rfl);have o4:IntKind.i64.wrap ((i:Int)+1)=(i:Int)+1:=jqv _ oqo;by_cases hR:Reach b1 i;·rw[qqx hR]at l2;have L:=hqh (f.o.skip (by rw[y1.o];exact qqt λc=>c.1 hR));go_wp2_with fail;exact⟨⟨i+1,li,by push_cast;rfl,by omega,L,HB⟩,by show((n:Int)-((i:Int)+1)).toNat<((n:Int)-(i:Int)).toNat;omega⟩
   ·rw[qqt hR]at l2;by_cases m6:(i:Int)<(n:Int)-1
    ·have hp:p1 i=true:=by rw[y1.o];exact qqx ⟨hR,by omega⟩
     have L:=hqh (f.o.set s0.o I hp);have g1:=hqh (f.o.there I);have l0:=hqh (show dh (C.setCells G (i*10) (aY mV)) w.heap.size (.slice (some ⟨BG,0,none⟩) n cb) (nk b1)from di HB.o (KO.puts (O:=λk=>k=G) rfl _ _ _) λb e c=>by
      have e2:BG=b:=by injection e
      have c2:b=G:=c;have:=HO.o G s0.o;omega);go_upto_region 5 with fail;apply jqn;iterate 12 go_step
     refine jje rfl 71 (.tmp 31) (.tmp 30) rfl G (i*10) (aY mV).toArray rfl rfl g1.o kqk Cm ?_;rw[List.toList_toArray];generalize C.setCells G (i*10) (aY mV)=W2 at L l0⊢;refine jzi ?_;clear l2;go_wp2_with fail;exact⟨⟨i+1,li.set i mV,by push_cast;rfl,by omega,L,l0⟩,by show((n:Int)-((i:Int)+1)).toNat<((n:Int)-(i:Int)).toNat;omega⟩
    ·have L:=hqh (f.o.skip (by rw[y1.o];exact qqt λc=>by omega));go_wp2_with fail;exact⟨⟨i+1,li,by push_cast;rfl,by omega,L,HB⟩,by show((n:Int)-((i:Int)+1)).toNat<((n:Int)-(i:Int)).toNat;omega⟩
  ·have e0:i=b1.length:=by omega
   rw[e0]at f;clear HB;have J:∀y∈li,0<=y.1.to/\y.1.to<=(n:Int)/\y.1.op<15/\kS y.1/\y.1.args.length<=1000:=f.o.all (Q:=λx=>0<=x.to/\x.to<=(n:Int)/\x.op<15/\kS x/\x.args.length<=1000) ⟨by decide,by show(0:Int)<=_;omega,by decide,JU,by decide⟩ λx o=>by rw[s2.o]at o;obtain⟨z,hz,rfl⟩:=qjb.1 o;exact⟨(HT.o z hz).1,(HT.o z hz).2,r4.o z hz,HV.o z hz,p4.o z hz⟩
   have i0:li.length=n:=by rw[f.o.len];omega
   have LV:=QH (.slice (some ⟨G,0,none⟩) n c) li C f.o.own.ins oqo oqo (λx o=>⟨(J x o).1,by rw[i0];exact(J x o).2.1⟩) (λx o=>(J x o).2.2.1) (λx o=>(J x o).2.2.2.1) (λx o=>(J x o).2.2.2.2);obtain⟨b2,n1⟩:∃b2,b2=li.map (·.1):=⟨_,rfl⟩;rw[<-n1,i0]at LV;have v1:=hqh n1;have HQ:=hqh J;have d6:b2.length=n:=by rw[n1,qqv];exact i0
   have HU:=hqh (show b2=aZ b1 by rw[n1,f.o.code,y1.o];exact(Eb b1).symm);clear J n1 e0 hi;go_wp2_with(first| (go_at_call 91;refine LV.mono ?_;rintro e W2⟨⟨gs,S,rfl,h6,i4,s3,r3⟩,o3⟩;have m0:=hqh i4;have x2:=hqh s3;have w2:=hqh r3;have l0:=hqh o3;clear i4 s3 r3 o3)|fail);clear LV;obtain⟨p2,d4⟩:∃p2:Nat->Bool,p2=λj=>gJ (b2.getD j {})&&decide (¬Live b2 (j+1) (b2.getD j {}).v):=⟨_,rfl⟩;have z1:=hqh d4;have L:=hqh (show SwI w O (.slice (some ⟨G,0,none⟩) n c) p2 b2 0 W2 li from⟨f.o.own.below l0.o,f.o.ko.trans (KO.below l0.o),by rw[vv];exact v1.o.symm⟩);have e5:gs≠G:=by have:=HO.o G s0.o;have:=f.o.ko.size;omega
   clear d4 f;go_loopw [37](λv wr=>∃(i:Nat)(li:List InV),v=.int .i64 i/\i<=n/\Hid (SwI w O (.slice (some ⟨G,0,none⟩) n c) p2 b2 i wr li)/\Hid (dH wr gs (n+1) S))(λv _=>match v with| .int _ x=>((n:Int)-x).toNat|_=>0);case atStart=>exact⟨0,li,rfl,qqy _,L,m0⟩
   case round=>
    have z2:=hqh (show∀x∈b2,kS x from λx o=>by rw[v1.o]at o;obtain⟨z,hz,rfl⟩:=qjb.1 o;exact(HQ.o z hz).2.2.2.1);have i3:=hqh (show∀x∈b2,0<=x.to/\x.to<=(n:Int)from λx o=>by rw[v1.o]at o;obtain⟨z,hz,rfl⟩:=qjb.1 o;exact⟨(HQ.o z hz).1,(HQ.o z hz).2.1⟩);clear L m0 l0 v1 HQ i0 d2;clear li;obtain⟨i,li,rfl,hi,f,m0⟩:=hrel;rename World=>C;by_cases d2:(i:Int)<(n:Int)
    ·have I:i<b2.length:=by omega
     obtain⟨y,P,j0⟩:=f.o.at I;have U:=hqh (f.o.ins P);have y0:=hqh (rH U.o (qjk _ _));have q2:(eQ y).toList.all (·.oneCell')=true:=by obtain⟨A2,c2,e2,_⟩:=U.o.args;unfold eQ;rw[e2];rfl
     have HY:=hqh P;have a2:=hqh j0;clear P j0;have o4:IntKind.i64.wrap ((i:Int)+1)=((i+1:Nat):Int):=by rw[jqv _ oqo];push_cast;rfl
     go_upto_region 10 with fail;apply jqn;iterate 6 go_step
     refine wpList_load_mid rfl 71 (.tmp 40) rfl G (i*10) rfl _ _ y0.o Tryz.underlying71 rfl kqk ?_;simp only[qqa,jzp];obtain⟨bx,N⟩:∃b,b=C.heap.size:=⟨_,rfl⟩;iterate 6 go_step
     rw[<-N];have j1:Blk (C.alloc (.cells dW 71)) bx 71 dW:=by rw[N];exact Blk.new _ _ _
     refine aF rfl 71 (.tmp 7) (.tmp 41) rfl bx (eQ y) rfl rfl 71 _ j1 rfl aX q2 ?_;intro X t1 s1;have o0:Below C.heap.size C X:=((qjk _ _).alloc (qqf _) _).trans (s1.aO (by simp) λi e=>by omega);have M:=hqh t1;have D:=hqh (f.o.below o0);have d1:=hqh (show dH X gs (n+1) S from Blk.below m0.o o0);have n5:=hqh N;clear s1 t1 j1 o0 f m0 y0 U N;refine jzi ?_;go_upto_region 11 with fail;have r1:b2.getD i {}=y.1:=by rw[qqm,a2.o];rfl
     cases q0:gJ y.1 with|false=>
      have t:=hqh (D.o.skip (by rw[z1.o];show(gJ (b2.getD i {})&&_)=false;rw[r1,q0];rfl));refine gy [(none,.agg (eQ y)),(none,.bool false),(none,.bool false),(some (44,true),undef),(some (44,true),undef),(some (44,true),undef),(some (44,true),undef),(some (44,true),undef),(some (44,true),undef),(some (44,true),undef),(some (44,true),undef),(none,.bool false)] eF kqk ?_;intro R AA Y hF;have d:aN R [(7,.pointer (some ⟨bx,0,none⟩)),(5,.slice (some ⟨gs,0,none⟩) (n+1) (n+1)),(6,.int .i64 i),(42,.agg (eQ y)),(43,.bool false),(44,.bool false),(45,undef),(46,undef),(47,undef),(48,undef),(49,undef),(50,undef),(51,undef),(52,undef),(53,.bool false)]:=by unfold aN;rw[hF,Y];kernel_rfl
      have HF:=hqh hF;clear hF;have T:=hqh Y;clear Y;refine⟨?_,?_⟩
      ·intro V F;repeat clear‹∀(a:Act)(w:World),Code.wp Tryz.prog _ _ a w->_›
       have x1:V.cell? ⟨bx,1,none⟩=some (.int .i64 y.1.v):=aa F (M.o.cell 1);have r2:V.rangeAt bx 0 (eQ y).toList:=λj v hv=>aa F (wY M.o j v hv);exact bM (C9 rfl (d.at 0 rfl) r2 rfl) (eZ.cons (bu.call 94 #[.agg (eQ y)] (by have w4:=d.at 3 rfl;go_simp) (by have h:=Fv y V;rw[q0]at h;exact h)) (bM (by have x4:=d.at 4 rfl;go_simp) (aaT (d.at 5 rfl) (aaT (d.at 5 rfl) (aaT (d.at 5 rfl) (aaT (d.at 5 rfl) (aaT (d.at 5 rfl) (aaT (d.at 5 rfl) (aaT (d.at 5 rfl) (aaT (d.at 5 rfl) (bM (by have y4:=d.at 5 rfl;have b5:=d.at 13 rfl;go_simp) (eZ.nil))))))))))))
      intro V F;clear d;obtain⟨m,Z⟩:∃m:Nat->Value,R=bI [(42,m 42),(43,m 43),(44,m 44),(45,m 45),(46,m 46),(47,m 47),(48,m 48),(49,m 49),(50,m 50),(51,m 51),(52,m 52),(53,.bool false)] AA:=⟨λk=>R.tmps.getD k undef,by rw[HF.o,T.o];kernel_rfl⟩;clear HF;rw[T.o]at Z;clear T;simp only[bI,Act.put,qqb]at Z;subst Z;refine jzi ?_;have i1:=hqh F;clear F;have e1:=hqh (show dH V gs (n+1) S from Blk.below d1.o i1.o);have E:=hqh (t.o.below i1.o);clear D d1 M;go_wp2_with fail;refine⟨⟨i+1,li,by push_cast;rfl,by omega,E,e1⟩,by show((n:Int)-((i:Int)+1)).toNat<((n:Int)-(i:Int)).toNat;omega⟩|true=>
      have h4:bD y.1=some y.1.v:=by unfold bD;unfold gJ at q0;rw[qzb (by unfold fq;simp only[qji,jzb]at q0⊢;omega)]
      have m5:=(z2.o y.1 (qqr a2.o)).put _ h4;obtain⟨q,r,J,hr,n4⟩:∃q r:Nat,q<4/\r<64/\y.1.v=((64*q+r:Nat):Int):=⟨y.1.v.toNat/64,y.1.v.toNat%64,by omega,by omega,by omega⟩;obtain⟨s,d0⟩:∃s,(S (i+1) q).testBit r=s:=⟨_,rfl⟩;have q4:=hqh d0;have o2:s=true↔Live b2 (i+1) y.1.v:=by rw[n4,<-w2.o,<-d0];unfold SB fI;rw[show(64*q+r)/64=q by omega,show(64*q+r)%64=r by omega,show decide (64*q+r<256)=true from qqx oqo,jxj]
      have d3:=hqh (d1.o.cell (show i+1<n+1 by omega) J);have hp:p2 i=!s:=by rw[z1.o];show(gJ (b2.getD i {})&&decide (¬Live b2 (i+1) (b2.getD i {}).v))=!s;rw[r1,q0,jxj];cases s with|true=>exact qqt λc=>c (o2.1 rfl)|false=>exact qqx λc=>by have:=o2.2 c;cases this
      have v2:=hqh hp;have g5:((i+1:Nat):Int)<(n:Int)+1:=oqo;have l6:((i+1:Nat):Int)<((n+1:Nat):Int):=oqo;clear d0 o2 hp h4 m5;refine gy [(none,.agg (eQ y)),(none,.bool true),(none,.bool true),(some (44,true),.slice (some ⟨gs,0,none⟩) (n+1) (n+1)),(some (44,true),.int .i64 i),(some (44,true),.int .i64 ((i+1:Nat):Int)),(some (44,true),.pointer (some ⟨gs,(i+1)*4,none⟩)),(some (44,true),.pointer (some ⟨bx,1,none⟩)),(some (44,true),.int .i64 ((64*q+r:Nat):Int)),(some (44,true),.bool s),(some (44,true),.bool !s),(none,.bool !s)] eF kqk ?_;intro R AA Y hF;have d:aN R [(7,.pointer (some ⟨bx,0,none⟩)),(5,.slice (some ⟨gs,0,none⟩) (n+1) (n+1)),(6,.int .i64 i),(42,.agg (eQ y)),(43,.bool true),(44,.bool true),(45,.slice (some ⟨gs,0,none⟩) (n+1) (n+1)),(46,.int .i64 i),(47,.int .i64 ((i+1:Nat):Int)),(48,.pointer (some ⟨gs,(i+1)*4,none⟩)),(49,.pointer (some ⟨bx,1,none⟩)),(50,.int .i64 ((64*q+r:Nat):Int)),(51,.bool s),(52,.bool !s),(53,.bool !s)]:=by unfold aN;rw[hF,Y];kernel_rfl
      have HF:=hqh hF;clear hF;have T:=hqh Y;clear Y;refine⟨?_,?_⟩
      ·intro V F;repeat clear‹∀(a:Act)(w:World),Code.wp Tryz.prog _ _ a w->_›
       have x1:V.cell? ⟨bx,1,none⟩=some (.int .i64 y.1.v):=aa F (M.o.cell 1);have r2:V.rangeAt bx 0 (eQ y).toList:=λj v hv=>aa F (wY M.o j v hv);exact bM (C9 rfl (d.at 0 rfl) r2 rfl) (eZ.cons (bu.call 94 #[.agg (eQ y)] (by have w4:=d.at 3 rfl;go_simp) (by have h:=Fv y V;rw[q0]at h;exact h)) (bM (by have x4:=d.at 4 rfl;go_simp) (pO (d.at 5 rfl) (by have a5:=d.at 1 rfl;go_simp) (pO (d.at 5 rfl) (by have a6:=d.at 2 rfl;go_simp) (pO (d.at 5 rfl) (by have p5:=d.at 7 rfl;go_simp) (pO (d.at 5 rfl) (by have o5:=d.at 6 rfl;have q5:=d.at 8 rfl;go_simp;exact λi5=>absurd i5 oqo) (pO (d.at 5 rfl) (by have a7:=d.at 0 rfl;go_simp) (pO (d.at 5 rfl) (by have s5:=d.at 10 rfl;rw[n4]at x1;go_simp) (aaU 95 #[.pointer (some ⟨gs,(i+1)*4,none⟩),.int .i64 ((64*q+r:Nat):Int)] (d.at 5 rfl) (by have r5:=d.at 9 rfl;have w5:=d.at 11 rfl;go_simp) (by refine(Kk gs ((i+1)*4) q r (S (i+1) q) V J hr (aa F d3.o) (x2.o _ q J)).mono ?_;rintro e w'⟨rfl,rfl⟩;exact⟨by rw[q4.o],qjk _ _⟩) (pO (d.at 5 rfl) (by have x5:=d.at 12 rfl;go_simp) (bM (by have y4:=d.at 5 rfl;have b5:=d.at 13 rfl;go_simp) (eZ.nil))))))))))))
      intro V F;clear d;obtain⟨m,Z⟩:∃m:Nat->Value,R=bI [(42,m 42),(43,m 43),(44,m 44),(45,m 45),(46,m 46),(47,m 47),(48,m 48),(49,m 49),(50,m 50),(51,m 51),(52,m 52),(53,.bool !s)] AA:=⟨λk=>R.tmps.getD k undef,by rw[HF.o,T.o];kernel_rfl⟩;clear HF;rw[T.o]at Z;clear T;simp only[bI,Act.put,qqb]at Z;subst Z;refine jzi ?_;have i1:=hqh F;clear F;have e1:=hqh (show dH V gs (n+1) S from Blk.below d1.o i1.o);have E:=hqh (D.o.below i1.o);clear D d1 M d3;cases s with|true=>have t:=hqh (E.o.skip (by rw[v2.o];rfl));clear E;simp only[Bool.not_true];go_wp2_with fail;refine⟨⟨i+1,li,by push_cast;rfl,by omega,t,e1⟩,by show((n:Int)-((i:Int)+1)).toNat<((n:Int)-(i:Int)).toNat;omega⟩|false=>
       have g1:=hqh (E.o.there I);have t:=hqh (E.o.set s0.o I (by rw[v2.o];rfl));have g3:=hqh (show dH (V.setCells G (i*10) (aY mV)) gs (n+1) S from(KO.puts (O:=λk=>k=G) rfl _ _ _).blk e1.o e5);clear E e1;simp only[Bool.not_false];go_upto_region 12 with fail;apply jqn;iterate 12 go_step
       refine jje rfl 71 (.tmp 57) (.tmp 56) rfl G (i*10) (aY mV).toArray rfl rfl g1.o kqk Cm ?_;rw[List.toList_toArray];generalize V.setCells G (i*10) (aY mV)=W5 at t g3⊢;refine jzi ?_;go_wp2_with fail;exact⟨⟨i+1,li.set i mV,by push_cast;rfl,by omega,t,g3⟩,by show((n:Int)-((i:Int)+1)).toNat<((n:Int)-(i:Int)).toNat;omega⟩
    ·have e0:i=b2.length:=by omega
     rw[e0]at f;obtain⟨u,o1⟩:∃u,u=li.map (·.1):=⟨_,rfl⟩;have i0:li.length=n:=by rw[f.o.len];omega
     have e6:u.length=n:=by rw[o1,qqv];exact i0
     have HD:=hqh (show u=bO b2 by rw[o1,f.o.code,z1.o];exact(Ld b2).symm);have s4:=hqh (show∀x∈u,0<=x.to/\x.to<=(n:Int)from λx o=>by rw[o1]at o;obtain⟨z,hz,rfl⟩:=qjb.1 o;exact f.o.all (Q:=λx=>0<=x.to/\x.to<=(n:Int)) ⟨by decide,by show(0:Int)<=_;omega⟩ i3.o z hz);obtain⟨p3,e4⟩:∃p3,p3=uS u:=⟨_,rfl⟩;have y2:=hqh e4;have a1:=hqh (show SwI w O (.slice (some ⟨G,0,none⟩) n c) p3 u 0 C li from⟨f.o.own,f.o.ko,by rw[vv];exact o1.symm⟩);obtain⟨B,p0⟩:∃B,n=B+1:=⟨n-1,by omega⟩;have en:(n:Int)-1=(B:Int):=oqo;have n6:n<=c:=by obtain⟨A,c',e,hc,_⟩:=f.o.own.ins;injection e with _ _ e3;omega
     rw[en];subst p0;clear o1 f m0 e0 hi z2 e4 w2 x2 z1 i3;go_wp2_with fail;go_loopw [63](λv wr=>∃(i:Nat)(li:List InV),v=.int .i64 i/\i<=B/\Hid (SwI w O (.slice (some ⟨G,0,none⟩) (B+1) c) p3 u i wr li))(λv _=>match v with| .int _ x=>((B:Int)-x).toNat|_=>0);case atStart=>exact⟨0,li,rfl,qqy _,a1⟩
     case round=>
      clear a1 d2 en i0;clear li;obtain⟨i,li,rfl,hi,f⟩:=hrel;rename World=>C;by_cases d2:(i:Int)<(B:Int)
      ·have I:i<u.length:=by omega
       obtain⟨y,P,j0⟩:=f.o.at I;have U:=hqh (f.o.ins P);have y0:=hqh (rH U.o (qjk _ _));have q2:(eQ y).toList.all (·.oneCell')=true:=by obtain⟨A2,c2,e2,_⟩:=U.o.args;unfold eQ;rw[e2];rfl
       have HY:=hqh P;have a2:=hqh j0;have r0:=s4.o y.1 (qqr j0);clear P j0;have o4:IntKind.i64.wrap ((i:Int)+1)=((i+1:Nat):Int):=by rw[jqv _ oqo];push_cast;rfl
       go_upto_region 16 with fail;apply jqn;iterate 6 go_step
       refine wpList_load_mid rfl 71 (.tmp 66) rfl G (i*10) rfl _ _ y0.o Tryz.underlying71 rfl kqk ?_;simp only[qqa,jzp];obtain⟨bx,N⟩:∃b,b=C.heap.size:=⟨_,rfl⟩;iterate 6 go_step
       rw[<-N];have j1:Blk (C.alloc (.cells dW 71)) bx 71 dW:=by rw[N];exact Blk.new _ _ _
       refine aF rfl 71 (.tmp 9) (.tmp 67) rfl bx (eQ y) rfl rfl 71 _ j1 rfl aX q2 ?_;intro X t1 s1;have o0:Below C.heap.size C X:=((qjk _ _).alloc (qqf _) _).trans (s1.aO (by simp) λi e=>by omega);have M:=hqh t1;have D:=hqh (f.o.below o0);clear s1 t1 j1 o0 f y0 U N;refine jzi ?_;have x0:X.cell? ⟨bx,0,none⟩=some (.int .u8 y.1.op):=M.o.cell 0;have x9:X.cell? ⟨bx,9,none⟩=some (.int .i64 y.1.to):=M.o.cell 9;have r1:u.getD i {}=y.1:=by rw[qqm,a2.o];rfl
       have W:=hqh (show p3 i=(y.1.op==13&&decide ((i:Int)<y.1.to)&&lW u (i+1) y.1.to.toNat)by rw[y2.o];unfold uS;rw[r1,qqx (show i+1<u.length by omega),jxj]);obtain⟨oo,x3⟩:∃oo,oo=y.1.op:=⟨_,rfl⟩;obtain⟨K,m4⟩:∃K,y.1.to=((K:Nat):Int):=⟨y.1.to.toNat,by omega⟩;rw[<-x3]at x0 W;rw[m4]at x9 r0 W;rw[jzf]at W;clear x3 m4 r1;by_cases j3:oo=13
       ·subst j3;by_cases n2:(i:Int)<(K:Int)
        ·have g5:((i+1:Nat):Int)<=(K:Int):=by omega
         have o6:(K:Int)<=(c:Int):=oqo;have h5:i+1<=K:=oqo;have l4:K<=li.length:=by rw[D.o.len];omega
         have GA:=Qd _ _ X (U3 D.o.own.ins h5 l4) (by rw[List.length_drop,jqg];omega);obtain⟨s,d0⟩:∃s,(((li.take K).drop (i+1)).any λy=>y.1.op !=0)=s:=⟨_,rfl⟩;have q3:lW u (i+1) K=!s:=by unfold lW;rw[<-d0,<-Oe (p:=p3) (b:=u) (Nat.le_succ i) K,<-D.o.code,<-List.map_take,<-List.map_drop,List.all_map,List.any_eq_not_all_not,Bool.not_not];congr 1;funext y;show(y.1.op==0)=!(!(y.1.op==0));rw[Bool.not_not]
         rw[d0]at GA;have t2:=hqh q3;clear d0 q3 l4;cases s with|true=>go_wp2_with(first| (go_at_call 46;refine GA.mono ?_;rintro e W4⟨rfl,q1⟩;have t:=hqh (D.o.below q1);clear q1)|fail);have E:=hqh (t.o.skip (by rw[W.o,t2.o];simp));refine⟨⟨i+1,li,by push_cast;rfl,by omega,E⟩,by show((B:Int)-((i:Int)+1)).toNat<((B:Int)-(i:Int)).toNat;omega⟩|false=>
          go_upto_region 18 with(first| (go_at_call 46;refine GA.mono ?_;rintro e W4⟨rfl,q1⟩;have t:=hqh (D.o.below q1);clear q1)|fail);have g1:=hqh (t.o.there I);have E:=hqh (t.o.set s0.o I (by rw[W.o,t2.o,qqx n2];rfl));clear t;apply jqn;iterate 12 go_step
          refine jje rfl 71 (.tmp 90) (.tmp 89) rfl G (i*10) (aY mV).toArray rfl rfl g1.o kqk Cm ?_;rw[List.toList_toArray];generalize W4.setCells G (i*10) (aY mV)=W5 at E⊢;refine jzi ?_;go_wp2_with fail;exact⟨⟨i+1,li.set i mV,by push_cast;rfl,by omega,E⟩,by show((B:Int)-((i:Int)+1)).toNat<((B:Int)-(i:Int)).toNat;omega⟩
        ·have t:=hqh (D.o.skip (by rw[W.o,qqt n2];simp));have i6:¬(K:Int)>(i:Int):=n2;go_wp2_with fail;refine⟨⟨i+1,li,by push_cast;rfl,by omega,t⟩,by show((B:Int)-((i:Int)+1)).toNat<((B:Int)-(i:Int)).toNat;omega⟩
       ·have t:=hqh (D.o.skip (by rw[W.o,qqe.2 j3];rfl));have d5:((oo:Nat):Int)≠13:=oqo;have y5:(((oo:Nat):Int)==13)=false:=qqe.2 d5;go_wp2_with fail;refine⟨⟨i+1,li,by push_cast;rfl,by omega,t⟩,by show((B:Int)-((i:Int)+1)).toNat<((B:Int)-(i:Int)).toNat;omega⟩
      ·have e0:i=u.length-1:=by omega
       rw[e0]at f;go_wp2_with fail;go_end0;refine⟨rfl,li,?_,f.o.own,f.o.ko⟩;rw[f.o.code,y2.o,<-NV,HD.o,HU.o,s2.o];rfl
def OW{α:Type}(C:α->List Value)(z:Nat)(hz:∀x,(C x).length=z){l:List α}{i k:Nat}{x y:α}(h:l[i]? =some x)(hk:k<z)(c:Value)(f:C y=(C x).set k c):(l.flatMap C).set (i*z+k) c=(l.set i y).flatMap C:=by
 have hi:=(qqi.1 h).1;have d:l[i]=x:=(qqi.1 h).2;have e:l=l.take i++x::l.drop (i+1):=by have h1:=(List.take_append_drop i l).symm;rw[jqq hi,d]at h1;exact h1
 have a:l.set i y=l.take i++y::l.drop (i+1):=by
  conv=>lhs;rw[e]
  rw[jzv _ _ (by rw[jqg];omega),jqg,jqy oqo,jzg];rfl
 have hl:((l.take i).flatMap C).length=i*z:=by rw[oU C z hz,jqg,jqy oqo]
 rw[a,jza,jqe,f];conv=>lhs;rw[e]
 rw[jza,jqe,jzv _ _ (by rw[hl];omega),hl,Nat.add_sub_cancel_left,List.set_append_left _ _ (by rw[hz];exact hk)]
def gW(l1:List In)(y:InV):InV:=if y.1.op=13\/y.1.op=14 then(⟨y.1.op,y.1.v,y.1.a,y.1.b,y.1.n,y.1.bin,y.1.args,y.1.f,y.1.arr,((atW l1 y.1.to.toNat:Nat):Int)⟩,y.2)else y
def gL(l:List InV):List InV:=l.filter λy=>y.1.op !=0
section
variable {l1:List In}{y:InV}
def Ob(l1:List In)(y:InV):(gW l1 y).1.op=y.1.op:=by unfold gW;split<;>rfl
def UI(l1:List In)(y:InV):(gW l1 y).2=y.2:=by unfold gW;split<;>rfl
def Rb(l1:List In)(y:InV):(gW l1 y).1.args=y.1.args:=by unfold gW;split<;>rfl
def Qb(l:List InV):((gL l).map (gW (l.map (·.1)))).map (·.1)=bZ (l.map (·.1)):=by unfold bZ gL;rw[List.filter_map,qzx,qzx];refine jqj λy _=>?_;show(gW _ y).1=_;unfold gW;simp only[Function.comp];split<;>rfl
def Dg{l:List InV}{i:Nat}(h:l[i]? =some y):gL (l.take (i+1))=gL (l.take i)++(if y.1.op=0 then []else [y]):=by
 unfold gL;rw[jqw,h,List.filter_append];congr 1;by_cases e:y.1.op=0;·rw[qzb e];simp[e]
 ·rw[qzc e];simp[e]
def VX(l:List InV)(i:Nat):atW (l.map (·.1)) i=(gL (l.take i)).length:=by unfold atW gL;rw[<-List.map_take,List.filter_map,qqv];rfl
def mo(l1:List In)(i n:Nat):List Int:=(List.range n).map λj=>if j<i then((atW l1 j:Nat):Int)else 0
def WQ(l1:List In){i n:Nat}(hi:i<n):(mo l1 i n).set i ((atW l1 i:Nat):Int)=mo l1 (i+1) n:=by
 apply jqk;intro j;unfold mo;by_cases hj:j<n
 ·rw[qqp,qqz hj];by_cases e:j=i;·subst e;rw[jqb (by simpa using hj)];simp
  ·rw[jqd (λc=>e c.symm),qqp,qqz hj];simp only[jqf];congr 1;by_cases c:j<i;·rw[qzb c,qzb oqo]
   ·rw[qzc c,qzc oqo]
 ·rw[qza (by simp;omega),qza (by simp;omega)]
def SX{w:World}{base e size n:Nat}{v:Value}{xs:List Value}(h:w.ownsRow base e size v n xs):w.ownsRow 0 e size v n xs:=by
 refine⟨h.1,?_⟩;rcases h.2 with h|⟨g,cap,a,hv,_,r⟩;·exact Or.inl h
 ·exact Or.inr ⟨g,cap,a,hv,qqy _,r⟩
def TV{w w':World}{O:Nat->Prop}{lv v:Value}{l:List InV}{m:Nat}(h:bP w O lv l)(f:Below w.heap.size w w')(hm:m=((gL l).map (gW l1)).length)(hr:w'.ownsRow w.heap.size 71 10 v m (((gL l).map (gW l1)).flatMap aY)):bP w' (λk=>O k\/(w.heap.size<=k/\k<w'.heap.size)) v ((gL l).map (gW l1)):=by
 have t:=h.below f;have from_:∀z∈(gL l).map (gW l1),∃y∈l,z.1.op=y.1.op/\z.2=y.2/\z.1.args=y.1.args:=λz hz=>by obtain⟨y,a,rfl⟩:=qjb.1 hz;exact⟨y,(jxb.1 a).1,Ob l1 y,UI l1 y,Rb l1 y⟩
 have x:List.Pairwise (λy z:InV=>y.1.op=11->z.1.op=11->∀b,y.2.ownBlock=some b->z.2.ownBlock≠some b) l:=by rw[List.pairwise_iff_getElem];intro i j hi hj s h1 h2;exact h.ne i j _ _ oqo (qqh hi) (qqh hj) h1 h2
 have o:List.Pairwise (λy z:InV=>y.1.op=11->z.1.op=11->∀b,y.2.ownBlock=some b->z.2.ownBlock≠some b) ((gL l).map (gW l1)):=by rw[List.pairwise_map];refine(x.sublist List.filter_sublist).imp ?_;intro y z A h1 h2 b h3;rw[Ob]at h1 h2;rw[UI]at h3⊢;exact A h1 h2 b h3
 rw[List.pairwise_iff_getElem]at o;refine⟨by rw[<-hm];exact SX hr,λb u=>Or.inr (hr.lt b u),λz hz=>?_,λz hz ho=>?_,λi j y z s a hz h1 h2 b h3 r=>?_⟩;·obtain⟨y,a,d,q,e⟩:=from_ z hz;have:=(t.args y a).weak (O':=λk=>O k\/(w.heap.size<=k/\k<w'.heap.size)) λb f=>Or.inl f;unfold jA at this⊢;rw[d,q,e];exact this
 ·obtain⟨y,a,d,q,e⟩:=from_ z hz;rw[e];exact h.no y a (by rw[<-d];exact ho)
 ·obtain⟨hi,rfl⟩:=qqi.1 a;obtain⟨hj,rfl⟩:=qqi.1 hz;rcases Nat.lt_or_gt_of_ne s with c|c;·exact o i j hi hj c h1 h2 b h3 r
  ·exact o j i hj hi c h2 h1 b r h3
end
def WI{w:World}{G n c:Nat}{l:List InV}(h:dS w (.slice (some ⟨G,0,none⟩) n c) l){j:Nat}{y:InV}(d:l[j]? =some y):gF w G (j*10) y:=by
 obtain⟨A,r,e,_,hr⟩:=h;injection e with f _ _;rcases hr with a|⟨q,o,a,hr⟩;·rw[a]at d;simp at d
 ·rw[<-f]at a;injection a with a;injection a with k m _;have:=hr j y d;rw[<-k,<-m,qja]at this;exact this
def WH{y:InV}(h:(eQ y).toList.all (·.oneCell')=true)(u:Value)(hu:u∈aY y):u.oneCell'=true:=qqw.1 h u hu
def bP.OZ{w:World}{O:Nat->Prop}{lv:Value}{l:List InV}(h:bP w O lv l){y:InV}(a:y∈l):aD w y.2 y.1.args:=(h.args y a).ints
def set_self{α:Type}{l:List α}{i:Nat}{x:α}(h:l[i]? =some x):l.set i x=l:=by obtain⟨hi,rfl⟩:=qqi.1 h;exact List.set_getElem_self hi
def Rw(l1:List In)(n:Nat):(mo l1 0 n).flatMap bQ=List.replicate n (.int .i64 0):=by
 unfold mo;apply jqk;intro j;have e:∀l:List Int,l.flatMap bQ=l.map λk=>Value.int .i64 k:=λl=>by induction l with|nil=>rfl|cons a l ih=>rw[jqe,ih];rfl
 rw[e,qzx,qqp,qzt];by_cases hj:j<n;·rw[qqz hj,qzb hj];rfl
 ·rw[qza (by simp;omega),qzc hj];rfl
def Ke(lv:Value)(l:List InV)(O:Nat->Prop)(w:World)(h:bP w O lv l)(h0:0<l.length)(hn:l.length<=8000)(r0:∀x∈l,x.1.op=13\/x.1.op=14->0<=x.1.to/\x.1.to<l.length):Calls Tryz.prog 128 #[lv] w λe w'=>(∃v l',e=.returned v/\l'.map (·.1)=bZ (l.map (·.1))/\bP w' (λk=>O k\/(w.heap.size<=k/\k<w'.heap.size)) v l')/\Below w.heap.size w w':=by
 obtain⟨i0,n3,x3,y3,b4⟩:=jxo Wv;obtain⟨j0,p3,d4,h4,i4⟩:=jxo JV;obtain⟨n,j1⟩:∃n,n=l.length:=⟨_,rfl⟩;obtain⟨G,c,rfl⟩:∃G c,lv=.slice (some ⟨G,0,none⟩) n c:=by obtain⟨G,cap,hv,_,_⟩:=h.row.form h0;exact⟨G,cap,by rw[j1];exact hv⟩
 rw[<-j1]at h0 hn r0;have HN:=hqh j1;have H:=hqh h;have HT:=hqh r0;obtain⟨l1,r2⟩:∃l1,l1=l.map (·.1):=⟨_,rfl⟩;have d2:=hqh r2;clear j1 h r0 r2;go_enter Tryz.func128,Tryz.ntmps128;go_wp2_with(at_make;refine wpList_make_full _ rfl _ _ 22 rfl w.heap.size 3 j0 (.int .i64 0) 1 Tryz.underlying22 p3 d4 h4 .i64 .i64 n n n rfl rfl rfl rfl (by rw[i4];omega) (by unfold maxLen;omega) (qqf _) ?_);intro w1 y2 o2;have x1:w1.ownsRow w.heap.size 3 1 (.slice (some ⟨w.heap.size,0,none⟩) n n) n (madeCells #[.int .i64 0] n).toList:=by simpa using y2
 rw[toList_madeCells_one,<-Rw l1]at x1;have z1:=hqh x1;have a2:=hqh ((qjk w.heap.size w).grown o2 (qqf _) (λk e=>by cases e));clear y2 x1 o2;go_wp2_with fail;have j2:=hqh (show w1.ownsRow w.heap.size 71 10 (.slice none 0 0) (gL (l.take 0)).length ((gL (l.take 0)).flatMap aY)from World.ownsRow_nil _ _ _ _);go_loopw [4,14](λv4 v wr=>∃i:Nat,v=.int .i64 i/\i<=n/\Hid (Below w.heap.size w wr)/\Hid (wr.ownsRow w.heap.size 3 1 (.slice (some ⟨w.heap.size,0,none⟩) n n) n ((mo l1 i n).flatMap bQ))/\Hid (wr.ownsRow w.heap.size 71 10 v4 (gL (l.take i)).length ((gL (l.take i)).flatMap aY)))(λ_ v _=>match v with| .int _ x=>((n:Int)-x).toNat|_=>0);case atStart=>exact⟨0,rfl,qqy _,a2,z1,j2⟩
 case round=>
  clear a2 z1 j2;obtain⟨i,rfl,hi,B,N,d⟩:=hrel;rename World=>D;by_cases s2:(i:Int)<(n:Int)
  ·obtain⟨y,M⟩:∃y,l[i]? =some y:=⟨_,qqh (by have:=HN.o;omega)⟩;have d1:=hqh (WI H.o.ins M);have e0:=hqh (rH d1.o (B.o));have m1:(eQ y).toList.all (·.oneCell')=true:=by obtain⟨Y,c2,K,_⟩:=d1.o.args;unfold eQ;rw[K];rfl
   have HY:=hqh M;have b3:=hqh d1.o.args;clear M;obtain⟨m,hm⟩:∃m,m=(gL (l.take i)).length:=⟨_,rfl⟩;have x4:m<=i:=by rw[hm];exact qzi (jxi _ _) (by simp;omega)
   rw[<-hm]at d;have C:=hqh hm;clear hm;obtain⟨l0,cv,hv⟩:=dM d.o;subst hv;have l4:IntKind.i64.wrap ((i:Int)+1)=((i+1:Nat):Int):=by rw[jqv _ oqo];push_cast;rfl
   go_upto_region 5 with fail;apply jqn;iterate 6 go_step
   refine wpList_load_mid rfl 71 (.tmp 17) rfl G (i*10) rfl _ _ e0.o Tryz.underlying71 rfl kqk ?_;simp only[qqa,jzp];obtain⟨bx,T⟩:∃b,b=D.heap.size:=⟨_,rfl⟩;iterate 6 go_step
   rw[<-T];have o0:Blk (D.alloc (.cells dW 71)) bx 71 dW:=by rw[T];exact Blk.new _ _ _
   refine aF rfl 71 (.tmp 6) (.tmp 18) rfl bx (eQ y) rfl rfl 71 _ o0 rfl aX m1 ?_;intro z a1 p0;have L:Below D.heap.size D z:=((qjk _ _).alloc (qqf _) _).trans (p0.aO (by simp) λi e=>by omega);have X:=hqh a1;have Z:=hqh (B.o.trans (L.mono B.o.size));have E:=hqh (own_below N.o L);have F:=hqh (own_below d.o L);clear p0 a1 o0 L N d B e0 d1 T;refine jzi ?_;have n2:((mo l1 i n).flatMap bQ)[i]? =some (.int .i64 0):=by have:=iD bQ 1 (λ_=>rfl) (mo l1 i n) i 0 0 (by unfold mo;rw[qqp,qqz oqo];simp) (by decide);rw[jzc,qzz]at this;rw[this];rfl
   have ca:z.cell? ⟨w.heap.size,i,none⟩=some (.int .i64 0):=by rw[E.o.cellAt i oqo];exact n2
   have fa:z.frozen? ⟨w.heap.size,i,none⟩=false:=by obtain⟨m0,r1⟩:=aQ E.o (b:=w.heap.size) rfl;exact Blk.free (t:=3) (cs:=m0) r1 _
   have m2:∀b,(Value.slice l0 m cv).ownBlock=some b->b≠w.heap.size:=λb hb e=>by obtain⟨c1,s⟩:=aQ F.o hb;obtain⟨c2,K⟩:=aQ E.o (b:=w.heap.size) rfl;rw[e,K]at s;injection s with s;injection s with _ I;cases I
   have R:=hqh (show(z.setCell ⟨w.heap.size,i,none⟩ (.int .i64 (m:Int))).ownsRow w.heap.size 3 1 (.slice (some ⟨w.heap.size,0,none⟩) n n) n ((mo l1 (i+1) n).flatMap bQ)by have:=je (j:=i) E.o (.int .i64 (m:Int));rw[show(m:Int)=((atW l1 i:Nat):Int)by rw[d2.o,VX,<-C.o]]at this⊢;rw[<-WQ l1 oqo,qH bQ 1 (λ_=>rfl) 0 (.int .i64 ((atW l1 i:Nat):Int)) (by decide) (mo l1 i n) i 0 _ (by unfold mo;rw[qqp,qqz oqo];simp) rfl,jzc,qzz];exact this);have J:=hqh (di F.o (KO.set (O:=λk=>k=w.heap.size) (a:=⟨w.heap.size,i,none⟩) rfl (.int .i64 (m:Int))) m2);have P:=hqh (Z.o.setCell (p:=⟨w.heap.size,i,none⟩) (qqf _) (.int .i64 (m:Int)));have j3:bx≠w.heap.size:=λe=>by have:=X.o;obtain⟨c2,K⟩:=aQ E.o (b:=w.heap.size) rfl;unfold Blk at this;rw[e,K]at this;injection this with s;injection s with _ I;cases I
   have g1:=hqh (X.o.far j3 i (.int .i64 (m:Int)));go_upto_region 7 with fail;clear ca fa n2 m2;generalize z.setCell ⟨w.heap.size,i,none⟩ (.int .i64 (m:Int))=Q at R J P g1⊢;clear E F Z X;have x0:Q.cell? ⟨bx,0,none⟩=some (.int .u8 y.1.op):=g1.o.cell 0;obtain⟨A,U⟩:∃A,A=y.1.op:=⟨_,rfl⟩;rw[<-U]at x0;have W:=hqh U;clear U;by_cases ho:A=0;·subst ho;have d0:=hqh (show Q.ownsRow w.heap.size 71 10 (.slice l0 m cv) (gL (l.take (i+1))).length ((gL (l.take (i+1))).flatMap aY)by rw[Dg HY.o,qzb W.o.symm,jxd,<-C.o];exact J.o);go_wp2_with fail;exact⟨⟨i+1,by push_cast;rfl,by omega,P,R,d0⟩,by show((n:Int)-((i:Int)+1)).toNat<((n:Int)-(i:Int)).toNat;omega⟩
   ·have s3:((A:Nat):Int)≠0:=by omega
    have b5:(((A:Nat):Int)==0)=false:=qqe.2 s3;go_upto_region 8 with fail;apply jqn;iterate 3 go_step
    refine aU rfl 71 (.tmp 6) rfl bx rfl 71 _ _ g1.o Tryz.underlying71 rfl aX ?_;simp only[qqa];obtain⟨Y,c2,x2,_,_⟩:=b3.o;unfold eQ;rw[x2];iterate 3 go_step
    obtain⟨bq,q1⟩:∃b,b=Q.heap.size:=⟨_,rfl⟩;have S:∀o,Below Q.heap.size Q (Q.alloc o):=λo=>(qjk _ _).alloc (qqf _) _;have h5:Blk (Q.alloc (.cells #[.int .u8 y.1.op,.int .i64 y.1.v,.int .i64 y.1.a,.int .i64 y.1.b,.int .i64 y.1.n,.int .u8 y.1.bin,.slice Y y.1.args.length c2,.int .i64 y.1.f,.int .i64 y.1.arr,.int .i64 y.1.to] 71)) bq 71 (eQ y):=by unfold eQ;rw[x2,q1];exact Blk.new _ _ _
    have S:=S (.cells #[.int .u8 y.1.op,.int .i64 y.1.v,.int .i64 y.1.a,.int .i64 y.1.b,.int .i64 y.1.n,.int .u8 y.1.bin,.slice Y y.1.args.length c2,.int .i64 y.1.f,.int .i64 y.1.arr,.int .i64 y.1.to] 71);rw[<-q1];generalize Q.alloc (.cells #[.int .u8 y.1.op,.int .i64 y.1.v,.int .i64 y.1.a,.int .i64 y.1.b,.int .i64 y.1.n,.int .u8 y.1.bin,.slice Y y.1.args.length c2,.int .i64 y.1.f,.int .i64 y.1.arr,.int .i64 y.1.to] 71)=W5 at h5 S⊢;have d0:=hqh (own_below J.o S);have n1:=hqh (own_below R.o S);have o1:=hqh (P.o.trans (S.mono P.o.size));have H5:=hqh h5;clear S h5 q1 x0 R J P g1;refine jxx _ rfl _ _ 65 rfl w.heap.size 71 i0 (.agg #[.int .u8 0,.int .i64 0,.int .i64 0,.int .i64 0,.int .i64 0,.int .u8 0,.slice none 0 0,.int .i64 0,.int .i64 0,.int .i64 0]) 10 96 Tryz.underlying65 n3 x3 y3 b4 rfl (by decide) _ _ _ rfl d0.o ⟨bq,0,none⟩ 1 1 (aY y) rfl rfl (λq u hq=>?_) (λu hu=>?_) (by unfold maxLen;omega) oqo o1.o.size ?_;·rw[Addr.add_mid,H5.o.cell,qja,<-qjf];exact hq
    ·have:=WH m1 u hu;exact this
    intro v6 w6 t2 t1 _;have z2:=hqh (bW n1.o (w':=w6) λk hk=>t1.block k (n1.o.lt k hk).2 (λe=>by obtain⟨c1,s⟩:=aQ d0.o e.symm;obtain⟨c2,I⟩:=aQ n1.o hk;rw[s]at I;injection I with I;injection I with _ e4;cases e4));have d3:=hqh (o1.o.grown t1 o1.o.size (λq e=>(d0.o.lt q e).1));have g3:=hqh (show w6.ownsRow w.heap.size 71 10 v6 (gL (l.take (i+1))).length ((gL (l.take (i+1))).flatMap aY)by rw[Dg HY.o,qzc (by rw[<-W.o];exact ho),qzl,jza,<-C.o];simpa using t2);clear t2 t1;go_wp2_with fail;exact⟨⟨i+1,by push_cast;rfl,by omega,d3,z2,g3⟩,by show((n:Int)-((i:Int)+1)).toNat<((n:Int)-(i:Int)).toNat;omega⟩
  ·have i1:i=n:=by omega
   rw[i1]at N d;rw[jqc (by have:=HN.o;omega)]at d;obtain⟨fl,s1⟩:∃fl,fl=gL l:=⟨_,rfl⟩;rw[<-s1]at d;have V:=hqh s1;clear s1;obtain⟨m,hm⟩:∃m,m=fl.length:=⟨_,rfl⟩;have y4:m<=n:=by rw[hm,V.o,HN.o];exact jxi _ _
   rw[<-hm]at d;have C:=hqh hm;clear hm;obtain⟨l0,cv,hv⟩:=dM d.o;subst hv;have g2:=hqh (show D.ownsRow w.heap.size 71 10 (.slice l0 m cv) m (((fl.take 0).map (gW l1)++fl.drop 0).flatMap aY)by simpa using d.o);clear d;go_wp2_with fail;go_loopw [34](λv wr=>∃i:Nat,v=.int .i64 i/\i<=m/\Hid (Below w.heap.size w wr)/\Hid (wr.ownsRow w.heap.size 3 1 (.slice (some ⟨w.heap.size,0,none⟩) n n) n ((mo l1 n n).flatMap bQ))/\Hid (wr.ownsRow w.heap.size 71 10 (.slice l0 m cv) m (((fl.take i).map (gW l1)++fl.drop i).flatMap aY)))(λv _=>match v with| .int _ x=>((m:Int)-x).toNat|_=>0);case atStart=>exact⟨0,rfl,qqy _,B,N,g2⟩
   case round=>
    clear B N g2 s2 i1 hi;obtain⟨i,rfl,hi,B,N,d⟩:=hrel;rename World=>D;by_cases s2:(i:Int)<(m:Int)
    ·obtain⟨y,M⟩:∃y,fl[i]? =some y:=⟨_,qqh (by have:=C.o;omega)⟩;have y1:y∈l:=by have:=qqr M;rw[V.o]at this;exact(jxb.1 this).1
     obtain⟨g,_,hV,_,_⟩:=d.o.form oqo;injection hV with hV _ l3;subst hV;subst l3;obtain⟨li,q0⟩:∃li,li=(fl.take i).map (gW l1)++fl.drop i:=⟨_,rfl⟩;have r3:li.length=m:=by rw[q0,qzl,qqv,jqg,List.length_drop];have:=C.o;omega
     have v1:li[i]? =some y:=by rw[q0,qze (by rw[qqv,jqg];omega),qqv,jqg,jqy (by have:=C.o;omega),jzg,jzs,qzz];exact M
     have v2:li.set i (gW l1 y)=(fl.take (i+1)).map (gW l1)++fl.drop (i+1):=by
      rw[q0,jzv _ _ (by rw[qqv,jqg];omega),qqv,jqg,jqy (by have:=C.o;omega),jzg,jqw,M];have o3:i<fl.length:=by have:=C.o;omega
      rw[jqq o3,qqj,jzy,List.append_assoc];rfl
     rw[<-q0]at d;have e0:=hqh (show D.rangeAt g (i*10) (eQ y).toList from λj v hv=>by have hj:j<10:=(qqi.1 hv).1;have q3:(i+1)*10<=m*10:=jqo _ oqo;rw[d.o.cellAt (i*10+j) oqo,iD aY 10 (λ_=>rfl) li i j y v1 hj];exact hv);have m1:(eQ y).toList.all (·.oneCell')=true:=by obtain⟨Y,c2,K,_⟩:=H.o.OZ y1;unfold eQ;rw[K];rfl
     have HY:=hqh M;have p1:=hqh v1;have l2:=hqh v2;have i3:=hqh y1;clear M q0 v1 v2 y1 r3;have l4:IntKind.i64.wrap ((i:Int)+1)=((i+1:Nat):Int):=by rw[jqv _ oqo];push_cast;rfl
     have q2:∃m0,D.heap[g]? =some (.cells m0 71 (0,0)):=aQ d.o (b:=g) rfl;have m4:=hqh q2;clear q2;go_upto_region 12 with fail;apply jqn;iterate 6 go_step
     refine wpList_load_mid rfl 71 (.tmp 37) rfl g (i*10) rfl _ _ e0.o Tryz.underlying71 rfl kqk ?_;simp only[qqa,jzp];obtain⟨bx,T⟩:∃b,b=D.heap.size:=⟨_,rfl⟩;iterate 6 go_step
     rw[<-T];have o0:Blk (D.alloc (.cells dW 71)) bx 71 dW:=by rw[T];exact Blk.new _ _ _
     refine aF rfl 71 (.tmp 8) (.tmp 38) rfl bx (eQ y) rfl rfl 71 _ o0 rfl aX m1 ?_;intro z a1 p0;have L:Below D.heap.size D z:=((qjk _ _).alloc (qqf _) _).trans (p0.aO (by simp) λi e=>by omega);have X:=hqh a1;have Z:=hqh (B.o.trans (L.mono B.o.size));have E:=hqh (own_below N.o L);have F:=hqh (own_below d.o L);clear p0 a1 o0 L N d B e0 T;refine jzi ?_;have x0:z.cell? ⟨bx,0,none⟩=some (.int .u8 y.1.op):=X.o.cell 0;obtain⟨A,U⟩:∃A,A=y.1.op:=⟨_,rfl⟩;rw[<-U]at x0;have W:=hqh U;clear U;by_cases ho:A=13\/A=14
     ·have r0:=HT.o y i3.o (by rw[<-W.o];exact ho);obtain⟨r,s0⟩:∃r,y.1.to=((r:Nat):Int):=⟨y.1.to.toNat,by omega⟩;have x9:z.cell? ⟨bx,9,none⟩=some (.int .i64 (r:Int)):=by rw[<-s0];exact X.o.cell 9
      rw[s0]at r0;have w2:r<n:=oqo;have d5:(r:Int)<(n:Int):=oqo;have y0:gW l1 y=(⟨y.1.op,y.1.v,y.1.a,y.1.b,y.1.n,y.1.bin,y.1.args,y.1.f,y.1.arr,((atW l1 r:Nat):Int)⟩,y.2):=by unfold gW;rw[qzb (by rw[<-W.o];exact ho),s0,jzf]
      have s4:z.cell? ⟨w.heap.size,r,none⟩=some (.int .i64 ((atW l1 r:Nat):Int)):=by rw[E.o.cellAt r oqo];have:=iD bQ 1 (λ_=>rfl) (mo l1 n n) r 0 ((atW l1 r:Nat):Int) (by unfold mo;rw[qqp,qqz w2];simp[w2]) (by decide);rw[jzc,qzz]at this;rw[this];rfl
      have q3:(i+1)*10<=m*10:=jqo _ oqo;have r4:z.cell? ⟨g,i*10+9,none⟩=some (.int .i64 (r:Int)):=by rw[F.o.cellAt (i*10+9) oqo,iD aY 10 (λ_=>rfl) li i 9 y p1.o (by decide),<-s0];rfl
      have w4:z.frozen? ⟨g,i*10+9,none⟩=false:=by obtain⟨m0,r1⟩:=aQ F.o (b:=g) rfl;exact Blk.free (t:=71) (cs:=m0) r1 _
      have J:=hqh (show(z.setCell ⟨g,i*10+9,none⟩ (.int .i64 ((atW l1 r:Nat):Int))).ownsRow w.heap.size 71 10 (.slice (some ⟨g,0,none⟩) m _) m (((fl.take (i+1)).map (gW l1)++fl.drop (i+1)).flatMap aY)by have:=je (j:=i*10+9) F.o (.int .i64 ((atW l1 r:Nat):Int));rw[OW aY 10 (λ_=>rfl) (y:=gW l1 y) p1.o (by decide) _ (by rw[y0];rfl),l2.o]at this;exact this);have p2:g≠w.heap.size:=λe=>by obtain⟨c1,s⟩:=aQ F.o (b:=g) rfl;obtain⟨c2,K⟩:=aQ E.o (b:=w.heap.size) rfl;rw[e,K]at s;injection s with s;injection s with _ I;cases I
      have R:=hqh (di E.o (KO.set (O:=λk=>k=g) (a:=⟨g,i*10+9,none⟩) rfl (.int .i64 ((atW l1 r:Nat):Int))) (λb hb e=>by
       have s:w.heap.size=b:=by injection hb
       exact p2 (by rw[s];exact e.symm)));have m3:=(F.o.lt g rfl).1;have P:=hqh (Z.o.setCell (p:=⟨g,i*10+9,none⟩) m3 (.int .i64 ((atW l1 r:Nat):Int)));clear s0 y0 p2;rcases ho with rfl|rfl;·go_wp2_with fail;exact⟨⟨i+1,by push_cast;rfl,by omega,P,R,J⟩,by show((m:Int)-((i:Int)+1)).toNat<((m:Int)-(i:Int)).toNat;omega⟩
      ·go_wp2_with fail;exact⟨⟨i+1,by push_cast;rfl,by omega,P,R,J⟩,by show((m:Int)-((i:Int)+1)).toNat<((m:Int)-(i:Int)).toNat;omega⟩
     ·have y0:gW l1 y=y:=by unfold gW;rw[qzc (by rw[<-W.o];exact ho)]
      have J:=hqh (show z.ownsRow w.heap.size 71 10 (.slice (some ⟨g,0,none⟩) m _) m (((fl.take (i+1)).map (gW l1)++fl.drop (i+1)).flatMap aY)by rw[<-l2.o,y0,set_self p1.o];exact F.o);have n4:(((A:Nat):Int)==13)=false:=qqe.2 oqo;have p4:(((A:Nat):Int)==14)=false:=qqe.2 oqo;have o4:((A:Nat):Int)≠13:=oqo;have q4:((A:Nat):Int)≠14:=oqo;clear y0;go_wp2_with fail;exact⟨⟨i+1,by push_cast;rfl,by omega,Z,E,J⟩,by show((m:Int)-((i:Int)+1)).toNat<((m:Int)-(i:Int)).toNat;omega⟩
    ·have i1:i=m:=by omega
     rw[i1]at d;rw[jqc (by have:=C.o;omega),jxs (by have:=C.o;omega),jxd]at d;go_wp2_with fail;go_ret;refine⟨⟨_,rfl,fl.map (gW l1),by rw[V.o,d2.o];exact Qb l,?_⟩,B.o⟩;have ho:=d.o;rw[V.o]at ho;rw[V.o];exact TV H.o B.o (by rw[qqv,C.o,V.o]) ho
def FQ{α:Type}{l m:List α}{i:Nat}{x:α}(h:l.take i=m.take i)(a:l[i]? =some x)(c:m[i]? =some x):l.take (i+1)=m.take (i+1):=by rw[jqw,jqw,a,c,h]
def Pq(F:FuncId)(hF:F=58\/F=61)(v u:Value)(f ls:List Int)(w:World)(h:aD w v f)(k:aD w u ls)(h1:f.length<=1000000):Calls Tryz.prog F #[v,u] w λe w'=>e=.returned (.bool (decide (f=ls)))/\Below w.heap.size w w':=by obtain⟨A,c,rfl,hc,h⟩:=h;obtain⟨A2,c2,rfl,m0,k⟩:=k;obtain⟨n,hn⟩:∃n,n=f.length:=⟨_,rfl⟩;obtain⟨n2,Q⟩:∃n,n=ls.length:=⟨_,rfl⟩;rw[<-hn,<-Q];have H:=hqh h;have K:=hqh k;have C:=hqh hn;have I:=hqh Q;have H1:=hqh h1;obtain⟨res,S⟩:∃r,r=decide (f=ls):=⟨_,rfl⟩;rw[<-S];have HR:=hqh S;clear h k hn Q hc m0 h1 S;rcases hF with rfl|rfl<;>(
  first|go_enter Tryz.func58,Tryz.ntmps58|go_enter Tryz.func61,Tryz.ntmps61
  by_cases R:n=n2;case neg=>
   have hb:((n:Int)!=(n2:Int))=true:=by simp;omega
   have J:=hqh (show res=false by rw[HR.o];exact qqt (λe=>R (by rw[C.o,I.o,e])));clear R;go_wp2_with fail;go_ret;exact⟨bR J.o.symm,qjk _ _⟩
  case pos=>
   subst R;have hb:((n:Int)!=(n:Int))=false:=by simp
   go_wp2_with fail;go_loopg [13]n(λgk v wr=>∃i:Nat,i<=n/\n-i<=gk/\v=.int .i64 i/\Hid (Below w.heap.size w wr)/\Hid (f.take i=ls.take i));case atStart=>exact⟨0,qqy _,qqf _,rfl,hqh (qjk _ _),hqh (by simp)⟩
   case round=>
    obtain⟨i,hi,q0,rfl,j,V⟩:=hrel;by_cases Z:i<n;case neg=>have q:decide ((i:Int)<(n:Int))=false:=qqt oqo;have HY:=hqh (show res=true by have:=V.o;rw[jqc (by rw[<-C.o];omega),jqc (by rw[<-I.o];omega)]at this;rw[HR.o];exact qqx this);go_wp2_with fail;go_ret;exact⟨bR HY.o.symm,j.o⟩
    case pos=>
     have q:decide ((i:Int)<(n:Int))=true:=qqx oqo;obtain⟨y,x⟩:∃y,f[i]? =some y:=⟨_,qqh (by rw[<-C.o];exact Z)⟩;obtain⟨z,hz⟩:∃y,ls[i]? =some y:=⟨_,qqh (by rw[<-I.o];exact Z)⟩;obtain⟨l,m,rfl,N⟩:∃b o,A=some ⟨b,o,none⟩/\wr.cell? ⟨b,o+i*1,none⟩=some (.int .i64 y):=by
      rcases H.o with e|⟨b,o,e,q⟩;·rw[e]at x;simp at x
      ·exact⟨b,o,e,aa j.o (q i y x)⟩
     obtain⟨s,co,rfl,P⟩:∃b o,A2=some ⟨b,o,none⟩/\wr.cell? ⟨b,o+i*1,none⟩=some (.int .i64 z):=by
      rcases K.o with e|⟨b,o,e,q⟩;·rw[e]at hz;simp at hz
      ·exact⟨b,o,e,aa j.o (q i z hz)⟩
     rw[jzc]at N P;have i0:=hqh N;have j0:=hqh P;have W:=hqh x;have X:=hqh hz;have e0:=hqh (show(i:Int)<(n:Int)by omega);clear N P x hz;go_upto_region 6 with fail;refine gy [(none,.slice (some ⟨l,m,none⟩) n c),(none,.int .i64 (i:Int)),(none,.pointer (some ⟨l,m+i,none⟩)),(none,.int .i64 y),(none,.slice (some ⟨s,co,none⟩) n c2),(none,.int .i64 (i:Int)),(none,.pointer (some ⟨s,co+i,none⟩)),(none,.int .i64 z),(none,.bool (y !=z))] mixed kqk ?_;intro E AA L hF;have Y:aN E [(0,.slice (some ⟨l,m,none⟩) n c),(1,.slice (some ⟨s,co,none⟩) n c2),(5,.int .i64 (i:Int)),(16,.slice (some ⟨l,m,none⟩) n c),(17,.int .i64 (i:Int)),(18,.pointer (some ⟨l,m+i,none⟩)),(19,.int .i64 y),(20,.slice (some ⟨s,co,none⟩) n c2),(21,.int .i64 (i:Int)),(22,.pointer (some ⟨s,co+i,none⟩)),(23,.int .i64 z),(24,.bool (y !=z))]:=by unfold aN;rw[hF,L];kernel_rfl
     have U:=hqh hF;clear hF;have G:=hqh L;clear L;refine⟨?_,?_⟩
     ·intro l0 t;repeat clear‹∀(a:Act)(w:World),Code.wp Tryz.prog _ _ a w->_›
      have o0:=dn;have p0:=dm;have r0:=e0.o;have zA:=Y.all;repeat(obtain⟨_,zA⟩:=zA)
      have x0:=aa t i0.o;have y0:=aa t j0.o;exact rZ
     intro l0 t;clear Y;obtain⟨d,M⟩:∃d:Nat->Value,E=bI [(16,d 16),(17,d 17),(18,d 18),(19,d 19),(20,d 20),(21,d 21),(22,d 22),(23,d 23),(24,.bool (y !=z))] AA:=⟨λk=>E.tmps.getD k undef,by rw[U.o,G.o];kernel_rfl⟩;clear U;rw[G.o]at M;clear G;simp only[bI,Act.put,qqb]at M;subst M;refine jzi ?_;have T:=hqh (j.o.trans (t.mono j.o.size));clear t;cases B:(y !=z)with|true=>have J:=hqh (show res=false by rw[HR.o];refine qqt λe=>?_;have D:=W.o;rw[e,X.o]at D;injection D with D;rw[D]at B;simp at B);clear B;go_wp2_with fail;go_ret;exact⟨bR J.o.symm,T.o⟩|false=>
      have d0:=hqh (FQ V.o W.o (show ls[i]? =some y by rw[show y=z by simpa using B];exact X.o));have s0:n<=1000000:=by rw[C.o];exact H1.o
      clear B;go_wp2_with fail;cases gk with|zero=>omega|succ gk=>
       go_roundg gk;case measure=>omega
       case rel=>exact⟨i+1,by omega,by omega,by simp,T,d0⟩)
