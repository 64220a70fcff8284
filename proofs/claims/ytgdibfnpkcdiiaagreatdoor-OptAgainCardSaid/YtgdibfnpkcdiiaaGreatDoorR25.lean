/- Joint text: OSweep, OPackP, OPacked. By an AI agent. -/
import Derived.Test.YtgdibfnpkcdiiaaGreatDoorRzy
import Derived.Test.YtgdibfnpkcdiiaaGreatDoorR19
import Derived.Test.YtgdibfnpkcdiiaaGreatDoorR24
set_option linter.all false
set_option maxRecDepth 100000
set_option maxHeartbeats 64000000
namespace Go.Proofs.YtgdibfnpkcdiiaaGreatDoor
open Go.RowKit
structure SwI(w0:World)(O:Nat->Prop)(lv:Value)(p:Nat->Bool)(b:List In)(i:Nat)(w:World)(li:List InV):Prop where
 own:bP w O lv li
 ko:KO O w0 w
 code:li.map (·.1)=eT p b i
def mf:InV:=({},.slice none 0 0)
section
variable {w0 w w':World}{O:Nat->Prop}{g n cap:Nat}{p:Nat->Bool}{b:List In}{i:Nat}{li:List InV}
theorem SwI.len{lv:Value}(h:SwI w0 O lv p b i w li):li.length=b.length:=by have:=jqi List.length h.code;rw[nP]at this;simpa using this
theorem SwI.at{lv:Value}(h:SwI w0 O lv p b i w li)(hi:i<b.length):∃y,li[i]? =some y/\b[i]? =some y.1:=by obtain⟨y,a⟩:∃y,li[i]? =some y:=⟨_,qqh (by rw[h.len];exact hi)⟩;refine⟨y,a,?_⟩;rw[<-um p (qqf i),<-h.code,qqp,a];rfl
theorem Mj{x:In}(h:x∈eT p b i):x={}\/x∈b:=by
 unfold eT at h;obtain⟨j,hj,rfl⟩:=qjb.1 h;rw[qzg]at hj;split;·exact Or.inl rfl
 ·right;rw[qqm,qqh hj];exact List.getElem_mem hj
theorem SwI.all{lv:Value}{Q:In->Prop}(h:SwI w0 O lv p b i w li)(h1:Q {})(h2:∀x∈b,Q x):∀y∈li,Q y.1:=λy a=>by
 have:y.1∈eT p b i:=by rw[<-h.code];exact qjb.2 ⟨y,a,rfl⟩
 rcases Mj this with e|e;·rw[e];exact h1
 ·exact h2 _ e
theorem TI{w:World}{G n c:Nat}{l:List InV}(h:dW w (.slice (some ⟨G,0,none⟩) n c) l){i t:Nat}(hi:i<=t)(ht:t<=l.length):dW w (.slice (some ⟨G,i*10,none⟩) (t-i) (c-i)) ((l.take t).drop i):=by
 obtain⟨A,q,e,hc,hr⟩:=h;injection e with f k d;subst f;subst k;subst d;refine⟨_,_,by rw[List.length_drop,jqm,jzd ht],by rw[List.length_drop,jqm,jzd ht];omega,?_⟩;rcases hr with rfl|⟨b,o,e,hr⟩;·exact Or.inl (by simp)
 ·injection e with e;injection e with d m _;subst d;subst m;refine Or.inr ⟨_,_,rfl,λj x a=>?_⟩;rw[jzq,qzw]at a;split at a;·have:=hr (i+j) x a;rwa[show 0+(i+j)*10=i*10+j*10 by omega]at this
  ·cases a
theorem LF{p:Nat->Bool}{b:List In}{i j:Nat}(hj:i<=j)(t:Nat):((eT p b i).take t).drop j=(b.take t).drop j:=by
 apply jqq;intro k;rw[jzq,jzq,qzw,qzw];split;·exact um p oqo
 ·rfl
theorem vF{F:Act}{V:World}{o:Oper}{a k:Nat}{cs:Array Value}(ho:o.op=.load 71 (.tmp k))(c:F.tmps[k]? =some (.pointer (some ⟨a,0,none⟩)))(hc:V.rangeAt a 0 cs.toList)(hs:cs.size=10):(execOp F.eval o).run Tryz.prog V=.ok (.value (.agg cs)) V:=by
 have d:F.eval (.tmp k)=.pointer (some ⟨a,0,none⟩):=by simp[Act.eval,c]
 have hi:(Tryz.prog.info? 71).map (·.size)=some cs.toList.length:=by rw[jqh,hs];kernel_rfl
 unfold execOp;simp only[ho,d,Instr.loadAt,Instr.sureAddr,qjm,jzc,qjl,run_loadVar_mid V a 0 71 cs.toList _ hc Tryz.underlying71 rfl hi,jzg]
theorem SwI.ins(h:SwI w0 O (.slice (some ⟨g,0,none⟩) n cap) p b i w li){j:Nat}{y:InV}(d:li[j]? =some y):fu w g (j*10) y:=by
 obtain⟨A,c,e,_,hr⟩:=h.own.ins;injection e with f _ _;rcases hr with a|⟨m,o,a,hr⟩;·rw[a]at d;simp at d
 ·rw[<-f]at a;injection a with a;injection a with k l _;have:=hr j y d;rw[<-k,<-l,qja]at this;exact this
theorem SwI.below{lv:Value}(h:SwI w0 O lv p b i w li)(a:Below w.heap.size w w'):SwI w0 O lv p b i w' li:=⟨h.own.below a,h.ko.trans (KO.below a),h.code⟩
theorem SwI.skip{lv:Value}(h:SwI w0 O lv p b i w li)(a:p i=false):SwI w0 O lv p b (i+1) w li:=⟨h.own,h.ko,by rw[I9 a];exact h.code⟩
theorem SwI.set(h:SwI w0 O (.slice (some ⟨g,0,none⟩) n cap) p b i w li)(a:O g)(hi:i<b.length)(d:p i=true):SwI w0 O (.slice (some ⟨g,0,none⟩) n cap) p b (i+1) (w.setCells g (i*10) (bI mf)) (li.set i mf):=by
 obtain⟨y,e,_⟩:=h.at hi;refine⟨h.own.set e (KO.below (qjk _ _)) (Or.inl ⟨by decide,?_⟩) (λc=>by cases c) (λ_=>rfl),h.ko.trans (KO.puts a _ _ _),?_⟩;·exact⟨rfl,bO w none 0⟩
 ·rw[List.map_set,h.code];exact Np d hi
theorem SwI.there(h:SwI w0 O (.slice (some ⟨g,0,none⟩) n cap) p b i w li)(hi:i<b.length):w.there g (i*10) 10:=by obtain⟨y,a,_⟩:=h.at hi;exact h.own.there a (KO.below (qjk _ _))
end
theorem AB:(bI mf).toArray.all (·.oneCell')=true:=vG rfl
theorem Ig:jM {}:=⟨λu h=>(by cases h),λv h=>(by cases h)⟩
open Classical in theorem Lv(lv:Value)(l:List InV)(O:Nat->Prop)(w:World)(h:bP w O lv l)(hO:∀k,O k->k<w.heap.size)(h0:0<l.length)(hn:l.length<=8000)(r0:∀x∈l,0<=x.1.to/\x.1.to<=l.length)(x3:∀x∈l,x.1.op<15)(hv:∀x∈l,jM x.1)(l3:∀x∈l,x.1.args.length<=1000):Calls Tryz.prog 127 #[lv] w λe w'=>e=.returned (.tuple #[])/\∃l',l'.map (·.1)=dH (l.map (·.1))/\bP w' O lv l'/\KO O w w':=by
 have hm:=bY
 obtain⟨n,p0⟩:∃n,n=l.length:=⟨_,rfl⟩;obtain⟨G,c,rfl,j3⟩:∃G c,lv=.slice (some ⟨G,0,none⟩) n c/\O G:=by obtain⟨G,cap,hv,_,_⟩:=h.row.form h0;exact⟨G,cap,by rw[p0];exact hv,h.uf G (by rw[hv];rfl)⟩
 rw[<-p0]at h0 hn r0;have HN:=hqh p0;have H:=hqh h;have HO:=hqh hO;have HT:=hqh r0;have q4:=hqh x3;have HV:=hqh hv;have o4:=hqh l3;have s0:=hqh j3;have RC:=xE (.slice (some ⟨G,0,none⟩) n c) l w h.ins oqo (λx o=>(r0 x o).1);clear p0 h hO r0 x3 hv l3 j3;go_enter Tryz.func127,Tryz.ntmps127;go_wp2_with(first
  | (go_at_call 90;refine RC.mono ?_;rintro e w1⟨⟨bv,rfl,l2⟩,m3⟩;obtain⟨BG,cb,rfl,x5⟩:∃BG cb,bv=.slice (some ⟨BG,0,none⟩) n cb/\w.heap.size<=BG:=by
       have:=l2;unfold bJ at this;have i5:(jk (l.map (·.1))).length=n:=by rw[HN.o];simp[jk]
       rw[i5]at this;obtain⟨G',cap,hv,_,_⟩:=this.form h0;exact⟨G',cap,hv,(this.lt G' (by rw[hv];rfl)).1⟩
     have i2:=hqh l2;have g2:=hqh m3;clear l2 m3)|fail);clear RC;obtain⟨b1,m1⟩:∃b1,b1=l.map (·.1):=⟨_,rfl⟩;have d6:b1.length=n:=by rw[m1,qqv,HN.o]
 obtain⟨p1,y3⟩:∃p1:Nat->Bool,p1=λj=>decide (¬Reach b1 j/\j+1<b1.length):=⟨_,rfl⟩;have a1:=hqh (show SwI w O (.slice (some ⟨G,0,none⟩) n c) p1 b1 0 w1 l from⟨H.o.below g2.o,KO.below g2.o,by rw[sD,m1]⟩);rw[<-m1]at i2;have y1:=hqh y3;have r2:=hqh m1;clear y3 m1;have o6:IntKind.i64.wrap ((n:Int)-1)=(n:Int)-1:=jqs _ oqo;go_loopw [16](λv wr=>∃(i:Nat)(li:List InV),v=.int .i64 i/\i<=n/\Hid (SwI w O (.slice (some ⟨G,0,none⟩) n c) p1 b1 i wr li)/\Hid (bJ wr w.heap.size (.slice (some ⟨BG,0,none⟩) n cb) (jk b1)))(λv _=>match v with| .int _ x=>((n:Int)-x).toNat|_=>0);case atStart=>exact⟨0,l,rfl,qqy _,a1,i2⟩
 case round=>
  clear a1 i2 g2;obtain⟨i,li,rfl,hi,f,HB⟩:=hrel;rename World=>D;by_cases d2:(i:Int)<(n:Int)
  ·have J:i<b1.length:=by omega
   obtain⟨y,R,l0⟩:=f.o.at J;obtain⟨j2,_⟩:=HB.o.cell (show(jk b1)[i]? =some (decide (Reach b1 i))by unfold jk;rw[qqp,qqz J];rfl);have n4:IntKind.i64.wrap ((i:Int)+1)=(i:Int)+1:=jqs _ oqo;by_cases hR:Reach b1 i;·rw[qqx hR]at j2;have M:=hqh (f.o.skip (by rw[y1.o];exact qqt λc=>c.1 hR));go_wp2_with fail;exact⟨⟨i+1,li,by push_cast;rfl,by omega,M,HB⟩,by show((n:Int)-((i:Int)+1)).toNat<((n:Int)-(i:Int)).toNat;omega⟩
   ·rw[qqt hR]at j2;by_cases i6:(i:Int)<(n:Int)-1
    ·have hp:p1 i=true:=by rw[y1.o];exact qqx ⟨hR,by omega⟩
     have M:=hqh (f.o.set s0.o J hp);have g1:=hqh (f.o.there J);have m0:=hqh (show bJ (D.setCells G (i*10) (bI mf)) w.heap.size (.slice (some ⟨BG,0,none⟩) n cb) (jk b1)from dm HB.o (KO.puts (O:=λk=>k=G) rfl _ _ _) λb e c=>by
      have e2:BG=b:=by injection e
      have c2:b=G:=c;have:=HO.o G s0.o;omega);go_upto_region 5 with fail;apply jqf;iterate 12 go_step
     refine jxs rfl 71 (.tmp 31) (.tmp 30) rfl G (i*10) (bI mf).toArray rfl rfl g1.o kqk AB ?_;rw[List.toList_toArray];generalize D.setCells G (i*10) (bI mf)=W2 at M m0⊢;refine jza ?_;clear j2;go_wp2_with fail;exact⟨⟨i+1,li.set i mf,by push_cast;rfl,by omega,M,m0⟩,by show((n:Int)-((i:Int)+1)).toNat<((n:Int)-(i:Int)).toNat;omega⟩
    ·have M:=hqh (f.o.skip (by rw[y1.o];exact qqt λc=>by omega));go_wp2_with fail;exact⟨⟨i+1,li,by push_cast;rfl,by omega,M,HB⟩,by show((n:Int)-((i:Int)+1)).toNat<((n:Int)-(i:Int)).toNat;omega⟩
  ·have i0:i=b1.length:=by omega
   rw[i0]at f;clear HB;have K:∀y∈li,0<=y.1.to/\y.1.to<=(n:Int)/\y.1.op<15/\jM y.1/\y.1.args.length<=1000:=f.o.all (Q:=λx=>0<=x.to/\x.to<=(n:Int)/\x.op<15/\jM x/\x.args.length<=1000) ⟨by decide,by show(0:Int)<=_;omega,by decide,Ig,by decide⟩ λx o=>by rw[r2.o]at o;obtain⟨z,hz,rfl⟩:=qjb.1 o;exact⟨(HT.o z hz).1,(HT.o z hz).2,q4.o z hz,HV.o z hz,o4.o z hz⟩
   have j0:li.length=n:=by rw[f.o.len];omega
   have LV:=El (.slice (some ⟨G,0,none⟩) n c) li D f.o.own.ins oqo oqo (λx o=>⟨(K x o).1,by rw[j0];exact(K x o).2.1⟩) (λx o=>(K x o).2.2.1) (λx o=>(K x o).2.2.2.1) (λx o=>(K x o).2.2.2.2);obtain⟨b2,n1⟩:∃b2,b2=li.map (·.1):=⟨_,rfl⟩;rw[<-n1,j0]at LV;have v1:=hqh n1;have HQ:=hqh K;have y5:b2.length=n:=by rw[n1,qqv];exact j0
   have HU:=hqh (show b2=bn b1 by rw[n1,f.o.code,y1.o];exact(CG b1).symm);clear K n1 i0 hi;go_wp2_with(first| (go_at_call 91;refine LV.mono ?_;rintro e W2⟨⟨gs,S,rfl,e6,h4,r3,q3⟩,n3⟩;have n0:=hqh h4;have w2:=hqh r3;have v2:=hqh q3;have m0:=hqh n3;clear h4 r3 q3 n3)|fail);clear LV;obtain⟨p2,b4⟩:∃p2:Nat->Bool,p2=λj=>eO (b2.getD j {})&&decide (¬Live b2 (j+1) (b2.getD j {}).v):=⟨_,rfl⟩;have z1:=hqh b4;have M:=hqh (show SwI w O (.slice (some ⟨G,0,none⟩) n c) p2 b2 0 W2 li from⟨f.o.own.below m0.o,f.o.ko.trans (KO.below m0.o),by rw[sD];exact v1.o.symm⟩);have d5:gs≠G:=by have:=HO.o G s0.o;have:=f.o.ko.size;omega
   clear b4 f;go_loopw [37](λv wr=>∃(i:Nat)(li:List InV),v=.int .i64 i/\i<=n/\Hid (SwI w O (.slice (some ⟨G,0,none⟩) n c) p2 b2 i wr li)/\Hid (dw wr gs (n+1) S))(λv _=>match v with| .int _ x=>((n:Int)-x).toNat|_=>0);case atStart=>exact⟨0,li,rfl,qqy _,M,n0⟩
   case round=>
    have y2:=hqh (show∀x∈b2,jM x from λx o=>by rw[v1.o]at o;obtain⟨z,hz,rfl⟩:=qjb.1 o;exact(HQ.o z hz).2.2.2.1);have g3:=hqh (show∀x∈b2,0<=x.to/\x.to<=(n:Int)from λx o=>by rw[v1.o]at o;obtain⟨z,hz,rfl⟩:=qjb.1 o;exact⟨(HQ.o z hz).1,(HQ.o z hz).2.1⟩);clear M n0 m0 v1 HQ j0 d2;clear li;obtain⟨i,li,rfl,hi,f,n0⟩:=hrel;rename World=>D;by_cases d2:(i:Int)<(n:Int)
    ·have J:i<b2.length:=by omega
     obtain⟨y,R,l0⟩:=f.o.at J;have W:=hqh (f.o.ins R);have y0:=hqh (qi W.o (qjk _ _));have o2:(eB y).toList.all (·.oneCell')=true:=by obtain⟨A2,c2,e2,_⟩:=W.o.args;unfold eB;rw[e2];rfl
     have HY:=hqh R;have a2:=hqh l0;clear R l0;have n4:IntKind.i64.wrap ((i:Int)+1)=((i+1:Nat):Int):=by rw[jqs _ oqo];push_cast;rfl
     go_upto_region 10 with fail;apply jqf;iterate 6 go_step
     refine wpList_load_mid rfl 71 (.tmp 40) rfl G (i*10) rfl _ _ y0.o Tryz.underlying71 rfl kqk ?_;simp only[qqa,jzg];obtain⟨B,P⟩:∃b,b=D.heap.size:=⟨_,rfl⟩;iterate 6 go_step
     rw[<-P];have j1:Blk (D.alloc (.cells bS 71)) B 71 bS:=by rw[P];exact Blk.new _ _ _
     refine az rfl 71 (.tmp 7) (.tmp 41) rfl B (eB y) rfl rfl 71 _ j1 rfl aS o2 ?_;intro Y t1 s1;have o0:Below D.heap.size D Y:=((qjk _ _).alloc (qqf _) _).trans (s1.aM (by simp) λi e=>by omega);have N:=hqh t1;have E:=hqh (f.o.below o0);have d1:=hqh (show dw Y gs (n+1) S from Blk.below n0.o o0);have l5:=hqh P;clear s1 t1 j1 o0 f n0 y0 W P;refine jza ?_;go_upto_region 11 with fail;have r1:b2.getD i {}=y.1:=by rw[qqm,a2.o];rfl
     cases q0:eO y.1 with|false=>
      have t:=hqh (E.o.skip (by rw[z1.o];show(eO (b2.getD i {})&&_)=false;rw[r1,q0];rfl));refine fK [(none,.agg (eB y)),(none,.bool false),(none,.bool false),(some (44,true),undef),(some (44,true),undef),(some (44,true),undef),(some (44,true),undef),(some (44,true),undef),(some (44,true),undef),(some (44,true),undef),(some (44,true),undef),(none,.bool false)] bY kqk ?_;intro T AA Z hF;have d:dR T [(7,.pointer (some ⟨B,0,none⟩)),(5,.slice (some ⟨gs,0,none⟩) (n+1) (n+1)),(6,.int .i64 i),(42,.agg (eB y)),(43,.bool false),(44,.bool false),(45,undef),(46,undef),(47,undef),(48,undef),(49,undef),(50,undef),(51,undef),(52,undef),(53,.bool false)]:=by unfold dR;rw[hF,Z];kernel_rfl
      have HF:=hqh hF;clear hF;have U:=hqh Z;clear Z;refine⟨?_,?_⟩
      ·intro V I;repeat clear‹∀(a:Act)(w:World),Code.wp Tryz.prog _ _ a w->_›
       have x1:V.cell? ⟨B,1,none⟩=some (.int .i64 y.1.v):=aa I (N.o.cell 1);have q2:V.rangeAt B 0 (eB y).toList:=λj v hv=>aa I (nX N.o j v hv);exact aj (vF rfl (d.at 0 rfl) q2 rfl) (bF.cons (aR.call 94 #[.agg (eB y)] (by have s4:=d.at 3 rfl;go_simp) (by have h:=yJ y V;rw[q0]at h;exact h)) (aj (by have w4:=d.at 4 rfl;go_simp) (aD (d.at 5 rfl) (aD (d.at 5 rfl) (aD (d.at 5 rfl) (aD (d.at 5 rfl) (aD (d.at 5 rfl) (aD (d.at 5 rfl) (aD (d.at 5 rfl) (aD (d.at 5 rfl) (aj (by have x4:=d.at 5 rfl;have y4:=d.at 13 rfl;go_simp) (bF.nil))))))))))))
      intro V I;clear d;obtain⟨m,d0⟩:∃m:Nat->Value,T=j6 [(42,m 42),(43,m 43),(44,m 44),(45,m 45),(46,m 46),(47,m 47),(48,m 48),(49,m 49),(50,m 50),(51,m 51),(52,m 52),(53,.bool false)] AA:=⟨λk=>T.tmps.getD k undef,by rw[HF.o,U.o];kernel_rfl⟩;clear HF;rw[U.o]at d0;clear U;simp only[j6,Act.put,qqb]at d0;subst d0;refine jza ?_;have i1:=hqh I;clear I;have e1:=hqh (show dw V gs (n+1) S from Blk.below d1.o i1.o);have F:=hqh (t.o.below i1.o);clear E d1 N;go_wp2_with fail;refine⟨⟨i+1,li,by push_cast;rfl,by omega,F,e1⟩,by show((n:Int)-((i:Int)+1)).toNat<((n:Int)-(i:Int)).toNat;omega⟩|true=>
      have e4:bG y.1=some y.1.v:=by unfold bG;unfold eO at q0;rw[qzb (by unfold eU;simp only[qji,jqz]at q0⊢;omega)]
      have j5:=(y2.o y.1 (qqr a2.o)).put _ e4;obtain⟨q,r,K,hr,m4⟩:∃q r:Nat,q<4/\r<64/\y.1.v=((64*q+r:Nat):Int):=⟨y.1.v.toNat/64,y.1.v.toNat%64,by omega,by omega,by omega⟩;obtain⟨s,e0⟩:∃s,(S (i+1) q).testBit r=s:=⟨_,rfl⟩;have p4:=hqh e0;have n2:s=true↔Live b2 (i+1) y.1.v:=by rw[m4,<-v2.o,<-e0];unfold SB eP;rw[show(64*q+r)/64=q by omega,show(64*q+r)%64=r by omega,show decide (64*q+r<256)=true from qqx oqo,jzs]
      have z2:=hqh (d1.o.cell (show i+1<n+1 by omega) K);have hp:p2 i=!s:=by rw[z1.o];show(eO (b2.getD i {})&&decide (¬Live b2 (i+1) (b2.getD i {}).v))=!s;rw[r1,q0,jzs];cases s with|true=>exact qqt λc=>c (n2.1 rfl)|false=>exact qqx λc=>by have:=n2.2 c;cases this
      have t2:=hqh hp;have e5:((i+1:Nat):Int)<(n:Int)+1:=oqo;have h6:((i+1:Nat):Int)<((n+1:Nat):Int):=oqo;clear e0 n2 hp e4 j5;refine fK [(none,.agg (eB y)),(none,.bool true),(none,.bool true),(some (44,true),.slice (some ⟨gs,0,none⟩) (n+1) (n+1)),(some (44,true),.int .i64 i),(some (44,true),.int .i64 ((i+1:Nat):Int)),(some (44,true),.pointer (some ⟨gs,(i+1)*4,none⟩)),(some (44,true),.pointer (some ⟨B,1,none⟩)),(some (44,true),.int .i64 ((64*q+r:Nat):Int)),(some (44,true),.bool s),(some (44,true),.bool !s),(none,.bool !s)] bY kqk ?_;intro T AA Z hF;have d:dR T [(7,.pointer (some ⟨B,0,none⟩)),(5,.slice (some ⟨gs,0,none⟩) (n+1) (n+1)),(6,.int .i64 i),(42,.agg (eB y)),(43,.bool true),(44,.bool true),(45,.slice (some ⟨gs,0,none⟩) (n+1) (n+1)),(46,.int .i64 i),(47,.int .i64 ((i+1:Nat):Int)),(48,.pointer (some ⟨gs,(i+1)*4,none⟩)),(49,.pointer (some ⟨B,1,none⟩)),(50,.int .i64 ((64*q+r:Nat):Int)),(51,.bool s),(52,.bool !s),(53,.bool !s)]:=by unfold dR;rw[hF,Z];kernel_rfl
      have HF:=hqh hF;clear hF;have U:=hqh Z;clear Z;refine⟨?_,?_⟩
      ·intro V I;repeat clear‹∀(a:Act)(w:World),Code.wp Tryz.prog _ _ a w->_›
       have x1:V.cell? ⟨B,1,none⟩=some (.int .i64 y.1.v):=aa I (N.o.cell 1);have q2:V.rangeAt B 0 (eB y).toList:=λj v hv=>aa I (nX N.o j v hv);exact aj (vF rfl (d.at 0 rfl) q2 rfl) (bF.cons (aR.call 94 #[.agg (eB y)] (by have s4:=d.at 3 rfl;go_simp) (by have h:=yJ y V;rw[q0]at h;exact h)) (aj (by have w4:=d.at 4 rfl;go_simp) (bV (d.at 5 rfl) (by have a5:=d.at 1 rfl;go_simp) (bV (d.at 5 rfl) (by have a6:=d.at 2 rfl;go_simp) (bV (d.at 5 rfl) (by have n5:=d.at 7 rfl;go_simp) (bV (d.at 5 rfl) (by have m5:=d.at 6 rfl;have o5:=d.at 8 rfl;go_simp;exact λh5=>absurd h5 oqo) (bV (d.at 5 rfl) (by have a7:=d.at 0 rfl;go_simp) (bV (d.at 5 rfl) (by have q5:=d.at 10 rfl;rw[m4]at x1;go_simp) (Qp 95 #[.pointer (some ⟨gs,(i+1)*4,none⟩),.int .i64 ((64*q+r:Nat):Int)] (d.at 5 rfl) (by have p5:=d.at 9 rfl;have r5:=d.at 11 rfl;go_simp) (by refine(zR gs ((i+1)*4) q r (S (i+1) q) V K hr (aa I z2.o) (w2.o _ q K)).mono ?_;rintro e w'⟨rfl,rfl⟩;exact⟨by rw[p4.o],qjk _ _⟩) (bV (d.at 5 rfl) (by have s5:=d.at 12 rfl;go_simp) (aj (by have x4:=d.at 5 rfl;have y4:=d.at 13 rfl;go_simp) (bF.nil))))))))))))
      intro V I;clear d;obtain⟨m,d0⟩:∃m:Nat->Value,T=j6 [(42,m 42),(43,m 43),(44,m 44),(45,m 45),(46,m 46),(47,m 47),(48,m 48),(49,m 49),(50,m 50),(51,m 51),(52,m 52),(53,.bool !s)] AA:=⟨λk=>T.tmps.getD k undef,by rw[HF.o,U.o];kernel_rfl⟩;clear HF;rw[U.o]at d0;clear U;simp only[j6,Act.put,qqb]at d0;subst d0;refine jza ?_;have i1:=hqh I;clear I;have e1:=hqh (show dw V gs (n+1) S from Blk.below d1.o i1.o);have F:=hqh (E.o.below i1.o);clear E d1 N z2;cases s with|true=>have t:=hqh (F.o.skip (by rw[t2.o];rfl));clear F;simp only[Bool.not_true];go_wp2_with fail;refine⟨⟨i+1,li,by push_cast;rfl,by omega,t,e1⟩,by show((n:Int)-((i:Int)+1)).toNat<((n:Int)-(i:Int)).toNat;omega⟩|false=>
       have g1:=hqh (F.o.there J);have t:=hqh (F.o.set s0.o J (by rw[t2.o];rfl));have d3:=hqh (show dw (V.setCells G (i*10) (bI mf)) gs (n+1) S from(KO.puts (O:=λk=>k=G) rfl _ _ _).blk e1.o d5);clear F e1;simp only[Bool.not_false];go_upto_region 12 with fail;apply jqf;iterate 12 go_step
       refine jxs rfl 71 (.tmp 57) (.tmp 56) rfl G (i*10) (bI mf).toArray rfl rfl g1.o kqk AB ?_;rw[List.toList_toArray];generalize V.setCells G (i*10) (bI mf)=W5 at t d3⊢;refine jza ?_;go_wp2_with fail;exact⟨⟨i+1,li.set i mf,by push_cast;rfl,by omega,t,d3⟩,by show((n:Int)-((i:Int)+1)).toNat<((n:Int)-(i:Int)).toNat;omega⟩
    ·have i0:i=b2.length:=by omega
     rw[i0]at f;obtain⟨u,o1⟩:∃u,u=li.map (·.1):=⟨_,rfl⟩;have j0:li.length=n:=by rw[f.o.len];omega
     have b6:u.length=n:=by rw[o1,qqv];exact j0
     have HD:=hqh (show u=bL b2 by rw[o1,f.o.code,z1.o];exact(I6 b2).symm);have r4:=hqh (show∀x∈u,0<=x.to/\x.to<=(n:Int)from λx o=>by rw[o1]at o;obtain⟨z,hz,rfl⟩:=qjb.1 o;exact f.o.all (Q:=λx=>0<=x.to/\x.to<=(n:Int)) ⟨by decide,by show(0:Int)<=_;omega⟩ g3.o z hz);obtain⟨p3,d4⟩:∃p3,p3=sU u:=⟨_,rfl⟩;have x2:=hqh d4;have a1:=hqh (show SwI w O (.slice (some ⟨G,0,none⟩) n c) p3 u 0 D li from⟨f.o.own,f.o.ko,by rw[sD];exact o1.symm⟩);obtain⟨C,p0⟩:∃C,n=C+1:=⟨n-1,by omega⟩;have en:(n:Int)-1=(C:Int):=oqo;have m6:n<=c:=by obtain⟨A,c',e,hc,_⟩:=f.o.own.ins;injection e with _ _ e3;omega
     rw[en];subst p0;clear o1 f n0 i0 hi y2 d4 v2 w2 z1 g3;go_wp2_with fail;go_loopw [63](λv wr=>∃(i:Nat)(li:List InV),v=.int .i64 i/\i<=C/\Hid (SwI w O (.slice (some ⟨G,0,none⟩) (C+1) c) p3 u i wr li))(λv _=>match v with| .int _ x=>((C:Int)-x).toNat|_=>0);case atStart=>exact⟨0,li,rfl,qqy _,a1⟩
     case round=>
      clear a1 d2 en j0;clear li;obtain⟨i,li,rfl,hi,f⟩:=hrel;rename World=>D;by_cases d2:(i:Int)<(C:Int)
      ·have J:i<u.length:=by omega
       obtain⟨y,R,l0⟩:=f.o.at J;have W:=hqh (f.o.ins R);have y0:=hqh (qi W.o (qjk _ _));have o2:(eB y).toList.all (·.oneCell')=true:=by obtain⟨A2,c2,e2,_⟩:=W.o.args;unfold eB;rw[e2];rfl
       have HY:=hqh R;have a2:=hqh l0;have r0:=r4.o y.1 (qqr l0);clear R l0;have n4:IntKind.i64.wrap ((i:Int)+1)=((i+1:Nat):Int):=by rw[jqs _ oqo];push_cast;rfl
       go_upto_region 16 with fail;apply jqf;iterate 6 go_step
       refine wpList_load_mid rfl 71 (.tmp 66) rfl G (i*10) rfl _ _ y0.o Tryz.underlying71 rfl kqk ?_;simp only[qqa,jzg];obtain⟨B,P⟩:∃b,b=D.heap.size:=⟨_,rfl⟩;iterate 6 go_step
       rw[<-P];have j1:Blk (D.alloc (.cells bS 71)) B 71 bS:=by rw[P];exact Blk.new _ _ _
       refine az rfl 71 (.tmp 9) (.tmp 67) rfl B (eB y) rfl rfl 71 _ j1 rfl aS o2 ?_;intro Y t1 s1;have o0:Below D.heap.size D Y:=((qjk _ _).alloc (qqf _) _).trans (s1.aM (by simp) λi e=>by omega);have N:=hqh t1;have E:=hqh (f.o.below o0);clear s1 t1 j1 o0 f y0 W P;refine jza ?_;have x0:Y.cell? ⟨B,0,none⟩=some (.int .u8 y.1.op):=N.o.cell 0;have x9:Y.cell? ⟨B,9,none⟩=some (.int .i64 y.1.to):=N.o.cell 9;have r1:u.getD i {}=y.1:=by rw[qqm,a2.o];rfl
       have X:=hqh (show p3 i=(y.1.op==13&&decide ((i:Int)<y.1.to)&&ku u (i+1) y.1.to.toNat)by rw[x2.o];unfold sU;rw[r1,qqx (show i+1<u.length by omega),jzs]);obtain⟨oo,s3⟩:∃oo,oo=y.1.op:=⟨_,rfl⟩;obtain⟨L,l4⟩:∃L,y.1.to=((L:Nat):Int):=⟨y.1.to.toNat,by omega⟩;rw[<-s3]at x0 X;rw[l4]at x9 r0 X;rw[jxi]at X;clear s3 l4 r1;by_cases i3:oo=13
       ·subst i3;by_cases m2:(i:Int)<(L:Int)
        ·have e5:((i+1:Nat):Int)<=(L:Int):=by omega
         have n6:(L:Int)<=(c:Int):=oqo;have g5:i+1<=L:=oqo;have i4:L<=li.length:=by rw[E.o.len];omega
         have GA:=Qz _ _ Y (TI E.o.own.ins g5 i4) (by rw[List.length_drop,jqm];omega);obtain⟨s,e0⟩:∃s,(((li.take L).drop (i+1)).any λy=>y.1.op !=0)=s:=⟨_,rfl⟩;have o3:ku u (i+1) L=!s:=by unfold ku;rw[<-e0,<-LF (p:=p3) (b:=u) (jzm i) L,<-E.o.code,<-List.map_take,<-List.map_drop,List.all_map,List.any_eq_not_all_not,Bool.not_not];congr 1;funext y;show(y.1.op==0)=!(!(y.1.op==0));rw[Bool.not_not]
         rw[e0]at GA;have s2:=hqh o3;clear e0 o3 i4;cases s with|true=>go_wp2_with(first| (go_at_call 46;refine GA.mono ?_;rintro e W4⟨rfl,q1⟩;have t:=hqh (E.o.below q1);clear q1)|fail);have F:=hqh (t.o.skip (by rw[X.o,s2.o];simp));refine⟨⟨i+1,li,by push_cast;rfl,by omega,F⟩,by show((C:Int)-((i:Int)+1)).toNat<((C:Int)-(i:Int)).toNat;omega⟩|false=>
          go_upto_region 18 with(first| (go_at_call 46;refine GA.mono ?_;rintro e W4⟨rfl,q1⟩;have t:=hqh (E.o.below q1);clear q1)|fail);have g1:=hqh (t.o.there J);have F:=hqh (t.o.set s0.o J (by rw[X.o,s2.o,qqx m2];rfl));clear t;apply jqf;iterate 12 go_step
          refine jxs rfl 71 (.tmp 90) (.tmp 89) rfl G (i*10) (bI mf).toArray rfl rfl g1.o kqk AB ?_;rw[List.toList_toArray];generalize W4.setCells G (i*10) (bI mf)=W5 at F⊢;refine jza ?_;go_wp2_with fail;exact⟨⟨i+1,li.set i mf,by push_cast;rfl,by omega,F⟩,by show((C:Int)-((i:Int)+1)).toNat<((C:Int)-(i:Int)).toNat;omega⟩
        ·have t:=hqh (E.o.skip (by rw[X.o,qqt m2];simp));have g6:¬(L:Int)>(i:Int):=m2;go_wp2_with fail;refine⟨⟨i+1,li,by push_cast;rfl,by omega,t⟩,by show((C:Int)-((i:Int)+1)).toNat<((C:Int)-(i:Int)).toNat;omega⟩
       ·have t:=hqh (E.o.skip (by rw[X.o,qqe.2 i3];rfl));have b5:((oo:Nat):Int)≠13:=oqo;have w5:(((oo:Nat):Int)==13)=false:=qqe.2 b5;go_wp2_with fail;refine⟨⟨i+1,li,by push_cast;rfl,by omega,t⟩,by show((C:Int)-((i:Int)+1)).toNat<((C:Int)-(i:Int)).toNat;omega⟩
      ·have i0:i=u.length-1:=by omega
       rw[i0]at f;go_wp2_with fail;go_end0;refine⟨rfl,li,?_,f.o.own,f.o.ko⟩;rw[f.o.code,x2.o,<-Lu,HD.o,HU.o,r2.o];rfl
theorem Mr{α:Type}(C:α->List Value)(z:Nat)(hz:∀x,(C x).length=z){l:List α}{i k:Nat}{x y:α}(h:l[i]? =some x)(hk:k<z)(c:Value)(f:C y=(C x).set k c):(l.flatMap C).set (i*z+k) c=(l.set i y).flatMap C:=by
 have hi:=(qqi.1 h).1;have d:l[i]=x:=(qqi.1 h).2;have e:l=l.take i++x::l.drop (i+1):=by have h1:=(List.take_append_drop i l).symm;rw[jqo hi,d]at h1;exact h1
 have a:l.set i y=l.take i++y::l.drop (i+1):=by
  conv=>lhs;rw[e]
  rw[jzx _ _ (by rw[jqm];omega),jqm,jzd oqo,jzj];rfl
 have hl:((l.take i).flatMap C).length=i*z:=by rw[qB C z hz,jqm,jzd oqo]
 rw[a,jzu,jqj,f];conv=>lhs;rw[e]
 rw[jzu,jqj,jzx _ _ (by rw[hl];omega),hl,Nat.add_sub_cancel_left,List.set_append_left _ _ (by rw[hz];exact hk)]
def fV(l1:List In)(y:InV):InV:=if y.1.op=13\/y.1.op=14 then(⟨y.1.op,y.1.v,y.1.a,y.1.b,y.1.n,y.1.bin,y.1.args,y.1.f,y.1.arr,((atW l1 y.1.to.toNat:Nat):Int)⟩,y.2)else y
def fP(l:List InV):List InV:=l.filter λy=>y.1.op !=0
section
variable {l1:List In}{y:InV}
theorem Na(l1:List In)(y:InV):(fV l1 y).1.op=y.1.op:=by unfold fV;split<;>rfl
theorem Rs(l1:List In)(y:InV):(fV l1 y).2=y.2:=by unfold fV;split<;>rfl
theorem O9(l1:List In)(y:InV):(fV l1 y).1.args=y.1.args:=by unfold fV;split<;>rfl
theorem NV(l:List InV):((fP l).map (fV (l.map (·.1)))).map (·.1)=bT (l.map (·.1)):=by unfold bT fP;rw[List.filter_map,qzx,qzx];refine jqg λy _=>?_;show(fV _ y).1=_;unfold fV;simp only[Function.comp];split<;>rfl
theorem Ct{l:List InV}{i:Nat}(h:l[i]? =some y):fP (l.take (i+1))=fP (l.take i)++(if y.1.op=0 then []else [y]):=by
 unfold fP;rw[jqu,h,List.filter_append];congr 1;by_cases e:y.1.op=0;·rw[qzb e];simp[e]
 ·rw[qzc e];simp[e]
theorem TD(l:List InV)(i:Nat):atW (l.map (·.1)) i=(fP (l.take i)).length:=by unfold atW fP;rw[<-List.map_take,List.filter_map,qqv];rfl
def lC(l1:List In)(i n:Nat):List Int:=(List.range n).map λj=>if j<i then((atW l1 j:Nat):Int)else 0
theorem RH(l1:List In){i n:Nat}(hi:i<n):(lC l1 i n).set i ((atW l1 i:Nat):Int)=lC l1 (i+1) n:=by
 apply jqq;intro j;unfold lC;by_cases hj:j<n
 ·rw[qqp,qqz hj];by_cases e:j=i;·subst e;rw[jqn (by simpa using hj)];simp
  ·rw[jqt (λc=>e c.symm),qqp,qqz hj];simp only[jqb];congr 1;by_cases c:j<i;·rw[qzb c,qzb oqo]
   ·rw[qzc c,qzc oqo]
 ·rw[qza (by simp;omega),qza (by simp;omega)]
theorem Oh{w:World}{base e size n:Nat}{v:Value}{xs:List Value}(h:w.ownsRow base e size v n xs):w.ownsRow 0 e size v n xs:=by
 refine⟨h.1,?_⟩;rcases h.2 with h|⟨g,cap,a,hv,_,r⟩;·exact Or.inl h
 ·exact Or.inr ⟨g,cap,a,hv,qqy _,r⟩
theorem QU{w w':World}{O:Nat->Prop}{lv v:Value}{l:List InV}{m:Nat}(h:bP w O lv l)(f:Below w.heap.size w w')(hm:m=((fP l).map (fV l1)).length)(hr:w'.ownsRow w.heap.size 71 10 v m (((fP l).map (fV l1)).flatMap bI)):bP w' (λk=>O k\/(w.heap.size<=k/\k<w'.heap.size)) v ((fP l).map (fV l1)):=by
 have t:=h.below f;have from_:∀z∈(fP l).map (fV l1),∃y∈l,z.1.op=y.1.op/\z.2=y.2/\z.1.args=y.1.args:=λz hz=>by obtain⟨y,a,rfl⟩:=qjb.1 hz;exact⟨y,(jzt.1 a).1,Na l1 y,Rs l1 y,O9 l1 y⟩
 have x:List.Pairwise (λy z:InV=>y.1.op=11->z.1.op=11->∀b,y.2.ownBlock=some b->z.2.ownBlock≠some b) l:=by rw[List.pairwise_iff_getElem];intro i j hi hj s h1 h2;exact h.ne i j _ _ oqo (qqh hi) (qqh hj) h1 h2
 have o:List.Pairwise (λy z:InV=>y.1.op=11->z.1.op=11->∀b,y.2.ownBlock=some b->z.2.ownBlock≠some b) ((fP l).map (fV l1)):=by rw[List.pairwise_map];refine(x.sublist List.filter_sublist).imp ?_;intro y z A h1 h2 b h3;rw[Na]at h1 h2;rw[Rs]at h3⊢;exact A h1 h2 b h3
 rw[List.pairwise_iff_getElem]at o;refine⟨by rw[<-hm];exact Oh hr,λb u=>Or.inr (hr.lt b u),λz hz=>?_,λz hz ho=>?_,λi j y z s a hz h1 h2 b h3 r=>?_⟩;·obtain⟨y,a,d,q,e⟩:=from_ z hz;have:=(t.args y a).weak (O':=λk=>O k\/(w.heap.size<=k/\k<w'.heap.size)) λb f=>Or.inl f;unfold jc at this⊢;rw[d,q,e];exact this
 ·obtain⟨y,a,d,q,e⟩:=from_ z hz;rw[e];exact h.no y a (by rw[<-d];exact ho)
 ·obtain⟨hi,rfl⟩:=qqi.1 a;obtain⟨hj,rfl⟩:=qqi.1 hz;rcases Nat.lt_or_gt_of_ne s with c|c;·exact o i j hi hj c h1 h2 b h3 r
  ·exact o j i hj hi c h2 h1 b r h3
end
theorem Tx{w:World}{G n c:Nat}{l:List InV}(h:dW w (.slice (some ⟨G,0,none⟩) n c) l){j:Nat}{y:InV}(d:l[j]? =some y):fu w G (j*10) y:=by
 obtain⟨A,r,e,_,hr⟩:=h;injection e with f _ _;rcases hr with a|⟨q,o,a,hr⟩;·rw[a]at d;simp at d
 ·rw[<-f]at a;injection a with a;injection a with k m _;have:=hr j y d;rw[<-k,<-m,qja]at this;exact this
theorem Tv{y:InV}(h:(eB y).toList.all (·.oneCell')=true)(u:Value)(hu:u∈bI y):u.oneCell'=true:=qqw.1 h u hu
theorem bP.Mc{w:World}{O:Nat->Prop}{lv:Value}{l:List InV}(h:bP w O lv l){y:InV}(a:y∈l):ay w y.2 y.1.args:=(h.args y a).ints
theorem set_self{α:Type}{l:List α}{i:Nat}{x:α}(h:l[i]? =some x):l.set i x=l:=by obtain⟨hi,rfl⟩:=qqi.1 h;exact List.set_getElem_self hi
theorem NP(l1:List In)(n:Nat):(lC l1 0 n).flatMap dx=List.replicate n (.int .i64 0):=by
 unfold lC;apply jqq;intro j;have e:∀l:List Int,l.flatMap dx=l.map λk=>Value.int .i64 k:=λl=>by induction l with|nil=>rfl|cons a l ih=>rw[jqj,ih];rfl
 rw[e,qzx,qqp,qzt];by_cases hj:j<n;·rw[qqz hj,qzb hj];rfl
 ·rw[qza (by simp;omega),qzc hj];rfl
theorem Jo(lv:Value)(l:List InV)(O:Nat->Prop)(w:World)(h:bP w O lv l)(h0:0<l.length)(hn:l.length<=8000)(r0:∀x∈l,x.1.op=13\/x.1.op=14->0<=x.1.to/\x.1.to<l.length):Calls Tryz.prog 128 #[lv] w λe w'=>(∃v l',e=.returned v/\l'.map (·.1)=bT (l.map (·.1))/\bP w' (λk=>O k\/(w.heap.size<=k/\k<w'.heap.size)) v l')/\Below w.heap.size w w':=by
 obtain⟨i0,m3,s3,x3,y3⟩:=jxw GN;obtain⟨j0,o3,b4,d4,h4⟩:=jxw GR;obtain⟨n,j1⟩:∃n,n=l.length:=⟨_,rfl⟩;obtain⟨G,c,rfl⟩:∃G c,lv=.slice (some ⟨G,0,none⟩) n c:=by obtain⟨G,cap,hv,_,_⟩:=h.row.form h0;exact⟨G,cap,by rw[j1];exact hv⟩
 rw[<-j1]at h0 hn r0;have HN:=hqh j1;have H:=hqh h;have HT:=hqh r0;obtain⟨l1,q2⟩:∃l1,l1=l.map (·.1):=⟨_,rfl⟩;have d2:=hqh q2;clear j1 h r0 q2;go_enter Tryz.func128,Tryz.ntmps128;go_wp2_with(at_make;refine wpList_make_full _ rfl _ _ 22 rfl w.heap.size 3 j0 (.int .i64 0) 1 Tryz.underlying22 o3 b4 d4 .i64 .i64 n n n rfl rfl rfl rfl (by rw[h4];omega) (by unfold maxLen;omega) (qqf _) ?_);intro w1 x2 n2;have x1:w1.ownsRow w.heap.size 3 1 (.slice (some ⟨w.heap.size,0,none⟩) n n) n (madeCells #[.int .i64 0] n).toList:=by simpa using x2
 rw[toList_madeCells_one,<-NP l1]at x1;have z1:=hqh x1;have a2:=hqh ((qjk w.heap.size w).grown n2 (qqf _) (λk e=>by cases e));clear x2 x1 n2;go_wp2_with fail;have i2:=hqh (show w1.ownsRow w.heap.size 71 10 (.slice none 0 0) (fP (l.take 0)).length ((fP (l.take 0)).flatMap bI)from World.ownsRow_nil _ _ _ _);go_loopw [4,14](λv4 v wr=>∃i:Nat,v=.int .i64 i/\i<=n/\Hid (Below w.heap.size w wr)/\Hid (wr.ownsRow w.heap.size 3 1 (.slice (some ⟨w.heap.size,0,none⟩) n n) n ((lC l1 i n).flatMap dx))/\Hid (wr.ownsRow w.heap.size 71 10 v4 (fP (l.take i)).length ((fP (l.take i)).flatMap bI)))(λ_ v _=>match v with| .int _ x=>((n:Int)-x).toNat|_=>0);case atStart=>exact⟨0,rfl,qqy _,a2,z1,i2⟩
 case round=>
  clear a2 z1 i2;obtain⟨i,rfl,hi,B,P,d⟩:=hrel;rename World=>D;by_cases r2:(i:Int)<(n:Int)
  ·obtain⟨y,N⟩:∃y,l[i]? =some y:=⟨_,qqh (by have:=HN.o;omega)⟩;have d1:=hqh (Tx H.o.ins N);have l0:=hqh (qi d1.o (B.o));have m1:(eB y).toList.all (·.oneCell')=true:=by obtain⟨Z,c2,L,_⟩:=d1.o.args;unfold eB;rw[L];rfl
   have HY:=hqh N;have z2:=hqh d1.o.args;clear N;obtain⟨m,hm⟩:∃m,m=(fP (l.take i)).length:=⟨_,rfl⟩;have w4:m<=i:=by rw[hm];exact qzi (jzy _ _) (by simp;omega)
   rw[<-hm]at d;have C:=hqh hm;clear hm;obtain⟨m0,cv,hv⟩:=dN d.o;subst hv;have i4:IntKind.i64.wrap ((i:Int)+1)=((i+1:Nat):Int):=by rw[jqs _ oqo];push_cast;rfl
   go_upto_region 5 with fail;apply jqf;iterate 6 go_step
   refine wpList_load_mid rfl 71 (.tmp 17) rfl G (i*10) rfl _ _ l0.o Tryz.underlying71 rfl kqk ?_;simp only[qqa,jzg];obtain⟨I,U⟩:∃b,b=D.heap.size:=⟨_,rfl⟩;iterate 6 go_step
   rw[<-U];have o0:Blk (D.alloc (.cells bS 71)) I 71 bS:=by rw[U];exact Blk.new _ _ _
   refine az rfl 71 (.tmp 6) (.tmp 18) rfl I (eB y) rfl rfl 71 _ o0 rfl aS m1 ?_;intro z a1 p0;have M:Below D.heap.size D z:=((qjk _ _).alloc (qqf _) _).trans (p0.aM (by simp) λi e=>by omega);have Y:=hqh a1;have d0:=hqh (B.o.trans (M.mono B.o.size));have E:=hqh (own_below P.o M);have F:=hqh (own_below d.o M);clear p0 a1 o0 M P d B l0 d1 U;refine jza ?_;have m2:((lC l1 i n).flatMap dx)[i]? =some (.int .i64 0):=by have:=jC dx 1 (λ_=>rfl) (lC l1 i n) i 0 0 (by unfold lC;rw[qqp,qqz oqo];simp) (by decide);rw[jzb,qzz]at this;rw[this];rfl
   have ca:z.cell? ⟨w.heap.size,i,none⟩=some (.int .i64 0):=by rw[E.o.cellAt i oqo];exact m2
   have fa:z.frozen? ⟨w.heap.size,i,none⟩=false:=by obtain⟨n0,r1⟩:=aT E.o (b:=w.heap.size) rfl;exact Blk.free (t:=3) (cs:=n0) r1 _
   have l2:∀b,(Value.slice m0 m cv).ownBlock=some b->b≠w.heap.size:=λb hb e=>by obtain⟨c1,s⟩:=aT F.o hb;obtain⟨c2,L⟩:=aT E.o (b:=w.heap.size) rfl;rw[e,L]at s;injection s with s;injection s with _ J;cases J
   have S:=hqh (show(z.setCell ⟨w.heap.size,i,none⟩ (.int .i64 (m:Int))).ownsRow w.heap.size 3 1 (.slice (some ⟨w.heap.size,0,none⟩) n n) n ((lC l1 (i+1) n).flatMap dx)by have:=kC (j:=i) E.o (.int .i64 (m:Int));rw[show(m:Int)=((atW l1 i:Nat):Int)by rw[d2.o,TD,<-C.o]]at this⊢;rw[<-RH l1 oqo,yD dx 1 (λ_=>rfl) 0 (.int .i64 ((atW l1 i:Nat):Int)) (by decide) (lC l1 i n) i 0 _ (by unfold lC;rw[qqp,qqz oqo];simp) rfl,jzb,qzz];exact this);have K:=hqh (dm F.o (KO.set (O:=λk=>k=w.heap.size) (a:=⟨w.heap.size,i,none⟩) rfl (.int .i64 (m:Int))) l2);have Q:=hqh (d0.o.setCell (p:=⟨w.heap.size,i,none⟩) (qqf _) (.int .i64 (m:Int)));have i3:I≠w.heap.size:=λe=>by have:=Y.o;obtain⟨c2,L⟩:=aT E.o (b:=w.heap.size) rfl;unfold Blk at this;rw[e,L]at this;injection this with s;injection s with _ J;cases J
   have g1:=hqh (Y.o.far i3 i (.int .i64 (m:Int)));go_upto_region 7 with fail;clear ca fa m2 l2;generalize z.setCell ⟨w.heap.size,i,none⟩ (.int .i64 (m:Int))=R at S K Q g1⊢;clear E F d0 Y;have x0:R.cell? ⟨I,0,none⟩=some (.int .u8 y.1.op):=g1.o.cell 0;obtain⟨A,V⟩:∃A,A=y.1.op:=⟨_,rfl⟩;rw[<-V]at x0;have X:=hqh V;clear V;by_cases ho:A=0;·subst ho;have e0:=hqh (show R.ownsRow w.heap.size 71 10 (.slice m0 m cv) (fP (l.take (i+1))).length ((fP (l.take (i+1))).flatMap bI)by rw[Ct HY.o,qzb X.o.symm,List.append_nil,<-C.o];exact K.o);go_wp2_with fail;exact⟨⟨i+1,by push_cast;rfl,by omega,Q,S,e0⟩,by show((n:Int)-((i:Int)+1)).toNat<((n:Int)-(i:Int)).toNat;omega⟩
   ·have r3:((A:Nat):Int)≠0:=by omega
    have y4:(((A:Nat):Int)==0)=false:=qqe.2 r3;go_upto_region 8 with fail;apply jqf;iterate 3 go_step
    refine aL rfl 71 (.tmp 6) rfl I rfl 71 _ _ g1.o Tryz.underlying71 rfl aS ?_;simp only[qqa];obtain⟨Z,c2,w2,_,_⟩:=z2.o;unfold eB;rw[w2];iterate 3 go_step
    obtain⟨bq,q1⟩:∃b,b=R.heap.size:=⟨_,rfl⟩;have T:∀o,Below R.heap.size R (R.alloc o):=λo=>(qjk _ _).alloc (qqf _) _;have h5:Blk (R.alloc (.cells #[.int .u8 y.1.op,.int .i64 y.1.v,.int .i64 y.1.a,.int .i64 y.1.b,.int .i64 y.1.n,.int .u8 y.1.bin,.slice Z y.1.args.length c2,.int .i64 y.1.f,.int .i64 y.1.arr,.int .i64 y.1.to] 71)) bq 71 (eB y):=by unfold eB;rw[w2,q1];exact Blk.new _ _ _
    have T:=T (.cells #[.int .u8 y.1.op,.int .i64 y.1.v,.int .i64 y.1.a,.int .i64 y.1.b,.int .i64 y.1.n,.int .u8 y.1.bin,.slice Z y.1.args.length c2,.int .i64 y.1.f,.int .i64 y.1.arr,.int .i64 y.1.to] 71);rw[<-q1];generalize R.alloc (.cells #[.int .u8 y.1.op,.int .i64 y.1.v,.int .i64 y.1.a,.int .i64 y.1.b,.int .i64 y.1.n,.int .u8 y.1.bin,.slice Z y.1.args.length c2,.int .i64 y.1.f,.int .i64 y.1.arr,.int .i64 y.1.to] 71)=W5 at h5 T⊢;have e0:=hqh (own_below K.o T);have n1:=hqh (own_below S.o T);have o1:=hqh (Q.o.trans (T.mono Q.o.size));have H5:=hqh h5;clear T h5 q1 x0 S K Q g1;refine jxn _ rfl _ _ 65 rfl w.heap.size 71 i0 (.agg #[.int .u8 0,.int .i64 0,.int .i64 0,.int .i64 0,.int .i64 0,.int .u8 0,.slice none 0 0,.int .i64 0,.int .i64 0,.int .i64 0]) 10 96 Tryz.underlying65 m3 s3 x3 y3 rfl (by decide) _ _ _ rfl e0.o ⟨bq,0,none⟩ 1 1 (bI y) rfl rfl (λq u hq=>?_) (λu hu=>?_) (by unfold maxLen;omega) oqo o1.o.size ?_;·rw[Addr.add_mid,H5.o.cell,qja,<-qjf];exact hq
    ·have:=Tv m1 u hu;exact this
    intro v6 w6 s2 t1 _;have y2:=hqh (j4 n1.o (w':=w6) λk hk=>t1.block k (n1.o.lt k hk).2 (λe=>by obtain⟨c1,s⟩:=aT e0.o e.symm;obtain⟨c2,J⟩:=aT n1.o hk;rw[s]at J;injection J with J;injection J with _ e4;cases e4));have b3:=hqh (o1.o.grown t1 o1.o.size (λq e=>(e0.o.lt q e).1));have d3:=hqh (show w6.ownsRow w.heap.size 71 10 v6 (fP (l.take (i+1))).length ((fP (l.take (i+1))).flatMap bI)by rw[Ct HY.o,qzc (by rw[<-X.o];exact ho),qzl,jzu,<-C.o];simpa using s2);clear s2 t1;go_wp2_with fail;exact⟨⟨i+1,by push_cast;rfl,by omega,b3,y2,d3⟩,by show((n:Int)-((i:Int)+1)).toNat<((n:Int)-(i:Int)).toNat;omega⟩
  ·have i1:i=n:=by omega
   rw[i1]at P d;rw[jqc (by have:=HN.o;omega)]at d;obtain⟨fl,s1⟩:∃fl,fl=fP l:=⟨_,rfl⟩;rw[<-s1]at d;have W:=hqh s1;clear s1;obtain⟨m,hm⟩:∃m,m=fl.length:=⟨_,rfl⟩;have x4:m<=n:=by rw[hm,W.o,HN.o];exact jzy _ _
   rw[<-hm]at d;have C:=hqh hm;clear hm;obtain⟨m0,cv,hv⟩:=dN d.o;subst hv;have g2:=hqh (show D.ownsRow w.heap.size 71 10 (.slice m0 m cv) m (((fl.take 0).map (fV l1)++fl.drop 0).flatMap bI)by simpa using d.o);clear d;go_wp2_with fail;go_loopw [34](λv wr=>∃i:Nat,v=.int .i64 i/\i<=m/\Hid (Below w.heap.size w wr)/\Hid (wr.ownsRow w.heap.size 3 1 (.slice (some ⟨w.heap.size,0,none⟩) n n) n ((lC l1 n n).flatMap dx))/\Hid (wr.ownsRow w.heap.size 71 10 (.slice m0 m cv) m (((fl.take i).map (fV l1)++fl.drop i).flatMap bI)))(λv _=>match v with| .int _ x=>((m:Int)-x).toNat|_=>0);case atStart=>exact⟨0,rfl,qqy _,B,P,g2⟩
   case round=>
    clear B P g2 r2 i1 hi;obtain⟨i,rfl,hi,B,P,d⟩:=hrel;rename World=>D;by_cases r2:(i:Int)<(m:Int)
    ·obtain⟨y,N⟩:∃y,fl[i]? =some y:=⟨_,qqh (by have:=C.o;omega)⟩;have y1:y∈l:=by have:=qqr N;rw[W.o]at this;exact(jzt.1 this).1
     obtain⟨g,_,hV,_,_⟩:=d.o.form oqo;injection hV with hV _ j3;subst hV;subst j3;obtain⟨li,q0⟩:∃li,li=(fl.take i).map (fV l1)++fl.drop i:=⟨_,rfl⟩;have q3:li.length=m:=by rw[q0,qzl,qqv,jqm,List.length_drop];have:=C.o;omega
     have v1:li[i]? =some y:=by rw[q0,qze (by rw[qqv,jqm];omega),qqv,jqm,jzd (by have:=C.o;omega),jzj,jzq,qzz];exact N
     have t2:li.set i (fV l1 y)=(fl.take (i+1)).map (fV l1)++fl.drop (i+1):=by
      rw[q0,jzx _ _ (by rw[qqv,jqm];omega),qqv,jqm,jzd (by have:=C.o;omega),jzj,jqu,N];have n3:i<fl.length:=by have:=C.o;omega
      rw[jqo n3,qqj,jxf,List.append_assoc];rfl
     rw[<-q0]at d;have l0:=hqh (show D.rangeAt g (i*10) (eB y).toList from λj v hv=>by have hj:j<10:=(qqi.1 hv).1;have p3:(i+1)*10<=m*10:=jqk _ oqo;rw[d.o.cellAt (i*10+j) oqo,jC bI 10 (λ_=>rfl) li i j y v1 hj];exact hv);have m1:(eB y).toList.all (·.oneCell')=true:=by obtain⟨Z,c2,L,_⟩:=H.o.Mc y1;unfold eB;rw[L];rfl
     have HY:=hqh N;have p1:=hqh v1;have j2:=hqh t2;have g3:=hqh y1;clear N q0 v1 t2 y1 q3;have i4:IntKind.i64.wrap ((i:Int)+1)=((i+1:Nat):Int):=by rw[jqs _ oqo];push_cast;rfl
     have p2:∃n0,D.heap[g]? =some (.cells n0 71 (0,0)):=aT d.o (b:=g) rfl;have l4:=hqh p2;clear p2;go_upto_region 12 with fail;apply jqf;iterate 6 go_step
     refine wpList_load_mid rfl 71 (.tmp 37) rfl g (i*10) rfl _ _ l0.o Tryz.underlying71 rfl kqk ?_;simp only[qqa,jzg];obtain⟨I,U⟩:∃b,b=D.heap.size:=⟨_,rfl⟩;iterate 6 go_step
     rw[<-U];have o0:Blk (D.alloc (.cells bS 71)) I 71 bS:=by rw[U];exact Blk.new _ _ _
     refine az rfl 71 (.tmp 8) (.tmp 38) rfl I (eB y) rfl rfl 71 _ o0 rfl aS m1 ?_;intro z a1 p0;have M:Below D.heap.size D z:=((qjk _ _).alloc (qqf _) _).trans (p0.aM (by simp) λi e=>by omega);have Y:=hqh a1;have d0:=hqh (B.o.trans (M.mono B.o.size));have E:=hqh (own_below P.o M);have F:=hqh (own_below d.o M);clear p0 a1 o0 M P d B l0 U;refine jza ?_;have x0:z.cell? ⟨I,0,none⟩=some (.int .u8 y.1.op):=Y.o.cell 0;obtain⟨A,V⟩:∃A,A=y.1.op:=⟨_,rfl⟩;rw[<-V]at x0;have X:=hqh V;clear V;by_cases ho:A=13\/A=14
     ·have r0:=HT.o y g3.o (by rw[<-X.o];exact ho);obtain⟨r,s0⟩:∃r,y.1.to=((r:Nat):Int):=⟨y.1.to.toNat,by omega⟩;have x9:z.cell? ⟨I,9,none⟩=some (.int .i64 (r:Int)):=by rw[<-s0];exact Y.o.cell 9
      rw[s0]at r0;have v2:r<n:=oqo;have b5:(r:Int)<(n:Int):=oqo;have y0:fV l1 y=(⟨y.1.op,y.1.v,y.1.a,y.1.b,y.1.n,y.1.bin,y.1.args,y.1.f,y.1.arr,((atW l1 r:Nat):Int)⟩,y.2):=by unfold fV;rw[qzb (by rw[<-X.o];exact ho),s0,jxi]
      have r4:z.cell? ⟨w.heap.size,r,none⟩=some (.int .i64 ((atW l1 r:Nat):Int)):=by rw[E.o.cellAt r oqo];have:=jC dx 1 (λ_=>rfl) (lC l1 n n) r 0 ((atW l1 r:Nat):Int) (by unfold lC;rw[qqp,qqz v2];simp[v2]) (by decide);rw[jzb,qzz]at this;rw[this];rfl
      have p3:(i+1)*10<=m*10:=jqk _ oqo;have q4:z.cell? ⟨g,i*10+9,none⟩=some (.int .i64 (r:Int)):=by rw[F.o.cellAt (i*10+9) oqo,jC bI 10 (λ_=>rfl) li i 9 y p1.o (by decide),<-s0];rfl
      have s4:z.frozen? ⟨g,i*10+9,none⟩=false:=by obtain⟨n0,r1⟩:=aT F.o (b:=g) rfl;exact Blk.free (t:=71) (cs:=n0) r1 _
      have K:=hqh (show(z.setCell ⟨g,i*10+9,none⟩ (.int .i64 ((atW l1 r:Nat):Int))).ownsRow w.heap.size 71 10 (.slice (some ⟨g,0,none⟩) m _) m (((fl.take (i+1)).map (fV l1)++fl.drop (i+1)).flatMap bI)by have:=kC (j:=i*10+9) F.o (.int .i64 ((atW l1 r:Nat):Int));rw[Mr bI 10 (λ_=>rfl) (y:=fV l1 y) p1.o (by decide) _ (by rw[y0];rfl),j2.o]at this;exact this);have o2:g≠w.heap.size:=λe=>by obtain⟨c1,s⟩:=aT F.o (b:=g) rfl;obtain⟨c2,L⟩:=aT E.o (b:=w.heap.size) rfl;rw[e,L]at s;injection s with s;injection s with _ J;cases J
      have S:=hqh (dm E.o (KO.set (O:=λk=>k=g) (a:=⟨g,i*10+9,none⟩) rfl (.int .i64 ((atW l1 r:Nat):Int))) (λb hb e=>by
       have s:w.heap.size=b:=by injection hb
       exact o2 (by rw[s];exact e.symm)));have l3:=(F.o.lt g rfl).1;have Q:=hqh (d0.o.setCell (p:=⟨g,i*10+9,none⟩) l3 (.int .i64 ((atW l1 r:Nat):Int)));clear s0 y0 o2;rcases ho with rfl|rfl;·go_wp2_with fail;exact⟨⟨i+1,by push_cast;rfl,by omega,Q,S,K⟩,by show((m:Int)-((i:Int)+1)).toNat<((m:Int)-(i:Int)).toNat;omega⟩
      ·go_wp2_with fail;exact⟨⟨i+1,by push_cast;rfl,by omega,Q,S,K⟩,by show((m:Int)-((i:Int)+1)).toNat<((m:Int)-(i:Int)).toNat;omega⟩
     ·have y0:fV l1 y=y:=by unfold fV;rw[qzc (by rw[<-X.o];exact ho)]
      have K:=hqh (show z.ownsRow w.heap.size 71 10 (.slice (some ⟨g,0,none⟩) m _) m (((fl.take (i+1)).map (fV l1)++fl.drop (i+1)).flatMap bI)by rw[<-j2.o,y0,set_self p1.o];exact F.o);have m4:(((A:Nat):Int)==13)=false:=qqe.2 oqo;have o4:(((A:Nat):Int)==14)=false:=qqe.2 oqo;have n4:((A:Nat):Int)≠13:=oqo;have p4:((A:Nat):Int)≠14:=oqo;clear y0;go_wp2_with fail;exact⟨⟨i+1,by push_cast;rfl,by omega,d0,E,K⟩,by show((m:Int)-((i:Int)+1)).toNat<((m:Int)-(i:Int)).toNat;omega⟩
    ·have i1:i=m:=by omega
     rw[i1]at d;rw[jqc (by have:=C.o;omega),jxt (by have:=C.o;omega),List.append_nil]at d;go_wp2_with fail;go_ret;refine⟨⟨_,rfl,fl.map (fV l1),by rw[W.o,d2.o];exact NV l,?_⟩,B.o⟩;have ho:=d.o;rw[W.o]at ho;rw[W.o];exact QU H.o B.o (by rw[qqv,C.o,W.o]) ho
