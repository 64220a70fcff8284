/- Joint text: OProg, OSrcA, OSrcB, OMade, ODLaw, OMeans, HFew. By an AI agent. -/
import Derived.Test.YtgdibfnpkcdiiaaGreatDoorSzy
import Derived.Test.YtgdibfnpkcdiiaaGreatDoorS25
import Derived.Laws.ResultCell
set_option linter.all false
set_option maxRecDepth 100000
set_option maxHeartbeats 64000000
noncomputable section
namespace Go.Proofs.YtgdibfnpkcdiiaaGreatDoor
open Go.RowKit
def nE{P:Program}{fn:Func}{p u:Tmp}{a:TypeId}(h:fn.results=#[.cell p a,.tmp u])(tmps:Array Value)(w:World)(g:Nat)(t:TypeId)(cs:Array Value)(d:TypeDesc)(c:tmps.getD p undef=.pointer (some ⟨g,0,none⟩))(b:Blk w g t cs)(hu:P.underlying a=some d)(hd:(match d with| .struct _| .array _ _=>true|_=>false)=true)(hi:(P.info? a).map (·.size)=some cs.size):(results fn tmps).run P w=.ok (.tuple #[.agg cs,tmps.getD u undef]) w:=by
 have e:tmps[p]?.getD undef=.pointer (some ⟨g,0,none⟩):=by simpa using c
 rw[results_cell_tmp h];simp[e,asAddr,run_loadVar_row w g t a cs (0,0) d b hu hd hi,Result.andThen]
structure uo(D:Nat->Int->Int->Int)(arr:List Int)(fs gs:List FnP)(i:Nat):Prop where
 len:gs.length=i
 fn:∀(j:Nat)(f g:FnP),fs[j]? =some f->gs[j]? =some g->g.name=f.name/\g.params=f.params/\g.vars=f.vars/\(∃n,g.code=eP D arr n f.code)/\bC D arr g.code=g.code
def uo.next{D:Nat->Int->Int->Int}{arr:List Int}{fs gs:List FnP}{i:Nat}(h:uo D arr fs gs i){f:FnP}(hf:fs[i]? =some f){c:List In}{n:Nat}(h1:c=eP D arr n f.code)(h2:bC D arr c=c):uo D arr fs (gs++[{f with code:=c}]) (i+1):=by
 refine⟨by rw[qzl,h.len];rfl,λj d g b a=>?_⟩;by_cases e:j=i;·subst e;rw[qze (by rw[h.len];exact qqf _),h.len,jzg]at a;rw[hf]at b;simp at a;cases b;subst a;exact⟨rfl,rfl,rfl,⟨n,h1⟩,h2⟩
 ·have hj:j<gs.length:=by have:=(qqi.1 a).1;rw[qzl,h.len]at this;rw[h.len];simp at this;omega
  rw[qzf hj]at a;exact h.fn j d g b a
def uo.all{D:Nat->Int->Int->Int}{p:PrW}{gs:List FnP}{i:Nat}(h:uo D p.arrays p.fns gs i)(hi:i=p.fns.length):iw D p ⟨p.arrays,gs,p.main⟩:=⟨rfl,rfl,h.len.trans hi,h.fn⟩
def IM(gp:PrG)(w:World)(v:PrR w gp)(hs:PrS gp.p)(hr:aP gp.p=false):Calls Tryz.prog 37 #[prV gp] w λe w'=>e=.returned (.tuple #[.agg #[.slice none 0 0,.slice none 0 0,.int .i64 0],.int .i64 2])/\Below w.heap.size w w':=by have b:=hqh (λW(H:Below w.heap.size w W)=>rQ gp W (v.below H) hs);rw[hr]at b;obtain⟨⟨E,gf,i⟩,K,L,G⟩:=gp;obtain⟨⟨A,f,s,_,_⟩,⟨F,h,u,_,_⟩,_⟩:=v;dsimp only at s u;subst s;subst u;clear hs hr;unfold prV at b⊢;dsimp only at b⊢;obtain⟨o,x⟩:∃n,n=E.length:=⟨_,rfl⟩;obtain⟨nl,y⟩:∃n,n=G.length:=⟨_,rfl⟩;rw[<-x,<-y]at b⊢;clear x y;go_enter Tryz.func37,Tryz.ntmps37;go_upto_region 1 with fail;have j:Below w.heap.size w ((w.alloc (.cells #[.slice A o f,.slice F nl h,.int .i64 i] 25)).alloc (.cells #[.slice none 0 0,.slice none 0 0,.int .i64 0] 25)):=((qjk _ _).alloc (qqf _) _).alloc (by simp) _;have m:=(Blk.new w 25 #[.slice A o f,.slice F nl h,.int .i64 i]).alloc (.cells #[.slice none 0 0,.slice none 0 0,.int .i64 0] 25);have d:=Blk.new (w.alloc (.cells #[.slice A o f,.slice F nl h,.int .i64 i] 25)) 25 #[.slice none 0 0,.slice none 0 0,.int .i64 0];simp only[jqh]at d;generalize I:(w.alloc _).alloc _=w1 at j m d⊢;clear I;have r:=hqh j;have c:=hqh m;have B:=hqh d;clear j m d;have c0:=c.o.cell 0;have c1:=c.o.cell 1;have c2:=c.o.cell 2;have J:=c.o.lt;go_upto_region 2 with(first| (go_at_call 14;refine(b.o w1 r.o).mono ?_;rintro e O⟨rfl,k⟩;have z:=hqh (aC r.o k);have a:=hqh (B.o.below k);clear k c0 c1 c2 J)|fail);have k0:=a.o.cell 0;have k1:=a.o.cell 1;have k2:=a.o.cell 2;have f0:=a.o.free 0;have f1:=a.o.free 1;have f2:=a.o.free 2;have N:=a.o.lt;go_wp2_with fail;refine jxp (nE rfl _ _ (w.heap.size+1) 25 #[.slice none 0 0,.slice none 0 0,.int .i64 0] _ rfl (((a.o.put 0 _).put 1 _).put 2 _) Tryz.underlying25 rfl kqk) rfl ?_;exact⟨rfl,((z.o.setCell (p:=⟨w.heap.size+1,0,none⟩) (by show w.heap.size<=w.heap.size+1;omega) _).setCell (p:=⟨w.heap.size+1,1,none⟩) (by show w.heap.size<=w.heap.size+1;omega) _).setCell (p:=⟨w.heap.size+1,2,none⟩) (by show w.heap.size<=w.heap.size+1;omega) _⟩
def YK{α β γ δ:Type}{H G:α->β->γ->δ->Prop}{e:Prop}(h1:(∀a b c d,H a b c d->G a b c d)->e)(h2:∀a b c d,H a b c d->G a b c d):e:=h1 h2
def WC:(Tryz.prog.info? 67).map (λi=>(i.zero,i.size,i.bytes))=some (some (.agg #[.string ⟨#[]⟩,.int .i64 0,.int .i64 0,.slice none 0 0]),4,56):=kqk
def yA(gp:PrG)(w:World)(hg:PrR w gp)(hr:aP gp.p=true)(b7:ji gp.p):Calls Tryz.prog 37 #[prV gp] w λe w'=>∃gq,e=.returned (.tuple #[prV gq,.int .i64 0])/\(∀l5,KO (λk=>k<w.heap.size) w' l5->PrR l5 gq)/\iw doW gp.p gq.p/\Below w.heap.size w w':=by
 have y0:=hqh (λW(hW:Below w.heap.size w W)=>rQ gp W (hg.below hW) (Ot hr));rw[hr]at y0;have HG:=hqh hg;have HR:=hqh hr;have y7:=hqh b7;obtain⟨⟨P,gf,G⟩,p9,q9,gl⟩:=gp;obtain⟨l1,⟨F,cf,r6,_,i4⟩,t2⟩:=hg;obtain⟨A,ca,m1,_,_⟩:=id l1;dsimp only at m1 r6 t2 i4 l1;subst m1;subst r6;have m6:P.length<=16:=by have:=hr;simp only[aP,qqn,qqu]at this;exact this.1.1.1.1
 have q6:gf.length<=64:=by have:=hr;simp only[aP,qqn,qqu]at this;exact this.1.1.1.2
 clear hr b7;unfold prV at y0;rw[show prV ⟨⟨P,gf,G⟩,.slice A P.length ca,.slice F gl.length cf,gl⟩=.agg #[.slice A P.length ca,.slice F gl.length cf,.int .i64 G]from rfl];dsimp only at y0;obtain⟨m,y2⟩:∃n,n=P.length:=⟨_,rfl⟩;obtain⟨nl,z2⟩:∃n,n=gl.length:=⟨_,rfl⟩;have p6:gf.length=nl:=by rw[<-t2,qqv,z2]
 rw[<-y2,<-z2]at y0⊢;rw[<-y2]at l1;have y1:=hqh y2;have x7:=hqh z2;have m7:=hqh l1;have o7:=hqh i4;have p7:=hqh t2;have m3:=hqh p6;have r5:=hqh q6;have l7:=hqh m6;clear y2 z2 l1 i4 t2 p6 q6 m6;go_enter Tryz.func37,Tryz.ntmps37;go_upto_region 1 with fail;have h4:Below w.heap.size w ((w.alloc (.cells #[.slice A m ca,.slice F nl cf,.int .i64 G] 25)).alloc (.cells #[.slice none 0 0,.slice none 0 0,.int .i64 0] 25)):=((qjk _ _).alloc (qqf _) _).alloc (by simp) _;have y4:=(Blk.new w 25 #[.slice A m ca,.slice F nl cf,.int .i64 G]).alloc (.cells #[.slice none 0 0,.slice none 0 0,.int .i64 0] 25);have d3:=Blk.new (w.alloc (.cells #[.slice A m ca,.slice F nl cf,.int .i64 G] 25)) 25 #[.slice none 0 0,.slice none 0 0,.int .i64 0];simp only[jqh]at d3;generalize y8:(w.alloc _).alloc _=w1 at h4 y4 d3⊢;clear y8;have g3:=hqh h4;have s0:=hqh y4;have d6:=hqh d3;clear h4 y4 d3;have c0:=s0.o.cell 0;have c1:=s0.o.cell 1;have c2:=s0.o.cell 2;have lp:=s0.o.lt;go_upto_region 3 with(first| (go_at_call 14;refine(y0.o w1 g3.o).mono ?_;rintro e z⟨rfl,n1⟩;have i3:=hqh (aC g3.o n1);have r3:=hqh (d6.o.below n1);have z1:=hqh (s0.o.below n1);clear n1 c0 c1 c2 lp)|fail);clear y0 g3 s0 d6;have n5:=hqh (m7.o.below i3.o);have ia:w.heap.size+1<z.heap.size:=r3.o.lt;apply YK (H:=λ(B:Nat)(r:Option Addr)(s:Nat)(W:World)=>Below z.heap.size z W/\Blk W B 25 #[.slice r m s,.slice none 0 0,.int .i64 G]/\W.ownsRow z.heap.size 3 1 (.slice r m s) m (P.flatMap bQ)/\(Value.slice r m s).ownBlock≠some B/\z.heap.size<=B)
 ·intro d4;refine wp_region_draw [true,true,false,true,true,false,false,false] (λW=>Below z.heap.size z W) 4 eF (λ_ a a2 _ hd h=>by cases a;cases a2;cases hd;exact h) kqk (λ_ _ h=>h) ?_;iterate 2 refine aR (λK d=>?_);rw[qzb kqk];refine⟨_,λZ hZ=>(by have kk:=(z1.o.below hZ).cell 0;go_simp;try rfl),?_⟩;simp only[qqa];refine d _ ?_;clear d
  refine bg ?_;iterate 2 refine aR (λK d=>?_);rw[qzb kqk];refine⟨_,λZ hZ=>(by have kk:=(z1.o.below hZ).cell 2;go_simp;try rfl),?_⟩;simp only[qqa];refine d _ ?_;clear d
  refine bg (bg (bg (bJ ?_)));intro vs Wd hN j2 T;have CL:=λW(hW:Below z.heap.size z W)=>nI 2 rfl A m ca _ W (mO (n5.o.below hW) y1.o) (by have:=y1.o;have:=l7.o;omega);have v1:=hqh CL;clear CL;have h7:Wd.heap.size=z.heap.size:=by rw[j2]
  refine uB 2 6 rfl rfl kqk (λS d=>?_) (λS d=>?_)
  ·go_simp;refine(v1.o Wd T).mono ?_;rintro e w3⟨va,rfl,ho,X⟩;obtain⟨r,s,g5⟩:=iq ho;subst g5;have I:=T.trans (X.mono T.size);have HO:=hqh ho;refine d.o _ _ (Or.inl I) ?_;clear d ho;refine uB 5 6 rfl rfl kqk (λS d=>?_) (λS d=>?_)
   ·go_simp;refine d.o _ _ (Or.inl I) ?_;clear d;refine ai 6 rfl kqk (λS d=>?_);go_simp;refine d.o _ _ (Or.inl (I.alloc I.size _)) ?_;clear d;have E:=Blk.new w3 25 #[.slice none 0 0,.slice none 0 0,.int .i64 0];have m0:=own_below HO.o (show Below w3.heap.size w3 (w3.alloc (.cells #[.slice none 0 0,.slice none 0 0,.int .i64 0] 25))from(qjk _ _).alloc (qqf _) _);have r0:=I.alloc I.size (.cells #[.slice none 0 0,.slice none 0 0,.int .i64 0] 25);have p4:∀b,(Value.slice r m s).ownBlock=some b->b<w3.heap.size:=λb e=>(HO.o.lt b e).2;have N:z.heap.size<=w3.heap.size:=I.size;generalize s1:w3.alloc (.cells #[.slice none 0 0,.slice none 0 0,.int .i64 0] 25)=wz at E m0 r0⊢;clear s1;have g0:=E.cell 0;have g1:=E.cell 1;have g2:=E.cell 2;have f0:=E.free 0;have f1:=E.free 1;have f2:=E.free 2;have lg:=E.lt;refine ai 7 rfl kqk (λS d=>?_);go_simp;refine d.o _ _ (Or.inl (((r0.setCell (p:=⟨w3.heap.size,0,none⟩) N _).setCell (p:=⟨w3.heap.size,1,none⟩) N _).setCell (p:=⟨w3.heap.size,2,none⟩) N _)) ?_;clear d;refine au kqk ?_;have J:=((E.put 0 (.slice r m s)).put 1 (.slice none 0 0)).put 2 (.int .i64 G);have Y:=((r0.setCell (p:=⟨w3.heap.size,0,none⟩) N (.slice r m s)).setCell (p:=⟨w3.heap.size,1,none⟩) N (.slice none 0 0)).setCell (p:=⟨w3.heap.size,2,none⟩) N (.int .i64 G);have Q:(Value.slice r m s).ownBlock≠some w3.heap.size:=λe=>by have:=p4 _ e;omega
    have e0:World.ownsRow _ z.heap.size 3 1 (.slice r m s) m (P.flatMap bQ):=gZ (base':=z.heap.size) (di (di (di m0 (KO.set (O:=λk=>k=w3.heap.size) (a:=⟨w3.heap.size,0,none⟩) rfl (.slice r m s)) (λb e c=>Q (c▸e))) (KO.set (O:=λk=>k=w3.heap.size) (a:=⟨w3.heap.size,1,none⟩) rfl (.slice none 0 0)) (λb e c=>Q (c▸e))) (KO.set (O:=λk=>k=w3.heap.size) (a:=⟨w3.heap.size,2,none⟩) rfl (.int .i64 G)) (λb e c=>Q (c▸e))) T.size;obtain⟨BB,e4⟩:∃b,b=w3.heap.size:=⟨_,rfl⟩;rw[<-e4]at J Y Q e0 N⊢;generalize r1:((wz.setCell _ _).setCell _ _).setCell _ _=wx at J Y e0⊢;clear r1;exact d4 BB r s wx ⟨Y,by simpa using J,e0,Q,N⟩
   ·go_simp;refine d.o _ _ (Or.inl (I.alloc I.size _)) ?_;clear d;refine ai 5 rfl kqk (λS d=>?_);go_simp;refine d.o _ _ (Or.inl (I.alloc I.size _)) ?_;clear d;have E:=Blk.new w3 25 #[.slice none 0 0,.slice none 0 0,.int .i64 0];have m0:=own_below HO.o (show Below w3.heap.size w3 (w3.alloc (.cells #[.slice none 0 0,.slice none 0 0,.int .i64 0] 25))from(qjk _ _).alloc (qqf _) _);have r0:=I.alloc I.size (.cells #[.slice none 0 0,.slice none 0 0,.int .i64 0] 25);have p4:∀b,(Value.slice r m s).ownBlock=some b->b<w3.heap.size:=λb e=>(HO.o.lt b e).2;have N:z.heap.size<=w3.heap.size:=I.size;generalize s1:w3.alloc (.cells #[.slice none 0 0,.slice none 0 0,.int .i64 0] 25)=wz at E m0 r0⊢;clear s1;have g0:=E.cell 0;have g1:=E.cell 1;have g2:=E.cell 2;have f0:=E.free 0;have f1:=E.free 1;have f2:=E.free 2;have lg:=E.lt;refine ai 7 rfl kqk (λS d=>?_);go_simp;refine d.o _ _ (Or.inl (((r0.setCell (p:=⟨w3.heap.size,0,none⟩) N _).setCell (p:=⟨w3.heap.size,1,none⟩) N _).setCell (p:=⟨w3.heap.size,2,none⟩) N _)) ?_;clear d;refine au kqk ?_;have J:=((E.put 0 (.slice r m s)).put 1 (.slice none 0 0)).put 2 (.int .i64 G);have Y:=((r0.setCell (p:=⟨w3.heap.size,0,none⟩) N (.slice r m s)).setCell (p:=⟨w3.heap.size,1,none⟩) N (.slice none 0 0)).setCell (p:=⟨w3.heap.size,2,none⟩) N (.int .i64 G);have Q:(Value.slice r m s).ownBlock≠some w3.heap.size:=λe=>by have:=p4 _ e;omega
    have e0:World.ownsRow _ z.heap.size 3 1 (.slice r m s) m (P.flatMap bQ):=gZ (base':=z.heap.size) (di (di (di m0 (KO.set (O:=λk=>k=w3.heap.size) (a:=⟨w3.heap.size,0,none⟩) rfl (.slice r m s)) (λb e c=>Q (c▸e))) (KO.set (O:=λk=>k=w3.heap.size) (a:=⟨w3.heap.size,1,none⟩) rfl (.slice none 0 0)) (λb e c=>Q (c▸e))) (KO.set (O:=λk=>k=w3.heap.size) (a:=⟨w3.heap.size,2,none⟩) rfl (.int .i64 G)) (λb e c=>Q (c▸e))) T.size;obtain⟨BB,e4⟩:∃b,b=w3.heap.size:=⟨_,rfl⟩;rw[<-e4]at J Y Q e0 N⊢;generalize r1:((wz.setCell _ _).setCell _ _).setCell _ _=wx at J Y e0⊢;clear r1;exact d4 BB r s wx ⟨Y,by simpa using J,e0,Q,N⟩
  ·go_simp;have I:=T.alloc T.size (.cells #[.slice none 0 0,.slice none 0 0,.int .i64 0] 25);refine d.o _ _ (Or.inl I) ?_;clear d;have m5:=v1.o _ I;have q5:=hqh m5;clear m5;have hq:=Blk.new Wd 25 #[.slice none 0 0,.slice none 0 0,.int .i64 0];rw[h7]at hq;have t8:(Wd.alloc (.cells #[.slice none 0 0,.slice none 0 0,.int .i64 0] 25)).heap.size=z.heap.size+1:=by rw[jqh,h7]
   generalize s1:Wd.alloc (.cells #[.slice none 0 0,.slice none 0 0,.int .i64 0] 25)=wz at I q5 hq t8⊢;clear s1;refine ai 2 rfl kqk (λS d=>?_);go_simp;refine q5.o.mono ?_;rintro e w3⟨va,rfl,ho,X⟩;obtain⟨r,s,g5⟩:=iq ho;subst g5;have r2:=I.trans (X.mono I.size);have HO:=hqh ho;refine d.o _ _ (Or.inl r2) ?_;clear d ho;refine ai 5 rfl kqk (λS d=>?_);go_simp;refine d.o _ _ (Or.inl r2) ?_;clear d;have E:=hq.below X;have g0:=E.cell 0;have g1:=E.cell 1;have g2:=E.cell 2;have f0:=E.free 0;have f1:=E.free 1;have f2:=E.free 2;have lg:=E.lt;refine ai 7 rfl kqk (λS d=>?_);go_simp;refine d.o _ _ (Or.inl (((r2.setCell (p:=⟨z.heap.size,0,none⟩) (qqf _) _).setCell (p:=⟨z.heap.size,1,none⟩) (qqf _) _).setCell (p:=⟨z.heap.size,2,none⟩) (qqf _) _)) ?_;clear d;refine au kqk ?_;have J:=((E.put 0 (.slice r m s)).put 1 (.slice none 0 0)).put 2 (.int .i64 G);have Y:=((r2.setCell (p:=⟨z.heap.size,0,none⟩) (qqf _) (.slice r m s)).setCell (p:=⟨z.heap.size,1,none⟩) (qqf _) (.slice none 0 0)).setCell (p:=⟨z.heap.size,2,none⟩) (qqf _) (.int .i64 G);have Q:(Value.slice r m s).ownBlock≠some z.heap.size:=λe=>by have:=(HO.o.lt _ e).1;omega
   have e0:World.ownsRow _ z.heap.size 3 1 (.slice r m s) m (P.flatMap bQ):=gZ (base':=z.heap.size) (di (di (di HO.o (KO.set (O:=λk=>k=z.heap.size) (a:=⟨z.heap.size,0,none⟩) rfl (.slice r m s)) (λb e c=>Q (c▸e))) (KO.set (O:=λk=>k=z.heap.size) (a:=⟨z.heap.size,1,none⟩) rfl (.slice none 0 0)) (λb e c=>Q (c▸e))) (KO.set (O:=λk=>k=z.heap.size) (a:=⟨z.heap.size,2,none⟩) rfl (.int .i64 G)) (λb e c=>Q (c▸e))) I.size;generalize r1:((w3.setCell _ _).setCell _ _).setCell _ _=wx at J Y e0⊢;clear r1;exact d4 z.heap.size r s wx ⟨Y,by simpa using J,e0,Q,qqf _⟩
 ·rintro B r s w3⟨X,E,m0,a7,s6⟩;have h9:=hqh X;have z7:=hqh m0;have v7:=hqh a7;have i6:PgS B w3.heap.size (.slice r m s) G w3 (.slice none 0 0) []:=⟨E.lt,E,⟨by simp,Or.inl ⟨rfl,rfl⟩⟩,λ_ h=>by simp at h⟩;have d8:=hqh i6;have q7:=hqh s6;have p3:=hqh (z1.o.below X);have g6:=hqh (r3.o.below X);have h6:=hqh (i3.o.trans (X.mono i3.o.size));clear X E m0 a7 i6 s6 z1 r3 n5;have k1:=p3.o.cell 1;have lk:=p3.o.lt;go_wp2_with fail;clear k1 lk;go_loopg [20]nl(λgk v wr=>∃(i:Nat)(vf:Value)(R:List FnG),i<=nl/\nl-i<=gk/\v=.int .i64 i/\Hid (PgS B w3.heap.size (.slice r m s) G wr vf R)/\Hid (uo doW P gf (R.map (·.fn)) i)/\Hid (KO (λk=>k=B) w3 wr));case atStart=>exact⟨0,_,[],qqy _,qqf _,rfl,d8,hqh ⟨rfl,λj f g _ h=>by simp at h⟩,hqh (KO.refl _ _)⟩
  case round=>
   obtain⟨i,vf,R,hi,y9,rfl,U,HU,HK⟩:=hrel;have r9:w.heap.size+1<B:=by have:=q7.o;omega
   have e1:Below w.heap.size w wr:=h6.o.trans (HK.o.aO h6.o.size (λi e=>by omega));by_cases r8:i<nl;case neg=>
    have q:decide ((i:Int)<(nl:Int))=false:=qqt oqo;obtain⟨j0,cv,h5⟩:=dM U.o.row;subst h5;have t6:i=gf.length:=by have:=m3.o;omega
    have b0:=U.o.blk.cell 0;have b1:=U.o.blk.cell 1;have b2:=U.o.blk.cell 2;have lB:=U.o.blk.lt;have J:=HK.o.blk g6.o oqo;have d0:=J.cell 0;have d1:=J.cell 1;have d2:=J.cell 2;have f0:=J.free 0;have f1:=J.free 1;have f2:=J.free 2;have lq:=J.lt;have g8:=hqh J;have e2:=hqh e1;have r7:=hqh t6;clear J e1 t6;go_wp2_with fail;refine jxp (nE rfl _ _ (w.heap.size+1) 25 #[.slice r m s,(.slice j0 R.length cv),.int .i64 G] _ rfl (((g8.o.put 0 _).put 1 _).put 2 _) Tryz.underlying25 rfl kqk) rfl ?_;have m8:=((e2.o.setCell (p:=⟨w.heap.size+1,0,none⟩) (by show w.heap.size<=w.heap.size+1;omega) (.slice r m s)).setCell (p:=⟨w.heap.size+1,1,none⟩) (by show w.heap.size<=w.heap.size+1;omega) (.slice j0 R.length cv)).setCell (p:=⟨w.heap.size+1,2,none⟩) (by show w.heap.size<=w.heap.size+1;omega) (.int .i64 G);have o4:w.heap.size+1<w3.heap.size:=g6.o.lt;have s8:=((U.o.far o4 oqo 0 (.slice r m s)).far o4 oqo 1 (.slice j0 R.length cv)).far o4 oqo 2 (.int .i64 G);have hq:∀(k:Nat)(W:World)(u:Value),World.ownsRow W z.heap.size 3 1 (.slice r m s) m (P.flatMap bQ)->World.ownsRow (W.setCell ⟨w.heap.size+1,k,none⟩ u) z.heap.size 3 1 (.slice r m s) m (P.flatMap bQ):=λk W u h=>di h (KO.set (O:=λk=>k=w.heap.size+1) (a:=⟨w.heap.size+1,k,none⟩) rfl u) (λb e c=>by have:=(h.lt b e).1;omega);have m1:=hq 2 _ (.int .i64 G) (hq 1 _ (.slice j0 R.length cv) (hq 0 _ (.slice r m s) (di z7.o HK.o (λb e c=>v7.o (c▸e)))));refine⟨⟨⟨P,R.map (·.fn),G⟩,.slice r m s,(.slice j0 R.length cv),R⟩,rfl,λl5 hw=>?_,HU.o.all (p:=⟨P,gf,G⟩) r7.o,m8⟩;exact(s8.ko hw (λb L=>by have L:b<w.heap.size:=L;omega)).pr (rG (di m1 hw (λb e L=>by have:=(m1.lt b e).1;have L:b<w.heap.size:=L;omega)) y1.o)
   case pos=>
    have q:decide ((i:Int)<(nl:Int))=true:=qqx oqo;obtain⟨x,hx⟩:∃x,gl[i]? =some x:=⟨_,qqh (by rw[<-x7.o];exact r8)⟩;have e7:gf[i]? =some x.fn:=by rw[<-p7.o,qqp,hx];rfl
    obtain⟨fb,fo,j8,i5⟩:∃b o,F=some ⟨b,o,none⟩/\jN w b (o+i*4) x:=by
     rcases o7.o with e|⟨b,o,e,k⟩;·rw[e]at hx;simp at hx
     ·exact⟨b,o,e,k i x hx⟩
    subst j8;have HX:=hqh (i5.below e1);obtain⟨x0,x1,x2,x3,_,_⟩:=i5.below e1;have lb:=aB x0;obtain⟨C,cc,s2,_,_⟩:=id HX.o.code;obtain⟨nc,r4⟩:∃n,n=x.l.length:=⟨_,rfl⟩;rw[<-r4]at s2;rw[s2]at x3;have n7:=hqh s2;have m9:=hqh r4;clear s2 r4;have e8:=hqh (HK.o.blk p3.o oqo);have b6:=hqh e7;have e2:=hqh e1;have i9:=hqh (show(i:Int)<(nl:Int)by omega);have ea:=U.o.lt;clear hx e7 i5 e1;go_upto_region 7 with fail;have a1:=(qjk wr.heap.size wr).alloc (qqf _) (.cells #[.string ⟨x.fn.name.toArray⟩,.int .i64 x.fn.params,.int .i64 x.fn.vars,.slice C nc cc] 67);have b5:=Blk.new wr 67 #[.string ⟨x.fn.name.toArray⟩,.int .i64 x.fn.params,.int .i64 x.fn.vars,.slice C nc cc];have d5:(wr.alloc (.cells #[.string ⟨x.fn.name.toArray⟩,.int .i64 x.fn.params,.int .i64 x.fn.vars,.slice C nc cc] 67)).heap.size=wr.heap.size+1:=by simp
    generalize z8:wr.alloc _=V at a1 b5 d5⊢;clear z8;have j3:=hqh a1;have s3:=hqh b5;have y3:=hqh d5;have i1:=hqh (e8.o.below a1);have w5:=hqh (HG.o.below (e2.o.trans (a1.mono e2.o.size)));have x5:=hqh (show dS V (.slice C nc cc) x.l by have:=HX.o.code.below a1;rw[n7.o]at this;exact this);have t1:x.fn∈gf:=qqr b6.o;have n4:∀y∈x.l,y.1∈x.fn.code:=λy hy=>by rw[<-HX.o.eq];exact qjb.2 ⟨y,hy,rfl⟩
    have q8:x.l.length<=8000:=by have:=(o8 HR.o t1).len;rw[<-HX.o.eq,qqv]at this;exact this
    have CL:=λW(hW:Below V.heap.size V W)=>DL (.slice C nc cc) x.l W (x5.o.below hW) oqo (λy hy=>(vk HR.o t1 (n4 y hy)).1) (λy hy=>(vk HR.o t1 (n4 y hy)).2);have v1:=hqh CL;have b4:=hqh t1;clear a1 b5 d5 CL t1 n4 q8 x0 x1 x2 x3;refine wp_region_draw [true,true,true,false,false,false,false] (λW=>Below V.heap.size V W) 4 eF (λ_ a a2 _ hd h=>by cases a;cases a2;cases hd;exact h) kqk (λ_ _ h=>h) ?_;iterate 3 refine aR (λK d=>?_);rw[qzb kqk];refine⟨_,λZ hZ=>(by have p0:=(i1.o.below hZ).cell 0;have p1:=(i1.o.below hZ).cell 1;have p2:=(i1.o.below hZ).cell 2;have b3:=(s3.o.below hZ).cell 3;have lp:=(i1.o.below hZ).lt;go_simp;try rfl),?_⟩;simp only[qqa];refine d _ ?_;clear d
    refine bg (bg (bg (bg (bJ ?_))));intro vs Wd hN j2 T;have v8:Wd.heap.size=V.heap.size:=by rw[j2]
    refine ai 3 rfl kqk (λS d=>?_);go_simp;refine(v1.o Wd T).mono ?_;rintro e w8⟨vc,li,rfl,z6,d7,n6⟩;have l0:=T.trans (n6.mono T.size);refine d.o _ _ (Or.inl l0) ?_;clear d;have y5:=hqh z6;have a6:=hqh d7;clear z6 d7;have o6:li.map (·.1)=x.fn.code:=by rw[y5.o,HX.o.eq]
    have FN:=Gq ⟨⟨P,gf,G⟩,.slice A m ca,.slice (some ⟨fb,fo,none⟩) nl cf,gl⟩ x.fn vc li _ w8 (λW hW=>by have l8:Below V.heap.size w8 W:=hW.aO l0.size (λi hi=>by have:=hi.1;omega);have:=(w5.o.below (l0.trans l8)).arrays;dsimp only at this⊢;rw[<-y1.o]at this;exact this) (o8 HR.o b4.o) (jg HR.o b4.o) (y7.o _ b4.o) o6 a6.o (λb L=>L.2);have s5:=hqh FN;clear FN o6;have FN:=s5.o;unfold prV at FN;dsimp only at FN;refine ai 4 rfl kqk (λS d=>?_);go_simp;refine FN.mono ?_;rintro e w9⟨⟨v',l',kk,rfl,y6,m4,w4⟩,l4⟩;obtain⟨V9,c9,j7⟩:=dM w4.row;obtain⟨n9,q4⟩:∃n,n=l'.length:=⟨_,rfl⟩;rw[<-q4]at j7;subst j7;have j9:=hqh q4;clear q4;have ka:w8.heap.size<=w9.heap.size:=l4.size;have m2:Below V.heap.size V w9:=l0.trans (l4.aO l0.size (λi hi=>by have:=hi.1;omega));refine d.o _ _ (Or.inl m2) ?_;clear d FN;have s7:=hqh y6;have t7:=hqh m4;have b8:=hqh w4;have l3:=hqh m2;have o5:=hqh l0;have o1:=s3.o.below m2;have b3:=o1.cell 3;have f3:=o1.free 3;have lq:=o1.lt;have e6:=hqh o1;clear y6 m4 w4 l4 o1 s5 y5 a6 n6;refine ai 5 rfl kqk (λS d=>?_);go_simp;refine d.o _ _ (Or.inl l3.o) ?_;clear d;refine ai 6 rfl kqk (λS d=>?_);go_simp;refine d.o _ _ (Or.inr ((hN.o 6).trans kqk)) ?_;clear d;refine au kqk ?_;have e3:=e6.o.put 3 (.slice V9 n9 c9);have n2:Below wr.heap.size wr (w9.setCell ⟨wr.heap.size,3,none⟩ (.slice V9 n9 c9)):=(j3.o.trans (l3.o.mono j3.o.size)).setCell (p:=⟨wr.heap.size,3,none⟩) (qqf _) (.slice V9 n9 c9);have s4:=b8.o.keep (KO.set (O:=λk=>k=wr.heap.size) (a:=⟨wr.heap.size,3,none⟩) rfl (.slice V9 n9 c9)) (λb L c=>by have:=o5.o.size;have:=y3.o;rcases L with⟨L,_⟩|⟨L,_⟩<;>omega);have e5:(w9.setCell ⟨wr.heap.size,3,none⟩ (.slice V9 n9 c9)).heap.size=w9.heap.size:=by simp[World.setCell]
    simp only[qqb]at e3;generalize b9:w9.setCell _ _=wa at e3 n2 s4 e5⊢;clear b9;have j1:=hqh e3;have p5:=hqh n2;have a8:=hqh s4;have h8:=hqh e5;clear e5;have o0:=hqh (U.o.below n2);have fa:V.heap.size<=w8.heap.size:=l0.size;have x9:∀b,((w8.heap.size<=b/\b<w8.heap.size)\/V.heap.size<=b)->wr.heap.size<b:=λb L=>by have:=y3.o;rcases L with L|L<;>omega
    clear b3 f3 lq T j2 hN l0 m2 e3 n2 s4 e6 l3 s3 x5 w5 i1;obtain⟨j0,cv,h5⟩:=dM U.o.row;subst h5;have b1:=o0.o.blk.cell 1;have lB:=o0.o.blk.lt;have q0:=j1.o.cell 0;have q1:=j1.o.cell 1;have q2:=j1.o.cell 2;have q3:=j1.o.cell 3;have lq:=j1.o.lt;obtain⟨i0,n8,d9,e9,g9⟩:=jxo WC;have m4:R.length<=64:=by have:=HU.o.len;rw[qqv]at this;have:=r5.o;have:=m3.o;omega
    have v8:=j3.o.size;have p8:w3.heap.size<=wr.heap.size:=HK.o.size;have la:w3.heap.size<=wa.heap.size:=qzi p8 p5.o.size;go_wp2_with(at_builtin;refine jxx _ rfl _ _ 23 rfl w3.heap.size 67 i0 (.agg #[.string ⟨#[]⟩,.int .i64 0,.int .i64 0,.slice none 0 0]) 4 56 Tryz.underlying23 n8 d9 e9 g9 rfl (by decide) _ _ _ rfl (o0.o.row.alloc _) ⟨wa.heap.size,0,none⟩ 1 1 [.string ⟨x.fn.name.toArray⟩,.int .i64 x.fn.params,.int .i64 x.fn.vars,.slice V9 n9 c9] rfl rfl (jji (cs:=#[.string ⟨x.fn.name.toArray⟩,.int .i64 x.fn.params,.int .i64 x.fn.vars,.slice V9 n9 c9]) (t:=67) (fr:=(0,0)) (jxg wa _)) (by simp[Value.oneCell']) (by unfold maxLen;omega) oqo ?_ ?_);·omega
    intro v6 w6 x4 v2 _;have g7:=PgS.next (x:=⟨{x.fn with code:=l'.map (·.1)},.slice V9 n9 c9,l'⟩) (o0.o.below ((qjk _ _).alloc (qqf _) _)) (a8.o.below ((qjk _ _).alloc (qqf _) _)).tight (λb L=>by
     obtain⟨h1,h2⟩:=L;have n1:wr.heap.size<b/\b<wa.heap.size:=by have:=y3.o;have:=o5.o.size;have:=h8.o;rcases h1 with h1|h1<;>omega
     refine⟨by simp;omega,by omega,λc=>?_,h2⟩;have:=(U.o.row.lt b c).2;omega) rfl v2 x4;obtain⟨V6,c6,x8⟩:=dM x4;subst x8;have s9:B<w3.heap.size:=U.o.lt;have o2:Blk w6 B 25 #[.slice r m s,.slice j0 R.length cv,.int .i64 G]:=(v2.block B (by simp;omega) (λe=>by have:=(o0.o.row.lt B e.symm).1;omega)).trans (o0.o.blk.alloc _);have f1:=o2.free 1;have d1:=o2.cell 1;have oa:=o2.lt;have x6:KO (λk=>k=B) w3 (w6.setCell ⟨B,1,none⟩ (.slice V6 (R.length+1) c6)):=((((HK.o.trans (KO.below p5.o)).trans (KO.alloc _)).then' (KO.grown (O:=λk=>(Value.slice j0 R.length cv).ownBlock=some k) v2 λi e=>e.symm) (λi hi c=>absurd (o0.o.row.lt i c).1 oqo)).trans (KO.set (O:=λk=>k=B) (a:=⟨B,1,none⟩) rfl _));have i7:uo doW P gf ((R++[(⟨{x.fn with code:=l'.map (·.1)},.slice V9 n9 c9,l'⟩:FnG)]).map (·.fn)) (i+1):=by rw[jzy];exact HU.o.next b6.o s7.o t7.o
    have o3:=hqh g7;have n3:=hqh x6;have i8:=hqh i7;clear g7 o2 x6 i7 x4 v2 b1 lB q0 q1 q2 q3 lq;go_upto_region 9 with fail;obtain⟨W7,l6⟩:∃W7,W7=w6.setCell ⟨B,1,none⟩ (.slice V6 (R.length+1) c6):=⟨_,rfl⟩;have h1:=o3.o;have h2:=n3.o;rw[<-l6]at h1 h2⊢;have o3:=hqh h1;have n3:=hqh h2;clear h1 h2 l6;have da:i<=64:=by have:=r5.o;have:=m3.o;omega
    go_wp2_with fail;cases gk with|zero=>omega|succ gk=>
     go_roundg gk;case measure=>omega
     case rel=>exact⟨i+1,_,_,by omega,by omega,by simp,o3,i8,n3⟩
namespace Ev
def rdS(z w:Nat):Option (Nat×Nat):=if w=6 then some (0,0)else if w=57 then some (0,0)else if w%16=7/\se w=z then some (ps w+so w,sl w)else none
def Kr{s z l e o:Nat}(h1:s<16777216)(h2:z<16777216)(h3:l<16777216)(a:e<256):ps (bF s z l e o)=s/\sl (bF s z l e o)=l/\se (bF s z l e o)=e/\so (bF s z l e o)=o:=by
 unfold bF ps sl se so;refine⟨?_,?_,?_,?_⟩;·show(7+16*s+268435456*z+4503599627370496*l+75557863725914323419136*e+19342813113834066795298816*o)/16%16777216=s;omega
 ·show(7+16*s+268435456*z+4503599627370496*l+75557863725914323419136*e+19342813113834066795298816*o)/4503599627370496%16777216=l;omega
 ·show(7+16*s+268435456*z+4503599627370496*l+75557863725914323419136*e+19342813113834066795298816*o)/75557863725914323419136%256=e;omega
 ·show(7+16*s+268435456*z+4503599627370496*l+75557863725914323419136*e+19342813113834066795298816*o)/19342813113834066795298816=o;omega
def Cel(g:Gh)(M:Nat)(W:World)(b o a:Nat):Prop:=∃u,W.cell? ⟨b,o,none⟩=some u/\VR g (gt M a) u
section
variable {g:Gh}{st:St}{W:World}{M:Nat}
def Gg(h:HR g st W){z w a n:Nat}{v:Value}(hv:VR g w v)(e:rdS z w=some (a,n)):∃A c,v=.slice A n c/\n<=c/\(n=0\/∃b o,A=some ⟨b,o,none⟩/\∀i,i<n*z->Cel g st.M W b (o+i) (a+i)):=by
 unfold rdS at e;split at e;·rename_i x;subst x;cases e;exact⟨_,_,hv.zx (by decide),qqf _,Or.inl rfl⟩
 split at e;·rename_i u;cases e;obtain⟨a,rfl⟩:=hv.yT u;exact⟨_,_,rfl,qqf _,Or.inl rfl⟩
 split at e
 ·rename_i f;obtain⟨f,hz⟩:=f;obtain⟨s,K,l,H,o,blk,base,room,cap,ad,rfl,rfl,b1,b2,k,m,hr,G,r,d⟩:=hv.BH f;obtain⟨y,B,E,F⟩:=Kr (o:=o) b1 b2 k m;rw[y,B,F]at e;rw[E]at hz;subst hz;cases e;refine⟨_,_,rfl,r,?_⟩;rcases d with d|⟨rfl,d⟩;·exact Or.inl oqo
  ·refine Or.inr ⟨blk,base+o,rfl,λi hi=>?_⟩;obtain⟨c,t,fr,hc⟩:=h.cells _ _ _ _ _ hr;have J:=hc.size;have I:=hc.room;have j:base+o+i<c.size:=oqo;refine⟨c[base+o+i],?_,?_⟩;·unfold World.cell?;simp[hc.heap,j]
   ·have:=hc.vr (o+i) oqo;rw[show base+(o+i)=base+o+i by omega,qqg,jqi j]at this;rw[show s+o+i=s+(o+i)by omega];exact this
 ·cases e
def rdI(k w:Nat):Option Int:=if w%16=2/\w/16%16=k then some ((w/256:Nat)-9223372036854775808)else none
def jH{k:IntKind}{w:Nat}{v:Value}{n:Int}(hv:VR g w v)(e:rdI (kc k) w=some n):v=.int k n:=by
 unfold rdI at e;split at e
 ·rename_i h2;obtain⟨j,m,a,d,f,h⟩:=hv.jB h2.1;have hk:=jy j;have b:w/16%16=kc j:=by rw[a];unfold ay;omega
  have c:((w/256:Nat):Int)-9223372036854775808=m:=by rw[a];unfold ay;omega
  have:j=k:=xu (b.symm.trans h2.2);subst this;rw[c]at e;cases e;exact d
 ·cases e
def rdN(k w:Nat):Option Nat:=match rdI k w with|some n=>if 0<=n then some n.toNat else none|none=>none
def Ov{k:IntKind}{w:Nat}{v:Value}{n:Nat}(hv:VR g w v)(e:rdN (kc k) w=some n):v=.int k n:=by
 unfold rdN at e;split at e
 ·rename_i m hm;split at e;·cases e;rw[jH hv hm];congr 1;omega
  ·cases e
 ·cases e
def rdL{α:Type}(f:Nat->Option α)(z:Nat):Nat->Nat->Option (List α)|_,0=>some []|a,n+1=>match f a,rdL f z (a+z) n with|some x,some l=>some (x::l)|_,_=>none
def zV{α:Type}{f:Nat->Option α}{z:Nat}:∀{n a:Nat}{l:List α},rdL f z a n=some l->l.length=n/\∀i x,l[i]? =some x->f (a+i*z)=some x
 |0,a,l,e=>by cases e;exact⟨rfl,λi x h=>by simp at h⟩|n+1,a,l,e=>by
  unfold rdL at e;split at e;·rename_i x d h1 h2;cases e;obtain⟨c,i2⟩:=zV h2;refine⟨by simp[c],λi y b=>?_⟩;cases i with|zero=>simp at b;subst b;simpa using h1|succ i=>have:=i2 i y (by simpa using b);rwa[show a+(i+1)*z=a+z+i*z by rw[jxe];omega]
  ·cases e
def wB{α β:Type}:∀{l:List α}{P:Nat->α->β->Prop},(∀i x,l[i]? =some x->∃y,P i x y)->∃m:List β,m.length=l.length/\∀i x y,l[i]? =some x->m[i]? =some y->P i x y|[],_,_=>⟨[],rfl,λi x y h=>by simp at h⟩|a::l,P,h=>by obtain⟨y,c⟩:=h 0 a rfl;obtain⟨m,hm,k⟩:=wB (P:=λi=>P (i+1)) (l:=l) λi x b=>h (i+1) x (by simpa using b);refine⟨y::m,by simp[hm],λi x z b hz=>?_⟩;cases i with|zero=>simp at b hz;subst b;subst hz;exact c|succ i=>exact k i x z (by simpa using b) (by simpa using hz)
def Ad(M w:Nat):Option (List Int):=match rdS 1 w with|some (a,n)=>rdL (λa=>rdI 3 (gt M a)) 1 a n|none=>none
def D6(h:HR g st W){w:Nat}{v:Value}{l:List Int}(hv:VR g w v)(e:Ad st.M w=some l):aD W v l:=by
 unfold Ad at e;split at e
 ·rename_i a n hs;obtain⟨A,c,rfl,hc,hr⟩:=Gg h hv hs;obtain⟨rfl,k⟩:=zV e;refine⟨A,c,rfl,hc,?_⟩;rcases hr with hr|⟨b,o,f,hr⟩;·exact Or.inl (jzd hr)
  ·refine Or.inr ⟨b,o,f,λi x d=>?_⟩;have hi:=(qqi.1 d).1;obtain⟨u,hu,j⟩:=hr (i*1) oqo;unfold kz;rw[hu,jH (k:=.i64) j (k i x d)]
 ·cases e
def Rf(M a:Nat):Option In:=match rdN 4 (gt M a),rdI 3 (gt M (a+1)),rdI 3 (gt M (a+2)),rdI 3 (gt M (a+3)),rdI 3 (gt M (a+4)),rdN 4 (gt M (a+5)),Ad M (gt M (a+6)),rdI 3 (gt M (a+7)),rdI 3 (gt M (a+8)),rdI 3 (gt M (a+9))with|some op,some v,some x,some y,some n,some bin,some args,some f,some arr,some b=>some ⟨op,v,x,y,n,bin,args,f,arr,b⟩|_,_,_,_,_,_,_,_,_,_=>none
def UK(h:HR g st W){b o a:Nat}{x:In}(hc:∀q,q<10->Cel g st.M W b (o+q) (a+q))(e:Rf st.M a=some x):∃av,gF W b o (x,av):=by
 unfold Rf at e;split at e
 ·rename_i op v N O n bin args f arr t c d i j m r s u y z;cases e;obtain⟨u0,c0,A⟩:=hc 0 oqo;obtain⟨u1,c1,B⟩:=hc 1 oqo;obtain⟨u2,c2,E⟩:=hc 2 oqo;obtain⟨u3,c3,F⟩:=hc 3 oqo;obtain⟨u4,c4,G⟩:=hc 4 oqo;obtain⟨u5,c5,H⟩:=hc 5 oqo;obtain⟨u6,c6,I⟩:=hc 6 oqo;obtain⟨u7,c7,J⟩:=hc 7 oqo;obtain⟨u8,c8,K⟩:=hc 8 oqo;obtain⟨u9,c9,L⟩:=hc 9 oqo;refine⟨u6,⟨?_,?_,?_,?_,?_,?_,c6,?_,?_,?_,D6 h I s⟩⟩;·exact c0.trans (jqp some (Ov (k:=.u8) A c))
  ·exact c1.trans (jqp some (jH (k:=.i64) B d))
  ·exact c2.trans (jqp some (jH (k:=.i64) E i))
  ·exact c3.trans (jqp some (jH (k:=.i64) F j))
  ·exact c4.trans (jqp some (jH (k:=.i64) G m))
  ·exact c5.trans (jqp some (Ov (k:=.u8) H r))
  ·exact c7.trans (jqp some (jH (k:=.i64) J u))
  ·exact c8.trans (jqp some (jH (k:=.i64) K y))
  ·exact c9.trans (jqp some (jH (k:=.i64) L z))
 ·cases e
def HZ(M w:Nat):Option (List In):=match rdS 10 w with|some (a,n)=>rdL (Rf M) 10 a n|none=>none
def M9(h:HR g st W){w:Nat}{v:Value}{l:List In}(hv:VR g w v)(e:HZ st.M w=some l):∃li:List InV,li.map (·.1)=l/\dS W v li:=by
 unfold HZ at e;split at e
 ·rename_i a n hs;obtain⟨A,c,rfl,hc,hr⟩:=Gg h hv hs;obtain⟨rfl,k⟩:=zV e;rcases hr with hr|⟨b,o,j,hr⟩;·have:l=[]:=jzd hr;subst this;exact⟨[],rfl,A,c,rfl,qqy _,Or.inl rfl⟩
  ·obtain⟨m,hm,r⟩:=wB (l:=l) (P:=λi x av=>gF W b (o+i*10) (x,av)) λi x d=>by have hi:=(qqi.1 d).1;exact UK h (λq s=>by have:=hr (i*10+q) oqo;rwa[<-jqu,<-jqu]at this) (k i x d)
   have f:(l.zip m).length=l.length:=by rw[List.length_zip,hm,Nat.min_self]
   refine⟨l.zip m,?_,A,c,by rw[f],by rw[f];exact hc,Or.inr ⟨b,o,j,λi x d=>?_⟩⟩;·rw[List.map_fst_zip];omega
   ·obtain⟨h1,h2⟩:=List.getElem?_zip_eq_some.1 d;exact r i x.1 x.2 h1 h2
 ·cases e
def rdStr(S w:Nat):Option (List UInt8):=if w%16=3 then some ((List.range (ln w)).map λi=>UInt8.ofNat (aH S (sa w+i)))else none
def Ud{w:Nat}{v:Value}{l:List UInt8}(hv:VR g w v)(e:rdStr g.S w=some l):v=.string ⟨l.toArray⟩:=by
 unfold rdStr at e;split at e
 ·rename_i h3;obtain⟨s,n,a,d,f,h,i⟩:=hv.sZ h3;have b:sa w=s:=by rw[a];show dE s n/268435456=s;unfold dE;omega
  have c:ln w=n:=by rw[a];show dE s n/16%16777216=n;unfold dE;omega
  cases e;rw[d,b,c];rfl
 ·cases e
def Q4(S M a:Nat):Option FnP:=match rdStr S (gt M a),rdI 3 (gt M (a+1)),rdI 3 (gt M (a+2)),HZ M (gt M (a+3))with|some b,some ps,some vs,some l=>some ⟨b,ps,vs,l⟩|_,_,_,_=>none
def U8(h:HR g st W){b o a:Nat}{x:FnP}(hc:∀q,q<4->Cel g st.M W b (o+q) (a+q))(e:Q4 st.S st.M a=some x):∃y:Value×List InV,jN W b o ⟨x,y.1,y.2⟩:=by
 unfold Q4 at e;split at e;·rename_i s ps vs l c d f i;cases e;obtain⟨u0,c0,j⟩:=hc 0 oqo;obtain⟨u1,c1,m⟩:=hc 1 oqo;obtain⟨u2,c2,n⟩:=hc 2 oqo;obtain⟨u3,c3,r⟩:=hc 3 oqo;obtain⟨li,k1,k2⟩:=M9 h r i;rw[h.S]at c;exact⟨(u3,li),⟨c0.trans (jqp some (Ud j c)),c1.trans (jqp some (jH (k:=.i64) m d)),c2.trans (jqp some (jH (k:=.i64) n f)),c3,k2,k1⟩⟩
 ·cases e
def LC(S M w:Nat):Option (List FnP):=match rdS 4 w with|some (a,n)=>rdL (Q4 S M) 4 a n|none=>none
def QI(h:HR g st W){w:Nat}{v:Value}{l:List FnP}(hv:VR g w v)(e:LC st.S st.M w=some l):∃li:List FnG,li.map (·.fn)=l/\pJ W v li:=by
 unfold LC at e;split at e
 ·rename_i a n hs;obtain⟨A,c,rfl,hc,hr⟩:=Gg h hv hs;obtain⟨rfl,k⟩:=zV e;rcases hr with hr|⟨b,o,j,hr⟩;·have:l=[]:=jzd hr;subst this;exact⟨[],rfl,A,c,rfl,qqy _,Or.inl rfl⟩
  ·obtain⟨m,hm,r⟩:=wB (l:=l) (P:=λi x(y:Value×List InV)=>jN W b (o+i*4) ⟨x,y.1,y.2⟩) λi x d=>by have hi:=(qqi.1 d).1;exact U8 h (λq s=>by have:=hr (i*4+q) oqo;rwa[<-jqu,<-jqu]at this) (k i x d)
   have f:(l.zip m).length=l.length:=by rw[List.length_zip,hm,Nat.min_self]
   refine⟨(l.zip m).map λx=>⟨x.1,x.2.1,x.2.2⟩,?_,A,c,by rw[qqv,f],by rw[qqv,f];exact hc,Or.inr ⟨b,o,j,λi x d=>?_⟩⟩;·rw[qzx];show(l.zip m).map Prod.fst=l;rw[List.map_fst_zip];omega
   ·rw[qqp]at d;cases hz:(l.zip m)[i]? with|none=>rw[hz]at d;cases d|some y=>rw[hz]at d;cases d;obtain⟨h1,h2⟩:=List.getElem?_zip_eq_some.1 hz;exact r i y.1 y.2 h1 h2
 ·cases e
def rdP(S M R x:Nat):Option PrW:=if x%16=12/\ln x=3 then(match Ad M (gt R (sa x)),LC S M (gt R (sa x+1)),rdI 3 (gt R (sa x+2))with|some a,some fs,some m=>some ⟨a,fs,m⟩|_,_,_=>none)else none
def XZ(h:HR g st W){R nR x:Nat}{v:Value}{p:PrW}(hv:TR g R nR x v)(e:rdP st.S st.M R x=some p):∃gp,v=prV gp/\gp.p=p/\PrR W gp:=by
 unfold rdP at e;split at e
 ·rename_i j;split at e
  ·rename_i s fs m c d f;cases e;obtain⟨a,n0,vs,b1,b2,A,B,E,n,b⟩:=hv.Cx j.1;have o:ln x=n0:=by rw[b1];unfold ln dY;show(12+16*n0+268435456*a)/16%16777216=n0;omega
   have r:sa x=a:=by rw[b1];unfold sa dY;show(12+16*n0+268435456*a)/268435456=a;omega
   rw[r]at c d f;have hn:n0=3:=by rw[<-o];exact j.2
   subst hn;have u:=b 0 oqo;have y:=b 1 oqo;have z:=b 2 oqo;obtain⟨li,k1,k2⟩:=QI h y d;have k0:=D6 h (v:=vs.getD 0 undef) u c;have k3:=jH (k:=.i64) z f;refine⟨⟨⟨s,fs,m⟩,vs.getD 0 undef,vs.getD 1 undef,li⟩,?_,rfl,⟨k0,k2,k1⟩⟩;rw[b2];show Value.agg vs=.agg #[vs.getD 0 undef,vs.getD 1 undef,.int .i64 m];congr 1;rw[<-k3];apply Array.ext;·simpa using n
   ·intro i h1 h2;have:i<3:=oqo;match i,this with|0,_=>simp[qqg,h1]|1,_=>simp[qqg,h1]|2,_=>simp[qqg,h1]
  ·cases e
 ·cases e
def rdT(r:RS):Option PrW:=RS.rec none (λx s=>if x%16=13/\ln x=3 then(if rdI 3 (gt s.R (sa x+2))=some 0 then(match rdI 3 (gt s.R (sa x+1))with|some _=>rdP s.S s.M s.R (gt s.R (sa x))|none=>none)else none)else none) r
end
end Ev
namespace Ev
def YM(K:Kon)(s:Nat)(i:Info):K.In (K.gh.put s i):=⟨qqf _,λ_ _=>rfl⟩
def Ui(w:Nat):dZ [w]=w:=by show w+340282366920938463463374607431768211456*0=w;rw[Nat.mul_zero,qzz]
def Pe(w i:Nat)(h:w<2^128):gt w i=[w].getD i 0:=by rw[<-gQ [w] i (λq a=>by simp at a;subst a;exact h),Ui]
def JG(n:Nat)(h:n<10000):bF 0 n n 1 0<2^128:=by unfold bF;omega
def ZK(c:Nat):ad 0 0 c=c:=by
 unfold ad;have a:Nat.shiftLeft c (Nat.mul 128 0)=c:=by show c<<<0=_;exact Nat.shiftLeft_zero
 rw[a];exact Nat.zero_or _
def oh(l:List UInt8):List Nat:=l.map λb=>ay .u8 b.toNat
def Xc(l:List UInt8):∀q∈oh l,q<2^128:=λq a=>by obtain⟨b,_,rfl⟩:=qjb.1 a;have:b.toNat<256:=b.toNat_lt;have:kc .u8=4:=rfl;unfold ay;omega
def SS(l:List UInt8):(oh l).length=l.length:=by unfold oh;rw[qqv]
def Bo(n M:Nat):St:=⟨bF 0 n n 1 0,[(1,[])],0,0,M,n+1,K0.S,K0.n⟩
section
variable {l:List UInt8}{w:World}{C:Array Value}{t:TypeId}{fr:Nat×Nat}
def Vm{g:Gh}{st:St}(h0:HR g st w)(d:st.M=0)(j:st.nM=0)(c:∀i,i<l.length->C.getD i undef=.int .u8 (l.getD i 0).toNat)(k:∀i,i<C.size->(C.getD i undef).oneCell'=true)(f:l.length<=C.size)(r:ry fr C.size)(T:Nat)(D:List (Nat×List Nat)):HR (g.put 0 (.cells w.heap.size 0 l.length C.size)) ⟨T,D,0,0,dZ (oh l),l.length+1,st.S,st.nS⟩ (w.alloc (.cells C t fr)):=by
 have a:=Xc l;have h:=SS l;have o:∀i,i<l.length->gt (dZ (oh l)) i=ay .u8 (l.getD i 0).toNat:=λi hi=>by rw[gQ _ _ a,qqm,oh,qqp,qqh hi,qqm,qqh hi,jqf,qzm,qzm]
 have s:∀(g:Gh)i,i<l.length->VR g (gt (dZ (oh l)) i) (C.getD i undef):=λg i hi=>by rw[o i hi,c i hi];generalize u:l.getD i 0=b;have e:b.toNat<256:=b.toNat_lt;generalize b.toNat=m at e;exact .int .u8 (m:Int) oqo oqo
 obtain⟨ha,_⟩:=HR.alloc h0 C t fr (n:=l.length) (cw:=dZ (oh l)) f (by have:=mF _ a;rwa[h]at this) (λi hi=>s _ i hi) k r;have:=ha.frame T D (R:=0) (nR:=0) Nat.one_pos;rw[d,j,qja,ZK]at this;exact this
def Xi(a:∀i,i<l.length->C.getD i undef=.int .u8 (l.getD i 0).toNat)(c:∀i,i<C.size->(C.getD i undef).oneCell'=true)(b:l.length<=C.size)(d:ry fr C.size):HR (K0.gh.put 0 (.cells w.heap.size 0 l.length C.size)) (Bo l.length (dZ (oh l))) (w.alloc (.cells C t fr)):=Vm (hr0 w) rfl rfl a c b d _ _
def Xz(a:l.length<=C.size)(b:l.length<10000)(i:Nat):TR (K0.gh.put 0 (.cells w.heap.size 0 l.length C.size)) 0 0 (gt (bF 0 l.length l.length 1 0) i) ((#[.slice (some ⟨w.heap.size,0,none⟩) l.length C.size]:Array Value).getD i undef):=by rw[Pe _ i (JG _ b)];cases i with|zero=>refine .cell _ _ ?_;refine .sli 0 l.length l.length 1 0 w.heap.size 0 C.size C.size _ oqo oqo oqo oqo ?_ oqo a (Or.inr ⟨rfl,by omega⟩);rw[Gh.bK,qzb rfl]|succ i=>exact .unk _
def Yg(a:l.length<10000)(i:Nat)(hi:1<=i):gt (bF 0 l.length l.length 1 0) i=0:=by rw[Pe _ i (JG _ a)];cases i with|zero=>omega|succ i=>rfl
end
def WZ{k w:Nat}{n:Int}(h:rdI k w=some n):w%16=2:=by
 unfold rdI at h;split at h;·rename_i c;exact c.1
 ·cases h
def NC{g:Gh}{R nR w:Nat}{k:IntKind}{v:Value}{n:Int}(hv:TR g R nR w v)(h:rdI (kc k) w=some n):v=.int k n:=by have ht:=WZ h;exact jH (hv.aM oqo oqo oqo (by intro c;rw[c]at ht;cases ht)) h
def Yk{g:Gh}{x:Nat}{s:St}{W:World}{v:Value}{p:PrW}(hr:HR g s W)(hv:TR g s.R s.nR x v)(h:rdT (.ok x s)=some p):∃gp m,v=.tuple #[prV gp,.int .i64 m,.int .i64 0]/\PrR W gp/\gp.p=p:=by
 have h:(if x%16=13/\ln x=3 then(if rdI 3 (gt s.R (sa x+2))=some 0 then(match rdI 3 (gt s.R (sa x+1))with|some _=>rdP s.S s.M s.R (gt s.R (sa x))|none=>none)else none)else none)=some p:=h;split at h;case isFalse=>cases h
 rename_i c;split at h;case isFalse=>cases h
 rename_i h0;split at h;case h_2=>cases h
 rename_i m d;obtain⟨a,n0,vs,b1,b2,u,y,z,e,b⟩:=hv.um c.1;have f:ln x=n0:=by rw[b1];unfold ln fJ;show(13+16*n0+268435456*a)/16%16777216=n0;omega
 have j:sa x=a:=by rw[b1];unfold sa fJ;show(13+16*n0+268435456*a)/268435456=a;omega
 have h3:n0=3:=by rw[<-f];exact c.2
 subst h3;rw[j]at h h0 d;obtain⟨gp,k1,k2,k3⟩:=XZ hr (b 0 oqo) h;have r:=NC (k:=.i64) (b 2 oqo) h0;have o:=NC (k:=.i64) (b 1 oqo) d;have n:vs=#[prV gp,.int .i64 m,.int .i64 0]:=by
  rw[<-k1,<-o,<-r];apply Array.ext;·simpa using e
  ·intro i h1 h2;have:i<3:=oqo;match i,this with|0,_=>simp[qqg,h1]|1,_=>simp[qqg,h1]|2,_=>simp[qqg,h1]
 exact⟨gp,m,by rw[b2,n],k3,k2⟩
def src_ok{f:Nat}{fn:Func}{c:Code}(l:List UInt8){p:PrW}(A:l.length<10000)(hf:Tryz.prog.funcs[f]? =some fn)(hn:(fn.name== "runtime.NumGoroutine")=false)(G:fn.body=some c)(hm:Tryz.prog.follows .mixedOrders=true)(h:rdT (kC Tryz.prog K0 X0 hk dk 1000000 1000 f (Bo l.length (dZ (oh l))))=some p)(w:World)(C:Array Value)(t:TypeId)(fr:Nat×Nat)(B:∀i,i<l.length->C.getD i undef=.int .u8 (l.getD i 0).toNat)(I:∀i,i<C.size->(C.getD i undef).oneCell'=true)(o:l.length<=C.size)(J:ry fr C.size):Calls Tryz.prog f #[.slice (some ⟨w.heap.size,0,none⟩) l.length C.size] (w.alloc (.cells C t fr)) λe w'=>∃gp m,e=.returned (.tuple #[prV gp,.int .i64 m,.int .i64 0])/\PrR w' gp/\gp.p=p/\Below w.heap.size w w':=by
 have y:=Xi (w:=w) (t:=t) B I o J;have ht:=Xz (w:=w) (C:=C) o A;have r:=Yg (l:=l) A;generalize d:Bo l.length (dZ (oh l))=b at h y;have F:b.T=bF 0 l.length l.length 1 0:=by rw[<-d];rfl
 have E:b.D=[(1,[])]:=by rw[<-d];rfl
 have n:b.R=0/\b.nR=0:=by rw[<-d];exact⟨rfl,rfl⟩
 clear d;rw[<-F]at ht r;cases hr:kC Tryz.prog K0 X0 hk dk 1000000 1000 f b with|no=>rw[hr]at h;cases h|ok x st'=>
  rw[hr]at h;have hv:=yR (fuel:=1000000) UC hm Uw Us 1000 f _ _ _ #[.slice (some ⟨w.heap.size,0,none⟩) l.length C.size] x st' (YM K0 _ _) y E (λi=>by rw[n.1,n.2];exact ht i) (λi hi=>r i hi) hr;rcases hv with⟨_,hv⟩|⟨v,w',hv,_⟩
  ·refine hv.mono λe w'⟨u,j,g',a⟩=>?_;obtain⟨gp,m,k1,k2,k3⟩:=Yk a.hr a.tr h;refine⟨gp,m,by rw[j,k1],k2,k3,?_⟩;have H:∀k,k<w.heap.size->¬Own (K0.gh.put 0 (.cells w.heap.size 0 l.length C.size)) k:=λk hk ho=>by
    rcases ho with⟨s,base,z,room,hs⟩|⟨s,hs⟩
    ·rw[Gh.bK]at hs;split at hs;·injection hs with j;omega
     ·cases hs
    ·rw[Gh.bK]at hs;split at hs;·cases hs
     ·cases hs
   have K:(w.alloc (.cells C t fr)).heap.size=w.heap.size+1:=by simp
   have h1:Below w.heap.size (w.alloc (.cells C t fr)) w':=⟨a.fr.os,a.fr.tape,a.fr.output,a.fr.size,λk hk=>a.fr.keep k oqo (H k hk)⟩;exact((qjk w.heap.size w).alloc (qqf _) _).trans h1
  ·rw[uM hf hn G]at hv;cases hv
end Ev
def KD(l:List UInt8)(p:PrW):Prop:=∀(w:World)(C:Array Value)(t:TypeId)(fr:Nat×Nat)(cap:Nat),C.size=cap->(∀i,i<l.length->C.getD i undef=.int .u8 (l.getD i 0).toNat)->(∀i,i<C.size->(C.getD i undef).oneCell'=true)->l.length<=C.size->Ev.ry fr C.size->Calls Tryz.prog 41 #[.slice (some ⟨w.heap.size,0,none⟩) l.length cap] (w.alloc (.cells C t fr)) λe w'=>∃gp m,e=.returned (.tuple #[prV gp,.int .i64 m,.int .i64 0])/\PrR w' gp/\gp.p=p/\Below w.heap.size w w'
def X7(l:List UInt8)(cap:Nat)(h:l.length<=cap):(bytesRow ⟨l.toArray⟩ cap).size=cap/\(∀i,i<l.length->(bytesRow ⟨l.toArray⟩ cap).getD i undef=.int .u8 (l.getD i 0).toNat)/\∀i,i<(bytesRow ⟨l.toArray⟩ cap).size->((bytesRow ⟨l.toArray⟩ cap).getD i undef).oneCell'=true:=by
 have hs:(⟨l.toArray⟩:ByteArray).size=l.length:=by simp[ByteArray.size]
 have a:(bytesRow ⟨l.toArray⟩ cap).size=cap:=by unfold bytesRow;rw[jjj,Array.size_map,jxm,hs];simp;omega
 refine⟨a,λi hi=>?_,λi hi=>?_⟩;·unfold bytesRow;rw[qqg,Array.getElem?_append_left (by simpa using hi)];simp[qqm,hi]
 ·rw[qqg,jqi hi];show(((bytesRow ⟨l.toArray⟩ cap)[i])).oneCell'=true;unfold bytesRow at hi⊢;by_cases h2:i<l.length;·rw[Array.getElem_append_left (by simpa using h2)];simp[Value.oneCell']
  ·rw[Array.getElem_append_right (by simp;omega)];simp[Value.oneCell']
def SI(l:List UInt8)(W:World):(convert 9 74 (.string ⟨l.toArray⟩)).run Tryz.prog W=.ok (.slice (some ⟨W.heap.size,0,none⟩) l.length (grownCap W l.length 0 5)) (W.drew.alloc (.cells (bytesRow ⟨l.toArray⟩ (grownCap W l.length 0 5)) 5 ((bytesRow ⟨l.toArray⟩ (grownCap W l.length 0 5)).size,(bytesRow ⟨l.toArray⟩ (grownCap W l.length 0 5)).size+1))):=by
 have h:=run_bytes_of_string (P:=Tryz.prog) W 9 74 5 ⟨l.toArray⟩ Tryz.underlying9 Tryz.underlying74 Tryz.underlying5;have hs:(⟨l.toArray⟩:ByteArray).size=l.length:=by simp[ByteArray.size]
 rw[hs]at h;exact h
def yO{w:World}{gp:PrG}(h:PrR w gp):∃A a F b,prV gp=.agg #[.slice A gp.p.arrays.length a,.slice F gp.p.fns.length b,.int .i64 gp.p.main]:=by obtain⟨⟨A,a,c,_,_⟩,⟨F,b,d,_,_⟩,he⟩:=h;refine⟨A,a,F,b,?_⟩;unfold prV;rw[c,d,<-he,qqv]
def Io(l:List UInt8)(p:PrW)(o1:KD l p)(hr:aP p=true)(hn:ji p)(w:World):Calls Tryz.prog 86 #[.string ⟨l.toArray⟩] w λe w'=>∃d,e=.returned (.tuple #[prV d,.bool true])/\PrR w' d/\iw doW p d.p/\Below w.heap.size w w':=by
 have KC:=λW=>SI l W;have HS:=hqh o1;have HR:=hqh hr;have HN:=hqh hn;clear o1 hr hn;go_enter Tryz.func86,Tryz.ntmps86;go_upto_region 1 with fail;have Y:Below w.heap.size w (w.alloc (.cells #[.slice none 0 0,.slice none 0 0,.int .i64 0] 25)):=(qjk _ _).alloc (qqf _) _;have l0:=Blk.new w 25 #[.slice none 0 0,.slice none 0 0,.int .i64 0];generalize l2:w.alloc _=w1 at Y l0⊢;clear l2;have q0:=hqh Y;have U:=hqh l0;clear Y l0;have d0:=grownCap_ge w1 l.length 0 5;obtain⟨r1,r2,r3⟩:=X7 l _ d0;have SR:=HS.o w1.drew (bytesRow ⟨l.toArray⟩ (grownCap w1 l.length 0 5)) 5 ((bytesRow ⟨l.toArray⟩ (grownCap w1 l.length 0 5)).size,(bytesRow ⟨l.toArray⟩ (grownCap w1 l.length 0 5)).size+1) _ r1 r2 r3 (by rw[r1];exact d0) (Or.inr (qqf _));have d1:=hqh SR;clear SR r1 r2 r3 d0;go_upto_region 2 with(first| (go_at_call 41;refine d1.o.mono ?_;rintro e f⟨gp,m,rfl,i0,N,v⟩;obtain⟨A,ca,F,cf,hv⟩:=yO i0;have y:=λW(X:Below f.heap.size f W)=>yA gp W (i0.below X) (by rw[N];exact HR.o) (by rw[N];exact HN.o);rw[hv]at y⊢;obtain⟨na,m1⟩:∃n,n=gp.p.arrays.length:=⟨_,rfl⟩;obtain⟨np,J⟩:∃n,n=gp.p.fns.length:=⟨_,rfl⟩;obtain⟨mm,j1⟩:∃n,n=gp.p.main:=⟨_,rfl⟩;rw[<-m1,<-J,<-j1]at y⊢;rw[N]at J y;have t1:=hqh J;have y0:=hqh y;have E:=hqh (show Below w1.heap.size w1 f from⟨v.os,v.tape,v.output,v.size,v.block⟩);clear i0 N v hv y m1 J j1)|fail);have r0:=hqh (aC q0.o E.o);have L:=Blk.new f 25 #[.slice A na ca,.slice F np cf,.int .i64 mm];have B:Below f.heap.size f (f.alloc (.cells #[.slice A na ca,.slice F np cf,.int .i64 mm] 25)):=(qjk _ _).alloc (qqf _) _;obtain⟨px,j0⟩:∃b,b=f.heap.size:=⟨_,rfl⟩;rw[<-j0]at L;generalize m2:f.alloc _=w3 at L B⊢;rw[<-j0];have q2:w.heap.size<px:=by have:=E.o.size;have:=U.o.lt;omega
 clear m2 j0;have o:=hqh L;have s0:=hqh B;have V:=hqh ((U.o.below E.o).below B);have e1:=hqh (aC r0.o B);clear L B U q0 E r0 d1 KC;have c0:=o.o.cell 0;have c1:=o.o.cell 1;have c2:=o.o.cell 2;have lp:=o.o.lt;go_upto_region 3 with(first
  | (go_at_call 37;refine(y0.o w3 s0.o).mono ?_;rintro e s⟨d,rfl,o0,m0,i1⟩;obtain⟨G,S,H,T,hv⟩:=yO (o0 s (KO.refl _ _));have HV:=hqh hv;rw[hv];obtain⟨R,n1⟩:∃n,n=d.p.arrays.length:=⟨_,rfl⟩;obtain⟨nq,e0⟩:∃n,n=d.p.fns.length:=⟨_,rfl⟩;obtain⟨Q,l1⟩:∃n,n=d.p.main:=⟨_,rfl⟩;rw[<-n1,<-e0,<-l1]at HV⊢;have j2:nq=np:=by rw[e0,m0.len,t1.o]
     clear n1 e0 l1 hv;subst j2;have a1:=hqh o0;have z1:=hqh m0;have x:=hqh i1;clear o0 m0 i1 c0 c1 c2 lp)|fail);have P:=Blk.new s 25 #[.slice G R S,.slice H nq T,.int .i64 Q];have r:Below s.heap.size s (s.alloc (.cells #[.slice G R S,.slice H nq T,.int .i64 Q] 25)):=(qjk _ _).alloc (qqf _) _;obtain⟨qx,p0⟩:∃b,b=s.heap.size:=⟨_,rfl⟩;rw[<-p0]at P;generalize n2:s.alloc _=w5 at P r⊢;rw[<-p0];have s2:w.heap.size<qx:=by have:=x.o.size;have:=o.o.lt;omega
 clear n2 p0;have e2:=hqh P;have s1:=hqh r;have v1:=hqh ((o.o.below x.o).below r);have y1:=hqh ((V.o.below x.o).below r);have g1:=hqh (aC (aC e1.o x.o) r);have o2:w.heap.size<w3.heap.size:=V.o.lt;have d2:=hqh (show∀q1,KO (λk=>k<w3.heap.size) w5 q1->PrR q1 d from λW X=>a1.o W ((KO.below r).then' X λ_ _ c=>c));clear P r o V e1 s0 x s1 a1 y0;refine wp_region_draw (List.replicate 16 true++[false,false]) (λW=>KO (λk=>k=w.heap.size) w5 W) 2 eF (λ_ a a2 _ hd h=>by cases a;cases a2;cases hd;exact h) kqk (λ_ _ h=>KO.below h) ?_;iterate 16 refine aR (λK j=>?_);rw[qzb kqk];refine⟨_,λZ hZ=>(by have z:=hZ.blk e2.o oqo;have PP:=hZ.blk v1.o oqo;have x0:=z.cell 0;have x1:=z.cell 1;have x2:=z.cell 2;have p1:=PP.cell 1;have lx:=z.lt;clear z PP;go_simp;try rfl),?_⟩;simp only[qqa];refine j _ ?_;clear j
 refine bg (bg (bJ ?_));intro vs Wd hN p2 I;have i:=hqh (y1.o.below I);have k0:=i.o.cell 0;have k1:=i.o.cell 1;have k2:=i.o.cell 2;have f0:=i.o.free 0;have f1:=i.o.free 1;have f2:=i.o.free 2;have lq:=i.o.lt;refine ai 16 rfl kqk (λKK j=>?_);go_simp;refine j.o _ _ (Or.inl ((((KO.below I).trans (KO.set (O:=λk=>k=w.heap.size) (a:=⟨w.heap.size,0,none⟩) rfl _)).trans (KO.set (O:=λk=>k=w.heap.size) (a:=⟨w.heap.size,1,none⟩) rfl _)).trans (KO.set (O:=λk=>k=w.heap.size) (a:=⟨w.heap.size,2,none⟩) rfl _))) ?_;clear j;refine ai 17 rfl kqk (λKK j=>?_);go_simp;refine j.o _ _ (Or.inr ((hN.o 17).trans kqk)) ?_;clear j;refine au kqk ?_;go_wp2_with fail;refine jxp (nE rfl _ _ w.heap.size 25 #[.slice G R S,.slice H nq T,.int .i64 Q] _ rfl (((i.o.put 0 _).put 1 _).put 2 _) Tryz.underlying25 rfl kqk) rfl ?_;have g2:=(((g1.o.trans (I.mono g1.o.size)).setCell (p:=⟨w.heap.size,0,none⟩) (qqf _) (.slice G R S)).setCell (p:=⟨w.heap.size,1,none⟩) (qqf _) (.slice H nq T)).setCell (p:=⟨w.heap.size,2,none⟩) (qqf _) (.int .i64 Q);refine⟨d,?_,?_,z1.o,g2⟩;·rw[HV.o];rfl
 ·refine d2.o _ ?_;have hs:∀(k:Nat)(W:World)(u:Value),KO (λk=>k<w3.heap.size) W (W.setCell ⟨w.heap.size,k,none⟩ u):=λk W u=>KO.set (O:=λk=>k<w3.heap.size) (a:=⟨w.heap.size,k,none⟩) o2 u;exact(((KO.below I).trans (hs 0 _ _)).trans (hs 1 _ _)).trans (hs 2 _ _)
def rT{y:Int}(h:I64 y):IntKind.i64.wrap ((BitVec.ofInt 64 y).toNat:Int)=y:=by rw[BitVec.toNat_ofInt,IntKind.wrap_i64];unfold I64 at h;have:(((y%((2^64:Nat):Int)).toNat:Nat):Int)=y%18446744073709551616:=oqo;rw[this];omega
def YW{y:Int}(h:I64 y):bits .or .i64 0 y=y:=by show IntKind.i64.wrap ((BitVec.ofInt 64 0|||BitVec.ofInt 64 y).toNat:Int)=y;rw[show BitVec.ofInt 64 0=0#64 from rfl,BitVec.zero_or];exact rT h
def Ze{y:Int}(h:I64 y):bits .or .i64 y 0=y:=by show IntKind.i64.wrap ((BitVec.ofInt 64 y|||BitVec.ofInt 64 0).toNat:Int)=y;rw[show BitVec.ofInt 64 0=0#64 from rfl,BitVec.or_zero];exact rT h
def Yj{y:Int}(h:I64 y):bits .xor .i64 0 y=y:=by show IntKind.i64.wrap ((BitVec.ofInt 64 0^^^BitVec.ofInt 64 y).toNat:Int)=y;rw[show BitVec.ofInt 64 0=0#64 from rfl,BitVec.zero_xor];exact rT h
def YR{y:Int}(h:I64 y):bits .xor .i64 y 0=y:=by show IntKind.i64.wrap ((BitVec.ofInt 64 y^^^BitVec.ofInt 64 0).toNat:Int)=y;rw[show BitVec.ofInt 64 0=0#64 from rfl,BitVec.xor_zero];exact rT h
def Ti:qU doW where
 zl:=λo y ho h=>by
  rcases ho with rfl|rfl|rfl;·show wrap64 (0+y)=y;rw[Int.zero_add];exact gI h
  ·exact YW h
  ·exact Yj h
 zr:=λo x ho h=>by
  rcases ho with rfl|rfl|rfl|rfl|rfl|rfl;·show wrap64 (x+0)=x;rw[Int.add_zero];exact gI h
  ·exact Ze h
  ·exact YR h
  ·show wrap64 (x-0)=x;rw[Int.sub_zero];exact gI h
  ·show wrap64 (x*2^((0:Int)%64).toNat)=x;rw[show((0:Int)%64).toNat=0 from rfl,Int.pow_zero,Int.mul_one];exact gI h
  ·show wrap64 (x/2^((0:Int)%64).toNat)=x;rw[show((0:Int)%64).toNat=0 from rfl,Int.pow_zero,Int.ediv_one];exact gI h
 ml:=λy h=>by show wrap64 (1*y)=y;rw[Int.one_mul];exact gI h
 mr:=λx h=>by show wrap64 (x*1)=x;rw[Int.mul_one];exact gI h
 nl:=λy=>by show wrap64 (0*y)=0;rw[Int.zero_mul];exact gI ⟨by omega,by omega⟩
 nr:=λx=>by show wrap64 (x*0)=0;rw[Int.mul_zero];exact gI ⟨by omega,by omega⟩
def uQ(a ls:List (Nat×Int)):Prop:=ls.length<=a.length/\a.take ls.length=ls
instance (a ls:List (Nat×Int)):Decidable (uQ a ls):=by unfold uQ;infer_instance
def Wi(a b:List (Nat×Int)):uQ (a++b) a:=⟨by simp,by simp⟩
def EU(a:List (Nat×Int)):uQ a a:=⟨qqf _,by simp⟩
section
variable {D:Nat->Int->Int->Int}{p q:PrW}
def pG(s:MS){m n:Nat}(h:m<=n):uQ (runM D p n s).evs (runM D p m s).evs/\((runM D p m s).ended=true->runM D p n s=runM D p m s):=by obtain⟨d,rfl⟩:∃d,n=m+d:=⟨n-m,by omega⟩;rw[ui];obtain⟨l,hl⟩:=Jt D (p:=p) d (runM D p m s);exact⟨by rw[hl];exact Wi _ _,λh=>sw D d h⟩
def I6(h:kD D p q){inp:List Int}(hi:∀n∈inp,I64 n)(n k:Nat):uQ (runM D q n (dQ q inp)).evs (runM D p n (dQ p inp)).evs/\((runM D p n (dQ p inp)).ended=true->(runM D q n (dQ q inp)).ended=true/\(runM D p n (dQ p inp)).evs.length=(runM D q n (dQ q inp)).evs.length)/\(uQ (runM D p (n+k) (dQ p inp)).evs (runM D q n (dQ q inp)).evs\/((runM D p (n+k) (dQ p inp)).ended=false/\uQ (runM D q n (dQ q inp)).evs (runM D p (n+k) (dQ p inp)).evs))/\((runM D q n (dQ q inp)).ended=true->uQ (runM D q n (dQ q inp)).evs (runM D p (n+k) (dQ p inp)).evs):=by
 obtain⟨m,hm,d,e⟩:=h inp hi n;obtain⟨f,hm',f1,f2⟩:=h inp hi (n+k);obtain⟨a,b⟩:=pG (D:=D) (p:=q) (dQ q inp) hm;rw[d]at a;rw[e]at b;refine⟨a,λhe=>?_,?_,λhe=>?_⟩;·have:=b he;refine⟨by rw[this,e];exact he,by rw[this,d]⟩
 ·rcases Nat.le_total f n with c|c;·obtain⟨b1,b2⟩:=pG (D:=D) (p:=q) (dQ q inp) c;rw[f1]at b1;cases i:(runM D p (n+k) (dQ p inp)).ended with|false=>exact Or.inr ⟨rfl,b1⟩|true=>rw[f2]at b2;rw[b2 i,f1];exact Or.inl (EU _)
  ·obtain⟨b1,_⟩:=pG (D:=D) (p:=q) (dQ q inp) c;rw[f1]at b1;exact Or.inl b1
 ·rcases Nat.le_total f n with c|c;·obtain⟨b1,_⟩:=pG (D:=D) (p:=q) (dQ q inp) c;rw[f1]at b1;exact b1
  ·obtain⟨_,b2⟩:=pG (D:=D) (p:=q) (dQ q inp) c;rw[<-f1,b2 he];exact EU _
end
def Ja{l:List In}{i:Nat}(h:i<l.length):lQ (l.drop i)=(decide ((l[i]).args.length<=20)&&lQ (l.drop (i+1))):=by rw[jqq h];rfl
