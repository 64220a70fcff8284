/- Joint text: MDo, MIns, MClone, MCloA, OOwn. By an AI agent. -/
import Derived.Test.YtgdibfnpkcdiiaaGreatDoorSzy
import Derived.Test.YtgdibfnpkcdiiaaGreatDoorS16
set_option linter.all false
set_option maxRecDepth 100000
set_option maxHeartbeats 64000000
namespace Go.Proofs.YtgdibfnpkcdiiaaGreatDoor
open Go.RowKit
def doW(op:Nat)(a b:Int):Int:=if op=1 then wrap64 (a+b)else if op=2 then wrap64 (a-b)else if op=3 then wrap64 (a*b)else if op=8 then bits .and .i64 a b else if op=9 then bits .or .i64 a b else if op=10 then bits .xor .i64 a b else if op=11 then wrap64 (a*2^(b%64).toNat)else if op=13 then wrap64 (a/2^(b%64).toNat)else if op=14 then(if a<b then 1 else 0)else if op=16 then(if a=b then 1 else 0)else if op=4 then(if b=0 then-1 else if b= -1 then wrap64 (-a)else wrap64 (a.tdiv b))else if op=5 then(if b=0 then wrap64 a else if b= -1 then 0 else wrap64 (a.tmod b))else 0
def wrap64_in(n:Int):I64 (wrap64 n):=by unfold wrap64 I64;omega
def gI{n:Int}(h:I64 n):wrap64 n=n:=by unfold wrap64;unfold I64 at h;omega
def zN(o:BinOp)(a b:Int):I64 (bits o .i64 a b):=by
 have:∀n,I64 (IntKind.i64.wrap n):=λn=>by rw[IntKind.wrap_i64];unfold I64;omega
 exact this _
def mG(op:Nat)(a b:Int):I64 (doW op a b):=by
 have d:I64 0:=⟨by omega,by omega⟩;have f:I64 1:=⟨by omega,by omega⟩;have i2:I64 (-1):=⟨by omega,by omega⟩;have c:∀(p:Prop) [Decidable p](x y:Int),I64 x->I64 y->I64 (if p then x else y):=λp _ x y g i=>by by_cases h:p<;>simp[h,g,i]
 unfold doW;exact c _ _ _ (wrap64_in _) (c _ _ _ (wrap64_in _) (c _ _ _ (wrap64_in _) (c _ _ _ (zN _ _ _) (c _ _ _ (zN _ _ _) (c _ _ _ (zN _ _ _) (c _ _ _ (wrap64_in _) (c _ _ _ (wrap64_in _) (c _ _ _ (c _ _ _ f d) (c _ _ _ (c _ _ _ f d) (c _ _ _ (c _ _ _ i2 (c _ _ _ (wrap64_in _) (wrap64_in _))) (c _ _ _ (c _ _ _ (wrap64_in _) (c _ _ _ d (wrap64_in _))) d)))))))))))
def Za(a b:Int)(w:World):Calls Tryz.prog 20 #[.int .u8 1,.int .i64 a,.int .i64 b] w λe w'=>e=.returned (.int .i64 (doW 1 a b))/\w=w':=by
 obtain⟨d,hd⟩:∃d,d=doW 1 a b:=⟨_,rfl⟩;rw[<-hd];have c:=hqh hd;clear hd;go_enter Tryz.func20,Tryz.ntmps20;go_wp2_with fail;all_goals go_ret
 all_goals exact⟨fG (by rw[c.o];rfl),rfl⟩
def Zg(a b:Int)(w:World):Calls Tryz.prog 20 #[.int .u8 2,.int .i64 a,.int .i64 b] w λe w'=>e=.returned (.int .i64 (doW 2 a b))/\w=w':=by
 obtain⟨d,hd⟩:∃d,d=doW 2 a b:=⟨_,rfl⟩;rw[<-hd];have c:=hqh hd;clear hd;go_enter Tryz.func20,Tryz.ntmps20;go_wp2_with fail;all_goals go_ret
 all_goals exact⟨fG (by rw[c.o];rfl),rfl⟩
def ZJ(a b:Int)(w:World):Calls Tryz.prog 20 #[.int .u8 3,.int .i64 a,.int .i64 b] w λe w'=>e=.returned (.int .i64 (doW 3 a b))/\w=w':=by
 obtain⟨d,hd⟩:∃d,d=doW 3 a b:=⟨_,rfl⟩;rw[<-hd];have c:=hqh hd;clear hd;go_enter Tryz.func20,Tryz.ntmps20;go_wp2_with fail;all_goals go_ret
 all_goals exact⟨fG (by rw[c.o];rfl),rfl⟩
def YV(a b:Int)(w:World):Calls Tryz.prog 20 #[.int .u8 8,.int .i64 a,.int .i64 b] w λe w'=>e=.returned (.int .i64 (doW 8 a b))/\w=w':=by
 obtain⟨d,hd⟩:∃d,d=doW 8 a b:=⟨_,rfl⟩;rw[<-hd];have c:=hqh hd;clear hd;go_enter Tryz.func20,Tryz.ntmps20;go_wp2_with fail;all_goals go_ret
 all_goals exact⟨fG (by rw[c.o];rfl),rfl⟩
def Zy(a b:Int)(w:World):Calls Tryz.prog 20 #[.int .u8 9,.int .i64 a,.int .i64 b] w λe w'=>e=.returned (.int .i64 (doW 9 a b))/\w=w':=by
 obtain⟨d,hd⟩:∃d,d=doW 9 a b:=⟨_,rfl⟩;rw[<-hd];have c:=hqh hd;clear hd;go_enter Tryz.func20,Tryz.ntmps20;go_wp2_with fail;all_goals go_ret
 all_goals exact⟨fG (by rw[c.o];rfl),rfl⟩
def Xr(a b:Int)(w:World):Calls Tryz.prog 20 #[.int .u8 10,.int .i64 a,.int .i64 b] w λe w'=>e=.returned (.int .i64 (doW 10 a b))/\w=w':=by
 obtain⟨d,hd⟩:∃d,d=doW 10 a b:=⟨_,rfl⟩;rw[<-hd];have c:=hqh hd;clear hd;go_enter Tryz.func20,Tryz.ntmps20;go_wp2_with fail;all_goals go_ret
 all_goals exact⟨fG (by rw[c.o];rfl),rfl⟩
def Xo(a b:Int)(w:World):Calls Tryz.prog 20 #[.int .u8 11,.int .i64 a,.int .i64 b] w λe w'=>e=.returned (.int .i64 (doW 11 a b))/\w=w':=by
 obtain⟨d,hd⟩:∃d,d=doW 11 a b:=⟨_,rfl⟩;rw[<-hd];have g:=hqh hd;clear hd;have i:=De b;have j:=DU b;have hc:0<=b%64:=oqo;have k:b%64<64:=oqo;obtain⟨c,f⟩:∃c,c=b%64:=⟨_,rfl⟩;have h:=hqh (show min c.toNat 64=(b%64).toNat by rw[f];omega);rw[<-f]at i j hc;clear f k;go_enter Tryz.func20,Tryz.ntmps20;go_wp2_with fail;all_goals go_ret
 all_goals exact⟨fG (by rw[g.o,h.o];rfl),rfl⟩
def Yu{a:Int}(h:I64 a)(k:Nat):I64 (a/2^k):=by
 obtain⟨h1,h2⟩:=h;have b:(0:Int)<2^k:=Int.pow_pos (by decide);generalize(2:Int)^k=m at b;have c:=Int.mul_ediv_add_emod a m;have d:=Int.emod_nonneg a (show m≠0 by omega);have f:=Int.emod_lt_of_pos a b;constructor;·apply Int.le_ediv_of_mul_le b;have: -9223372036854775808*m<=-9223372036854775808*1:=Int.mul_le_mul_of_nonpos_left oqo oqo;omega
 ·by_cases h0:0<=a;·exact Int.le_trans (Int.ediv_le_self _ h0) h2
  ·have:a/m<0:=Int.ediv_neg_of_neg_of_pos oqo b;omega
def Wo{a b:Int}(h:I64 a):I64 (a.tmod b):=by
 obtain⟨h1,h2⟩:=h;have h3:(a.tmod b).natAbs=a.natAbs%b.natAbs:=Int.natAbs_tmod a b;have c:=Nat.mod_le a.natAbs b.natAbs;rcases Int.le_total 0 a with h|h;·have:=Int.tmod_nonneg b h;constructor<;>omega
 ·have:(a.tmod b)<=0:=by have e:=Int.tmod_nonneg b (show 0<=-a by omega);rw[Int.neg_tmod]at e;omega
  constructor<;>omega
def Yy(a b:Int)(ha:Hid (I64 a))(w:World):Calls Tryz.prog 20 #[.int .u8 13,.int .i64 a,.int .i64 b] w λe w'=>e=.returned (.int .i64 (doW 13 a b))/\w=w':=by
 obtain⟨d,hd⟩:∃d,d=doW 13 a b:=⟨_,rfl⟩;rw[<-hd];have g:=hqh hd;clear hd;have i:=De b;have j:=DU b;have hc:0<=b%64:=oqo;have k:b%64<64:=oqo;obtain⟨c,f⟩:∃c,c=b%64:=⟨_,rfl⟩;have h:=hqh (show min c.toNat 64=(b%64).toNat by rw[f];omega);rw[<-f]at i j hc;clear f k;go_enter Tryz.func20,Tryz.ntmps20;go_wp2_with fail;all_goals go_ret
 all_goals exact⟨fG (by rw[g.o,h.o];exact(gI (Yu ha.o _)).symm),rfl⟩
def ZF(a b:Int)(c:b≠0)(f:b≠-1)(w:World):Calls Tryz.prog 20 #[.int .u8 4,.int .i64 a,.int .i64 b] w λe w'=>e=.returned (.int .i64 (doW 4 a b))/\w=w':=by
 obtain⟨d,hd⟩:∃d,d=doW 4 a b:=⟨_,rfl⟩;rw[<-hd];have g:=hqh hd;clear hd;have h0:(b==0)=false:=by simpa using c
 have h1:(b== -1)=false:=by simpa using f
 have h2:b≠0:=c;go_enter Tryz.func20,Tryz.ntmps20;go_wp2_with fail;all_goals go_ret
 all_goals exact⟨fG (by rw[g.o];show _=(if b=0 then-1 else if b= -1 then wrap64 (-a)else wrap64 (a.tdiv b));rw[qzc c,qzc f]),rfl⟩
def ZH(a b:Int)(ha:Hid (I64 a))(c:b≠0)(f:b≠-1)(w:World):Calls Tryz.prog 20 #[.int .u8 5,.int .i64 a,.int .i64 b] w λe w'=>e=.returned (.int .i64 (doW 5 a b))/\w=w':=by
 obtain⟨d,hd⟩:∃d,d=doW 5 a b:=⟨_,rfl⟩;rw[<-hd];have g:=hqh hd;clear hd;have h0:(b==0)=false:=by simpa using c
 have h1:(b== -1)=false:=by simpa using f
 have h2:b≠0:=c;go_enter Tryz.func20,Tryz.ntmps20;go_wp2_with fail;all_goals go_ret
 all_goals exact⟨fG (by rw[g.o];show _=(if b=0 then wrap64 a else if b= -1 then 0 else wrap64 (a.tmod b));rw[qzc c,qzc f,gI (Wo ha.o)]),rfl⟩
def Xq(a:Int)(w:World):Calls Tryz.prog 20 #[.int .u8 4,.int .i64 a,.int .i64 (0)] w λe w'=>e=.returned (.int .i64 (doW 4 a (0)))/\w=w':=by
 obtain⟨d,hd⟩:∃d,d=doW 4 a (0):=⟨_,rfl⟩;rw[<-hd];have b:=hqh hd;clear hd;go_enter Tryz.func20,Tryz.ntmps20;go_wp2_with fail;all_goals go_ret
 all_goals exact⟨fG (by rw[b.o];rfl),rfl⟩
def XO(a:Int)(w:World):Calls Tryz.prog 20 #[.int .u8 4,.int .i64 a,.int .i64 (-1)] w λe w'=>e=.returned (.int .i64 (doW 4 a (-1)))/\w=w':=by
 obtain⟨d,hd⟩:∃d,d=doW 4 a (-1):=⟨_,rfl⟩;rw[<-hd];have b:=hqh hd;clear hd;go_enter Tryz.func20,Tryz.ntmps20;go_wp2_with fail;all_goals go_ret
 all_goals exact⟨fG (by rw[b.o];rfl),rfl⟩
def YQ(a:Int)(ha:Hid (I64 a))(w:World):Calls Tryz.prog 20 #[.int .u8 5,.int .i64 a,.int .i64 (0)] w λe w'=>e=.returned (.int .i64 (doW 5 a (0)))/\w=w':=by
 obtain⟨d,hd⟩:∃d,d=doW 5 a (0):=⟨_,rfl⟩;rw[<-hd];have b:=hqh hd;clear hd;go_enter Tryz.func20,Tryz.ntmps20;go_wp2_with fail;all_goals go_ret
 all_goals exact⟨fG (by rw[b.o];exact(gI ha.o).symm),rfl⟩
def YE(a:Int)(w:World):Calls Tryz.prog 20 #[.int .u8 5,.int .i64 a,.int .i64 (-1)] w λe w'=>e=.returned (.int .i64 (doW 5 a (-1)))/\w=w':=by
 obtain⟨d,hd⟩:∃d,d=doW 5 a (-1):=⟨_,rfl⟩;rw[<-hd];have b:=hqh hd;clear hd;go_enter Tryz.func20,Tryz.ntmps20;go_wp2_with fail;all_goals go_ret
 all_goals exact⟨fG (by rw[b.o];rfl),rfl⟩
def VW(a b:Int)(hl:a<b)(w:World):Calls Tryz.prog 20 #[.int .u8 14,.int .i64 a,.int .i64 b] w λe w'=>e=.returned (.int .i64 (doW 14 a b))/\w=w':=by
 obtain⟨d,hd⟩:∃d,d=doW 14 a b:=⟨_,rfl⟩;rw[<-hd];have c:=hqh hd;clear hd;have f:decide (a<b)=true:=qqx hl;go_enter Tryz.func20,Tryz.ntmps20;go_wp2_with fail;refine(xO _ _).mono ?_;rintro e w1⟨rfl,rfl⟩;go_wp2_with fail;all_goals go_ret
 all_goals exact⟨fG (by rw[c.o];show _=(if a<b then(1:Int)else 0);rw[qzb hl]),rfl⟩
def WR(a b:Int)(hl:¬a<b)(w:World):Calls Tryz.prog 20 #[.int .u8 14,.int .i64 a,.int .i64 b] w λe w'=>e=.returned (.int .i64 (doW 14 a b))/\w=w':=by
 obtain⟨d,hd⟩:∃d,d=doW 14 a b:=⟨_,rfl⟩;rw[<-hd];have c:=hqh hd;clear hd;have f:decide (a<b)=false:=qqt hl;go_enter Tryz.func20,Tryz.ntmps20;go_wp2_with fail;refine(xO _ _).mono ?_;rintro e w1⟨rfl,rfl⟩;go_wp2_with fail;all_goals go_ret
 all_goals exact⟨fG (by rw[c.o];show _=(if a<b then(1:Int)else 0);rw[qzc oqo]),rfl⟩
def V4(a b:Int)(hl:a=b)(w:World):Calls Tryz.prog 20 #[.int .u8 16,.int .i64 a,.int .i64 b] w λe w'=>e=.returned (.int .i64 (doW 16 a b))/\w=w':=by
 obtain⟨d,hd⟩:∃d,d=doW 16 a b:=⟨_,rfl⟩;rw[<-hd];have c:=hqh hd;clear hd;have f:(a==b)=true:=by simpa using hl
 go_enter Tryz.func20,Tryz.ntmps20;go_wp2_with fail;refine(xO _ _).mono ?_;rintro e w1⟨rfl,rfl⟩;go_wp2_with fail;all_goals go_ret
 all_goals exact⟨fG (by rw[c.o];show _=(if a=b then(1:Int)else 0);rw[qzb hl]),rfl⟩
def VN(a b:Int)(hl:¬a=b)(w:World):Calls Tryz.prog 20 #[.int .u8 16,.int .i64 a,.int .i64 b] w λe w'=>e=.returned (.int .i64 (doW 16 a b))/\w=w':=by
 obtain⟨d,hd⟩:∃d,d=doW 16 a b:=⟨_,rfl⟩;rw[<-hd];have c:=hqh hd;clear hd;have f:(a==b)=false:=by simpa using hl
 go_enter Tryz.func20,Tryz.ntmps20;go_wp2_with fail;refine(xO _ _).mono ?_;rintro e w1⟨rfl,rfl⟩;go_wp2_with fail;all_goals go_ret
 all_goals exact⟨fG (by rw[c.o];show _=(if a=b then(1:Int)else 0);rw[qzc oqo]),rfl⟩
def OG(op:Nat)(c:op∈jw)(a b:Int)(ha:I64 a)(w:World):Calls Tryz.prog 20 #[.int .u8 op,.int .i64 a,.int .i64 b] w λe w'=>e=.returned (.int .i64 (doW op a b))/\w=w':=by
 simp only[jw,qzh,qjh,jzq]at c;rcases c with rfl|rfl|rfl|rfl|rfl|rfl|rfl|rfl|rfl|rfl|rfl|rfl;·exact Za a b w
 ·exact Zg a b w
 ·exact ZJ a b w
 ·by_cases h0:b=0;·subst h0;exact Xq a w
  ·by_cases h1:b= -1;·subst h1;exact XO a w
   ·exact ZF a b h0 h1 w
 ·by_cases h0:b=0;·subst h0;exact YQ a (hqh ha) w
  ·by_cases h1:b= -1;·subst h1;exact YE a w
   ·exact ZH a b (hqh ha) h0 h1 w
 ·exact YV a b w
 ·exact Zy a b w
 ·exact Xr a b w
 ·exact Xo a b w
 ·exact Yy a b (hqh ha) w
 ·by_cases h:a<b;·exact VW a b h w
  ·exact WR a b h w
 ·by_cases h:a=b;·exact V4 a b h w
  ·exact VN a b h w
structure Pre(w W0:World)(ρ:Nat->Option aG)(G:RG)(s:MS)(bx:Nat)(cs:Array Value):Prop where
 r:az W0 ρ G s
 box:Blk W0 bx 71 cs
 kp:Kp ρ ρ w W0
 no:ρ bx=none
def CE{w:World}{ρ:Nat->Option aG}{G:RG}{s:MS}(h:az w ρ G s)(cs:Array Value):Pre w (w.alloc (.cells cs 71)) ρ G s w.heap.size cs:=⟨h.below ((qjk _ _).alloc (qqf _) _),Blk.new w 71 cs,Kp.alloc _,h.free (qqf _)⟩
abbrev aI(G:RG)(s:MS)(op v a b:Nat)(n:Int)(bin:Nat)(av:Value)(f arr c:Nat):Array Value:=#[.pointer (some ⟨G.r,0,none⟩),.agg #[.int .u8 op,.int .i64 (v:Int),.int .i64 (a:Int),.int .i64 (b:Int),.int .i64 n,.int .u8 bin,av,.int .i64 (f:Int),.int .i64 (arr:Int),.int .i64 (c:Int)],.slice (some ⟨G.t.b,0,none⟩) s.top.vars.length s.top.vars.length]
def dN{w:World}{ρ:Nat->Option aG}{G:RG}{s:MS}(h:az w ρ G s)(op v a b:Nat)(n:Int)(bin:Nat)(av:Value)(f arr c:Nat):type_of%(CE h #[.int .u8 op,.int .i64 (v:Int),.int .i64 (a:Int),.int .i64 (b:Int),.int .i64 n,.int .u8 bin,av,.int .i64 (f:Int),.int .i64 (arr:Int),.int .i64 (c:Int)]):=CE h _
def eO(w:World)(op v a b:Nat)(n:Int)(bin:Nat)(av:Value)(f arr c:Nat):∃W0,W0=w.alloc (.cells #[.int .u8 op,.int .i64 (v:Int),.int .i64 (a:Int),.int .i64 (b:Int),.int .i64 n,.int .u8 bin,av,.int .i64 (f:Int),.int .i64 (arr:Int),.int .i64 (c:Int)] 71):=⟨_,rfl⟩
section
variable {w w':World}{ρ:Nat->Option aG}{G:RG}{s:MS}
def az.kW(h:az w ρ G s):Blk w G.t.b 2 (dx s.top.vars):=by have:=(h.fr _ _ G.jO).2.1;rw[h.ft]at this;exact this
def az.fE(h:az w ρ G s){a:Nat}(ha:a<s.top.vars.length):w.cell? ⟨G.t.b,a,none⟩=some (.int .i64 (s.v a)):=by rw[h.kW.cell];unfold dx MS.v;rw[jzf,jxc,qqp,qqm,qqh ha];rfl
def bH.below{r n0:Nat}{gp:PrG}(h:bH w ρ r n0 gp s)(a:Below w.heap.size w w'):bH w' ρ r n0 gp s:=by obtain⟨G,rfl,rfl,rfl,h⟩:=h;exact⟨G,rfl,rfl,rfl,h.below a⟩
def az.mi(h:az w ρ G s):∃g cap,G.frv=.slice (some ⟨g,0,none⟩) (G.bs.length+1) cap:=by obtain⟨g,cap,e,_⟩:=h.jc.form (by simp[RG.fs]);exact⟨g,cap,by rw[e];simp[RG.fs]⟩
end
def Mq{w:World}{ρ:Nat->Option aG}{G:RG}{s:MS}(h:az w ρ G s)(op bin v a b f arr d:Nat)(n:Int)(av:Value)(hv:v<s.top.vars.length):Calls Tryz.prog 72 (aI G s op v a b n bin av f arr d) w λe w'=>e=.returned (.tuple #[])/\∃ρ',bH w' ρ' G.r G.n0 G.gp (s.put v n)/\Kp ρ ρ' w w':=by unfold aI;have c:=hqh (dN h op v a b n bin av f arr d);have k:=hqh (show(v:Int)<(s.top.vars.length:Int)by omega);go_enter Tryz.func72,Tryz.ntmps72;go_upto_region 1 with fail;obtain⟨W0,g⟩:=eO w op v a b n bin av f arr d;obtain⟨bx,i⟩:∃b,b=w.heap.size:=⟨_,rfl⟩;rw[<-g,<-i]at c⊢;clear g i;have k1:=c.o.box.cell 1;have k4:=c.o.box.cell 4;have lb:=c.o.box.lt;have fv:=c.o.r.kW.free v;have kv:=c.o.r.fE hv;have lv:=c.o.r.kW.lt;go_wp2_with fail;go_end0;have j:=c.o.r.pg v n;exact⟨rfl,ρ,j.runs,c.o.kp.trans (Kp.set (c.o.r.fr _ _ G.jO).2.2 _)⟩
def iD{α:Type}(C:α->List Value)(z:Nat)(hz:∀x,(C x).length=z):∀(l:List α)(i k:Nat)(x:α),l[i]? =some x->k<z->(l.flatMap C)[i*z+k]? =(C x)[k]? |[],i,k,x,h,_=>by simp at h|m::r,0,k,x,h,hk=>by simp at h;subst h;rw[jqe,jzr,qja,qzf (by rw[hz];exact hk)]|m::r,i+1,k,x,h,hk=>by have ih:=iD C z hz r i k x (by simpa using h) hk;rw[jqe,qze (by rw[hz,jxe];omega),hz,show(i+1)*z+k-z=i*z+k by rw[jxe];omega];exact ih
def az.UF{w:World}{ρ:Nat->Option aG}{G:RG}{s:MS}(h:az w ρ G s){j b:Nat}{l:List Int}(c:G.ars[j]? =some b)(hl:s.arr[j]? =some l):∃a cap,G.arv=.slice (some ⟨a,0,none⟩) s.arr.length cap/\w.cell? ⟨a,j,none⟩=some (.slice (some ⟨b,0,none⟩) l.length l.length):=by have hj:=(qqi.1 hl).1;obtain⟨a,cap,e,_⟩:=h.jl.form oqo;refine⟨a,cap,e,?_⟩;have ho:=h.jl;rw[e]at ho;rw[ho.cellAt j oqo];have:=iD arC 1 (λ_=>rfl) (G.ars.zip s.arr) j 0 (b,l) (by rw[List.getElem?_zip_eq_some];exact⟨c,hl⟩) oqo;rw[jzc,qzz]at this;exact this
def ze{w:World}{ρ:Nat->Option aG}{G:RG}{s:MS}(h:az w ρ G s){j b:Nat}{l:List Int}(a:G.ars[j]? =some b)(hl:s.arr[j]? =some l)(i:Nat)(hi:i<l.length):Calls Tryz.prog 123 #[.pointer (some ⟨G.r,0,none⟩),.int .i64 (j:Int),.int .i64 (i:Int)] w λe w'=>e=.returned (.pointer (some ⟨b,i,none⟩))/\Below w.heap.size w w':=by
 obtain⟨c,cap,ha,hc⟩:=h.UF a hl;have hj:(j:Int)<(s.arr.length:Int):=by have:=(qqi.1 hl).1;omega
 have c4:w.cell? ⟨G.r,4,none⟩=some (.slice (some ⟨c,0,none⟩) s.arr.length cap):=(h.run.cell 4).trans (by simp[RG.cells,ha]);have g:=h.run.lt;have f:=aB hc;have d:(i:Int)<(l.length:Int):=oqo;have k:decide ((i:Int)<(l.length:Int))=true:=qqx d;clear h ha a hl hi;go_enter Tryz.func123,Tryz.ntmps123;go_wp2_with fail;go_ret;exact⟨rfl,qjk _ _⟩
def Cs{w:World}{ρ:Nat->Option aG}{G:RG}{s:MS}(h:az w ρ G s){j b:Nat}{l:List Int}(d:G.ars[j]? =some b)(hl:s.arr[j]? =some l)(i:Int)(hi:i<0\/l.length<=i)(f:s.evs.length<=1000000):Calls Tryz.prog 123 #[.pointer (some ⟨G.r,0,none⟩),.int .i64 (j:Int),.int .i64 i] w λe w'=>e=.returned (.pointer none)/\∃ρ',bH w' ρ' G.r G.n0 G.gp (s.see 4 1)/\Kp ρ ρ' w w':=by
 obtain⟨g,cap,ha,hc⟩:=h.UF d hl;have hj:(j:Int)<(s.arr.length:Int):=by have:=(qqi.1 hl).1;omega
 have c4:w.cell? ⟨G.r,4,none⟩=some (.slice (some ⟨g,0,none⟩) s.arr.length cap):=(h.run.cell 4).trans (by simp[RG.cells,ha]);have p:=h.run.lt;have o:=aB hc;have c:=hqh (lJ h 4 1 f);clear h ha d hl f;by_cases h0:i<0;·have k:decide (0<=i)=false:=qqt oqo;have m:decide (i≥0)=false:=qqt oqo;clear hi h0;go_enter Tryz.func123,Tryz.ntmps123;go_wp2_with fail;refine c.o.mono ?_;rintro e w1⟨rfl,a,hr,hk⟩;go_wp2_with fail;go_ret;exact⟨rfl,a,hr,hk⟩
 ·have k:decide (0<=i)=true:=qqx oqo;have m:decide (i≥0)=true:=qqx oqo;have q:decide (i<(l.length:Int))=false:=qqt oqo;clear hi h0;go_enter Tryz.func123,Tryz.ntmps123;go_wp2_with fail;refine c.o.mono ?_;rintro e w1⟨rfl,a,hr,hk⟩;go_wp2_with fail;go_ret;exact⟨rfl,a,hr,hk⟩
def KN{w:World}{ρ:Nat->Option aG}{G:RG}{s:MS}(h:az w ρ G s)(op bin v a b f arr r:Nat)(n:Int)(av:Value)(hv:v<s.top.vars.length)(ha:a<s.top.vars.length):Calls Tryz.prog 73 (aI G s op v a b n bin av f arr r) w λe w'=>e=.returned (.tuple #[])/\∃ρ',bH w' ρ' G.r G.n0 G.gp (s.put v (s.v a))/\Kp ρ ρ' w w':=by
 unfold aI;have c:=hqh (dN h op v a b n bin av f arr r);have F:=hqh (show(v:Int)<(s.top.vars.length:Int)by omega);have E:=hqh (show(a:Int)<(s.top.vars.length:Int)by omega);obtain⟨g,B⟩:∃x,x=s.v (a:Int):=⟨_,rfl⟩;have l:=hqh (c.o.r.fE (a:=a) ha);rw[<-B]at l⊢;clear B;go_enter Tryz.func73,Tryz.ntmps73;go_upto_region 1 with fail;obtain⟨W0,p⟩:=eO w op v a b n bin av f arr r;obtain⟨bx,A⟩:∃b,b=w.heap.size:=⟨_,rfl⟩;rw[<-p,<-A]at c⊢;rw[<-p]at l;clear p A;refine aL [some (none,.slice (some ⟨G.t.b,0,none⟩) s.top.vars.length s.top.vars.length),some (none,.pointer (some ⟨bx,1,none⟩)),some (none,.int .i64 (v:Int)),some (none,.slice (some ⟨G.t.b,0,none⟩) s.top.vars.length s.top.vars.length),some (none,.pointer (some ⟨bx,2,none⟩)),some (none,.int .i64 (a:Int)),some (none,.pointer (some ⟨G.t.b,a,none⟩)),some (none,.int .i64 g),some (none,.pointer (some ⟨G.t.b,v,none⟩)),none] (λW=>Below W0.heap.size W0 W) 1 fu (λ_ a H _ hd h=>by cases a;cases H;cases hd;exact h) kqk (λ_ _ h=>h) ?_;intro i D J m hF M z;have y:aN i [(2,.slice (some ⟨G.t.b,0,none⟩) s.top.vars.length s.top.vars.length),(4,.pointer (some ⟨bx,0,none⟩)),(6,.slice (some ⟨G.t.b,0,none⟩) s.top.vars.length s.top.vars.length),(7,.pointer (some ⟨bx,1,none⟩)),(8,.int .i64 (v:Int)),(9,.slice (some ⟨G.t.b,0,none⟩) s.top.vars.length s.top.vars.length),(10,.pointer (some ⟨bx,2,none⟩)),(11,.int .i64 (a:Int)),(12,.pointer (some ⟨G.t.b,a,none⟩)),(13,.int .i64 g),(14,.pointer (some ⟨G.t.b,v,none⟩))]:=by unfold aN;rw[hF,m];kernel_rfl
 have t:=hqh hF;clear hF;have j:=hqh m;clear m;refine⟨?_,?_⟩
 ·intro Z q;repeat clear‹∀(a:Act)(w:World),Code.wp Tryz.prog _ _ a w->_›
  have K:=dn;have L:=dm;have C:=y.all;repeat(obtain⟨_,C⟩:=C)
  have N:=aa q (c.o.box.cell 1);have P:=aa q (c.o.box.cell 2);have Q:=E.o;have R:=aa q l.o;have S:=F.o;exact fZ
 clear y;obtain⟨gf,o⟩:∃gf:Nat->Value,i=bI [(6,gf 6),(7,gf 7),(8,gf 8),(9,gf 9),(10,gf 10),(11,gf 11),(12,gf 12),(13,.int .i64 g),(14,.pointer (some ⟨G.t.b,v,none⟩))] D:=⟨λk=>i.tmps.getD k undef,by rw[t.o,j.o];kernel_rfl⟩;clear t;rw[j.o]at o;clear j;simp only[bI,Act.put,qqb]at o;subst o;refine ai 9 rfl kqk (λI u=>?_);have d:=c.o.r.below z;have fv:=d.kW.free v;have kv:=d.fE hv;have lv:=d.kW.lt;go_simp;refine u.o _ _ (Or.inr kqk) ?_;clear u;refine au kqk ?_;go_end0;exact⟨rfl,ρ,(d.pg v g).runs,(c.o.kp.trans (Kp.of_below z)).trans (Kp.set (d.fr _ _ G.jO).2.2 _)⟩
def U9{w:World}{ρ:Nat->Option aG}{G:RG}{s:MS}(h:az w ρ G s)(op bin v a b f arr A:Nat)(n:Int)(av:Value)(hv:v<s.top.vars.length)(ha:a<s.top.vars.length)(T:b<s.top.vars.length)(E:bin∈jw)(z:I64 (s.v a)):Calls Tryz.prog 74 (aI G s op v a b n bin av f arr A) w λe w'=>e=.returned (.tuple #[])/\∃ρ',bH w' ρ' G.r G.n0 G.gp (s.put v (doW bin (s.v a) (s.v b)))/\Kp ρ ρ' w w':=by
 unfold aI;have L:=hqh E;clear E;have c:=hqh (dN h op v a b n bin av f arr A);have Q:=hqh (show(v:Int)<(s.top.vars.length:Int)by omega);have N:=hqh (show(a:Int)<(s.top.vars.length:Int)by omega);have P:=hqh (show(b:Int)<(s.top.vars.length:Int)by omega);obtain⟨j,H⟩:∃x,x=s.v (a:Int):=⟨_,rfl⟩;have r:=hqh (c.o.r.fE (a:=a) ha);rw[<-H]at r z⊢;have M:=hqh z;clear z;clear H;obtain⟨l,I⟩:∃x,x=s.v (b:Int):=⟨_,rfl⟩;have t:=hqh (c.o.r.fE (a:=b) T);rw[<-I]at t⊢;clear I;go_enter Tryz.func74,Tryz.ntmps74;go_upto_region 1 with fail;obtain⟨W0,m⟩:=eO w op v a b n bin av f arr A;obtain⟨bx,F⟩:∃b,b=w.heap.size:=⟨_,rfl⟩;rw[<-m,<-F]at c⊢;rw[<-m]at r;rw[<-m]at t;clear m F;refine aL [some (none,.slice (some ⟨G.t.b,0,none⟩) s.top.vars.length s.top.vars.length),some (none,.pointer (some ⟨bx,1,none⟩)),some (none,.int .i64 (v:Int)),some (none,.pointer (some ⟨bx,5,none⟩)),some (none,.int .u8 bin),some (none,.slice (some ⟨G.t.b,0,none⟩) s.top.vars.length s.top.vars.length),some (none,.pointer (some ⟨bx,2,none⟩)),some (none,.int .i64 (a:Int)),some (none,.pointer (some ⟨G.t.b,a,none⟩)),some (none,.int .i64 j),some (none,.slice (some ⟨G.t.b,0,none⟩) s.top.vars.length s.top.vars.length),some (none,.pointer (some ⟨bx,3,none⟩)),some (none,.int .i64 (b:Int)),some (none,.pointer (some ⟨G.t.b,b,none⟩)),some (none,.int .i64 l),none,none,none] (λW=>Below W0.heap.size W0 W) 3 fu (λ_ a S _ hd h=>by cases a;cases S;cases hd;exact h) kqk (λ_ _ h=>h) ?_;intro p K R u hF X o;have D:aN p [(2,.slice (some ⟨G.t.b,0,none⟩) s.top.vars.length s.top.vars.length),(4,.pointer (some ⟨bx,0,none⟩)),(6,.slice (some ⟨G.t.b,0,none⟩) s.top.vars.length s.top.vars.length),(7,.pointer (some ⟨bx,1,none⟩)),(8,.int .i64 (v:Int)),(9,.pointer (some ⟨bx,5,none⟩)),(10,.int .u8 bin),(11,.slice (some ⟨G.t.b,0,none⟩) s.top.vars.length s.top.vars.length),(12,.pointer (some ⟨bx,2,none⟩)),(13,.int .i64 (a:Int)),(14,.pointer (some ⟨G.t.b,a,none⟩)),(15,.int .i64 j),(16,.slice (some ⟨G.t.b,0,none⟩) s.top.vars.length s.top.vars.length),(17,.pointer (some ⟨bx,3,none⟩)),(18,.int .i64 (b:Int)),(19,.pointer (some ⟨G.t.b,b,none⟩)),(20,.int .i64 l)]:=by unfold aN;rw[hF,u];kernel_rfl
 have B:=hqh hF;clear hF;have q:=hqh u;clear u;refine⟨?_,?_⟩
 ·intro Z g;repeat clear‹∀(a:Act)(w:World),Code.wp Tryz.prog _ _ a w->_›
  have U:=dn;have V:=dm;have J:=D.all;repeat(obtain⟨_,J⟩:=J)
  have d0:=aa g (c.o.box.cell 1);have e0:=aa g (c.o.box.cell 5);have i0:=aa g (c.o.box.cell 2);have j0:=N.o;have l0:=aa g r.o;have m0:=aa g (c.o.box.cell 3);have o0:=P.o;have p0:=aa g t.o;exact fZ
 clear D;obtain⟨gf,y⟩:∃gf:Nat->Value,p=bI [(6,.slice (some ⟨G.t.b,0,none⟩) s.top.vars.length s.top.vars.length),(7,gf 7),(8,.int .i64 (v:Int)),(9,gf 9),(10,.int .u8 bin),(11,gf 11),(12,gf 12),(13,gf 13),(14,gf 14),(15,.int .i64 j),(16,gf 16),(17,gf 17),(18,gf 18),(19,gf 19),(20,.int .i64 l)] K:=⟨λk=>p.tmps.getD k undef,by rw[B.o,q.o];kernel_rfl⟩;clear B;rw[q.o]at y;clear q;simp only[bI,Act.put,qqb]at y;subst y;refine ai 15 rfl kqk (λC d=>?_);go_simp;refine(OG bin L.o j l M.o R).mono ?_;rintro e w1⟨rfl,rfl⟩;go_simp;refine d.o _ _ (Or.inl o) ?_;clear d;have i:=c.o.r.below o;have fv:=i.kW.free v;have kv:=i.fE hv;have lv:=i.kW.lt;have Y:=Q.o;refine ai 16 rfl kqk (λC d=>?_);go_simp;refine d.o _ _ (Or.inl o) ?_;clear d;refine ai 17 rfl kqk (λC d=>?_);go_simp;refine d.o _ _ (Or.inr kqk) ?_;clear d;refine au kqk ?_;go_end0;exact⟨rfl,ρ,(i.pg v (doW bin j l)).runs,(c.o.kp.trans (Kp.of_below o)).trans (Kp.set (i.fr _ _ G.jO).2.2 _)⟩
def az.Yz{w:World}{ρ:Nat->Option aG}{G:RG}{s:MS}(h:az w ρ G s){j b:Nat}{l:List Int}(a:G.ars[j]? =some b)(hl:s.arr[j]? =some l){i:Nat}(hi:i<l.length):w.cell? ⟨b,i,none⟩=some (.int .i64 (l.getD i 0)):=by rw[(h.arr j b l a hl).1.cell];unfold dx;rw[jxc,qqp,qqm,qqh hi];rfl
def FT{w:World}{ρ:Nat->Option aG}{G:RG}{s:MS}(h:az w ρ G s)(op bin v a b f arr L:Nat)(n:Int)(av:Value)(hv:v<s.top.vars.length)(ha:a<s.top.vars.length){q i:Nat}{l:List Int}(R:G.ars[arr]? =some q)(hl:s.arr[arr]? =some l)(hi:i<l.length)(T:s.v (a:Int)=(i:Int)):Calls Tryz.prog 75 (aI G s op v a b n bin av f arr L) w λe w'=>e=.returned (.tuple #[])/\∃ρ',bH w' ρ' G.r G.n0 G.gp (s.put v (l.getD i 0))/\Kp ρ ρ' w w':=by
 unfold aI;obtain⟨y,K⟩:∃y,y=l.getD i 0:=⟨_,rfl⟩;rw[<-K];have Y:=hqh K;clear K;have c:=hqh (dN h op v a b n bin av f arr L);have Ha:=hqh (show(a:Int)<(s.top.vars.length:Int)by omega);have Hv:=hqh (show(v:Int)<(s.top.vars.length:Int)by omega);have B:=hqh (c.o.r.fE (a:=a) ha);rw[T]at B;clear T;go_enter Tryz.func75,Tryz.ntmps75;go_upto_region 1 with fail;obtain⟨W0,I⟩:=eO w op v a b n bin av f arr L;obtain⟨bx,S⟩:∃b,b=w.heap.size:=⟨_,rfl⟩;rw[<-I,<-S]at c⊢;rw[<-I]at B;clear I S;refine aL [some (none,.pointer (some ⟨G.r,0,none⟩)),some (none,.pointer (some ⟨bx,8,none⟩)),some (none,.int .i64 (arr:Int)),some (none,.slice (some ⟨G.t.b,0,none⟩) s.top.vars.length s.top.vars.length),some (none,.pointer (some ⟨bx,2,none⟩)),some (none,.int .i64 (a:Int)),some (none,.pointer (some ⟨G.t.b,a,none⟩)),some (none,.int .i64 (i:Int)),none,none] (λW=>Below W0.heap.size W0 W) 2 fu (λ_ a H _ hd h=>by cases a;cases H;cases hd;exact h) kqk (λ_ _ h=>h) ?_;intro j E Wd o hF Q g;have z:aN j [(0,.pointer (some ⟨G.r,0,none⟩)),(2,.slice (some ⟨G.t.b,0,none⟩) s.top.vars.length s.top.vars.length),(4,.pointer (some ⟨bx,0,none⟩)),(7,.pointer (some ⟨G.r,0,none⟩)),(8,.pointer (some ⟨bx,8,none⟩)),(9,.int .i64 (arr:Int)),(10,.slice (some ⟨G.t.b,0,none⟩) s.top.vars.length s.top.vars.length),(11,.pointer (some ⟨bx,2,none⟩)),(12,.int .i64 (a:Int)),(13,.pointer (some ⟨G.t.b,a,none⟩)),(14,.int .i64 (i:Int))]:=by unfold aN;rw[hF,o];kernel_rfl
 have u:=hqh hF;clear hF;have m:=hqh o;clear o;refine⟨?_,?_⟩
 ·intro Z t;repeat clear‹∀(a:Act)(w:World),Code.wp Tryz.prog _ _ a w->_›
  have l0:=dn;have d0:=dm;have A:=z.all;repeat(obtain⟨_,A⟩:=A)
  have e0:=aa t (c.o.box.cell 8);have i0:=aa t (c.o.box.cell 2);have j0:=Ha.o;have o0:=aa t B.o;exact fZ
 clear z;obtain⟨gf,p⟩:∃gf:Nat->Value,j=bI [(7,.pointer (some ⟨G.r,0,none⟩)),(8,gf 8),(9,.int .i64 (arr:Int)),(10,gf 10),(11,gf 11),(12,gf 12),(13,gf 13),(14,.int .i64 (i:Int))] E:=⟨λk=>j.tmps.getD k undef,by rw[u.o,m.o];kernel_rfl⟩;clear u;rw[m.o]at p;clear m;simp only[bI,Act.put,qqb]at p;subst p;have F:=hqh (c.o.r.below g);have M:=hqh (c.o.kp.trans (Kp.of_below g));refine ai 8 rfl kqk (λN d=>?_);go_simp;refine(ze F.o R hl i hi).mono ?_;rintro e w1⟨rfl,C⟩;go_simp;have P:=hqh (F.o.below C);have X:=hqh (M.o.trans (Kp.of_below C));have D:=g.trans (C.mono g.size);have V:=hqh (c.o.box.below D);refine d.o _ _ (Or.inl D) ?_;clear d;refine ai 9 rfl kqk (λN d=>?_);go_simp;refine d.o _ _ (Or.inl D) ?_;clear d;refine au kqk ?_;have J:=P.o.Yz R hl hi;rw[<-Y.o]at J;have U:=hqh J;clear J C D g Q c B F M;go_upto_region 3 with fail;refine aL [some (none,.slice (some ⟨G.t.b,0,none⟩) s.top.vars.length s.top.vars.length),some (none,.pointer (some ⟨bx,1,none⟩)),some (none,.int .i64 (v:Int)),some (none,.pointer (some ⟨q,i,none⟩)),some (none,.pointer (some ⟨q,i,none⟩)),some (none,.int .i64 y),some (none,.pointer (some ⟨G.t.b,v,none⟩)),none] (λW=>Below w1.heap.size w1 W) 1 fu (λ_ a H _ hd h=>by cases a;cases H;cases hd;exact h) kqk (λ_ _ h=>h) ?_;intro j E Wd o hF Q g;have z:aN j [(2,.slice (some ⟨G.t.b,0,none⟩) s.top.vars.length s.top.vars.length),(4,.pointer (some ⟨bx,0,none⟩)),(6,.pointer (some ⟨q,i,none⟩)),(18,.slice (some ⟨G.t.b,0,none⟩) s.top.vars.length s.top.vars.length),(19,.pointer (some ⟨bx,1,none⟩)),(20,.int .i64 (v:Int)),(21,.pointer (some ⟨q,i,none⟩)),(22,.pointer (some ⟨q,i,none⟩)),(23,.int .i64 y),(24,.pointer (some ⟨G.t.b,v,none⟩))]:=by unfold aN;rw[hF,o];kernel_rfl
 have u:=hqh hF;clear hF;have m:=hqh o;clear o;refine⟨?_,?_⟩
 ·intro Z t;repeat clear‹∀(a:Act)(w:World),Code.wp Tryz.prog _ _ a w->_›
  have m0:=dn;have d0:=dm;have A:=z.all;repeat(obtain⟨_,A⟩:=A)
  have e0:=aa t (V.o.cell 1);have i0:=aa t U.o;have j0:=Hv.o;exact fZ
 clear z;obtain⟨r,p⟩:∃r:Nat->Value,j=bI [(18,r 18),(19,r 19),(20,r 20),(21,r 21),(22,r 22),(23,.int .i64 y),(24,.pointer (some ⟨G.t.b,v,none⟩))] E:=⟨λk=>j.tmps.getD k undef,by rw[u.o,m.o];kernel_rfl⟩;clear u;rw[m.o]at p;clear m;simp only[bI,Act.put,qqb]at p;subst p;refine ai 7 rfl kqk (λN d=>?_);have x:=P.o.below g;have fv:=x.kW.free v;have kv:=x.fE hv;have lv:=x.kW.lt;go_simp;refine d.o _ _ (Or.inr kqk) ?_;clear d;refine au kqk ?_;go_end0;exact⟨rfl,ρ,(x.pg v y).runs,(X.o.trans (Kp.of_below g)).trans (Kp.set (x.fr _ _ G.jO).2.2 _)⟩
def IE{w:World}{ρ:Nat->Option aG}{G:RG}{s:MS}(h:az w ρ G s)(op bin v a b f arr t:Nat)(n:Int)(av:Value)(ha:a<s.top.vars.length){S:Nat}{l:List Int}(A:G.ars[arr]? =some S)(hl:s.arr[arr]? =some l)(hi:s.v (a:Int)<0\/l.length<=s.v (a:Int))(D:s.evs.length<=1000000):Calls Tryz.prog 75 (aI G s op v a b n bin av f arr t) w λe w'=>e=.returned (.tuple #[])/\∃ρ',bH w' ρ' G.r G.n0 G.gp (s.see 4 1)/\Kp ρ ρ' w w':=by
 unfold aI;have c:=hqh (dN h op v a b n bin av f arr t);have L:=hqh (show(a:Int)<(s.top.vars.length:Int)by omega);obtain⟨g,F⟩:∃x,x=s.v (a:Int):=⟨_,rfl⟩;have m:=hqh (c.o.r.fE (a:=a) ha);rw[<-F]at m hi;clear F;go_enter Tryz.func75,Tryz.ntmps75;go_upto_region 1 with fail;obtain⟨W0,q⟩:=eO w op v a b n bin av f arr t;obtain⟨bx,B⟩:∃b,b=w.heap.size:=⟨_,rfl⟩;rw[<-q,<-B]at c⊢;rw[<-q]at m;clear q B;refine aL [some (none,.pointer (some ⟨G.r,0,none⟩)),some (none,.pointer (some ⟨bx,8,none⟩)),some (none,.int .i64 (arr:Int)),some (none,.slice (some ⟨G.t.b,0,none⟩) s.top.vars.length s.top.vars.length),some (none,.pointer (some ⟨bx,2,none⟩)),some (none,.int .i64 (a:Int)),some (none,.pointer (some ⟨G.t.b,a,none⟩)),some (none,.int .i64 g),none,none] (λW=>Below W0.heap.size W0 W) 2 fu (λ_ a R _ hd h=>by cases a;cases R;cases hd;exact h) kqk (λ_ _ h=>h) ?_;intro i I U o hF Y z;have y:aN i [(0,.pointer (some ⟨G.r,0,none⟩)),(2,.slice (some ⟨G.t.b,0,none⟩) s.top.vars.length s.top.vars.length),(4,.pointer (some ⟨bx,0,none⟩)),(7,.pointer (some ⟨G.r,0,none⟩)),(8,.pointer (some ⟨bx,8,none⟩)),(9,.int .i64 (arr:Int)),(10,.slice (some ⟨G.t.b,0,none⟩) s.top.vars.length s.top.vars.length),(11,.pointer (some ⟨bx,2,none⟩)),(12,.int .i64 (a:Int)),(13,.pointer (some ⟨G.t.b,a,none⟩)),(14,.int .i64 g)]:=by unfold aN;rw[hF,o];kernel_rfl
 have u:=hqh hF;clear hF;have j:=hqh o;clear o;refine⟨?_,?_⟩
 ·intro Z r;repeat clear‹∀(a:Act)(w:World),Code.wp Tryz.prog _ _ a w->_›
  have V:=dn;have X:=dm;have H:=y.all;repeat(obtain⟨_,H⟩:=H)
  have d0:=aa r (c.o.box.cell 8);have e0:=aa r (c.o.box.cell 2);have i0:=L.o;have j0:=aa r m.o;exact fZ
 clear y;obtain⟨gf,p⟩:∃gf:Nat->Value,i=bI [(7,.pointer (some ⟨G.r,0,none⟩)),(8,gf 8),(9,.int .i64 (arr:Int)),(10,gf 10),(11,gf 11),(12,gf 12),(13,gf 13),(14,.int .i64 g)] I:=⟨λk=>i.tmps.getD k undef,by rw[u.o,j.o];kernel_rfl⟩;clear u;rw[j.o]at p;clear j;simp only[bI,Act.put,qqb]at p;subst p;have P:=hqh (c.o.r.below z);have J:=hqh (c.o.kp.trans (Kp.of_below z));refine ai 8 rfl kqk (λN d=>?_);have K:=hqh (Cs P.o A hl g hi D);clear hi A hl D;go_simp;refine K.o.mono ?_;rintro e w1⟨rfl,T,E,C⟩;go_simp;have Q:=hqh E;have M:=hqh (J.o.trans C);refine d.o _ _ (Or.inr kqk) ?_;clear d;refine ai 9 rfl kqk (λN d=>?_);go_simp;refine d.o _ _ (Or.inr kqk) ?_;clear d;refine au kqk ?_;clear E C;go_wp2_with fail;go_end0;exact⟨rfl,T,Q.o,M.o⟩
def D8{w:World}{ρ:Nat->Option aG}{G:RG}{s:MS}(h:az w ρ G s)(op bin v a b f arr F:Nat)(n:Int)(av:Value)(e0:b<s.top.vars.length)(ha:a<s.top.vars.length){j i:Nat}{l:List Int}(g:G.ars[arr]? =some j)(hl:s.arr[arr]? =some l)(hi:i<l.length)(N:s.v (a:Int)=(i:Int)):Calls Tryz.prog 76 (aI G s op v a b n bin av f arr F) w λe w'=>e=.returned (.tuple #[])/\∃ρ',bH w' ρ' G.r G.n0 G.gp (s.store arr i (s.v b))/\Kp ρ ρ' w w':=by
 unfold aI;obtain⟨u,P⟩:∃x,x=s.v (b:Int):=⟨_,rfl⟩;have c:=hqh (dN h op v a b n bin av f arr F);have U:=hqh (show(a:Int)<(s.top.vars.length:Int)by omega);have r:=hqh (c.o.r.fE (a:=a) ha);rw[N]at r;clear N;have q:=hqh (c.o.r.fE (a:=b) e0);have S:=hqh (show(b:Int)<(s.top.vars.length:Int)by omega);rw[<-P]at q⊢;clear P;go_enter Tryz.func76,Tryz.ntmps76;go_upto_region 1 with fail;obtain⟨W0,D⟩:=eO w op v a b n bin av f arr F;obtain⟨bx,M⟩:∃b,b=w.heap.size:=⟨_,rfl⟩;rw[<-D,<-M]at c⊢;rw[<-D]at r q;clear D M;refine aL [some (none,.pointer (some ⟨G.r,0,none⟩)),some (none,.pointer (some ⟨bx,8,none⟩)),some (none,.int .i64 (arr:Int)),some (none,.slice (some ⟨G.t.b,0,none⟩) s.top.vars.length s.top.vars.length),some (none,.pointer (some ⟨bx,2,none⟩)),some (none,.int .i64 (a:Int)),some (none,.pointer (some ⟨G.t.b,a,none⟩)),some (none,.int .i64 (i:Int)),none,none] (λW=>Below W0.heap.size W0 W) 2 fu (λ_ a a2 _ hd h=>by cases a;cases a2;cases hd;exact h) kqk (λ_ _ h=>h) ?_;intro y R Wd B hF d0 o;have L:aN y [(0,.pointer (some ⟨G.r,0,none⟩)),(2,.slice (some ⟨G.t.b,0,none⟩) s.top.vars.length s.top.vars.length),(4,.pointer (some ⟨bx,0,none⟩)),(7,.pointer (some ⟨G.r,0,none⟩)),(8,.pointer (some ⟨bx,8,none⟩)),(9,.int .i64 (arr:Int)),(10,.slice (some ⟨G.t.b,0,none⟩) s.top.vars.length s.top.vars.length),(11,.pointer (some ⟨bx,2,none⟩)),(12,.int .i64 (a:Int)),(13,.pointer (some ⟨G.t.b,a,none⟩)),(14,.int .i64 (i:Int))]:=by unfold aN;rw[hF,B];kernel_rfl
 have I:=hqh hF;clear hF;have z:=hqh B;clear B;refine⟨?_,?_⟩
 ·intro Z E;repeat clear‹∀(a:Act)(w:World),Code.wp Tryz.prog _ _ a w->_›
  have i0:=dn;have j0:=dm;have Q:=L.all;repeat(obtain⟨_,Q⟩:=Q)
  have o0:=aa E (c.o.box.cell 8);have p0:=aa E (c.o.box.cell 2);have q0:=U.o;have r0:=aa E r.o;exact fZ
 clear L;obtain⟨gf,C⟩:∃gf:Nat->Value,y=bI [(7,.pointer (some ⟨G.r,0,none⟩)),(8,gf 8),(9,.int .i64 (arr:Int)),(10,gf 10),(11,gf 11),(12,gf 12),(13,gf 13),(14,.int .i64 (i:Int))] R:=⟨λk=>y.tmps.getD k undef,by rw[I.o,z.o];kernel_rfl⟩;clear I;rw[z.o]at C;clear z;simp only[bI,Act.put,qqb]at C;subst C;have A:=hqh (c.o.r.below o);have J:=hqh (c.o.kp.trans (Kp.of_below o));refine ai 8 rfl kqk (λX m=>?_);go_simp;refine(ze A.o g hl i hi).mono ?_;rintro e w1⟨rfl,t⟩;go_simp;have d:=hqh (A.o.below t);have K:=hqh (J.o.trans (Kp.of_below t));have p:=o.trans (t.mono o.size);have H:=hqh (c.o.box.below p);refine m.o _ _ (Or.inl p) ?_;clear m;refine ai 9 rfl kqk (λX m=>?_);go_simp;refine m.o _ _ (Or.inl p) ?_;clear m;refine au kqk ?_;have l0:=d.o.Yz g hl hi;have fa:=(d.o.arr arr j l g hl).1.free i;have la:=(d.o.arr arr j l g hl).1.lt;have k3:=H.o.cell 3;have lb:=H.o.lt;have kb:=aa p q.o;have m0:=S.o;have lv:=d.o.kW.lt;have Y:=hqh (d.o.X8 g hl i u);have V:=hqh (K.o.trans (Kp.set (a:=⟨j,i,none⟩) (d.o.arr arr j l g hl).2 (.int .i64 u)));have T:=hqh (show s.store (arr:Int) (i:Int) u={s with arr:=s.arr.set arr (l.set i u)}by simp[MS.store,hl]);clear t p o d0 c r q A J d K g hl;go_wp2_with fail;go_end0;rw[T.o];exact⟨rfl,ρ,Y.o.runs,V.o⟩
def GV{w:World}{ρ:Nat->Option aG}{G:RG}{s:MS}(h:az w ρ G s)(op bin v a b f arr t:Nat)(n:Int)(av:Value)(ha:a<s.top.vars.length){S:Nat}{l:List Int}(A:G.ars[arr]? =some S)(hl:s.arr[arr]? =some l)(hi:s.v (a:Int)<0\/l.length<=s.v (a:Int))(D:s.evs.length<=1000000):Calls Tryz.prog 76 (aI G s op v a b n bin av f arr t) w λe w'=>e=.returned (.tuple #[])/\∃ρ',bH w' ρ' G.r G.n0 G.gp (s.see 4 1)/\Kp ρ ρ' w w':=by
 unfold aI;have c:=hqh (dN h op v a b n bin av f arr t);have L:=hqh (show(a:Int)<(s.top.vars.length:Int)by omega);obtain⟨g,F⟩:∃x,x=s.v (a:Int):=⟨_,rfl⟩;have m:=hqh (c.o.r.fE (a:=a) ha);rw[<-F]at m hi;clear F;go_enter Tryz.func76,Tryz.ntmps76;go_upto_region 1 with fail;obtain⟨W0,q⟩:=eO w op v a b n bin av f arr t;obtain⟨bx,B⟩:∃b,b=w.heap.size:=⟨_,rfl⟩;rw[<-q,<-B]at c⊢;rw[<-q]at m;clear q B;refine aL [some (none,.pointer (some ⟨G.r,0,none⟩)),some (none,.pointer (some ⟨bx,8,none⟩)),some (none,.int .i64 (arr:Int)),some (none,.slice (some ⟨G.t.b,0,none⟩) s.top.vars.length s.top.vars.length),some (none,.pointer (some ⟨bx,2,none⟩)),some (none,.int .i64 (a:Int)),some (none,.pointer (some ⟨G.t.b,a,none⟩)),some (none,.int .i64 g),none,none] (λW=>Below W0.heap.size W0 W) 2 fu (λ_ a R _ hd h=>by cases a;cases R;cases hd;exact h) kqk (λ_ _ h=>h) ?_;intro i I U o hF Y z;have y:aN i [(0,.pointer (some ⟨G.r,0,none⟩)),(2,.slice (some ⟨G.t.b,0,none⟩) s.top.vars.length s.top.vars.length),(4,.pointer (some ⟨bx,0,none⟩)),(7,.pointer (some ⟨G.r,0,none⟩)),(8,.pointer (some ⟨bx,8,none⟩)),(9,.int .i64 (arr:Int)),(10,.slice (some ⟨G.t.b,0,none⟩) s.top.vars.length s.top.vars.length),(11,.pointer (some ⟨bx,2,none⟩)),(12,.int .i64 (a:Int)),(13,.pointer (some ⟨G.t.b,a,none⟩)),(14,.int .i64 g)]:=by unfold aN;rw[hF,o];kernel_rfl
 have u:=hqh hF;clear hF;have j:=hqh o;clear o;refine⟨?_,?_⟩
 ·intro Z r;repeat clear‹∀(a:Act)(w:World),Code.wp Tryz.prog _ _ a w->_›
  have V:=dn;have X:=dm;have H:=y.all;repeat(obtain⟨_,H⟩:=H)
  have d0:=aa r (c.o.box.cell 8);have e0:=aa r (c.o.box.cell 2);have i0:=L.o;have j0:=aa r m.o;exact fZ
 clear y;obtain⟨gf,p⟩:∃gf:Nat->Value,i=bI [(7,.pointer (some ⟨G.r,0,none⟩)),(8,gf 8),(9,.int .i64 (arr:Int)),(10,gf 10),(11,gf 11),(12,gf 12),(13,gf 13),(14,.int .i64 g)] I:=⟨λk=>i.tmps.getD k undef,by rw[u.o,j.o];kernel_rfl⟩;clear u;rw[j.o]at p;clear j;simp only[bI,Act.put,qqb]at p;subst p;have P:=hqh (c.o.r.below z);have J:=hqh (c.o.kp.trans (Kp.of_below z));refine ai 8 rfl kqk (λN d=>?_);have K:=hqh (Cs P.o A hl g hi D);clear hi A hl D;go_simp;refine K.o.mono ?_;rintro e w1⟨rfl,T,E,C⟩;go_simp;have Q:=hqh E;have M:=hqh (J.o.trans C);refine d.o _ _ (Or.inr kqk) ?_;clear d;refine ai 9 rfl kqk (λN d=>?_);go_simp;refine d.o _ _ (Or.inr kqk) ?_;clear d;refine au kqk ?_;clear E C;go_wp2_with fail;go_end0;exact⟨rfl,T,Q.o,M.o⟩
def D9{w:World}{ρ:Nat->Option aG}{G:RG}{s:MS}(h:az w ρ G s)(op bin v a b f arr u:Nat)(n:Int)(av:Value)(ha:a<s.top.vars.length){M i:Nat}{l:List Int}(N:G.ars[arr]? =some M)(hl:s.arr[arr]? =some l)(hi:i<l.length)(D:s.v (a:Int)=(i:Int)):Calls Tryz.prog 77 (aI G s op v a b n bin av f arr u) w λe w'=>e=.returned (.tuple #[])/\∃ρ',bH w' ρ' G.r G.n0 G.gp (s)/\Kp ρ ρ' w w':=by
 unfold aI;have c:=hqh (dN h op v a b n bin av f arr u);have J:=hqh (show(a:Int)<(s.top.vars.length:Int)by omega);have m:=hqh (c.o.r.fE (a:=a) ha);rw[D]at m;clear D;go_enter Tryz.func77,Tryz.ntmps77;go_upto_region 1 with fail;obtain⟨W0,q⟩:=eO w op v a b n bin av f arr u;obtain⟨bx,C⟩:∃b,b=w.heap.size:=⟨_,rfl⟩;rw[<-q,<-C]at c⊢;rw[<-q]at m;clear q C;refine aL [some (none,.pointer (some ⟨G.r,0,none⟩)),some (none,.pointer (some ⟨bx,8,none⟩)),some (none,.int .i64 (arr:Int)),some (none,.slice (some ⟨G.t.b,0,none⟩) s.top.vars.length s.top.vars.length),some (none,.pointer (some ⟨bx,2,none⟩)),some (none,.int .i64 (a:Int)),some (none,.pointer (some ⟨G.t.b,a,none⟩)),some (none,.int .i64 (i:Int)),none] (λW=>Below W0.heap.size W0 W) 1 fu (λ_ a L _ hd h=>by cases a;cases L;cases hd;exact h) kqk (λ_ _ h=>h) ?_;intro g F R o hF U d;have A:aN g [(0,.pointer (some ⟨G.r,0,none⟩)),(2,.slice (some ⟨G.t.b,0,none⟩) s.top.vars.length s.top.vars.length),(4,.pointer (some ⟨bx,0,none⟩)),(6,.pointer (some ⟨G.r,0,none⟩)),(7,.pointer (some ⟨bx,8,none⟩)),(8,.int .i64 (arr:Int)),(9,.slice (some ⟨G.t.b,0,none⟩) s.top.vars.length s.top.vars.length),(10,.pointer (some ⟨bx,2,none⟩)),(11,.int .i64 (a:Int)),(12,.pointer (some ⟨G.t.b,a,none⟩)),(13,.int .i64 (i:Int))]:=by unfold aN;rw[hF,o];kernel_rfl
 have x:=hqh hF;clear hF;have j:=hqh o;clear o;refine⟨?_,?_⟩
 ·intro Z r;repeat clear‹∀(a:Act)(w:World),Code.wp Tryz.prog _ _ a w->_›
  have S:=dn;have T:=dm;have E:=A.all;repeat(obtain⟨_,E⟩:=E)
  have V:=aa r (c.o.box.cell 8);have X:=aa r (c.o.box.cell 2);have Y:=J.o;have d0:=aa r m.o;exact fZ
 clear A;obtain⟨gf,p⟩:∃gf:Nat->Value,g=bI [(6,.pointer (some ⟨G.r,0,none⟩)),(7,gf 7),(8,.int .i64 (arr:Int)),(9,gf 9),(10,gf 10),(11,gf 11),(12,gf 12),(13,.int .i64 (i:Int))] F:=⟨λk=>g.tmps.getD k undef,by rw[x.o,j.o];kernel_rfl⟩;clear x;rw[j.o]at p;clear j;simp only[bI,Act.put,qqb]at p;subst p;have y:=hqh (c.o.r.below d);have H:=hqh (c.o.kp.trans (Kp.of_below d));refine ai 8 rfl kqk (λQ z=>?_);go_simp;refine(ze y.o N hl i hi).mono ?_;rintro e w1⟨rfl,t⟩;go_simp;have K:=hqh (y.o.below t);have I:=hqh (H.o.trans (Kp.of_below t));have B:=d.trans (t.mono d.size);have P:=hqh (c.o.box.below B);refine z.o _ _ (Or.inl B) ?_;clear z;refine au kqk ?_;go_end0;exact⟨rfl,ρ,K.o.runs,I.o⟩
def F9{w:World}{ρ:Nat->Option aG}{G:RG}{s:MS}(h:az w ρ G s)(op bin v a b f arr r:Nat)(n:Int)(av:Value)(ha:a<s.top.vars.length){R:Nat}{l:List Int}(A:G.ars[arr]? =some R)(hl:s.arr[arr]? =some l)(hi:s.v (a:Int)<0\/l.length<=s.v (a:Int))(D:s.evs.length<=1000000):Calls Tryz.prog 77 (aI G s op v a b n bin av f arr r) w λe w'=>e=.returned (.tuple #[])/\∃ρ',bH w' ρ' G.r G.n0 G.gp (s.see 4 1)/\Kp ρ ρ' w w':=by
 unfold aI;have c:=hqh (dN h op v a b n bin av f arr r);have L:=hqh (show(a:Int)<(s.top.vars.length:Int)by omega);obtain⟨d,F⟩:∃x,x=s.v (a:Int):=⟨_,rfl⟩;have j:=hqh (c.o.r.fE (a:=a) ha);rw[<-F]at j hi;clear F;go_enter Tryz.func77,Tryz.ntmps77;go_upto_region 1 with fail;obtain⟨W0,p⟩:=eO w op v a b n bin av f arr r;obtain⟨bx,B⟩:∃b,b=w.heap.size:=⟨_,rfl⟩;rw[<-p,<-B]at c⊢;rw[<-p]at j;clear p B;refine aL [some (none,.pointer (some ⟨G.r,0,none⟩)),some (none,.pointer (some ⟨bx,8,none⟩)),some (none,.int .i64 (arr:Int)),some (none,.slice (some ⟨G.t.b,0,none⟩) s.top.vars.length s.top.vars.length),some (none,.pointer (some ⟨bx,2,none⟩)),some (none,.int .i64 (a:Int)),some (none,.pointer (some ⟨G.t.b,a,none⟩)),some (none,.int .i64 d),none] (λW=>Below W0.heap.size W0 W) 1 fu (λ_ a Q _ hd h=>by cases a;cases Q;cases hd;exact h) kqk (λ_ _ h=>h) ?_;intro g I U m hF Y z;have y:aN g [(0,.pointer (some ⟨G.r,0,none⟩)),(2,.slice (some ⟨G.t.b,0,none⟩) s.top.vars.length s.top.vars.length),(4,.pointer (some ⟨bx,0,none⟩)),(6,.pointer (some ⟨G.r,0,none⟩)),(7,.pointer (some ⟨bx,8,none⟩)),(8,.int .i64 (arr:Int)),(9,.slice (some ⟨G.t.b,0,none⟩) s.top.vars.length s.top.vars.length),(10,.pointer (some ⟨bx,2,none⟩)),(11,.int .i64 (a:Int)),(12,.pointer (some ⟨G.t.b,a,none⟩)),(13,.int .i64 d)]:=by unfold aN;rw[hF,m];kernel_rfl
 have t:=hqh hF;clear hF;have i:=hqh m;clear m;refine⟨?_,?_⟩
 ·intro Z q;repeat clear‹∀(a:Act)(w:World),Code.wp Tryz.prog _ _ a w->_›
  have V:=dn;have X:=dm;have H:=y.all;repeat(obtain⟨_,H⟩:=H)
  have d0:=aa q (c.o.box.cell 8);have e0:=aa q (c.o.box.cell 2);have i0:=L.o;have j0:=aa q j.o;exact fZ
 clear y;obtain⟨gf,o⟩:∃gf:Nat->Value,g=bI [(6,.pointer (some ⟨G.r,0,none⟩)),(7,gf 7),(8,.int .i64 (arr:Int)),(9,gf 9),(10,gf 10),(11,gf 11),(12,gf 12),(13,.int .i64 d)] I:=⟨λk=>g.tmps.getD k undef,by rw[t.o,i.o];kernel_rfl⟩;clear t;rw[i.o]at o;clear i;simp only[bI,Act.put,qqb]at o;subst o;have N:=hqh (c.o.r.below z);have J:=hqh (c.o.kp.trans (Kp.of_below z));refine ai 8 rfl kqk (λT u=>?_);have K:=hqh (Cs N.o A hl d hi D);clear hi A hl D;go_simp;refine K.o.mono ?_;rintro e w1⟨rfl,S,E,C⟩;go_simp;have P:=hqh E;have M:=hqh (J.o.trans C);refine u.o _ _ (Or.inr kqk) ?_;clear u;refine au kqk ?_;clear E C;go_end0;exact⟨rfl,S,P.o,M.o⟩
structure vR(w:World)(A:Option Addr)(n z:Nat)(xs:List Value):Prop where
 len:xs.length=n*z
 nil:A=none->n=0
 at_:∀ad:Addr,A=some ad->∀j u,xs[j]? =some u->w.cell? (ad.add j)=some u
 one:∀u∈xs,u.oneCell'=true
def PQ:List (Nat×Nat×Nat×Nat×Nat×Value):=[(68,2,1,40,8,.int .i64 0),(70,52,2,46,16,.agg #[.int .u8 0,.int .i64 0]),(87,3,1,22,8,.int .i64 0),(120,67,4,23,56,.agg #[.string ⟨#[]⟩,.int .i64 0,.int .i64 0,.slice none 0 0]),(121,71,10,65,96,.agg #[.int .u8 0,.int .i64 0,.int .i64 0,.int .i64 0,.int .i64 0,.int .u8 0,.slice none 0 0,.int .i64 0,.int .i64 0,.int .i64 0])]
def Wv:(Tryz.prog.info? 71).map (λi=>(i.zero,i.size,i.bytes))=some (some (.agg #[.int .u8 0,.int .i64 0,.int .i64 0,.int .i64 0,.int .i64 0,.int .u8 0,.slice none 0 0,.int .i64 0,.int .i64 0,.int .i64 0]),10,96):=kqk
def nI(i:Nat){F e z y d:Nat}{Z:Value}(hm:PQ[i]? =some (F,e,z,y,d,Z))(A:Option Addr)(n c:Nat)(xs:List Value)(w:World)(h:vR w A n z xs)(hn:n<=1000000):Calls Tryz.prog F #[.slice A n c] w λr w'=>∃b,r=.returned b/\w'.ownsRow w.heap.size e z b n xs/\Below w.heap.size w w':=by
 have hm:=qqr hm;simp only[PQ,qzh,Prod.mk.injEq,qjh,jzq]at hm;have f:(Tryz.prog.info? e).map (λi=>(i.zero,i.size,i.bytes))=some (some Z,z,d):=by rcases hm with h|h|h|h|h<;>(obtain⟨rfl,rfl,rfl,rfl,rfl,rfl⟩:=h;kernel_rfl)
 have E:∀W,(binOp .eql y (.slice none 0 c) (.slice none 0 0)).run Tryz.prog W=.ok (.bool true) W:=by rcases hm with h|h|h|h|h<;>(obtain⟨rfl,rfl,rfl,rfl,rfl,rfl⟩:=h;exact λ_=>by kernel_rfl)
 have p:∀a W,(binOp .eql y (.slice (some a) n c) (.slice none 0 0)).run Tryz.prog W=.ok (.bool false) W:=by rcases hm with h|h|h|h|h<;>(obtain⟨rfl,rfl,rfl,rfl,rfl,rfl⟩:=h;exact λ_ _=>by kernel_rfl)
 obtain⟨D,t,x,B,C⟩:=jxo f;have H:=hqh h;clear h f;rcases hm with h|h|h|h|h<;>(
  obtain⟨rfl,rfl,rfl,rfl,rfl,rfl⟩:=h;rcases A with _|ad
  ·have h0:=H.o.nil rfl;subst h0;have o:=hqh (show xs=[]from jzd (by rw[H.o.len,jzr]));first|go_enter Tryz.func68,Tryz.ntmps68|go_enter Tryz.func70,Tryz.ntmps70|go_enter Tryz.func87,Tryz.ntmps87|go_enter Tryz.func120,Tryz.ntmps120|go_enter Tryz.func121,Tryz.ntmps121
   go_wp2_with fail;go_ret;exact⟨_,rfl,by rw[o.o];exact⟨rfl,Or.inl ⟨rfl,rfl⟩⟩,qjk _ _⟩
  ·have I:=p ad;first|go_enter Tryz.func68,Tryz.ntmps68|go_enter Tryz.func70,Tryz.ntmps70|go_enter Tryz.func87,Tryz.ntmps87|go_enter Tryz.func120,Tryz.ntmps120|go_enter Tryz.func121,Tryz.ntmps121
   go_wp2_with(at_builtin;refine jxx _ rfl _ _ _ rfl w.heap.size _ D _ _ _ (by first|exact Tryz.underlying40|exact Tryz.underlying46|exact Tryz.underlying22|exact Tryz.underlying23|exact Tryz.underlying65) t x B C rfl (by decide) _ 0 [] rfl (World.ownsRow_made w #[] 0 (qqf _) (by decide) rfl) ad n c xs rfl H.o.len (λj u hu=>?_) H.o.one (by unfold maxLen;omega) oqo (by simp) ?_);·have:=H.o.at_ ad rfl j u hu;rw[World.cell?_alloc_lt _ _ _ (World.block_lt_of_cell? w _ this)];exact this
   intro b w1 k g _;have m:=hqh k;have l:=hqh g;clear k g;go_wp2_with fail;go_ret;refine⟨b,rfl,by simpa using m.o,((qjk w.heap.size w).alloc (qqf _) _).grown l.o (by simp) (λq e=>?_)⟩;have:w.heap.size=q:=by simpa [Value.ownBlock]using e
   omega)
def oU{α:Type}(C:α->List Value)(z:Nat)(hz:∀x,(C x).length=z)(l:List α):(l.flatMap C).length=l.length*z:=by induction l with|nil=>simp|cons a l ih=>rw[jqe,qzl,ih,hz,qzv,jxe];omega
def qB{α:Type}(C:α->List Value)(z:Nat)(y:0<z)(hz:∀x,(C x).length=z){R:World->Nat->Nat->α->Prop}{w:World}{A:Option Addr}{n c:Nat}{l:List α}(h:iX z R w (.slice A n c) l)(hn:n=l.length)(k:∀b o x,R w b o x->∀q,q<z->w.cell? ⟨b,o+q,none⟩=(C x)[q]?)(one:∀x∈l,∀u∈C x,u.oneCell'=true):vR w A n z (l.flatMap C):=by
 obtain⟨B,c2,p,_,h2⟩:=h;injection p with r _ _;subst r;refine⟨by rw[oU C z hz,hn],λe=>?_,λad e j u hu=>?_,λu hu=>?_⟩
 ·rcases h2 with h2|⟨b2,g,d,_⟩;·rw[hn,h2];rfl
  ·rw[e]at d;cases d
 ·have hj:=(qqi.1 hu).1;rw[oU C z hz]at hj;rcases h2 with h2|⟨b2,g,d,h2⟩;·rw[h2]at hj;simp at hj
  ·rw[e]at d;injection d with d;subst d;obtain⟨i,q,m,rfl⟩:∃i q,q<z/\j=i*z+q:=⟨j/z,j%z,Nat.mod_lt _ y,by rw[Nat.mul_comm];exact(Nat.div_add_mod _ _).symm⟩;have hi:i<l.length:=by apply Nat.lt_of_mul_lt_mul_right (a:=z);omega
   have f:=qqh hi;rw[iD C z hz l i q _ f m]at hu;have t:(⟨b2,g,none⟩:Addr).add (i*z+q)=⟨b2,g+(i*z+q),none⟩:=by unfold Addr.add;split<;>simp_all
   rw[t,<-jqu,k b2 _ _ (h2 i _ f) q m,hu]
 ·obtain⟨x,f,hu⟩:=List.mem_flatMap.1 hu;exact one x f u hu
def mH{α:Type}(C:α->List Value)(z:Nat)(hz:∀x,(C x).length=z){R:World->Nat->Nat->α->Prop}{w:World}{base e n:Nat}{v:Value}{l:List α}(h:w.ownsRow base e z v n (l.flatMap C))(hn:n=l.length)(k:∀b o x,x∈l->(∀q,q<z->w.cell? ⟨b,o+q,none⟩=(C x)[q]?)->R w b o x):iX z R w v l:=by
 subst hn;rcases h.2 with⟨rfl,h0⟩|⟨g,cap,f,rfl,_,j,c,_,hs,ht⟩;·exact⟨none,0,by rw[h0],by omega,Or.inl (jzd h0)⟩
 ·refine⟨_,cap,rfl,c,Or.inr ⟨g,0,rfl,λi x hi=>k _ _ _ (qqr hi) λq d=>?_⟩⟩;have a:=(qqi.1 hi).1;have:=h.cellAt (i*z+q) (by have h1:(i+1)*z<=l.length*z:=jqo _ a;rw[jxe]at h1;omega);rw[qja,this];exact iD C z hz l i q x hi d
def aY(y:InV):List Value:=[.int .u8 y.1.op,.int .i64 y.1.v,.int .i64 y.1.a,.int .i64 y.1.b,.int .i64 y.1.n,.int .u8 y.1.bin,y.2,.int .i64 y.1.f,.int .i64 y.1.arr,.int .i64 y.1.to]
def lZ(x:FnG):List Value:=[.string ⟨x.fn.name.toArray⟩,.int .i64 x.fn.params,.int .i64 x.fn.vars,x.cv]
def bQ(k:Int):List Value:=[.int .i64 k]
structure tF(w:World)(B:Nat)(y:InV):Prop where row:w.ownsRow B 3 1 y.2 y.1.args.length (y.1.args.flatMap bQ)
structure jQ(w:World)(B:Nat)(x:FnG):Prop where
 row:w.ownsRow B 71 10 x.cv x.l.length (x.l.flatMap aY)eq:x.l.map (·.1)=x.fn.code
 args:∀y∈x.l,tF w B y
def gZ{w:World}{base base' e size n:Nat}{v:Value}{xs:List Value}(h:w.ownsRow base e size v n xs)(b:base'<=base):w.ownsRow base' e size v n xs:=by
 refine⟨h.1,?_⟩;rcases h.2 with hn|⟨g,cap,a,hv,c,r⟩;·exact Or.inl hn
 ·exact Or.inr ⟨g,cap,a,hv,qzi b c,r⟩
def uR{w:World}{base e size n:Nat}{v:Value}{xs:List Value}(h:w.ownsRow base e size v n xs){k:Nat}(hk:v.ownBlock=some k):∃a,w.heap[k]? =some (.cells a e (0,0)):=by
 rcases h.2 with⟨rfl,_⟩|⟨g,cap,a,rfl,_,b,_⟩;·cases hk
 ·simp only[Value.ownBlock,qzk]at hk;subst hk;exact⟨a,b⟩
def fM{w:World}{base e size n:Nat}{v:Value}{xs:List Value}(h:w.ownsRow base e size v n xs){b:Nat}{cs:Array Value}{t:Nat}{a:Nat×Nat}(d:w.heap[b]? =some (.cells cs t a))(ht:t≠e)(j:Nat)(u:Value):(w.setCell ⟨b,j,none⟩ u).ownsRow base e size v n xs:=bW h λk hk=>jqr _ _ _ _ (λc=>by obtain⟨f,hc⟩:=uR h hk;have c:k=b:=c;subst c;rw[d]at hc;injection hc with hc;injection hc with _ hc;exact ht hc)
def tF.below{w w':World}{B:Nat}{y:InV}(h:tF w B y)(a:Below w.heap.size w w'):tF w' B y:=⟨uF h.row a⟩
def jQ.below{w w':World}{B:Nat}{x:FnG}(h:jQ w B x)(a:Below w.heap.size w w'):jQ w' B x:=⟨uF h.row a,h.eq,λy b=>(h.args y b).below a⟩
def jQ.set{w:World}{B:Nat}{x:FnG}(h:jQ w B x){b:Nat}{cs:Array Value}{t:Nat}{c:Nat×Nat}(a:w.heap[b]? =some (.cells cs t c))(h1:t≠71)(h2:t≠3)(j:Nat)(u:Value):jQ (w.setCell ⟨b,j,none⟩ u) B x:=⟨fM h.row a h1 j u,h.eq,λy d=>⟨fM (h.args y d).row a h2 j u⟩⟩
def rG{w:World}{B n:Nat}{v:Value}{l:List Int}(h:w.ownsRow B 3 1 v n (l.flatMap bQ))(hn:n=l.length):aD w v l:=mH bQ 1 (λ_=>rfl) h hn λb o x _ a=>a 0 oqo
def Yo{w:World}{B:Nat}{p:PrW}{av fv:Value}{l:List FnG}(ha:w.ownsRow B 3 1 av p.arrays.length (p.arrays.flatMap bQ))(hf:w.ownsRow B 67 4 fv l.length (l.flatMap lZ))(hc:∀x∈l,jQ w B x)(he:l.map (·.fn)=p.fns): ∀w':World,(∀k,B<=k->k<w.heap.size->w'.heap[k]? =w.heap[k]?)->PrR w' ⟨p,av,fv,l⟩:=λw' hk=>by have keep:∀{e size n:Nat}{v:Value}{xs:List Value},w.ownsRow B e size v n xs->w'.ownsRow B e size v n xs:=λh=>bW h λk e=>hk k (h.lt k e).1 (h.lt k e).2;refine⟨rG (keep ha) rfl,mH lZ 4 (λ_=>rfl) (keep hf) rfl λb o x c a=>?_,he⟩;have c:=hc x c;refine⟨a 0 oqo,a 1 oqo,a 2 oqo,a 3 oqo,mH aY 10 (λ_=>rfl) (keep c.row) rfl λb o y d a=>?_,c.eq⟩;exact⟨a 0 oqo,a 1 oqo,a 2 oqo,a 3 oqo,a 4 oqo,a 5 oqo,a 6 oqo,a 7 oqo,a 8 oqo,a 9 oqo,rG (keep (c.args y d).row) rfl⟩
def mO{w:World}{A:Option Addr}{n c:Nat}{l:List Int}(h:aD w (.slice A n c) l)(hn:n=l.length):vR w A n 1 (l.flatMap bQ):=qB bQ 1 (by decide) (λ_=>rfl) h hn (λb o x d q a=>match q,a with|0,_=>d) (λx _ u hu=>by simp[bQ]at hu;subst hu;rfl)
def DZ{w:World}{A:Option Addr}{n c:Nat}{l:List InV}(h:dS w (.slice A n c) l)(hn:n=l.length):vR w A n 10 (l.flatMap aY):=qB aY 10 (by decide) (λ_=>rfl) h hn (λb o x a q g=>by match q,g with|0,_=>exact a.c0|1,_=>exact a.c1|2,_=>exact a.c2|3,_=>exact a.c3|4,_=>exact a.c4|5,_=>exact a.c5|6,_=>exact a.c6|7,_=>exact a.c7|8,_=>exact a.c8|9,_=>exact a.c9) (λx a u hu=>by
  have ha:∃A c,x.2=.slice A x.1.args.length c:=by
   obtain⟨j,c2,_,_,h2⟩:=h;obtain⟨i,hi⟩:=jqs.1 a;rcases h2 with h2|⟨b,o,_,h2⟩;·rw[h2]at hi;simp at hi
   ·obtain⟨f,c3,d,_⟩:=(h2 i x hi).args;exact⟨f,c3,d⟩
  obtain⟨f,c3,d⟩:=ha;simp only[aY,d,qzh,qjh,jzq]at hu;rcases hu with rfl|rfl|rfl|rfl|rfl|rfl|rfl|rfl|rfl|rfl<;>rfl)
def Ol{w:World}{A:Option Addr}{n c:Nat}{l:List FnG}(h:pJ w (.slice A n c) l)(hn:n=l.length):vR w A n 4 (l.flatMap lZ):=qB lZ 4 (by decide) (λ_=>rfl) h hn (λb o x a q g=>by match q,g with|0,_=>exact a.c0|1,_=>exact a.c1|2,_=>exact a.c2|3,_=>exact a.c3) (λx a u hu=>by
  have ha:∃A n c,x.cv=.slice A n c:=by
   obtain⟨j,c2,_,_,h2⟩:=h;obtain⟨i,hi⟩:=jqs.1 a;rcases h2 with h2|⟨b,o,_,h2⟩;·rw[h2]at hi;simp at hi
   ·obtain⟨f,c3,d,_⟩:=(h2 i x hi).code;exact⟨f,_,c3,d⟩
  obtain⟨f,k,c3,d⟩:=ha;simp only[lZ,d,qzh,qjh,jzq]at hu;rcases hu with rfl|rfl|rfl|rfl<;>rfl)
section
variable {w w':World}{base e size n:Nat}{v:Value}{xs:List Value}{O:Nat->Prop}
def di(h:w.ownsRow base e size v n xs)(k:KO O w w')(hn:∀b,v.ownBlock=some b->¬O b):w'.ownsRow base e size v n xs:=bW h λb a=>k.block b (h.lt b a).2 (hn b a)
def aQ{b:Nat}(h:w.ownsRow base e size v n xs)(c:v.ownBlock=some b):∃a,w.heap[b]? =some (.cells a e (0,0)):=by
 rcases h.2 with⟨rfl,_⟩|⟨g,cap,a,rfl,_,d,_⟩;·cases c
 ·simp only[Value.ownBlock,qzk]at c;subst c;exact⟨a,d⟩
end
def cZ.apart{w:World}{g b0 b1 b2 n:Nat}{B:af}(h:cZ w g b0 b1 b2 n B){b e:Nat}{cur:Array Value}(a:w.heap[b]? =some (.cells cur e (0,0)))(he:e≠194):b≠g/\b≠b0/\b≠b1/\b≠b2:=by
 have i:=h.blk;unfold Blk at i;have key:∀{κ:Type}{k t:TypeId}{good:κ->Prop}{kl:κ->Lit}{d m:Nat}{f:κ->Option Int},dJ k good kl t w d m f->b≠d:=λhm c=>by obtain⟨D,⟨es,ck,h1,_⟩,_⟩:=hm;rw[<-c,a]at h1;cases h1
 refine⟨λc=>?_,key h.num,key h.cp,key h.dD⟩;rw[c,i]at a;injection a with a;injection a with _ j;exact he j.symm
