/- Joint text: OBc, OBd, OShA. By an AI agent. -/
import Derived.Test.YtgdibfnpkcdiiaaGreatDoorRzy
import Derived.Test.YtgdibfnpkcdiiaaGreatDoorR20
set_option linter.all false
set_option maxRecDepth 100000
set_option maxHeartbeats 64000000
namespace Go.Proofs.YtgdibfnpkcdiiaaGreatDoor
open Go.RowKit
theorem nI(j:Value)(v a b g f c t:Int)(A:Option Addr)(d:Nat)(n:Int)(k:Bool)(w:World):Calls Tryz.prog 184 #[j,.agg #[.int .u8 3,.int .i64 v,.int .i64 a,.int .i64 b,.int .i64 g,.int .u8 13,.slice A 0 d,.int .i64 f,.int .i64 c,.int .i64 t],.int .i64 (n),.bool k,.int .i64 (0),.bool false] w λe w'=>(∃i,e=.returned (ax ⟨⟨3,v,a,b,g,13,[],f,c,t⟩,i⟩)/\ay w' i [])/\Below w.heap.size w w':=by go_enter Tryz.func184,Tryz.ntmps184;go_wp2_with fail;have h:=bx4 w 3 v a b g 13 A 0 d f c t 3 v a b g 13 A 0 d f c t 2 v a 0 0 0 none 0 0 0 0 0 2 v b 0 0 0 none 0 0 0 0 0;refine bg (w.heap.size+1) h.1 ?_;exact⟨⟨_,rfl,⟨A,d,rfl,qqy _,Or.inl rfl⟩⟩,h.2⟩
theorem nu(g:Value)(v a b p f j t:Int)(A:Option Addr)(k:Nat)(n:Int)(o:Bool)(w:World):Calls Tryz.prog 184 #[g,.agg #[.int .u8 3,.int .i64 v,.int .i64 a,.int .i64 b,.int .i64 p,.int .u8 13,.slice A 0 k,.int .i64 f,.int .i64 j,.int .i64 t],.int .i64 (n),.bool o,.int .i64 (0),.bool true] w λe w'=>(∃d,e=.returned (ax ⟨aJ (aQ v a),d⟩)/\ay w' d [])/\Below w.heap.size w w':=by have i:=hqh (λW=>eu g v a W);go_enter Tryz.func184,Tryz.ntmps184;go_wp2_with fail;refine(i.o _).mono ?_;rintro e w1⟨rfl,h⟩;obtain⟨c,l⟩:=jb h;clear h;obtain⟨k0,k1,k2,k3,k4,k5,k6,k7,k8,k9,f0,f1,f2,f3,f4,f5,f6,f7,f8,f9,lb⟩:=c.z10;generalize m:aJ (aQ v a)=y;obtain⟨z,D,q,b1,x,s,r,u,B,C⟩:=y;unfold ax;simp only[];go_wp2_with fail;refine bg (w.heap.size+1) (Blk.ja c _ _ _ _ _ _ _ _ _ _) ?_;exact⟨⟨_,(by rw[m];rfl),bZ _⟩,dn l (jzm _) _ _ _ _ _ _ _ _ _ _⟩
theorem iw(j:Value)(v a b g f c t:Int)(A:Option Addr)(d:Nat)(n:Int)(k:Bool)(m:Int)(l:(m==0)=false)(w:World):Calls Tryz.prog 184 #[j,.agg #[.int .u8 3,.int .i64 v,.int .i64 a,.int .i64 b,.int .i64 g,.int .u8 13,.slice A 0 d,.int .i64 f,.int .i64 c,.int .i64 t],.int .i64 (n),.bool k,.int .i64 (m),.bool true] w λe w'=>(∃i,e=.returned (ax ⟨⟨3,v,a,b,g,13,[],f,c,t⟩,i⟩)/\ay w' i [])/\Below w.heap.size w w':=by go_enter Tryz.func184,Tryz.ntmps184;go_wp2_with fail;have h:=bx4 w 3 v a b g 13 A 0 d f c t 3 v a b g 13 A 0 d f c t 2 v a 0 0 0 none 0 0 0 0 0 2 v b 0 0 0 none 0 0 0 0 0;refine bg (w.heap.size+1) h.1 ?_;exact⟨⟨_,rfl,⟨A,d,rfl,qqy _,Or.inl rfl⟩⟩,h.2⟩
theorem oJ(g:Value)(v a b p f k t:Int)(A:Option Addr)(l:Nat)(m:Int)(j:Bool)(w:World):Calls Tryz.prog 184 #[g,.agg #[.int .u8 3,.int .i64 v,.int .i64 a,.int .i64 b,.int .i64 p,.int .u8 3,.slice A 0 l,.int .i64 f,.int .i64 k,.int .i64 t],.int .i64 (1),.bool true,.int .i64 (m),.bool j] w λe w'=>(∃d,e=.returned (ax ⟨aJ (aQ v b),d⟩)/\ay w' d [])/\Below w.heap.size w w':=by have i:=hqh (λW=>eu g v b W);go_enter Tryz.func184,Tryz.ntmps184;go_wp2_with fail;refine(i.o _).mono ?_;rintro e w1⟨rfl,h⟩;obtain⟨c,n⟩:=jb h;clear h;obtain⟨k0,k1,k2,k3,k4,k5,k6,k7,k8,k9,f0,f1,f2,f3,f4,f5,f6,f7,f8,f9,lb⟩:=c.z10;generalize o:aJ (aQ v b)=y;obtain⟨z,D,q,b1,x,s,r,u,B,C⟩:=y;unfold ax;simp only[];go_wp2_with fail;refine bg (w.heap.size+1) (Blk.ja c _ _ _ _ _ _ _ _ _ _) ?_;exact⟨⟨_,(by rw[o];rfl),bZ _⟩,dn n (jzm _) _ _ _ _ _ _ _ _ _ _⟩
theorem Ja(g:Value)(v a b n f j t:Int)(A:Option Addr)(k:Nat)(w:World):Calls Tryz.prog 184 #[g,.agg #[.int .u8 3,.int .i64 v,.int .i64 a,.int .i64 b,.int .i64 n,.int .u8 3,.slice A 0 k,.int .i64 f,.int .i64 j,.int .i64 t],.int .i64 (0),.bool false,.int .i64 (1),.bool true] w λe w'=>(∃d,e=.returned (ax ⟨aJ (aQ v a),d⟩)/\ay w' d [])/\Below w.heap.size w w':=by have i:=hqh (λW=>eu g v a W);go_enter Tryz.func184,Tryz.ntmps184;go_wp2_with fail;refine(i.o _).mono ?_;rintro e w1⟨rfl,h⟩;obtain⟨c,l⟩:=jb h;clear h;obtain⟨k0,k1,k2,k3,k4,k5,k6,k7,k8,k9,f0,f1,f2,f3,f4,f5,f6,f7,f8,f9,lb⟩:=c.z10;generalize m:aJ (aQ v a)=y;obtain⟨u,B,o,b1,s,q,p,r,x,z⟩:=y;unfold ax;simp only[];go_wp2_with fail;refine bg (w.heap.size+1) (Blk.ja c _ _ _ _ _ _ _ _ _ _) ?_;exact⟨⟨_,(by rw[m];rfl),bZ _⟩,dn l (jzm _) _ _ _ _ _ _ _ _ _ _⟩
theorem Jy(g:Value)(v a b n f j t:Int)(A:Option Addr)(k:Nat)(w:World):Calls Tryz.prog 184 #[g,.agg #[.int .u8 3,.int .i64 v,.int .i64 a,.int .i64 b,.int .i64 n,.int .u8 3,.slice A 0 k,.int .i64 f,.int .i64 j,.int .i64 t],.int .i64 (0),.bool true,.int .i64 (1),.bool true] w λe w'=>(∃d,e=.returned (ax ⟨aJ (aQ v a),d⟩)/\ay w' d [])/\Below w.heap.size w w':=by have i:=hqh (λW=>eu g v a W);go_enter Tryz.func184,Tryz.ntmps184;go_wp2_with fail;refine(i.o _).mono ?_;rintro e w1⟨rfl,h⟩;obtain⟨c,l⟩:=jb h;clear h;obtain⟨k0,k1,k2,k3,k4,k5,k6,k7,k8,k9,f0,f1,f2,f3,f4,f5,f6,f7,f8,f9,lb⟩:=c.z10;generalize m:aJ (aQ v a)=y;obtain⟨u,B,o,b1,s,q,p,r,x,z⟩:=y;unfold ax;simp only[];go_wp2_with fail;refine bg (w.heap.size+1) (Blk.ja c _ _ _ _ _ _ _ _ _ _) ?_;exact⟨⟨_,(by rw[m];rfl),bZ _⟩,dn l (jzm _) _ _ _ _ _ _ _ _ _ _⟩
theorem JH(g:Value)(v a b p f j t:Int)(A:Option Addr)(k:Nat)(n:Int)(x:(n==0)=false)(o:(n==1)=false)(w:World):Calls Tryz.prog 184 #[g,.agg #[.int .u8 3,.int .i64 v,.int .i64 a,.int .i64 b,.int .i64 p,.int .u8 3,.slice A 0 k,.int .i64 f,.int .i64 j,.int .i64 t],.int .i64 (n),.bool true,.int .i64 (1),.bool true] w λe w'=>(∃d,e=.returned (ax ⟨aJ (aQ v a),d⟩)/\ay w' d [])/\Below w.heap.size w w':=by have i:=hqh (λW=>eu g v a W);go_enter Tryz.func184,Tryz.ntmps184;go_wp2_with fail;refine(i.o _).mono ?_;rintro e w1⟨rfl,h⟩;obtain⟨c,l⟩:=jb h;clear h;obtain⟨k0,k1,k2,k3,k4,k5,k6,k7,k8,k9,f0,f1,f2,f3,f4,f5,f6,f7,f8,f9,lb⟩:=c.z10;generalize m:aJ (aQ v a)=y;obtain⟨z,D,q,b1,o,s,r,u,B,C⟩:=y;unfold ax;simp only[];go_wp2_with fail;refine bg (w.heap.size+1) (Blk.ja c _ _ _ _ _ _ _ _ _ _) ?_;exact⟨⟨_,(by rw[m];rfl),bZ _⟩,dn l (jzm _) _ _ _ _ _ _ _ _ _ _⟩
theorem KE(j:Value)(v a b i f d t:Int)(A:Option Addr)(h:Nat)(w:World):Calls Tryz.prog 184 #[j,.agg #[.int .u8 3,.int .i64 v,.int .i64 a,.int .i64 b,.int .i64 i,.int .u8 3,.slice A 0 h,.int .i64 f,.int .i64 d,.int .i64 t],.int .i64 (0),.bool true,.int .i64 (0),.bool false] w λe w'=>(∃g,e=.returned (ax ⟨fC v 0,g⟩)/\ay w' g [])/\Below w.heap.size w w':=by go_enter Tryz.func184,Tryz.ntmps184;go_wp2_with fail;have c:=bx4 w 3 v a b i 3 A 0 h f d t 1 v 0 0 0 0 none 0 0 0 0 0 2 v a 0 0 0 none 0 0 0 0 0 2 v b 0 0 0 none 0 0 0 0 0;refine bg (w.heap.size+1) c.1 ?_;exact⟨⟨_,rfl,bZ _⟩,c.2⟩
theorem IE(j:Value)(v a b i f d t:Int)(A:Option Addr)(h:Nat)(w:World):Calls Tryz.prog 184 #[j,.agg #[.int .u8 3,.int .i64 v,.int .i64 a,.int .i64 b,.int .i64 i,.int .u8 3,.slice A 0 h,.int .i64 f,.int .i64 d,.int .i64 t],.int .i64 (0),.bool true,.int .i64 (0),.bool true] w λe w'=>(∃g,e=.returned (ax ⟨fC v 0,g⟩)/\ay w' g [])/\Below w.heap.size w w':=by go_enter Tryz.func184,Tryz.ntmps184;go_wp2_with fail;have c:=bx4 w 3 v a b i 3 A 0 h f d t 1 v 0 0 0 0 none 0 0 0 0 0 2 v a 0 0 0 none 0 0 0 0 0 2 v b 0 0 0 none 0 0 0 0 0;refine bg (w.heap.size+1) c.1 ?_;exact⟨⟨_,rfl,bZ _⟩,c.2⟩
theorem Jf(j:Value)(v a b i f d t:Int)(A:Option Addr)(h:Nat)(m:Int)(k:(m==0)=false)(l:(m==1)=false)(w:World):Calls Tryz.prog 184 #[j,.agg #[.int .u8 3,.int .i64 v,.int .i64 a,.int .i64 b,.int .i64 i,.int .u8 3,.slice A 0 h,.int .i64 f,.int .i64 d,.int .i64 t],.int .i64 (0),.bool true,.int .i64 (m),.bool true] w λe w'=>(∃g,e=.returned (ax ⟨fC v 0,g⟩)/\ay w' g [])/\Below w.heap.size w w':=by go_enter Tryz.func184,Tryz.ntmps184;go_wp2_with fail;have c:=bx4 w 3 v a b i 3 A 0 h f d t 1 v 0 0 0 0 none 0 0 0 0 0 2 v a 0 0 0 none 0 0 0 0 0 2 v b 0 0 0 none 0 0 0 0 0;refine bg (w.heap.size+1) c.1 ?_;exact⟨⟨_,rfl,bZ _⟩,c.2⟩
theorem Jr(j:Value)(v a b g f c t:Int)(A:Option Addr)(d:Nat)(w:World):Calls Tryz.prog 184 #[j,.agg #[.int .u8 3,.int .i64 v,.int .i64 a,.int .i64 b,.int .i64 g,.int .u8 3,.slice A 0 d,.int .i64 f,.int .i64 c,.int .i64 t],.int .i64 (0),.bool false,.int .i64 (0),.bool false] w λe w'=>(∃i,e=.returned (ax ⟨⟨3,v,a,b,g,3,[],f,c,t⟩,i⟩)/\ay w' i [])/\Below w.heap.size w w':=by go_enter Tryz.func184,Tryz.ntmps184;go_wp2_with fail;have h:=bx4 w 3 v a b g 3 A 0 d f c t 3 v a b g 3 A 0 d f c t 2 v a 0 0 0 none 0 0 0 0 0 2 v b 0 0 0 none 0 0 0 0 0;refine bg (w.heap.size+1) h.1 ?_;exact⟨⟨_,rfl,⟨A,d,rfl,qqy _,Or.inl rfl⟩⟩,h.2⟩
theorem I7(j:Value)(v a b i f d t:Int)(A:Option Addr)(h:Nat)(w:World):Calls Tryz.prog 184 #[j,.agg #[.int .u8 3,.int .i64 v,.int .i64 a,.int .i64 b,.int .i64 i,.int .u8 3,.slice A 0 h,.int .i64 f,.int .i64 d,.int .i64 t],.int .i64 (0),.bool false,.int .i64 (0),.bool true] w λe w'=>(∃g,e=.returned (ax ⟨fC v 0,g⟩)/\ay w' g [])/\Below w.heap.size w w':=by go_enter Tryz.func184,Tryz.ntmps184;go_wp2_with fail;have c:=bx4 w 3 v a b i 3 A 0 h f d t 1 v 0 0 0 0 none 0 0 0 0 0 2 v a 0 0 0 none 0 0 0 0 0 2 v b 0 0 0 none 0 0 0 0 0;refine bg (w.heap.size+1) c.1 ?_;exact⟨⟨_,rfl,bZ _⟩,c.2⟩
theorem J3(j:Value)(v a b g f c t:Int)(A:Option Addr)(d:Nat)(m:Int)(k:(m==0)=false)(l:(m==1)=false)(w:World):Calls Tryz.prog 184 #[j,.agg #[.int .u8 3,.int .i64 v,.int .i64 a,.int .i64 b,.int .i64 g,.int .u8 3,.slice A 0 d,.int .i64 f,.int .i64 c,.int .i64 t],.int .i64 (0),.bool false,.int .i64 (m),.bool true] w λe w'=>(∃i,e=.returned (ax ⟨⟨3,v,a,b,g,3,[],f,c,t⟩,i⟩)/\ay w' i [])/\Below w.heap.size w w':=by go_enter Tryz.func184,Tryz.ntmps184;go_wp2_with fail;have h:=bx4 w 3 v a b g 3 A 0 d f c t 3 v a b g 3 A 0 d f c t 2 v a 0 0 0 none 0 0 0 0 0 2 v b 0 0 0 none 0 0 0 0 0;refine bg (w.heap.size+1) h.1 ?_;exact⟨⟨_,rfl,⟨A,d,rfl,qqy _,Or.inl rfl⟩⟩,h.2⟩
theorem IY(j:Value)(v a b g f c t:Int)(A:Option Addr)(d:Nat)(n:Int)(k:(n==0)=false)(l:(n==1)=false)(w:World):Calls Tryz.prog 184 #[j,.agg #[.int .u8 3,.int .i64 v,.int .i64 a,.int .i64 b,.int .i64 g,.int .u8 3,.slice A 0 d,.int .i64 f,.int .i64 c,.int .i64 t],.int .i64 (n),.bool true,.int .i64 (0),.bool false] w λe w'=>(∃i,e=.returned (ax ⟨⟨3,v,a,b,g,3,[],f,c,t⟩,i⟩)/\ay w' i [])/\Below w.heap.size w w':=by go_enter Tryz.func184,Tryz.ntmps184;go_wp2_with fail;have h:=bx4 w 3 v a b g 3 A 0 d f c t 3 v a b g 3 A 0 d f c t 2 v a 0 0 0 none 0 0 0 0 0 2 v b 0 0 0 none 0 0 0 0 0;refine bg (w.heap.size+1) h.1 ?_;exact⟨⟨_,rfl,⟨A,d,rfl,qqy _,Or.inl rfl⟩⟩,h.2⟩
theorem Jt(j:Value)(v a b i f d t:Int)(A:Option Addr)(h:Nat)(n:Int)(k:(n==0)=false)(l:(n==1)=false)(w:World):Calls Tryz.prog 184 #[j,.agg #[.int .u8 3,.int .i64 v,.int .i64 a,.int .i64 b,.int .i64 i,.int .u8 3,.slice A 0 h,.int .i64 f,.int .i64 d,.int .i64 t],.int .i64 (n),.bool true,.int .i64 (0),.bool true] w λe w'=>(∃g,e=.returned (ax ⟨fC v 0,g⟩)/\ay w' g [])/\Below w.heap.size w w':=by go_enter Tryz.func184,Tryz.ntmps184;go_wp2_with fail;have c:=bx4 w 3 v a b i 3 A 0 h f d t 1 v 0 0 0 0 none 0 0 0 0 0 2 v a 0 0 0 none 0 0 0 0 0 2 v b 0 0 0 none 0 0 0 0 0;refine bg (w.heap.size+1) c.1 ?_;exact⟨⟨_,rfl,bZ _⟩,c.2⟩
theorem Jk(j:Value)(v a b g f c t:Int)(A:Option Addr)(d:Nat)(n:Int)(m:Int)(o:(n==0)=false)(p:(n==1)=false)(k:(m==0)=false)(l:(m==1)=false)(w:World):Calls Tryz.prog 184 #[j,.agg #[.int .u8 3,.int .i64 v,.int .i64 a,.int .i64 b,.int .i64 g,.int .u8 3,.slice A 0 d,.int .i64 f,.int .i64 c,.int .i64 t],.int .i64 (n),.bool true,.int .i64 (m),.bool true] w λe w'=>(∃i,e=.returned (ax ⟨⟨3,v,a,b,g,3,[],f,c,t⟩,i⟩)/\ay w' i [])/\Below w.heap.size w w':=by go_enter Tryz.func184,Tryz.ntmps184;go_wp2_with fail;have h:=bx4 w 3 v a b g 3 A 0 d f c t 3 v a b g 3 A 0 d f c t 2 v a 0 0 0 none 0 0 0 0 0 2 v b 0 0 0 none 0 0 0 0 0;refine bg (w.heap.size+1) h.1 ?_;exact⟨⟨_,rfl,⟨A,d,rfl,qqy _,Or.inl rfl⟩⟩,h.2⟩
theorem UR(l:Value)(v a b h f d t:Int)(A:Option Addr)(g:Nat)(c:Nat)(n:Int)(p:Bool)(m:Int)(k:Bool)(o:c≠1/\c≠9/\c≠10/\c≠2/\c≠11/\c≠13/\c≠3)(w:World):Calls Tryz.prog 184 #[l,.agg #[.int .u8 3,.int .i64 v,.int .i64 a,.int .i64 b,.int .i64 h,.int .u8 c,.slice A 0 g,.int .i64 f,.int .i64 d,.int .i64 t],.int .i64 n,.bool p,.int .i64 m,.bool k] w λe w'=>(∃j,e=.returned (ax ⟨⟨3,v,a,b,h,c,[],f,d,t⟩,j⟩)/\ay w' j [])/\Below w.heap.size w w':=by obtain⟨q,r,s,u,x,y,z⟩:=o;have I:((c:Int)==1)=false:=qqe.2 oqo;have B:¬(c:Int)=1:=oqo;have J:((c:Int)==9)=false:=qqe.2 oqo;have C:¬(c:Int)=9:=oqo;have K:((c:Int)==10)=false:=qqe.2 oqo;have D:¬(c:Int)=10:=oqo;have L:((c:Int)==2)=false:=qqe.2 oqo;have E:¬(c:Int)=2:=oqo;have M:((c:Int)==11)=false:=qqe.2 oqo;have F:¬(c:Int)=11:=oqo;have N:((c:Int)==13)=false:=qqe.2 oqo;have G:¬(c:Int)=13:=oqo;have O:((c:Int)==3)=false:=qqe.2 oqo;have H:¬(c:Int)=3:=oqo;go_enter Tryz.func184,Tryz.ntmps184;go_wp2_with fail;have i:=bx4 w 3 v a b h c A 0 g f d t 3 v a b h c A 0 g f d t 2 v a 0 0 0 none 0 0 0 0 0 2 v b 0 0 0 none 0 0 0 0 0;refine bg (w.heap.size+1) i.1 ?_;exact⟨⟨_,rfl,⟨A,g,rfl,qqy _,Or.inl rfl⟩⟩,i.2⟩
theorem KN(c:Value)(x:In)(D:x.op=3)(ha:x.args=[])(A:Option Addr)(d:Nat)(n m:Option Int)(w:World):Calls Tryz.prog 184 #[c,ax ⟨x,.slice A 0 d⟩,.int .i64 (n.getD 0),.bool n.isSome,.int .i64 (m.getD 0),.bool m.isSome] w λe w'=>(∃r,e=.returned (ax ⟨au x n m,r⟩)/\ay w' r [])/\Below w.heap.size w w':=by
 obtain⟨op,v,a,b,i,p,args,f,g,t⟩:=x;simp only at D ha;subst D ha;have q:∀{y E:In},E=y->(Calls Tryz.prog 184 #[c,ax ⟨⟨3,v,a,b,i,p,[],f,g,t⟩,.slice A 0 d⟩,.int .i64 (n.getD 0),.bool n.isSome,.int .i64 (m.getD 0),.bool m.isSome] w λe w'=>(∃r,e=.returned (ax ⟨y,r⟩)/\ay w' r [])/\Below w.heap.size w w')->Calls Tryz.prog 184 #[c,ax ⟨⟨3,v,a,b,i,p,[],f,g,t⟩,.slice A 0 d⟩,.int .i64 (n.getD 0),.bool n.isSome,.int .i64 (m.getD 0),.bool m.isSome] w λe w'=>(∃r,e=.returned (ax ⟨E,r⟩)/\ay w' r [])/\Below w.heap.size w w':=λe h=>by rw[e];exact h
 by_cases b1:p=1
 ·subst b1;rcases n with _|n
  ·skip;rcases m with _|m;·skip;exact q (by simp[au, *]) (Ke c v a b i f g t A d w)
   ·by_cases j:m=0;·subst j;exact q (by simp[au, *]) (JJ c v a b i f g t A d w)
    ·by_cases k:m=1;·subst k;exact q (by simp[au, *]) (Ar c v a b i f g t A d 1 (qqe.2 oqo) w)
     ·skip;exact q (by simp[au, *]) (Ar c v a b i f g t A d m (qqe.2 oqo) w)
  ·by_cases l:n=0
   ·subst l;rcases m with _|m;·skip;exact q (by simp[au, *]) (oN c v a b i f g t A d 0 false w)
    ·by_cases j:m=0;·subst j;exact q (by simp[au, *]) (oN c v a b i f g t A d 0 true w)
     ·by_cases k:m=1;·subst k;exact q (by simp[au, *]) (oN c v a b i f g t A d 1 true w)
      ·skip;exact q (by simp[au, *]) (oN c v a b i f g t A d m true w)
   ·by_cases o:n=1
    ·subst o;rcases m with _|m;·skip;exact q (by simp[au, *]) (yV c v a b i f g t A d 1 (qqe.2 oqo) w)
     ·by_cases j:m=0;·subst j;exact q (by simp[au, *]) (zW c v a b i f g t A d 1 (qqe.2 oqo) w)
      ·by_cases k:m=1;·subst k;exact q (by simp[au, *]) (oF c v a b i f g t A d 1 1 (qqe.2 oqo) (qqe.2 oqo) w)
       ·skip;exact q (by simp[au, *]) (oF c v a b i f g t A d 1 m (qqe.2 oqo) (qqe.2 oqo) w)
    ·skip;rcases m with _|m;·skip;exact q (by simp[au, *]) (yV c v a b i f g t A d n (qqe.2 oqo) w)
     ·by_cases j:m=0;·subst j;exact q (by simp[au, *]) (zW c v a b i f g t A d n (qqe.2 oqo) w)
      ·by_cases k:m=1;·subst k;exact q (by simp[au, *]) (oF c v a b i f g t A d n 1 (qqe.2 oqo) (qqe.2 oqo) w)
       ·skip;exact q (by simp[au, *]) (oF c v a b i f g t A d n m (qqe.2 oqo) (qqe.2 oqo) w)
 by_cases C:p=9
 ·subst C;rcases n with _|n
  ·skip;rcases m with _|m;·skip;exact q (by simp[au, *]) (Jz c v a b i f g t A d w)
   ·by_cases j:m=0;·subst j;exact q (by simp[au, *]) (IG c v a b i f g t A d w)
    ·by_cases k:m=1;·subst k;exact q (by simp[au, *]) (yT c v a b i f g t A d 1 (qqe.2 oqo) w)
     ·skip;exact q (by simp[au, *]) (yT c v a b i f g t A d m (qqe.2 oqo) w)
  ·by_cases l:n=0
   ·subst l;rcases m with _|m;·skip;exact q (by simp[au, *]) (oP c v a b i f g t A d 0 false w)
    ·by_cases j:m=0;·subst j;exact q (by simp[au, *]) (oP c v a b i f g t A d 0 true w)
     ·by_cases k:m=1;·subst k;exact q (by simp[au, *]) (oP c v a b i f g t A d 1 true w)
      ·skip;exact q (by simp[au, *]) (oP c v a b i f g t A d m true w)
   ·by_cases o:n=1
    ·subst o;rcases m with _|m;·skip;exact q (by simp[au, *]) (Aj c v a b i f g t A d 1 (qqe.2 oqo) w)
     ·by_cases j:m=0;·subst j;exact q (by simp[au, *]) (zq c v a b i f g t A d 1 (qqe.2 oqo) w)
      ·by_cases k:m=1;·subst k;exact q (by simp[au, *]) (oG c v a b i f g t A d 1 1 (qqe.2 oqo) (qqe.2 oqo) w)
       ·skip;exact q (by simp[au, *]) (oG c v a b i f g t A d 1 m (qqe.2 oqo) (qqe.2 oqo) w)
    ·skip;rcases m with _|m;·skip;exact q (by simp[au, *]) (Aj c v a b i f g t A d n (qqe.2 oqo) w)
     ·by_cases j:m=0;·subst j;exact q (by simp[au, *]) (zq c v a b i f g t A d n (qqe.2 oqo) w)
      ·by_cases k:m=1;·subst k;exact q (by simp[au, *]) (oG c v a b i f g t A d n 1 (qqe.2 oqo) (qqe.2 oqo) w)
       ·skip;exact q (by simp[au, *]) (oG c v a b i f g t A d n m (qqe.2 oqo) (qqe.2 oqo) w)
 by_cases s:p=10
 ·subst s;rcases n with _|n
  ·skip;rcases m with _|m;·skip;exact q (by simp[au, *]) (GG c v a b i f g t A d w)
   ·by_cases j:m=0;·subst j;exact q (by simp[au, *]) (Gb c v a b i f g t A d w)
    ·by_cases k:m=1;·subst k;exact q (by simp[au, *]) (xG c v a b i f g t A d 1 (qqe.2 oqo) w)
     ·skip;exact q (by simp[au, *]) (xG c v a b i f g t A d m (qqe.2 oqo) w)
  ·by_cases l:n=0
   ·subst l;rcases m with _|m;·skip;exact q (by simp[au, *]) (ny c v a b i f g t A d 0 false w)
    ·by_cases j:m=0;·subst j;exact q (by simp[au, *]) (ny c v a b i f g t A d 0 true w)
     ·by_cases k:m=1;·subst k;exact q (by simp[au, *]) (ny c v a b i f g t A d 1 true w)
      ·skip;exact q (by simp[au, *]) (ny c v a b i f g t A d m true w)
   ·by_cases o:n=1
    ·subst o;rcases m with _|m;·skip;exact q (by simp[au, *]) (xh c v a b i f g t A d 1 (qqe.2 oqo) w)
     ·by_cases j:m=0;·subst j;exact q (by simp[au, *]) (xw c v a b i f g t A d 1 (qqe.2 oqo) w)
      ·by_cases k:m=1;·subst k;exact q (by simp[au, *]) (mW c v a b i f g t A d 1 1 (qqe.2 oqo) (qqe.2 oqo) w)
       ·skip;exact q (by simp[au, *]) (mW c v a b i f g t A d 1 m (qqe.2 oqo) (qqe.2 oqo) w)
    ·skip;rcases m with _|m;·skip;exact q (by simp[au, *]) (xh c v a b i f g t A d n (qqe.2 oqo) w)
     ·by_cases j:m=0;·subst j;exact q (by simp[au, *]) (xw c v a b i f g t A d n (qqe.2 oqo) w)
      ·by_cases k:m=1;·subst k;exact q (by simp[au, *]) (mW c v a b i f g t A d n 1 (qqe.2 oqo) (qqe.2 oqo) w)
       ·skip;exact q (by simp[au, *]) (mW c v a b i f g t A d n m (qqe.2 oqo) (qqe.2 oqo) w)
 by_cases b2:p=2
 ·subst b2;rcases n with _|n
  ·skip;rcases m with _|m;·skip;exact q (by simp[au, *]) (oM c v a b i f g t A d 0 false w)
   ·by_cases j:m=0;·subst j;exact q (by simp[au, *]) (oQ c v a b i f g t A d 0 false w)
    ·by_cases k:m=1;·subst k;exact q (by simp[au, *]) (iM c v a b i f g t A d 0 false 1 (qqe.2 oqo) w)
     ·skip;exact q (by simp[au, *]) (iM c v a b i f g t A d 0 false m (qqe.2 oqo) w)
  ·by_cases l:n=0
   ·subst l;rcases m with _|m;·skip;exact q (by simp[au, *]) (oM c v a b i f g t A d 0 true w)
    ·by_cases j:m=0;·subst j;exact q (by simp[au, *]) (oQ c v a b i f g t A d 0 true w)
     ·by_cases k:m=1;·subst k;exact q (by simp[au, *]) (iM c v a b i f g t A d 0 true 1 (qqe.2 oqo) w)
      ·skip;exact q (by simp[au, *]) (iM c v a b i f g t A d 0 true m (qqe.2 oqo) w)
   ·by_cases o:n=1
    ·subst o;rcases m with _|m;·skip;exact q (by simp[au, *]) (oM c v a b i f g t A d 1 true w)
     ·by_cases j:m=0;·subst j;exact q (by simp[au, *]) (oQ c v a b i f g t A d 1 true w)
      ·by_cases k:m=1;·subst k;exact q (by simp[au, *]) (iM c v a b i f g t A d 1 true 1 (qqe.2 oqo) w)
       ·skip;exact q (by simp[au, *]) (iM c v a b i f g t A d 1 true m (qqe.2 oqo) w)
    ·skip;rcases m with _|m;·skip;exact q (by simp[au, *]) (oM c v a b i f g t A d n true w)
     ·by_cases j:m=0;·subst j;exact q (by simp[au, *]) (oQ c v a b i f g t A d n true w)
      ·by_cases k:m=1;·subst k;exact q (by simp[au, *]) (iM c v a b i f g t A d n true 1 (qqe.2 oqo) w)
       ·skip;exact q (by simp[au, *]) (iM c v a b i f g t A d n true m (qqe.2 oqo) w)
 by_cases u:p=11
 ·subst u;rcases n with _|n
  ·skip;rcases m with _|m;·skip;exact q (by simp[au, *]) (ni c v a b i f g t A d 0 false w)
   ·by_cases j:m=0;·subst j;exact q (by simp[au, *]) (mZ c v a b i f g t A d 0 false w)
    ·by_cases k:m=1;·subst k;exact q (by simp[au, *]) (iq c v a b i f g t A d 0 false 1 (qqe.2 oqo) w)
     ·skip;exact q (by simp[au, *]) (iq c v a b i f g t A d 0 false m (qqe.2 oqo) w)
  ·by_cases l:n=0
   ·subst l;rcases m with _|m;·skip;exact q (by simp[au, *]) (ni c v a b i f g t A d 0 true w)
    ·by_cases j:m=0;·subst j;exact q (by simp[au, *]) (mZ c v a b i f g t A d 0 true w)
     ·by_cases k:m=1;·subst k;exact q (by simp[au, *]) (iq c v a b i f g t A d 0 true 1 (qqe.2 oqo) w)
      ·skip;exact q (by simp[au, *]) (iq c v a b i f g t A d 0 true m (qqe.2 oqo) w)
   ·by_cases o:n=1
    ·subst o;rcases m with _|m;·skip;exact q (by simp[au, *]) (ni c v a b i f g t A d 1 true w)
     ·by_cases j:m=0;·subst j;exact q (by simp[au, *]) (mZ c v a b i f g t A d 1 true w)
      ·by_cases k:m=1;·subst k;exact q (by simp[au, *]) (iq c v a b i f g t A d 1 true 1 (qqe.2 oqo) w)
       ·skip;exact q (by simp[au, *]) (iq c v a b i f g t A d 1 true m (qqe.2 oqo) w)
    ·skip;rcases m with _|m;·skip;exact q (by simp[au, *]) (ni c v a b i f g t A d n true w)
     ·by_cases j:m=0;·subst j;exact q (by simp[au, *]) (mZ c v a b i f g t A d n true w)
      ·by_cases k:m=1;·subst k;exact q (by simp[au, *]) (iq c v a b i f g t A d n true 1 (qqe.2 oqo) w)
       ·skip;exact q (by simp[au, *]) (iq c v a b i f g t A d n true m (qqe.2 oqo) w)
 by_cases z:p=13
 ·subst z;rcases n with _|n
  ·skip;rcases m with _|m;·skip;exact q (by simp[au, *]) (nI c v a b i f g t A d 0 false w)
   ·by_cases j:m=0;·subst j;exact q (by simp[au, *]) (nu c v a b i f g t A d 0 false w)
    ·by_cases k:m=1;·subst k;exact q (by simp[au, *]) (iw c v a b i f g t A d 0 false 1 (qqe.2 oqo) w)
     ·skip;exact q (by simp[au, *]) (iw c v a b i f g t A d 0 false m (qqe.2 oqo) w)
  ·by_cases l:n=0
   ·subst l;rcases m with _|m;·skip;exact q (by simp[au, *]) (nI c v a b i f g t A d 0 true w)
    ·by_cases j:m=0;·subst j;exact q (by simp[au, *]) (nu c v a b i f g t A d 0 true w)
     ·by_cases k:m=1;·subst k;exact q (by simp[au, *]) (iw c v a b i f g t A d 0 true 1 (qqe.2 oqo) w)
      ·skip;exact q (by simp[au, *]) (iw c v a b i f g t A d 0 true m (qqe.2 oqo) w)
   ·by_cases o:n=1
    ·subst o;rcases m with _|m;·skip;exact q (by simp[au, *]) (nI c v a b i f g t A d 1 true w)
     ·by_cases j:m=0;·subst j;exact q (by simp[au, *]) (nu c v a b i f g t A d 1 true w)
      ·by_cases k:m=1;·subst k;exact q (by simp[au, *]) (iw c v a b i f g t A d 1 true 1 (qqe.2 oqo) w)
       ·skip;exact q (by simp[au, *]) (iw c v a b i f g t A d 1 true m (qqe.2 oqo) w)
    ·skip;rcases m with _|m;·skip;exact q (by simp[au, *]) (nI c v a b i f g t A d n true w)
     ·by_cases j:m=0;·subst j;exact q (by simp[au, *]) (nu c v a b i f g t A d n true w)
      ·by_cases k:m=1;·subst k;exact q (by simp[au, *]) (iw c v a b i f g t A d n true 1 (qqe.2 oqo) w)
       ·skip;exact q (by simp[au, *]) (iw c v a b i f g t A d n true m (qqe.2 oqo) w)
 by_cases B:p=3
 ·subst B;rcases n with _|n
  ·skip;rcases m with _|m;·skip;exact q (by simp[au, *]) (Jr c v a b i f g t A d w)
   ·by_cases j:m=0;·subst j;exact q (by simp[au, *]) (I7 c v a b i f g t A d w)
    ·by_cases k:m=1;·subst k;exact q (by simp[au, *]) (Ja c v a b i f g t A d w)
     ·skip;exact q (by simp[au, *]) (J3 c v a b i f g t A d m (qqe.2 oqo) (qqe.2 oqo) w)
  ·by_cases l:n=0
   ·subst l;rcases m with _|m;·skip;exact q (by simp[au, *]) (KE c v a b i f g t A d w)
    ·by_cases j:m=0;·subst j;exact q (by simp[au, *]) (IE c v a b i f g t A d w)
     ·by_cases k:m=1;·subst k;exact q (by simp[au, *]) (Jy c v a b i f g t A d w)
      ·skip;exact q (by simp[au, *]) (Jf c v a b i f g t A d m (qqe.2 oqo) (qqe.2 oqo) w)
   ·by_cases o:n=1
    ·subst o;rcases m with _|m;·skip;exact q (by simp[au, *]) (oJ c v a b i f g t A d 0 false w)
     ·by_cases j:m=0;·subst j;exact q (by simp[au, *]) (oJ c v a b i f g t A d 0 true w)
      ·by_cases k:m=1;·subst k;exact q (by simp[au, *]) (oJ c v a b i f g t A d 1 true w)
       ·skip;exact q (by simp[au, *]) (oJ c v a b i f g t A d m true w)
    ·skip;rcases m with _|m;·skip;exact q (by simp[au, *]) (IY c v a b i f g t A d n (qqe.2 oqo) (qqe.2 oqo) w)
     ·by_cases j:m=0;·subst j;exact q (by simp[au, *]) (Jt c v a b i f g t A d n (qqe.2 oqo) (qqe.2 oqo) w)
      ·by_cases k:m=1;·subst k;exact q (by simp[au, *]) (JH c v a b i f g t A d n (qqe.2 oqo) (qqe.2 oqo) w)
       ·skip;exact q (by simp[au, *]) (Jk c v a b i f g t A d n m (qqe.2 oqo) (qqe.2 oqo) (qqe.2 oqo) (qqe.2 oqo) w)
 exact q (by simp[au, *]) (UR c v a b i f g t A d p (n.getD 0) n.isSome (m.getD 0) m.isSome ⟨b1,C,s,b2,u,z,B⟩ w)
open Go.Maps
theorem vL{w:World}{sl:Value}(h:qC w sl []):∃A c,sl=.slice A 0 c:=by obtain⟨A,c,rfl,_,_⟩:=h;exact⟨A,c,rfl⟩
theorem jU{w:World}{sl:Value}{p:Addr}(h:qC w sl [p]):∃a po c,sl=.slice (some ⟨a,po,none⟩) 1 c/\1<=c/\w.cell? ⟨a,po,none⟩=some (.pointer (some p)):=by
 obtain⟨A,c,rfl,hc,hr⟩:=h;rcases hr with hr|⟨a,po,rfl,b⟩;·cases hr
 ·exact⟨a,po,c,rfl,hc,by have:=b 0 p rfl;unfold kW at this;simpa using this⟩
theorem Ey{w:World}{sl:Value}{p q:Addr}(h:qC w sl [p,q]):∃a po c,sl=.slice (some ⟨a,po,none⟩) 2 c/\2<=c/\w.cell? ⟨a,po,none⟩=some (.pointer (some p))/\w.cell? ⟨a,po+1,none⟩=some (.pointer (some q)):=by
 obtain⟨A,c,rfl,hc,hr⟩:=h;rcases hr with hr|⟨a,po,rfl,b⟩;·cases hr
 ·exact⟨a,po,c,rfl,hc,by have:=b 0 p rfl;unfold kW at this;simpa using this,by have:=b 1 q rfl;unfold kW at this;simpa using this⟩
theorem Tj{n:Int}(h:okN n):I64 n:=by
 unfold okN Lit.wf at h;have h1:IntKind.min .i64= -9223372036854775808:=by decide
 have h2:IntKind.max .i64=9223372036854775807:=by decide
 simp only[qqn,qqu,h1,h2]at h;exact⟨h.1,h.2⟩
theorem M5{n:Int}(h:I64 n):okN n:=by
 unfold okN Lit.wf;have h1:IntKind.min .i64= -9223372036854775808:=by decide
 have h2:IntKind.max .i64=9223372036854775807:=by decide
 simp only[qqn,qqu,h1,h2];exact⟨h.1,h.2⟩
theorem l9(w:World)(c1 c2 c3:Array Value):Blk (((w.alloc (.cells c1 25)).alloc (.cells c2 71)).alloc (.cells c3 71)) w.heap.size 25 c1/\Blk (((w.alloc (.cells c1 25)).alloc (.cells c2 71)).alloc (.cells c3 71)) (w.heap.size+1) 71 c2/\Blk (((w.alloc (.cells c1 25)).alloc (.cells c2 71)).alloc (.cells c3 71)) (w.heap.size+1+1) 71 c3/\Below w.heap.size w (((w.alloc (.cells c1 25)).alloc (.cells c2 71)).alloc (.cells c3 71)):=by
 have a:(w.alloc (.cells c1 25)).heap.size=w.heap.size+1:=jqe ..;have b:((w.alloc (.cells c1 25)).alloc (.cells c2 71)).heap.size=w.heap.size+1+1:=by rw[jqe,a]
 refine⟨((Blk.new w 25 c1).alloc _).alloc _,?_,?_,(((qjk w.heap.size w).alloc (qqf _) _).alloc oqo _).alloc oqo _⟩;·have:=Blk.new (w.alloc (.cells c1 25)) 71 c2;rw[a]at this;exact this.alloc _
 ·have:=Blk.new ((w.alloc (.cells c1 25)).alloc (.cells c2 71)) 71 c3;rw[b]at this;exact this
theorem Cc(g b0 b1 b2 n:Nat)(B:ae)(gp:PrG)(v a b m:Int)(bin:Nat)(f arr t:Int)(A:Option Addr)(l:Nat)(w:World)(h:bQ w g b0 b1 b2 n B)(ha:okN a):Calls Tryz.prog 154 #[.pointer (some ⟨g,0,none⟩),prV gp,ax ⟨⟨2,v,a,b,m,bin,[],f,arr,t⟩,.slice A 0 l⟩] w λe w'=>(∃l0,e=.returned (ax ⟨B.dQ ⟨2,v,B.root a,b,m,bin,[],f,arr,t⟩,l0⟩)/\ay w' l0 [])/\Below w.heap.size w w':=by
 have H:=hqh h;have lg:=h.blk.lt;clear h;obtain⟨⟨ga,gf,gm⟩,r0,s0,gl⟩:=gp;have q0:=H.o.kU ha;obtain⟨c,F⟩:∃r,r=B.root a:=⟨_,rfl⟩;have T:(B.cp a).getD a=c:=F.symm;rw[<-F]at q0;obtain⟨Y,hY⟩:∃Y:In,Y=B.dQ ⟨2,v,B.root a,b,m,bin,[],f,arr,t⟩:=⟨_,rfl⟩;rw[<-hY];rw[<-F]at hY;clear F;have O:=hqh hY;clear hY;unfold prV;rw[show ax ⟨⟨2,v,a,b,m,bin,[],f,arr,t⟩,.slice A 0 l⟩=.agg #[.int .u8 (2:Nat),.int .i64 v,.int .i64 a,.int .i64 b,.int .i64 m,.int .u8 bin,.slice A 0 l,.int .i64 f,.int .i64 arr,.int .i64 t]from rfl];simp only[];go_enter Tryz.func154,Tryz.ntmps154;go_upto_region 1 with fail;have S:=l9 w #[r0,s0,.int .i64 gm] #[.int .u8 (2:Nat),.int .i64 v,.int .i64 a,.int .i64 b,.int .i64 m,.int .u8 bin,.slice A 0 l,.int .i64 f,.int .i64 arr,.int .i64 t] bS;unfold bS at S;generalize a1:((w.alloc _).alloc _).alloc _=w3 at S⊢;clear a1;obtain⟨U,q2,q3,q4⟩:=S;have Z:=hqh U;have k:=hqh q2;have e0:=hqh q3;have j0:=hqh q4;clear U q2 q3 q4;have TK:=iN ⟨2,v,a,b,m,bin,[],f,arr,t⟩ (.slice A 0 l) (w.heap.size+1) w3 k.o (by simp);go_wp2_with(first| (go_at_call 135;refine TK.mono ?_;rintro e w4⟨⟨sl,rfl,o0⟩,m0⟩;obtain⟨pb,po,pc,rfl,l1,n0⟩:=jU o0;have X:=hqh n0;have d:=hqh m0;clear o0 m0 TK n0)|fail);refine jzk 2 ?_;rw[jqx];have L:=hqh (j0.o.trans (d.o.mono (by have:=k.o.lt;omega)));have G:=hqh (H.o.below L.o);have x2:=(k.o.below d.o).cell 2;have f2:=(k.o.below d.o).free 2;have p0:=X.o;have R:=fI g b0 b1 b2 n a B.cp w4 G.o.blk G.o.cp ha;rw[T]at R;have T:=hqh T;go_wp2_with(first|(go_at_call 137;refine R.mono ?_;rintro e w5⟨rfl,rfl⟩)|fail);rw[jqx];go_upto_region 6 with fail;have D:=(k.o.below d.o).put 2 (.int .i64 c);have Q:=(e0.o.below d.o).far (show w.heap.size+1+1≠w.heap.size+1 by omega) 2 (.int .i64 c);have P:=(Z.o.below d.o).far (show w.heap.size≠w.heap.size+1 by omega) 2 (.int .i64 c);have C:=L.o.setCell (p:=⟨w.heap.size+1,2,none⟩) (by simp) (.int .i64 c);generalize d1:w4.setCell _ _=w6 at D Q P C⊢;clear d1;simp only[qqb]at D;have N:=hqh D;have i0:=hqh Q;have d0:=hqh P;have M:=hqh C;have I:=hqh (H.o.below C);clear D Q P C R;clear p0 x2 f2 X G L d k e0 j0 Z;refine wp_region_draw (List.replicate 12 true) (λW=>Below w6.heap.size w6 W) 0 bY (λ_ a a2 _ hd h=>by cases a;cases a2;cases hd;exact h) kqk (λ_ _ h=>h) ?_;iterate 12 refine aI (λK hK=>?_);rw[qzb kqk];refine⟨_,λj1 hZ=>(by have q:=I.o.below hZ;have k0:=q.blk.cell 0;have ka:=(N.o.below hZ).cell 2;have kl:=q.iE q0;clear q;go_simp;try rfl),?_⟩;simp only[qqa];refine hK _ ?_;clear hK
 refine aW ?_;intro vs w7 hN x0 o;refine aH kqk ?_;have z:=hqh (N.o.below o);have J:=hqh (i0.o.below o);have i1:=hqh (d0.o.below o);have g1:=hqh (I.o.below o);have j:=hqh (M.o.trans (o.mono M.o.size));clear hN x0 o N i0 M I d0;have y0:=z.o.cell 0;have y1:=z.o.cell 1;have y2:=z.o.cell 2;by_cases E:v=c
 ·subst E;have s:Hid (Y={}):=hqh (by rw[O.o];unfold ae.dQ;rw[qzb rfl]);go_upto_region 10 with fail;apply jqf;iterate 3 go_step
  refine az rfl 71 (.tmp 6) (.tmp 49) rfl (w.heap.size+1+1) _ rfl rfl 71 _ J.o rfl aS rfl ?_;intro w9 u x;go_wp2_with fail;refine bg (w.heap.size+1+1) u ?_;refine⟨⟨.slice none 0 0,?_,bO _ _ _⟩,j.o.trans (x.aM j.o.size λi e=>by omega)⟩;rw[s.o];rfl
 have U:(v==c)=false:=qqe.2 E;have V:=hqh E;clear E;cases hk:B.num c with|some y=>
  have s:Hid (Y=fC v y):=hqh (by rw[O.o];unfold ae.dQ;rw[qzc V.o];simp only[hk]);clear hk;simp only[qzm,qzn];go_upto_region 12 with fail;apply jqf;iterate 12 go_step
  refine az rfl 71 (.tmp 6) (.tmp 55) rfl (w.heap.size+1+1) _ rfl rfl 71 _ J.o rfl aS rfl ?_;intro w9 u x;go_wp2_with fail;refine bg (w.heap.size+1+1) u ?_;refine⟨⟨.slice none 0 0,?_,bO _ _ _⟩,j.o.trans (x.aM j.o.size λi e=>by omega)⟩;rw[s.o];rfl|none=>have s:Hid (Y=⟨2,v,c,b,m,bin,[],f,arr,t⟩):=hqh (by rw[O.o];unfold ae.dQ;rw[qzc V.o];simp only[hk]);clear hk;simp only[qzp,jzw];go_upto_region 34 with fail;apply jqf;refine aL rfl 71 (.tmp 5) rfl (w.heap.size+1) rfl 71 _ _ z.o Tryz.underlying71 rfl aS ?_;refine az rfl 71 (.tmp 6) (.tmp 169) rfl (w.heap.size+1+1) _ rfl rfl 71 _ J.o rfl aS rfl ?_;intro w9 u x;go_wp2_with fail;refine bg (w.heap.size+1+1) u ?_;refine⟨⟨.slice A 0 l,?_,bO _ _ _⟩,j.o.trans (x.aM j.o.size λi e=>by omega)⟩;rw[s.o];rfl
