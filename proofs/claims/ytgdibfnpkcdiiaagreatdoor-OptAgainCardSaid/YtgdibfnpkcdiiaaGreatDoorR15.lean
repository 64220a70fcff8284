/- Joint text: HIdx. By an AI agent. -/
import Derived.Test.YtgdibfnpkcdiiaaGreatDoorR04
set_option linter.all false
set_option maxRecDepth 100000
set_option maxHeartbeats 64000000
namespace Go.Proofs.YtgdibfnpkcdiiaaGreatDoor
open Go.RowKit
theorem PR(v:Value)(l:List Int)(F:Nat)(w:World)(b:Int->Bool)(h:ay w v l)(hl:l.length<=1000000)(N:∀a W,(callFunc F #[a]).run Tryz.prog W=.ok (.enter F #[a]) W)(hc:∀x∈l,∀W,Below w.heap.size w W->Calls Tryz.prog F #[(.int .i64 x)] W λe I=>e=.returned (.bool (b x))/\Below W.heap.size W I):Calls Tryz.prog 107 #[v,.func (.func F) #[] #[]] w λe w'=>(∃r:Int,e=.returned (.int .i64 r)/\(0<=r↔l.any b=true))/\Below w.heap.size w w':=by
 obtain⟨A,c,rfl,J,h⟩:=h;obtain⟨n,hn⟩:∃n,n=l.length:=⟨_,rfl⟩;rw[<-hn];have H:=hqh h;have t:=hqh hn;have E:=hqh hl;have B:=hqh hc;clear h hn J hl hc;go_enter Tryz.func107,Tryz.ntmps107;go_wp2_with fail;go_loopg [8]n(λgk v wr=>∃i:Nat,i<=n/\n-i<=gk/\v=.int .i64 i/\Hid (Below w.heap.size w wr)/\Hid ((l.take i).any b=false));case atStart=>exact⟨0,qqy _,qqf _,rfl,hqh (qjk _ _),hqh (by simp)⟩
 case round=>
  obtain⟨i,hi,O,rfl,d,s⟩:=hrel;by_cases L:i<n;case neg=>have q:decide ((i:Int)<(n:Int))=false:=qqt oqo;go_wp2_with fail;go_ret;refine⟨⟨-1,rfl,⟨λh=>absurd h oqo,λh=>?_⟩⟩,d.o⟩;have:=s.o;rw[jqc (by have:=t.o;omega),h]at this;cases this
  case pos=>
   have q:decide ((i:Int)<(n:Int))=true:=qqx oqo;have K:i<l.length:=by rw[<-t.o];exact L
   obtain⟨y,g⟩:∃y,l[i]? =some y:=⟨_,qqh K⟩;obtain⟨f,o,rfl,m⟩:∃f o,A=some ⟨f,o,none⟩/\iP wr f (o+i*1) y:=by
    rcases H.o with rfl|⟨f,o,e,k⟩;·simp at g
    ·exact⟨f,o,e,aa d.o (k i y g)⟩
   unfold iP at m;rw[jzb]at m;have lb:=aK m;have M:=E.o;have C:=hqh (B.o y (qqr g) wr d.o);have u:=hqh g;clear g;have P:(i:Int)<(n:Int):=oqo;go_wp2_with fail;refine C.o.mono ?_;rintro e w1⟨rfl,z⟩;have p:=hqh (d.o.trans (z.mono (by have:=d.o.size;omega)));clear z;cases j:b y;case true=>have G:=hqh (show l.any b=true from jqv.2 ⟨y,qqr u.o,j⟩);clear j;go_wp2_with fail;go_ret;exact⟨⟨(i:Int),rfl,λ_=>G.o,λ_=>by omega⟩,p.o⟩
   case false=>have D:=hqh (show(l.take (i+1)).any b=false by rw[jqu,u.o];simp[s.o,j]);clear j;go_wp2_with fail;cases gk with|zero=>omega|succ gk=>
     go_roundg gk;case measure=>omega
     case rel=>exact⟨i+1,by omega,by omega,by simp,p,D⟩
theorem Q0(v:Value)(l:List Int)(F:Nat)(w:World)(b:Int->Bool)(h:ay w v l)(hl:l.length<=1000000)(d:∀a W,(callFunc F #[a]).run Tryz.prog W=.ok (.enter F #[a]) W)(hc:∀x∈l,∀W,Below w.heap.size w W->Calls Tryz.prog F #[(.int .i64 x)] W λe j=>e=.returned (.bool (b x))/\Below W.heap.size W j):Calls Tryz.prog 42 #[v,.func (.func F) #[] #[]] w λe w'=>e=.returned (.bool (l.any b))/\Below w.heap.size w w':=by
 have g:=hqh (PR v l F w b h hl d hc);clear h hl d hc;go_enter Tryz.func42,Tryz.ntmps42;go_wp2_with fail;refine g.o.mono ?_;rintro e w1⟨⟨r,rfl,hr⟩,c⟩;have HR:=hqh hr;have f:=hqh c;clear hr c;have hd:l.any b=decide (0<=r):=by rw[qzd,qqu];exact HR.o.symm
 have i:=hqh hd;clear hd;cases h0:decide (0<=r);all_goals go_wp2_with fail
 all_goals go_ret
 all_goals exact⟨aO (by rw[i.o,h0]),f.o⟩
theorem KZ(v:Value)(l:List Int)(F:Nat)(p:Value)(w:World)(b:Int->Bool)(h:ay w v l)(hl:l.length<=1000000)(O:∀a W,(callFunc F #[a,p]).run Tryz.prog W=.ok (.enter F #[a,p]) W)(hc:∀x∈l,∀W,Below w.heap.size w W->Calls Tryz.prog F #[(.int .i64 x),p] W λe J=>e=.returned (.bool (b x))/\Below W.heap.size W J):Calls Tryz.prog 107 #[v,.func (.func F) #[] #[p]] w λe w'=>(∃r:Int,e=.returned (.int .i64 r)/\(0<=r↔l.any b=true))/\Below w.heap.size w w':=by
 obtain⟨A,c,rfl,K,h⟩:=h;obtain⟨n,hn⟩:∃n,n=l.length:=⟨_,rfl⟩;rw[<-hn];have H:=hqh h;have u:=hqh hn;have G:=hqh hl;have C:=hqh hc;clear h hn K hl hc;go_enter Tryz.func107,Tryz.ntmps107;go_wp2_with fail;go_loopg [8]n(λgk v wr=>∃i:Nat,i<=n/\n-i<=gk/\v=.int .i64 i/\Hid (Below w.heap.size w wr)/\Hid ((l.take i).any b=false));case atStart=>exact⟨0,qqy _,qqf _,rfl,hqh (qjk _ _),hqh (by simp)⟩
 case round=>
  obtain⟨i,hi,P,rfl,d,t⟩:=hrel;by_cases M:i<n;case neg=>have q:decide ((i:Int)<(n:Int))=false:=qqt oqo;go_wp2_with fail;go_ret;refine⟨⟨-1,rfl,⟨λh=>absurd h oqo,λh=>?_⟩⟩,d.o⟩;have:=t.o;rw[jqc (by have:=u.o;omega),h]at this;cases this
  case pos=>
   have q:decide ((i:Int)<(n:Int))=true:=qqx oqo;have L:i<l.length:=by rw[<-u.o];exact M
   obtain⟨y,g⟩:∃y,l[i]? =some y:=⟨_,qqh L⟩;obtain⟨f,o,rfl,m⟩:∃f o,A=some ⟨f,o,none⟩/\iP wr f (o+i*1) y:=by
    rcases H.o with rfl|⟨f,o,e,k⟩;·simp at g
    ·exact⟨f,o,e,aa d.o (k i y g)⟩
   unfold iP at m;rw[jzb]at m;have lb:=aK m;have N:=G.o;have D:=hqh (C.o y (qqr g) wr d.o);have z:=hqh g;clear g;have Q:(i:Int)<(n:Int):=oqo;go_wp2_with fail;refine D.o.mono ?_;rintro e w1⟨rfl,B⟩;have s:=hqh (d.o.trans (B.mono (by have:=d.o.size;omega)));clear B;cases j:b y;case true=>have I:=hqh (show l.any b=true from jqv.2 ⟨y,qqr z.o,j⟩);clear j;go_wp2_with fail;go_ret;exact⟨⟨(i:Int),rfl,λ_=>I.o,λ_=>by omega⟩,s.o⟩
   case false=>have E:=hqh (show(l.take (i+1)).any b=false by rw[jqu,z.o];simp[t.o,j]);clear j;go_wp2_with fail;cases gk with|zero=>omega|succ gk=>
     go_roundg gk;case measure=>omega
     case rel=>exact⟨i+1,by omega,by omega,by simp,s,E⟩
theorem qG(v:Value)(l:List Int)(F:Nat)(p:Value)(w:World)(b:Int->Bool)(h:ay w v l)(hl:l.length<=1000000)(d:∀a W,(callFunc F #[a,p]).run Tryz.prog W=.ok (.enter F #[a,p]) W)(hc:∀x∈l,∀W,Below w.heap.size w W->Calls Tryz.prog F #[(.int .i64 x),p] W λe j=>e=.returned (.bool (b x))/\Below W.heap.size W j):Calls Tryz.prog 42 #[v,.func (.func F) #[] #[p]] w λe w'=>e=.returned (.bool (l.any b))/\Below w.heap.size w w':=by
 have g:=hqh (KZ v l F p w b h hl d hc);clear h hl d hc;go_enter Tryz.func42,Tryz.ntmps42;go_wp2_with fail;refine g.o.mono ?_;rintro e w1⟨⟨r,rfl,hr⟩,c⟩;have HR:=hqh hr;have f:=hqh c;clear hr c;have hd:l.any b=decide (0<=r):=by rw[qzd,qqu];exact HR.o.symm
 have i:=hqh hd;clear hd;cases h0:decide (0<=r);all_goals go_wp2_with fail
 all_goals go_ret
 all_goals exact⟨aO (by rw[i.o,h0]),f.o⟩
theorem Rx(v:Value)(l:List FnG)(F:Nat)(p:Value)(w:World)(b:FnG->Bool)(h:pO w v l)(hl:l.length<=1000000)(Q:∀a W,(callFunc F #[a,p]).run Tryz.prog W=.ok (.enter F #[a,p]) W)(hc:∀x∈l,∀W,Below w.heap.size w W->Calls Tryz.prog F #[(fnV x),p] W λe I=>e=.returned (.bool (b x))/\Below W.heap.size W I):Calls Tryz.prog 108 #[v,.func (.func F) #[] #[p]] w λe w'=>(∃r:Int,e=.returned (.int .i64 r)/\(0<=r↔l.any b=true))/\Below w.heap.size w w':=by
 obtain⟨A,c,rfl,K,h⟩:=h;obtain⟨n,hn⟩:∃n,n=l.length:=⟨_,rfl⟩;rw[<-hn];have H:=hqh h;have u:=hqh hn;have E:=hqh hl;have s:=hqh hc;clear h hn K hl hc;go_enter Tryz.func108,Tryz.ntmps108;go_wp2_with fail;have O:(Tryz.prog.info? 67).map (λi=>(i.zero,i.size,i.bytes))=some (some (.agg #[.string ⟨#[]⟩,.int .i64 0,.int .i64 0,.slice none 0 0]),4,56):=kqk;go_loopg [8]n(λgk v wr=>∃i:Nat,i<=n/\n-i<=gk/\v=.int .i64 i/\Hid (Below w.heap.size w wr)/\Hid ((l.take i).any b=false));case atStart=>exact⟨0,qqy _,qqf _,rfl,hqh (qjk _ _),hqh (by simp)⟩
 case round=>
  obtain⟨i,hi,R,rfl,d,t⟩:=hrel;by_cases M:i<n;case neg=>have q:decide ((i:Int)<(n:Int))=false:=qqt oqo;go_wp2_with fail;go_ret;refine⟨⟨-1,rfl,⟨λh=>absurd h oqo,λh=>?_⟩⟩,d.o⟩;have:=t.o;rw[jqc (by have:=u.o;omega),h]at this;cases this
  case pos=>
   have q:decide ((i:Int)<(n:Int))=true:=qqx oqo;have L:i<l.length:=by rw[<-u.o];exact M
   obtain⟨y,g⟩:∃y,l[i]? =some y:=⟨_,qqh L⟩;obtain⟨f,o,rfl,J⟩:∃f o,A=some ⟨f,o,none⟩/\jA wr f (o+i*4) y:=by
    rcases H.o with rfl|⟨f,o,e,k⟩;·simp at g
    ·exact⟨f,o,e,(k i y g).below d.o⟩
   obtain⟨N,T,U,V,_,_⟩:=J;unfold fnV at s;have lb:=aK N;have P:=E.o;have C:=hqh (s.o y (qqr g) wr d.o);have z:=hqh g;clear g;have S:(i:Int)<(n:Int):=oqo;go_wp2_with fail;refine C.o.mono ?_;rintro e w1⟨rfl,B⟩;have m:=hqh (d.o.trans (B.mono (by have:=d.o.size;omega)));clear B;cases j:b y;case true=>have G:=hqh (show l.any b=true from jqv.2 ⟨y,qqr z.o,j⟩);clear j;go_wp2_with fail;go_ret;exact⟨⟨(i:Int),rfl,λ_=>G.o,λ_=>by omega⟩,m.o⟩
   case false=>have D:=hqh (show(l.take (i+1)).any b=false by rw[jqu,z.o];simp[t.o,j]);clear j;go_wp2_with fail;cases gk with|zero=>omega|succ gk=>
     go_roundg gk;case measure=>omega
     case rel=>exact⟨i+1,by omega,by omega,by simp,m,D⟩
theorem Uh(v:Value)(l:List FnG)(F:Nat)(p:Value)(w:World)(b:FnG->Bool)(h:pO w v l)(hl:l.length<=1000000)(d:∀a W,(callFunc F #[a,p]).run Tryz.prog W=.ok (.enter F #[a,p]) W)(hc:∀x∈l,∀W,Below w.heap.size w W->Calls Tryz.prog F #[(fnV x),p] W λe j=>e=.returned (.bool (b x))/\Below W.heap.size W j):Calls Tryz.prog 44 #[v,.func (.func F) #[] #[p]] w λe w'=>e=.returned (.bool (l.any b))/\Below w.heap.size w w':=by
 have g:=hqh (Rx v l F p w b h hl d hc);clear h hl d hc;go_enter Tryz.func44,Tryz.ntmps44;go_wp2_with fail;refine g.o.mono ?_;rintro e w1⟨⟨r,rfl,hr⟩,c⟩;have HR:=hqh hr;have f:=hqh c;clear hr c;have hd:l.any b=decide (0<=r):=by rw[qzd,qqu];exact HR.o.symm
 have i:=hqh hd;clear hd;cases h0:decide (0<=r);all_goals go_wp2_with fail
 all_goals go_ret
 all_goals exact⟨aO (by rw[i.o,h0]),f.o⟩
theorem TT(v:Value)(l:List InV)(F:Nat)(p q:Value)(w:World)(b:InV->Bool)(h:dW w v l)(hl:l.length<=1000000)(Q:∀a W,(callFunc F #[a,p,q]).run Tryz.prog W=.ok (.enter F #[a,p,q]) W)(hc:∀x∈l,∀W,Below w.heap.size w W->Calls Tryz.prog F #[(ax x),p,q] W λe I=>e=.returned (.bool (b x))/\Below W.heap.size W I):Calls Tryz.prog 109 #[v,.func (.func F) #[] #[p,q]] w λe w'=>(∃r:Int,e=.returned (.int .i64 r)/\(0<=r↔l.any b=true))/\Below w.heap.size w w':=by
 obtain⟨A,c,rfl,K,h⟩:=h;obtain⟨n,hn⟩:∃n,n=l.length:=⟨_,rfl⟩;rw[<-hn];have H:=hqh h;have u:=hqh hn;have E:=hqh hl;have s:=hqh hc;clear h hn K hl hc;go_enter Tryz.func109,Tryz.ntmps109;go_wp2_with fail;have O:(Tryz.prog.info? 71).map (λi=>(i.zero,i.size,i.bytes))=some (some (.agg #[.int .u8 0,.int .i64 0,.int .i64 0,.int .i64 0,.int .i64 0,.int .u8 0,.slice none 0 0,.int .i64 0,.int .i64 0,.int .i64 0]),10,96):=kqk;go_loopg [8]n(λgk v wr=>∃i:Nat,i<=n/\n-i<=gk/\v=.int .i64 i/\Hid (Below w.heap.size w wr)/\Hid ((l.take i).any b=false));case atStart=>exact⟨0,qqy _,qqf _,rfl,hqh (qjk _ _),hqh (by simp)⟩
 case round=>
  obtain⟨i,hi,R,rfl,d,t⟩:=hrel;by_cases M:i<n;case neg=>have q:decide ((i:Int)<(n:Int))=false:=qqt oqo;go_wp2_with fail;go_ret;refine⟨⟨-1,rfl,⟨λh=>absurd h oqo,λh=>?_⟩⟩,d.o⟩;have:=t.o;rw[jqc (by have:=u.o;omega),h]at this;cases this
  case pos=>
   have q:decide ((i:Int)<(n:Int))=true:=qqx oqo;have L:i<l.length:=by rw[<-u.o];exact M
   obtain⟨y,g⟩:∃y,l[i]? =some y:=⟨_,qqh L⟩;obtain⟨f,o,rfl,J⟩:∃f o,A=some ⟨f,o,none⟩/\fu wr f (o+i*10) y:=by
    rcases H.o with rfl|⟨f,o,e,k⟩;·simp at g
    ·exact⟨f,o,e,(k i y g).below d.o⟩
   obtain⟨N,T,U,V,X,Y,Z,y7,y8,y9,_⟩:=J;unfold ax at s;have lb:=aK N;have P:=E.o;have C:=hqh (s.o y (qqr g) wr d.o);have z:=hqh g;clear g;have S:(i:Int)<(n:Int):=oqo;go_wp2_with fail;refine C.o.mono ?_;rintro e w1⟨rfl,B⟩;have m:=hqh (d.o.trans (B.mono (by have:=d.o.size;omega)));clear B;cases j:b y;case true=>have G:=hqh (show l.any b=true from jqv.2 ⟨y,qqr z.o,j⟩);clear j;go_wp2_with fail;go_ret;exact⟨⟨(i:Int),rfl,λ_=>G.o,λ_=>by omega⟩,m.o⟩
   case false=>have D:=hqh (show(l.take (i+1)).any b=false by rw[jqu,z.o];simp[t.o,j]);clear j;go_wp2_with fail;cases gk with|zero=>omega|succ gk=>
     go_roundg gk;case measure=>omega
     case rel=>exact⟨i+1,by omega,by omega,by simp,m,D⟩
theorem Sa(v:Value)(l:List InV)(F:Nat)(p q:Value)(w:World)(b:InV->Bool)(h:dW w v l)(hl:l.length<=1000000)(d:∀a W,(callFunc F #[a,p,q]).run Tryz.prog W=.ok (.enter F #[a,p,q]) W)(hc:∀x∈l,∀W,Below w.heap.size w W->Calls Tryz.prog F #[(ax x),p,q] W λe j=>e=.returned (.bool (b x))/\Below W.heap.size W j):Calls Tryz.prog 46 #[v,.func (.func F) #[] #[p,q]] w λe w'=>e=.returned (.bool (l.any b))/\Below w.heap.size w w':=by
 have g:=hqh (TT v l F p q w b h hl d hc);clear h hl d hc;go_enter Tryz.func46,Tryz.ntmps46;go_wp2_with fail;refine g.o.mono ?_;rintro e w1⟨⟨r,rfl,hr⟩,c⟩;have HR:=hqh hr;have f:=hqh c;clear hr c;have hd:l.any b=decide (0<=r):=by rw[qzd,qqu];exact HR.o.symm
 have i:=hqh hd;clear hd;cases h0:decide (0<=r);all_goals go_wp2_with fail
 all_goals go_ret
 all_goals exact⟨aO (by rw[i.o,h0]),f.o⟩
