/- Joint text: EwO, EwT, HOneB, HOneC, HAll, HIdx. By an AI agent. -/
import Derived.Test.YtgdibfnpkcdiiaaGreatDoorS13
set_option linter.all false
set_option maxRecDepth 100000
set_option maxHeartbeats 64000000
noncomputable section
namespace Go.Proofs.YtgdibfnpkcdiiaaGreatDoor
namespace Ev
def okF(X:Nat->Nat->Option bY)(f:Nat):Bool:=match Tryz.prog.funcs[f]? with
 |some fn=>match fn.body with|some c=>okX Tryz.prog K0 (X f) fn.ntmps c|none=>true
 |none=>true
def QN(P:Program)(K:Kon)(n:Nat):∀c:Code,okX P K (λ_=>none) n c=true:=λc=>by induction c with|region id ops d=>cases d<;>rfl|seq a b ha e=>show(okX P K _ n a&&okX P K _ n b)=true;rw[ha,e];rfl|cond _ a b ha e=>show(okX P K _ n a&&okX P K _ n b)=true;rw[ha,e];rfl|block _ b e=>exact e|loop b e=>exact e|_=>rfl
def x24(i:Nat):Option bY:=sel (Nat.beq i 7) (some ⟨none,[0,1,2,3,4,5],[0,1,2,3,4,5],[⟨6,[],[4,3,2,1,0],[5]⟩,⟨7,[],[4,3,2,1,0],[6,5]⟩,⟨8,[9,10],[10,9,0],[7,6,5,4,3,2,1]⟩,⟨11,[],[],[10,9,8,7,6,5,4,3,2,1,0]⟩]⟩) (none)
def x29(i:Nat):Option bY:=sel (Nat.beq i 6) (some ⟨none,[0,1,2,3,4,5,6,7,8],[0,1,2,3,4,5,6,7,8],[]⟩) (none)
def x33(i:Nat):Option bY:=sel (Nat.beq i 8) (some ⟨none,[0,1,2,3,4,5,6,7,8,9,10],[0,1,2,3,4,5,6,7,8,9,10],[⟨11,[],[10,9,8,7,6,5,4,3,2,1,0],[]⟩,⟨12,[],[],[11,10,9,8,7,6,5,4,3,2,1,0]⟩]⟩) (sel (Nat.beq i 10) (some ⟨none,[0,1,2,3,4,5,6,7,8,9],[0,1,2,3,4,5,6,7,8,9],[⟨10,[],[],[9,8,7,6,5,4,3,2,1,0]⟩]⟩) (none))
def x61(i:Nat):Option bY:=sel (Nat.beq i 6) (some ⟨none,[0,1,2,3,4,5,6,7,8],[0,1,2,3,4,5,6,7,8],[]⟩) (none)
def x67(i:Nat):Option bY:=sel (Nat.beq i 1) (some ⟨none,[0,1,3,4],[0,1,3,4],[⟨2,[6],[6,4,3],[1,0]⟩,⟨5,[],[6],[4,3,2,1,0]⟩,⟨7,[8],[8],[6,5,4,3,2,1,0]⟩,⟨9,[],[],[8,7,6,5,4,3,2,1,0]⟩]⟩) (none)
def x69(i:Nat):Option bY:=sel (Nat.beq i 3) (some ⟨none,[0,1,2,3,4,5,6,7],[0,1,2,3,4,5,6,7],[⟨8,[],[],[7,6,5,4,3,2,1,0]⟩]⟩) (none)
def x71(i:Nat):Option bY:=sel (Nat.beq i 1) (some ⟨none,[0,1,2,3,4,5,6,7,8],[0,1,2,3,4,5,6,7,8],[⟨9,[],[],[8,7,6,5,4,3,2,1,0]⟩]⟩) (none)
def x73(i:Nat):Option bY:=sel (Nat.beq i 1) (some ⟨none,[0,1,2,3,4,5,6,7,8],[0,1,2,3,4,5,6,7,8],[⟨9,[],[],[8,7,6,5,4,3,2,1,0]⟩]⟩) (none)
def x74(i:Nat):Option bY:=sel (Nat.beq i 1) (some ⟨none,[0,1,2,3,4,5,6,7,8,9,10,11,12,13,14],[0,1,2,3,4,5,6,7,8,9,10,11,12,13,14],[⟨15,[16],[16,2,1,0],[14,13,12,11,10,9,8,7,6,5,4,3]⟩,⟨17,[],[],[16,15,14,13,12,11,10,9,8,7,6,5,4,3,2,1,0]⟩]⟩) (none)
def x77(i:Nat):Option bY:=sel (Nat.beq i 1) (some ⟨none,[0,1,2,3,4,5,6,7],[0,1,2,3,4,5,6,7],[⟨8,[],[],[7,6,5,4,3,2,1,0]⟩]⟩) (none)
def x83(i:Nat):Option bY:=sel (Nat.beq i 4) (some ⟨none,[0,1,2,7,8,9,10,11,12],[0,1,2,7,8,9,10,11,12],[⟨3,[4,5,6,13],[13,6,5,4,12,11,10,9,8,7],[2,1,0]⟩,⟨14,[],[],[13,12,11,10,9,8,7,6,5,4,3,2,1,0]⟩]⟩) (none)
def x84(i:Nat):Option bY:=sel (Nat.beq i 1) (some ⟨none,[0,1,2,4,5],[0,1,2,4,5],[⟨3,[6,7],[7,6,5,4],[2,1,0]⟩,⟨8,[],[],[7,6,5,4,3,2,1,0]⟩]⟩) (none)
def aaM(i:Nat):Option bY:=sel (Nat.beq i 15) (some ⟨none,[0,1,2,3,4,5,6,7,8,9,10,11,12,13,14,15],[0,1,2,3,4,5,6,7,8,9,10,11,12,13,14,15],[]⟩) (sel (Nat.beq i 17) (some ⟨none,[0,1,2,3,4,5,6,7,8,9,10,11,12,13,14,15,16,17],[0,1,2,3,4,5,6,7,8,9,10,11,12,13,14,15,16,17],[⟨18,[],[1,0],[17,16,15,14,13,12,11,10,9,8,7,6,5,4,3,2]⟩,⟨19,[20],[20],[18,17,16,15,14,13,12,11,10,9,8,7,6,5,4,3,2,1,0]⟩,⟨21,[],[],[20,19,18,17,16,15,14,13,12,11,10,9,8,7,6,5,4,3,2,1,0]⟩]⟩) (none))
def aay(i:Nat):Option bY:=sel (Nat.beq i 1) (some ⟨none,[0,1,2,3,4],[0,1,2,3,4],[⟨5,[],[3,2,1,0],[4]⟩,⟨6,[7],[7,0],[5,4,3,2,1]⟩,⟨8,[],[],[7,6,5,4,3,2,1,0]⟩]⟩) (none)
def aaH(i:Nat):Option bY:=sel (Nat.beq i 3) (some ⟨(some 2),[0,3,4,5],[0,3,4,5],[⟨1,[],[5,4,3],[0]⟩,⟨2,[],[5,4,3],[]⟩,⟨6,[7,8],[8,7],[5,4,3,2,1,0]⟩,⟨9,[],[],[8,7,6,5,4,3,2,1,0]⟩,⟨10,[],[],[9,8,7,6,5,4,3,2,1,0]⟩]⟩) (sel (Nat.beq i 8) (some ⟨none,[0,1,2,3,4,5],[0,1,2,3,4,5],[⟨6,[],[5,4,3,2,1],[0]⟩,⟨7,[],[5],[6,4,3,2,1,0]⟩,⟨8,[],[],[7,6,5,4,3,2,1,0]⟩]⟩) (none))
def Z6(i:Nat):Option bY:=sel (Nat.beq i 2) (some ⟨none,[0,1,2,3,4,5,6,7,8],[0,1,2,3,4,5,6,7,8],[⟨9,[],[4,3,2,1,0],[8,7,6,5]⟩,⟨10,[11,12],[12,11,0],[9,8,7,6,5,4,3,2,1]⟩,⟨13,[],[],[12,11,10,9,8,7,6,5,4,3,2,1,0]⟩]⟩) (none)
def aao(i:Nat):Option bY:=sel (Nat.beq i 5) (some ⟨none,[0,1,2,3,4,5,6,7,8],[0,1,2,3,4,5,6,7,8],[⟨9,[10,11],[11,10,2,1,0],[8,7,6,5,4,3]⟩,⟨12,[],[],[11,10,9,8,7,6,5,4,3,2,1,0]⟩]⟩) (none)
def aaz(i:Nat):Option bY:=sel (Nat.beq i 9) (some ⟨none,[0,1,2,3,4,5,6],[0,1,2,3,4,5,6],[⟨7,[8],[8,0],[6,5,4,3,2,1]⟩,⟨9,[],[],[8,7,6,5,4,3,2,1,0]⟩]⟩) (none)
def Z5(i:Nat):Option bY:=sel (Nat.beq i 9) (some ⟨none,[0,1,2,3,4,5,6,7,8,9,10,11,12,13,14,15,16,17,18,19,20,21],[0,1,2,3,4,5,6,7,8,9,10,11,12,13,14,15,16,17,18,19,20,21],[]⟩) (sel (Nat.beq i 15) (some ⟨none,[0,1,2,3,4,5,6,7,8,9,10,11],[0,1,2,3,4,5,6,7,8,9,10,11],[⟨12,[],[],[11,10,9,8,7,6,5,4,3,2,1,0]⟩,⟨13,[],[],[12,11,10,9,8,7,6,5,4,3,2,1,0]⟩]⟩) (sel (Nat.beq i 18) (some ⟨none,[0,1,2,3,4,5,6,7,8,9,10,11],[0,1,2,3,4,5,6,7,8,9,10,11],[⟨12,[],[],[11,10,9,8,7,6,5,4,3,2,1,0]⟩]⟩) (none)))
def aan(i:Nat):Option bY:=sel (Nat.beq i 17) (some ⟨none,[0,1,2,3,4,5,6,7,8,9,10,11,12,13,14,15,16,17,18,19,20,21],[0,1,2,3,4,5,6,7,8,9,10,11,12,13,14,15,16,17,18,19,20,21],[⟨22,[],[0],[21,20,19,18,17,16,15,14,13,12,11,10,9,8,7,6,5,4,3,2,1]⟩,⟨23,[],[],[22,21,20,19,18,17,16,15,14,13,12,11,10,9,8,7,6,5,4,3,2,1,0]⟩]⟩) (sel (Nat.beq i 30) (some ⟨none,[0,1,2,3,4,5,6,7,8,9,10,11,12,13,14,15,16,17,18,19],[0,1,2,3,4,5,6,7,8,9,10,11,12,13,14,15,16,17,18,19],[⟨20,[],[19,18,17,16,15,14,13,12,11,10,9,8,7,6,5,4,3,2,1,0],[]⟩,⟨21,[],[],[20,19,18,17,16,15,14,13,12,11,10,9,8,7,6,5,4,3,2,1,0]⟩]⟩) (sel (Nat.beq i 34) (some ⟨none,[0,1,2,3],[0,1,2,3],[⟨4,[],[1,0],[3,2]⟩,⟨5,[],[1,0],[4,3,2]⟩,⟨6,[7],[7],[5,4,3,2,1,0]⟩,⟨8,[],[],[7,6,5,4,3,2,1,0]⟩]⟩) (none)))
def aae(i:Nat):Option bY:=sel (Nat.beq i 2) (some ⟨none,[0,1,2,3,4,5,6,7,8,9,10,11],[0,1,2,3,4,5,6,7,8,9,10,11],[⟨12,[],[],[11,10,9,8,7,6,5,4,3,2,1,0]⟩]⟩) (sel (Nat.beq i 3) (some ⟨none,[0,1,2,3,4,5,6,7,8,9],[0,1,2,3,4,5,6,7,8,9],[⟨10,[],[],[9,8,7,6,5,4,3,2,1,0]⟩]⟩) (none))
def aaq(i:Nat):Option bY:=sel (Nat.beq i 3) (some ⟨none,[0,1,2,3,4,5,6,7,8,9,10,11,12],[0,1,2,3,4,5,6,7,8,9,10,11,12],[⟨13,[],[],[12,11,10,9,8,7,6,5,4,3,2,1,0]⟩]⟩) (sel (Nat.beq i 5) (some ⟨none,[0,1,2,3,4,5,6,7,8,9,10],[0,1,2,3,4,5,6,7,8,9,10],[⟨11,[],[5,4,3,2,1,0],[10,9,8,7,6]⟩,⟨12,[13,14,15],[15,14,13,0],[11,10,9,8,7,6,5,4,3,2,1]⟩,⟨16,[],[],[15,14,13,12,11,10,9,8,7,6,5,4,3,2,1,0]⟩]⟩) (sel (Nat.beq i 6) (some ⟨none,[0,1,2,4,5,6,7,8,9,10,11,12],[0,1,2,4,5,6,7,8,9,10,11,12],[⟨3,[13,14,15,16,17,18,19,20,21,22],[22,21,20,19,18,17,16,15,14,13,12,11,10,9,8,7,6,5,4],[2,1,0]⟩,⟨23,[],[],[22,21,20,19,18,17,16,15,14,13,12,11,10,9,8,7,6,5,4,3,2,1,0]⟩,⟨24,[],[],[23,22,21,20,19,18,17,16,15,14,13,12,11,10,9,8,7,6,5,4,3,2,1,0]⟩,⟨25,[],[],[24,23,22,21,20,19,18,17,16,15,14,13,12,11,10,9,8,7,6,5,4,3,2,1,0]⟩,⟨26,[],[],[25,24,23,22,21,20,19,18,17,16,15,14,13,12,11,10,9,8,7,6,5,4,3,2,1,0]⟩]⟩) (sel (Nat.beq i 7) (some ⟨none,[0,1,2,3,4,5,6,7,8,9,10,11,12],[0,1,2,3,4,5,6,7,8,9,10,11,12],[⟨13,[],[],[12,11,10,9,8,7,6,5,4,3,2,1,0]⟩]⟩) (sel (Nat.beq i 10) (some ⟨none,[0,1,2,3,4,5,6,7,8,9,10],[0,1,2,3,4,5,6,7,8,9,10],[⟨11,[],[5,4,3,2,1,0],[10,9,8,7,6]⟩,⟨12,[13,14,15],[15,14,13,0],[11,10,9,8,7,6,5,4,3,2,1]⟩,⟨16,[],[],[15,14,13,12,11,10,9,8,7,6,5,4,3,2,1,0]⟩]⟩) (sel (Nat.beq i 11) (some ⟨none,[0,1,2,4,5,6,7,8,9,10,11,12],[0,1,2,4,5,6,7,8,9,10,11,12],[⟨3,[13,14,15,16,17,18,19,20,21,22],[22,21,20,19,18,17,16,15,14,13,12,11,10,9,8,7,6,5,4],[2,1,0]⟩,⟨23,[],[],[22,21,20,19,18,17,16,15,14,13,12,11,10,9,8,7,6,5,4,3,2,1,0]⟩,⟨24,[],[],[23,22,21,20,19,18,17,16,15,14,13,12,11,10,9,8,7,6,5,4,3,2,1,0]⟩,⟨25,[],[],[24,23,22,21,20,19,18,17,16,15,14,13,12,11,10,9,8,7,6,5,4,3,2,1,0]⟩,⟨26,[],[],[25,24,23,22,21,20,19,18,17,16,15,14,13,12,11,10,9,8,7,6,5,4,3,2,1,0]⟩]⟩) (none))))))
def aaw(i:Nat):Option bY:=sel (Nat.beq i 19) (some ⟨none,[0,1,2,3,4,5,6,7,8],[0,1,2,3,4,5,6,7,8],[⟨9,[],[3,2,1,0],[8,7,6,5,4]⟩,⟨10,[],[],[9,8,7,6,5,4,3,2,1,0]⟩,⟨11,[],[],[10,9,8,7,6,5,4,3,2,1,0]⟩]⟩) (none)
def aaK(i:Nat):Option bY:=sel (Nat.beq i 6) (some ⟨none,[0,1,2,3,4,5,6,7,8,9,10],[0,1,2,3,4,5,6,7,8,9,10],[]⟩) (sel (Nat.beq i 9) (some ⟨none,[0,1,2,3,4,5,6,7,8,9,10],[0,1,2,3,4,5,6,7,8,9,10],[]⟩) (none))
def aak(i:Nat):Option bY:=sel (Nat.beq i 52) (some ⟨none,[0,1,2,3,4,5,6,7,8,9,10,11,12,13,14],[0,1,2,3,4,5,6,7,8,9,10,11,12,13,14],[⟨15,[],[0],[14,13,12,11,10,9,8,7,6,5,4,3,2,1]⟩,⟨16,[],[],[15,14,13,12,11,10,9,8,7,6,5,4,3,2,1,0]⟩]⟩) (none)
def aap(i:Nat):Option bY:=sel (Nat.beq i 0) (some ⟨none,[0,1,2,3,4,5,6,7,8,9,10,11],[0,1,2,3,4,5,6,7,8,9,10,11],[⟨12,[],[],[11,10,9,8,7,6,5,4,3,2,1,0]⟩]⟩) (none)
def aaJ(i:Nat):Option bY:=sel (Nat.beq i 3) (some ⟨none,[0,1,2,3,4,5,6,7,8,9,10],[0,1,2,3,4,5,6,7,8,9,10],[⟨11,[],[],[10,9,8,7,6,5,4,3,2,1,0]⟩]⟩) (sel (Nat.beq i 4) (some ⟨none,[0,1,2,3,4,5,6,7,8,9,10],[0,1,2,3,4,5,6,7,8,9,10],[⟨11,[],[4,3,2,1,0],[10,9,8,7,6,5]⟩,⟨12,[13,14],[14,13,0],[11,10,9,8,7,6,5,4,3,2,1]⟩,⟨15,[],[],[14,13,12,11,10,9,8,7,6,5,4,3,2,1,0]⟩]⟩) (none))
def aam(i:Nat):Option bY:=sel (Nat.beq i 7) (some ⟨none,[0,1,2],[0,1,2],[⟨3,[4,5,6],[6,5,4,1,0],[2]⟩,⟨7,[8,9,10],[10,9,8,1],[6,5,4,3,2,0]⟩,⟨11,[],[],[10,9,8,7,6,5,4,3,2,1,0]⟩]⟩) (none)
def X0(f i:Nat):Option bY:=sel (Nat.beq f 24) (x24 i) (sel (Nat.beq f 29) (x29 i) (sel (Nat.beq f 33) (x33 i) (sel (Nat.beq f 61) (x61 i) (sel (Nat.beq f 67) (x67 i) (sel (Nat.beq f 69) (x69 i) (sel (Nat.beq f 71) (x71 i) (sel (Nat.beq f 73) (x73 i) (sel (Nat.beq f 74) (x74 i) (sel (Nat.beq f 77) (x77 i) (sel (Nat.beq f 83) (x83 i) (sel (Nat.beq f 84) (x84 i) (sel (Nat.beq f 106) (aaM i) (sel (Nat.beq f 122) (aay i) (sel (Nat.beq f 144) (aaH i) (sel (Nat.beq f 170) (Z6 i) (sel (Nat.beq f 172) (aao i) (sel (Nat.beq f 173) (aaz i) (sel (Nat.beq f 174) (Z5 i) (sel (Nat.beq f 176) (aan i) (sel (Nat.beq f 177) (aae i) (sel (Nat.beq f 205) (aaq i) (sel (Nat.beq f 212) (aaw i) (sel (Nat.beq f 237) (aaK i) (sel (Nat.beq f 238) (aak i) (sel (Nat.beq f 256) (aap i) (sel (Nat.beq f 282) (aaJ i) (sel (Nat.beq f 316) (aam i) (none))))))))))))))))))))))))))))
def aal:okF X0 24=true:=kqk
def aab:okF X0 29=true:=kqk
def aag:okF X0 33=true:=kqk
def aaI:okF X0 61=true:=kqk
def aaa:okF X0 67=true:=kqk
def aax:okF X0 69=true:=kqk
def aaA:okF X0 71=true:=kqk
def Z8:okF X0 73=true:=kqk
def Z7:okF X0 74=true:=kqk
def aaD:okF X0 77=true:=kqk
def aav:okF X0 83=true:=kqk
def aaF:okF X0 84=true:=kqk
def ZY:okF X0 106=true:=kqk
def Zz:okF X0 122=true:=kqk
def ZX:okF X0 144=true:=kqk
def ZT:okF X0 170=true:=kqk
def Zn:okF X0 172=true:=kqk
def Zk:okF X0 173=true:=kqk
def Zv:okF X0 174=true:=kqk
def Zj:okF X0 176=true:=kqk
def YX:okF X0 177=true:=kqk
def ZP:okF X0 205=true:=kqk
def Zr:okF X0 212=true:=kqk
def ZG:okF X0 237=true:=kqk
def Zq:okF X0 238=true:=kqk
def ZW:okF X0 256=true:=kqk
def ZE:okF X0 282=true:=kqk
def ZQ:okF X0 316=true:=kqk
def UC:∀f fn c,Tryz.prog.funcs[f]? =some fn->fn.body=some c->okX Tryz.prog K0 (X0 f) fn.ntmps c=true:=λf fn c hf L=>by
 have use:okF X0 f=true->okX Tryz.prog K0 (X0 f) fn.ntmps c=true:=λh=>by unfold okF at h;rw[hf]at h;dsimp only at h;rw[L]at h;exact h
 by_cases u:f=24;·subst u;exact use aal
 by_cases y:f=29;·subst y;exact use aab
 by_cases A:f=33;·subst A;exact use aag
 by_cases B:f=61;·subst B;exact use aaI
 by_cases C:f=67;·subst C;exact use aaa
 by_cases D:f=69;·subst D;exact use aax
 by_cases E:f=71;·subst E;exact use aaA
 by_cases G:f=73;·subst G;exact use Z8
 by_cases H:f=74;·subst H;exact use Z7
 by_cases I:f=77;·subst I;exact use aaD
 by_cases J:f=83;·subst J;exact use aav
 by_cases K:f=84;·subst K;exact use aaF
 by_cases b:f=106;·subst b;exact use ZY
 by_cases d:f=122;·subst d;exact use Zz
 by_cases e:f=144;·subst e;exact use ZX
 by_cases g:f=170;·subst g;exact use ZT
 by_cases j:f=172;·subst j;exact use Zn
 by_cases l:f=173;·subst l;exact use Zk
 by_cases m:f=174;·subst m;exact use Zv
 by_cases n:f=176;·subst n;exact use Zj
 by_cases p:f=177;·subst p;exact use YX
 by_cases q:f=205;·subst q;exact use ZP
 by_cases r:f=212;·subst r;exact use Zr
 by_cases s:f=237;·subst s;exact use ZG
 by_cases t:f=238;·subst t;exact use Zq
 by_cases w:f=256;·subst w;exact use ZW
 by_cases x:f=282;·subst x;exact use ZE
 by_cases z:f=316;·subst z;exact use ZQ
 have h:X0 f=λ_=>none:=by
  funext i;unfold X0;have a:∀k,f≠k->Nat.beq f k=false:=λk hk=>by cases h:Nat.beq f k with|true=>exact absurd (ah h) hk|false=>rfl
  rw[a 24 u,ag];rw[a 29 y,ag];rw[a 33 A,ag];rw[a 61 B,ag];rw[a 67 C,ag];rw[a 69 D,ag];rw[a 71 E,ag];rw[a 73 G,ag];rw[a 74 H,ag];rw[a 77 I,ag];rw[a 83 J,ag];rw[a 84 K,ag];rw[a 106 b,ag];rw[a 122 d,ag];rw[a 144 e,ag];rw[a 170 g,ag];rw[a 172 j,ag];rw[a 173 l,ag];rw[a 174 m,ag];rw[a 176 n,ag];rw[a 177 p,ag];rw[a 205 q,ag];rw[a 212 r,ag];rw[a 237 s,ag];rw[a 238 t,ag];rw[a 256 w,ag];rw[a 282 x,ag];rw[a 316 z,ag]
 rw[h];exact QN _ _ _ _
end Ev
open Go.RowKit
namespace Ev
def kOf(n:Nat):IntKind:=match n with|0=>.i8|1=>.i16|2=>.i32|3=>.i64|4=>.u8|5=>.u16|6=>.u32|_=>.u64
def YL(k:IntKind):kOf (kc k)=k:=by cases k<;>rfl
def ME(S w:Nat):Option Value:=if w%16=3 then some (.string (strOf S (sa w) (ln w)))else if w%16=1 then some (.bool (Nat.beq w 17))else if w%16=2 then some (.int (kOf (w/16%16)) ((w/256:Nat)-9223372036854775808))else none
def Ie(S R s:Nat):Nat->Option (List Value)|0=>some []|k+1=>match Ie S R s k,ME S (gt R (s+k))with|some l,some v=>some (l++[v])|_,_=>none
def Mj(S R x:Nat):Option Value:=if x%16=12 then(Ie S R (sa x) (ln x)).map λl=>.agg l.toArray else ME S x
def Bu(S R s:Nat):Nat->Option (List Value)|0=>some []|k+1=>match Bu S R s k,Mj S R (gt R (s+k))with|some l,some v=>some (l++[v])|_,_=>none
def Ru(S R x:Nat):Option Value:=if x%16=13 then(Bu S R (sa x) (ln x)).map λl=>.tuple l.toArray else Mj S R x
def JL{g:Gh}{S R nR w:Nat}{v u:Value}(h:TR g R nR w v)(hS:S=g.S)(e:ME S w=some u):v=u:=by
 unfold ME at e;split at e
 ·rename_i h3;obtain⟨s,l,a,c,i,j,m⟩:=(h.aM oqo oqo oqo (by intro hw;subst hw;cases h3)).sZ h3;injection e with e;have d:sa w=s:=by rw[a];show dE s l/268435456=s;unfold dE;omega
  have f:ln w=l:=by rw[a];show dE s l/16%16777216=l;unfold dE;omega
  rw[c,<-e,d,f,hS]
 split at e;·rename_i h1;obtain⟨b,a,c⟩:=(h.aM oqo oqo oqo (by intro hw;subst hw;cases h1)).iC h1;injection e with e;rw[c,<-e,a];cases b<;>rfl
 ·split at e
  ·rename_i h2;obtain⟨k,n,a,c,i,j⟩:=(h.aM oqo oqo oqo (by intro hw;subst hw;cases h2)).jB h2;injection e with e;have hk:=jy k;have d:w/16%16=kc k:=by rw[a];unfold ay;omega
   have f:((w/256:Nat):Int)-9223372036854775808=n:=by rw[a];unfold ay;omega
   rw[c,<-e,d,f,YL]
  ·cases e
def Jp{g:Gh}{S R nR s:Nat}{vs:Array Value}(hS:S=g.S):∀{k:Nat}{l:List Value},(∀i,i<k->VR g (gt R (s+i)) (vs.getD i undef))->Ie S R s k=some l->l.length=k/\∀i,i<k->vs.getD i undef=l.getD i undef
 |0,l,_,e=>by injection e with e;subst e;exact⟨rfl,λi hi=>absurd hi oqo⟩|k+1,l,h,e=>by
  unfold Ie at e;split at e
  ·rename_i b v0 h1 h2;injection e with e;subst e;obtain⟨a,i2⟩:=Jp (k:=k) (nR:=nR) hS (λi hi=>h i oqo) h1;refine⟨by simp[a],λi hi=>?_⟩;by_cases hk:i<k;·rw[i2 i hk];simp[qqm,List.getElem?_append,a,hk]
   ·have:i=k:=by omega
    subst this;rw[JL (R:=R) (nR:=nR) (.cell _ _ (h i oqo)) hS h2];simp[qqm,a]
  ·cases e
def OD{vs:Array Value}{l:List Value}(h:vs.size=l.length)(k:∀i,i<l.length->vs.getD i undef=l.getD i undef):vs=l.toArray:=by
 apply Array.ext;·simpa using h
 ·intro i h1 h2;have:=k i oqo;simpa [qqg,qqm,h1,show i<l.length by omega]using this
def Jj{g:Gh}{S R nR x:Nat}{v u:Value}(h:TR g R nR x v)(hS:S=g.S)(e:Mj S R x=some u):v=u:=by
 unfold Mj at e;split at e;·rename_i h1;obtain⟨vs,b1,b2,b,c,d,f,a⟩:=h.agg' h1;cases hl:Ie S R (sa x) (ln x)with|none=>rw[hl]at e;cases e|some l=>rw[hl]at e;injection e with e;obtain⟨j,i2⟩:=Jp (nR:=nR) hS a hl;rw[b2,<-e,OD oqo λi hi=>i2 i oqo]
 ·exact JL h hS e
def Fw{g:Gh}{S R nR s:Nat}{vs:Array Value}(hS:S=g.S):∀{k:Nat}{l:List Value},(∀i,i<k->TR g R nR (gt R (s+i)) (vs.getD i undef))->Bu S R s k=some l->l.length=k/\∀i,i<k->vs.getD i undef=l.getD i undef
 |0,l,_,e=>by injection e with e;subst e;exact⟨rfl,λi hi=>absurd hi oqo⟩|k+1,l,h,e=>by
  unfold Bu at e;split at e
  ·rename_i b v0 h1 h2;injection e with e;subst e;obtain⟨a,i2⟩:=Fw (k:=k) hS (λi hi=>h i oqo) h1;refine⟨by simp[a],λi hi=>?_⟩;by_cases hk:i<k;·rw[i2 i hk];simp[qqm,List.getElem?_append,a,hk]
   ·have:i=k:=by omega
    subst this;rw[Jj (h i oqo) hS h2];simp[qqm,a]
  ·cases e
def U4{g:Gh}{S R nR x:Nat}{v u:Value}(h:TR g R nR x v)(hS:S=g.S)(e:Ru S R x=some u):v=u:=by
 unfold Ru at e;split at e
 ·rename_i h1;obtain⟨a,n0,vs,b1,b2,f,j,k,m,b⟩:=h.um h1;have c:ln x=n0:=by rw[b1];unfold ln fJ;show(13+16*n0+268435456*a)/16%16777216=n0;omega
  have d:sa x=a:=by rw[b1];unfold sa fJ;show(13+16*n0+268435456*a)/268435456=a;omega
  rw[c,d]at e;cases hl:Bu S R a n0 with|none=>rw[hl]at e;cases e|some l=>rw[hl]at e;injection e with e;obtain⟨n,i2⟩:=Fw hS b hl;rw[b2,<-e,OD oqo λi hi=>i2 i oqo]
 ·exact Jj h hS e
def uP:Value->Nat| .bool b=>if b=true then 17 else 1| .int k n=>ay k n|_=>0
def vP:Value->Bool| .bool _=>true| .int _ n=>decide (-9223372036854775808<=n)&&decide (n<18446744073709551616)|_=>false
def JR{g:Gh}{v:Value}(h:vP v=true):VR g (uP v) v:=by cases v with
 |bool b=>cases b with|true=>exact VR.bool true|false=>exact VR.bool false
 |int k n=>simp only[vP,qqn,qqu]at h;exact .int k n h.1 h.2|_=>cases h
def eqC:Value->Value->Bool| .bool a,.bool b=>a==b| .int k n,.int j m=>decide (k=j)&&decide (n=m)| .string a,.string b=>decide (a.data=b.data)|_,_=>false
def PN{a b:Value}(h:eqC a b=true):a=b:=by
 unfold eqC at h;split at h;·rw[eq_of_beq h]
 ·simp only[qqn,qqu]at h;rw[h.1,h.2]
 ·rename_i a b;rw[show a=b by cases a;cases b;simpa using h]
 ·cases h
def eqL(f:Value->Value->Bool):List Value->List Value->Bool|[],[]=>true|a::l,b::m=>f a b&&eqL f l m|_,_=>false
def Hq{f:Value->Value->Bool}(hf:∀{a b},f a b=true->a=b):∀{l m:List Value},eqL f l m=true->l=m|[],[],_=>rfl|a::l,b::m,h=>by have h:(f a b&&eqL f l m)=true:=h;simp only[qqn]at h;rw[hf h.1,Hq hf h.2]|[],_::_,h=>nomatch h|_::_,[],h=>nomatch h
def eqA:Value->Value->Bool| .agg a,.agg b=>eqL eqC a.toList b.toList|a,b=>eqC a b
def M0{a b:Value}(h:eqA a b=true):a=b:=by
 unfold eqA at h;split at h;·rename_i x y;have:=Hq PN h;rw[show x=y from Array.toList_inj.1 this]
 ·exact PN h
def eqT:Value->Value->Bool| .tuple a,.tuple b=>eqL eqA a.toList b.toList|a,b=>eqA a b
def Yd{a b:Value}(h:eqT a b=true):a=b:=by
 unfold eqT at h;split at h;·rename_i x y;have:=Hq M0 h;rw[show x=y from Array.toList_inj.1 this]
 ·exact M0 h
def told(r:RS):Option Value:=RS.rec none (λx s=>Ru s.S s.R x) r
def Wq{f:Nat}{fn:Func}{c:Code}(l:List Value){v:Value}(d:l.all vP=true)(hf:Tryz.prog.funcs[f]? =some fn)(hn:(fn.name== "runtime.NumGoroutine")=false)(n:fn.body=some c)(hm:Tryz.prog.follows .mixedOrders=true)(h:told (kC Tryz.prog K0 X0 hk dk 1000000 1000 f ⟨dZ (l.map uP),[(l.length,[])],0,0,0,0,K0.S,K0.n⟩)=some v)(w:World):Calls Tryz.prog f l.toArray w λe w'=>e=.returned v/\Below w.heap.size w w':=by cases hr:kC Tryz.prog K0 X0 hk dk 1000000 1000 f ⟨dZ (l.map uP),[(l.length,[])],0,0,0,0,K0.S,K0.n⟩with|no=>rw[hr]at h;cases h|ok x st'=>
  rw[hr]at h;rw[qqw]at d;have j:∀w∈l.map uP,w<2^128:=λw hw=>by obtain⟨u,hu,rfl⟩:=qjb.1 hw;exact(JR (g:=K0.gh) (d u hu)).lt
  have p:HR K0.gh ⟨dZ (l.map uP),[(l.length,[])],0,0,0,0,K0.S,K0.n⟩ w:=(hr0 w).frame _ _ (R:=0) (nR:=0) Nat.one_pos;have hv:=yR (fuel:=1000000) UC hm Uw Us 1000 f K0.gh _ w l.toArray x st' ⟨qqf _,λ_ _=>rfl⟩ p (by simp) (λi=>by
   rw[gQ _ i j];by_cases hi:i<l.length
   ·have b:(l.map uP).getD i 0=uP l[i]:=by simp[qqm,hi]
    have m:l.toArray.getD i undef=l[i]:=by simp[qqg,hi]
    rw[b,m];exact .cell _ _ (JR (d _ (jxr hi)))
   ·have b:(l.map uP).getD i 0=0:=by simp[qqm,hi]
    rw[b];exact .unk _) (λi hi=>by
   rw[gQ _ i j];have hi:l.length<=i:=by simpa using hi
   simp[qqm,show¬i<l.length by omega]) hr;rcases hv with⟨_,hv⟩|⟨v,w',hv,_⟩
  ·refine hv.mono λe w'⟨u,b,g',a⟩=>?_;have q:∀k,¬Own K0.gh k:=λk hk=>by
    rcases hk with⟨s,base,z,room,hs⟩|⟨s,hs⟩;·cases hs
    ·cases hs
   exact⟨by rw[b,U4 a.tr a.hr.S h],a.fr.os,a.fr.tape,a.fr.output,a.fr.size,λk hk=>a.fr.keep k hk (q k)⟩
  ·rw[uM hf hn n]at hv;cases hv
def tells(f:Nat)(l:List Value)(v:Value):Bool:=match told (kC Tryz.prog K0 X0 hk dk 1000000 1000 f ⟨dZ (l.map uP),[(l.length,[])],0,0,0,0,K0.S,K0.n⟩)with|some u=>eqT u v|none=>false
def Sa{f:Nat}{fn:Func}{c:Code}(l:List Value){v:Value}(b:l.all vP=true)(hf:Tryz.prog.funcs[f]? =some fn)(hn:(fn.name== "runtime.NumGoroutine")=false)(a:fn.body=some c)(hm:Tryz.prog.follows .mixedOrders=true)(h:tells f l v=true)(w:World):Calls Tryz.prog f l.toArray w λe w'=>e=.returned v/\Below w.heap.size w w':=by
 unfold tells at h;split at h;·rename_i u hu;rw[<-Yd h];exact Wq l b hf hn a hm hu w
 ·cases h
def Cr(f:Nat->Bool)(a:Nat):Nat->Bool:=λn=>Nat.rec true (λn ih=>sel (f (Nat.add a n)) ih false) n
def tX{f:Nat->Bool}{a:Nat}:∀{n:Nat},Cr f a n=true->∀i,a<=i->i<a+n->f i=true
 |0,_,i,h1,h2=>absurd h2 oqo|n+1,h,i,h1,h2=>by
  have h:sel (f (a+n)) (Cr f a n) false=true:=h;obtain⟨h3,b⟩:=ZI h;by_cases hi:i=a+n;·rw[hi];exact h3
  ·exact tX b i h1 oqo
end Ev
def xS(o:Nat):Value:=.agg #[.bool (fq o),.bool (fH o),.bool (hasB o),.bool (wh o),.bool (og o),.bool (nY o),.bool (nY o),.bool (sK o),.bool (jq o)]
def vT(o:Nat):Bool:=decide (1<=o/\o<=14)
def mixed:Tryz.prog.follows .mixedOrders=true:=kqk
def Xt:Ev.Cr (λo=>Ev.tells 110 [.int .u8 o] (.tuple #[xS o,.bool (vT o)])) 0 64=true:=kqk
def XI:Ev.Cr (λo=>Ev.tells 110 [.int .u8 o] (.tuple #[xS o,.bool (vT o)])) 64 64=true:=kqk
def Ya:Ev.Cr (λo=>Ev.tells 110 [.int .u8 o] (.tuple #[xS o,.bool (vT o)])) 128 64=true:=kqk
def XF:Ev.Cr (λo=>Ev.tells 110 [.int .u8 o] (.tuple #[xS o,.bool (vT o)])) 192 64=true:=kqk
def M4(o:Nat)(w:World)(h:o<256):Calls Tryz.prog 110 #[.int .u8 o] w λe w'=>e=.returned (.tuple #[xS o,.bool (vT o)])/\Below w.heap.size w w':=by
 refine Ev.Sa [.int .u8 o] (by simp[Ev.vP];omega) Tryz.func110 rfl rfl mixed ?_ w;by_cases h1:o<64;·exact Ev.tX Xt o oqo oqo
 ·by_cases h2:o<128;·exact Ev.tX XI o oqo oqo
  ·by_cases h3:o<192;·exact Ev.tX Ya o oqo oqo
   ·exact Ev.tX XF o oqo oqo
def XT(F:Act):List (Nat×Value)->Prop|[]=>True|(k,v)::l=>F.tmps[k]? =some v/\XT F l
def aN.all{F:Act}:∀{L:List (Nat×Value)},aN F L->XT F L|[],_=>trivial|(_,_)::_,h=>by unfold aN at h;simp only[jqx,jjb]at h;exact⟨h.1,aN.all h.2⟩
section
variable {P:Program}{F:Act}{W:World}{o:Oper}{v:Value}{os:List Oper}{vs:List (Gs×Value)}
def bM(h:(execOp F.eval o).run P W=.ok (.value v) W)(r:eZ P F W os vs):eZ P F W (o::os) ((none,v)::vs):=eZ.cons (bu.val h) r
def Mt{s:Nat}{a b:Bool}(c:F.tmps[s]? =some (.bool b))(h:b=a->(execOp F.eval o).run P W=.ok (.value v) W)(r:eZ P F W os vs):eZ P F W (o::os) ((some (s,a),gd b a v)::vs):=eZ.cons (bu.aaR c h) r
def aaT{s:Nat}{a:Bool}{u:Value}(b:F.tmps[s]? =some u)(r:eZ P F W os vs)(hu:isB u a=false:=by rfl):eZ P F W (o::os) ((some (s,a),undef)::vs):=eZ.cons (bu.skip b hu) r
def pO{s:Nat}{a:Bool}(b:F.tmps[s]? =some (.bool a))(h:(execOp F.eval o).run P W=.ok (.value v) W)(r:eZ P F W os vs):eZ P F W (o::os) ((some (s,a),v)::vs):=eZ.cons (bu.aaQ b h) r
def aaS{s:Nat}{a b:Bool}(f:FuncId)(args:Array Value)(d:F.tmps[s]? =some (.bool b))(h:b=a->(execOp F.eval o).run P W=.ok (.enter f args) W)(hc:b=a->Calls P f args W (λe c=>e=.returned v/\Below W.heap.size W c))(r:eZ P F W os vs):eZ P F W (o::os) ((some (s,a),gd b a v)::vs):=eZ.cons (bu.aaP f args d h hc) r
def aaU{s:Nat}{a:Bool}(f:FuncId)(args:Array Value)(c:F.tmps[s]? =some (.bool a))(h:(execOp F.eval o).run P W=.ok (.enter f args) W)(hc:Calls P f args W (λe b=>e=.returned v/\Below W.heap.size W b))(r:eZ P F W os vs):eZ P F W (o::os) ((some (s,a),v)::vs):=eZ.cons (bu.aaO f args c h hc) r
def rTo{gs:Gs}{u:Value}(e:v=u)(h:bu P F W o gs v)(r:eZ P F W os vs):eZ P F W (o::os) ((gs,u)::vs):=eZ.cons (bu.to e h) r
end
def Yx{P:Program}{F:Act}{W:World}{o:Oper}{os:List Oper}{vs:List (Gs×Value)}{s:Nat}{a:Bool}{u:Value}(b:F.tmps[s]? =some u)(hu:isB u a=false)(r:eZ P F W os vs):eZ P F W (o::os) ((some (s,a),undef)::vs):=eZ.cons (bu.skip b hu) r
def rR{p q:Prop}(k:q)(h:Hid q->p:=by
  intro a;repeat(first
   |(refine bM ?_ ?_;·go_simp)
   | (apply Yx;·with_reducible assumption
      ·rfl)
   | (refine pO ?_ ?_ ?_;·with_reducible assumption
      ·go_simp)
   | (refine Mt ?_ ?_ ?_;·with_reducible assumption
      ·(intro b;clear a;subst b;go_simp)))
  exact a.o):p:=h k
def rZ{p:Prop}(h:p:=by repeat(first
   |exact eZ.nil|(refine bM ?_ ?_;·go_simp)
   | (apply Yx;·with_reducible assumption
      ·rfl)
   | (refine pO ?_ ?_ ?_;·with_reducible assumption
      ·go_simp)
   | (refine Mt ?_ ?_ ?_;·with_reducible assumption
      ·(intro a;subst a;go_simp)))):p:=h
def LF{p:Prop}(h:p:=by
 obtain⟨A,c,rfl,B,h⟩:=h_;obtain⟨n,hn⟩:∃n,n=l_.length:=⟨_,rfl⟩;rw[<-hn];have H:=hqh h;have m:=hqh hn;have w:=hqh hl_;have f:=hqh hc_;clear h hn B hl_ hc_;first|go_enter Tryz.func107,Tryz.ntmps107|go_enter Tryz.func108,Tryz.ntmps108|go_enter Tryz.func109,Tryz.ntmps109
 go_wp2_with fail;have K:(Tryz.prog.info? 67).map (λi=>(i.zero,i.size,i.bytes))=some (some (.agg #[.string ⟨#[]⟩,.int .i64 0,.int .i64 0,.slice none 0 0]),4,56):=kqk;have L:(Tryz.prog.info? 71).map (λi=>(i.zero,i.size,i.bytes))=some (some (.agg #[.int .u8 0,.int .i64 0,.int .i64 0,.int .i64 0,.int .i64 0,.int .u8 0,.slice none 0 0,.int .i64 0,.int .i64 0,.int .i64 0]),10,96):=kqk;go_loopg [8]n(λgk v wr=>∃i:Nat,i<=n/\n-i<=gk/\v=.int .i64 i/\Hid (Below w_.heap.size w_ wr)/\Hid ((l_.take i).any b_=false));case atStart=>exact⟨0,qqy _,qqf _,rfl,hqh (qjk _ _),hqh (by simp)⟩
 case round=>
  obtain⟨i,hi,N,rfl,a,l⟩:=hrel;by_cases D:i<n;case neg=>have q:decide ((i:Int)<(n:Int))=false:=qqt oqo;go_wp2_with fail;go_ret;refine⟨⟨-1,rfl,⟨λh=>absurd h oqo,λh=>?_⟩⟩,a.o⟩;have:=l.o;rw[jqc (by have:=m.o;omega),h]at this;cases this
  case pos=>
   have q:decide ((i:Int)<(n:Int))=true:=qqx oqo;have C:i<l_.length:=by rw[<-m.o];exact D
   obtain⟨y,b⟩:∃y,l_[i]? =some y:=⟨_,qqh C⟩;rcases H.o with rfl|⟨J,o,rfl,k⟩;·simp at b
   have k:=k i y b;first|(unfold kz at k;rw[jzc]at k;have z:=aa a.o k;have lb:=aB z)|(obtain⟨g,E,G,I,_⟩:=jN.below k a.o;unfold fnV at f;have lb:=aB g)|(obtain⟨g,E,G,I,Q,R,S,T,U,V,_⟩:=gF.below k a.o;unfold aJ at f;have lb:=aB g)
   clear k;have M:=w.o;have t:=hqh (f.o y (qqr b) wr a.o);have r:=hqh b;clear b;have O:(i:Int)<(n:Int):=oqo;go_wp2_with fail;refine t.o.mono ?_;rintro e w1⟨rfl,s⟩;have j:=hqh (a.o.trans (s.mono (by have:=a.o.size;omega)));clear s;cases d:b_ y;case true=>have x:=hqh (show l_.any b_=true from jze.2 ⟨y,qqr r.o,d⟩);clear d;go_wp2_with fail;go_ret;exact⟨⟨(i:Int),rfl,λ_=>x.o,λ_=>by omega⟩,j.o⟩
   case false=>have u:=hqh (show(l_.take (i+1)).any b_=false by rw[jqw,r.o];simp[l.o,d]);clear d;go_wp2_with fail;cases gk with|zero=>omega|succ gk=>
     go_roundg gk;case measure=>omega
     case rel=>exact⟨i+1,by omega,by omega,by simp,j,u⟩):p:=h
def Ms{p:Prop}(h:p:=by
 first|go_enter Tryz.func42,Tryz.ntmps42|go_enter Tryz.func44,Tryz.ntmps44|go_enter Tryz.func46,Tryz.ntmps46
 go_wp2_with fail;refine HC_.o.mono ?_;rintro e w1⟨⟨r,rfl,hr⟩,a⟩;have HR:=hqh hr;have b:=hqh a;clear hr a;have hd:l_.any b_=decide (0<=r):=by rw[qzd,qqu];exact HR.o.symm
 have c:=hqh hd;clear hd;cases h0:decide (0<=r);all_goals go_wp2_with fail
 all_goals go_ret
 all_goals exact⟨bR (by rw[c.o,h0]),b.o⟩):p:=h
def Qt(v_:Value)(l_:List Int)(F_:Nat)(w_:World)(b_:Int->Bool)(h_:aD w_ v_ l_)(hl_:l_.length<=1000000)(hent_:∀a W,(callFunc F_ #[a]).run Tryz.prog W=.ok (.enter F_ #[a]) W)(hc_:∀x∈l_,∀W,Below w_.heap.size w_ W->Calls Tryz.prog F_ #[(.int .i64 x)] W λe b=>e=.returned (.bool (b_ x))/\Below W.heap.size W b):Calls Tryz.prog 107 #[v_,.func (.func F_) #[] #[]] w_ λe w'=>(∃r:Int,e=.returned (.int .i64 r)/\(0<=r↔l_.any b_=true))/\Below w_.heap.size w_ w':=LF
def Uc(v_:Value)(l_:List Int)(F_:Nat)(w_:World)(b_:Int->Bool)(h_:aD w_ v_ l_)(hl_:l_.length<=1000000)(hent_:∀a W,(callFunc F_ #[a]).run Tryz.prog W=.ok (.enter F_ #[a]) W)(hc_:∀x∈l_,∀W,Below w_.heap.size w_ W->Calls Tryz.prog F_ #[(.int .i64 x)] W λe b=>e=.returned (.bool (b_ x))/\Below W.heap.size W b):Calls Tryz.prog 42 #[v_,.func (.func F_) #[] #[]] w_ λe w'=>e=.returned (.bool (l_.any b_))/\Below w_.heap.size w_ w':=by have HC_:=hqh (Qt v_ l_ F_ w_ b_ h_ hl_ hent_ hc_);clear h_ hl_ hent_ hc_;exact Ms
def OO(v_:Value)(l_:List Int)(F_:Nat)(p_:Value)(w_:World)(b_:Int->Bool)(h_:aD w_ v_ l_)(hl_:l_.length<=1000000)(hent_:∀a W,(callFunc F_ #[a,p_]).run Tryz.prog W=.ok (.enter F_ #[a,p_]) W)(hc_:∀x∈l_,∀W,Below w_.heap.size w_ W->Calls Tryz.prog F_ #[(.int .i64 x),p_] W λe b=>e=.returned (.bool (b_ x))/\Below W.heap.size W b):Calls Tryz.prog 107 #[v_,.func (.func F_) #[] #[p_]] w_ λe w'=>(∃r:Int,e=.returned (.int .i64 r)/\(0<=r↔l_.any b_=true))/\Below w_.heap.size w_ w':=LF
def sD(v_:Value)(l_:List Int)(F_:Nat)(p_:Value)(w_:World)(b_:Int->Bool)(h_:aD w_ v_ l_)(hl_:l_.length<=1000000)(hent_:∀a W,(callFunc F_ #[a,p_]).run Tryz.prog W=.ok (.enter F_ #[a,p_]) W)(hc_:∀x∈l_,∀W,Below w_.heap.size w_ W->Calls Tryz.prog F_ #[(.int .i64 x),p_] W λe b=>e=.returned (.bool (b_ x))/\Below W.heap.size W b):Calls Tryz.prog 42 #[v_,.func (.func F_) #[] #[p_]] w_ λe w'=>e=.returned (.bool (l_.any b_))/\Below w_.heap.size w_ w':=by have HC_:=hqh (OO v_ l_ F_ p_ w_ b_ h_ hl_ hent_ hc_);clear h_ hl_ hent_ hc_;exact Ms
def Xa(v_:Value)(l_:List FnG)(F_:Nat)(p_:Value)(w_:World)(b_:FnG->Bool)(h_:pJ w_ v_ l_)(hl_:l_.length<=1000000)(hent_:∀a W,(callFunc F_ #[a,p_]).run Tryz.prog W=.ok (.enter F_ #[a,p_]) W)(hc_:∀x∈l_,∀W,Below w_.heap.size w_ W->Calls Tryz.prog F_ #[(fnV x),p_] W λe b=>e=.returned (.bool (b_ x))/\Below W.heap.size W b):Calls Tryz.prog 108 #[v_,.func (.func F_) #[] #[p_]] w_ λe w'=>(∃r:Int,e=.returned (.int .i64 r)/\(0<=r↔l_.any b_=true))/\Below w_.heap.size w_ w':=LF
def U1(v_:Value)(l_:List FnG)(F_:Nat)(p_:Value)(w_:World)(b_:FnG->Bool)(h_:pJ w_ v_ l_)(hl_:l_.length<=1000000)(hent_:∀a W,(callFunc F_ #[a,p_]).run Tryz.prog W=.ok (.enter F_ #[a,p_]) W)(hc_:∀x∈l_,∀W,Below w_.heap.size w_ W->Calls Tryz.prog F_ #[(fnV x),p_] W λe b=>e=.returned (.bool (b_ x))/\Below W.heap.size W b):Calls Tryz.prog 44 #[v_,.func (.func F_) #[] #[p_]] w_ λe w'=>e=.returned (.bool (l_.any b_))/\Below w_.heap.size w_ w':=by have HC_:=hqh (Xa v_ l_ F_ p_ w_ b_ h_ hl_ hent_ hc_);clear h_ hl_ hent_ hc_;exact Ms
def Vk(v_:Value)(l_:List InV)(F_:Nat)(p_ q_:Value)(w_:World)(b_:InV->Bool)(h_:dS w_ v_ l_)(hl_:l_.length<=1000000)(hent_:∀a W,(callFunc F_ #[a,p_,q_]).run Tryz.prog W=.ok (.enter F_ #[a,p_,q_]) W)(hc_:∀x∈l_,∀W,Below w_.heap.size w_ W->Calls Tryz.prog F_ #[(aJ x),p_,q_] W λe b=>e=.returned (.bool (b_ x))/\Below W.heap.size W b):Calls Tryz.prog 109 #[v_,.func (.func F_) #[] #[p_,q_]] w_ λe w'=>(∃r:Int,e=.returned (.int .i64 r)/\(0<=r↔l_.any b_=true))/\Below w_.heap.size w_ w':=LF
def WU(v_:Value)(l_:List InV)(F_:Nat)(p_ q_:Value)(w_:World)(b_:InV->Bool)(h_:dS w_ v_ l_)(hl_:l_.length<=1000000)(hent_:∀a W,(callFunc F_ #[a,p_,q_]).run Tryz.prog W=.ok (.enter F_ #[a,p_,q_]) W)(hc_:∀x∈l_,∀W,Below w_.heap.size w_ W->Calls Tryz.prog F_ #[(aJ x),p_,q_] W λe b=>e=.returned (.bool (b_ x))/\Below W.heap.size W b):Calls Tryz.prog 46 #[v_,.func (.func F_) #[] #[p_,q_]] w_ λe w'=>e=.returned (.bool (l_.any b_))/\Below w_.heap.size w_ w':=by have HC_:=hqh (Vk v_ l_ F_ p_ q_ w_ b_ h_ hl_ hent_ hc_);clear h_ hl_ hent_ hc_;exact Ms
