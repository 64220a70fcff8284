/- Joint text: TM, TN, TO. By an AI agent. -/
import Derived.Test.YtkkeocnnecegbaaGreatDoorQ28
set_option linter.all false
set_option maxRecDepth 100000
set_option maxHeartbeats 64000000
namespace Go.Proofs.YtkkeocnnecegbaaGreatDoor
open Go.RowKit Go.Extern.Stop Go.Stop Go.Extern
theorem JU (e t:Addr) (old:Value) (w:World) (hg:w.cell? ⟨0,0,none⟩=some (.iface 223 (.agg #[.pointer (some ⟨9,108,none⟩)]))) (ht0:w.cell? t=some old) (hf0:w.frozen? t=false) :
  Calls Tryz.prog 67 #[.iface 121 (.pointer (some e)),.iface 123 (.pointer (some t))] w fun ev w'=>ev=.returned (.bool true)∧w'=((((w.alloc (.cells #[.pointer (some t)] 123)).alloc (.cells #[.pointer (some ⟨9,123,none⟩),.pointer (some ⟨w.heap.size,0,none⟩),.int .u64 150] 185)).alloc (.cells #[.pointer (some ⟨9,123,none⟩),.pointer (some ⟨w.heap.size,0,none⟩),.int .u64 150] 185)).alloc (.cells #[.pointer (some e)] 121)).setCell t (.pointer (some e)):=by
 have h6:=@run_callFunc_extern Tryz.prog 116 _ (fun args=>ReflectliteValue.unpack (args.getD 0 (.tuple #[]))) Tryz.func116 (by kernel_rfl) (by kernel_rfl) (by kernel_rfl) (by kernel_rfl)
 have h7:=@run_callFunc_extern Tryz.prog 117 _ (ReflectliteValue.methodAny (ReflectliteValue.valueError "reflectlite.Value.Type" 0) (fun t _ _ _=>ReflectliteType.toType t)) Tryz.func117 (by kernel_rfl) (by kernel_rfl) (by kernel_rfl) (by kernel_rfl)
 have h8:=@run_callFunc_extern Tryz.prog 118 _ (ReflectliteValue.method (ReflectliteValue.valueError "reflectlite.Value.IsNil" 0) ReflectliteValue.isNil) Tryz.func118 (by kernel_rfl) (by kernel_rfl) (by kernel_rfl) (by kernel_rfl)
 have h27:=@run_callFunc_extern Tryz.prog 264 _ (ReflectliteType.abiMethod fun t=>do pure (.int .u8 (← Rtype.kind t))) Tryz.func264 (by kernel_rfl) (by kernel_rfl) (by kernel_rfl) (by kernel_rfl)
 have h37:=@run_callFunc_extern Tryz.prog 279 _ (ReflectliteType.method ReflectliteType.elem) Tryz.func279 (by kernel_rfl) (by kernel_rfl) (by kernel_rfl) (by kernel_rfl)
 have h38:=@run_callFunc_extern Tryz.prog 280 _ (ReflectliteType.relation "Implements" ReflectliteType.implements_) Tryz.func280 (by kernel_rfl) (by kernel_rfl) (by kernel_rfl) (by kernel_rfl)
 have f6:=xB
 have f7:=Da
 have mK:=oM
 have mE:=oO
 have mI:=ku
 have k27:=EA
 have k25:=DI
 have e27:=En
 have i25:=rA
 have n8:=Bu ⟨w.heap.size,0,none⟩ t ((w.alloc (.cells #[.pointer (some t)] 123)).alloc (.cells #[.pointer (some ⟨9,123,none⟩),.pointer (some ⟨w.heap.size,0,none⟩),.int .u64 150] 185)) (by simp)
 have hlt:0<w.heap.size:=by
  rcases Nat.eq_zero_or_pos w.heap.size with h0 | h
  ·simp [World.cell?,h0] at hg
  ·exact h
 have hg2:((w.alloc (.cells #[.pointer (some t)] 123)).alloc (.cells #[.pointer (some ⟨9,123,none⟩),.pointer (some ⟨w.heap.size,0,none⟩),.int .u64 150] 185)).cell? ⟨0,0,none⟩=some (.iface 223 (.agg #[.pointer (some ⟨9,108,none⟩)])):=by
  rw [World.cell?_alloc_lt _ _ ⟨0,0,none⟩ (by simp),World.cell?_alloc_lt _ _ ⟨0,0,none⟩ hlt]; exact hg
 have htl:t.block<w.heap.size:=by
  rcases Nat.lt_or_ge t.block w.heap.size with h | h
  ·exact h
  ·simp [World.cell?,Array.getElem?_eq_none h] at ht0
 have HC:=Lib.hid (Jn e t ⟨w.heap.size,0,none⟩ old ((w.alloc (.cells #[.pointer (some t)] 123)).alloc (.cells #[.pointer (some ⟨9,123,none⟩),.pointer (some ⟨w.heap.size,0,none⟩),.int .u64 150] 185)) (by simp) (by rw [World.cell?_alloc_lt _ _ t (by simp; omega),World.cell?_alloc_lt _ _ t htl]; exact ht0) (by rw [World.frozen?_alloc_old _ _ t (by simp; omega),World.frozen?_alloc_old _ _ t (Nat.ne_of_lt htl)]; exact hf0))
 go_enter Tryz.func67,Tryz.ntmps67
 go_wp2_with fail
 refine HC.out.mono ?_
 rintro e1 w1 ⟨rfl,rfl⟩
 go_wp2_with fail
 go_ret
 exact⟨rfl,rfl⟩
end Go.Proofs.YtkkeocnnecegbaaGreatDoor
namespace Go.Proofs.YtkkeocnnecegbaaGreatDoor
open Go.RowKit Go.Extern.Stop Go.Stop Go.Extern
theorem vV (t:Addr) (w:World):(ReflectliteValue.unpack (.iface 124 (.pointer (some t)))).run Tryz.prog w=.ok (.agg #[.pointer (some ⟨9,124,none⟩),.pointer (some ⟨w.heap.size,0,none⟩),.int .u64 150]) (w.alloc (.cells #[.pointer (some t)] 124)):=by kernel_rfl
theorem AB (a:Addr) (w:World):(ReflectliteValue.methodAny (ReflectliteValue.valueError "reflectlite.Value.Type" 0) (fun t _ _ _=>ReflectliteType.toType t) #[.agg #[.pointer (some ⟨9,124,none⟩),.pointer (some a),.int .u64 150]]).run Tryz.prog w=.ok (.iface 223 (.agg #[.pointer (some ⟨9,124,none⟩)])) w:=by kernel_rfl
theorem Bw (w:World):((ReflectliteType.abiMethod fun t=>(fun a:Nat=>Value.int IntKind.u8 (a:Int)) <$> Rtype.kind t) #[.pointer (some ⟨9,124,none⟩)]).run Tryz.prog w=.ok (.int .u8 22) w:=by kernel_rfl
theorem Eg (w:World):((ReflectliteType.abiMethod fun t=>(fun a:Nat=>Value.int IntKind.u8 (a:Int)) <$> Rtype.kind t) #[.pointer (some ⟨9,31,none⟩)]).run Tryz.prog w=.ok (.int .u8 2) w:=by kernel_rfl
theorem qp (a:Addr) (w:World):(ReflectliteValue.parts (.agg #[.pointer (some ⟨9,124,none⟩),.pointer (some a),.int .u64 150])).run Tryz.prog w=.ok (some (124,a,150)) w:=by kernel_rfl
theorem zo (a p:Addr) (W:World) (ha:W.cell? a=some (.pointer (some p))) :
  (ReflectliteValue.method (ReflectliteValue.valueError "reflectlite.Value.IsNil" 0) ReflectliteValue.isNil #[.agg #[.pointer (some ⟨9,124,none⟩),.pointer (some a),.int .u64 150]]).run Tryz.prog W=.ok (.bool false) W:=by
 rw [rlm]
 simp only [Sem.run_bind,qp,Result.andThen]
 simp [ReflectliteValue.isNil,loadVar,isAgg,underlying,Tryz.underlying124,ha,Result.andThen]
theorem BV (w:World):(ReflectliteType.method ReflectliteType.elem #[.agg #[.pointer (some ⟨9,124,none⟩)]]).run Tryz.prog w=.ok (.iface 223 (.agg #[.pointer (some ⟨9,31,none⟩)])) w:=by kernel_rfl
theorem rq (w:World):(ReflectliteType.relation "Implements" ReflectliteType.implements_ #[.agg #[.pointer (some ⟨9,31,none⟩)],.iface 223 (.agg #[.pointer (some ⟨9,108,none⟩)])]).run Tryz.prog w=.ok (.bool true) w:=by kernel_rfl
theorem yL (v:Value) (w:World):(ReflectliteType.typeOf #[.iface 31 v]).run Tryz.prog w=.ok (.iface 223 (.agg #[.pointer (some ⟨9,31,none⟩)])) w:=by kernel_rfl
theorem zb (w:World):(ReflectliteType.relation "AssignableTo" ReflectliteType.assignableTo #[.agg #[.pointer (some ⟨9,31,none⟩)],.iface 223 (.agg #[.pointer (some ⟨9,31,none⟩)])]).run Tryz.prog w=.ok (.bool true) w:=by kernel_rfl
theorem xP (w:World):(ReflectliteType.relation "AssignableTo" ReflectliteType.assignableTo #[.agg #[.pointer (some ⟨9,121,none⟩)],.iface 223 (.agg #[.pointer (some ⟨9,31,none⟩)])]).run Tryz.prog w=.ok (.bool false) w:=by kernel_rfl
theorem xz (c:Int) (w:World):(ReflectliteValue.unpack (.iface 31 (.int .i64 c))).run Tryz.prog w=.ok (.agg #[.pointer (some ⟨9,31,none⟩),.pointer (some ⟨w.heap.size,0,none⟩),.int .u64 130]) (w.alloc (.cells #[.int .i64 c] 31)):=by kernel_rfl
theorem xS (w:World):(Rtype.elem? 124).run Tryz.prog w=.ok (some 31) w:=by kernel_rfl
theorem Jc (p:Addr) (w:World):(ReflectliteValue.mk 31 p ReflectliteValue.flagAddr).run Tryz.prog w=.ok (.agg #[.pointer (some ⟨9,31,none⟩),.pointer (some p),.int .u64 386]) w:=by kernel_rfl
theorem zD (a p:Addr) (W:World) (ha:W.cell? a=some (.pointer (some p))) :
  (ReflectliteValue.method (ReflectliteValue.valueError "reflectlite.Value.Elem" 0) ReflectliteValue.elem #[.agg #[.pointer (some ⟨9,124,none⟩),.pointer (some a),.int .u64 150]]).run Tryz.prog W
   = .ok (.agg #[.pointer (some ⟨9,31,none⟩),.pointer (some p),.int .u64 386]) W:=by
 rw [rlm]
 simp only [Sem.run_bind,qp,Result.andThen]
 simp [ReflectliteValue.elem,loadVar,isAgg,underlying,Tryz.underlying124,ha,Result.andThen,xS,Jc]
theorem zL (a:Addr) (w:World):(ReflectliteValue.parts (.agg #[.pointer (some ⟨9,31,none⟩),.pointer (some a),.int .u64 386])).run Tryz.prog w=.ok (some (31,a,386)) w:=by kernel_rfl
theorem Ck (a:Addr) (w:World):(ReflectliteValue.parts (.agg #[.pointer (some ⟨9,31,none⟩),.pointer (some a),.int .u64 130])).run Tryz.prog w=.ok (some (31,a,130)) w:=by kernel_rfl
theorem yP (w:World):(Rtype.directlyAssignable 31 31).run Tryz.prog w=.ok true w:=by kernel_rfl
theorem Hu (ta b:Addr) (c:Int) (old:Value) (W:World) (hb:W.cell? b=some (.int .i64 c)) (ht:W.cell? ta=some old) (hf:W.frozen? ta=false) :
  (ReflectliteValue.set #[.agg #[.pointer (some ⟨9,31,none⟩),.pointer (some ta),.int .u64 386],.agg #[.pointer (some ⟨9,31,none⟩),.pointer (some b),.int .u64 130]]).run Tryz.prog W
   = .ok (.tuple #[]) (W.setCell ta (.int .i64 c)):=by
 rw [rls]
 simp only [Sem.run_bind,zL,Ck,Result.andThen]
 simp [ReflectliteValue.flagAddr,loadVar,isAgg,underlying,Tryz.underlying31,hb,Result.andThen,yP,storeVar,Value.cells,storeCells,Addr.add]
 rw [run_store Tryz.prog W ta _ _ (by rfl)]
 simp [ht,hf]
end Go.Proofs.YtkkeocnnecegbaaGreatDoor
namespace Go.Proofs.YtkkeocnnecegbaaGreatDoor
open Go.RowKit Go.Extern.Stop Go.Stop Go.Extern
theorem Ce (F:Nat) (v:Value) (w:World) (h:w.cell? ⟨F,1,none⟩=some v) :
  Calls Tryz.prog 268 #[.pointer (some ⟨F,0,none⟩)] w fun e w'=>e=.returned v∧w'=w:=by
 have lF:=aa h
 go_enter Tryz.func268,Tryz.ntmps268
 go_wp2_with fail
 go_ret
 exact⟨rfl,rfl⟩
theorem Ef (F:Nat) (t a:Addr) (c:Int) (old:Value) (w:World) (hF:w.cell? ⟨F,1,none⟩=some (.iface 31 (.int .i64 c))) (ha:w.cell? a=some (.pointer (some t))) (ht0:w.cell? t=some old) (hf0:w.frozen? t=false) :
  Calls Tryz.prog 119 #[.iface 121 (.pointer (some ⟨F,0,none⟩)),.iface 124 (.pointer (some t)),.agg #[.pointer (some ⟨9,124,none⟩),.pointer (some a),.int .u64 150],.iface 223 (.agg #[.pointer (some ⟨9,31,none⟩)])] w fun ev w'=>ev=.returned (.bool true)∧w'=((w.alloc (.cells #[.pointer (some ⟨9,124,none⟩),.pointer (some a),.int .u64 150] 185)).alloc (.cells #[.int .i64 c] 31)).setCell t (.int .i64 c):=by
 have h6:=@run_callFunc_extern Tryz.prog 116 _ (fun args=>ReflectliteValue.unpack (args.getD 0 (.tuple #[]))) Tryz.func116 (by kernel_rfl) (by kernel_rfl) (by kernel_rfl) (by kernel_rfl)
 have h10:=@run_callFunc_extern Tryz.prog 165 _ ReflectliteType.typeOf Tryz.func165 (by kernel_rfl) (by kernel_rfl) (by kernel_rfl) (by kernel_rfl)
 have h35:=@run_callFunc_extern Tryz.prog 277 _ (ReflectliteType.relation "AssignableTo" ReflectliteType.assignableTo) Tryz.func277 (by kernel_rfl) (by kernel_rfl) (by kernel_rfl) (by kernel_rfl)
 have h11:=@run_callFunc_extern Tryz.prog 166 _ (ReflectliteValue.method (ReflectliteValue.valueError "reflectlite.Value.Elem" 0) ReflectliteValue.elem) Tryz.func166 (by kernel_rfl) (by kernel_rfl) (by kernel_rfl) (by kernel_rfl)
 have h12:=@run_callFunc_extern Tryz.prog 167 _ ReflectliteValue.set Tryz.func167 (by kernel_rfl) (by kernel_rfl) (by kernel_rfl) (by kernel_rfl)
 have tO:=qE
 have tO2:=yL
 have mA:=jP
 have a25:=xP
 have a31:=zb
 have v31:=xz
 have htl:t.block<w.heap.size:=by
  rcases Nat.lt_or_ge t.block w.heap.size with h | h
  ·exact h
  ·simp [World.cell?,Array.getElem?_eq_none h] at ht0
 have hal:a.block<w.heap.size:=by
  rcases Nat.lt_or_ge a.block w.heap.size with h | h
  ·exact h
  ·simp [World.cell?,Array.getElem?_eq_none h] at ha
 have lF:=aa hF
 have hF1:(w.alloc (.cells #[.pointer (some ⟨9,124,none⟩),.pointer (some a),.int .u64 150] 185)).cell? ⟨F,1,none⟩=some (.iface 31 (.int .i64 c)):=by rw [World.cell?_alloc_lt _ _ ⟨F,1,none⟩ lF]; exact hF
 have HU:=Lib.hid (Ce F _ _ hF1)
 have el:=zD a t (w.alloc (.cells #[.pointer (some ⟨9,124,none⟩),.pointer (some a),.int .u64 150] 185)) (by rw [World.cell?_alloc_lt _ _ a hal]; exact ha)
 have st:=Hu t ⟨w.heap.size+1,0,none⟩ c old ((w.alloc (.cells #[.pointer (some ⟨9,124,none⟩),.pointer (some a),.int .u64 150] 185)).alloc (.cells #[.int .i64 c] 31))
  (by rw [World.cell?_alloc_at _ _ _ _ (by simp)]; rfl)
  (by rw [World.cell?_alloc_lt _ _ t (by simp; omega),World.cell?_alloc_lt _ _ t htl]; exact ht0)
  (by rw [World.frozen?_alloc_old _ _ t (by simp; omega),World.frozen?_alloc_old _ _ t (Nat.ne_of_lt htl)]; exact hf0)
 have ta1:∀ W,(Instr.typeAssert (.iface 121 (.pointer (some ⟨F,0,none⟩))) 108 228 true).run Tryz.prog W=.ok (.tuple #[.nilIface,.bool false]) W:=fun W=>run_typeAssert_lacksB Tryz.underlying228 (by kernel_rfl) (by kernel_rfl) _ _ W
 have ta2:∀ W,(Instr.typeAssert (.iface 121 (.pointer (some ⟨F,0,none⟩))) 108 231 true).run Tryz.prog W=.ok (.tuple #[.iface 121 (.pointer (some ⟨F,0,none⟩)),.bool true]) W:=fun _=>by kernel_rfl
 have mU:∀ W,(Go.method 430 121 (.pointer (some ⟨F,0,none⟩)) "Unwrap").run Tryz.prog W=.ok (268,.pointer (some ⟨F,0,none⟩)) W:=fun _=>by kernel_rfl
 clear hF1
 go_enter Tryz.func119,Tryz.ntmps119
 go_wp2_with fail
 refine wp_loop_rounds 2 ?_
 rw [rounds_succ]
 go_wp2_with fail
 refine HU.out.mono ?_
 rintro e1 w1 ⟨rfl,rfl⟩
 go_wp2_with fail
 rw [rounds_succ]
 go_wp2_with fail
 go_ret
 exact⟨rfl,rfl⟩
theorem He (F:Nat) (t:Addr) (c:Int) (old:Value) (w:World) (hg:w.cell? ⟨0,0,none⟩=some (.iface 223 (.agg #[.pointer (some ⟨9,108,none⟩)]))) (hF:w.cell? ⟨F,1,none⟩=some (.iface 31 (.int .i64 c))) (ht0:w.cell? t=some old) (hf0:w.frozen? t=false) :
  Calls Tryz.prog 67 #[.iface 121 (.pointer (some ⟨F,0,none⟩)),.iface 124 (.pointer (some t))] w fun ev w'=>ev=.returned (.bool true)∧w'=((((w.alloc (.cells #[.pointer (some t)] 124)).alloc (.cells #[.pointer (some ⟨9,124,none⟩),.pointer (some ⟨w.heap.size,0,none⟩),.int .u64 150] 185)).alloc (.cells #[.pointer (some ⟨9,124,none⟩),.pointer (some ⟨w.heap.size,0,none⟩),.int .u64 150] 185)).alloc (.cells #[.int .i64 c] 31)).setCell t (.int .i64 c):=by
 have h6:=@run_callFunc_extern Tryz.prog 116 _ (fun args=>ReflectliteValue.unpack (args.getD 0 (.tuple #[]))) Tryz.func116 (by kernel_rfl) (by kernel_rfl) (by kernel_rfl) (by kernel_rfl)
 have h7:=@run_callFunc_extern Tryz.prog 117 _ (ReflectliteValue.methodAny (ReflectliteValue.valueError "reflectlite.Value.Type" 0) (fun t _ _ _=>ReflectliteType.toType t)) Tryz.func117 (by kernel_rfl) (by kernel_rfl) (by kernel_rfl) (by kernel_rfl)
 have h8:=@run_callFunc_extern Tryz.prog 118 _ (ReflectliteValue.method (ReflectliteValue.valueError "reflectlite.Value.IsNil" 0) ReflectliteValue.isNil) Tryz.func118 (by kernel_rfl) (by kernel_rfl) (by kernel_rfl) (by kernel_rfl)
 have h27:=@run_callFunc_extern Tryz.prog 264 _ (ReflectliteType.abiMethod fun t=>do pure (.int .u8 (← Rtype.kind t))) Tryz.func264 (by kernel_rfl) (by kernel_rfl) (by kernel_rfl) (by kernel_rfl)
 have h37:=@run_callFunc_extern Tryz.prog 279 _ (ReflectliteType.method ReflectliteType.elem) Tryz.func279 (by kernel_rfl) (by kernel_rfl) (by kernel_rfl) (by kernel_rfl)
 have h38:=@run_callFunc_extern Tryz.prog 280 _ (ReflectliteType.relation "Implements" ReflectliteType.implements_) Tryz.func280 (by kernel_rfl) (by kernel_rfl) (by kernel_rfl) (by kernel_rfl)
 have f6:=vV
 have f7:=AB
 have mK:=oM
 have mE:=oO
 have mI:=ku
 have k27:=Bw
 have k25:=Eg
 have e27:=BV
 have i25:=rq
 have n8:=zo ⟨w.heap.size,0,none⟩ t ((w.alloc (.cells #[.pointer (some t)] 124)).alloc (.cells #[.pointer (some ⟨9,124,none⟩),.pointer (some ⟨w.heap.size,0,none⟩),.int .u64 150] 185)) (by simp)
 have hlt:0<w.heap.size:=by
  rcases Nat.eq_zero_or_pos w.heap.size with h0 | h
  ·simp [World.cell?,h0] at hg
  ·exact h
 have hg2:((w.alloc (.cells #[.pointer (some t)] 124)).alloc (.cells #[.pointer (some ⟨9,124,none⟩),.pointer (some ⟨w.heap.size,0,none⟩),.int .u64 150] 185)).cell? ⟨0,0,none⟩=some (.iface 223 (.agg #[.pointer (some ⟨9,108,none⟩)])):=by
  rw [World.cell?_alloc_lt _ _ ⟨0,0,none⟩ (by simp),World.cell?_alloc_lt _ _ ⟨0,0,none⟩ hlt]; exact hg
 have htl:t.block<w.heap.size:=by
  rcases Nat.lt_or_ge t.block w.heap.size with h | h
  ·exact h
  ·simp [World.cell?,Array.getElem?_eq_none h] at ht0
 have lF:=aa hF
 have HC:=Lib.hid (Ef F t ⟨w.heap.size,0,none⟩ c old ((w.alloc (.cells #[.pointer (some t)] 124)).alloc (.cells #[.pointer (some ⟨9,124,none⟩),.pointer (some ⟨w.heap.size,0,none⟩),.int .u64 150] 185)) (by rw [World.cell?_alloc_lt _ _ ⟨F,1,none⟩ (by simp; omega),World.cell?_alloc_lt _ _ ⟨F,1,none⟩ lF]; exact hF) (by simp) (by rw [World.cell?_alloc_lt _ _ t (by simp; omega),World.cell?_alloc_lt _ _ t htl]; exact ht0) (by rw [World.frozen?_alloc_old _ _ t (by simp; omega),World.frozen?_alloc_old _ _ t (Nat.ne_of_lt htl)]; exact hf0))
 clear hF lF
 go_enter Tryz.func67,Tryz.ntmps67
 go_wp2_with fail
 refine HC.out.mono ?_
 rintro e1 w1 ⟨rfl,rfl⟩
 go_wp2_with fail
 go_ret
 exact⟨rfl,rfl⟩
end Go.Proofs.YtkkeocnnecegbaaGreatDoor
