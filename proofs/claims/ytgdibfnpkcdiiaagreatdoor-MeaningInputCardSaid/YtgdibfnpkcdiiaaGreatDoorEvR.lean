/- The compiled operations are right: all kinds but maps. No condition. -/
import Derived.Test.YtgdibfnpkcdiiaaGreatDoorEvQ
namespace Go.Proofs.YtgdibfnpkcdiiaaGreatDoor
namespace Ev

section
variable {P : Program} {K : Kon} {o : Oper} {f : St → RS}

theorem nop_ok : OpV P K o nop := fun g st a w x st' _ _ _ e => by cases e
theorem no_ok (h : no = CO.op f) : OpV P K o f := by injection h with h; subst h; exact nop_ok
theorem co_op {f' : St → RS} (h : CO.op f' = CO.op f) : f' = f := by injection h

theorem cBin_ok {op : BinOp} {t u : TypeId} {x y : Operand} (ho : o.op = .binOp op t x y u) (h : cBin P K op t x y = .op f) : OpV P K o f := by
  unfold cBin at h
  split at h
  · split at h
    · rename_i hc; rw [← co_op h]; exact opCmp_ok ho hc
    · split at h
      · rw [← co_op h]; exact opAdd_ok ho
      · rw [← co_op h]; exact opSub_ok ho
      · rw [← co_op h]; exact opInt_ok ho
  · split at h
    · rw [← co_op h]; exact opStr_ok false ho
    · rw [← co_op h]; exact opStr_ok true ho
    · rw [← co_op h]; exact opCat_ok ho
    · exact no_ok h
  · rename_i ht
    split at h
    · rw [← co_op h]; exact opBe_ok false ho ht
    · rw [← co_op h]; exact opBe_ok true ho ht
    · exact no_ok h
  · rename_i el ht
    split at h
    · rw [← co_op h]; exact opNlP_ok false ho ht
    · rw [← co_op h]; exact opNlP_ok true ho ht
    · split at h
      · rename_i i hi
        split at h
        · rename_i hz; rw [← co_op h]; exact opPe_ok false ho ht hi hz
        · exact no_ok h
      · exact no_ok h
    · split at h
      · rename_i i hi
        split at h
        · rename_i hz; rw [← co_op h]; exact opPe_ok true ho ht hi hz
        · exact no_ok h
      · exact no_ok h
    · exact no_ok h
  · rename_i ht
    split at h
    · rw [← co_op h]; exact opNlS_ok false ho ht
    · rw [← co_op h]; exact opNlS_ok true ho ht
    · exact no_ok h
  · rename_i ht
    split at h
    · rw [← co_op h]; exact opNlF_ok false ho ht
    · rw [← co_op h]; exact opNlF_ok true ho ht
    · exact no_ok h
  · rename_i ht
    split at h
    · rw [← co_op h]; exact opNlI_ok false ho ht
    · rw [← co_op h]; exact opNlI_ok true ho ht
    · exact no_ok h
  · rename_i ht
    split at h
    · rw [← co_op h]; exact opNlM_ok false ho ht
    · rw [← co_op h]; exact opNlM_ok true ho ht
    · exact no_ok h
  · rename_i ht
    unfold cSe at h
    split at h
    · rename_i l i hl hi
      split at h
      · rename_i hc; rw [← co_op h]; exact opSe_ok false ho ht hc.1 hc.2.1 hl hc.2.2
      · exact no_ok h
    · rename_i l i hl hi
      split at h
      · rename_i hc; rw [← co_op h]; exact opSe_ok true ho ht hc.1 hc.2.1 hl hc.2.2
      · exact no_ok h
    · exact no_ok h
  · exact no_ok h

theorem isU8_ok {el : TypeId} (h : isU8 P el = true) : P.underlying el = some (.int .u8) := by
  unfold isU8 at h; split at h
  · assumption
  · cases h

theorem cConv_ok {s d : TypeId} {x : Operand} (ho : o.op = .convert s d x) (h : cConv P K s d x = .op f) : OpV P K o f := by
  unfold cConv at h
  split at h
  · rename_i hs hd; rw [← co_op h]; exact opConv_ok ho hs hd
  · rename_i hs hd; rw [← co_op h]; exact opSame_ok ho hs hd
  · rename_i hs hd
    split at h
    · rename_i hu; rw [← co_op h]; exact opS2B_ok ho hs hd (isU8_ok hu)
    · exact no_ok h
  · rename_i hs hd
    split at h
    · rename_i hu; rw [← co_op h]; exact opB2S_ok ho hs (isU8_ok hu) hd
    · exact no_ok h
  · rename_i hs hd
    split at h
    · rename_i hu; obtain ⟨hu, e⟩ := hu; subst e; rw [← co_op h]; exact opMrk_ok ho hs (isU8_ok hu)
    · exact no_ok h
  · exact no_ok h

theorem arr1 {α : Type} {a : Array α} {x : α} (h : a.toList = [x]) : a = #[x] := by rw [← Array.toArray_toList (xs := a), h]
theorem arr2 {α : Type} {a : Array α} {x y : α} (h : a.toList = [x, y]) : a = #[x, y] := by rw [← Array.toArray_toList (xs := a), h]

theorem cCall_ok {b : Builtin} {ts : Array TypeId} {args : Array Operand} (ho : o.op = .call { callee := .builtin b, args := args, argTypes := ts }) (h : cCall P K b ts args.toList = .op f) : OpV P K o f := by
  unfold cCall at h
  split at h
  · rename_i x ha
    have ha := arr1 ha; subst ha
    split at h
    · rename_i t ht
      have ht := arr1 ht; subst ht
      split at h
      · rename_i hu; rw [← co_op h]; exact opLnS_ok ho hu
      · rename_i hu; rw [← co_op h]; exact opLn_ok ho hu
      · rename_i hu
        split at h
        · rename_i hn; rw [← co_op h]; exact opLnC_ok ho hu hn
        · exact no_ok h
      · exact no_ok h
    · exact no_ok h
  · rename_i s x ha
    have ha := arr2 ha; subst ha
    split at h
    · rename_i t u ht
      have ht := arr2 ht; subst ht
      split at h
      · rename_i el d hu hd
        split at h
        · rename_i q hq
          split at h
          · rename_i z hz
            split at h
            · split at h
              · rename_i hc; obtain ⟨_, c2, c3, c4, c5, c6⟩ := hc
                rw [← co_op h]; exact opApp_ok ho hu hd (.inl rfl) hq hz c2 c3 c4 c5 c6
              · exact no_ok h
            · split at h
              · rename_i hc; obtain ⟨_, c2, c3, c4, c5, c6⟩ := hc
                rw [← co_op h]; exact opApp_ok ho hu hd (.inr ⟨_, rfl⟩) hq hz c2 c3 c4 c5 c6
              · exact no_ok h
            · rw [if_neg (fun c => by cases c.1)] at h; exact no_ok h
          · exact no_ok h
        · exact no_ok h
      · exact no_ok h
    · exact no_ok h
  · rename_i d x ha
    have ha := arr2 ha; subst ha
    split at h
    · rename_i t u ht
      have ht := arr2 ht; subst ht
      split at h
      · rename_i hu hd
        split at h
        · rename_i q hq
          split at h
          · rename_i h0; rw [← co_op h]; exact opCpy_ok ho hu hq h0
          · exact no_ok h
        · exact no_ok h
      · exact no_ok h
    · exact no_ok h
  · rename_i x y ha
    have ha := arr2 ha; subst ha
    rw [← co_op h]; exact opMx_ok true ho
  · rename_i x y ha
    have ha := arr2 ha; subst ha
    rw [← co_op h]; exact opMx_ok false ho
  · exact no_ok h

theorem cBuild_ok {t : TypeId} {parts : Array (Nat × Operand)} (ho : o.op = .build t parts) (h : cBuild P K t parts = .op f) : OpV P K o f := by
  unfold cBuild at h
  split at h
  · rename_i i hi
    split at h
    · rename_i z hz
      split at h
      · rename_i hc
        split at h
        · rename_i fs ht
          split at h
          · rename_i ha
            split at h
            · rename_i ps hp
              rw [← co_op h]
              refine opBdS_ok ho ht hi hz hc.1 hc.2 (fun f hf => ?_) hp
              rw [List.all_eq_true] at ha
              exact ha f (by simpa using hf)
            · exact no_ok h
          · exact no_ok h
        · rename_i n el ht
          split at h
          · rename_i q d hq hd
            split at h
            · rename_i ps hp
              rw [← co_op h]
              exact opBdA_ok ho ht hi hz hq hc.1 hc.2 hp
            · exact no_ok h
          · exact no_ok h
        · exact no_ok h
      · exact no_ok h
    · exact no_ok h
  · exact no_ok h

theorem cBuildS_ok {t : TypeId} {len : Nat} {parts : Array (Nat × Operand)} (ho : o.op = .buildSlice t len parts) (h : cBuildS P K t len parts = .op f) : OpV P K o f := by
  unfold cBuildS at h
  split at h
  · rename_i el ht
    split at h
    · rename_i q d hq hd
      split at h
      · rename_i z hz
        split at h
        · rename_i hc
          obtain ⟨hl, hp⟩ := hc
          subst hl
          rw [← co_op h]
          exact opBs0_ok ho ht hq (Array.eq_empty_of_size_eq_zero hp)
        · split at h
          · rename_i hc
            obtain ⟨c1, c2, c3, c4, c5⟩ := hc
            split at h
            · rename_i ps hp
              rw [← co_op h]
              exact opBs_ok ho ht hq hz rfl c1 c2 c3 c4 c5 hp
            · exact no_ok h
          · exact no_ok h
      · exact no_ok h
    · exact no_ok h
  · exact no_ok h

theorem cSlice_ok {t : TypeId} {x : Operand} {lo hi mx : Option Operand} (ho : o.op = .slice t x lo hi mx) (h : cSlice P K t x lo hi mx = .op f) : OpV P K o f := by
  unfold cSlice at h
  split at h
  · rename_i el ht
    split at h
    · rename_i i hi'; rw [← co_op h]; exact opSlc_ok ho ht hi'
    · exact no_ok h
  · rename_i el m ht
    split at h
    · rename_i i hi'; rw [← co_op h]; exact opSl0_ok ho ht hi'
    · exact no_ok h
  · rename_i n el ht
    split at h
    · rename_i i hi'
      split at h
      · rename_i hc; rw [← co_op h]; exact opSlP_ok ho ht hi' hc.1 hc.2
      · exact no_ok h
    · exact no_ok h
  · rename_i ht; rw [← co_op h]; exact opSlS_ok ho ht
  · exact no_ok h

theorem nagg {d : TypeDesc} (h : ¬ aggB d = false) : aggB d = true := by cases e : aggB d <;> simp_all

theorem cIndex_ok {t : TypeId} {x y : Operand} (ho : o.op = .index t x y) (h : cIndex P K t x y = .op f) : OpV P K o f := by
  unfold cIndex at h
  split at h
  · rename_i ht; rw [← co_op h]; exact opIxS_ok ho ht
  · rename_i n el ht
    split at h
    · rename_i i d hi hd
      split at h
      · rename_i ha; rw [← co_op h]; exact opIc_ok ho ht hi hd ha
      · rename_i ha
        split at h
        · rename_i hn; rw [← co_op h]; exact opIa_ok ho ht hi hd (nagg ha) hn
        · exact no_ok h
    · exact no_ok h
  · exact no_ok h

theorem cField_ok {t : TypeId} {x : Operand} {j : Nat} (ho : o.op = .field t x j) (h : cField P K t x j = .op f) : OpV P K o f := by
  unfold cField at h
  split at h
  · rename_i fs ht
    split at h
    · rename_i fd hf
      split at h
      · rename_i i d hi hd
        split at h
        · rename_i ha; rw [← co_op h]; exact opFc_ok ho ht hf hd ha
        · rename_i ha
          split at h
          · rename_i hn; rw [← co_op h]; exact opFa_ok ho ht hf hd (nagg ha) hi hn
          · exact no_ok h
      · exact no_ok h
    · exact no_ok h
  · exact no_ok h

end
end Ev
end Go.Proofs.YtgdibfnpkcdiiaaGreatDoor
