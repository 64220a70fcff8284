/- Every compiled operation that calls nothing is right. No condition. -/
import Derived.Test.YtgdibfnpkcdiiaaGreatDoorEvU
namespace Go.Proofs.YtgdibfnpkcdiiaaGreatDoor
namespace Ev

section
variable {P : Program} {K : Kon} {o : Oper} {f : St → RS}

theorem cMap_ok {t : TypeId} {k : Nat → Nat → CO} (h : cMap P t k = .op f) : f = nop ∨ ∃ kt el kd nv i, P.underlying t = some (.map kt el) ∧ P.underlying kt = some kd ∧ ktOf kd ≠ 0 ∧ P.info? el = some i ∧ nv < 256 ∧ k (ktOf kd) nv = .op f := by
  unfold cMap at h
  split at h
  · rename_i kt el ht
    split at h
    · rename_i kd i d hk hi hd
      split at h
      · exact .inl (co_op h).symm
      · rename_i h0
        split at h
        · exact .inr ⟨kt, el, kd, 0, i, ht, hk, h0, hi, by omega, h⟩
        · split at h
          · rename_i hc; exact .inr ⟨kt, el, kd, i.size, i, ht, hk, h0, hi, hc.2, h⟩
          · exact .inl (co_op h).symm
    · exact .inl (co_op h).symm
  · exact .inl (co_op h).symm

theorem notif {d : TypeDesc} (h : ∀ ms, ¬ some d = some (TypeDesc.interface ms)) : ∀ ms, d ≠ .interface ms := fun ms e => h ms (by rw [e])

theorem cOper_ok (h : cOper P K o = .op f) : OpV P K o f := by
  unfold cOper at h
  split at h
  · rename_i x ho; rw [← co_op h]; exact opMove_ok (.inl ho)
  · rename_i x ho; rw [← co_op h]; exact opMove_ok (.inr ho)
  · rename_i c x y ho; rw [← co_op h]; exact opPick_ok ho
  · rename_i t ho
    split at h
    · rename_i i hi
      split at h
      · rename_i z hz
        split at h
        · rename_i hc; rw [← co_op h]; exact opAl_ok ho hi hz hc.1 hc.2
        · exact no_ok h
      · exact no_ok h
    · exact no_ok h
  · rename_i t x ho
    split at h
    · split at h
      · rw [← co_op h]; exact opBxA_ok ho
      · rw [← co_op h]; exact opBx_ok ho
    · exact no_ok h
  · rename_i t parts ho; exact cBuild_ok ho h
  · rename_i t len parts ho; exact cBuildS_ok ho h
  · rename_i t x ho
    split at h
    · rename_i d i hd hi
      split at h
      · rename_i ha; rw [← co_op h]; exact opLd_ok ho hd ha
      · rename_i ha
        split at h
        · rename_i hn; rw [← co_op h]; exact opLdA_ok ho hd (nagg ha) hi hn
        · exact no_ok h
    · exact no_ok h
  · rename_i t x y ho
    split at h
    · rename_i d i hd hi
      split at h
      · rename_i ha; rw [← co_op h]; exact opSt_ok ho hi ha.2
      · split at h
        · rename_i hn; rw [← co_op h]; exact opStA_ok ho hi hn
        · exact no_ok h
    · exact no_ok h
  · rename_i x ho; rw [← co_op h]; exact opNil_ok ho
  · rename_i op t x y u ho; exact cBin_ok ho h
  · rename_i t x ho; rw [← co_op h]; exact opNot_ok ho
  · rename_i t x ho
    split at h
    · rw [← co_op h]; exact opNeg_ok ho
    · exact no_ok h
  · rename_i s d x ho; exact cConv_ok ho h
  · rename_i t x ho
    split at h
    · exact no_ok h
    · rename_i d hn hd
      split at h
      · rename_i hl; rw [← co_op h]; exact opIf_ok ho hd (fun ms e => hn ms e) hl
      · exact no_ok h
    · exact no_ok h
  · rename_i fn first captured ho
    split at h
    · rename_i hc; rw [← co_op h]; exact opFn_ok ho hc.1 hc.2.1 hc.2.2
    · exact no_ok h
  · rename_i t ho
    rcases cMap_ok h with rfl | ⟨kt, el, kd, nv, i, h1, h2, h3, h4, h5, h6⟩
    · exact nop_ok
    · rw [← co_op h6]; exact opMm_ok ho h5
  · rename_i t m k x ho
    rcases cMap_ok h with rfl | ⟨kt, el, kd, nv, i, h1, h2, h3, h4, h5, h6⟩
    · exact nop_ok
    · rw [← co_op h6]; exact opIns_ok (.inl ho) h1 h2 h3 h5
  · rename_i t m k x ho
    rcases cMap_ok h with rfl | ⟨kt, el, kd, nv, i, h1, h2, h3, h4, h5, h6⟩
    · exact nop_ok
    · rw [← co_op h6]; exact opIns_ok (.inr ho) h1 h2 h3 h5
  · rename_i t m k ho
    split at h
    · rename_i kt' el' ht'
      split at h
      · rename_i i' hi'
        split at h
        · rename_i z hz
          split at h
          · rename_i hb
            rcases cMap_ok h with rfl | ⟨kt, el, kd, nv, i, h1, h2, h3, h4, h5, h6⟩
            · exact nop_ok
            · rw [ht'] at h1; injection h1 with h1; injection h1 with e1 e2
              subst e1; subst e2
              split at h6
              · rename_i hzo; rw [← co_op h6]; exact opLk_ok ho ht' h2 h3 hi' hz hzo hb
              · exact no_ok h6
          · exact no_ok h
        · exact no_ok h
      · exact no_ok h
    · exact no_ok h
  · rename_i t m k ho
    split at h
    · rename_i kt' el' ht'
      split at h
      · rename_i i' hi'
        split at h
        · rename_i z hz
          split at h
          · rename_i hb
            rcases cMap_ok h with rfl | ⟨kt, el, kd, nv, i, h1, h2, h3, h4, h5, h6⟩
            · exact nop_ok
            · rw [ht'] at h1; injection h1 with h1; injection h1 with e1 e2
              subst e1; subst e2
              split at h6
              · rename_i hzo; rw [← co_op h6]; exact opLk1_ok ho ht' h2 h3 hi' hz hzo hb
              · exact no_ok h6
          · exact no_ok h
        · exact no_ok h
      · exact no_ok h
    · exact no_ok h
  · rename_i t l c ho
    split at h
    · rename_i el ht
      split at h
      · rename_i q hq
        split at h
        · rename_i z hz
          split at h
          · rename_i hc
            rw [← co_op h]
            exact opMk_ok ho ht hq hz hc.1 hc.2.1 hc.2.2.1 hc.2.2.2.1 hc.2.2.2.2
          · exact no_ok h
        · exact no_ok h
      · exact no_ok h
    · exact no_ok h
  · rename_i t x lo hi mx ho; exact cSlice_ok ho h
  · rename_i t x j ho
    split at h
    · rename_i fs ht
      split at h
      · rename_i fd hf
        split at h
        · rename_i i hi
          split at h
          · rename_i hz; rw [← co_op h]; exact opFld_ok ho ht hf hi hz
          · exact no_ok h
        · exact no_ok h
      · exact no_ok h
    · exact no_ok h
  · rename_i t x j ho; exact cField_ok ho h
  · rename_i t x y ho
    split at h
    · rename_i el ht
      split at h
      · rename_i i hi; rw [← co_op h]; exact opIxA_ok ho ht hi
      · exact no_ok h
    · rename_i n el ht
      split at h
      · rename_i i hi; rw [← co_op h]; exact opIxP_ok ho ht hi
      · exact no_ok h
    · exact no_ok h
  · rename_i t x y ho; exact cIndex_ok ho h
  · rename_i x j ho; rw [← co_op h]; exact opEx_ok ho
  · rename_i b args ts ho; exact cCall_ok ho h
  · exact no_ok h

end
end Ev
end Go.Proofs.YtgdibfnpkcdiiaaGreatDoor
