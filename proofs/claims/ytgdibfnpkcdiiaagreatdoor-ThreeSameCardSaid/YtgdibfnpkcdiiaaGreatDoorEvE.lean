/- An append in place; the pool of bytes and what strings it holds. No condition. -/
import Derived.Test.YtgdibfnpkcdiiaaGreatDoorEvD
namespace Go.Proofs.YtgdibfnpkcdiiaaGreatDoor
namespace Ev

section
variable {g : Gh} {st : St} {w : World}

theorem kill_live (h : HR g st w) {s blk base z room s' b ba z' r : Nat} (hr : g.rho s = .cells blk base z room) (hs' : g.rho s' = .cells b ba z' r) (hl : Live (up st.M s z 0) s' z') : s' ≠ s ∧ Live st.M s' z' := by
  have hz : (0 : Nat) < 2 ^ (128 * z) := Nat.pow_pos (by omega)
  obtain ⟨o, ho, hg⟩ := hl
  have e : s' ≠ s := by
    rintro rfl
    rw [hr] at hs'; injection hs' with _ _ ez _
    rw [gt_up _ _ _ hz, if_pos (by omega), gt_zero] at hg
    exact hg rfl
  refine ⟨e, o, ho, ?_⟩
  rwa [gt_up _ _ _ hz, if_neg] at hg
  rcases Nat.lt_or_gt_of_ne e with hlt | hgt
  · have := h.disj s' s hlt (by rw [hs']; simp) (by rw [hr]; simp)
    rw [hs'] at this; have e1 : (Info.cells b ba z' r).size = z' := rfl; omega
  · have := h.disj s s' hgt (by rw [hr]; simp) (by rw [hs']; simp)
    rw [hr] at this; have e1 : (Info.cells blk base z room).size = z := rfl; omega

/-- An append in place: the old allocation is forgotten, a new one begins where the slice does. -/
theorem HR.growIn (h : HR g st w) (P : Program) {s blk base z room o l n cw : Nat} (hr : g.rho s = .cells blk base z room) (hl : Live st.M s z) (ho : o + l ≤ z) (hn' : o + l + n ≤ room) (hcw : cw < 2 ^ (128 * n))
    (vs : List Value) (hn : vs.length = n) (hv : ∀ i, i < n → VR g (gt cw i) (vs.getD i undef)) :
    ∃ w', (storeCells ⟨blk, base + (o + l), none⟩ vs).run P w = .ok () w' ∧
      HR (g.put st.nM (.cells blk (base + o) (l + n) (room - o))) { st with M := ad (up st.M s z 0) st.nM (ad (ch st.M (s + o) l) l cw), nM := st.nM + (l + n) + 1 } w' ∧
      Fr g w (g.put st.nM (.cells blk (base + o) (l + n) (room - o))) w' := by
  obtain ⟨c, e, fr, hc⟩ := h.cells s blk base z room hr
  have hsz := hc.size
  have hrm := hc.room
  have hlen : base + (o + l) + vs.length ≤ c.size := by omega
  have hone : ∀ v ∈ vs, v.oneCell' = true := fun v hm => by
    obtain ⟨i, hi, e⟩ := getD_mem hm
    have := (hv i (by omega)).one
    rwa [e] at this
  have hrun := run_cells P blk (base + (o + l)) e fr vs 0 c w hc.heap (hc.thaw hl) (by omega) hone
  rw [Nat.add_zero] at hrun
  have hs' := spl_size c hlen
  have k := h.kill hr
  have hchl := ch_lt st.M (s + o) l
  have hcwn := ad_lt hchl hcw
  have one' : ∀ i, i < (spl c (base + (o + l)) vs).size → ((spl c (base + (o + l)) vs).getD i undef).oneCell' = true := fun i hi => by
    rw [spl_getD c hlen]; rw [hs'] at hi
    by_cases hq : base + (o + l) ≤ i ∧ i < base + (o + l) + vs.length
    · rw [if_pos hq]; exact (hv _ (by omega)).one
    · rw [if_neg hq]; exact hc.one i hi
  have nolive : ∀ s' ba z' r, g.rho s' = .cells blk ba z' r → ¬ Live (up st.M s z 0) s' z' := fun s' ba z' r hs2 hl2 => by
    obtain ⟨ne, l2⟩ := kill_live h hr hs2 hl2
    exact h.inj s s' blk base z room ba z' r (Ne.symm ne) hr hs2 hl l2
  refine ⟨_, hrun, HR.grown k (i := .cells blk (base + o) (l + n) (room - o)) (cw_more hcwn) (by simp) ?_ ?_ ?_ (fun ws hw => by cases hw) (fun b hb => by cases hb), ?_⟩
  · intro s' blk' base' z' room' c2 e2 fr2 hrs hc2
    by_cases eb : blk' = blk
    · subst eb
      have h12 : c2 = c ∧ e2 = e ∧ fr2 = fr := by have := hc2.heap.symm.trans hc.heap; injection this with this; injection this with a b d; exact ⟨a, b, d⟩
      obtain ⟨rfl, rfl, rfl⟩ := h12
      exact ⟨_, e2, fr2, hc.heap_setRow _, hs', one', fun hl2 => absurd hl2 (nolive s' base' z' room' hrs)⟩
    · exact ⟨c2, e2, fr2, by rw [setRow_other _ _ _ _ eb]; exact hc2.heap, rfl, hc2.one, fun _ => ⟨rfl, rfl⟩⟩
  · intro s' b hs2
    obtain ⟨x, hx, hm⟩ := h.maps s' b hs2
    refine setRow_other _ _ _ _ (fun eb => ?_)
    subst eb; rw [hc.heap] at hx; injection hx with hx; subst hx
    obtain ⟨_, _, _, _, _, _, _, _, _, _, _, h6, _⟩ := hm
    cases h6
  · intro b ba z' r hi
    injection hi with h1 h2 h3 h4
    subst h1; subst h2; subst h3; subst h4
    refine ⟨⟨_, e, fr, hc.heap_setRow _, by rw [hs']; omega, by omega, one', fun j hj => ?_, fun _ => by rw [hs']; exact hc.thaw hl⟩, fun s' ba z' r hs2 => nolive s' ba z' r hs2⟩
    show VR _ (gt (ad (up st.M s z 0) st.nM _) (st.nM + j)) _
    rw [gt_ad _ _ k.Mlt, if_neg (show ¬ st.nM + j < st.nM by omega), show st.nM + j - st.nM = j from Nat.add_sub_cancel_left .., gt_ad _ _ hchl, spl_getD c hlen]
    refine VR.mono (Gh.put_le _ (rho_top h (Nat.le_refl _))) ?_
    by_cases hj2 : j < l
    · rw [if_pos hj2, gt_ch, if_pos hj2, if_neg (by omega)]
      have := hc.vr (o + j) (by omega)
      rwa [← Nat.add_assoc, ← Nat.add_assoc] at this
    · rw [if_neg hj2, if_pos (by omega), show base + o + j - (base + (o + l)) = j - l by omega]
      exact hv _ (by omega)
  · refine ⟨rfl, rfl, rfl, by simp, Gh.put_le _ (rho_top h (Nat.le_refl _)), fun b _ hb => setRow_other _ _ _ _ (fun eb => hb (by subst eb; exact .inl ⟨s, base, z, room, hr⟩)), fun b _ hb => ?_⟩
    rcases hb with ⟨s', ba, z', r, hs2⟩ | ⟨s', hs2⟩
    · rw [Gh.put_rho] at hs2; split at hs2
      · injection hs2 with h1; subst h1; exact .inl ⟨s, base, z, room, hr⟩
      · exact .inl ⟨s', ba, z', r, hs2⟩
    · rw [Gh.put_rho] at hs2; split at hs2
      · cases hs2
      · exact .inr ⟨s', hs2⟩
end

/-- Bytes from a place on; bytes put behind. -/
def chS (S st l : Nat) : Nat := Nat.land (Nat.shiftRight S (Nat.mul 8 st)) (Nat.sub (Nat.pow 2 (Nat.mul 8 l)) 1)
def adS (S n x : Nat) : Nat := Nat.lor S (Nat.shiftLeft x (Nat.mul 8 n))

theorem bit_chS (S i n j : Nat) : (chS S i n).testBit j = (decide (j < 8 * n) && S.testBit (8 * i + j)) := by
  show ((S >>> (8 * i)) &&& (2 ^ (8 * n) - 1)).testBit j = _
  rw [Nat.testBit_and, Nat.testBit_shiftRight, Nat.testBit_two_pow_sub_one, Bool.and_comm]
theorem byteAt_eq (S i : Nat) : byteAt S i = chS S i 1 := rfl
theorem bit_byte (S i j : Nat) : (byteAt S i).testBit j = (decide (j < 8) && S.testBit (8 * i + j)) := by rw [byteAt_eq, bit_chS]
theorem bit_adS (S i c j : Nat) : (adS S i c).testBit j = (S.testBit j || (decide (8 * i ≤ j) && c.testBit (j - 8 * i))) := by
  show (S ||| (c <<< (8 * i))).testBit j = _
  rw [Nat.testBit_or, Nat.testBit_shiftLeft]
theorem chS_lt (S i n : Nat) : chS S i n < 2 ^ (8 * n) := lt_of_bits fun j hj => by
  rw [bit_chS, decide_eq_false (by omega)]; rfl
theorem byteAt_lt (S i : Nat) : byteAt S i < 256 := chS_lt S i 1

theorem byteAt_chS (S i n k : Nat) : byteAt (chS S i n) k = if k < n then byteAt S (i + k) else 0 := by
  refine Nat.eq_of_testBit_eq fun j => ?_
  rw [bit_byte, bit_chS]
  split
  · rw [bit_byte]
    by_cases hj : j < 8
    · have : 8 * k + j < 8 * n := by omega
      simp [hj, this, show 8 * i + (8 * k + j) = 8 * (i + k) + j from by omega]
    · simp [hj]
  · by_cases hj : j < 8
    · have : ¬ 8 * k + j < 8 * n := by omega
      simp [this]
    · simp [hj]

theorem byteAt_adS {S i : Nat} (c k : Nat) (h : S < 2 ^ (8 * i)) : byteAt (adS S i c) k = if k < i then byteAt S k else byteAt c (k - i) := by
  refine Nat.eq_of_testBit_eq fun j => ?_
  by_cases hj : j < 8
  · rw [bit_byte, bit_adS]
    split
    · rw [bit_byte]
      have e1 : ¬ 8 * i ≤ 8 * k + j := by omega
      simp [hj, e1]
    · rw [bit_byte, bit_big h (by omega)]
      have e1 : 8 * i ≤ 8 * k + j := by omega
      have e2 : 8 * k + j - 8 * i = 8 * (k - i) + j := by omega
      simp [hj, e1, e2]
  · split <;> simp [bit_byte, hj]

theorem adS_lt {S i c n : Nat} (hM : S < 2 ^ (8 * i)) (h : c < 2 ^ (8 * n)) : adS S i c < 2 ^ (8 * (i + n)) := by
  refine lt_of_bits fun j hj => ?_
  rw [bit_adS, bit_big hM (by omega), bit_big h (by omega)]
  simp

theorem chS_ext {S S' a b l : Nat} (h : ∀ i, i < l → byteAt S (a + i) = byteAt S' (b + i)) : chS S a l = chS S' b l := by
  refine Nat.eq_of_testBit_eq fun j => ?_
  rw [bit_chS, bit_chS]
  by_cases hj : j < 8 * l
  · have h1 := congrArg (fun x => x.testBit (j % 8)) (h (j / 8) (by omega))
    simp only [bit_byte] at h1
    have e1 : 8 * (a + j / 8) + j % 8 = 8 * a + j := by omega
    have e2 : 8 * (b + j / 8) + j % 8 = 8 * b + j := by omega
    have e3 : j % 8 < 8 := by omega
    simp only [e1, e2, e3, decide_true, Bool.true_and] at h1
    rw [h1]
  · simp [hj]

theorem strOf_size (S st l : Nat) : (strOf S st l).size = l := by simp [strOf, ByteArray.size]
theorem strOf_data (S st l : Nat) : (strOf S st l).data.toList = (List.range l).map fun i => UInt8.ofNat (byteAt S (st + i)) := by simp [strOf]
theorem byte_inj {a b : Nat} (ha : a < 256) (hb : b < 256) (h : UInt8.ofNat a = UInt8.ofNat b) : a = b := by
  have := congrArg UInt8.toNat h
  simp only [UInt8.toNat_ofNat'] at this
  omega
theorem strOf_ext {S S' a b l : Nat} (h : ∀ i, i < l → byteAt S (a + i) = byteAt S' (b + i)) : strOf S a l = strOf S' b l := by
  unfold strOf
  congr 2
  exact List.map_congr_left fun i hi => by rw [h i (List.mem_range.1 hi)]
theorem strOf_eq_iff {S a b l : Nat} : strOf S a l = strOf S b l ↔ chS S a l = chS S b l := by
  constructor
  · intro h
    refine chS_ext fun i hi => ?_
    have h1 := congrArg (fun x => x.data.toList[i]?) h
    simp only [strOf_data, List.getElem?_map, List.getElem?_range hi, Option.map_some, Option.some.injEq] at h1
    exact byte_inj (byteAt_lt _ _) (byteAt_lt _ _) h1
  · intro h
    refine strOf_ext fun i hi => ?_
    have h1 := congrArg (fun x => byteAt x i) h
    simpa only [byteAt_chS, if_pos hi] using h1

theorem strOf_extract (S st l a b : Nat) (h : b ≤ l) : (strOf S st l).extract a b = strOf S (st + a) (b - a) := by
  apply ByteArray.ext
  apply Array.ext'
  rw [ByteArray.data_extract, Array.toList_extract, strOf_data, strOf_data]
  apply List.ext_getElem?
  intro i
  simp only [List.extract_eq_take_drop, List.getElem?_take, List.getElem?_drop, List.getElem?_map]
  by_cases hi : i < b - a
  · rw [if_pos hi, List.getElem?_range (by omega), List.getElem?_range hi, Option.map_some, Option.map_some, Nat.add_assoc]
  · rw [if_neg hi, List.getElem?_eq_none (by simp; omega), Option.map_none]

theorem strOf_append {S a l b m : Nat} (S' n : Nat) (h1 : ∀ i, i < l → byteAt S' (n + i) = byteAt S (a + i)) (h2 : ∀ i, i < m → byteAt S' (n + l + i) = byteAt S (b + i)) : strOf S a l ++ strOf S b m = strOf S' n (l + m) := by
  apply ByteArray.ext
  apply Array.ext'
  rw [ByteArray.data_append, Array.toList_append, strOf_data, strOf_data, strOf_data]
  apply List.ext_getElem?
  intro i
  by_cases hi : i < l
  · rw [List.getElem?_append_left (by simpa using hi), List.getElem?_map, List.getElem?_map, List.getElem?_range hi, List.getElem?_range (by omega), Option.map_some, Option.map_some, h1 i hi]
  · rw [List.getElem?_append_right (by simpa using Nat.le_of_not_lt hi), List.length_map, List.length_range, List.getElem?_map, List.getElem?_map]
    by_cases hi2 : i < l + m
    · have := h2 (i - l) (by omega)
      rw [show n + l + (i - l) = n + i by omega] at this
      rw [List.getElem?_range (by omega), List.getElem?_range hi2, Option.map_some, Option.map_some, this]
    · rw [List.getElem?_eq_none (by simp; omega), List.getElem?_eq_none (by simp; omega)]; rfl

/-- Bytes put into the pool. -/
theorem HR.pool {g : Gh} {st : St} {w : World} (h : HR g st w) (l x : Nat) (hx : x < 2 ^ (8 * l)) :
    HR { g with S := adS st.S st.nS x, nS := st.nS + l } { st with S := adS st.S st.nS x, nS := st.nS + l } w ∧ Fr g w { g with S := adS st.S st.nS x, nS := st.nS + l } w := by
  have hle : g.le { g with S := adS st.S st.nS x, nS := st.nS + l } := Gh.le.mk (rh := rfl) (fun _ _ => rfl) (by show g.nS ≤ _; have := h.nS; dsimp only; omega) fun i hi => by
    show byteAt (adS st.S st.nS x) i = _
    rw [byteAt_adS _ _ h.Slt, if_pos (by rw [h.nS]; exact hi), h.S]
  refine ⟨⟨rfl, rfl, adS_lt h.Slt hx, h.Mlt, h.Rlt, h.top, h.disj, fun s blk base z room hs => ?_, h.rows, fun s blk hs => ?_, h.inj, h.minj⟩, ⟨rfl, rfl, rfl, Nat.le_refl _, hle, fun _ _ _ => rfl, fun _ _ h => h⟩⟩
  · obtain ⟨c, e, fr, hc⟩ := h.cells s blk base z room hs
    exact ⟨c, e, fr, hc.heap, hc.size, hc.room, hc.one, fun o ho => (hc.vr o ho).mono hle, hc.thaw⟩
  · obtain ⟨o, ho, hm⟩ := h.maps s blk hs
    exact ⟨o, ho, hm.mono hle⟩

end Ev
end Go.Proofs.YtgdibfnpkcdiiaaGreatDoor
