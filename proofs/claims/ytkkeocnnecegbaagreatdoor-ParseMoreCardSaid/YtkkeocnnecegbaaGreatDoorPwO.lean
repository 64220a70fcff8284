/- A map with keys that are strings, made by a call; the walk over stmt. By an AI agent. -/
import Derived.Test.YtkkeocnnecegbaaGreatDoorPwN
import Derived.WideMake
namespace Go.Proofs.YtkkeocnnecegbaaGreatDoor
open Go.RowKit

def ent : Nat → List (List UInt8 × Value) → List MapEntry
  | _, [] => []
  | i, (k, v) :: r => { key := .string ⟨k.toArray⟩, val := v, born := i } :: ent (i + 1) r
theorem ent_snoc (k : List UInt8) (v : Value) : ∀ (L : List (List UInt8 × Value)) (i : Nat), ent i (L ++ [(k, v)]) = ent i L ++ [{ key := .string ⟨k.toArray⟩, val := v, born := i + L.length }]
  | [], i => by simp [ent]
  | (a, b) :: r, i => by
    show _ :: ent (i + 1) (r ++ [(k, v)]) = _
    rw [ent_snoc k v r (i + 1)]
    simp only [ent, List.length_cons, List.cons_append]
    rw [show i + 1 + r.length = i + (r.length + 1) by omega]
theorem bytes_eq (a b : List UInt8) : ((⟨a.toArray⟩ : ByteArray) == ⟨b.toArray⟩) = (a == b) := by
  rw [Bool.eq_iff_iff, MapKept.bytes_beq]
  simp
theorem find_ent (k : List UInt8) : ∀ (L : List (List UInt8 × Value)) (i j : Nat), ∃ a, Instr.findNow .string (.string ⟨k.toArray⟩) (ent i L) j = some a ∧ a.map (·.2) = L.lookup k
  | [], i, j => ⟨none, rfl, rfl⟩
  | (a, b) :: r, i, j => by
    simp only [ent, Instr.findNow, Instr.sameNow, bytes_eq]
    by_cases h : k = a
    · subst h
      exact ⟨some (j, b), by simp, by simp [List.lookup]⟩
    · have h' : (k == a) = false := by simpa using h
      obtain ⟨x, h1, h2⟩ := find_ent k r (i + 1) (j + 1)
      rw [h']
      exact ⟨x, h1, by simp only [List.lookup, h']; exact h2⟩
theorem heap_set_new (w : World) (o o' : Obj) : ({ w.alloc o with heap := (w.alloc o).heap.setIfInBounds w.heap.size o' } : World) = w.alloc o' := by
  have : (w.alloc o).heap.setIfInBounds w.heap.size o' = (w.alloc o').heap := by
    apply Array.ext_getElem?
    intro i
    rw [Array.getElem?_setIfInBounds]
    show _ = (w.heap.push o')[i]?
    by_cases hi : w.heap.size = i
    · subst hi
      simp
    · rw [if_neg hi]
      show (w.heap.push o)[i]? = _
      rw [Array.getElem?_push, Array.getElem?_push, if_neg (Ne.symm hi), if_neg (Ne.symm hi)]
  rw [this]; rfl
theorem upd_new (w : World) (L : List (List UInt8 × Value)) (k : List UInt8) (v : Value) (n : Nat) (hn : L.length = n) (hk : L.lookup k = none) :
    (Instr.mapUpdate 248 (.map (some w.heap.size)) (.string ⟨k.toArray⟩) v).run Tryz.prog (w.alloc (.map (ent 0 L).toArray n)) = .ok () (w.alloc (.map (ent 0 (L ++ [(k, v)])).toArray (n + 1))) := by
  have hb : (w.alloc (.map (ent 0 L).toArray n)).heap[w.heap.size]? = some (.map (ent 0 L).toArray n) := heap_alloc_new w _
  obtain ⟨a, h1, h2⟩ := find_ent k L 0 0
  rw [hk] at h2
  have ha : a = none := by cases a <;> simp_all
  subst ha
  have hc : (Instr.checkKey false 10000 9 (.string ⟨k.toArray⟩)).run Tryz.prog (w.alloc (.map (ent 0 L).toArray n)) = .ok () _ := MapKept.run_checkKey (k := .string ⟨k.toArray⟩) Tryz.underlying9 (by simp [MapKept.IsKey]) false 9999
  simp [Instr.mapUpdate, run_underlying Tryz.underlying248, MapKept.run_getObj_map hb, hc, MapKept.run_findKey Tryz.underlying9 h1, MapKept.run_setObj_map _ hb, Result.andThen]
  rw [show ent 0 L ++ [{ key := .string ⟨k.toArray⟩, val := v, born := n }] = ent 0 (L ++ [(k, v)]) by rw [ent_snoc, Nat.zero_add, hn]]
  exact heap_set_new w _ _
theorem look_ok (W : World) (b : Nat) (L : List (List UInt8 × Value)) (k : List UInt8) (n : Nat) (z : Value) (hb : W.heap[b]? = some (.map (ent 0 L).toArray n)) (hz : (zeroValue 247).run Tryz.prog W = .ok z W) (_hL : L ≠ []) :
    (Instr.lookup 248 (.map (some b)) (.string ⟨k.toArray⟩) true).run Tryz.prog W = .ok (.tuple #[(L.lookup k).getD z, .bool (L.lookup k).isSome]) W := by
  obtain ⟨a, h1, h2⟩ := find_ent k L 0 0
  have hc : ∀ em, (Instr.checkKey em 10000 9 (.string ⟨k.toArray⟩)).run Tryz.prog W = .ok () W := fun em => MapKept.run_checkKey (k := .string ⟨k.toArray⟩) Tryz.underlying9 (by simp [MapKept.IsKey]) em 9999
  cases a with
  | none =>
    rw [← h2]
    simp [Instr.lookup, run_underlying Tryz.underlying248, MapKept.run_getObj_map hb, hc, MapKept.run_findKey Tryz.underlying9 h1, Result.andThen, hz]
  | some q =>
    obtain ⟨i, v⟩ := q
    rw [← h2]
    simp [Instr.lookup, run_underlying Tryz.underlying248, MapKept.run_getObj_map hb, hc, MapKept.run_findKey Tryz.underlying9 h1, Result.andThen]
theorem zero247 (W : World) : (zeroValue 247).run Tryz.prog W = .ok (.agg #[.int .u8 0, .nilFunc]) W := by kernel_rfl

def wv (kd fn : Nat) : Value := .agg #[.int .u8 kd, .func (.func fn) #[] #[]]
def wordTab : List (List UInt8 × Value) := [([118, 97, 114], wv 6 180), ([105, 102], wv 9 181), ([102, 111, 114], wv 10 182), ([114, 101, 116, 117, 114, 110], wv 11 183), ([112, 114, 105, 110, 116], wv 12 183), ([101, 120, 105, 116], wv 13 183), ([114, 101, 97, 100], wv 14 184), ([99, 97, 108, 108], wv 15 185)]
theorem word_cases (k : List UInt8) : (wordTab.lookup k = none ∧ wordKinds.lookup k = none) ∨ ∃ kd fn, wordTab.lookup k = some (wv kd fn) ∧ wordKinds.lookup k = some kd ∧ (kd, fn) ∈ [(6, 180), (9, 181), (10, 182), (11, 183), (12, 183), (13, 183), (14, 184), (15, 185)] := by
  unfold wordTab wordKinds
  simp only [List.lookup]
  split
  · exact Or.inr ⟨_, _, rfl, rfl, by simp⟩
  split
  · exact Or.inr ⟨_, _, rfl, rfl, by simp⟩
  split
  · exact Or.inr ⟨_, _, rfl, rfl, by simp⟩
  split
  · exact Or.inr ⟨_, _, rfl, rfl, by simp⟩
  split
  · exact Or.inr ⟨_, _, rfl, rfl, by simp⟩
  split
  · exact Or.inr ⟨_, _, rfl, rfl, by simp⟩
  split
  · exact Or.inr ⟨_, _, rfl, rfl, by simp⟩
  split
  · exact Or.inr ⟨_, _, rfl, rfl, by simp⟩
  exact Or.inl ⟨rfl, rfl⟩

theorem upd1 (w : World) : (Instr.mapUpdate 248 (.map (some w.heap.size)) (.string ⟨#[118, 97, 114]⟩) (.agg #[.int .u8 6, .func (.func 180) #[] #[]])).run Tryz.prog (w.alloc (.map #[] 0)) = .ok () (w.alloc (.map (ent 0 (wordTab.take 1)).toArray 1)) := upd_new w [] [118, 97, 114] (wv 6 180) 0 rfl rfl
theorem upd2 (w : World) : (Instr.mapUpdate 248 (.map (some w.heap.size)) (.string ⟨#[105, 102]⟩) (.agg #[.int .u8 9, .func (.func 181) #[] #[]])).run Tryz.prog (w.alloc (.map (ent 0 (wordTab.take 1)).toArray 1)) = .ok () (w.alloc (.map (ent 0 (wordTab.take 2)).toArray 2)) := upd_new w (wordTab.take 1) [105, 102] (wv 9 181) 1 rfl rfl
theorem upd3 (w : World) : (Instr.mapUpdate 248 (.map (some w.heap.size)) (.string ⟨#[102, 111, 114]⟩) (.agg #[.int .u8 10, .func (.func 182) #[] #[]])).run Tryz.prog (w.alloc (.map (ent 0 (wordTab.take 2)).toArray 2)) = .ok () (w.alloc (.map (ent 0 (wordTab.take 3)).toArray 3)) := upd_new w (wordTab.take 2) [102, 111, 114] (wv 10 182) 2 rfl rfl
theorem upd4 (w : World) : (Instr.mapUpdate 248 (.map (some w.heap.size)) (.string ⟨#[114, 101, 116, 117, 114, 110]⟩) (.agg #[.int .u8 11, .func (.func 183) #[] #[]])).run Tryz.prog (w.alloc (.map (ent 0 (wordTab.take 3)).toArray 3)) = .ok () (w.alloc (.map (ent 0 (wordTab.take 4)).toArray 4)) := upd_new w (wordTab.take 3) [114, 101, 116, 117, 114, 110] (wv 11 183) 3 rfl rfl
theorem upd5 (w : World) : (Instr.mapUpdate 248 (.map (some w.heap.size)) (.string ⟨#[112, 114, 105, 110, 116]⟩) (.agg #[.int .u8 12, .func (.func 183) #[] #[]])).run Tryz.prog (w.alloc (.map (ent 0 (wordTab.take 4)).toArray 4)) = .ok () (w.alloc (.map (ent 0 (wordTab.take 5)).toArray 5)) := upd_new w (wordTab.take 4) [112, 114, 105, 110, 116] (wv 12 183) 4 rfl rfl
theorem upd6 (w : World) : (Instr.mapUpdate 248 (.map (some w.heap.size)) (.string ⟨#[101, 120, 105, 116]⟩) (.agg #[.int .u8 13, .func (.func 183) #[] #[]])).run Tryz.prog (w.alloc (.map (ent 0 (wordTab.take 5)).toArray 5)) = .ok () (w.alloc (.map (ent 0 (wordTab.take 6)).toArray 6)) := upd_new w (wordTab.take 5) [101, 120, 105, 116] (wv 13 183) 5 rfl rfl
theorem upd7 (w : World) : (Instr.mapUpdate 248 (.map (some w.heap.size)) (.string ⟨#[114, 101, 97, 100]⟩) (.agg #[.int .u8 14, .func (.func 184) #[] #[]])).run Tryz.prog (w.alloc (.map (ent 0 (wordTab.take 6)).toArray 6)) = .ok () (w.alloc (.map (ent 0 (wordTab.take 7)).toArray 7)) := upd_new w (wordTab.take 6) [114, 101, 97, 100] (wv 14 184) 6 rfl rfl
theorem upd8 (w : World) : (Instr.mapUpdate 248 (.map (some w.heap.size)) (.string ⟨#[99, 97, 108, 108]⟩) (.agg #[.int .u8 15, .func (.func 185) #[] #[]])).run Tryz.prog (w.alloc (.map (ent 0 (wordTab.take 7)).toArray 7)) = .ok () (w.alloc (.map (ent 0 (wordTab.take 8)).toArray 8)) := upd_new w (wordTab.take 7) [99, 97, 108, 108] (wv 15 185) 7 rfl rfl

set_option maxRecDepth 100000 in
set_option maxHeartbeats 8000000 in
theorem stmt_word (R d kd fn : Nat) (t : Tok) (r : List Tok) (res : Rd) (w : World) (h : RD w R (t :: r) d) (hk : t.kind = 2) (hl : wordTab.lookup t.text = some (wv kd fn))
    (hE : ∀ args W, (callFunc fn args).run Tryz.prog W = .ok (.enter fn args) W)
    (hC : ∀ W X, RD W R r d → R < X → Blk W X 160 #[.int .u8 kd, .string ⟨([] : List UInt8).toArray⟩, .int .i64 0, .int .i64 t.at', .slice none 0 0, .slice none 0 0] → Calls Tryz.prog fn #[.pointer (some ⟨R, 0, none⟩), .pointer (some ⟨X, 0, none⟩)] W (OutB X W R d res (SPost X))) :
    Calls Tryz.prog 146 #[.pointer (some ⟨R, 0, none⟩)] w (XOut w R d res) := by
  have H := Lib.hid h; have HK := Lib.hid hk; have HL := Lib.hid hl; have HC := Lib.hid hC
  clear h hk hl hC
  have hmm := fun W => run_makeMap_plain (P := Tryz.prog) W 248
  have u1 := upd1 w
  have u2 := upd2 w
  have u3 := upd3 w
  have u4 := upd4 w
  have u5 := upd5 w
  have u6 := upd6 w
  have u7 := upd7 w
  have u8 := upd8 w
  have f1 := fld1
  have f0 := fld0
  go_enter Tryz.func146, Tryz.ntmps146
  go_wp2_with fail
  refine (node_any R d 7 (t :: r) _ (H.out.alloc _)).mono ?_; rintro e w1 ⟨X, rfl, hX, hb1, hk1⟩
  have hRw := H.out.lt.1
  have hXw : w.heap.size < X := by simp at hX; omega
  have HX1 := Lib.hid hb1
  have HM1 : Hid (w1.heap[w.heap.size]? = some (.map (ent 0 (wordTab.take 8)).toArray 8)) := Lib.hid ((hk1.block _ (by simp)).trans (heap_alloc_new w _))
  have HR1 := Lib.hid ((H.out.alloc (.map (ent 0 (wordTab.take 8)).toArray 8)).below hk1 (by simp; omega))
  have HK1 : Hid (KeepR w.heap.size R w w1) := Lib.hid (((KeepR.refl _ R w).alloc (Nat.le_refl _) (.map (ent 0 (wordTab.take 8)).toArray 8)).below hk1 (by simp))
  clear hb1 hk1 hX u1 u2 u3 u4 u5 u6 u7 u8 hmm
  go_wp2_with fail
  refine (now_any R t r d _ HR1.out).mono ?_; rintro e w2 ⟨rfl, hb2⟩; unfold tokA
  have lk : (Instr.lookup 248 (.map (some w.heap.size)) (.string ⟨t.text.toArray⟩) true).run Tryz.prog w2 = .ok (.tuple #[.agg #[.int .u8 kd, .func (.func fn) #[] #[]], .bool true]) w2 := by
    have hm2 : w2.heap[w.heap.size]? = some (.map (ent 0 wordTab).toArray 8) := (hb2.block _ (Array.getElem?_eq_some_iff.1 HM1.out).1).trans HM1.out
    have := look_ok w2 w.heap.size wordTab t.text 8 _ hm2 (zero247 w2) (by unfold wordTab; simp)
    rw [HL.out] at this
    exact this
  have HX2 := Lib.hid (HX1.out.below hb2)
  have HR2 := Lib.hid (HR1.out.below hb2 HR1.out.lt.1)
  have HK2 := Lib.hid (HK1.out.below hb2 HK1.out.size)
  have hs2 : w.heap.size ≤ w2.heap.size := HK2.out.size
  clear hb2 HM1 HX1 HR1 HK1
  have kk : ((t.kind : Int) != 2) = false := by simp [HK.out]
  go_wp2_with fail
  have HR2a := Lib.hid (HR2.out.alloc (.cells #[.int .u8 kd, .func (.func fn) #[] #[]] 247))
  have HW2 := Lib.hid (Blk.new w2 247 #[.int .u8 kd, .func (.func fn) #[] #[]])
  have HX2a := Lib.hid (HX2.out.alloc (.cells #[.int .u8 kd, .func (.func fn) #[] #[]] 247))
  have HK2a := Lib.hid (HK2.out.alloc hs2 (.cells #[.int .u8 kd, .func (.func fn) #[] #[]] 247))
  refine (now_any R t r d _ HR2a.out).mono ?_; rintro e w3 ⟨rfl, hb3⟩; unfold tokA
  have HR3 := Lib.hid (HR2a.out.below hb3 HR2a.out.lt.1)
  have HW3 := Lib.hid (HW2.out.below hb3)
  have HX3 := Lib.hid (HX2a.out.below hb3)
  have HK3 := Lib.hid (HK2a.out.below hb3 HK2a.out.size)
  have hs3 : w2.heap.size < w3.heap.size := HW3.out.lt
  clear hb3 lk
  go_wp2_with fail
  refine (pass_yes R t r d _ HR3.out (by have := HK.out; omega)).mono ?_; rintro e w4 ⟨rfl, hr4, hk4⟩; unfold tokA
  have hX3 := HX3.out.lt
  have b1 := HW3.out.kept hk4 hs3 (by omega)
  have b2 := HX3.out.kept hk4 hX3 (by omega)
  have nX : ¬ w2.heap.size = X := by have := HX2.out.lt; omega
  have g0 : w4.cell? ⟨w2.heap.size, 0, none⟩ = some (.int .u8 kd) := b1.cell 0
  have g1 : w4.cell? ⟨w2.heap.size, 1, none⟩ = some (.func (.func fn) #[] #[]) := b1.cell 1
  have g2 : w4.cell? ⟨X, 0, none⟩ = some (.int .u8 (7 : Nat)) := b2.cell 0
  have g3 := b2.free 0
  have HW4 := Lib.hid b1; have HX4 := Lib.hid b2
  have HR4 := Lib.hid hr4
  have HK4 := Lib.hid (HK3.out.trans hk4 HK3.out.size)
  clear b1 b2 hr4 hk4
  go_upto_region 9 with fail
  have HW5 := Lib.hid (HW4.out.far nX 0 (.int .u8 kd))
  have HX5 : Hid (Blk (w4.setCell ⟨X, 0, none⟩ (.int .u8 kd)) X 160 #[.int .u8 kd, .string ⟨([] : List UInt8).toArray⟩, .int .i64 0, .int .i64 t.at', .slice none 0 0, .slice none 0 0]) := Lib.hid (HX4.out.put 0 (.int .u8 kd))
  have HR5 := Lib.hid (HR4.out.set (p := ⟨X, 0, none⟩) (show R < X by omega) (.int .u8 kd))
  have HK5 := Lib.hid (HK4.out.setCell (p := ⟨X, 0, none⟩) (Or.inr (show w.heap.size ≤ X by omega)) (.int .u8 kd))
  generalize w4.setCell ⟨X, 0, none⟩ (.int .u8 kd) = W5 at *
  clear g0 g1 g2 g3
  have g1 : W5.cell? ⟨w2.heap.size, 1, none⟩ = some (.func (.func fn) #[] #[]) := HW5.out.cell 1
  have hE2 := fun W => hE #[.pointer (some ⟨R, 0, none⟩), .pointer (some ⟨X, 0, none⟩)] W
  go_wp2_with fail
  refine (HC.out W5 X HR5.out (by omega) HX5.out).mono ?_
  rintro e w6 ⟨hk6, ho⟩
  have HK6 := Lib.hid (HK5.out.trans (hk6.mono (C := X) (Nat.le_refl _)) (show w.heap.size ≤ X by omega))
  cases res with
  | error q =>
    obtain ⟨p, er⟩ := q
    subst ho
    exact ⟨rfl, OutB.err rfl HK6.out⟩
  | ok q =>
    obtain ⟨y, ts2⟩ := q
    obtain ⟨hr6, v, rfl, rfl, hi6⟩ := ho
    have HR6 := Lib.hid hr6; have HI6 := Lib.hid hi6
    clear hr6 hi6 hk6 g1
    go_wp2_with fail
    go_ret
    exact OutB.ok rfl HK6.out HR6.out ⟨X, rfl, HI6.out.mono (fun j hj _ => by omega)⟩

set_option maxRecDepth 100000 in
set_option maxHeartbeats 8000000 in
theorem stmt_kind (R d kd fn : Nat) (t : Tok) (r : List Tok) (res : Rd) (w : World) (h : RD w R (t :: r) d) (hk : t.kind ≠ 2) (hl : wordTab.lookup t.text = some (wv kd fn))
    (hC : ∀ W X, RD W R (t :: r) d → R < X → Blk W X 160 #[.int .u8 (7 : Nat), .string ⟨([] : List UInt8).toArray⟩, .int .i64 0, .int .i64 t.at', .slice none 0 0, .slice none 0 0] → Calls Tryz.prog 186 #[.pointer (some ⟨R, 0, none⟩), .pointer (some ⟨X, 0, none⟩)] W (OutB X W R d res (SPost X))) :
    Calls Tryz.prog 146 #[.pointer (some ⟨R, 0, none⟩)] w (XOut w R d res) := by
  have H := Lib.hid h; have HK := Lib.hid hk; have HL := Lib.hid hl; have HC := Lib.hid hC
  clear h hk hl hC
  have hmm := fun W => run_makeMap_plain (P := Tryz.prog) W 248
  have u1 := upd1 w
  have u2 := upd2 w
  have u3 := upd3 w
  have u4 := upd4 w
  have u5 := upd5 w
  have u6 := upd6 w
  have u7 := upd7 w
  have u8 := upd8 w
  have f1 := fld1
  have f0 := fld0
  go_enter Tryz.func146, Tryz.ntmps146
  go_wp2_with fail
  refine (node_any R d 7 (t :: r) _ (H.out.alloc _)).mono ?_; rintro e w1 ⟨X, rfl, hX, hb1, hk1⟩
  have hRw := H.out.lt.1
  have hXw : w.heap.size < X := by simp at hX; omega
  have HX1 := Lib.hid hb1
  have HM1 : Hid (w1.heap[w.heap.size]? = some (.map (ent 0 (wordTab.take 8)).toArray 8)) := Lib.hid ((hk1.block _ (by simp)).trans (heap_alloc_new w _))
  have HR1 := Lib.hid ((H.out.alloc (.map (ent 0 (wordTab.take 8)).toArray 8)).below hk1 (by simp; omega))
  have HK1 : Hid (KeepR w.heap.size R w w1) := Lib.hid (((KeepR.refl _ R w).alloc (Nat.le_refl _) (.map (ent 0 (wordTab.take 8)).toArray 8)).below hk1 (by simp))
  clear hb1 hk1 hX u1 u2 u3 u4 u5 u6 u7 u8 hmm
  go_wp2_with fail
  refine (now_any R t r d _ HR1.out).mono ?_; rintro e w2 ⟨rfl, hb2⟩; unfold tokA
  have lk : (Instr.lookup 248 (.map (some w.heap.size)) (.string ⟨t.text.toArray⟩) true).run Tryz.prog w2 = .ok (.tuple #[.agg #[.int .u8 kd, .func (.func fn) #[] #[]], .bool true]) w2 := by
    have hm2 : w2.heap[w.heap.size]? = some (.map (ent 0 wordTab).toArray 8) := (hb2.block _ (Array.getElem?_eq_some_iff.1 HM1.out).1).trans HM1.out
    have := look_ok w2 w.heap.size wordTab t.text 8 _ hm2 (zero247 w2) (by unfold wordTab; simp)
    rw [HL.out] at this
    exact this
  have HX2 := Lib.hid (HX1.out.below hb2)
  have HR2 := Lib.hid (HR1.out.below hb2 HR1.out.lt.1)
  have HK2 := Lib.hid (HK1.out.below hb2 HK1.out.size)
  have hs2 : w.heap.size ≤ w2.heap.size := HK2.out.size
  clear hb2 HM1 HX1 HR1 HK1
  have kk : ((t.kind : Int) != 2) = true := by have := HK.out; simp; omega
  go_wp2_with fail
  have HR2a := Lib.hid (HR2.out.alloc (.cells #[.int .u8 kd, .func (.func fn) #[] #[]] 247))
  have HW2 := Lib.hid (Blk.new w2 247 #[.int .u8 kd, .func (.func fn) #[] #[]])
  have HX2a := Lib.hid (HX2.out.alloc (.cells #[.int .u8 kd, .func (.func fn) #[] #[]] 247))
  have HK2a := Lib.hid (HK2.out.alloc hs2 (.cells #[.int .u8 kd, .func (.func fn) #[] #[]] 247))
  refine (now_any R t r d _ HR2a.out).mono ?_; rintro e w3 ⟨rfl, hb3⟩; unfold tokA
  have HR3 := Lib.hid (HR2a.out.below hb3 HR2a.out.lt.1)
  have HW3 := Lib.hid (HW2.out.below hb3)
  have HX3 := Lib.hid (HX2a.out.below hb3)
  have HK3 := Lib.hid (HK2a.out.below hb3 HK2a.out.size)
  have hs3 : w2.heap.size < w3.heap.size := HW3.out.lt
  clear hb3 lk
  go_wp2_with fail
  refine (HC.out _ X HR3.out (by omega) HX3.out).mono ?_
  rintro e w6 ⟨hk6, ho⟩
  have HK6 := Lib.hid (HK3.out.trans (hk6.mono (C := X) (Nat.le_refl _)) (show w.heap.size ≤ X by omega))
  cases res with
  | error q =>
    obtain ⟨p, er⟩ := q
    subst ho
    exact ⟨rfl, OutB.err rfl HK6.out⟩
  | ok q =>
    obtain ⟨y, ts2⟩ := q
    obtain ⟨hr6, v, rfl, rfl, hi6⟩ := ho
    have HR6 := Lib.hid hr6; have HI6 := Lib.hid hi6
    clear hr6 hi6 hk6
    go_wp2_with fail
    go_ret
    exact OutB.ok rfl HK6.out HR6.out ⟨X, rfl, HI6.out.mono (fun j hj _ => by omega)⟩

set_option maxRecDepth 100000 in
set_option maxHeartbeats 8000000 in
theorem stmt_none (R d : Nat) (t : Tok) (r : List Tok) (res : Rd) (w : World) (h : RD w R (t :: r) d) (hl : wordTab.lookup t.text = none)
    (hC : ∀ W X, RD W R (t :: r) d → R < X → Blk W X 160 #[.int .u8 (7 : Nat), .string ⟨([] : List UInt8).toArray⟩, .int .i64 0, .int .i64 t.at', .slice none 0 0, .slice none 0 0] → Calls Tryz.prog 186 #[.pointer (some ⟨R, 0, none⟩), .pointer (some ⟨X, 0, none⟩)] W (OutB X W R d res (SPost X))) :
    Calls Tryz.prog 146 #[.pointer (some ⟨R, 0, none⟩)] w (XOut w R d res) := by
  have H := Lib.hid h; have HL := Lib.hid hl; have HC := Lib.hid hC
  clear h hl hC
  have hmm := fun W => run_makeMap_plain (P := Tryz.prog) W 248
  have u1 := upd1 w
  have u2 := upd2 w
  have u3 := upd3 w
  have u4 := upd4 w
  have u5 := upd5 w
  have u6 := upd6 w
  have u7 := upd7 w
  have u8 := upd8 w
  have f1 := fld1
  have f0 := fld0
  go_enter Tryz.func146, Tryz.ntmps146
  go_wp2_with fail
  refine (node_any R d 7 (t :: r) _ (H.out.alloc _)).mono ?_; rintro e w1 ⟨X, rfl, hX, hb1, hk1⟩
  have hRw := H.out.lt.1
  have hXw : w.heap.size < X := by simp at hX; omega
  have HX1 := Lib.hid hb1
  have HM1 : Hid (w1.heap[w.heap.size]? = some (.map (ent 0 (wordTab.take 8)).toArray 8)) := Lib.hid ((hk1.block _ (by simp)).trans (heap_alloc_new w _))
  have HR1 := Lib.hid ((H.out.alloc (.map (ent 0 (wordTab.take 8)).toArray 8)).below hk1 (by simp; omega))
  have HK1 : Hid (KeepR w.heap.size R w w1) := Lib.hid (((KeepR.refl _ R w).alloc (Nat.le_refl _) (.map (ent 0 (wordTab.take 8)).toArray 8)).below hk1 (by simp))
  clear hb1 hk1 hX u1 u2 u3 u4 u5 u6 u7 u8 hmm
  go_wp2_with fail
  refine (now_any R t r d _ HR1.out).mono ?_; rintro e w2 ⟨rfl, hb2⟩; unfold tokA
  have lk : (Instr.lookup 248 (.map (some w.heap.size)) (.string ⟨t.text.toArray⟩) true).run Tryz.prog w2 = .ok (.tuple #[.agg #[.int .u8 0, .nilFunc], .bool false]) w2 := by
    have hm2 : w2.heap[w.heap.size]? = some (.map (ent 0 wordTab).toArray 8) := (hb2.block _ (Array.getElem?_eq_some_iff.1 HM1.out).1).trans HM1.out
    have := look_ok w2 w.heap.size wordTab t.text 8 _ hm2 (zero247 w2) (by unfold wordTab; simp)
    rw [HL.out] at this
    exact this
  have HX2 := Lib.hid (HX1.out.below hb2)
  have HR2 := Lib.hid (HR1.out.below hb2 HR1.out.lt.1)
  have HK2 := Lib.hid (HK1.out.below hb2 HK1.out.size)
  have hs2 : w.heap.size ≤ w2.heap.size := HK2.out.size
  clear hb2 HM1 HX1 HR1 HK1
  go_wp2_with fail
  have HR2a := Lib.hid (HR2.out.alloc (.cells #[.int .u8 0, .nilFunc] 247))
  have HX2a := Lib.hid (HX2.out.alloc (.cells #[.int .u8 0, .nilFunc] 247))
  have HK2a := Lib.hid (HK2.out.alloc hs2 (.cells #[.int .u8 0, .nilFunc] 247))
  refine (HC.out _ X HR2a.out (by omega) HX2a.out).mono ?_
  rintro e w6 ⟨hk6, ho⟩
  have HK6 := Lib.hid (HK2a.out.trans (hk6.mono (C := X) (Nat.le_refl _)) (show w.heap.size ≤ X by omega))
  cases res with
  | error q =>
    obtain ⟨p, er⟩ := q
    subst ho
    exact ⟨rfl, OutB.err rfl HK6.out⟩
  | ok q =>
    obtain ⟨y, ts2⟩ := q
    obtain ⟨hr6, v, rfl, rfl, hi6⟩ := ho
    have HR6 := Lib.hid hr6; have HI6 := Lib.hid hi6
    clear hr6 hi6 hk6
    go_wp2_with fail
    go_ret
    exact OutB.ok rfl HK6.out HR6.out ⟨X, rfl, HI6.out.mono (fun j hj _ => by omega)⟩

end Go.Proofs.YtkkeocnnecegbaaGreatDoor
