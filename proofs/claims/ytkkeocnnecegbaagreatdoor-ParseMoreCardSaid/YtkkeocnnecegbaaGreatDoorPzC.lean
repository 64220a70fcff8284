/- The walk over ParseBack. By an AI agent. -/
import Derived.Test.YtkkeocnnecegbaaGreatDoorJG
namespace Go.Proofs.YtkkeocnnecegbaaGreatDoor
open Go.RowKit

theorem box24 {w : World} {A : Option Addr} {n c : Nat} : Blk (w.alloc (.cells #[.slice A n c] 24)) w.heap.size 24 #[.slice A n c] := Blk.new w 24 _
theorem dropN_below (w : World) (o : Obj) : Below w.heap.size w (w.alloc o) := (Below.refl _ _).alloc (Nat.le_refl _) _
theorem sand (S : ByteArray) : ((⟨#[10]⟩ : ByteArray) ++ S ++ ⟨#[32]⟩).data.toList = 10 :: (S.data.toList ++ [32]) := by
  simp [ByteArray.data_append]

set_option maxRecDepth 100000 in
set_option maxHeartbeats 16000000 in
theorem back_bad (A : Option Addr) (c : Nat) (src : List UInt8) (p : Nat) (er : Int) (w : World) (hn : src.length ≤ 1500) (hl : BytS w A src) (he : EnvP w) (h : parseS src = .error (p, er)) :
    Calls Tryz.prog 7 #[.slice A src.length c] w fun e w' => e = .returned (.bool true) ∧ Below w.heap.size w w' := by
  have HC := Lib.hid (parse_bad A c src p er w (by omega) hl he h)
  have HE := Lib.hid he
  have e3 : (er != 0) = true := by rcases parse_code h with rfl | rfl | rfl | rfl <;> rfl
  have hn2 : ¬ (1500 : Int) < (src.length : Int) := by omega
  obtain ⟨n, hnn⟩ : ∃ n, n = src.length := ⟨_, rfl⟩
  rw [← hnn] at HC hn2 ⊢
  clear he hl h hn hnn
  go_enter Tryz.func7, Tryz.ntmps7
  go_wp2_with fail
  refine HC.out.mono ?_
  rintro e w1 ⟨rfl, hb1⟩
  have HB1 := Lib.hid (below_next hb1 (dropN_below w1 (.cells #[.slice none 0 0] 24)))
  clear hb1
  go_wp2_with fail
  refine (works_good (HE.out.below HB1.out)).mono ?_
  rintro e w2 ⟨rfl, hb2⟩
  have HB2 := Lib.hid (below_next HB1.out hb2)
  clear hb2
  go_wp2_with fail
  go_ret
  exact ⟨rfl, HB2.out⟩

set_option maxRecDepth 100000 in
set_option maxHeartbeats 16000000 in
theorem back_big (A : Option Addr) (n c : Nat) (w : World) (he : EnvP w) (h : 1500 < n) :
    Calls Tryz.prog 7 #[.slice A n c] w fun e w' => e = .returned (.bool true) ∧ Below w.heap.size w w' := by
  have HE := Lib.hid he
  have hn2 : (1500 : Int) < (n : Int) := by omega
  clear he h
  go_enter Tryz.func7, Tryz.ntmps7
  go_wp2_with fail
  refine (works_good HE.out).mono ?_
  rintro e w2 ⟨rfl, hb2⟩
  have HB2 := Lib.hid hb2
  clear hb2
  go_wp2_with fail
  go_ret
  exact ⟨rfl, HB2.out⟩

set_option maxRecDepth 100000 in
set_option maxHeartbeats 32000000 in
theorem back_good (A : Option Addr) (c : Nat) (src : List UInt8) (x : Item) (w : World) (hn : src.length ≤ 1500) (hl : BytS w A src) (he : EnvP w) (h : parseS src = .ok x) :
    Calls Tryz.prog 7 #[.slice A src.length c] w fun e w' => e = .returned (.bool true) ∧ Below w.heap.size w w' := by
  obtain ⟨ts, hts, hpr⟩ := parse_two h
  obtain ⟨g1, g2, g3, g4, y, g5, g6⟩ := back_text h
  obtain ⟨i1, i2, i3, i4, _⟩ := back_text g5
  obtain ⟨z, g7, g8⟩ := back_spell hts hpr
  have htx : textT y = textT x := i1.text g1 g6
  have hspl := spell_short hts
  have htl := lx_many_le (show lx src 0 = .ok ts by rw [← lexS_lx]; exact hts)
  have HC := Lib.hid (parse_good A c src x w (by omega) hl he h)
  have HLX := Lib.hid (fun W (hb : Below w.heap.size w W) => lex_ok A c src ts W (by omega) (hl.below hb) (he.ew.below hb) hts)
  have HE := Lib.hid he
  have HG5 := Lib.hid g5; have HG6 := Lib.hid g6; have HG7 := Lib.hid g7; have HG8 := Lib.hid g8; have HTX := Lib.hid htx
  have hn2 : ¬ (1500 : Int) < (src.length : Int) := by omega
  have kS := fun W s => Lib.run_convert_string_bytes (P := Tryz.prog) W 9 30 5 s (u := .string) Tryz.underlying9 Tryz.underlying30 Tryz.underlying5
  obtain ⟨n, hnn⟩ : ∃ n, n = src.length := ⟨_, rfl⟩
  have HN := Lib.hid hnn
  rw [← hnn] at HC HLX hn2 hn g4 hspl htl ⊢
  clear he hl h hnn hts hpr g1 g2 g3 g5 g6 g7 g8 i1 i2 i3 i4 htx
  go_enter Tryz.func7, Tryz.ntmps7
  go_wp2_with fail
  refine HC.out.mono ?_
  rintro e w1 ⟨⟨A1, n1, c1, rfl, hp1⟩, hb1⟩
  have hb1' := dropN_below w1 (.cells #[.slice A1 n1 c1] 24)
  have HB1 := Lib.hid (below_next hb1 hb1')
  have HP1 := Lib.hid (hp1.below hb1')
  have HX1 := Lib.hid (box24 (w := w1) (A := A1) (n := n1) (c := c1))
  have hn1p := hp1.pos
  obtain ⟨X1, hX1⟩ : ∃ X, X = w1.heap.size := ⟨_, rfl⟩
  clear hb1 hb1' hp1
  go_wp2_with fail
  rw [← hX1] at HX1 ⊢
  clear hX1
  generalize w1.alloc (.cells #[.slice A1 n1 c1] 24) = w2 at *
  have hc0 : w2.cell? ⟨X1, 0, none⟩ = some (.slice A1 n1 c1) := HX1.out.cell 0
  have hl0 := HX1.out.lt
  go_wp2_with fail
  refine (text_good HP1.out (HE.out.below HB1.out) (by omega) c1).mono ?_
  rintro e w3 ⟨⟨Ad, cd, rfl, hby⟩, hb3⟩
  obtain ⟨m, hm⟩ : ∃ m, m = (textT x).length := ⟨_, rfl⟩
  have HBY := Lib.hid hby; have HM := Lib.hid hm
  rw [← hm] at g4 ⊢
  have HB3 := Lib.hid (below_next HB1.out hb3)
  have HP3 := Lib.hid (HP1.out.below hb3)
  have HX3 : Hid (Blk w3 X1 24 #[.slice A1 n1 c1]) := Lib.hid ((hb3.block _ hl0).trans HX1.out)
  clear hb3 hby hm hc0 hl0 HP1 HX1
  go_wp2_with fail
  have hc4 := parse_good Ad cd (textT x) y w3 (by rw [← HM.out]; omega) HBY.out (HE.out.below HB3.out) HG5.out
  rw [← HM.out] at hc4
  refine hc4.mono ?_
  clear hc4
  rintro e w4 ⟨⟨A2, n2, c2, rfl, hp2⟩, hb4⟩
  have hb4' := dropN_below w4 (.cells #[.slice A2 n2 c2] 24)
  have hb5 := below_next hb4 hb4'
  have HB5 := Lib.hid (below_next HB3.out hb5)
  have HPA5 := Lib.hid (HP3.out.below hb5)
  have HPB5 := Lib.hid (hp2.below hb4')
  have HX5 := Lib.hid (HX3.out.below hb5)
  have HY5 := Lib.hid (box24 (w := w4) (A := A2) (n := n2) (c := c2))
  have HBY5 := Lib.hid (HBY.out.below hb5)
  obtain ⟨X2, hX2⟩ : ∃ X, X = w4.heap.size := ⟨_, rfl⟩
  have hXX : X1 < X2 := by have := HX3.out.lt; have := hb4.size; omega
  clear hb4 hb4' hb5 hp2 HBY HP3 HX3
  go_wp2_with fail
  rw [← hX2] at HY5 ⊢
  clear hX2
  generalize w4.alloc (.cells #[.slice A2 n2 c2] 24) = w5 at *
  have hc1 : w5.cell? ⟨X2, 0, none⟩ = some (.slice A2 n2 c2) := HY5.out.cell 0
  have hl1 := HY5.out.lt
  go_wp2_with fail
  refine (text_good HPB5.out (HE.out.below HB5.out) (by omega) c2).mono ?_
  rintro e w6 ⟨⟨Ae, ce, rfl, hbe⟩, hb6⟩
  rw [HTX.out] at hbe ⊢
  rw [← HM.out]
  have HB6 := Lib.hid (below_next HB5.out hb6)
  have HPA6 := Lib.hid (HPA5.out.below hb6)
  have HPB6 := Lib.hid (HPB5.out.below hb6)
  have HX6 := Lib.hid (HX5.out.below hb6)
  have HY6 := Lib.hid (HY5.out.below hb6)
  have HBY6 := Lib.hid (HBY5.out.below hb6)
  have HBE6 := Lib.hid hbe
  have hc0 : w6.cell? ⟨X1, 0, none⟩ = some (.slice A1 n1 c1) := HX6.out.cell 0
  have hl0 := HX6.out.lt
  clear hb6 hbe hc1 hl1 HX5 HY5 HPA5 HPB5 HBY5
  go_wp2_with fail
  refine (right_good HPA6.out (HE.out.below HB6.out) (by omega) c1).mono ?_
  rintro e w7 ⟨rfl, hb7⟩
  have HB7 := Lib.hid (below_next HB6.out hb7)
  have HPA7 := Lib.hid (HPA6.out.below hb7)
  have HPB7 := Lib.hid (HPB6.out.below hb7)
  have HX7 := Lib.hid (HX6.out.below hb7)
  have HY7 := Lib.hid (HY6.out.below hb7)
  have HBY7 := Lib.hid (HBY6.out.below hb7)
  have HBE7 := Lib.hid (HBE6.out.below hb7)
  clear hc0 hl0
  have hc0 : w7.cell? ⟨X1, 0, none⟩ = some (.slice A1 n1 c1) := HX7.out.cell 0
  have hl0 := HX7.out.lt
  have hc1 : w7.cell? ⟨X2, 0, none⟩ = some (.slice A2 n2 c2) := HY7.out.cell 0
  have hl1 := HY7.out.lt
  clear hb7 HX6 HY6 HPA6 HPB6 HBY6 HBE6
  go_wp2_with fail
  refine (same_good HPA7.out HPB7.out (HE.out.below HB7.out) (by omega) (by omega) HG6.out.symm c1 c2).mono ?_
  rintro e w8 ⟨rfl, hb8⟩
  have HB8 := Lib.hid (below_next HB7.out hb8)
  have HPA8 := Lib.hid (HPA7.out.below hb8)
  have HX8 := Lib.hid (HX7.out.below hb8)
  obtain ⟨S, hS⟩ : ∃ S : ByteArray, S = ⟨(textT x).toArray⟩ := ⟨_, rfl⟩
  have kA : (convert 30 9 (.slice Ad m cd)).run Tryz.prog w8 = .ok (.string S) w8 := by rw [hS, HM.out]; exact (HBY7.out.below hb8).conv cd
  have kB : (convert 30 9 (.slice Ae m ce)).run Tryz.prog w8 = .ok (.string S) w8 := by rw [hS, HM.out]; exact (HBE7.out.below hb8).conv ce
  clear hb8 hc0 hl0 hc1 hl1 HX7 HY7 HPA7 HPB7 HBY7 HBE7 hS
  go_wp2_with fail
  refine (HLX.out w8 HB8.out).mono ?_
  rintro e w9 ⟨A3, c3, rfl, hts9, hb9⟩
  have HB9 := Lib.hid (below_next HB8.out hb9)
  have HPA9 := Lib.hid (HPA8.out.below hb9)
  have HX9 := Lib.hid (HX8.out.below hb9)
  have HTS9 := Lib.hid hts9
  clear hb9 hts9 kA kB HX8 HPA8
  have hcs := spell_any A3 c3 ts w9 (by omega) (by omega) HTS9.out
  obtain ⟨S2, hS2⟩ : ∃ S : ByteArray, S = ⟨(spellL ts).toArray⟩ := ⟨_, rfl⟩
  rw [← hS2] at hcs
  have hSd : S2.data.toList = spellL ts := by rw [hS2]
  have hSz : S2.size = (spellL ts).length := by rw [← len_eq, hSd]
  obtain ⟨m2, hm2⟩ : ∃ m, m = (spellL ts).length := ⟨_, rfl⟩
  rw [← hm2] at hSz hspl
  have HCS := Lib.hid hcs
  have HDD : Hid (((⟨#[10]⟩ : ByteArray) ++ S2 ++ ⟨#[32]⟩).data.toList = 10 :: (spellL ts ++ [32])) := Lib.hid (by rw [sand, hSd])
  have HLL : Hid ((10 :: (spellL ts ++ [32])).length = m2 + 2) := Lib.hid (by rw [hm2]; simp)
  have hs1 : ((⟨#[10]⟩ : ByteArray) ++ S2).size = 1 + m2 := by rw [ByteArray.size_append, hSz]; rfl
  have hs3 : ((⟨#[10]⟩ : ByteArray) ++ S2 ++ ⟨#[32]⟩).size = m2 + 2 := by rw [ByteArray.size_append, hs1]; show 1 + m2 + 1 = m2 + 2; omega
  obtain ⟨nt, hnt⟩ : ∃ nt, nt = ts.length := ⟨_, rfl⟩
  rw [← hnt] at HCS ⊢
  clear hcs hS2 hSd hm2 hnt htl
  go_wp2_with fail
  refine HCS.out.mono ?_
  rintro e w10 ⟨rfl, hb10⟩
  have HB10 := Lib.hid (below_next HB9.out hb10)
  have HPA10 := Lib.hid (HPA9.out.below hb10)
  have HX10 := Lib.hid (HX9.out.below hb10)
  clear hb10 HPA9 HX9
  go_wp2_with fail
  refine (parseb_good w10 _ _ (m2 + 2) _ z HDD.out HLL.out (by omega) (HE.out.below HB10.out) HG7.out).mono ?_
  rintro e w11 ⟨⟨A4, n4, c4, rfl, hp4⟩, hb11⟩
  have hb11' := dropN_below w11 (.cells #[.slice A4 n4 c4] 24)
  have hb12 := below_next hb11 hb11'
  have HB12 := Lib.hid (below_next HB10.out hb12)
  have HPA12 := Lib.hid (HPA10.out.below hb12)
  have HPB12 := Lib.hid (hp4.below hb11')
  have HX12 := Lib.hid (HX10.out.below hb12)
  have HY12 := Lib.hid (box24 (w := w11) (A := A4) (n := n4) (c := c4))
  have hc0 : (w11.alloc (.cells #[.slice A4 n4 c4] 24)).cell? ⟨X1, 0, none⟩ = some (.slice A1 n1 c1) := HX12.out.cell 0
  have hl0 : X1 < w11.heap.size := by have := HX10.out.lt; have := hb11.size; omega
  clear hb11 hb11' hb12 hp4 HPA10 HX10 kS hs1 hs3
  go_wp2_with fail
  generalize w11.alloc (.cells #[.slice A4 n4 c4] 24) = w12 at *
  refine (same_good HPA12.out HPB12.out (HE.out.below HB12.out) (by omega) (by omega) HG8.out.symm c1 c4).mono ?_
  rintro e w13 ⟨rfl, hb13⟩
  have HB13 := Lib.hid (below_next HB12.out hb13)
  clear hb13 hc0
  go_wp2_with fail
  refine (works_good (HE.out.below HB13.out)).mono ?_
  rintro e w14 ⟨rfl, hb14⟩
  have HB14 := Lib.hid (below_next HB13.out hb14)
  clear hb14
  go_wp2_with fail
  go_ret
  exact ⟨rfl, HB14.out⟩
theorem back_any (A : Option Addr) (c : Nat) (src : List UInt8) (w : World) (hl : BytS w A src) (he : EnvP w) :
    Calls Tryz.prog 7 #[.slice A src.length c] w fun e w' => e = .returned (.bool true) ∧ Below w.heap.size w w' := by
  by_cases hn : src.length ≤ 1500
  · cases h : parseS src with
    | error q => exact back_bad A c src q.1 q.2 w hn hl he h
    | ok x => exact back_good A c src x w hn hl he h
  · exact back_big A _ c w he (by omega)
end Go.Proofs.YtkkeocnnecegbaaGreatDoor
