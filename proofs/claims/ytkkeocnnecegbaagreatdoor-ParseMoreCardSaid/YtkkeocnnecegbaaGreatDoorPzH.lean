/- The walk over ParseMore, both sources parsed; printed by mk_pmore.py. By an AI agent. -/
import Derived.Test.YtkkeocnnecegbaaGreatDoorPMoreV
import Derived.Test.YtkkeocnnecegbaaGreatDoorPzC
namespace Go.Proofs.YtkkeocnnecegbaaGreatDoor
open Go.RowKit

theorem NodR.nodes {w : World} {A : Option Addr} {l : List PV} (h : NodR w A l) (hp : 0 < l.length) : ∃ b o, A = some ⟨b, o, none⟩ ∧ ∀ i g, l[i]? = some g → nodeAt w b (o + i * 5) g := by
  rcases h with rfl | h
  · simp at hp
  · exact h
theorem smore (S T : ByteArray) : (S ++ ⟨#[32]⟩ ++ T).data.toList = S.data.toList ++ 32 :: T.data.toList := by
  simp [ByteArray.data_append]
set_option maxRecDepth 100000 in
set_option maxHeartbeats 64000000 in
theorem pmore_good (A B : Option Addr) (c d : Nat) (a b : List UInt8) (x y : Item) (w : World) (hna : a.length ≤ 700) (hnb : b.length ≤ 700) (ha : BytS w A a) (hb : BytS w B b) (he : EnvP w) (hx : parseS a = .ok x) (hy : parseS b = .ok y) :
    Calls Tryz.prog 5 #[.slice A a.length c, .slice B b.length d] w fun e w' => e = .returned (.bool true) ∧ Below w.heap.size w w' := by
  obtain ⟨z, hz, hM⟩ := parse_more hx hy
  have HC1 := Lib.hid (parse_good A c a x w (by omega) ha he hx)
  have HC2 := Lib.hid (fun W (hW : Below w.heap.size w W) => parse_good B d b y W (by omega) (hb.below hW) (he.below hW) hy)
  obtain ⟨S, hS⟩ : ∃ S : ByteArray, S = ⟨a.toArray⟩ := ⟨_, rfl⟩
  obtain ⟨T, hT⟩ : ∃ T : ByteArray, T = ⟨b.toArray⟩ := ⟨_, rfl⟩
  have kA := fun W (hW : Below w.heap.size w W) => (ha.below hW).conv c
  have kB := fun W (hW : Below w.heap.size w W) => (hb.below hW).conv d
  rw [← hS] at kA
  rw [← hT] at kB
  have KA := Lib.hid kA; have KB := Lib.hid kB
  have hSz : S.size = a.length := by rw [← len_eq, hS]
  have hTz : T.size = b.length := by rw [← len_eq, hT]
  have HDD : Hid ((S ++ ⟨#[32]⟩ ++ T).data.toList = a ++ 32 :: b) := Lib.hid (by rw [smore, hS, hT])
  have HLL : Hid ((a ++ 32 :: b).length = a.length + 1 + b.length) := Lib.hid (by simp; omega)
  have HMV := Lib.hid (fun l1 l2 l3 => @moreV_of a b x y z l1 l2 l3 hx hy hna hnb hM)
  have HE := Lib.hid he; have HZ := Lib.hid hz
  have hs1 : (S ++ ⟨#[32]⟩ : ByteArray).size = a.length + 1 := by rw [ByteArray.size_append, hSz]; rfl
  have hs2 : (S ++ ⟨#[32]⟩ ++ T : ByteArray).size = a.length + 1 + b.length := by rw [ByteArray.size_append, hs1, hTz]
  have kS := fun W s => Lib.run_convert_string_bytes (P := Tryz.prog) W 9 30 5 s (u := .string) Tryz.underlying9 Tryz.underlying30 Tryz.underlying5
  obtain ⟨n, hn⟩ : ∃ n, n = a.length := ⟨_, rfl⟩
  obtain ⟨m, hm⟩ : ∃ m, m = b.length := ⟨_, rfl⟩
  have e1 : ¬ (700 : Int) < (n : Int) := by omega
  have e2 : ¬ (700 : Int) < (m : Int) := by omega
  rw [← hn] at HC1 KA HMV HLL hSz hs1 hs2 hna ⊢
  rw [← hm] at HC2 KB HLL hTz hs2 hnb ⊢
  clear ha hb he hn hm hx hy hz hM hS hT kA kB
  go_enter Tryz.func5, Tryz.ntmps5
  go_wp2_with fail
  refine HC1.out.mono ?_
  rintro e w1 ⟨⟨A1, n1, c1, rfl, hp1⟩, hb1⟩
  have hb1' := dropN_below w1 (.cells #[.slice A1 n1 c1] 24)
  have HB1 := Lib.hid (below_next hb1 hb1')
  obtain ⟨l1, hn1, hr1, hg1, _⟩ := hp1.below hb1'
  have HR1 := Lib.hid hr1; have HG1 := Lib.hid hg1; have HN1 := Lib.hid hn1
  have hq1 := hp1.small; have hq1p := hp1.pos
  have HX1 := Lib.hid (box24 (w := w1) (A := A1) (n := n1) (c := c1))
  obtain ⟨X1, hX1⟩ : ∃ X, X = w1.heap.size := ⟨_, rfl⟩
  clear hb1 hb1' hp1 hr1 hg1 hn1
  go_wp2_with fail
  rw [← hX1] at HX1 ⊢
  clear hX1
  generalize w1.alloc (.cells #[.slice A1 n1 c1] 24) = w2 at *
  refine (HC2.out _ HB1.out).mono ?_
  rintro e w3 ⟨⟨A2, n2, c2, rfl, hp2⟩, hb3⟩
  have hb3' := dropN_below w3 (.cells #[.slice A2 n2 c2] 24)
  have hb4 := below_next hb3 hb3'
  have HB4 := Lib.hid (below_next HB1.out hb4)
  have HR14 := Lib.hid (HR1.out.below hb4)
  have HX14 := Lib.hid (HX1.out.below hb4)
  obtain ⟨l2, hn2, hr2, hg2, _⟩ := hp2.below hb3'
  have HR24 := Lib.hid hr2; have HG2 := Lib.hid hg2; have HN2 := Lib.hid hn2
  have hq2 := hp2.small; have hq2p := hp2.pos
  have HX24 := Lib.hid (box24 (w := w3) (A := A2) (n := n2) (c := c2))
  obtain ⟨X2, hX2⟩ : ∃ X, X = w3.heap.size := ⟨_, rfl⟩
  have hXX : X1 < X2 := by have := HX1.out.lt; have := hb3.size; omega
  clear hb3 hb3' hb4 hp2 hr2 hg2 hn2 HX1 HR1
  go_upto_region 7 with fail
  rw [← hX2] at HX24 ⊢
  clear hX2
  generalize w3.alloc (.cells #[.slice A2 n2 c2] 24) = w4 at *
  have qA : (convert 30 9 (.slice A n c)).run Tryz.prog w4 = .ok (.string S) w4 := KA.out w4 HB4.out
  have qB : (convert 30 9 (.slice B m d)).run Tryz.prog w4 = .ok (.string T) w4 := KB.out w4 HB4.out
  go_wp2_with fail
  refine (parseb_good w4 _ _ (n + 1 + m) _ z HDD.out HLL.out (by omega) (HE.out.below HB4.out) HZ.out).mono ?_
  rintro e w5 ⟨⟨A3, n3, c3, rfl, hp3⟩, hb5⟩
  have hb5' := dropN_below w5 (.cells #[.slice A3 n3 c3] 24)
  have hb6 := below_next hb5 hb5'
  have HB6 := Lib.hid (below_next HB4.out hb6)
  have HR16 := Lib.hid (HR14.out.below hb6)
  have HR26 := Lib.hid (HR24.out.below hb6)
  have HX16 := Lib.hid (HX14.out.below hb6)
  have HX26 := Lib.hid (HX24.out.below hb6)
  obtain ⟨l3, hn3, hr3, hg3, _⟩ := hp3.below hb5'
  have HR36 := Lib.hid hr3; have HN3 := Lib.hid hn3
  have HV := Lib.hid (HMV.out l1 l2 l3 HG1.out HG2.out hg3 (by rw [← HN1.out]; omega) (by rw [← HN2.out]; omega))
  have hq3 := hp3.small; have hq3p := hp3.pos
  have HX36 := Lib.hid (box24 (w := w5) (A := A3) (n := n3) (c := c3))
  obtain ⟨X3, hX3⟩ : ∃ X, X = w5.heap.size := ⟨_, rfl⟩
  have hXY : X2 < X3 := by have := HX24.out.lt; have := hb5.size; omega
  clear hb5 hb5' hb6 hp3 hr3 hg3 hn3 HX14 HX24 HR14 HR24 qA qB kS hs1 hs2 HG1 HG2 HMV HC1 HC2 KA KB HDD HLL HZ
  go_upto_region 8 with fail
  rw [← hX3] at HX36 ⊢
  clear hX3
  generalize w5.alloc (.cells #[.slice A3 n3 c3] 24) = w6 at *
  have hc1 : w6.cell? ⟨X1, 0, none⟩ = some (.slice A1 n1 c1) := HX16.out.cell 0
  have hc2 : w6.cell? ⟨X2, 0, none⟩ = some (.slice A2 n2 c2) := HX26.out.cell 0
  have hc3 : w6.cell? ⟨X3, 0, none⟩ = some (.slice A3 n3 c3) := HX36.out.cell 0
  have hl1 := HX16.out.lt; have hl2 := HX26.out.lt; have hl3 := HX36.out.lt
  have hsz : n3 + 1 = n1 + n2 := by have := HV.out.size; have := HN1.out; have := HN2.out; have := HN3.out; omega
  have f1 : ((n1 : Int) == 0) = false := by simp; omega
  have f2 : ((n2 : Int) == 0) = false := by simp; omega
  have f3 : ((n3 : Int) != (n1 : Int) + (n2 : Int) - 1) = false := by simp; omega
  obtain ⟨g0, gx0, gy0, r3, r1, r2, hroot, hsx, hsy⟩ := HV.out.root
  obtain ⟨b1, o1, rfl, q1⟩ := HR16.out.nodes (by rw [← HN1.out]; exact hq1p)
  obtain ⟨b2, o2, rfl, q2⟩ := HR26.out.nodes (by rw [← HN2.out]; exact hq2p)
  obtain ⟨b3, o3, rfl, q3⟩ := HR36.out.nodes (by rw [← HN3.out]; exact hq3p)
  have Q1 := Lib.hid q1; have Q2 := Lib.hid q2; have Q3 := Lib.hid q3
  obtain ⟨_, _, _, _, y1, Ax, cx, hxv, _, _⟩ := q1 0 gx0 r1
  obtain ⟨_, _, _, _, y2, Ay, cy, hyv, _, _⟩ := q2 0 gy0 r2
  obtain ⟨_, _, _, _, y3, Az, cz, hzv, _, _⟩ := q3 0 g0 r3
  rw [hxv, Nat.zero_mul, Nat.add_zero] at y1
  rw [hyv, Nat.zero_mul, Nat.add_zero] at y2
  rw [hzv, Nat.zero_mul, Nat.add_zero] at y3
  obtain ⟨kx, hkx⟩ : ∃ k, k = gx0.1.kids.length := ⟨_, rfl⟩
  obtain ⟨ky, hky⟩ : ∃ k, k = gy0.1.kids.length := ⟨_, rfl⟩
  obtain ⟨kz, hkz⟩ : ∃ k, k = g0.1.kids.length := ⟨_, rfl⟩
  rw [← hkx] at y1 hsx hroot
  rw [← hky] at y2 hsy hroot
  rw [← hkz] at y3 hroot
  have f4 : ((kz : Int) != (kx : Int) + (ky : Int)) = false := by simp; omega
  have lb1 := cell_lt' y1; have lb2 := cell_lt' y2; have lb3 := cell_lt' y3
  have i1 : (0 : Int) < (n1 : Int) := by omega
  have i2 : (0 : Int) < (n2 : Int) := by omega
  have i3 : (0 : Int) < (n3 : Int) := by omega
  clear q1 q2 q3 hxv hyv hzv hkx hky hkz r1 r2 r3
  go_quiet (fail)
  clear y1 y2 y3 f4 f1 f2 f3
  go_wp2_with fail
  go_loopg [14] n3 (fun gk v wr => ∃ i : Nat, 1 ≤ i ∧ i ≤ n3 ∧ n3 - i ≤ gk ∧ v = .int .i64 i ∧ Hid (Below w6.heap.size w6 wr))
  case atStart => exact ⟨1, Nat.le_refl _, by omega, by omega, rfl, Lib.hid ⟨rfl, rfl, rfl, Nat.le_refl _, fun _ _ => rfl⟩⟩
  case round =>
    obtain ⟨i, h1, hi, hgk, rfl, HB⟩ := hrel
    have tc1 : wr.cell? ⟨X1, 0, none⟩ = some (.slice (some ⟨b1, o1, none⟩) n1 c1) := (HX16.out.below HB.out).cell 0
    have tc2 : wr.cell? ⟨X2, 0, none⟩ = some (.slice (some ⟨b2, o2, none⟩) n2 c2) := (HX26.out.below HB.out).cell 0
    have tc3 : wr.cell? ⟨X3, 0, none⟩ = some (.slice (some ⟨b3, o3, none⟩) n3 c3) := (HX36.out.below HB.out).cell 0
    have tl1 := cell_lt' tc1; have tl2 := cell_lt' tc2; have tl3 := cell_lt' tc3
    clear hc1 hc2 hc3 hl1 hl2 hl3 lb1 lb2 lb3
    by_cases hlt : i < n3
    case neg =>
      go_wp2_with fail
      have HBE := Lib.hid (below_next HB6.out HB.out)
      refine (works_good (HE.out.below HBE.out)).mono ?_
      rintro e w9 ⟨rfl, hb9⟩
      have HB9 := Lib.hid (below_next HBE.out hb9)
      clear hb9
      go_wp2_with fail
      go_ret
      exact ⟨rfl, HB9.out⟩
    case pos =>
      obtain ⟨ko, rfl⟩ : ∃ ko, gk = ko + 1 := ⟨gk - 1, by omega⟩
      by_cases hin : i < n1
      case pos =>
        obtain ⟨g, u, hg, hu, he, hsm⟩ := HV.out.lo i h1 (by rw [← HN1.out]; exact hin)
        obtain ⟨x0, x1, x2, x3, x4, x5⟩ := (Q3.out i g hg).below HB.out
        obtain ⟨y0, y1, y2, y3, y4, y5⟩ := (Q1.out i u hu).below HB.out
        obtain ⟨Ag, cg, hgv, hcg, ig⟩ := x5
        obtain ⟨Au, cu, huv, hcu, iu⟩ := y5
        rw [hgv] at x4
        rw [huv] at y4
        have IG := Lib.hid ig; have IU := Lib.hid iu
        clear ig iu hgv huv hcg hcu hg hu
        obtain ⟨⟨xk, xt, xn, xa, xs⟩, xv⟩ := g
        obtain ⟨⟨yk, yt, yn, ya, ys⟩, yv⟩ := u
        simp only [] at he
        injection he with j1 j2 j3 j4 j5
        subst j1 j2 j3 j4 j5
        obtain ⟨⟨ha0, ha1⟩, hkl, hks⟩ := hsm
        have HKS := Lib.hid hks
        simp only [] at x0 x1 x2 x3 x4 y0 y1 y2 y3 y4 ha0 ha1 hkl
        clear hks
        have g1 := cell_lt' x0; have g2 := cell_lt' y0
        have k1 : (i : Int) < (n3 : Int) := by omega
        obtain ⟨kn, hkn⟩ : ∃ k, k = xs.length := ⟨_, rfl⟩
        rw [← hkn] at x4 y4 hkl
        have HKN := Lib.hid hkn
        clear hkn
        have HBZ : Hid (Below wr.heap.size wr ((wr.alloc (.cells #[.int .u8 xk, .string ⟨xt.toArray⟩, .int .i64 xn, .int .i64 xa, .slice Au kn cu] 43)).alloc (.cells #[.int .u8 xk, .string ⟨xt.toArray⟩, .int .i64 xn, .int .i64 xa, .slice Ag kn cg] 43))) := Lib.hid (((Below.refl _ _).alloc (Nat.le_refl _) _).alloc (by simp) _)
        have HZ1 : Hid (Blk ((wr.alloc (.cells #[.int .u8 xk, .string ⟨xt.toArray⟩, .int .i64 xn, .int .i64 xa, .slice Au kn cu] 43)).alloc (.cells #[.int .u8 xk, .string ⟨xt.toArray⟩, .int .i64 xn, .int .i64 xa, .slice Ag kn cg] 43)) wr.heap.size 43 #[.int .u8 xk, .string ⟨xt.toArray⟩, .int .i64 xn, .int .i64 xa, .slice Au kn cu]) := Lib.hid ((Blk.new wr 43 _).alloc _)
        have HZ2 : Hid (Blk ((wr.alloc (.cells #[.int .u8 xk, .string ⟨xt.toArray⟩, .int .i64 xn, .int .i64 xa, .slice Au kn cu] 43)).alloc (.cells #[.int .u8 xk, .string ⟨xt.toArray⟩, .int .i64 xn, .int .i64 xa, .slice Ag kn cg] 43)) (wr.heap.size + 1) 43 #[.int .u8 xk, .string ⟨xt.toArray⟩, .int .i64 xn, .int .i64 xa, .slice Ag kn cg]) := Lib.hid (blk_at _ _ _ _ (by simp))
        go_upto_region 20 with fail
        clear x0 x1 x2 x3 x4 y0 y1 y2 y3 y4 g1 g2 tc1 tc2 tl1 tl2
        generalize ((wr.alloc (.cells #[.int .u8 xk, .string ⟨xt.toArray⟩, .int .i64 xn, .int .i64 xa, .slice Au kn cu] 43)).alloc (.cells #[.int .u8 xk, .string ⟨xt.toArray⟩, .int .i64 xn, .int .i64 xa, .slice Ag kn cg] 43)) = wz at *
        obtain ⟨P1, hP1⟩ : ∃ P, P = wr.heap.size := ⟨_, rfl⟩
        obtain ⟨P2, hP2⟩ : ∃ P, P = wr.heap.size + 1 := ⟨_, rfl⟩
        rw [← hP2] at HZ2 ⊢
        rw [← hP1] at HZ1 ⊢
        clear hP1 hP2
        have z0 : wz.cell? ⟨P1, 0, none⟩ = some (.int .u8 xk) := HZ1.out.cell 0
        have z1 : wz.cell? ⟨P1, 1, none⟩ = some (.string ⟨xt.toArray⟩) := HZ1.out.cell 1
        have z2 : wz.cell? ⟨P1, 2, none⟩ = some (.int .i64 xn) := HZ1.out.cell 2
        have z3 : wz.cell? ⟨P1, 3, none⟩ = some (.int .i64 xa) := HZ1.out.cell 3
        have z4 : wz.cell? ⟨P1, 4, none⟩ = some (.slice Au kn cu) := HZ1.out.cell 4
        have v0 : wz.cell? ⟨P2, 0, none⟩ = some (.int .u8 xk) := HZ2.out.cell 0
        have v1 : wz.cell? ⟨P2, 1, none⟩ = some (.string ⟨xt.toArray⟩) := HZ2.out.cell 1
        have v2 : wz.cell? ⟨P2, 2, none⟩ = some (.int .i64 xn) := HZ2.out.cell 2
        have v3 : wz.cell? ⟨P2, 3, none⟩ = some (.int .i64 xa) := HZ2.out.cell 3
        have v4 : wz.cell? ⟨P2, 4, none⟩ = some (.slice Ag kn cg) := HZ2.out.cell 4
        have lz := cell_lt' z0; have lv := cell_lt' v0
        have hkb : ((xk : Int) != (xk : Int)) = false := by simp
        have htb : (xt == xt) = true := by simp
        have htb2 : (xt != xt) = false := by simp
        have hnb : (xn != xn) = false := by simp
        have hqb : ((kn : Int) != (kn : Int)) = false := by simp
        have hab : ((xa : Int) != xa) = false := by simp
        go_wp2_with fail
        go_loopg [19] kn (fun gq v wq => ∃ j q : Nat, j ≤ kn ∧ kn - j ≤ gq ∧ v = .int .i64 j ∧ wq = wz.drewN q)
        case atStart => exact ⟨0, 0, Nat.zero_le _, Nat.le_refl _, rfl, rfl⟩
        case round =>
          obtain ⟨j, q, hj, hgq, rfl, rfl⟩ := hrel
          by_cases hjl : j < kn
          case neg =>
            go_wp2_with fail
            go_roundg ko
            case measure => omega
            case rel => exact ⟨i + 1, by omega, by omega, by omega, by simp, Lib.hid (below_next HB.out (HBZ.out.trans ((below_drewN wz q).mono HBZ.out.size)))⟩
          case pos =>
            have hjc : (j : Int) < (kn : Int) := by omega
            have hjy : j < xs.length := by rw [← HKN.out]; exact hjl
            rcases IU.out.below HBZ.out with h0 | ⟨b5, o5, rfl, h5⟩
            · exfalso; rw [h0] at hjy; simp at hjy
            rcases IG.out.below HBZ.out with h0 | ⟨b4, o4, rfl, h4⟩
            · exfalso; rw [h0] at hjy; simp at hjy
            have s5 : wz.cell? ⟨b5, o5 + j, none⟩ = some (.int .i64 xs[j]) := h5 j _ (List.getElem?_eq_getElem hjy)
            have s4 : wz.cell? ⟨b4, o4 + j, none⟩ = some (.int .i64 xs[j]) := h4 j _ (by exact List.getElem?_eq_getElem hjy)
            obtain ⟨hs0, hs1⟩ := HKS.out xs[j] (List.getElem_mem hjy)
            generalize xs[j] = yj at *
            clear h4 h5
            have heb : (yj != yj) = false := by simp
            have l4 := cell_lt' s4; have l5 := cell_lt' s5
            go_wp2_with fail
            go_quiet (fail)
            go_wp2_with fail
            cases gk with
            | zero => omega
            | succ gk =>
              go_roundg gk
              case measure => omega
              case rel => exact ⟨j + 1, _, by omega, by omega, by simp, rfl⟩
      case neg =>
        obtain ⟨g, u, hg, hu, he, hsm⟩ := HV.out.hi i (by rw [← HN1.out]; omega) (by rw [← HN3.out]; exact hlt)
        obtain ⟨x0, x1, x2, x3, x4, x5⟩ := (Q3.out i g hg).below HB.out
        obtain ⟨y0, y1, y2, y3, y4, y5⟩ := (Q2.out (i - n1 + 1) u (by rw [show i - n1 + 1 = i + 1 - l1.length by rw [← HN1.out]; omega]; exact hu)).below HB.out
        obtain ⟨Ag, cg, hgv, hcg, ig⟩ := x5
        obtain ⟨Au, cu, huv, hcu, iu⟩ := y5
        rw [hgv] at x4
        rw [huv] at y4
        have IG := Lib.hid ig; have IU := Lib.hid iu
        clear ig iu hgv huv hcg hcu hg hu
        obtain ⟨⟨xk, xt, xn, xa, xs⟩, xv⟩ := g
        obtain ⟨⟨yk, yt, yn, ya, ys⟩, yv⟩ := u
        simp only [shiftG] at he
        injection he with j1 j2 j3 j4 j5
        subst j1 j2 j3 j4 j5
        obtain ⟨⟨ha0, ha1⟩, hkl, hks⟩ := hsm
        have HKS := Lib.hid hks
        simp only [] at x0 x1 x2 x3 x4 y0 y1 y2 y3 y4 ha0 ha1 hkl
        clear hks
        have g1 := cell_lt' x0; have g2 := cell_lt' y0
        have k1 : (i : Int) < (n3 : Int) := by omega
        have k2 : (i : Int) - (n1 : Int) + 1 < (n2 : Int) := by omega
        obtain ⟨kn, hkn⟩ : ∃ k, k = ys.length := ⟨_, rfl⟩
        rw [List.length_map, ← hkn] at x4
        rw [← hkn] at y4 hkl
        have HKN := Lib.hid hkn
        have hb1 : ((l1.length - 1 : Nat) : Int) = (n1 : Int) - 1 := by rw [← HN1.out]; omega
        have HB1' := Lib.hid hb1
        clear hkn hb1
        have HBZ : Hid (Below wr.heap.size wr ((wr.alloc (.cells #[.int .u8 xk, .string ⟨xt.toArray⟩, .int .i64 xn, .int .i64 ya, .slice Au kn cu] 43)).alloc (.cells #[.int .u8 xk, .string ⟨xt.toArray⟩, .int .i64 xn, .int .i64 (ya + ((n : Int) + 1)), .slice Ag kn cg] 43))) := Lib.hid (((Below.refl _ _).alloc (Nat.le_refl _) _).alloc (by simp) _)
        have HZ1 : Hid (Blk ((wr.alloc (.cells #[.int .u8 xk, .string ⟨xt.toArray⟩, .int .i64 xn, .int .i64 ya, .slice Au kn cu] 43)).alloc (.cells #[.int .u8 xk, .string ⟨xt.toArray⟩, .int .i64 xn, .int .i64 (ya + ((n : Int) + 1)), .slice Ag kn cg] 43)) wr.heap.size 43 #[.int .u8 xk, .string ⟨xt.toArray⟩, .int .i64 xn, .int .i64 ya, .slice Au kn cu]) := Lib.hid ((Blk.new wr 43 _).alloc _)
        have HZ2 : Hid (Blk ((wr.alloc (.cells #[.int .u8 xk, .string ⟨xt.toArray⟩, .int .i64 xn, .int .i64 ya, .slice Au kn cu] 43)).alloc (.cells #[.int .u8 xk, .string ⟨xt.toArray⟩, .int .i64 xn, .int .i64 (ya + ((n : Int) + 1)), .slice Ag kn cg] 43)) (wr.heap.size + 1) 43 #[.int .u8 xk, .string ⟨xt.toArray⟩, .int .i64 xn, .int .i64 (ya + ((n : Int) + 1)), .slice Ag kn cg]) := Lib.hid (blk_at _ _ _ _ (by simp))
        go_upto_region 20 with fail
        clear x0 x1 x2 x3 x4 y0 y1 y2 y3 y4 g1 g2 tc1 tc2 tl1 tl2
        generalize ((wr.alloc (.cells #[.int .u8 xk, .string ⟨xt.toArray⟩, .int .i64 xn, .int .i64 ya, .slice Au kn cu] 43)).alloc (.cells #[.int .u8 xk, .string ⟨xt.toArray⟩, .int .i64 xn, .int .i64 (ya + ((n : Int) + 1)), .slice Ag kn cg] 43)) = wz at *
        obtain ⟨P1, hP1⟩ : ∃ P, P = wr.heap.size := ⟨_, rfl⟩
        obtain ⟨P2, hP2⟩ : ∃ P, P = wr.heap.size + 1 := ⟨_, rfl⟩
        rw [← hP2] at HZ2 ⊢
        rw [← hP1] at HZ1 ⊢
        clear hP1 hP2
        have z0 : wz.cell? ⟨P1, 0, none⟩ = some (.int .u8 xk) := HZ1.out.cell 0
        have z1 : wz.cell? ⟨P1, 1, none⟩ = some (.string ⟨xt.toArray⟩) := HZ1.out.cell 1
        have z2 : wz.cell? ⟨P1, 2, none⟩ = some (.int .i64 xn) := HZ1.out.cell 2
        have z3 : wz.cell? ⟨P1, 3, none⟩ = some (.int .i64 ya) := HZ1.out.cell 3
        have z4 : wz.cell? ⟨P1, 4, none⟩ = some (.slice Au kn cu) := HZ1.out.cell 4
        have v0 : wz.cell? ⟨P2, 0, none⟩ = some (.int .u8 xk) := HZ2.out.cell 0
        have v1 : wz.cell? ⟨P2, 1, none⟩ = some (.string ⟨xt.toArray⟩) := HZ2.out.cell 1
        have v2 : wz.cell? ⟨P2, 2, none⟩ = some (.int .i64 xn) := HZ2.out.cell 2
        have v3 : wz.cell? ⟨P2, 3, none⟩ = some (.int .i64 (ya + ((n : Int) + 1))) := HZ2.out.cell 3
        have v4 : wz.cell? ⟨P2, 4, none⟩ = some (.slice Ag kn cg) := HZ2.out.cell 4
        have lz := cell_lt' z0; have lv := cell_lt' v0
        have hkb : ((xk : Int) != (xk : Int)) = false := by simp
        have htb : (xt == xt) = true := by simp
        have htb2 : (xt != xt) = false := by simp
        have hnb : (xn != xn) = false := by simp
        have hqb : ((kn : Int) != (kn : Int)) = false := by simp
        have hab : (((ya + ((n : Int) + 1)) : Int) != (ya + ((n : Int) + 1))) = false := by simp
        go_wp2_with fail
        go_loopg [19] kn (fun gq v wq => ∃ j q : Nat, j ≤ kn ∧ kn - j ≤ gq ∧ v = .int .i64 j ∧ wq = wz.drewN q)
        case atStart => exact ⟨0, 0, Nat.zero_le _, Nat.le_refl _, rfl, rfl⟩
        case round =>
          obtain ⟨j, q, hj, hgq, rfl, rfl⟩ := hrel
          by_cases hjl : j < kn
          case neg =>
            go_wp2_with fail
            go_roundg ko
            case measure => omega
            case rel => exact ⟨i + 1, by omega, by omega, by omega, by simp, Lib.hid (below_next HB.out (HBZ.out.trans ((below_drewN wz q).mono HBZ.out.size)))⟩
          case pos =>
            have hjc : (j : Int) < (kn : Int) := by omega
            have hjy : j < ys.length := by rw [← HKN.out]; exact hjl
            rcases IU.out.below HBZ.out with h0 | ⟨b5, o5, rfl, h5⟩
            · exfalso; rw [h0] at hjy; simp at hjy
            rcases IG.out.below HBZ.out with h0 | ⟨b4, o4, rfl, h4⟩
            · exfalso; rw [List.map_eq_nil_iff] at h0; rw [h0] at hjy; simp at hjy
            have s5 : wz.cell? ⟨b5, o5 + j, none⟩ = some (.int .i64 ys[j]) := h5 j _ (List.getElem?_eq_getElem hjy)
            have s4 : wz.cell? ⟨b4, o4 + j, none⟩ = some (.int .i64 (ys[j] + ((n1 : Int) - 1))) := h4 j _ (by rw [List.getElem?_map, List.getElem?_eq_getElem hjy, HB1'.out]; rfl)
            obtain ⟨hs0, hs1⟩ := HKS.out ys[j] (List.getElem_mem hjy)
            generalize ys[j] = yj at *
            clear h4 h5
            have heb : ((yj + ((n1 : Int) - 1)) != (yj + ((n1 : Int) - 1))) = false := by simp
            have l4 := cell_lt' s4; have l5 := cell_lt' s5
            go_wp2_with fail
            go_quiet (fail)
            go_wp2_with fail
            cases gk with
            | zero => omega
            | succ gk =>
              go_roundg gk
              case measure => omega
              case rel => exact ⟨j + 1, _, by omega, by omega, by simp, rfl⟩
theorem more_any (A B : Option Addr) (c d : Nat) (a b : List UInt8) (w : World) (ha : BytS w A a) (hb : BytS w B b) (he : EnvP w) :
    Calls Tryz.prog 5 #[.slice A a.length c, .slice B b.length d] w fun e w' => e = .returned (.bool true) ∧ Below w.heap.size w w' := by
  by_cases hna : a.length ≤ 700
  · by_cases hnb : b.length ≤ 700
    · cases hx : parseS a with
      | error q => exact pmore_bad A B c d a b w hna hnb ha hb he (Or.inl ⟨q, hx⟩)
      | ok x =>
        cases hy : parseS b with
        | error q => exact pmore_bad A B c d a b w hna hnb ha hb he (Or.inr ⟨q, hy⟩)
        | ok y => exact pmore_good A B c d a b x y w hna hnb ha hb he hx hy
    · exact pmore_big A B _ _ c d w he (Or.inr (by omega))
  · exact pmore_big A B _ _ c d w he (Or.inl (by omega))
end Go.Proofs.YtkkeocnnecegbaaGreatDoor
