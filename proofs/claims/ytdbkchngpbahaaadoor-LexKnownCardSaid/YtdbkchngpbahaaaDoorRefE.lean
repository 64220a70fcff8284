/- The walk over the reference's Lex. By an AI agent. -/
import Derived.Test.YtdbkchngpbahaaaDoorRefD
import Derived.Test.YtdbkchngpbahaaaDoorMoreWalk
namespace Go.Proofs.YtdbkchngpbahaaaDoor
open Go.RowKit

theorem infoR39 : (Tryd.prog.info? 39).map (fun i => (i.zero, i.size, i.bytes)) = some (some (.agg #[.int .u8 0, .string ⟨#[]⟩, .int .i64 0, .int .i64 0]), 4, 40) := by kernel_rfl
def RLexOut (w w' : World) (l : List UInt8) (e : Ending) : Prop :=
  match lexS l with
  | .ok ts => ∃ v, e = .returned (.tuple #[v, .int .i64 0, .int .i64 0]) ∧ w'.ownsRow w.heap.size 39 4 v ts.length (tokCells ts)
  | .error (p, er) => e = .returned (.tuple #[.slice none 0 0, .int .i64 p, .int .i64 er])
theorem tok_code {c : UInt8} {r : List UInt8} {e : Int} (hb : isBlk c = false) (h : tokAt (c :: r) = .error e) : e = 130 ∨ e = 131 := lx_code (lx_err hb h 0)

set_option maxRecDepth 100000 in
set_option maxHeartbeats 8000000 in
theorem rlex_any (a : Option Addr) (c : Nat) (l : List UInt8) (w : World) (hn : l.length ≤ 65536) (hl : BytS w a l) :
    Calls Tryd.prog 11 #[.slice a l.length c] w fun e w' => RLexOut w w' l e ∧ Below w.heap.size w w' := by
  obtain ⟨i0, hi0, hz0, hz1, hz2⟩ := info_parts infoR39
  have hconv := hl.conv c
  clear hl
  obtain ⟨s, hs⟩ : ∃ s : ByteArray, s = ⟨l.toArray⟩ := ⟨_, rfl⟩
  have HS : Hid (s.data.toList = l) := Lib.hid (by rw [hs])
  have hsz : s.size = l.length := by rw [← HS.out, len_eq]
  rw [← hs] at hconv
  clear hs
  obtain ⟨n, hLN⟩ : ∃ n, l.length = n := ⟨_, rfl⟩
  rw [hLN] at hsz hconv hn ⊢
  have HLN := Lib.hid hLN
  clear hLN
  go_enter Tryd.func11, Tryd.ntmps11
  go_wp2_with fail
  go_loopw [6, 7] (fun v i wr => ∃ (p f : Nat) (acc : List Tok), p ≤ n ∧ i = .int .i64 p ∧ Below w.heap.size w wr ∧ Hid (wr.ownsRow w.heap.size 39 4 v acc.length (tokCells acc)) ∧ Hid (acc.length ≤ p ∧ n - p ≤ f ∧ lexFrom f (l.drop p) p acc = lexS l)) (fun _ i _ => n - (intOf i).toNat)
  case atStart => exact ⟨0, n, [], Nat.zero_le _, rfl, Below.refl _ _, Lib.hid (World.ownsRow_nil _ _ _ _), Lib.hid ⟨Nat.le_refl _, Nat.le_refl _, by unfold lexS; rw [HLN.out]; rfl⟩⟩
  case round =>
    obtain ⟨p, f, acc, hp, rfl, hb, HOWN, HF⟩ := hrel
    have hacc := HF.out.1
    by_cases hlt : p < n
    · have hps : p < s.size := by omega
      have hex : ∃ rest, l.drop p = s[p]'hps :: rest := by
        have hpl : p < l.length := by rw [HLN.out]; exact hlt
        refine ⟨l.drop (p + 1), ?_⟩
        rw [List.drop_eq_getElem_cons hpl, ← byte_at s p hps]
        simp only [HS.out]
      obtain ⟨rest, hd⟩ := hex
      generalize hc : s[p]'hps = ch at hd
      have HD := Lib.hid hd
      clear hd
      cases hbl : isBlk ch
      · have HBL := Lib.hid hbl; clear hbl
        go_wp2_with fail
        refine (rblank_any ch _).mono ?_; rw [HBL.out]; rintro e w1 ⟨rfl, rfl⟩
        go_wp2_with fail
        refine (one_any s p wr hps (by omega)).mono ?_
        rw [HS.out]
        unfold OneOut
        cases htk : tokAt (l.drop p) with
        | error er =>
          have hcode := tok_code (r := rest) HBL.out (by rw [← HD.out]; exact htk)
          have her : ((er : Int) == 0) = false := by rcases hcode with rfl | rfl <;> rfl
          have hern : ¬ (er : Int) = 0 := by rcases hcode with rfl | rfl <;> decide
          have HTK := Lib.hid htk
          clear htk hcode
          rintro e w2 ⟨rfl, hb2⟩
          go_wp2_with fail
          go_ret3
          refine ⟨?_, ?_⟩
          · have hR := lex_err HD.out (by rw [HLN.out]; exact HF.out.2.1) (by rw [HLN.out]; omega) HBL.out (by rw [← HD.out]; exact HTK.out) HF.out.2.2
            unfold RLexOut
            rw [hR]
            exact rfl
          · exact (below_next hb hb2).alloc (below_next hb hb2).size _
        | ok x =>
          obtain ⟨K, N, v⟩ := x
          have hln := tokAt_len htk
          have HTK := Lib.hid htk
          clear htk
          obtain ⟨T, hT⟩ : ∃ T : ByteArray, T = ⟨((l.drop p).take N).toArray⟩ := ⟨_, rfl⟩
          have HT := Lib.hid hT
          have hTs : T.size = N := by rw [← len_eq, hT]; show ((l.drop p).take N).length = N; rw [List.length_take]; omega
          have hNp := hln.1
          have hNn : p + N ≤ n := by have := hln.2; rw [List.length_drop, HLN.out] at this; omega
          simp only
          rw [← hT]
          clear hT hln
          rintro e w2 ⟨rfl, hb2⟩
          go_upto_region 10 with fail
          have HB4 := Lib.hid ((below_next hb hb2).alloc (below_next hb hb2).size (.cells #[.int .u8 K, .string T, .int .i64 v, .int .i64 p] 39))
          have OWN2 := own_below HOWN.out hb2
          have HOB : Hid (∀ k, u6.ownBlock = some k → k < w2.heap.size) := Lib.hid (fun k e => (OWN2.lt k e).2)
          have OWN4 := Lib.hid (OWN2.alloc (.cells #[.int .u8 K, .string T, .int .i64 v, .int .i64 p] 39))
          have TB := Lib.hid (Blk.new w2 39 #[.int .u8 K, .string T, .int .i64 v, .int .i64 p])
          clear OWN2 hb hb2
          generalize (w2.alloc (.cells #[.int .u8 K, .string T, .int .i64 v, .int .i64 p] 39)) = W4 at *
          have t0 : W4.cell? ⟨w2.heap.size, 0, none⟩ = some (.int .u8 K) := TB.out.cell 0
          have t1 : W4.cell? ⟨w2.heap.size, 1, none⟩ = some (.string T) := TB.out.cell 1
          have t2 : W4.cell? ⟨w2.heap.size, 2, none⟩ = some (.int .i64 v) := TB.out.cell 2
          have t3 : W4.cell? ⟨w2.heap.size, 3, none⟩ = some (.int .i64 p) := TB.out.cell 3
          go_wp2_with (at_builtin; refine wpList_append_own _ rfl _ _ 28 rfl w.heap.size 39 i0 (.agg #[.int .u8 0, .string ⟨#[]⟩, .int .i64 0, .int .i64 0]) 4 40 Tryd.underlying28 hi0 hz0 hz1 hz2 rfl (by decide) _ _ _ rfl (OWN4.out.alloc _) ⟨W4.heap.size, 0, none⟩ 1 1 [.int .u8 K, .string T, .int .i64 v, .int .i64 p] rfl rfl (World.news_of_block (cs := #[.int .u8 K, .string T, .int .i64 v, .int .i64 p]) (t := 39) (fr := (0, 0)) (heap_alloc_new W4 _)) (by simp [Value.oneCell']) (by unfold maxLen; omega) (by omega) ?_ ?_)
          · have := HB4.out.size; simp; omega
          intro v' w6 hown6 hgrow _
          have t1' : w6.cell? ⟨w2.heap.size, 1, none⟩ = some (.string T) := by
            have e := hgrow.5 w2.heap.size (by have := TB.out.lt; simp only [World.size_alloc]; omega) (fun e => by have := HOB.out _ e.symm; omega)
            have tb : Blk w6 w2.heap.size 39 _ := e.trans ((TB.out.alloc _))
            exact tb.cell 1
          go_wp2_with fail
          go_roundw
          case rel =>
            obtain ⟨f', hf1, hf2⟩ := lex_tok HD.out (by rw [HLN.out]; exact HF.out.2.1) (by rw [HLN.out]; omega) HBL.out hNp (by rw [← HD.out]; exact HTK.out) HF.out.2.2
            refine ⟨p + N, f', acc ++ [⟨_, (l.drop p).take N, _, p⟩], by omega, by go_num, (HB4.out.alloc HB4.out.size _).grown hgrow (by have := HB4.out.size; simp; omega) (fun q e => (OWN4.out.lt q e).1), Lib.hid ?_, Lib.hid ⟨?_, ?_, hf2⟩⟩
            · rw [tokCells_snoc, List.length_append]; rw [HT.out] at hown6; exact hown6
            · simp; omega
            · rw [HLN.out] at hf1; exact hf1
          case measure => simp [intOf]; omega
      · have HBL := Lib.hid hbl; clear hbl
        go_wp2_with fail
        refine (rblank_any ch _).mono ?_; rw [HBL.out]; rintro e w1 ⟨rfl, rfl⟩
        go_wp2_with fail
        go_roundw
        case rel =>
          obtain ⟨f', hf1, hf2⟩ := lex_blk HD.out (by rw [HLN.out]; exact HF.out.2.1) (by rw [HLN.out]; omega) HBL.out HF.out.2.2
          refine ⟨p + 1, f', acc, by omega, by go_num, hb, HOWN, Lib.hid ⟨by omega, by rw [HLN.out] at hf1; exact hf1, hf2⟩⟩
        case measure => simp [intOf]; omega
    · have hR := Lib.hid (lex_end (by rw [HLN.out]; omega) HF.out.2.2)
      go_wp2_with (at_builtin; refine wpList_append_own _ rfl _ _ 28 rfl w.heap.size 39 i0 (.agg #[.int .u8 0, .string ⟨#[]⟩, .int .i64 0, .int .i64 0]) 4 40 Tryd.underlying28 hi0 hz0 hz1 hz2 rfl (by decide) _ _ _ rfl (HOWN.out.alloc _) ⟨wr.heap.size, 0, none⟩ 1 1 [.int .u8 5, .string ⟨#[]⟩, .int .i64 0, .int .i64 n] rfl rfl (World.news_of_block (cs := #[.int .u8 5, .string ⟨#[]⟩, .int .i64 0, .int .i64 n]) (t := 39) (fr := (0, 0)) (heap_alloc_new wr _)) (by simp [Value.oneCell']) (by unfold maxLen; omega) (by omega) ?_ ?_)
      · have := hb.size; simp; omega
      intro v' w6 hown6 hgrow _
      go_wp2_with fail
      go_ret3
      refine ⟨?_, (hb.alloc hb.size _).grown hgrow (by have := hb.size; simp; omega) (fun q e => (HOWN.out.lt q e).1)⟩
      unfold RLexOut
      rw [hR.out]
      refine ⟨v', rfl, ?_⟩
      rw [tokCells_snoc, List.length_append]
      obtain rfl : p = n := by omega
      exact hown6
end Go.Proofs.YtdbkchngpbahaaaDoor
