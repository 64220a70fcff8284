/- Blocks and statements, walked. By an AI agent. -/
import Derived.Test.YtkkeocnnecegbaaGreatDoorPwO
namespace Go.Proofs.YtkkeocnnecegbaaGreatDoor
open Go.RowKit

theorem enter180 (args : Array Value) (W : World) : (callFunc 180 args).run Tryz.prog W = .ok (.enter 180 args) W := by kernel_rfl
theorem enter181 (args : Array Value) (W : World) : (callFunc 181 args).run Tryz.prog W = .ok (.enter 181 args) W := by kernel_rfl
theorem enter182 (args : Array Value) (W : World) : (callFunc 182 args).run Tryz.prog W = .ok (.enter 182 args) W := by kernel_rfl
theorem enter183 (args : Array Value) (W : World) : (callFunc 183 args).run Tryz.prog W = .ok (.enter 183 args) W := by kernel_rfl
theorem enter184 (args : Array Value) (W : World) : (callFunc 184 args).run Tryz.prog W = .ok (.enter 184 args) W := by kernel_rfl
theorem enter185 (args : Array Value) (W : World) : (callFunc 185 args).run Tryz.prog W = .ok (.enter 185 args) W := by kernel_rfl
theorem stmtS_unfold (f d : Nat) (ts : List Tok) : stmtS (f + 1) d ts = if wordKind ts = 0 then assignS f d ts
    else if wordKind ts = 6 then declareS f d (nowAt ts) ts.tail
    else if wordKind ts = 9 then chooseS f d (nowAt ts) ts.tail
    else if wordKind ts = 10 then forS f d (nowAt ts) ts.tail
    else if wordKind ts = 14 then readS (nowAt ts) ts.tail
    else if wordKind ts = 15 then callS f d (nowAt ts) ts.tail
    else mapR (fun x => .mk (wordKind ts) [] 0 (nowAt ts) [x]) (endsS f d ts.tail) := by
  conv => lhs; unfold stmtS
  split
  · rfl
  split
  · rfl
  split
  · rfl
  split
  · rfl
  split
  · rfl
  split
  · rfl
  cases endsS f d ts.tail <;> rfl

theorem stmt_all : ∀ (N R T : Nat), T ≤ 90000 →
    (∀ f, f ≤ N → ∀ d ts w, RD w R ts d → d ≤ 64 → ts.length ≤ T → blockS f d ts ≠ .error outE → Calls Tryz.prog 95 #[.pointer (some ⟨R, 0, none⟩)] w (XOut w R d (blockS f d ts))) ∧
    (∀ f, f ≤ N → ∀ d ts w, RD w R ts d → d ≤ 64 → ts.length ≤ T → stmtS f d ts ≠ .error outE → Calls Tryz.prog 146 #[.pointer (some ⟨R, 0, none⟩)] w (XOut w R d (stmtS f d ts)))
  | 0, R, T, _ => by
    refine ⟨fun f hf d ts w _ _ _ hne => ?_, fun f hf d ts w _ _ _ hne => ?_⟩
    · obtain rfl : f = 0 := by omega
      exact absurd (by unfold blockS; rfl) hne
    · obtain rfl : f = 0 := by omega
      exact absurd (by unfold stmtS; rfl) hne
  | N + 1, R, T, hT => by
    obtain ⟨hb, hs⟩ := stmt_all N R T hT
    refine ⟨fun f hf d ts w hr hd hl hne => ?_, fun f hf d ts w hr hd hl hne => ?_⟩
    · cases f with
      | zero => exact absurd (by unfold blockS; rfl) hne
      | succ f => exact block_step f R d T ts w hr hd hl (by omega) (fun g hg W ts' hW hd' hl' hn => hs g (by omega) (d + 1) ts' W hW hd' hl' hn) hne
    · cases f with
      | zero => exact absurd (by unfold stmtS; rfl) hne
      | succ f =>
        obtain ⟨t, r, rfl⟩ := hr.fin.cons
        have asg : wordKind (t :: r) = 0 → ∀ W X, RD W R (t :: r) d → R < X → Blk W X 160 #[.int .u8 (7 : Nat), .string ⟨([] : List UInt8).toArray⟩, .int .i64 0, .int .i64 t.at', .slice none 0 0, .slice none 0 0] → Calls Tryz.prog 186 #[.pointer (some ⟨R, 0, none⟩), .pointer (some ⟨X, 0, none⟩)] W (OutB X W R d (stmtS (f + 1) d (t :: r)) (SPost X)) := by
          intro h0 W X hW hX hx
          have e : stmtS (f + 1) d (t :: r) = assignS f d (t :: r) := by rw [stmtS_unfold, if_pos h0]
          rw [e] at hne ⊢
          by_cases hk : t.kind = 1
          · exact assign_name f R d X t r W hW hx hX hk hd hne
          · exact assign_noname f R d X t.at' (t :: r) W hW hx hX hk
        rcases word_cases t.text with ⟨h1, h2⟩ | ⟨kd, fn, h1, h2, h3⟩
        · exact stmt_none R d t r _ w hr h1 (asg (by unfold wordKind; split <;> simp [nowText, h2]))
        · by_cases hk : t.kind = 2
          · have hwk : wordKind (t :: r) = kd := by unfold wordKind; rw [if_pos (show nowKind (t :: r) = 2 from hk)]; simp [nowText, h2]
            have hrl : r.length ≤ T := by simp only [List.length_cons] at hl; omega
            have hu := stmtS_unfold f d (t :: r)
            rw [hwk] at hu
            simp only [List.mem_cons, Prod.mk.injEq, List.not_mem_nil, or_false] at h3
            rcases h3 with ⟨rfl, rfl⟩ | ⟨rfl, rfl⟩ | ⟨rfl, rfl⟩ | ⟨rfl, rfl⟩ | ⟨rfl, rfl⟩ | ⟨rfl, rfl⟩ | ⟨rfl, rfl⟩ | ⟨rfl, rfl⟩
            · have e : stmtS (f + 1) d (t :: r) = declareS f d t.at' r := by rw [hu]; rfl
              rw [e] at hne ⊢
              exact stmt_word R d 6 180 t r _ w hr hk h1 enter180 (fun W X hW hX hx => (declare_any f R d X _ _ t.at' r W hW (OpenI.fresh hx) hX hd hne).mono (fun _ _ h => h.imp (fun _ _ h => h.toS)))
            · have e : stmtS (f + 1) d (t :: r) = chooseS f d t.at' r := by rw [hu]; rfl
              rw [e] at hne ⊢
              cases f with
              | zero => exact absurd (by unfold chooseS; rfl) hne
              | succ f => exact stmt_word R d 9 181 t r _ w hr hk h1 enter181 (fun W X hW hX hx => (choose_any f R d X _ _ t.at' T r W hW (OpenI.fresh hx) hX hd hrl (fun W' ts' hW' hl' hn => hb f (by omega) d ts' W' hW' hd hl' hn) hne).mono (fun _ _ h => h.imp (fun _ _ h => h.toS)))
            · have e : stmtS (f + 1) d (t :: r) = forS f d t.at' r := by rw [hu]; rfl
              rw [e] at hne ⊢
              cases f with
              | zero => exact absurd (by unfold forS; rfl) hne
              | succ f => exact stmt_word R d 10 182 t r _ w hr hk h1 enter182 (fun W X hW hX hx => (loop_any f R d X _ _ t.at' T r W hW (OpenI.fresh hx) hX hd hrl (fun W' ts' hW' hl' hn => hb f (by omega) d ts' W' hW' hd hl' hn) hne).mono (fun _ _ h => h.imp (fun _ _ h => h.toS)))
            · have e : stmtS (f + 1) d (t :: r) = mapR (fun x => .mk 11 [] 0 t.at' [x]) (endsS f d r) := by rw [hu]; rfl
              rw [e] at hne ⊢
              exact stmt_word R d 11 183 t r _ w hr hk h1 enter183 (fun W X hW hX hx => (ends_any f R d X _ _ 11 t.at' [] 0 [] r W hW (OpenI.fresh hx) hX hd (by simp) (fun hc => hne (by rw [hc]; rfl))).mono (fun _ _ h => h.imp (fun _ _ h => h.toS)))
            · have e : stmtS (f + 1) d (t :: r) = mapR (fun x => .mk 12 [] 0 t.at' [x]) (endsS f d r) := by rw [hu]; rfl
              rw [e] at hne ⊢
              exact stmt_word R d 12 183 t r _ w hr hk h1 enter183 (fun W X hW hX hx => (ends_any f R d X _ _ 12 t.at' [] 0 [] r W hW (OpenI.fresh hx) hX hd (by simp) (fun hc => hne (by rw [hc]; rfl))).mono (fun _ _ h => h.imp (fun _ _ h => h.toS)))
            · have e : stmtS (f + 1) d (t :: r) = mapR (fun x => .mk 13 [] 0 t.at' [x]) (endsS f d r) := by rw [hu]; rfl
              rw [e] at hne ⊢
              exact stmt_word R d 13 183 t r _ w hr hk h1 enter183 (fun W X hW hX hx => (ends_any f R d X _ _ 13 t.at' [] 0 [] r W hW (OpenI.fresh hx) hX hd (by simp) (fun hc => hne (by rw [hc]; rfl))).mono (fun _ _ h => h.imp (fun _ _ h => h.toS)))
            · have e : stmtS (f + 1) d (t :: r) = readS t.at' r := by rw [hu]; rfl
              rw [e]
              exact stmt_word R d 14 184 t r _ w hr hk h1 enter184 (fun W X hW hX hx => (reads_any R d X _ _ t.at' r W hW (OpenI.fresh hx) hX).mono (fun _ _ h => h.imp (fun _ _ h => h.toS)))
            · have e : stmtS (f + 1) d (t :: r) = callS f d t.at' r := by rw [hu]; rfl
              rw [e] at hne ⊢
              refine stmt_word R d 15 185 t r _ w hr hk h1 enter185 (fun W X hW hX hx => ?_)
              obtain ⟨t', r', rfl⟩ := hW.fin.cons
              by_cases hk' : t'.kind = 1
              · exact call_name f R d X t.at' T t' r' W hW hx hX hk' hd hrl hT hne
              · exact call_noname f R d X t.at' (t' :: r') W hW hx hX hk'
          · exact stmt_kind R d kd fn t r _ w hr hk h1 (asg (by unfold wordKind; rw [if_neg (show ¬ nowKind (t :: r) = 2 from hk)]))
end Go.Proofs.YtkkeocnnecegbaaGreatDoor
