/- The iterator of the package trace over a text's parts: its contract, for whatever loop body that says no at the first part that is no event. By an AI agent. -/
import Derived.Test.YtadcegfdojocmaaDoorRangeB
namespace Go.Proofs.YtadcegfdojocmaaDoor
open Go.RowKit
attribute [local go_sem] Oper.semAt_some

/-- What the package-level variables hold that reading a text leans on. -/
structure EnvP (w : World) : Prop where
  env : Env w
  syn : ∃ tp p, w.var? Tryd.prog "strconv.ErrSyntax" = some #[.iface tp p]
  rng : ∃ tp p, w.var? Tryd.prog "strconv.ErrRange" = some #[.iface tp p]
theorem _root_.Go.Proofs.YtadcegfdojocmaaDoor.Env.drew' {w : World} (h : Env w) : Env w.drew := h.below (Below.refl _ _).drew
theorem gSyn : Tryd.prog.globalNamed "strconv.ErrSyntax" = some 3 := by kernel_rfl
theorem gRng : Tryd.prog.globalNamed "strconv.ErrRange" = some 4 := by kernel_rfl
theorem var_below {w w' : World} {name : String} {g : Nat} {v : Array Value} (hg : Tryd.prog.globalNamed name = some g) (hb : Below w.heap.size w w') (h : w.var? Tryd.prog name = some v) : w'.var? Tryd.prog name = some v := by
  unfold World.var? at *
  rw [hg] at *
  simp only [Option.bind_some] at *
  have hlt : g < w.heap.size := by
    rcases Nat.lt_or_ge g w.heap.size with h' | h'
    · exact h'
    · rw [Array.getElem?_eq_none h'] at h; simp at h
  rw [hb.block g hlt]; exact h
theorem EnvP.below {w w' : World} (h : EnvP w) (hb : Below w.heap.size w w') : EnvP w' := by
  obtain ⟨t1, p1, h1⟩ := h.syn
  obtain ⟨t2, p2, h2⟩ := h.rng
  exact ⟨h.env.below hb, ⟨t1, p1, var_below gSyn hb h1⟩, ⟨t2, p2, var_below gRng hb h2⟩⟩

theorem pint_yes (s : ByteArray) (v : Int) (w : World) (hs : s.size ≤ 100000) (h : Lib.parseIntB 64 s.data.toList = .ok v) :
    Calls Tryd.prog 47 #[.string s, .int .i64 10, .int .i64 64] w fun e w' => e = .returned (.tuple #[.int .i64 v, .nilIface]) ∧ Below w.heap.size w w' :=
  (Tryd.strconv_ParseInt_10_at64_ok s (by omega) v h w).mono fun e w' ⟨he, hw⟩ => ⟨he, by
    rcases hw with rfl | ⟨t, rfl⟩
    · exact Below.refl _ _
    · exact Lib.bytesWorld_below _ _ _⟩
/-- A pair of a number and an error that is not nil. -/
def ErrPair (e : Ending) : Prop := ∃ (x : Int) (N : Nat), e = .returned (.tuple #[.int .i64 x, .iface 107 (.pointer (some ⟨N, 0, none⟩))])
theorem pint_no (s : ByteArray) (w : World) (hs : s.size ≤ 100000) (henv : EnvP w) (h : ∀ v, Lib.parseIntB 64 s.data.toList ≠ .ok v) :
    Calls Tryd.prog 47 #[.string s, .int .i64 10, .int .i64 64] w fun e w' => ErrPair e ∧ Below w.heap.size w w' := by
  obtain ⟨t1, p1, h1⟩ := henv.syn
  obtain ⟨t2, p2, h2⟩ := henv.rng
  exact (Tryd.strconv_ParseInt_bad s (by omega) h t1 t2 p1 p2 w h1 h2).mono fun e w' ⟨x, N, he, hb⟩ => ⟨⟨x, N, he⟩, hb⟩

/-- The letters, as texts. -/
def ltrs : List ByteArray := [⟨#[82]⟩, ⟨#[80]⟩, ⟨#[69]⟩, ⟨#[83]⟩]
theorem ltrs_at {w : World} (h : Env w) (j : Nat) (hj : j < 4) : w.cell? ⟨0, 1 + j, none⟩ = some (.string (ltrs.getD j ByteArray.empty)) := by
  have := h.letter (1 + j) (by omega)
  rw [this]
  match j, hj with
  | 0, _ => rfl
  | 1, _ => rfl
  | 2, _ => rfl
  | 3, _ => rfl
theorem lidx_any (x : ByteArray) (w : World) (h : Env w) : Calls Tryd.prog 46 #[.slice (some ⟨0, 1, none⟩) 4 4, .string x] w fun e w' => e = .returned (.int .i64 (Lib.idxOfS ltrs x)) ∧ w' = w := by
  have := Tryd.slices_Index_string 0 1 4 4 ltrs x w (by decide) (by decide) (fun j hj => ltrs_at h j (by simpa [ltrs] using hj))
  simpa [ltrs] using this
theorem lidx_v (x : ByteArray) (w : World) (h : Env w) : Calls Tryd.prog 46 #[.slice (some ⟨0, 1, none⟩) 4 4, .string x] w fun e w' => ∃ v : Int, e = .returned (.int .i64 v) ∧ Hid (v = Lib.idxOfS ltrs x) ∧ w' = w :=
  (lidx_any x w h).mono fun _ _ ⟨he, hw⟩ => ⟨_, he, Lib.hid rfl, hw⟩
theorem fmt_wide (n : Int) (h : i64ok n) (w : World) (henv : Env w) :
    Calls Tryd.prog 34 #[.int .i64 n, .int .i64 10] w fun e w' => e = .returned (.string ⟨(Lib.itoa n).toArray⟩) ∧ Below w.heap.size w w' := fmt_any n h.1 h.2 w henv

/-- The world behind the making of the iterator: three boxes. -/
def boxes3 (W : World) (s : ByteArray) : World := ((W.alloc (.cells #[.string s] 9)).alloc (.cells #[.string ⟨#[32]⟩] 9)).alloc (.cells #[.int .i64 0] 3)
theorem split55 (s : ByteArray) (W : World) : Calls Tryd.prog 55 #[.string s, .string ⟨#[32]⟩, .int .i64 0] W fun e W' =>
    e = .returned (.func (.func 65) #[] #[.pointer (some ⟨W.heap.size + 1, 0, none⟩), .pointer (some ⟨W.heap.size, 0, none⟩), .pointer (some ⟨W.heap.size + 2, 0, none⟩)]) ∧ W' = boxes3 W s := by
  go_enter Tryd.func55, Tryd.ntmps55
  go_wp2
  go_ret
  exact ⟨by simp, rfl⟩
theorem split45 (s : ByteArray) (W : World) : Calls Tryd.prog 45 #[.string s, .string ⟨#[32]⟩] W fun e W' =>
    e = .returned (.func (.func 65) #[] #[.pointer (some ⟨W.heap.size + 1, 0, none⟩), .pointer (some ⟨W.heap.size, 0, none⟩), .pointer (some ⟨W.heap.size + 2, 0, none⟩)]) ∧ W' = boxes3 W s := by
  go_enter Tryd.func45, Tryd.ntmps45
  go_wp2_with (go_at_call 55; refine (split55 s _).mono ?_; rintro e w' ⟨rfl, rfl⟩)
  go_ret
  exact ⟨rfl, rfl⟩
end Go.Proofs.YtadcegfdojocmaaDoor
