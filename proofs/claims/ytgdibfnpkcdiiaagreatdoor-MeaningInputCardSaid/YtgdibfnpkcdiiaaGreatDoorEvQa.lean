/- Functions of the library that the evaluator reckons by itself (definitions). No condition. -/
import Derived.Test.YtgdibfnpkcdiiaaGreatDoorEvQ
namespace Go.Proofs.YtgdibfnpkcdiiaaGreatDoor
namespace Ev

noncomputable def jn (S M a sep : Nat) (n : Nat) : Nat → Option Src := fun k => Nat.rec (some ⟨0, 0⟩) (fun k ih =>
  Option.rec none (fun q => Src.rec (fun l c => fc (gt M (Nat.add a (Nat.sub (Nat.sub n k) 1))) fun w => sel (Nat.beq (Nat.mod w 16) 3)
    (sel (Nat.beq k 0) (some ⟨ln w, chS S (sa w) (ln w)⟩)
      (fc (adS (chS S (sa w) (ln w)) (ln w) (adS (chS S (sa sep) (ln sep)) (ln sep) c)) fun c => some ⟨Nat.add (ln w) (Nat.add (ln sep) l), c⟩)) none) q) ih) k
/-- Are there two arguments? -/
noncomputable def two (st : St) (r : RS) : RS := List.rec .no (fun q _ _ => Prod.rec (fun n _ => sel (Nat.beq n 2) r .no) q) st.D
noncomputable def hJoin (st : St) : RS :=
  two st <| sel (Nat.beq (Nat.mod (gt st.T 1) 16) 3) (sel (Nat.beq (Nat.mod (gt st.T 0) 16) 7) (sel (Nat.beq (se (gt st.T 0)) 1) (sel (Nat.blt st.nS 4294967296)
    (Option.rec .no (fun q => Src.rec (fun l c => sel (Nat.blt l 16777216) (fc (adS st.S st.nS c) fun S => .ok (eStr st.nS l) (setS S (Nat.add st.nS l) st)) .no) q)
      (jn st.S st.M (Nat.add (ps (gt st.T 0)) (so (gt st.T 0))) (gt st.T 1) (sl (gt st.T 0)) (sl (gt st.T 0)))) .no) .no) .no) .no

noncomputable def ixb (S a n b : Nat) : Nat → Nat := fun k => Nat.rec 0 (fun k ih => sel (Nat.beq (byteAt S (Nat.add a (Nat.sub (Nat.sub n k) 1))) b) (Nat.sub n k) ih) k
noncomputable def hIxB (st : St) : RS :=
  two st <| sel (Nat.beq (Nat.mod (gt st.T 0) 16) 3) (sel (Nat.beq (Nat.mod (gt st.T 1) 256) 66) (sel (Nat.blt (ixN (gt st.T 1)) 256)
    (.ok (Nat.sub (Nat.add 2361183241434822606898 (Nat.mul 256 (ixb st.S (sa (gt st.T 0)) (ln (gt st.T 0)) (ixN (gt st.T 1)) (ln (gt st.T 0))))) 256) st) .no) .no) .no
noncomputable def cnb (S a b : Nat) : Nat → Nat := fun k => Nat.rec 0 (fun k ih => sel (Nat.beq (byteAt S (Nat.add a k)) b) (Nat.succ ih) ih) k
noncomputable def hCnt (st : St) : RS :=
  two st <| sel (Nat.beq (Nat.mod (gt st.T 0) 16) 3) (sel (Nat.beq (Nat.mod (gt st.T 1) 256) 66) (sel (Nat.blt (ixN (gt st.T 1)) 256)
    (.ok (Nat.add 2361183241434822606898 (Nat.mul 256 (cnb st.S (sa (gt st.T 0)) (ixN (gt st.T 1)) (ln (gt st.T 0))))) st) .no) .no) .no

end Ev
end Go.Proofs.YtgdibfnpkcdiiaaGreatDoor
