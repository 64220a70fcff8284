/- Plans of regions that draw their order, and that they are right. No condition. -/
import Derived.Test.YtgdibfnpkcdiiaaGreatDoorEwP
namespace Go.Proofs.YtgdibfnpkcdiiaaGreatDoor
namespace Ev
noncomputable def okF (X : Nat → Nat → Option Plan) (f : Nat) : Bool := match Tryz.prog.funcs[f]? with
  | some fn => match fn.body with
    | some c => okX Tryz.prog K0 (X f) fn.ntmps c
    | none => true
  | none => true
theorem okX_none (P : Program) (K : Kon) (n : Nat) : ∀ c : Code, okX P K (fun _ => none) n c = true := fun c => by
  induction c with
  | region id ops d => cases d <;> rfl
  | seq a b ha hb => show (okX P K _ n a && okX P K _ n b) = true; rw [ha, hb]; rfl
  | cond _ a b ha hb => show (okX P K _ n a && okX P K _ n b) = true; rw [ha, hb]; rfl
  | block _ b hb => exact hb
  | loop b hb => exact hb
  | _ => rfl
noncomputable def x24 (i : Nat) : Option Plan := sel (Nat.beq i 7) (some ⟨none,[0,1,2,3,4,5],[0,1,2,3,4,5],[⟨6,[],[4,3,2,1,0],[5]⟩,⟨7,[],[4,3,2,1,0],[6,5]⟩,⟨8,[9,10],[10,9,0],[7,6,5,4,3,2,1]⟩,⟨11,[],[],[10,9,8,7,6,5,4,3,2,1,0]⟩]⟩) (none)
noncomputable def x29 (i : Nat) : Option Plan := sel (Nat.beq i 6) (some ⟨none,[0,1,2,3,4,5,6,7,8],[0,1,2,3,4,5,6,7,8],[]⟩) (none)
noncomputable def x33 (i : Nat) : Option Plan := sel (Nat.beq i 8) (some ⟨none,[0,1,2,3,4,5,6,7,8,9,10],[0,1,2,3,4,5,6,7,8,9,10],[⟨11,[],[10,9,8,7,6,5,4,3,2,1,0],[]⟩,⟨12,[],[],[11,10,9,8,7,6,5,4,3,2,1,0]⟩]⟩) (sel (Nat.beq i 10) (some ⟨none,[0,1,2,3,4,5,6,7,8,9],[0,1,2,3,4,5,6,7,8,9],[⟨10,[],[],[9,8,7,6,5,4,3,2,1,0]⟩]⟩) (none))
noncomputable def x61 (i : Nat) : Option Plan := sel (Nat.beq i 6) (some ⟨none,[0,1,2,3,4,5,6,7,8],[0,1,2,3,4,5,6,7,8],[]⟩) (none)
noncomputable def x67 (i : Nat) : Option Plan := sel (Nat.beq i 1) (some ⟨none,[0,1,3,4],[0,1,3,4],[⟨2,[6],[6,4,3],[1,0]⟩,⟨5,[],[6],[4,3,2,1,0]⟩,⟨7,[8],[8],[6,5,4,3,2,1,0]⟩,⟨9,[],[],[8,7,6,5,4,3,2,1,0]⟩]⟩) (none)
noncomputable def x69 (i : Nat) : Option Plan := sel (Nat.beq i 3) (some ⟨none,[0,1,2,3,4,5,6,7],[0,1,2,3,4,5,6,7],[⟨8,[],[],[7,6,5,4,3,2,1,0]⟩]⟩) (none)
noncomputable def x71 (i : Nat) : Option Plan := sel (Nat.beq i 1) (some ⟨none,[0,1,2,3,4,5,6,7,8],[0,1,2,3,4,5,6,7,8],[⟨9,[],[],[8,7,6,5,4,3,2,1,0]⟩]⟩) (none)
noncomputable def x73 (i : Nat) : Option Plan := sel (Nat.beq i 1) (some ⟨none,[0,1,2,3,4,5,6,7,8],[0,1,2,3,4,5,6,7,8],[⟨9,[],[],[8,7,6,5,4,3,2,1,0]⟩]⟩) (none)
noncomputable def x74 (i : Nat) : Option Plan := sel (Nat.beq i 1) (some ⟨none,[0,1,2,3,4,5,6,7,8,9,10,11,12,13,14],[0,1,2,3,4,5,6,7,8,9,10,11,12,13,14],[⟨15,[16],[16,2,1,0],[14,13,12,11,10,9,8,7,6,5,4,3]⟩,⟨17,[],[],[16,15,14,13,12,11,10,9,8,7,6,5,4,3,2,1,0]⟩]⟩) (none)
noncomputable def x77 (i : Nat) : Option Plan := sel (Nat.beq i 1) (some ⟨none,[0,1,2,3,4,5,6,7],[0,1,2,3,4,5,6,7],[⟨8,[],[],[7,6,5,4,3,2,1,0]⟩]⟩) (none)
noncomputable def x83 (i : Nat) : Option Plan := sel (Nat.beq i 4) (some ⟨none,[0,1,2,7,8,9,10,11,12],[0,1,2,7,8,9,10,11,12],[⟨3,[4,5,6,13],[13,6,5,4,12,11,10,9,8,7],[2,1,0]⟩,⟨14,[],[],[13,12,11,10,9,8,7,6,5,4,3,2,1,0]⟩]⟩) (none)
noncomputable def x84 (i : Nat) : Option Plan := sel (Nat.beq i 1) (some ⟨none,[0,1,2,4,5],[0,1,2,4,5],[⟨3,[6,7],[7,6,5,4],[2,1,0]⟩,⟨8,[],[],[7,6,5,4,3,2,1,0]⟩]⟩) (none)
noncomputable def x106 (i : Nat) : Option Plan := sel (Nat.beq i 15) (some ⟨none,[0,1,2,3,4,5,6,7,8,9,10,11,12,13,14,15],[0,1,2,3,4,5,6,7,8,9,10,11,12,13,14,15],[]⟩) (sel (Nat.beq i 17) (some ⟨none,[0,1,2,3,4,5,6,7,8,9,10,11,12,13,14,15,16,17],[0,1,2,3,4,5,6,7,8,9,10,11,12,13,14,15,16,17],[⟨18,[],[1,0],[17,16,15,14,13,12,11,10,9,8,7,6,5,4,3,2]⟩,⟨19,[20],[20],[18,17,16,15,14,13,12,11,10,9,8,7,6,5,4,3,2,1,0]⟩,⟨21,[],[],[20,19,18,17,16,15,14,13,12,11,10,9,8,7,6,5,4,3,2,1,0]⟩]⟩) (none))
noncomputable def x122 (i : Nat) : Option Plan := sel (Nat.beq i 1) (some ⟨none,[0,1,2,3,4],[0,1,2,3,4],[⟨5,[],[3,2,1,0],[4]⟩,⟨6,[7],[7,0],[5,4,3,2,1]⟩,⟨8,[],[],[7,6,5,4,3,2,1,0]⟩]⟩) (none)
noncomputable def x144 (i : Nat) : Option Plan := sel (Nat.beq i 3) (some ⟨(some 2),[0,3,4,5],[0,3,4,5],[⟨1,[],[5,4,3],[0]⟩,⟨2,[],[5,4,3],[]⟩,⟨6,[7,8],[8,7],[5,4,3,2,1,0]⟩,⟨9,[],[],[8,7,6,5,4,3,2,1,0]⟩,⟨10,[],[],[9,8,7,6,5,4,3,2,1,0]⟩]⟩) (sel (Nat.beq i 8) (some ⟨none,[0,1,2,3,4,5],[0,1,2,3,4,5],[⟨6,[],[5,4,3,2,1],[0]⟩,⟨7,[],[5],[6,4,3,2,1,0]⟩,⟨8,[],[],[7,6,5,4,3,2,1,0]⟩]⟩) (none))
noncomputable def x170 (i : Nat) : Option Plan := sel (Nat.beq i 2) (some ⟨none,[0,1,2,3,4,5,6,7,8],[0,1,2,3,4,5,6,7,8],[⟨9,[],[4,3,2,1,0],[8,7,6,5]⟩,⟨10,[11,12],[12,11,0],[9,8,7,6,5,4,3,2,1]⟩,⟨13,[],[],[12,11,10,9,8,7,6,5,4,3,2,1,0]⟩]⟩) (none)
noncomputable def x172 (i : Nat) : Option Plan := sel (Nat.beq i 5) (some ⟨none,[0,1,2,3,4,5,6,7,8],[0,1,2,3,4,5,6,7,8],[⟨9,[10,11],[11,10,2,1,0],[8,7,6,5,4,3]⟩,⟨12,[],[],[11,10,9,8,7,6,5,4,3,2,1,0]⟩]⟩) (none)
noncomputable def x173 (i : Nat) : Option Plan := sel (Nat.beq i 9) (some ⟨none,[0,1,2,3,4,5,6],[0,1,2,3,4,5,6],[⟨7,[8],[8,0],[6,5,4,3,2,1]⟩,⟨9,[],[],[8,7,6,5,4,3,2,1,0]⟩]⟩) (none)
noncomputable def x174 (i : Nat) : Option Plan := sel (Nat.beq i 9) (some ⟨none,[0,1,2,3,4,5,6,7,8,9,10,11,12,13,14,15,16,17,18,19,20,21],[0,1,2,3,4,5,6,7,8,9,10,11,12,13,14,15,16,17,18,19,20,21],[]⟩) (sel (Nat.beq i 15) (some ⟨none,[0,1,2,3,4,5,6,7,8,9,10,11],[0,1,2,3,4,5,6,7,8,9,10,11],[⟨12,[],[],[11,10,9,8,7,6,5,4,3,2,1,0]⟩,⟨13,[],[],[12,11,10,9,8,7,6,5,4,3,2,1,0]⟩]⟩) (sel (Nat.beq i 18) (some ⟨none,[0,1,2,3,4,5,6,7,8,9,10,11],[0,1,2,3,4,5,6,7,8,9,10,11],[⟨12,[],[],[11,10,9,8,7,6,5,4,3,2,1,0]⟩]⟩) (none)))
noncomputable def x176 (i : Nat) : Option Plan := sel (Nat.beq i 17) (some ⟨none,[0,1,2,3,4,5,6,7,8,9,10,11,12,13,14,15,16,17,18,19,20,21],[0,1,2,3,4,5,6,7,8,9,10,11,12,13,14,15,16,17,18,19,20,21],[⟨22,[],[0],[21,20,19,18,17,16,15,14,13,12,11,10,9,8,7,6,5,4,3,2,1]⟩,⟨23,[],[],[22,21,20,19,18,17,16,15,14,13,12,11,10,9,8,7,6,5,4,3,2,1,0]⟩]⟩) (sel (Nat.beq i 30) (some ⟨none,[0,1,2,3,4,5,6,7,8,9,10,11,12,13,14,15,16,17,18,19],[0,1,2,3,4,5,6,7,8,9,10,11,12,13,14,15,16,17,18,19],[⟨20,[],[19,18,17,16,15,14,13,12,11,10,9,8,7,6,5,4,3,2,1,0],[]⟩,⟨21,[],[],[20,19,18,17,16,15,14,13,12,11,10,9,8,7,6,5,4,3,2,1,0]⟩]⟩) (sel (Nat.beq i 34) (some ⟨none,[0,1,2,3],[0,1,2,3],[⟨4,[],[1,0],[3,2]⟩,⟨5,[],[1,0],[4,3,2]⟩,⟨6,[7],[7],[5,4,3,2,1,0]⟩,⟨8,[],[],[7,6,5,4,3,2,1,0]⟩]⟩) (none)))
noncomputable def x177 (i : Nat) : Option Plan := sel (Nat.beq i 2) (some ⟨none,[0,1,2,3,4,5,6,7,8,9,10,11],[0,1,2,3,4,5,6,7,8,9,10,11],[⟨12,[],[],[11,10,9,8,7,6,5,4,3,2,1,0]⟩]⟩) (sel (Nat.beq i 3) (some ⟨none,[0,1,2,3,4,5,6,7,8,9],[0,1,2,3,4,5,6,7,8,9],[⟨10,[],[],[9,8,7,6,5,4,3,2,1,0]⟩]⟩) (none))
noncomputable def x205 (i : Nat) : Option Plan := sel (Nat.beq i 3) (some ⟨none,[0,1,2,3,4,5,6,7,8,9,10,11,12],[0,1,2,3,4,5,6,7,8,9,10,11,12],[⟨13,[],[],[12,11,10,9,8,7,6,5,4,3,2,1,0]⟩]⟩) (sel (Nat.beq i 5) (some ⟨none,[0,1,2,3,4,5,6,7,8,9,10],[0,1,2,3,4,5,6,7,8,9,10],[⟨11,[],[5,4,3,2,1,0],[10,9,8,7,6]⟩,⟨12,[13,14,15],[15,14,13,0],[11,10,9,8,7,6,5,4,3,2,1]⟩,⟨16,[],[],[15,14,13,12,11,10,9,8,7,6,5,4,3,2,1,0]⟩]⟩) (sel (Nat.beq i 6) (some ⟨none,[0,1,2,4,5,6,7,8,9,10,11,12],[0,1,2,4,5,6,7,8,9,10,11,12],[⟨3,[13,14,15,16,17,18,19,20,21,22],[22,21,20,19,18,17,16,15,14,13,12,11,10,9,8,7,6,5,4],[2,1,0]⟩,⟨23,[],[],[22,21,20,19,18,17,16,15,14,13,12,11,10,9,8,7,6,5,4,3,2,1,0]⟩,⟨24,[],[],[23,22,21,20,19,18,17,16,15,14,13,12,11,10,9,8,7,6,5,4,3,2,1,0]⟩,⟨25,[],[],[24,23,22,21,20,19,18,17,16,15,14,13,12,11,10,9,8,7,6,5,4,3,2,1,0]⟩,⟨26,[],[],[25,24,23,22,21,20,19,18,17,16,15,14,13,12,11,10,9,8,7,6,5,4,3,2,1,0]⟩]⟩) (sel (Nat.beq i 7) (some ⟨none,[0,1,2,3,4,5,6,7,8,9,10,11,12],[0,1,2,3,4,5,6,7,8,9,10,11,12],[⟨13,[],[],[12,11,10,9,8,7,6,5,4,3,2,1,0]⟩]⟩) (sel (Nat.beq i 10) (some ⟨none,[0,1,2,3,4,5,6,7,8,9,10],[0,1,2,3,4,5,6,7,8,9,10],[⟨11,[],[5,4,3,2,1,0],[10,9,8,7,6]⟩,⟨12,[13,14,15],[15,14,13,0],[11,10,9,8,7,6,5,4,3,2,1]⟩,⟨16,[],[],[15,14,13,12,11,10,9,8,7,6,5,4,3,2,1,0]⟩]⟩) (sel (Nat.beq i 11) (some ⟨none,[0,1,2,4,5,6,7,8,9,10,11,12],[0,1,2,4,5,6,7,8,9,10,11,12],[⟨3,[13,14,15,16,17,18,19,20,21,22],[22,21,20,19,18,17,16,15,14,13,12,11,10,9,8,7,6,5,4],[2,1,0]⟩,⟨23,[],[],[22,21,20,19,18,17,16,15,14,13,12,11,10,9,8,7,6,5,4,3,2,1,0]⟩,⟨24,[],[],[23,22,21,20,19,18,17,16,15,14,13,12,11,10,9,8,7,6,5,4,3,2,1,0]⟩,⟨25,[],[],[24,23,22,21,20,19,18,17,16,15,14,13,12,11,10,9,8,7,6,5,4,3,2,1,0]⟩,⟨26,[],[],[25,24,23,22,21,20,19,18,17,16,15,14,13,12,11,10,9,8,7,6,5,4,3,2,1,0]⟩]⟩) (none))))))
noncomputable def x212 (i : Nat) : Option Plan := sel (Nat.beq i 19) (some ⟨none,[0,1,2,3,4,5,6,7,8],[0,1,2,3,4,5,6,7,8],[⟨9,[],[3,2,1,0],[8,7,6,5,4]⟩,⟨10,[],[],[9,8,7,6,5,4,3,2,1,0]⟩,⟨11,[],[],[10,9,8,7,6,5,4,3,2,1,0]⟩]⟩) (none)
noncomputable def x237 (i : Nat) : Option Plan := sel (Nat.beq i 6) (some ⟨none,[0,1,2,3,4,5,6,7,8,9,10],[0,1,2,3,4,5,6,7,8,9,10],[]⟩) (sel (Nat.beq i 9) (some ⟨none,[0,1,2,3,4,5,6,7,8,9,10],[0,1,2,3,4,5,6,7,8,9,10],[]⟩) (none))
noncomputable def x238 (i : Nat) : Option Plan := sel (Nat.beq i 52) (some ⟨none,[0,1,2,3,4,5,6,7,8,9,10,11,12,13,14],[0,1,2,3,4,5,6,7,8,9,10,11,12,13,14],[⟨15,[],[0],[14,13,12,11,10,9,8,7,6,5,4,3,2,1]⟩,⟨16,[],[],[15,14,13,12,11,10,9,8,7,6,5,4,3,2,1,0]⟩]⟩) (none)
noncomputable def x256 (i : Nat) : Option Plan := sel (Nat.beq i 0) (some ⟨none,[0,1,2,3,4,5,6,7,8,9,10,11],[0,1,2,3,4,5,6,7,8,9,10,11],[⟨12,[],[],[11,10,9,8,7,6,5,4,3,2,1,0]⟩]⟩) (none)
noncomputable def x282 (i : Nat) : Option Plan := sel (Nat.beq i 3) (some ⟨none,[0,1,2,3,4,5,6,7,8,9,10],[0,1,2,3,4,5,6,7,8,9,10],[⟨11,[],[],[10,9,8,7,6,5,4,3,2,1,0]⟩]⟩) (sel (Nat.beq i 4) (some ⟨none,[0,1,2,3,4,5,6,7,8,9,10],[0,1,2,3,4,5,6,7,8,9,10],[⟨11,[],[4,3,2,1,0],[10,9,8,7,6,5]⟩,⟨12,[13,14],[14,13,0],[11,10,9,8,7,6,5,4,3,2,1]⟩,⟨15,[],[],[14,13,12,11,10,9,8,7,6,5,4,3,2,1,0]⟩]⟩) (none))
noncomputable def x316 (i : Nat) : Option Plan := sel (Nat.beq i 7) (some ⟨none,[0,1,2],[0,1,2],[⟨3,[4,5,6],[6,5,4,1,0],[2]⟩,⟨7,[8,9,10],[10,9,8,1],[6,5,4,3,2,0]⟩,⟨11,[],[],[10,9,8,7,6,5,4,3,2,1,0]⟩]⟩) (none)
noncomputable def X0 (f i : Nat) : Option Plan := sel (Nat.beq f 24) (x24 i) (sel (Nat.beq f 29) (x29 i) (sel (Nat.beq f 33) (x33 i) (sel (Nat.beq f 61) (x61 i) (sel (Nat.beq f 67) (x67 i) (sel (Nat.beq f 69) (x69 i) (sel (Nat.beq f 71) (x71 i) (sel (Nat.beq f 73) (x73 i) (sel (Nat.beq f 74) (x74 i) (sel (Nat.beq f 77) (x77 i) (sel (Nat.beq f 83) (x83 i) (sel (Nat.beq f 84) (x84 i) (sel (Nat.beq f 106) (x106 i) (sel (Nat.beq f 122) (x122 i) (sel (Nat.beq f 144) (x144 i) (sel (Nat.beq f 170) (x170 i) (sel (Nat.beq f 172) (x172 i) (sel (Nat.beq f 173) (x173 i) (sel (Nat.beq f 174) (x174 i) (sel (Nat.beq f 176) (x176 i) (sel (Nat.beq f 177) (x177 i) (sel (Nat.beq f 205) (x205 i) (sel (Nat.beq f 212) (x212 i) (sel (Nat.beq f 237) (x237 i) (sel (Nat.beq f 238) (x238 i) (sel (Nat.beq f 256) (x256 i) (sel (Nat.beq f 282) (x282 i) (sel (Nat.beq f 316) (x316 i) (none))))))))))))))))))))))))))))
theorem ok24 : okF X0 24 = true := by kernel_rfl
theorem ok29 : okF X0 29 = true := by kernel_rfl
theorem ok33 : okF X0 33 = true := by kernel_rfl
theorem ok61 : okF X0 61 = true := by kernel_rfl
theorem ok67 : okF X0 67 = true := by kernel_rfl
theorem ok69 : okF X0 69 = true := by kernel_rfl
theorem ok71 : okF X0 71 = true := by kernel_rfl
theorem ok73 : okF X0 73 = true := by kernel_rfl
theorem ok74 : okF X0 74 = true := by kernel_rfl
theorem ok77 : okF X0 77 = true := by kernel_rfl
theorem ok83 : okF X0 83 = true := by kernel_rfl
theorem ok84 : okF X0 84 = true := by kernel_rfl
theorem ok106 : okF X0 106 = true := by kernel_rfl
theorem ok122 : okF X0 122 = true := by kernel_rfl
theorem ok144 : okF X0 144 = true := by kernel_rfl
theorem ok170 : okF X0 170 = true := by kernel_rfl
theorem ok172 : okF X0 172 = true := by kernel_rfl
theorem ok173 : okF X0 173 = true := by kernel_rfl
theorem ok174 : okF X0 174 = true := by kernel_rfl
theorem ok176 : okF X0 176 = true := by kernel_rfl
theorem ok177 : okF X0 177 = true := by kernel_rfl
theorem ok205 : okF X0 205 = true := by kernel_rfl
theorem ok212 : okF X0 212 = true := by kernel_rfl
theorem ok237 : okF X0 237 = true := by kernel_rfl
theorem ok238 : okF X0 238 = true := by kernel_rfl
theorem ok256 : okF X0 256 = true := by kernel_rfl
theorem ok282 : okF X0 282 = true := by kernel_rfl
theorem ok316 : okF X0 316 = true := by kernel_rfl
theorem X0_ok : ∀ f fn c, Tryz.prog.funcs[f]? = some fn → fn.body = some c → okX Tryz.prog K0 (X0 f) fn.ntmps c = true := fun f fn c hf hb => by
  have use : okF X0 f = true → okX Tryz.prog K0 (X0 f) fn.ntmps c = true := fun h => by unfold okF at h; rw [hf] at h; dsimp only at h; rw [hb] at h; exact h
  by_cases h24 : f = 24
  · subst h24; exact use ok24
  by_cases h29 : f = 29
  · subst h29; exact use ok29
  by_cases h33 : f = 33
  · subst h33; exact use ok33
  by_cases h61 : f = 61
  · subst h61; exact use ok61
  by_cases h67 : f = 67
  · subst h67; exact use ok67
  by_cases h69 : f = 69
  · subst h69; exact use ok69
  by_cases h71 : f = 71
  · subst h71; exact use ok71
  by_cases h73 : f = 73
  · subst h73; exact use ok73
  by_cases h74 : f = 74
  · subst h74; exact use ok74
  by_cases h77 : f = 77
  · subst h77; exact use ok77
  by_cases h83 : f = 83
  · subst h83; exact use ok83
  by_cases h84 : f = 84
  · subst h84; exact use ok84
  by_cases h106 : f = 106
  · subst h106; exact use ok106
  by_cases h122 : f = 122
  · subst h122; exact use ok122
  by_cases h144 : f = 144
  · subst h144; exact use ok144
  by_cases h170 : f = 170
  · subst h170; exact use ok170
  by_cases h172 : f = 172
  · subst h172; exact use ok172
  by_cases h173 : f = 173
  · subst h173; exact use ok173
  by_cases h174 : f = 174
  · subst h174; exact use ok174
  by_cases h176 : f = 176
  · subst h176; exact use ok176
  by_cases h177 : f = 177
  · subst h177; exact use ok177
  by_cases h205 : f = 205
  · subst h205; exact use ok205
  by_cases h212 : f = 212
  · subst h212; exact use ok212
  by_cases h237 : f = 237
  · subst h237; exact use ok237
  by_cases h238 : f = 238
  · subst h238; exact use ok238
  by_cases h256 : f = 256
  · subst h256; exact use ok256
  by_cases h282 : f = 282
  · subst h282; exact use ok282
  by_cases h316 : f = 316
  · subst h316; exact use ok316
  have h : X0 f = fun _ => none := by
    funext i
    unfold X0
    have nb : ∀ k, f ≠ k → Nat.beq f k = false := fun k hk => by cases h : Nat.beq f k with | true => exact absurd (beq_t h) hk | false => rfl
    rw [nb 24 h24, sel_false]
    rw [nb 29 h29, sel_false]
    rw [nb 33 h33, sel_false]
    rw [nb 61 h61, sel_false]
    rw [nb 67 h67, sel_false]
    rw [nb 69 h69, sel_false]
    rw [nb 71 h71, sel_false]
    rw [nb 73 h73, sel_false]
    rw [nb 74 h74, sel_false]
    rw [nb 77 h77, sel_false]
    rw [nb 83 h83, sel_false]
    rw [nb 84 h84, sel_false]
    rw [nb 106 h106, sel_false]
    rw [nb 122 h122, sel_false]
    rw [nb 144 h144, sel_false]
    rw [nb 170 h170, sel_false]
    rw [nb 172 h172, sel_false]
    rw [nb 173 h173, sel_false]
    rw [nb 174 h174, sel_false]
    rw [nb 176 h176, sel_false]
    rw [nb 177 h177, sel_false]
    rw [nb 205 h205, sel_false]
    rw [nb 212 h212, sel_false]
    rw [nb 237 h237, sel_false]
    rw [nb 238 h238, sel_false]
    rw [nb 256 h256, sel_false]
    rw [nb 282 h282, sel_false]
    rw [nb 316 h316, sel_false]
  rw [h]; exact okX_none _ _ _ _
end Ev
end Go.Proofs.YtgdibfnpkcdiiaaGreatDoor
