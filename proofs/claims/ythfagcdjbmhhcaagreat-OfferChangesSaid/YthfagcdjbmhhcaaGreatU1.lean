/- isChange, of the four kinds of changes that offer makes. -/
import Derived.Test.YthfagcdjbmhhcaaGreatK17
set_option linter.unusedVariables false
set_option linter.unusedSimpArgs false
namespace Go.Proofs.YthfagcdjbmhhcaaGreat
open Go.RowKit
attribute [local irreducible] wpQuiet
def chgV (x : Chg) : Value := .agg (Rec.cs x).toArray
theorem chgV_eq (x : Chg) : chgV x = .agg #[.int .i64 x.kind, .int .i64 x.v.id, .int .i64 x.v.side, .int .i64 x.e.id, .int .i64 x.e.src, .int .i64 x.e.dst, .bool x.e.dir, .int .i64 x.e.weight, .int .i64 x.e.cap, .int .i64 x.id, .int .i64 0, .slice none 0 0, .slice none 0 0] := rfl
set_option maxHeartbeats 2000000 in
theorem isC_dropE (w : World) (x : Edg) : Calls Tryz.prog 141 #[chgV (dropE x)] w fun e w' => e = .returned (.bool true) ∧ Gro w w' := by
 rw [chgV_eq]
 simp only [dropE, zV, zE]
 obtain ⟨a,b,c,d,e,f⟩ := x
 go_enter Tryz.func141, Tryz.ntmps141
 go_wp2
 go_ret
 exact ⟨rfl, by repeat (first | exact Kept.refl _ _ | apply Kept.alloc | refine Kept.setCell ?_ (.inr (by simp)) _)⟩
set_option maxHeartbeats 2000000 in
theorem isC_dropV (w : World) (x : Vtx) : Calls Tryz.prog 141 #[chgV (dropV x)] w fun e w' => e = .returned (.bool true) ∧ Gro w w' := by
 rw [chgV_eq]
 simp only [dropV, zV, zE]
 obtain ⟨a,b⟩ := x
 go_enter Tryz.func141, Tryz.ntmps141
 go_wp2
 go_ret
 exact ⟨rfl, by repeat (first | exact Kept.refl _ _ | apply Kept.alloc | refine Kept.setCell ?_ (.inr (by simp)) _)⟩
set_option maxHeartbeats 2000000 in
theorem isC_addV (w : World) (x : Vtx) : Calls Tryz.prog 141 #[chgV (addV x)] w fun e w' => e = .returned (.bool true) ∧ Gro w w' := by
 rw [chgV_eq]
 simp only [addV, zV, zE]
 obtain ⟨a,b⟩ := x
 go_enter Tryz.func141, Tryz.ntmps141
 go_wp2
 go_ret
 exact ⟨rfl, by repeat (first | exact Kept.refl _ _ | apply Kept.alloc | refine Kept.setCell ?_ (.inr (by simp)) _)⟩
set_option maxHeartbeats 2000000 in
theorem isC_addE (w : World) (x : Edg) : Calls Tryz.prog 141 #[chgV (addE x)] w fun e w' => e = .returned (.bool true) ∧ Gro w w' := by
 rw [chgV_eq]
 simp only [addE, zV, zE]
 obtain ⟨a,b,c,d,e,f⟩ := x
 go_enter Tryz.func141, Tryz.ntmps141
 go_wp2
 go_ret
 exact ⟨rfl, by repeat (first | exact Kept.refl _ _ | apply Kept.alloc | refine Kept.setCell ?_ (.inr (by simp)) _)⟩
end Go.Proofs.YthfagcdjbmhhcaaGreat
