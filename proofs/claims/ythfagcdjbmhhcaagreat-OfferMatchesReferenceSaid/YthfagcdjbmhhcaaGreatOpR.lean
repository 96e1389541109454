/- an argument that is an array of six numbers, or a truth value. -/
import Derived.Test.YthfagcdjbmhhcaaGreatOpO
set_option linter.unusedVariables false
set_option linter.unusedSimpArgs false
namespace Go.Proofs.YthfagcdjbmhhcaaGreat
open Go.RowKit Go.ChangeShapes Go.WideShapes Go.ChangeAt
theorem okWide_arr {P : Program} {w : World} {r : Reach} {base : Nat} {t : TypeId} {v : Value} {n : Nat} {e : TypeId} (ht : P.underlying t = some (.array n e)) (h : Value.okWide P w r base t v) : ∃ cs, v = .agg cs := by
 unfold Value.okWide at h
 rw [ht] at h
 obtain ⟨cs, h1, _⟩ := h
 exact ⟨cs, h1⟩
theorem a6_arg {H : Type} {enc : TypeId × Value → H} {w : World} {base : Nat} {spare : Nat → Bool} {held : Bool} {v : Value} {d : DataW H} {ps : List MemPlace} (h : DataW.Trod enc Tryz.prog w base spare held 63 v d ps) (ho : ∃ cs, v = .agg cs) :
  ∃ x : A6, v = .agg #[.int .i64 x.a0, .int .i64 x.a1, .int .i64 x.a2, .int .i64 x.a3, .int .i64 x.a4, .int .i64 x.a5] ∧ x.ok := by
 obtain ⟨cs, rfl⟩ := ho
 obtain ⟨fuel, hf⟩ := h
 obtain ⟨x, hx, hok⟩ := a6_of hf
 refine ⟨x, ?_, hok⟩
 have : cs = (Rec.cs x).toArray := by
  apply Array.toList_inj.1
  simpa [Value.cells] using hx
 rw [this]
 rfl
end Go.Proofs.YthfagcdjbmhhcaaGreat
