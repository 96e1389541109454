/-
  No cell of these rows narrows 'for every input' (looked for: loops, veiled, ifaces, maps, wideKeys, modest, calm, conditions, laid).
  DERIVED. THE GIVEN ROWS OF THIS SEAT. 6 by the template 'for every input the law returns true; each argument reads behind the call as it read before'; 0 by the template 'total and deterministic' (their statements: YthfagcdjbmhhcaaGreatTotals.lean).
  GIVEN WITH THE SEED: the statements are not yours to turn. If you find one false, say at which input.
  Laid BY PROGRAM, IN A SANDBOX (cutbox-rows.mjs): the forced cells as the released guide's own fill.sh prints them over the translation 313cb7626cb21cd2… (all of the seat's roots in one cut). By AI agents, Wed Nov 11 2026. No macro, syntax, notation, axiom, sorry.
-/
import Derived.Test.YthfagcdjbmhhcaaGreatChecked
import GoSem.Claim
import GoSem.ClaimJoined
import GoSem.ClaimMapViews
import Derived.JoinedTies
import Derived.KernelRfl
namespace Go.Proofs.YthfagcdjbmhhcaaGreat
/- THE CELL 'sum', in the pinned program and in every row, IS THE sha256 OF THE DUMP (.gsa) THAT YthfagcdjbmhhcaaGreatProg.lean LOADS. Nothing in Lean hashes anything: it is a label: what it is worth is what the hold of that sum in a sandbox is worth. -/
noncomputable def Tryz.pinned : Pinned := { name := "ythfagcdjbmhhcaagreat", sum := "313cb7626cb21cd2aa5ab56491d1e23798f9d89693e62d4f122ac0a36949cc3d", checked := Tryz.checked }
namespace Rows
def none {H : Type} : Left H := { results := [], args := [] }

/-- 'clearwaylaw27.OfferMatchesReference': WHATEVER THE INPUT: true; the input reads as it did. -/
def offerMatchesReferenceSpec : ChangeSpec := { name := "offerMatchesReference", fn := fun _ => fun
  | [d1, d2, d3, d4, d5, d6, d7, d8, d9, d10, d11] => { results := [.lit (.bool true)], args := [d1, d2, d3, d4, d5, d6, d7, d8, d9, d10, d11] }
  | _ => none }
def offerMatchesReferenceRow : OpenClaim := { program := "ythfagcdjbmhhcaagreat", sum := "313cb7626cb21cd2aa5ab56491d1e23798f9d89693e62d4f122ac0a36949cc3d", func := "clearway/clearwaylaw27.OfferMatchesReference", spec := "offerMatchesReference", inPlace := ["slices.overlaps[clearway/api.Offer]", "slices.overlaps[clearway/api.Vertex]", "slices.overlaps[clearway/api.Edge]", "slices.overlaps[clearway/api.Wish]"], unfollowed := true, recurses := true, apart := false }
def OfferMatchesReferenceSaid : Prop := offerMatchesReferenceRow.holds Tryz.pinned (OpenSpec.ofChange offerMatchesReferenceSpec)

/-- ITS FALSE NEIGHBOUR: 'it returns false'. Refute it at one input. -/
def offerMatchesReferenceWrong : ChangeSpec := { name := "offerMatchesReference", fn := fun _ => fun
  | [d1, d2, d3, d4, d5, d6, d7, d8, d9, d10, d11] => { results := [.lit (.bool false)], args := [d1, d2, d3, d4, d5, d6, d7, d8, d9, d10, d11] }
  | _ => none }
def OfferMatchesReferenceWrongFalsely : Prop := offerMatchesReferenceRow.holds Tryz.pinned (OpenSpec.ofChange offerMatchesReferenceWrong)

/-- 'clearwaylaw27.OfferBudgets': WHATEVER THE INPUT: true; the input reads as it did. -/
def offerBudgetsSpec : ChangeSpec := { name := "offerBudgets", fn := fun _ => fun
  | [d1, d2, d3, d4, d5] => { results := [.lit (.bool true)], args := [d1, d2, d3, d4, d5] }
  | _ => none }
def offerBudgetsRow : OpenClaim := { program := "ythfagcdjbmhhcaagreat", sum := "313cb7626cb21cd2aa5ab56491d1e23798f9d89693e62d4f122ac0a36949cc3d", func := "clearway/clearwaylaw27.OfferBudgets", spec := "offerBudgets", inPlace := ["slices.overlaps[clearway/api.Offer]", "slices.overlaps[clearway/api.Vertex]", "slices.overlaps[clearway/api.Edge]", "slices.overlaps[clearway/api.Wish]"], unfollowed := true, recurses := true, apart := false }
def OfferBudgetsSaid : Prop := offerBudgetsRow.holds Tryz.pinned (OpenSpec.ofChange offerBudgetsSpec)

/-- ITS FALSE NEIGHBOUR: 'it returns false'. Refute it at one input. -/
def offerBudgetsWrong : ChangeSpec := { name := "offerBudgets", fn := fun _ => fun
  | [d1, d2, d3, d4, d5] => { results := [.lit (.bool false)], args := [d1, d2, d3, d4, d5] }
  | _ => none }
def OfferBudgetsWrongFalsely : Prop := offerBudgetsRow.holds Tryz.pinned (OpenSpec.ofChange offerBudgetsWrong)

/-- 'clearwaylaw27.OfferCloses': WHATEVER THE INPUT: true; the input reads as it did. -/
def offerClosesSpec : ChangeSpec := { name := "offerCloses", fn := fun _ => fun
  | [d1, d2, d3, d4, d5, d6] => { results := [.lit (.bool true)], args := [d1, d2, d3, d4, d5, d6] }
  | _ => none }
def offerClosesRow : OpenClaim := { program := "ythfagcdjbmhhcaagreat", sum := "313cb7626cb21cd2aa5ab56491d1e23798f9d89693e62d4f122ac0a36949cc3d", func := "clearway/clearwaylaw27.OfferCloses", spec := "offerCloses", inPlace := ["slices.overlaps[clearway/api.Offer]", "slices.overlaps[clearway/api.Vertex]", "slices.overlaps[clearway/api.Edge]", "slices.overlaps[clearway/api.Wish]"], unfollowed := true, recurses := true, apart := false }
def OfferClosesSaid : Prop := offerClosesRow.holds Tryz.pinned (OpenSpec.ofChange offerClosesSpec)

/-- ITS FALSE NEIGHBOUR: 'it returns false'. Refute it at one input. -/
def offerClosesWrong : ChangeSpec := { name := "offerCloses", fn := fun _ => fun
  | [d1, d2, d3, d4, d5, d6] => { results := [.lit (.bool false)], args := [d1, d2, d3, d4, d5, d6] }
  | _ => none }
def OfferClosesWrongFalsely : Prop := offerClosesRow.holds Tryz.pinned (OpenSpec.ofChange offerClosesWrong)

/-- 'clearwaylaw27.OfferRounds': WHATEVER THE INPUT: true; the input reads as it did. -/
def offerRoundsSpec : ChangeSpec := { name := "offerRounds", fn := fun _ => fun
  | [d1, d2, d3, d4, d5, d6] => { results := [.lit (.bool true)], args := [d1, d2, d3, d4, d5, d6] }
  | _ => none }
def offerRoundsRow : OpenClaim := { program := "ythfagcdjbmhhcaagreat", sum := "313cb7626cb21cd2aa5ab56491d1e23798f9d89693e62d4f122ac0a36949cc3d", func := "clearway/clearwaylaw27.OfferRounds", spec := "offerRounds", inPlace := ["slices.overlaps[clearway/api.Offer]", "slices.overlaps[clearway/api.Vertex]", "slices.overlaps[clearway/api.Edge]", "slices.overlaps[clearway/api.Wish]"], unfollowed := true, recurses := true, apart := false }
def OfferRoundsSaid : Prop := offerRoundsRow.holds Tryz.pinned (OpenSpec.ofChange offerRoundsSpec)

/-- ITS FALSE NEIGHBOUR: 'it returns false'. Refute it at one input. -/
def offerRoundsWrong : ChangeSpec := { name := "offerRounds", fn := fun _ => fun
  | [d1, d2, d3, d4, d5, d6] => { results := [.lit (.bool false)], args := [d1, d2, d3, d4, d5, d6] }
  | _ => none }
def OfferRoundsWrongFalsely : Prop := offerRoundsRow.holds Tryz.pinned (OpenSpec.ofChange offerRoundsWrong)

/-- 'clearwaylaw27.OfferGraphs': WHATEVER THE INPUT: true; the input reads as it did. -/
def offerGraphsSpec : ChangeSpec := { name := "offerGraphs", fn := fun _ => fun
  | [d1, d2, d3, d4] => { results := [.lit (.bool true)], args := [d1, d2, d3, d4] }
  | _ => none }
def offerGraphsRow : OpenClaim := { program := "ythfagcdjbmhhcaagreat", sum := "313cb7626cb21cd2aa5ab56491d1e23798f9d89693e62d4f122ac0a36949cc3d", func := "clearway/clearwaylaw27.OfferGraphs", spec := "offerGraphs", inPlace := ["slices.overlaps[clearway/api.Offer]", "slices.overlaps[clearway/api.Vertex]", "slices.overlaps[clearway/api.Edge]", "slices.overlaps[clearway/api.Wish]"], unfollowed := true, recurses := true, apart := false }
def OfferGraphsSaid : Prop := offerGraphsRow.holds Tryz.pinned (OpenSpec.ofChange offerGraphsSpec)

/-- ITS FALSE NEIGHBOUR: 'it returns false'. Refute it at one input. -/
def offerGraphsWrong : ChangeSpec := { name := "offerGraphs", fn := fun _ => fun
  | [d1, d2, d3, d4] => { results := [.lit (.bool false)], args := [d1, d2, d3, d4] }
  | _ => none }
def OfferGraphsWrongFalsely : Prop := offerGraphsRow.holds Tryz.pinned (OpenSpec.ofChange offerGraphsWrong)

/-- 'clearwaylaw27.OfferChanges': WHATEVER THE INPUT: true; the input reads as it did. -/
def offerChangesSpec : ChangeSpec := { name := "offerChanges", fn := fun _ => fun
  | [d1, d2, d3, d4, d5, d6] => { results := [.lit (.bool true)], args := [d1, d2, d3, d4, d5, d6] }
  | _ => none }
def offerChangesRow : OpenClaim := { program := "ythfagcdjbmhhcaagreat", sum := "313cb7626cb21cd2aa5ab56491d1e23798f9d89693e62d4f122ac0a36949cc3d", func := "clearway/clearwaylaw27.OfferChanges", spec := "offerChanges", inPlace := ["slices.overlaps[clearway/api.Offer]", "slices.overlaps[clearway/api.Vertex]", "slices.overlaps[clearway/api.Edge]", "slices.overlaps[clearway/api.Wish]"], unfollowed := true, recurses := true, apart := false }
def OfferChangesSaid : Prop := offerChangesRow.holds Tryz.pinned (OpenSpec.ofChange offerChangesSpec)

/-- ITS FALSE NEIGHBOUR: 'it returns false'. Refute it at one input. -/
def offerChangesWrong : ChangeSpec := { name := "offerChanges", fn := fun _ => fun
  | [d1, d2, d3, d4, d5, d6] => { results := [.lit (.bool false)], args := [d1, d2, d3, d4, d5, d6] }
  | _ => none }
def OfferChangesWrongFalsely : Prop := offerChangesRow.holds Tryz.pinned (OpenSpec.ofChange offerChangesWrong)

/- THE SECOND FORM. 'bulk': how many values and letters a reading holds, each counted each time it is reached (what is shared counts as often as it is met; a slice's spare places count too). A statement '..UptoSaid' is the law's where the arguments, and the package variables that the reading takes, are together of bulk at most 1048576: NARROWER than '..Said'. Prove '..Said' where nothing that the law and all that it calls make is longer than what came in: it says more and counts as full. Else prove '..UptoSaid'. A law counts once. -/
mutual
def uptoBulk {H : Type} : DataW H → Nat
  | .lit (.string bytes) => bytes.length + 1
  | .lit _ => 1
  | .nil => 1
  | .ptr d => uptoBulk d + 1
  | .slice elems spare => uptoBulkAll elems + uptoBulkAll spare + 1
  | .agg parts => uptoBulkAll parts + 1
  | .iface _ d => uptoBulk d + 1
  | .map entries => uptoBulkEntries entries + 1
  | .held _ => 1
def uptoBulkAll {H : Type} : List (DataW H) → Nat
  | [] => 0
  | d :: r => uptoBulk d + uptoBulkAll r
def uptoBulkEntries {H : Type} : List (Lit × DataW H) → Nat
  | [] => 0
  | x :: r => uptoBulkEntry x + uptoBulkEntries r
def uptoBulkEntry {H : Type} : Lit × DataW H → Nat
  | (.string bytes, d) => bytes.length + uptoBulk d + 1
  | (_, d) => uptoBulk d + 1
 end
def uptoSmall : (H : Type) → List (DataW H) → Bool := fun _ ds => decide (uptoBulkAll ds ≤ 1048576)
def OpenSpec.upto (s : _root_.Go.ChangeSpec) : _root_.Go.OpenSpec := { _root_.Go.OpenSpec.ofChange s with cond := some uptoSmall }

/-- 'clearwaylaw27.OfferMatchesReference', WHERE WHAT IT READS IS OF BULK AT MOST 1048576: true; the input reads as it did. -/
def offerMatchesReferenceUptoRow : OpenClaim := { program := "ythfagcdjbmhhcaagreat", sum := "313cb7626cb21cd2aa5ab56491d1e23798f9d89693e62d4f122ac0a36949cc3d", func := "clearway/clearwaylaw27.OfferMatchesReference", spec := "offerMatchesReference", inPlace := ["slices.overlaps[clearway/api.Offer]", "slices.overlaps[clearway/api.Vertex]", "slices.overlaps[clearway/api.Edge]", "slices.overlaps[clearway/api.Wish]"], unfollowed := true, recurses := true, apart := false, narrowed := true }
def OfferMatchesReferenceUptoSaid : Prop := offerMatchesReferenceUptoRow.holds Tryz.pinned (OpenSpec.upto offerMatchesReferenceSpec)

/-- 'clearwaylaw27.OfferBudgets', WHERE WHAT IT READS IS OF BULK AT MOST 1048576: true; the input reads as it did. -/
def offerBudgetsUptoRow : OpenClaim := { program := "ythfagcdjbmhhcaagreat", sum := "313cb7626cb21cd2aa5ab56491d1e23798f9d89693e62d4f122ac0a36949cc3d", func := "clearway/clearwaylaw27.OfferBudgets", spec := "offerBudgets", inPlace := ["slices.overlaps[clearway/api.Offer]", "slices.overlaps[clearway/api.Vertex]", "slices.overlaps[clearway/api.Edge]", "slices.overlaps[clearway/api.Wish]"], unfollowed := true, recurses := true, apart := false, narrowed := true }
def OfferBudgetsUptoSaid : Prop := offerBudgetsUptoRow.holds Tryz.pinned (OpenSpec.upto offerBudgetsSpec)

/-- 'clearwaylaw27.OfferCloses', WHERE WHAT IT READS IS OF BULK AT MOST 1048576: true; the input reads as it did. -/
def offerClosesUptoRow : OpenClaim := { program := "ythfagcdjbmhhcaagreat", sum := "313cb7626cb21cd2aa5ab56491d1e23798f9d89693e62d4f122ac0a36949cc3d", func := "clearway/clearwaylaw27.OfferCloses", spec := "offerCloses", inPlace := ["slices.overlaps[clearway/api.Offer]", "slices.overlaps[clearway/api.Vertex]", "slices.overlaps[clearway/api.Edge]", "slices.overlaps[clearway/api.Wish]"], unfollowed := true, recurses := true, apart := false, narrowed := true }
def OfferClosesUptoSaid : Prop := offerClosesUptoRow.holds Tryz.pinned (OpenSpec.upto offerClosesSpec)

/-- 'clearwaylaw27.OfferRounds', WHERE WHAT IT READS IS OF BULK AT MOST 1048576: true; the input reads as it did. -/
def offerRoundsUptoRow : OpenClaim := { program := "ythfagcdjbmhhcaagreat", sum := "313cb7626cb21cd2aa5ab56491d1e23798f9d89693e62d4f122ac0a36949cc3d", func := "clearway/clearwaylaw27.OfferRounds", spec := "offerRounds", inPlace := ["slices.overlaps[clearway/api.Offer]", "slices.overlaps[clearway/api.Vertex]", "slices.overlaps[clearway/api.Edge]", "slices.overlaps[clearway/api.Wish]"], unfollowed := true, recurses := true, apart := false, narrowed := true }
def OfferRoundsUptoSaid : Prop := offerRoundsUptoRow.holds Tryz.pinned (OpenSpec.upto offerRoundsSpec)

/-- 'clearwaylaw27.OfferGraphs', WHERE WHAT IT READS IS OF BULK AT MOST 1048576: true; the input reads as it did. -/
def offerGraphsUptoRow : OpenClaim := { program := "ythfagcdjbmhhcaagreat", sum := "313cb7626cb21cd2aa5ab56491d1e23798f9d89693e62d4f122ac0a36949cc3d", func := "clearway/clearwaylaw27.OfferGraphs", spec := "offerGraphs", inPlace := ["slices.overlaps[clearway/api.Offer]", "slices.overlaps[clearway/api.Vertex]", "slices.overlaps[clearway/api.Edge]", "slices.overlaps[clearway/api.Wish]"], unfollowed := true, recurses := true, apart := false, narrowed := true }
def OfferGraphsUptoSaid : Prop := offerGraphsUptoRow.holds Tryz.pinned (OpenSpec.upto offerGraphsSpec)

/-- 'clearwaylaw27.OfferChanges', WHERE WHAT IT READS IS OF BULK AT MOST 1048576: true; the input reads as it did. -/
def offerChangesUptoRow : OpenClaim := { program := "ythfagcdjbmhhcaagreat", sum := "313cb7626cb21cd2aa5ab56491d1e23798f9d89693e62d4f122ac0a36949cc3d", func := "clearway/clearwaylaw27.OfferChanges", spec := "offerChanges", inPlace := ["slices.overlaps[clearway/api.Offer]", "slices.overlaps[clearway/api.Vertex]", "slices.overlaps[clearway/api.Edge]", "slices.overlaps[clearway/api.Wish]"], unfollowed := true, recurses := true, apart := false, narrowed := true }
def OfferChangesUptoSaid : Prop := offerChangesUptoRow.holds Tryz.pinned (OpenSpec.upto offerChangesSpec)

end Rows
end Go.Proofs.YthfagcdjbmhhcaaGreat
