/-
  No cell of these rows narrows 'for every input' (looked for: loops, veiled, ifaces, maps, wideKeys, modest, calm, conditions, laid).
  DERIVED. THE GIVEN ROWS OF THIS SEAT. 11 by the template 'for every input the law returns true; each argument reads behind the call as it read before'; 0 by the template 'total and deterministic' (their statements: YtomnmacmlhkceaaTotals.lean).
  GIVEN WITH THE SEED: the statements are not yours to turn. If you find one false, say at which input.
  Laid BY PROGRAM, IN A SANDBOX (cutbox-rows.mjs): the forced cells as the released guide's own fill.sh prints them over the translation 18e4c501ccd62035… (all of the seat's roots in one cut). By AI agents, Wed Nov 11 2026. No macro, syntax, notation, axiom, sorry.
-/
import Derived.Test.YtomnmacmlhkceaaChecked
import GoSem.Claim
import GoSem.ClaimJoined
import GoSem.ClaimMapViews
import Derived.JoinedTies
import Derived.KernelRfl
namespace Go.Proofs.Ytomnmacmlhkceaa
/- THE CELL 'sum', in the pinned program and in every row, IS THE sha256 OF THE DUMP (.gsa) THAT YtomnmacmlhkceaaProg.lean LOADS. Nothing in Lean hashes anything: it is a label: what it is worth is what the hold of that sum in a sandbox is worth. -/
noncomputable def Try.pinned : Pinned := { name := "ytomnmacmlhkceaa", sum := "18e4c501ccd620355f8ba3fa0a9a2cbc1a3865db5c79473a690698f2c4797fa4", checked := Try.checked }
namespace Rows
def none {H : Type} : Left H := { results := [], args := [] }

/-- 'laws.FnIntervals': WHATEVER THE INPUT: true; the input reads as it did. -/
def fnIntervalsSpec : ChangeSpec := { name := "fnIntervals", fn := fun _ => fun
  | [d] => { results := [.lit (.bool true)], args := [d] }
  | _ => none }
def fnIntervalsRow : OpenClaim := { program := "ytomnmacmlhkceaa", sum := "18e4c501ccd620355f8ba3fa0a9a2cbc1a3865db5c79473a690698f2c4797fa4", func := "loop.example/g01110/laws.FnIntervals", spec := "fnIntervals", unfollowed := true, recurses := true, apart := false }
def FnIntervalsSaid : Prop := fnIntervalsRow.holds Try.pinned (OpenSpec.ofChange fnIntervalsSpec)

/-- ITS FALSE NEIGHBOUR: 'it returns false'. Refute it at one input. -/
def fnIntervalsWrong : ChangeSpec := { name := "fnIntervals", fn := fun _ => fun
  | [d] => { results := [.lit (.bool false)], args := [d] }
  | _ => none }
def FnIntervalsWrongFalsely : Prop := fnIntervalsRow.holds Try.pinned (OpenSpec.ofChange fnIntervalsWrong)

/-- 'laws.FnExactReachSystem': WHATEVER THE INPUT: true; the input reads as it did. -/
def fnExactReachSystemSpec : ChangeSpec := { name := "fnExactReachSystem", fn := fun _ => fun
  | [d1, d2] => { results := [.lit (.bool true)], args := [d1, d2] }
  | _ => none }
def fnExactReachSystemRow : OpenClaim := { program := "ytomnmacmlhkceaa", sum := "18e4c501ccd620355f8ba3fa0a9a2cbc1a3865db5c79473a690698f2c4797fa4", func := "loop.example/g01110/laws.FnExactReachSystem", spec := "fnExactReachSystem", unfollowed := true, recurses := true, apart := false }
def FnExactReachSystemSaid : Prop := fnExactReachSystemRow.holds Try.pinned (OpenSpec.ofChange fnExactReachSystemSpec)

/-- ITS FALSE NEIGHBOUR: 'it returns false'. Refute it at one input. -/
def fnExactReachSystemWrong : ChangeSpec := { name := "fnExactReachSystem", fn := fun _ => fun
  | [d1, d2] => { results := [.lit (.bool false)], args := [d1, d2] }
  | _ => none }
def FnExactReachSystemWrongFalsely : Prop := fnExactReachSystemRow.holds Try.pinned (OpenSpec.ofChange fnExactReachSystemWrong)

/-- 'laws.FnExactTurnSystem': WHATEVER THE INPUT: true; the input reads as it did. -/
def fnExactTurnSystemSpec : ChangeSpec := { name := "fnExactTurnSystem", fn := fun _ => fun
  | [d] => { results := [.lit (.bool true)], args := [d] }
  | _ => none }
def fnExactTurnSystemRow : OpenClaim := { program := "ytomnmacmlhkceaa", sum := "18e4c501ccd620355f8ba3fa0a9a2cbc1a3865db5c79473a690698f2c4797fa4", func := "loop.example/g01110/laws.FnExactTurnSystem", spec := "fnExactTurnSystem", unfollowed := true, recurses := true, apart := false }
def FnExactTurnSystemSaid : Prop := fnExactTurnSystemRow.holds Try.pinned (OpenSpec.ofChange fnExactTurnSystemSpec)

/-- ITS FALSE NEIGHBOUR: 'it returns false'. Refute it at one input. -/
def fnExactTurnSystemWrong : ChangeSpec := { name := "fnExactTurnSystem", fn := fun _ => fun
  | [d] => { results := [.lit (.bool false)], args := [d] }
  | _ => none }
def FnExactTurnSystemWrongFalsely : Prop := fnExactTurnSystemRow.holds Try.pinned (OpenSpec.ofChange fnExactTurnSystemWrong)

/-- 'laws.FnLineSites': WHATEVER THE INPUT: true; the input reads as it did. -/
def fnLineSitesSpec : ChangeSpec := { name := "fnLineSites", fn := fun _ => fun
  | [d] => { results := [.lit (.bool true)], args := [d] }
  | _ => none }
def fnLineSitesRow : OpenClaim := { program := "ytomnmacmlhkceaa", sum := "18e4c501ccd620355f8ba3fa0a9a2cbc1a3865db5c79473a690698f2c4797fa4", func := "loop.example/g01110/laws.FnLineSites", spec := "fnLineSites", unfollowed := true, recurses := true, apart := false }
def FnLineSitesSaid : Prop := fnLineSitesRow.holds Try.pinned (OpenSpec.ofChange fnLineSitesSpec)

/-- ITS FALSE NEIGHBOUR: 'it returns false'. Refute it at one input. -/
def fnLineSitesWrong : ChangeSpec := { name := "fnLineSites", fn := fun _ => fun
  | [d] => { results := [.lit (.bool false)], args := [d] }
  | _ => none }
def FnLineSitesWrongFalsely : Prop := fnLineSitesRow.holds Try.pinned (OpenSpec.ofChange fnLineSitesWrong)

/-- 'laws.FnExactLineGroups': WHATEVER THE INPUT: true; the input reads as it did. -/
def fnExactLineGroupsSpec : ChangeSpec := { name := "fnExactLineGroups", fn := fun _ => fun
  | [d1, d2, d3] => { results := [.lit (.bool true)], args := [d1, d2, d3] }
  | _ => none }
def fnExactLineGroupsRow : OpenClaim := { program := "ytomnmacmlhkceaa", sum := "18e4c501ccd620355f8ba3fa0a9a2cbc1a3865db5c79473a690698f2c4797fa4", func := "loop.example/g01110/laws.FnExactLineGroups", spec := "fnExactLineGroups", unfollowed := true, recurses := true, apart := false }
def FnExactLineGroupsSaid : Prop := fnExactLineGroupsRow.holds Try.pinned (OpenSpec.ofChange fnExactLineGroupsSpec)

/-- ITS FALSE NEIGHBOUR: 'it returns false'. Refute it at one input. -/
def fnExactLineGroupsWrong : ChangeSpec := { name := "fnExactLineGroups", fn := fun _ => fun
  | [d1, d2, d3] => { results := [.lit (.bool false)], args := [d1, d2, d3] }
  | _ => none }
def FnExactLineGroupsWrongFalsely : Prop := fnExactLineGroupsRow.holds Try.pinned (OpenSpec.ofChange fnExactLineGroupsWrong)

/-- 'laws.FnTrees': WHATEVER THE INPUT: true; the input reads as it did. -/
def fnTreesSpec : ChangeSpec := { name := "fnTrees", fn := fun _ => fun
  | [d] => { results := [.lit (.bool true)], args := [d] }
  | _ => none }
def fnTreesRow : OpenClaim := { program := "ytomnmacmlhkceaa", sum := "18e4c501ccd620355f8ba3fa0a9a2cbc1a3865db5c79473a690698f2c4797fa4", func := "loop.example/g01110/laws.FnTrees", spec := "fnTrees", unfollowed := true, recurses := true, apart := false }
def FnTreesSaid : Prop := fnTreesRow.holds Try.pinned (OpenSpec.ofChange fnTreesSpec)

/-- ITS FALSE NEIGHBOUR: 'it returns false'. Refute it at one input. -/
def fnTreesWrong : ChangeSpec := { name := "fnTrees", fn := fun _ => fun
  | [d] => { results := [.lit (.bool false)], args := [d] }
  | _ => none }
def FnTreesWrongFalsely : Prop := fnTreesRow.holds Try.pinned (OpenSpec.ofChange fnTreesWrong)

/-- 'laws.FnMedianPrices': WHATEVER THE INPUT: true; the input reads as it did. -/
def fnMedianPricesSpec : ChangeSpec := { name := "fnMedianPrices", fn := fun _ => fun
  | [d] => { results := [.lit (.bool true)], args := [d] }
  | _ => none }
def fnMedianPricesRow : OpenClaim := { program := "ytomnmacmlhkceaa", sum := "18e4c501ccd620355f8ba3fa0a9a2cbc1a3865db5c79473a690698f2c4797fa4", func := "loop.example/g01110/laws.FnMedianPrices", spec := "fnMedianPrices", unfollowed := true, recurses := true, apart := false }
def FnMedianPricesSaid : Prop := fnMedianPricesRow.holds Try.pinned (OpenSpec.ofChange fnMedianPricesSpec)

/-- ITS FALSE NEIGHBOUR: 'it returns false'. Refute it at one input. -/
def fnMedianPricesWrong : ChangeSpec := { name := "fnMedianPrices", fn := fun _ => fun
  | [d] => { results := [.lit (.bool false)], args := [d] }
  | _ => none }
def FnMedianPricesWrongFalsely : Prop := fnMedianPricesRow.holds Try.pinned (OpenSpec.ofChange fnMedianPricesWrong)

/-- 'laws.FnLines': WHATEVER THE INPUT: true; the input reads as it did. -/
def fnLinesSpec : ChangeSpec := { name := "fnLines", fn := fun _ => fun
  | [d] => { results := [.lit (.bool true)], args := [d] }
  | _ => none }
def fnLinesRow : OpenClaim := { program := "ytomnmacmlhkceaa", sum := "18e4c501ccd620355f8ba3fa0a9a2cbc1a3865db5c79473a690698f2c4797fa4", func := "loop.example/g01110/laws.FnLines", spec := "fnLines", unfollowed := true, recurses := true, apart := false }
def FnLinesSaid : Prop := fnLinesRow.holds Try.pinned (OpenSpec.ofChange fnLinesSpec)

/-- ITS FALSE NEIGHBOUR: 'it returns false'. Refute it at one input. -/
def fnLinesWrong : ChangeSpec := { name := "fnLines", fn := fun _ => fun
  | [d] => { results := [.lit (.bool false)], args := [d] }
  | _ => none }
def FnLinesWrongFalsely : Prop := fnLinesRow.holds Try.pinned (OpenSpec.ofChange fnLinesWrong)

/-- 'laws.FnHitting': WHATEVER THE INPUT: true; the input reads as it did. -/
def fnHittingSpec : ChangeSpec := { name := "fnHitting", fn := fun _ => fun
  | [d] => { results := [.lit (.bool true)], args := [d] }
  | _ => none }
def fnHittingRow : OpenClaim := { program := "ytomnmacmlhkceaa", sum := "18e4c501ccd620355f8ba3fa0a9a2cbc1a3865db5c79473a690698f2c4797fa4", func := "loop.example/g01110/laws.FnHitting", spec := "fnHitting", unfollowed := true, recurses := true, apart := false }
def FnHittingSaid : Prop := fnHittingRow.holds Try.pinned (OpenSpec.ofChange fnHittingSpec)

/-- ITS FALSE NEIGHBOUR: 'it returns false'. Refute it at one input. -/
def fnHittingWrong : ChangeSpec := { name := "fnHitting", fn := fun _ => fun
  | [d] => { results := [.lit (.bool false)], args := [d] }
  | _ => none }
def FnHittingWrongFalsely : Prop := fnHittingRow.holds Try.pinned (OpenSpec.ofChange fnHittingWrong)

/-- 'laws.FnCoverPrices': WHATEVER THE INPUT: true; the input reads as it did. -/
def fnCoverPricesSpec : ChangeSpec := { name := "fnCoverPrices", fn := fun _ => fun
  | [d] => { results := [.lit (.bool true)], args := [d] }
  | _ => none }
def fnCoverPricesRow : OpenClaim := { program := "ytomnmacmlhkceaa", sum := "18e4c501ccd620355f8ba3fa0a9a2cbc1a3865db5c79473a690698f2c4797fa4", func := "loop.example/g01110/laws.FnCoverPrices", spec := "fnCoverPrices", unfollowed := true, recurses := true, apart := false }
def FnCoverPricesSaid : Prop := fnCoverPricesRow.holds Try.pinned (OpenSpec.ofChange fnCoverPricesSpec)

/-- ITS FALSE NEIGHBOUR: 'it returns false'. Refute it at one input. -/
def fnCoverPricesWrong : ChangeSpec := { name := "fnCoverPrices", fn := fun _ => fun
  | [d] => { results := [.lit (.bool false)], args := [d] }
  | _ => none }
def FnCoverPricesWrongFalsely : Prop := fnCoverPricesRow.holds Try.pinned (OpenSpec.ofChange fnCoverPricesWrong)

/-- 'laws.FnCovers': WHATEVER THE INPUT: true; the input reads as it did. -/
def fnCoversSpec : ChangeSpec := { name := "fnCovers", fn := fun _ => fun
  | [d] => { results := [.lit (.bool true)], args := [d] }
  | _ => none }
def fnCoversRow : OpenClaim := { program := "ytomnmacmlhkceaa", sum := "18e4c501ccd620355f8ba3fa0a9a2cbc1a3865db5c79473a690698f2c4797fa4", func := "loop.example/g01110/laws.FnCovers", spec := "fnCovers", unfollowed := true, recurses := true, apart := false }
def FnCoversSaid : Prop := fnCoversRow.holds Try.pinned (OpenSpec.ofChange fnCoversSpec)

/-- ITS FALSE NEIGHBOUR: 'it returns false'. Refute it at one input. -/
def fnCoversWrong : ChangeSpec := { name := "fnCovers", fn := fun _ => fun
  | [d] => { results := [.lit (.bool false)], args := [d] }
  | _ => none }
def FnCoversWrongFalsely : Prop := fnCoversRow.holds Try.pinned (OpenSpec.ofChange fnCoversWrong)

/- THE SECOND FORM. 'bulk': how many values and letters a reading holds, each counted each time it is reached (what is shared counts as often as it is met; a slice's spare places count too). A statement '..UptoSaid' is the law's where the arguments, and the package variables that the reading takes, are together of bulk at most 1048576: NARROWER than '..Said'. Prove '..Said' where nothing that the law and all that it calls make is longer than what came in: it says more and counts as full. Else prove '..UptoSaid'. A law counts once. -/
mutual
def uptoBulk {H : Type} : DataW H → Nat
  | .lit (.string bytes) => bytes.length + 1
  | .lit _ => 1
  | .nil => 1
  | .ptr d => uptoBulk d + 1
  | .slice elems spare => uptoBulkAll elems + uptoBulkAll spare + 1
  | .agg parts => uptoBulkAll parts + 1
  | .iface _ d => uptoBulk d + 1
  | .map entries => uptoBulkEntries entries + 1
  | .held _ => 1
def uptoBulkAll {H : Type} : List (DataW H) → Nat
  | [] => 0
  | d :: r => uptoBulk d + uptoBulkAll r
def uptoBulkEntries {H : Type} : List (Lit × DataW H) → Nat
  | [] => 0
  | x :: r => uptoBulkEntry x + uptoBulkEntries r
def uptoBulkEntry {H : Type} : Lit × DataW H → Nat
  | (.string bytes, d) => bytes.length + uptoBulk d + 1
  | (_, d) => uptoBulk d + 1
 end
def uptoSmall : (H : Type) → List (DataW H) → Bool := fun _ ds => decide (uptoBulkAll ds ≤ 1048576)
def OpenSpec.upto (s : _root_.Go.ChangeSpec) : _root_.Go.OpenSpec := { _root_.Go.OpenSpec.ofChange s with cond := some uptoSmall }

/-- 'laws.FnIntervals', WHERE WHAT IT READS IS OF BULK AT MOST 1048576: true; the input reads as it did. -/
def fnIntervalsUptoRow : OpenClaim := { program := "ytomnmacmlhkceaa", sum := "18e4c501ccd620355f8ba3fa0a9a2cbc1a3865db5c79473a690698f2c4797fa4", func := "loop.example/g01110/laws.FnIntervals", spec := "fnIntervals", unfollowed := true, recurses := true, apart := false, narrowed := true }
def FnIntervalsUptoSaid : Prop := fnIntervalsUptoRow.holds Try.pinned (OpenSpec.upto fnIntervalsSpec)

/-- 'laws.FnExactReachSystem', WHERE WHAT IT READS IS OF BULK AT MOST 1048576: true; the input reads as it did. -/
def fnExactReachSystemUptoRow : OpenClaim := { program := "ytomnmacmlhkceaa", sum := "18e4c501ccd620355f8ba3fa0a9a2cbc1a3865db5c79473a690698f2c4797fa4", func := "loop.example/g01110/laws.FnExactReachSystem", spec := "fnExactReachSystem", unfollowed := true, recurses := true, apart := false, narrowed := true }
def FnExactReachSystemUptoSaid : Prop := fnExactReachSystemUptoRow.holds Try.pinned (OpenSpec.upto fnExactReachSystemSpec)

/-- 'laws.FnExactTurnSystem', WHERE WHAT IT READS IS OF BULK AT MOST 1048576: true; the input reads as it did. -/
def fnExactTurnSystemUptoRow : OpenClaim := { program := "ytomnmacmlhkceaa", sum := "18e4c501ccd620355f8ba3fa0a9a2cbc1a3865db5c79473a690698f2c4797fa4", func := "loop.example/g01110/laws.FnExactTurnSystem", spec := "fnExactTurnSystem", unfollowed := true, recurses := true, apart := false, narrowed := true }
def FnExactTurnSystemUptoSaid : Prop := fnExactTurnSystemUptoRow.holds Try.pinned (OpenSpec.upto fnExactTurnSystemSpec)

/-- 'laws.FnLineSites', WHERE WHAT IT READS IS OF BULK AT MOST 1048576: true; the input reads as it did. -/
def fnLineSitesUptoRow : OpenClaim := { program := "ytomnmacmlhkceaa", sum := "18e4c501ccd620355f8ba3fa0a9a2cbc1a3865db5c79473a690698f2c4797fa4", func := "loop.example/g01110/laws.FnLineSites", spec := "fnLineSites", unfollowed := true, recurses := true, apart := false, narrowed := true }
def FnLineSitesUptoSaid : Prop := fnLineSitesUptoRow.holds Try.pinned (OpenSpec.upto fnLineSitesSpec)

/-- 'laws.FnExactLineGroups', WHERE WHAT IT READS IS OF BULK AT MOST 1048576: true; the input reads as it did. -/
def fnExactLineGroupsUptoRow : OpenClaim := { program := "ytomnmacmlhkceaa", sum := "18e4c501ccd620355f8ba3fa0a9a2cbc1a3865db5c79473a690698f2c4797fa4", func := "loop.example/g01110/laws.FnExactLineGroups", spec := "fnExactLineGroups", unfollowed := true, recurses := true, apart := false, narrowed := true }
def FnExactLineGroupsUptoSaid : Prop := fnExactLineGroupsUptoRow.holds Try.pinned (OpenSpec.upto fnExactLineGroupsSpec)

/-- 'laws.FnTrees', WHERE WHAT IT READS IS OF BULK AT MOST 1048576: true; the input reads as it did. -/
def fnTreesUptoRow : OpenClaim := { program := "ytomnmacmlhkceaa", sum := "18e4c501ccd620355f8ba3fa0a9a2cbc1a3865db5c79473a690698f2c4797fa4", func := "loop.example/g01110/laws.FnTrees", spec := "fnTrees", unfollowed := true, recurses := true, apart := false, narrowed := true }
def FnTreesUptoSaid : Prop := fnTreesUptoRow.holds Try.pinned (OpenSpec.upto fnTreesSpec)

/-- 'laws.FnMedianPrices', WHERE WHAT IT READS IS OF BULK AT MOST 1048576: true; the input reads as it did. -/
def fnMedianPricesUptoRow : OpenClaim := { program := "ytomnmacmlhkceaa", sum := "18e4c501ccd620355f8ba3fa0a9a2cbc1a3865db5c79473a690698f2c4797fa4", func := "loop.example/g01110/laws.FnMedianPrices", spec := "fnMedianPrices", unfollowed := true, recurses := true, apart := false, narrowed := true }
def FnMedianPricesUptoSaid : Prop := fnMedianPricesUptoRow.holds Try.pinned (OpenSpec.upto fnMedianPricesSpec)

/-- 'laws.FnLines', WHERE WHAT IT READS IS OF BULK AT MOST 1048576: true; the input reads as it did. -/
def fnLinesUptoRow : OpenClaim := { program := "ytomnmacmlhkceaa", sum := "18e4c501ccd620355f8ba3fa0a9a2cbc1a3865db5c79473a690698f2c4797fa4", func := "loop.example/g01110/laws.FnLines", spec := "fnLines", unfollowed := true, recurses := true, apart := false, narrowed := true }
def FnLinesUptoSaid : Prop := fnLinesUptoRow.holds Try.pinned (OpenSpec.upto fnLinesSpec)

/-- 'laws.FnHitting', WHERE WHAT IT READS IS OF BULK AT MOST 1048576: true; the input reads as it did. -/
def fnHittingUptoRow : OpenClaim := { program := "ytomnmacmlhkceaa", sum := "18e4c501ccd620355f8ba3fa0a9a2cbc1a3865db5c79473a690698f2c4797fa4", func := "loop.example/g01110/laws.FnHitting", spec := "fnHitting", unfollowed := true, recurses := true, apart := false, narrowed := true }
def FnHittingUptoSaid : Prop := fnHittingUptoRow.holds Try.pinned (OpenSpec.upto fnHittingSpec)

/-- 'laws.FnCoverPrices', WHERE WHAT IT READS IS OF BULK AT MOST 1048576: true; the input reads as it did. -/
def fnCoverPricesUptoRow : OpenClaim := { program := "ytomnmacmlhkceaa", sum := "18e4c501ccd620355f8ba3fa0a9a2cbc1a3865db5c79473a690698f2c4797fa4", func := "loop.example/g01110/laws.FnCoverPrices", spec := "fnCoverPrices", unfollowed := true, recurses := true, apart := false, narrowed := true }
def FnCoverPricesUptoSaid : Prop := fnCoverPricesUptoRow.holds Try.pinned (OpenSpec.upto fnCoverPricesSpec)

/-- 'laws.FnCovers', WHERE WHAT IT READS IS OF BULK AT MOST 1048576: true; the input reads as it did. -/
def fnCoversUptoRow : OpenClaim := { program := "ytomnmacmlhkceaa", sum := "18e4c501ccd620355f8ba3fa0a9a2cbc1a3865db5c79473a690698f2c4797fa4", func := "loop.example/g01110/laws.FnCovers", spec := "fnCovers", unfollowed := true, recurses := true, apart := false, narrowed := true }
def FnCoversUptoSaid : Prop := fnCoversUptoRow.holds Try.pinned (OpenSpec.upto fnCoversSpec)

end Rows
end Go.Proofs.Ytomnmacmlhkceaa
