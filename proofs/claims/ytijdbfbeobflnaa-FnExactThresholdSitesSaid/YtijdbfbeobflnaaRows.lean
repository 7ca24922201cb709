/-
  No cell of these rows narrows 'for every input' (looked for: loops, veiled, ifaces, maps, wideKeys, modest, calm, conditions, laid).
  DERIVED. THE GIVEN ROWS OF THIS SEAT. 20 by the template 'for every input the law returns true; each argument reads behind the call as it read before'; 0 by the template 'total and deterministic' (their statements: YtijdbfbeobflnaaTotals.lean).
  GIVEN WITH THE SEED: the statements are not yours to turn. If you find one false, say at which input.
  Laid BY PROGRAM, IN A SANDBOX (cutbox-rows.mjs): the forced cells as the released guide's own fill.sh prints them over the translation 51af938c348d126d… (all of the seat's roots in one cut). By AI agents, Wed Nov 11 2026. No macro, syntax, notation, axiom, sorry.
-/
import Derived.Test.YtijdbfbeobflnaaChecked
import GoSem.Claim
import GoSem.ClaimJoined
import GoSem.ClaimMapViews
import Derived.JoinedTies
import Derived.KernelRfl
namespace Go.Proofs.Ytijdbfbeobflnaa
/- THE CELL 'sum', in the pinned program and in every row, IS THE sha256 OF THE DUMP (.gsa) THAT YtijdbfbeobflnaaProg.lean LOADS. Nothing in Lean hashes anything: it is a label: what it is worth is what the hold of that sum in a sandbox is worth. -/
noncomputable def Try.pinned : Pinned := { name := "ytijdbfbeobflnaa", sum := "51af938c348d126d0a8df0ec9016e784432f8c345c8ec2f044e69e42f341102b", checked := Try.checked }
namespace Rows
def none {H : Type} : Left H := { results := [], args := [] }

/-- 'laws.FnIntervals': WHATEVER THE INPUT: true; the input reads as it did. -/
def fnIntervalsSpec : ChangeSpec := { name := "fnIntervals", fn := fun _ => fun
  | [d] => { results := [.lit (.bool true)], args := [d] }
  | _ => none }
def fnIntervalsRow : OpenClaim := { program := "ytijdbfbeobflnaa", sum := "51af938c348d126d0a8df0ec9016e784432f8c345c8ec2f044e69e42f341102b", func := "loop.example/g01110/laws.FnIntervals", spec := "fnIntervals", unfollowed := true, recurses := true, apart := false }
def FnIntervalsSaid : Prop := fnIntervalsRow.holds Try.pinned (OpenSpec.ofChange fnIntervalsSpec)

/-- ITS FALSE NEIGHBOUR: 'it returns false'. Refute it at one input. -/
def fnIntervalsWrong : ChangeSpec := { name := "fnIntervals", fn := fun _ => fun
  | [d] => { results := [.lit (.bool false)], args := [d] }
  | _ => none }
def FnIntervalsWrongFalsely : Prop := fnIntervalsRow.holds Try.pinned (OpenSpec.ofChange fnIntervalsWrong)

/-- 'laws.FnExactApartIntervals': WHATEVER THE INPUT: true; the input reads as it did. -/
def fnExactApartIntervalsSpec : ChangeSpec := { name := "fnExactApartIntervals", fn := fun _ => fun
  | [d] => { results := [.lit (.bool true)], args := [d] }
  | _ => none }
def fnExactApartIntervalsRow : OpenClaim := { program := "ytijdbfbeobflnaa", sum := "51af938c348d126d0a8df0ec9016e784432f8c345c8ec2f044e69e42f341102b", func := "loop.example/g01110/laws.FnExactApartIntervals", spec := "fnExactApartIntervals", unfollowed := true, recurses := true, apart := false }
def FnExactApartIntervalsSaid : Prop := fnExactApartIntervalsRow.holds Try.pinned (OpenSpec.ofChange fnExactApartIntervalsSpec)

/-- ITS FALSE NEIGHBOUR: 'it returns false'. Refute it at one input. -/
def fnExactApartIntervalsWrong : ChangeSpec := { name := "fnExactApartIntervals", fn := fun _ => fun
  | [d] => { results := [.lit (.bool false)], args := [d] }
  | _ => none }
def FnExactApartIntervalsWrongFalsely : Prop := fnExactApartIntervalsRow.holds Try.pinned (OpenSpec.ofChange fnExactApartIntervalsWrong)

/-- 'laws.FnExactStabPoints': WHATEVER THE INPUT: true; the input reads as it did. -/
def fnExactStabPointsSpec : ChangeSpec := { name := "fnExactStabPoints", fn := fun _ => fun
  | [d] => { results := [.lit (.bool true)], args := [d] }
  | _ => none }
def fnExactStabPointsRow : OpenClaim := { program := "ytijdbfbeobflnaa", sum := "51af938c348d126d0a8df0ec9016e784432f8c345c8ec2f044e69e42f341102b", func := "loop.example/g01110/laws.FnExactStabPoints", spec := "fnExactStabPoints", unfollowed := true, recurses := true, apart := false }
def FnExactStabPointsSaid : Prop := fnExactStabPointsRow.holds Try.pinned (OpenSpec.ofChange fnExactStabPointsSpec)

/-- ITS FALSE NEIGHBOUR: 'it returns false'. Refute it at one input. -/
def fnExactStabPointsWrong : ChangeSpec := { name := "fnExactStabPoints", fn := fun _ => fun
  | [d] => { results := [.lit (.bool false)], args := [d] }
  | _ => none }
def FnExactStabPointsWrongFalsely : Prop := fnExactStabPointsRow.holds Try.pinned (OpenSpec.ofChange fnExactStabPointsWrong)

/-- 'laws.FnExactLineSites': WHATEVER THE INPUT: true; the input reads as it did. -/
def fnExactLineSitesSpec : ChangeSpec := { name := "fnExactLineSites", fn := fun _ => fun
  | [d1, d2, d3] => { results := [.lit (.bool true)], args := [d1, d2, d3] }
  | _ => none }
def fnExactLineSitesRow : OpenClaim := { program := "ytijdbfbeobflnaa", sum := "51af938c348d126d0a8df0ec9016e784432f8c345c8ec2f044e69e42f341102b", func := "loop.example/g01110/laws.FnExactLineSites", spec := "fnExactLineSites", unfollowed := true, recurses := true, apart := false }
def FnExactLineSitesSaid : Prop := fnExactLineSitesRow.holds Try.pinned (OpenSpec.ofChange fnExactLineSitesSpec)

/-- ITS FALSE NEIGHBOUR: 'it returns false'. Refute it at one input. -/
def fnExactLineSitesWrong : ChangeSpec := { name := "fnExactLineSites", fn := fun _ => fun
  | [d1, d2, d3] => { results := [.lit (.bool false)], args := [d1, d2, d3] }
  | _ => none }
def FnExactLineSitesWrongFalsely : Prop := fnExactLineSitesRow.holds Try.pinned (OpenSpec.ofChange fnExactLineSitesWrong)

/-- 'laws.FnExactThresholdClients': WHATEVER THE INPUT: true; the input reads as it did. -/
def fnExactThresholdClientsSpec : ChangeSpec := { name := "fnExactThresholdClients", fn := fun _ => fun
  | [d1, d2] => { results := [.lit (.bool true)], args := [d1, d2] }
  | _ => none }
def fnExactThresholdClientsRow : OpenClaim := { program := "ytijdbfbeobflnaa", sum := "51af938c348d126d0a8df0ec9016e784432f8c345c8ec2f044e69e42f341102b", func := "loop.example/g01110/laws.FnExactThresholdClients", spec := "fnExactThresholdClients", unfollowed := true, recurses := true, apart := false }
def FnExactThresholdClientsSaid : Prop := fnExactThresholdClientsRow.holds Try.pinned (OpenSpec.ofChange fnExactThresholdClientsSpec)

/-- ITS FALSE NEIGHBOUR: 'it returns false'. Refute it at one input. -/
def fnExactThresholdClientsWrong : ChangeSpec := { name := "fnExactThresholdClients", fn := fun _ => fun
  | [d1, d2] => { results := [.lit (.bool false)], args := [d1, d2] }
  | _ => none }
def FnExactThresholdClientsWrongFalsely : Prop := fnExactThresholdClientsRow.holds Try.pinned (OpenSpec.ofChange fnExactThresholdClientsWrong)

/-- 'laws.FnExactReachSystem': WHATEVER THE INPUT: true; the input reads as it did. -/
def fnExactReachSystemSpec : ChangeSpec := { name := "fnExactReachSystem", fn := fun _ => fun
  | [d1, d2] => { results := [.lit (.bool true)], args := [d1, d2] }
  | _ => none }
def fnExactReachSystemRow : OpenClaim := { program := "ytijdbfbeobflnaa", sum := "51af938c348d126d0a8df0ec9016e784432f8c345c8ec2f044e69e42f341102b", func := "loop.example/g01110/laws.FnExactReachSystem", spec := "fnExactReachSystem", unfollowed := true, recurses := true, apart := false }
def FnExactReachSystemSaid : Prop := fnExactReachSystemRow.holds Try.pinned (OpenSpec.ofChange fnExactReachSystemSpec)

/-- ITS FALSE NEIGHBOUR: 'it returns false'. Refute it at one input. -/
def fnExactReachSystemWrong : ChangeSpec := { name := "fnExactReachSystem", fn := fun _ => fun
  | [d1, d2] => { results := [.lit (.bool false)], args := [d1, d2] }
  | _ => none }
def FnExactReachSystemWrongFalsely : Prop := fnExactReachSystemRow.holds Try.pinned (OpenSpec.ofChange fnExactReachSystemWrong)

/-- 'laws.FnExactClientsWithin': WHATEVER THE INPUT: true; the input reads as it did. -/
def fnExactClientsWithinSpec : ChangeSpec := { name := "fnExactClientsWithin", fn := fun _ => fun
  | [d1, d2, d3] => { results := [.lit (.bool true)], args := [d1, d2, d3] }
  | _ => none }
def fnExactClientsWithinRow : OpenClaim := { program := "ytijdbfbeobflnaa", sum := "51af938c348d126d0a8df0ec9016e784432f8c345c8ec2f044e69e42f341102b", func := "loop.example/g01110/laws.FnExactClientsWithin", spec := "fnExactClientsWithin", unfollowed := true, recurses := true, apart := false }
def FnExactClientsWithinSaid : Prop := fnExactClientsWithinRow.holds Try.pinned (OpenSpec.ofChange fnExactClientsWithinSpec)

/-- ITS FALSE NEIGHBOUR: 'it returns false'. Refute it at one input. -/
def fnExactClientsWithinWrong : ChangeSpec := { name := "fnExactClientsWithin", fn := fun _ => fun
  | [d1, d2, d3] => { results := [.lit (.bool false)], args := [d1, d2, d3] }
  | _ => none }
def FnExactClientsWithinWrongFalsely : Prop := fnExactClientsWithinRow.holds Try.pinned (OpenSpec.ofChange fnExactClientsWithinWrong)

/-- 'laws.FnExactRadiiOf': WHATEVER THE INPUT: true; the input reads as it did. -/
def fnExactRadiiOfSpec : ChangeSpec := { name := "fnExactRadiiOf", fn := fun _ => fun
  | [d1, d2] => { results := [.lit (.bool true)], args := [d1, d2] }
  | _ => none }
def fnExactRadiiOfRow : OpenClaim := { program := "ytijdbfbeobflnaa", sum := "51af938c348d126d0a8df0ec9016e784432f8c345c8ec2f044e69e42f341102b", func := "loop.example/g01110/laws.FnExactRadiiOf", spec := "fnExactRadiiOf", unfollowed := true, recurses := true, apart := false }
def FnExactRadiiOfSaid : Prop := fnExactRadiiOfRow.holds Try.pinned (OpenSpec.ofChange fnExactRadiiOfSpec)

/-- ITS FALSE NEIGHBOUR: 'it returns false'. Refute it at one input. -/
def fnExactRadiiOfWrong : ChangeSpec := { name := "fnExactRadiiOf", fn := fun _ => fun
  | [d1, d2] => { results := [.lit (.bool false)], args := [d1, d2] }
  | _ => none }
def FnExactRadiiOfWrongFalsely : Prop := fnExactRadiiOfRow.holds Try.pinned (OpenSpec.ofChange fnExactRadiiOfWrong)

/-- 'laws.FnExactTurnSystem': WHATEVER THE INPUT: true; the input reads as it did. -/
def fnExactTurnSystemSpec : ChangeSpec := { name := "fnExactTurnSystem", fn := fun _ => fun
  | [d] => { results := [.lit (.bool true)], args := [d] }
  | _ => none }
def fnExactTurnSystemRow : OpenClaim := { program := "ytijdbfbeobflnaa", sum := "51af938c348d126d0a8df0ec9016e784432f8c345c8ec2f044e69e42f341102b", func := "loop.example/g01110/laws.FnExactTurnSystem", spec := "fnExactTurnSystem", unfollowed := true, recurses := true, apart := false }
def FnExactTurnSystemSaid : Prop := fnExactTurnSystemRow.holds Try.pinned (OpenSpec.ofChange fnExactTurnSystemSpec)

/-- ITS FALSE NEIGHBOUR: 'it returns false'. Refute it at one input. -/
def fnExactTurnSystemWrong : ChangeSpec := { name := "fnExactTurnSystem", fn := fun _ => fun
  | [d] => { results := [.lit (.bool false)], args := [d] }
  | _ => none }
def FnExactTurnSystemWrongFalsely : Prop := fnExactTurnSystemRow.holds Try.pinned (OpenSpec.ofChange fnExactTurnSystemWrong)

/-- 'laws.FnExactRaisePrices': WHATEVER THE INPUT: true; the input reads as it did. -/
def fnExactRaisePricesSpec : ChangeSpec := { name := "fnExactRaisePrices", fn := fun _ => fun
  | [d] => { results := [.lit (.bool true)], args := [d] }
  | _ => none }
def fnExactRaisePricesRow : OpenClaim := { program := "ytijdbfbeobflnaa", sum := "51af938c348d126d0a8df0ec9016e784432f8c345c8ec2f044e69e42f341102b", func := "loop.example/g01110/laws.FnExactRaisePrices", spec := "fnExactRaisePrices", unfollowed := true, recurses := true, apart := false }
def FnExactRaisePricesSaid : Prop := fnExactRaisePricesRow.holds Try.pinned (OpenSpec.ofChange fnExactRaisePricesSpec)

/-- ITS FALSE NEIGHBOUR: 'it returns false'. Refute it at one input. -/
def fnExactRaisePricesWrong : ChangeSpec := { name := "fnExactRaisePrices", fn := fun _ => fun
  | [d] => { results := [.lit (.bool false)], args := [d] }
  | _ => none }
def FnExactRaisePricesWrongFalsely : Prop := fnExactRaisePricesRow.holds Try.pinned (OpenSpec.ofChange fnExactRaisePricesWrong)

/-- 'laws.FnExactFarthestClients': WHATEVER THE INPUT: true; the input reads as it did. -/
def fnExactFarthestClientsSpec : ChangeSpec := { name := "fnExactFarthestClients", fn := fun _ => fun
  | [d1, d2] => { results := [.lit (.bool true)], args := [d1, d2] }
  | _ => none }
def fnExactFarthestClientsRow : OpenClaim := { program := "ytijdbfbeobflnaa", sum := "51af938c348d126d0a8df0ec9016e784432f8c345c8ec2f044e69e42f341102b", func := "loop.example/g01110/laws.FnExactFarthestClients", spec := "fnExactFarthestClients", unfollowed := true, recurses := true, apart := false }
def FnExactFarthestClientsSaid : Prop := fnExactFarthestClientsRow.holds Try.pinned (OpenSpec.ofChange fnExactFarthestClientsSpec)

/-- ITS FALSE NEIGHBOUR: 'it returns false'. Refute it at one input. -/
def fnExactFarthestClientsWrong : ChangeSpec := { name := "fnExactFarthestClients", fn := fun _ => fun
  | [d1, d2] => { results := [.lit (.bool false)], args := [d1, d2] }
  | _ => none }
def FnExactFarthestClientsWrongFalsely : Prop := fnExactFarthestClientsRow.holds Try.pinned (OpenSpec.ofChange fnExactFarthestClientsWrong)

/-- 'laws.FnExactFlowYield': WHATEVER THE INPUT: true; the input reads as it did. -/
def fnExactFlowYieldSpec : ChangeSpec := { name := "fnExactFlowYield", fn := fun _ => fun
  | [d1, d2, d3, d4, d5, d6] => { results := [.lit (.bool true)], args := [d1, d2, d3, d4, d5, d6] }
  | _ => none }
def fnExactFlowYieldRow : OpenClaim := { program := "ytijdbfbeobflnaa", sum := "51af938c348d126d0a8df0ec9016e784432f8c345c8ec2f044e69e42f341102b", func := "loop.example/g01110/laws.FnExactFlowYield", spec := "fnExactFlowYield", unfollowed := true, recurses := true, apart := false }
def FnExactFlowYieldSaid : Prop := fnExactFlowYieldRow.holds Try.pinned (OpenSpec.ofChange fnExactFlowYieldSpec)

/-- ITS FALSE NEIGHBOUR: 'it returns false'. Refute it at one input. -/
def fnExactFlowYieldWrong : ChangeSpec := { name := "fnExactFlowYield", fn := fun _ => fun
  | [d1, d2, d3, d4, d5, d6] => { results := [.lit (.bool false)], args := [d1, d2, d3, d4, d5, d6] }
  | _ => none }
def FnExactFlowYieldWrongFalsely : Prop := fnExactFlowYieldRow.holds Try.pinned (OpenSpec.ofChange fnExactFlowYieldWrong)

/-- 'laws.FnExactIsFlow': WHATEVER THE INPUT: true; the input reads as it did. -/
def fnExactIsFlowSpec : ChangeSpec := { name := "fnExactIsFlow", fn := fun _ => fun
  | [d1, d2, d3, d4, d5] => { results := [.lit (.bool true)], args := [d1, d2, d3, d4, d5] }
  | _ => none }
def fnExactIsFlowRow : OpenClaim := { program := "ytijdbfbeobflnaa", sum := "51af938c348d126d0a8df0ec9016e784432f8c345c8ec2f044e69e42f341102b", func := "loop.example/g01110/laws.FnExactIsFlow", spec := "fnExactIsFlow", unfollowed := true, recurses := true, apart := false }
def FnExactIsFlowSaid : Prop := fnExactIsFlowRow.holds Try.pinned (OpenSpec.ofChange fnExactIsFlowSpec)

/-- ITS FALSE NEIGHBOUR: 'it returns false'. Refute it at one input. -/
def fnExactIsFlowWrong : ChangeSpec := { name := "fnExactIsFlow", fn := fun _ => fun
  | [d1, d2, d3, d4, d5] => { results := [.lit (.bool false)], args := [d1, d2, d3, d4, d5] }
  | _ => none }
def FnExactIsFlowWrongFalsely : Prop := fnExactIsFlowRow.holds Try.pinned (OpenSpec.ofChange fnExactIsFlowWrong)

/-- 'laws.FnExactGreedyCoverage': WHATEVER THE INPUT: true; the input reads as it did. -/
def fnExactGreedyCoverageSpec : ChangeSpec := { name := "fnExactGreedyCoverage", fn := fun _ => fun
  | [d1, d2] => { results := [.lit (.bool true)], args := [d1, d2] }
  | _ => none }
def fnExactGreedyCoverageRow : OpenClaim := { program := "ytijdbfbeobflnaa", sum := "51af938c348d126d0a8df0ec9016e784432f8c345c8ec2f044e69e42f341102b", func := "loop.example/g01110/laws.FnExactGreedyCoverage", spec := "fnExactGreedyCoverage", unfollowed := true, recurses := true, apart := false }
def FnExactGreedyCoverageSaid : Prop := fnExactGreedyCoverageRow.holds Try.pinned (OpenSpec.ofChange fnExactGreedyCoverageSpec)

/-- ITS FALSE NEIGHBOUR: 'it returns false'. Refute it at one input. -/
def fnExactGreedyCoverageWrong : ChangeSpec := { name := "fnExactGreedyCoverage", fn := fun _ => fun
  | [d1, d2] => { results := [.lit (.bool false)], args := [d1, d2] }
  | _ => none }
def FnExactGreedyCoverageWrongFalsely : Prop := fnExactGreedyCoverageRow.holds Try.pinned (OpenSpec.ofChange fnExactGreedyCoverageWrong)

/-- 'laws.FnExactLargestFar': WHATEVER THE INPUT: true; the input reads as it did. -/
def fnExactLargestFarSpec : ChangeSpec := { name := "fnExactLargestFar", fn := fun _ => fun
  | [d1, d2] => { results := [.lit (.bool true)], args := [d1, d2] }
  | _ => none }
def fnExactLargestFarRow : OpenClaim := { program := "ytijdbfbeobflnaa", sum := "51af938c348d126d0a8df0ec9016e784432f8c345c8ec2f044e69e42f341102b", func := "loop.example/g01110/laws.FnExactLargestFar", spec := "fnExactLargestFar", unfollowed := true, recurses := true, apart := false }
def FnExactLargestFarSaid : Prop := fnExactLargestFarRow.holds Try.pinned (OpenSpec.ofChange fnExactLargestFarSpec)

/-- ITS FALSE NEIGHBOUR: 'it returns false'. Refute it at one input. -/
def fnExactLargestFarWrong : ChangeSpec := { name := "fnExactLargestFar", fn := fun _ => fun
  | [d1, d2] => { results := [.lit (.bool false)], args := [d1, d2] }
  | _ => none }
def FnExactLargestFarWrongFalsely : Prop := fnExactLargestFarRow.holds Try.pinned (OpenSpec.ofChange fnExactLargestFarWrong)

/-- 'laws.FnExactThresholdSites': WHATEVER THE INPUT: true; the input reads as it did. -/
def fnExactThresholdSitesSpec : ChangeSpec := { name := "fnExactThresholdSites", fn := fun _ => fun
  | [d1, d2] => { results := [.lit (.bool true)], args := [d1, d2] }
  | _ => none }
def fnExactThresholdSitesRow : OpenClaim := { program := "ytijdbfbeobflnaa", sum := "51af938c348d126d0a8df0ec9016e784432f8c345c8ec2f044e69e42f341102b", func := "loop.example/g01110/laws.FnExactThresholdSites", spec := "fnExactThresholdSites", unfollowed := true, recurses := true, apart := false }
def FnExactThresholdSitesSaid : Prop := fnExactThresholdSitesRow.holds Try.pinned (OpenSpec.ofChange fnExactThresholdSitesSpec)

/-- ITS FALSE NEIGHBOUR: 'it returns false'. Refute it at one input. -/
def fnExactThresholdSitesWrong : ChangeSpec := { name := "fnExactThresholdSites", fn := fun _ => fun
  | [d1, d2] => { results := [.lit (.bool false)], args := [d1, d2] }
  | _ => none }
def FnExactThresholdSitesWrongFalsely : Prop := fnExactThresholdSitesRow.holds Try.pinned (OpenSpec.ofChange fnExactThresholdSitesWrong)

/-- 'laws.FnExactGreedyCover': WHATEVER THE INPUT: true; the input reads as it did. -/
def fnExactGreedyCoverSpec : ChangeSpec := { name := "fnExactGreedyCover", fn := fun _ => fun
  | [d] => { results := [.lit (.bool true)], args := [d] }
  | _ => none }
def fnExactGreedyCoverRow : OpenClaim := { program := "ytijdbfbeobflnaa", sum := "51af938c348d126d0a8df0ec9016e784432f8c345c8ec2f044e69e42f341102b", func := "loop.example/g01110/laws.FnExactGreedyCover", spec := "fnExactGreedyCover", unfollowed := true, recurses := true, apart := false }
def FnExactGreedyCoverSaid : Prop := fnExactGreedyCoverRow.holds Try.pinned (OpenSpec.ofChange fnExactGreedyCoverSpec)

/-- ITS FALSE NEIGHBOUR: 'it returns false'. Refute it at one input. -/
def fnExactGreedyCoverWrong : ChangeSpec := { name := "fnExactGreedyCover", fn := fun _ => fun
  | [d] => { results := [.lit (.bool false)], args := [d] }
  | _ => none }
def FnExactGreedyCoverWrongFalsely : Prop := fnExactGreedyCoverRow.holds Try.pinned (OpenSpec.ofChange fnExactGreedyCoverWrong)

/-- 'laws.FnExactFarthestSites': WHATEVER THE INPUT: true; the input reads as it did. -/
def fnExactFarthestSitesSpec : ChangeSpec := { name := "fnExactFarthestSites", fn := fun _ => fun
  | [d1, d2] => { results := [.lit (.bool true)], args := [d1, d2] }
  | _ => none }
def fnExactFarthestSitesRow : OpenClaim := { program := "ytijdbfbeobflnaa", sum := "51af938c348d126d0a8df0ec9016e784432f8c345c8ec2f044e69e42f341102b", func := "loop.example/g01110/laws.FnExactFarthestSites", spec := "fnExactFarthestSites", unfollowed := true, recurses := true, apart := false }
def FnExactFarthestSitesSaid : Prop := fnExactFarthestSitesRow.holds Try.pinned (OpenSpec.ofChange fnExactFarthestSitesSpec)

/-- ITS FALSE NEIGHBOUR: 'it returns false'. Refute it at one input. -/
def fnExactFarthestSitesWrong : ChangeSpec := { name := "fnExactFarthestSites", fn := fun _ => fun
  | [d1, d2] => { results := [.lit (.bool false)], args := [d1, d2] }
  | _ => none }
def FnExactFarthestSitesWrongFalsely : Prop := fnExactFarthestSitesRow.holds Try.pinned (OpenSpec.ofChange fnExactFarthestSitesWrong)

/-- 'laws.FnExactGreedyPrices': WHATEVER THE INPUT: true; the input reads as it did. -/
def fnExactGreedyPricesSpec : ChangeSpec := { name := "fnExactGreedyPrices", fn := fun _ => fun
  | [d] => { results := [.lit (.bool true)], args := [d] }
  | _ => none }
def fnExactGreedyPricesRow : OpenClaim := { program := "ytijdbfbeobflnaa", sum := "51af938c348d126d0a8df0ec9016e784432f8c345c8ec2f044e69e42f341102b", func := "loop.example/g01110/laws.FnExactGreedyPrices", spec := "fnExactGreedyPrices", unfollowed := true, recurses := true, apart := false }
def FnExactGreedyPricesSaid : Prop := fnExactGreedyPricesRow.holds Try.pinned (OpenSpec.ofChange fnExactGreedyPricesSpec)

/-- ITS FALSE NEIGHBOUR: 'it returns false'. Refute it at one input. -/
def fnExactGreedyPricesWrong : ChangeSpec := { name := "fnExactGreedyPrices", fn := fun _ => fun
  | [d] => { results := [.lit (.bool false)], args := [d] }
  | _ => none }
def FnExactGreedyPricesWrongFalsely : Prop := fnExactGreedyPricesRow.holds Try.pinned (OpenSpec.ofChange fnExactGreedyPricesWrong)

/-- 'laws.FnExactLengthsOf': WHATEVER THE INPUT: true; the input reads as it did. -/
def fnExactLengthsOfSpec : ChangeSpec := { name := "fnExactLengthsOf", fn := fun _ => fun
  | [d] => { results := [.lit (.bool true)], args := [d] }
  | _ => none }
def fnExactLengthsOfRow : OpenClaim := { program := "ytijdbfbeobflnaa", sum := "51af938c348d126d0a8df0ec9016e784432f8c345c8ec2f044e69e42f341102b", func := "loop.example/g01110/laws.FnExactLengthsOf", spec := "fnExactLengthsOf", unfollowed := true, recurses := true, apart := false }
def FnExactLengthsOfSaid : Prop := fnExactLengthsOfRow.holds Try.pinned (OpenSpec.ofChange fnExactLengthsOfSpec)

/-- ITS FALSE NEIGHBOUR: 'it returns false'. Refute it at one input. -/
def fnExactLengthsOfWrong : ChangeSpec := { name := "fnExactLengthsOf", fn := fun _ => fun
  | [d] => { results := [.lit (.bool false)], args := [d] }
  | _ => none }
def FnExactLengthsOfWrongFalsely : Prop := fnExactLengthsOfRow.holds Try.pinned (OpenSpec.ofChange fnExactLengthsOfWrong)

/- THE SECOND FORM. 'bulk': how many values and letters a reading holds, each counted each time it is reached (what is shared counts as often as it is met; a slice's spare places count too). A statement '..UptoSaid' is the law's where the arguments, and the package variables that the reading takes, are together of bulk at most 1048576: NARROWER than '..Said'. Prove '..Said' where nothing that the law and all that it calls make is longer than what came in: it says more and counts as full. Else prove '..UptoSaid'. A law counts once. -/
mutual
def uptoBulk {H : Type} : DataW H → Nat
  | .lit (.string bytes) => bytes.length + 1
  | .lit _ => 1
  | .nil => 1
  | .ptr d => uptoBulk d + 1
  | .slice elems spare => uptoBulkAll elems + uptoBulkAll spare + 1
  | .agg parts => uptoBulkAll parts + 1
  | .iface _ d => uptoBulk d + 1
  | .map entries => uptoBulkEntries entries + 1
  | .held _ => 1
def uptoBulkAll {H : Type} : List (DataW H) → Nat
  | [] => 0
  | d :: r => uptoBulk d + uptoBulkAll r
def uptoBulkEntries {H : Type} : List (Lit × DataW H) → Nat
  | [] => 0
  | x :: r => uptoBulkEntry x + uptoBulkEntries r
def uptoBulkEntry {H : Type} : Lit × DataW H → Nat
  | (.string bytes, d) => bytes.length + uptoBulk d + 1
  | (_, d) => uptoBulk d + 1
 end
def uptoSmall : (H : Type) → List (DataW H) → Bool := fun _ ds => decide (uptoBulkAll ds ≤ 1048576)
def OpenSpec.upto (s : _root_.Go.ChangeSpec) : _root_.Go.OpenSpec := { _root_.Go.OpenSpec.ofChange s with cond := some uptoSmall }

/-- 'laws.FnIntervals', WHERE WHAT IT READS IS OF BULK AT MOST 1048576: true; the input reads as it did. -/
def fnIntervalsUptoRow : OpenClaim := { program := "ytijdbfbeobflnaa", sum := "51af938c348d126d0a8df0ec9016e784432f8c345c8ec2f044e69e42f341102b", func := "loop.example/g01110/laws.FnIntervals", spec := "fnIntervals", unfollowed := true, recurses := true, apart := false, narrowed := true }
def FnIntervalsUptoSaid : Prop := fnIntervalsUptoRow.holds Try.pinned (OpenSpec.upto fnIntervalsSpec)

/-- 'laws.FnExactApartIntervals', WHERE WHAT IT READS IS OF BULK AT MOST 1048576: true; the input reads as it did. -/
def fnExactApartIntervalsUptoRow : OpenClaim := { program := "ytijdbfbeobflnaa", sum := "51af938c348d126d0a8df0ec9016e784432f8c345c8ec2f044e69e42f341102b", func := "loop.example/g01110/laws.FnExactApartIntervals", spec := "fnExactApartIntervals", unfollowed := true, recurses := true, apart := false, narrowed := true }
def FnExactApartIntervalsUptoSaid : Prop := fnExactApartIntervalsUptoRow.holds Try.pinned (OpenSpec.upto fnExactApartIntervalsSpec)

/-- 'laws.FnExactStabPoints', WHERE WHAT IT READS IS OF BULK AT MOST 1048576: true; the input reads as it did. -/
def fnExactStabPointsUptoRow : OpenClaim := { program := "ytijdbfbeobflnaa", sum := "51af938c348d126d0a8df0ec9016e784432f8c345c8ec2f044e69e42f341102b", func := "loop.example/g01110/laws.FnExactStabPoints", spec := "fnExactStabPoints", unfollowed := true, recurses := true, apart := false, narrowed := true }
def FnExactStabPointsUptoSaid : Prop := fnExactStabPointsUptoRow.holds Try.pinned (OpenSpec.upto fnExactStabPointsSpec)

/-- 'laws.FnExactLineSites', WHERE WHAT IT READS IS OF BULK AT MOST 1048576: true; the input reads as it did. -/
def fnExactLineSitesUptoRow : OpenClaim := { program := "ytijdbfbeobflnaa", sum := "51af938c348d126d0a8df0ec9016e784432f8c345c8ec2f044e69e42f341102b", func := "loop.example/g01110/laws.FnExactLineSites", spec := "fnExactLineSites", unfollowed := true, recurses := true, apart := false, narrowed := true }
def FnExactLineSitesUptoSaid : Prop := fnExactLineSitesUptoRow.holds Try.pinned (OpenSpec.upto fnExactLineSitesSpec)

/-- 'laws.FnExactThresholdClients', WHERE WHAT IT READS IS OF BULK AT MOST 1048576: true; the input reads as it did. -/
def fnExactThresholdClientsUptoRow : OpenClaim := { program := "ytijdbfbeobflnaa", sum := "51af938c348d126d0a8df0ec9016e784432f8c345c8ec2f044e69e42f341102b", func := "loop.example/g01110/laws.FnExactThresholdClients", spec := "fnExactThresholdClients", unfollowed := true, recurses := true, apart := false, narrowed := true }
def FnExactThresholdClientsUptoSaid : Prop := fnExactThresholdClientsUptoRow.holds Try.pinned (OpenSpec.upto fnExactThresholdClientsSpec)

/-- 'laws.FnExactReachSystem', WHERE WHAT IT READS IS OF BULK AT MOST 1048576: true; the input reads as it did. -/
def fnExactReachSystemUptoRow : OpenClaim := { program := "ytijdbfbeobflnaa", sum := "51af938c348d126d0a8df0ec9016e784432f8c345c8ec2f044e69e42f341102b", func := "loop.example/g01110/laws.FnExactReachSystem", spec := "fnExactReachSystem", unfollowed := true, recurses := true, apart := false, narrowed := true }
def FnExactReachSystemUptoSaid : Prop := fnExactReachSystemUptoRow.holds Try.pinned (OpenSpec.upto fnExactReachSystemSpec)

/-- 'laws.FnExactClientsWithin', WHERE WHAT IT READS IS OF BULK AT MOST 1048576: true; the input reads as it did. -/
def fnExactClientsWithinUptoRow : OpenClaim := { program := "ytijdbfbeobflnaa", sum := "51af938c348d126d0a8df0ec9016e784432f8c345c8ec2f044e69e42f341102b", func := "loop.example/g01110/laws.FnExactClientsWithin", spec := "fnExactClientsWithin", unfollowed := true, recurses := true, apart := false, narrowed := true }
def FnExactClientsWithinUptoSaid : Prop := fnExactClientsWithinUptoRow.holds Try.pinned (OpenSpec.upto fnExactClientsWithinSpec)

/-- 'laws.FnExactRadiiOf', WHERE WHAT IT READS IS OF BULK AT MOST 1048576: true; the input reads as it did. -/
def fnExactRadiiOfUptoRow : OpenClaim := { program := "ytijdbfbeobflnaa", sum := "51af938c348d126d0a8df0ec9016e784432f8c345c8ec2f044e69e42f341102b", func := "loop.example/g01110/laws.FnExactRadiiOf", spec := "fnExactRadiiOf", unfollowed := true, recurses := true, apart := false, narrowed := true }
def FnExactRadiiOfUptoSaid : Prop := fnExactRadiiOfUptoRow.holds Try.pinned (OpenSpec.upto fnExactRadiiOfSpec)

/-- 'laws.FnExactTurnSystem', WHERE WHAT IT READS IS OF BULK AT MOST 1048576: true; the input reads as it did. -/
def fnExactTurnSystemUptoRow : OpenClaim := { program := "ytijdbfbeobflnaa", sum := "51af938c348d126d0a8df0ec9016e784432f8c345c8ec2f044e69e42f341102b", func := "loop.example/g01110/laws.FnExactTurnSystem", spec := "fnExactTurnSystem", unfollowed := true, recurses := true, apart := false, narrowed := true }
def FnExactTurnSystemUptoSaid : Prop := fnExactTurnSystemUptoRow.holds Try.pinned (OpenSpec.upto fnExactTurnSystemSpec)

/-- 'laws.FnExactRaisePrices', WHERE WHAT IT READS IS OF BULK AT MOST 1048576: true; the input reads as it did. -/
def fnExactRaisePricesUptoRow : OpenClaim := { program := "ytijdbfbeobflnaa", sum := "51af938c348d126d0a8df0ec9016e784432f8c345c8ec2f044e69e42f341102b", func := "loop.example/g01110/laws.FnExactRaisePrices", spec := "fnExactRaisePrices", unfollowed := true, recurses := true, apart := false, narrowed := true }
def FnExactRaisePricesUptoSaid : Prop := fnExactRaisePricesUptoRow.holds Try.pinned (OpenSpec.upto fnExactRaisePricesSpec)

/-- 'laws.FnExactFarthestClients', WHERE WHAT IT READS IS OF BULK AT MOST 1048576: true; the input reads as it did. -/
def fnExactFarthestClientsUptoRow : OpenClaim := { program := "ytijdbfbeobflnaa", sum := "51af938c348d126d0a8df0ec9016e784432f8c345c8ec2f044e69e42f341102b", func := "loop.example/g01110/laws.FnExactFarthestClients", spec := "fnExactFarthestClients", unfollowed := true, recurses := true, apart := false, narrowed := true }
def FnExactFarthestClientsUptoSaid : Prop := fnExactFarthestClientsUptoRow.holds Try.pinned (OpenSpec.upto fnExactFarthestClientsSpec)

/-- 'laws.FnExactFlowYield', WHERE WHAT IT READS IS OF BULK AT MOST 1048576: true; the input reads as it did. -/
def fnExactFlowYieldUptoRow : OpenClaim := { program := "ytijdbfbeobflnaa", sum := "51af938c348d126d0a8df0ec9016e784432f8c345c8ec2f044e69e42f341102b", func := "loop.example/g01110/laws.FnExactFlowYield", spec := "fnExactFlowYield", unfollowed := true, recurses := true, apart := false, narrowed := true }
def FnExactFlowYieldUptoSaid : Prop := fnExactFlowYieldUptoRow.holds Try.pinned (OpenSpec.upto fnExactFlowYieldSpec)

/-- 'laws.FnExactIsFlow', WHERE WHAT IT READS IS OF BULK AT MOST 1048576: true; the input reads as it did. -/
def fnExactIsFlowUptoRow : OpenClaim := { program := "ytijdbfbeobflnaa", sum := "51af938c348d126d0a8df0ec9016e784432f8c345c8ec2f044e69e42f341102b", func := "loop.example/g01110/laws.FnExactIsFlow", spec := "fnExactIsFlow", unfollowed := true, recurses := true, apart := false, narrowed := true }
def FnExactIsFlowUptoSaid : Prop := fnExactIsFlowUptoRow.holds Try.pinned (OpenSpec.upto fnExactIsFlowSpec)

/-- 'laws.FnExactGreedyCoverage', WHERE WHAT IT READS IS OF BULK AT MOST 1048576: true; the input reads as it did. -/
def fnExactGreedyCoverageUptoRow : OpenClaim := { program := "ytijdbfbeobflnaa", sum := "51af938c348d126d0a8df0ec9016e784432f8c345c8ec2f044e69e42f341102b", func := "loop.example/g01110/laws.FnExactGreedyCoverage", spec := "fnExactGreedyCoverage", unfollowed := true, recurses := true, apart := false, narrowed := true }
def FnExactGreedyCoverageUptoSaid : Prop := fnExactGreedyCoverageUptoRow.holds Try.pinned (OpenSpec.upto fnExactGreedyCoverageSpec)

/-- 'laws.FnExactLargestFar', WHERE WHAT IT READS IS OF BULK AT MOST 1048576: true; the input reads as it did. -/
def fnExactLargestFarUptoRow : OpenClaim := { program := "ytijdbfbeobflnaa", sum := "51af938c348d126d0a8df0ec9016e784432f8c345c8ec2f044e69e42f341102b", func := "loop.example/g01110/laws.FnExactLargestFar", spec := "fnExactLargestFar", unfollowed := true, recurses := true, apart := false, narrowed := true }
def FnExactLargestFarUptoSaid : Prop := fnExactLargestFarUptoRow.holds Try.pinned (OpenSpec.upto fnExactLargestFarSpec)

/-- 'laws.FnExactThresholdSites', WHERE WHAT IT READS IS OF BULK AT MOST 1048576: true; the input reads as it did. -/
def fnExactThresholdSitesUptoRow : OpenClaim := { program := "ytijdbfbeobflnaa", sum := "51af938c348d126d0a8df0ec9016e784432f8c345c8ec2f044e69e42f341102b", func := "loop.example/g01110/laws.FnExactThresholdSites", spec := "fnExactThresholdSites", unfollowed := true, recurses := true, apart := false, narrowed := true }
def FnExactThresholdSitesUptoSaid : Prop := fnExactThresholdSitesUptoRow.holds Try.pinned (OpenSpec.upto fnExactThresholdSitesSpec)

/-- 'laws.FnExactGreedyCover', WHERE WHAT IT READS IS OF BULK AT MOST 1048576: true; the input reads as it did. -/
def fnExactGreedyCoverUptoRow : OpenClaim := { program := "ytijdbfbeobflnaa", sum := "51af938c348d126d0a8df0ec9016e784432f8c345c8ec2f044e69e42f341102b", func := "loop.example/g01110/laws.FnExactGreedyCover", spec := "fnExactGreedyCover", unfollowed := true, recurses := true, apart := false, narrowed := true }
def FnExactGreedyCoverUptoSaid : Prop := fnExactGreedyCoverUptoRow.holds Try.pinned (OpenSpec.upto fnExactGreedyCoverSpec)

/-- 'laws.FnExactFarthestSites', WHERE WHAT IT READS IS OF BULK AT MOST 1048576: true; the input reads as it did. -/
def fnExactFarthestSitesUptoRow : OpenClaim := { program := "ytijdbfbeobflnaa", sum := "51af938c348d126d0a8df0ec9016e784432f8c345c8ec2f044e69e42f341102b", func := "loop.example/g01110/laws.FnExactFarthestSites", spec := "fnExactFarthestSites", unfollowed := true, recurses := true, apart := false, narrowed := true }
def FnExactFarthestSitesUptoSaid : Prop := fnExactFarthestSitesUptoRow.holds Try.pinned (OpenSpec.upto fnExactFarthestSitesSpec)

/-- 'laws.FnExactGreedyPrices', WHERE WHAT IT READS IS OF BULK AT MOST 1048576: true; the input reads as it did. -/
def fnExactGreedyPricesUptoRow : OpenClaim := { program := "ytijdbfbeobflnaa", sum := "51af938c348d126d0a8df0ec9016e784432f8c345c8ec2f044e69e42f341102b", func := "loop.example/g01110/laws.FnExactGreedyPrices", spec := "fnExactGreedyPrices", unfollowed := true, recurses := true, apart := false, narrowed := true }
def FnExactGreedyPricesUptoSaid : Prop := fnExactGreedyPricesUptoRow.holds Try.pinned (OpenSpec.upto fnExactGreedyPricesSpec)

/-- 'laws.FnExactLengthsOf', WHERE WHAT IT READS IS OF BULK AT MOST 1048576: true; the input reads as it did. -/
def fnExactLengthsOfUptoRow : OpenClaim := { program := "ytijdbfbeobflnaa", sum := "51af938c348d126d0a8df0ec9016e784432f8c345c8ec2f044e69e42f341102b", func := "loop.example/g01110/laws.FnExactLengthsOf", spec := "fnExactLengthsOf", unfollowed := true, recurses := true, apart := false, narrowed := true }
def FnExactLengthsOfUptoSaid : Prop := fnExactLengthsOfUptoRow.holds Try.pinned (OpenSpec.upto fnExactLengthsOfSpec)

end Rows
end Go.Proofs.Ytijdbfbeobflnaa
