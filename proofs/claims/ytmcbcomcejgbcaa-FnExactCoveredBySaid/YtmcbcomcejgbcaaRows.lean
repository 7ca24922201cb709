/-
  No cell of these rows narrows 'for every input' (looked for: loops, veiled, ifaces, maps, wideKeys, modest, calm, conditions, laid).
  DERIVED. THE GIVEN ROWS OF THIS SEAT. 20 by the template 'for every input the law returns true; each argument reads behind the call as it read before'; 0 by the template 'total and deterministic' (their statements: YtmcbcomcejgbcaaTotals.lean).
  GIVEN WITH THE SEED: the statements are not yours to turn. If you find one false, say at which input.
  Laid BY PROGRAM, IN A SANDBOX (cutbox-rows.mjs): the forced cells as the released guide's own fill.sh prints them over the translation 9c80a538e378b61e… (all of the seat's roots in one cut). By AI agents, Wed Nov 11 2026. No macro, syntax, notation, axiom, sorry.
-/
import Derived.Test.YtmcbcomcejgbcaaChecked
import GoSem.Claim
import GoSem.ClaimJoined
import GoSem.ClaimMapViews
import Derived.JoinedTies
import Derived.KernelRfl
namespace Go.Proofs.Ytmcbcomcejgbcaa
/- THE CELL 'sum', in the pinned program and in every row, IS THE sha256 OF THE DUMP (.gsa) THAT YtmcbcomcejgbcaaProg.lean LOADS. Nothing in Lean hashes anything: it is a label: what it is worth is what the hold of that sum in a sandbox is worth. -/
noncomputable def Try.pinned : Pinned := { name := "ytmcbcomcejgbcaa", sum := "9c80a538e378b61ede0d3b695379cb5d3a10d90205c59b2acf82386ed57e492b", checked := Try.checked }
namespace Rows
def none {H : Type} : Left H := { results := [], args := [] }

/-- 'laws.FnExactHarmonicOf': WHATEVER THE INPUT: true; the input reads as it did. -/
def fnExactHarmonicOfSpec : ChangeSpec := { name := "fnExactHarmonicOf", fn := fun _ => fun
  | [d] => { results := [.lit (.bool true)], args := [d] }
  | _ => none }
def fnExactHarmonicOfRow : OpenClaim := { program := "ytmcbcomcejgbcaa", sum := "9c80a538e378b61ede0d3b695379cb5d3a10d90205c59b2acf82386ed57e492b", func := "loop.example/g01110/laws.FnExactHarmonicOf", spec := "fnExactHarmonicOf", apart := false }
def FnExactHarmonicOfSaid : Prop := fnExactHarmonicOfRow.holds Try.pinned (OpenSpec.ofChange fnExactHarmonicOfSpec)

/-- ITS FALSE NEIGHBOUR: 'it returns false'. Refute it at one input. -/
def fnExactHarmonicOfWrong : ChangeSpec := { name := "fnExactHarmonicOf", fn := fun _ => fun
  | [d] => { results := [.lit (.bool false)], args := [d] }
  | _ => none }
def FnExactHarmonicOfWrongFalsely : Prop := fnExactHarmonicOfRow.holds Try.pinned (OpenSpec.ofChange fnExactHarmonicOfWrong)

/-- 'laws.FnExactIsSystem': WHATEVER THE INPUT: true; the input reads as it did. -/
def fnExactIsSystemSpec : ChangeSpec := { name := "fnExactIsSystem", fn := fun _ => fun
  | [d] => { results := [.lit (.bool true)], args := [d] }
  | _ => none }
def fnExactIsSystemRow : OpenClaim := { program := "ytmcbcomcejgbcaa", sum := "9c80a538e378b61ede0d3b695379cb5d3a10d90205c59b2acf82386ed57e492b", func := "loop.example/g01110/laws.FnExactIsSystem", spec := "fnExactIsSystem", unfollowed := true, recurses := true, apart := false }
def FnExactIsSystemSaid : Prop := fnExactIsSystemRow.holds Try.pinned (OpenSpec.ofChange fnExactIsSystemSpec)

/-- ITS FALSE NEIGHBOUR: 'it returns false'. Refute it at one input. -/
def fnExactIsSystemWrong : ChangeSpec := { name := "fnExactIsSystem", fn := fun _ => fun
  | [d] => { results := [.lit (.bool false)], args := [d] }
  | _ => none }
def FnExactIsSystemWrongFalsely : Prop := fnExactIsSystemRow.holds Try.pinned (OpenSpec.ofChange fnExactIsSystemWrong)

/-- 'laws.FnIntervals': WHATEVER THE INPUT: true; the input reads as it did. -/
def fnIntervalsSpec : ChangeSpec := { name := "fnIntervals", fn := fun _ => fun
  | [d] => { results := [.lit (.bool true)], args := [d] }
  | _ => none }
def fnIntervalsRow : OpenClaim := { program := "ytmcbcomcejgbcaa", sum := "9c80a538e378b61ede0d3b695379cb5d3a10d90205c59b2acf82386ed57e492b", func := "loop.example/g01110/laws.FnIntervals", spec := "fnIntervals", unfollowed := true, recurses := true, apart := false }
def FnIntervalsSaid : Prop := fnIntervalsRow.holds Try.pinned (OpenSpec.ofChange fnIntervalsSpec)

/-- ITS FALSE NEIGHBOUR: 'it returns false'. Refute it at one input. -/
def fnIntervalsWrong : ChangeSpec := { name := "fnIntervals", fn := fun _ => fun
  | [d] => { results := [.lit (.bool false)], args := [d] }
  | _ => none }
def FnIntervalsWrongFalsely : Prop := fnIntervalsRow.holds Try.pinned (OpenSpec.ofChange fnIntervalsWrong)

/-- 'laws.FnExactAreNeeds': WHATEVER THE INPUT: true; the input reads as it did. -/
def fnExactAreNeedsSpec : ChangeSpec := { name := "fnExactAreNeeds", fn := fun _ => fun
  | [d1, d2, d3] => { results := [.lit (.bool true)], args := [d1, d2, d3] }
  | _ => none }
def fnExactAreNeedsRow : OpenClaim := { program := "ytmcbcomcejgbcaa", sum := "9c80a538e378b61ede0d3b695379cb5d3a10d90205c59b2acf82386ed57e492b", func := "loop.example/g01110/laws.FnExactAreNeeds", spec := "fnExactAreNeeds", unfollowed := true, recurses := true, apart := false }
def FnExactAreNeedsSaid : Prop := fnExactAreNeedsRow.holds Try.pinned (OpenSpec.ofChange fnExactAreNeedsSpec)

/-- ITS FALSE NEIGHBOUR: 'it returns false'. Refute it at one input. -/
def fnExactAreNeedsWrong : ChangeSpec := { name := "fnExactAreNeeds", fn := fun _ => fun
  | [d1, d2, d3] => { results := [.lit (.bool false)], args := [d1, d2, d3] }
  | _ => none }
def FnExactAreNeedsWrongFalsely : Prop := fnExactAreNeedsRow.holds Try.pinned (OpenSpec.ofChange fnExactAreNeedsWrong)

/-- 'laws.FnExactApartIntervals': WHATEVER THE INPUT: true; the input reads as it did. -/
def fnExactApartIntervalsSpec : ChangeSpec := { name := "fnExactApartIntervals", fn := fun _ => fun
  | [d] => { results := [.lit (.bool true)], args := [d] }
  | _ => none }
def fnExactApartIntervalsRow : OpenClaim := { program := "ytmcbcomcejgbcaa", sum := "9c80a538e378b61ede0d3b695379cb5d3a10d90205c59b2acf82386ed57e492b", func := "loop.example/g01110/laws.FnExactApartIntervals", spec := "fnExactApartIntervals", unfollowed := true, recurses := true, apart := false }
def FnExactApartIntervalsSaid : Prop := fnExactApartIntervalsRow.holds Try.pinned (OpenSpec.ofChange fnExactApartIntervalsSpec)

/-- ITS FALSE NEIGHBOUR: 'it returns false'. Refute it at one input. -/
def fnExactApartIntervalsWrong : ChangeSpec := { name := "fnExactApartIntervals", fn := fun _ => fun
  | [d] => { results := [.lit (.bool false)], args := [d] }
  | _ => none }
def FnExactApartIntervalsWrongFalsely : Prop := fnExactApartIntervalsRow.holds Try.pinned (OpenSpec.ofChange fnExactApartIntervalsWrong)

/-- 'laws.FnExactStabPoints': WHATEVER THE INPUT: true; the input reads as it did. -/
def fnExactStabPointsSpec : ChangeSpec := { name := "fnExactStabPoints", fn := fun _ => fun
  | [d] => { results := [.lit (.bool true)], args := [d] }
  | _ => none }
def fnExactStabPointsRow : OpenClaim := { program := "ytmcbcomcejgbcaa", sum := "9c80a538e378b61ede0d3b695379cb5d3a10d90205c59b2acf82386ed57e492b", func := "loop.example/g01110/laws.FnExactStabPoints", spec := "fnExactStabPoints", unfollowed := true, recurses := true, apart := false }
def FnExactStabPointsSaid : Prop := fnExactStabPointsRow.holds Try.pinned (OpenSpec.ofChange fnExactStabPointsSpec)

/-- ITS FALSE NEIGHBOUR: 'it returns false'. Refute it at one input. -/
def fnExactStabPointsWrong : ChangeSpec := { name := "fnExactStabPoints", fn := fun _ => fun
  | [d] => { results := [.lit (.bool false)], args := [d] }
  | _ => none }
def FnExactStabPointsWrongFalsely : Prop := fnExactStabPointsRow.holds Try.pinned (OpenSpec.ofChange fnExactStabPointsWrong)

/-- 'laws.FnExactGapOf': WHATEVER THE INPUT: true; the input reads as it did. -/
def fnExactGapOfSpec : ChangeSpec := { name := "fnExactGapOf", fn := fun _ => fun
  | [d1, d2, d3] => { results := [.lit (.bool true)], args := [d1, d2, d3] }
  | _ => none }
def fnExactGapOfRow : OpenClaim := { program := "ytmcbcomcejgbcaa", sum := "9c80a538e378b61ede0d3b695379cb5d3a10d90205c59b2acf82386ed57e492b", func := "loop.example/g01110/laws.FnExactGapOf", spec := "fnExactGapOf", unfollowed := true, recurses := true, apart := false }
def FnExactGapOfSaid : Prop := fnExactGapOfRow.holds Try.pinned (OpenSpec.ofChange fnExactGapOfSpec)

/-- ITS FALSE NEIGHBOUR: 'it returns false'. Refute it at one input. -/
def fnExactGapOfWrong : ChangeSpec := { name := "fnExactGapOf", fn := fun _ => fun
  | [d1, d2, d3] => { results := [.lit (.bool false)], args := [d1, d2, d3] }
  | _ => none }
def FnExactGapOfWrongFalsely : Prop := fnExactGapOfRow.holds Try.pinned (OpenSpec.ofChange fnExactGapOfWrong)

/-- 'laws.FnExactCostOf': WHATEVER THE INPUT: true; the input reads as it did. -/
def fnExactCostOfSpec : ChangeSpec := { name := "fnExactCostOf", fn := fun _ => fun
  | [d1, d2] => { results := [.lit (.bool true)], args := [d1, d2] }
  | _ => none }
def fnExactCostOfRow : OpenClaim := { program := "ytmcbcomcejgbcaa", sum := "9c80a538e378b61ede0d3b695379cb5d3a10d90205c59b2acf82386ed57e492b", func := "loop.example/g01110/laws.FnExactCostOf", spec := "fnExactCostOf", unfollowed := true, recurses := true, apart := false }
def FnExactCostOfSaid : Prop := fnExactCostOfRow.holds Try.pinned (OpenSpec.ofChange fnExactCostOfSpec)

/-- ITS FALSE NEIGHBOUR: 'it returns false'. Refute it at one input. -/
def fnExactCostOfWrong : ChangeSpec := { name := "fnExactCostOf", fn := fun _ => fun
  | [d1, d2] => { results := [.lit (.bool false)], args := [d1, d2] }
  | _ => none }
def FnExactCostOfWrongFalsely : Prop := fnExactCostOfRow.holds Try.pinned (OpenSpec.ofChange fnExactCostOfWrong)

/-- 'laws.FnExactLineSites': WHATEVER THE INPUT: true; the input reads as it did. -/
def fnExactLineSitesSpec : ChangeSpec := { name := "fnExactLineSites", fn := fun _ => fun
  | [d1, d2, d3] => { results := [.lit (.bool true)], args := [d1, d2, d3] }
  | _ => none }
def fnExactLineSitesRow : OpenClaim := { program := "ytmcbcomcejgbcaa", sum := "9c80a538e378b61ede0d3b695379cb5d3a10d90205c59b2acf82386ed57e492b", func := "loop.example/g01110/laws.FnExactLineSites", spec := "fnExactLineSites", unfollowed := true, recurses := true, apart := false }
def FnExactLineSitesSaid : Prop := fnExactLineSitesRow.holds Try.pinned (OpenSpec.ofChange fnExactLineSitesSpec)

/-- ITS FALSE NEIGHBOUR: 'it returns false'. Refute it at one input. -/
def fnExactLineSitesWrong : ChangeSpec := { name := "fnExactLineSites", fn := fun _ => fun
  | [d1, d2, d3] => { results := [.lit (.bool false)], args := [d1, d2, d3] }
  | _ => none }
def FnExactLineSitesWrongFalsely : Prop := fnExactLineSitesRow.holds Try.pinned (OpenSpec.ofChange fnExactLineSitesWrong)

/-- 'laws.FnExactArePrices': WHATEVER THE INPUT: true; the input reads as it did. -/
def fnExactArePricesSpec : ChangeSpec := { name := "fnExactArePrices", fn := fun _ => fun
  | [d1, d2, d3] => { results := [.lit (.bool true)], args := [d1, d2, d3] }
  | _ => none }
def fnExactArePricesRow : OpenClaim := { program := "ytmcbcomcejgbcaa", sum := "9c80a538e378b61ede0d3b695379cb5d3a10d90205c59b2acf82386ed57e492b", func := "loop.example/g01110/laws.FnExactArePrices", spec := "fnExactArePrices", unfollowed := true, recurses := true, apart := false }
def FnExactArePricesSaid : Prop := fnExactArePricesRow.holds Try.pinned (OpenSpec.ofChange fnExactArePricesSpec)

/-- ITS FALSE NEIGHBOUR: 'it returns false'. Refute it at one input. -/
def fnExactArePricesWrong : ChangeSpec := { name := "fnExactArePrices", fn := fun _ => fun
  | [d1, d2, d3] => { results := [.lit (.bool false)], args := [d1, d2, d3] }
  | _ => none }
def FnExactArePricesWrongFalsely : Prop := fnExactArePricesRow.holds Try.pinned (OpenSpec.ofChange fnExactArePricesWrong)

/-- 'laws.FnExactAreFarClients': WHATEVER THE INPUT: true; the input reads as it did. -/
def fnExactAreFarClientsSpec : ChangeSpec := { name := "fnExactAreFarClients", fn := fun _ => fun
  | [d1, d2, d3] => { results := [.lit (.bool true)], args := [d1, d2, d3] }
  | _ => none }
def fnExactAreFarClientsRow : OpenClaim := { program := "ytmcbcomcejgbcaa", sum := "9c80a538e378b61ede0d3b695379cb5d3a10d90205c59b2acf82386ed57e492b", func := "loop.example/g01110/laws.FnExactAreFarClients", spec := "fnExactAreFarClients", unfollowed := true, recurses := true, apart := false }
def FnExactAreFarClientsSaid : Prop := fnExactAreFarClientsRow.holds Try.pinned (OpenSpec.ofChange fnExactAreFarClientsSpec)

/-- ITS FALSE NEIGHBOUR: 'it returns false'. Refute it at one input. -/
def fnExactAreFarClientsWrong : ChangeSpec := { name := "fnExactAreFarClients", fn := fun _ => fun
  | [d1, d2, d3] => { results := [.lit (.bool false)], args := [d1, d2, d3] }
  | _ => none }
def FnExactAreFarClientsWrongFalsely : Prop := fnExactAreFarClientsRow.holds Try.pinned (OpenSpec.ofChange fnExactAreFarClientsWrong)

/-- 'laws.FnExactIsCover': WHATEVER THE INPUT: true; the input reads as it did. -/
def fnExactIsCoverSpec : ChangeSpec := { name := "fnExactIsCover", fn := fun _ => fun
  | [d1, d2] => { results := [.lit (.bool true)], args := [d1, d2] }
  | _ => none }
def fnExactIsCoverRow : OpenClaim := { program := "ytmcbcomcejgbcaa", sum := "9c80a538e378b61ede0d3b695379cb5d3a10d90205c59b2acf82386ed57e492b", func := "loop.example/g01110/laws.FnExactIsCover", spec := "fnExactIsCover", unfollowed := true, recurses := true, apart := false }
def FnExactIsCoverSaid : Prop := fnExactIsCoverRow.holds Try.pinned (OpenSpec.ofChange fnExactIsCoverSpec)

/-- ITS FALSE NEIGHBOUR: 'it returns false'. Refute it at one input. -/
def fnExactIsCoverWrong : ChangeSpec := { name := "fnExactIsCover", fn := fun _ => fun
  | [d1, d2] => { results := [.lit (.bool false)], args := [d1, d2] }
  | _ => none }
def FnExactIsCoverWrongFalsely : Prop := fnExactIsCoverRow.holds Try.pinned (OpenSpec.ofChange fnExactIsCoverWrong)

/-- 'laws.FnExactThresholdClients': WHATEVER THE INPUT: true; the input reads as it did. -/
def fnExactThresholdClientsSpec : ChangeSpec := { name := "fnExactThresholdClients", fn := fun _ => fun
  | [d1, d2] => { results := [.lit (.bool true)], args := [d1, d2] }
  | _ => none }
def fnExactThresholdClientsRow : OpenClaim := { program := "ytmcbcomcejgbcaa", sum := "9c80a538e378b61ede0d3b695379cb5d3a10d90205c59b2acf82386ed57e492b", func := "loop.example/g01110/laws.FnExactThresholdClients", spec := "fnExactThresholdClients", unfollowed := true, recurses := true, apart := false }
def FnExactThresholdClientsSaid : Prop := fnExactThresholdClientsRow.holds Try.pinned (OpenSpec.ofChange fnExactThresholdClientsSpec)

/-- ITS FALSE NEIGHBOUR: 'it returns false'. Refute it at one input. -/
def fnExactThresholdClientsWrong : ChangeSpec := { name := "fnExactThresholdClients", fn := fun _ => fun
  | [d1, d2] => { results := [.lit (.bool false)], args := [d1, d2] }
  | _ => none }
def FnExactThresholdClientsWrongFalsely : Prop := fnExactThresholdClientsRow.holds Try.pinned (OpenSpec.ofChange fnExactThresholdClientsWrong)

/-- 'laws.FnExactIsHitting': WHATEVER THE INPUT: true; the input reads as it did. -/
def fnExactIsHittingSpec : ChangeSpec := { name := "fnExactIsHitting", fn := fun _ => fun
  | [d1, d2] => { results := [.lit (.bool true)], args := [d1, d2] }
  | _ => none }
def fnExactIsHittingRow : OpenClaim := { program := "ytmcbcomcejgbcaa", sum := "9c80a538e378b61ede0d3b695379cb5d3a10d90205c59b2acf82386ed57e492b", func := "loop.example/g01110/laws.FnExactIsHitting", spec := "fnExactIsHitting", unfollowed := true, recurses := true, apart := false }
def FnExactIsHittingSaid : Prop := fnExactIsHittingRow.holds Try.pinned (OpenSpec.ofChange fnExactIsHittingSpec)

/-- ITS FALSE NEIGHBOUR: 'it returns false'. Refute it at one input. -/
def fnExactIsHittingWrong : ChangeSpec := { name := "fnExactIsHitting", fn := fun _ => fun
  | [d1, d2] => { results := [.lit (.bool false)], args := [d1, d2] }
  | _ => none }
def FnExactIsHittingWrongFalsely : Prop := fnExactIsHittingRow.holds Try.pinned (OpenSpec.ofChange fnExactIsHittingWrong)

/-- 'laws.FnExactReachSystem': WHATEVER THE INPUT: true; the input reads as it did. -/
def fnExactReachSystemSpec : ChangeSpec := { name := "fnExactReachSystem", fn := fun _ => fun
  | [d1, d2] => { results := [.lit (.bool true)], args := [d1, d2] }
  | _ => none }
def fnExactReachSystemRow : OpenClaim := { program := "ytmcbcomcejgbcaa", sum := "9c80a538e378b61ede0d3b695379cb5d3a10d90205c59b2acf82386ed57e492b", func := "loop.example/g01110/laws.FnExactReachSystem", spec := "fnExactReachSystem", unfollowed := true, recurses := true, apart := false }
def FnExactReachSystemSaid : Prop := fnExactReachSystemRow.holds Try.pinned (OpenSpec.ofChange fnExactReachSystemSpec)

/-- ITS FALSE NEIGHBOUR: 'it returns false'. Refute it at one input. -/
def fnExactReachSystemWrong : ChangeSpec := { name := "fnExactReachSystem", fn := fun _ => fun
  | [d1, d2] => { results := [.lit (.bool false)], args := [d1, d2] }
  | _ => none }
def FnExactReachSystemWrongFalsely : Prop := fnExactReachSystemRow.holds Try.pinned (OpenSpec.ofChange fnExactReachSystemWrong)

/-- 'laws.FnExactAreFlowPrices': WHATEVER THE INPUT: true; the input reads as it did. -/
def fnExactAreFlowPricesSpec : ChangeSpec := { name := "fnExactAreFlowPrices", fn := fun _ => fun
  | [d1, d2, d3, d4] => { results := [.lit (.bool true)], args := [d1, d2, d3, d4] }
  | _ => none }
def fnExactAreFlowPricesRow : OpenClaim := { program := "ytmcbcomcejgbcaa", sum := "9c80a538e378b61ede0d3b695379cb5d3a10d90205c59b2acf82386ed57e492b", func := "loop.example/g01110/laws.FnExactAreFlowPrices", spec := "fnExactAreFlowPrices", unfollowed := true, recurses := true, apart := false }
def FnExactAreFlowPricesSaid : Prop := fnExactAreFlowPricesRow.holds Try.pinned (OpenSpec.ofChange fnExactAreFlowPricesSpec)

/-- ITS FALSE NEIGHBOUR: 'it returns false'. Refute it at one input. -/
def fnExactAreFlowPricesWrong : ChangeSpec := { name := "fnExactAreFlowPrices", fn := fun _ => fun
  | [d1, d2, d3, d4] => { results := [.lit (.bool false)], args := [d1, d2, d3, d4] }
  | _ => none }
def FnExactAreFlowPricesWrongFalsely : Prop := fnExactAreFlowPricesRow.holds Try.pinned (OpenSpec.ofChange fnExactAreFlowPricesWrong)

/-- 'laws.FnExactCoveredBy': WHATEVER THE INPUT: true; the input reads as it did. -/
def fnExactCoveredBySpec : ChangeSpec := { name := "fnExactCoveredBy", fn := fun _ => fun
  | [d1, d2] => { results := [.lit (.bool true)], args := [d1, d2] }
  | _ => none }
def fnExactCoveredByRow : OpenClaim := { program := "ytmcbcomcejgbcaa", sum := "9c80a538e378b61ede0d3b695379cb5d3a10d90205c59b2acf82386ed57e492b", func := "loop.example/g01110/laws.FnExactCoveredBy", spec := "fnExactCoveredBy", unfollowed := true, recurses := true, apart := false }
def FnExactCoveredBySaid : Prop := fnExactCoveredByRow.holds Try.pinned (OpenSpec.ofChange fnExactCoveredBySpec)

/-- ITS FALSE NEIGHBOUR: 'it returns false'. Refute it at one input. -/
def fnExactCoveredByWrong : ChangeSpec := { name := "fnExactCoveredBy", fn := fun _ => fun
  | [d1, d2] => { results := [.lit (.bool false)], args := [d1, d2] }
  | _ => none }
def FnExactCoveredByWrongFalsely : Prop := fnExactCoveredByRow.holds Try.pinned (OpenSpec.ofChange fnExactCoveredByWrong)

/-- 'laws.FnExactClientsWithin': WHATEVER THE INPUT: true; the input reads as it did. -/
def fnExactClientsWithinSpec : ChangeSpec := { name := "fnExactClientsWithin", fn := fun _ => fun
  | [d1, d2, d3] => { results := [.lit (.bool true)], args := [d1, d2, d3] }
  | _ => none }
def fnExactClientsWithinRow : OpenClaim := { program := "ytmcbcomcejgbcaa", sum := "9c80a538e378b61ede0d3b695379cb5d3a10d90205c59b2acf82386ed57e492b", func := "loop.example/g01110/laws.FnExactClientsWithin", spec := "fnExactClientsWithin", unfollowed := true, recurses := true, apart := false }
def FnExactClientsWithinSaid : Prop := fnExactClientsWithinRow.holds Try.pinned (OpenSpec.ofChange fnExactClientsWithinSpec)

/-- ITS FALSE NEIGHBOUR: 'it returns false'. Refute it at one input. -/
def fnExactClientsWithinWrong : ChangeSpec := { name := "fnExactClientsWithin", fn := fun _ => fun
  | [d1, d2, d3] => { results := [.lit (.bool false)], args := [d1, d2, d3] }
  | _ => none }
def FnExactClientsWithinWrongFalsely : Prop := fnExactClientsWithinRow.holds Try.pinned (OpenSpec.ofChange fnExactClientsWithinWrong)

/-- 'laws.FnExactRadiiOf': WHATEVER THE INPUT: true; the input reads as it did. -/
def fnExactRadiiOfSpec : ChangeSpec := { name := "fnExactRadiiOf", fn := fun _ => fun
  | [d1, d2] => { results := [.lit (.bool true)], args := [d1, d2] }
  | _ => none }
def fnExactRadiiOfRow : OpenClaim := { program := "ytmcbcomcejgbcaa", sum := "9c80a538e378b61ede0d3b695379cb5d3a10d90205c59b2acf82386ed57e492b", func := "loop.example/g01110/laws.FnExactRadiiOf", spec := "fnExactRadiiOf", unfollowed := true, recurses := true, apart := false }
def FnExactRadiiOfSaid : Prop := fnExactRadiiOfRow.holds Try.pinned (OpenSpec.ofChange fnExactRadiiOfSpec)

/-- ITS FALSE NEIGHBOUR: 'it returns false'. Refute it at one input. -/
def fnExactRadiiOfWrong : ChangeSpec := { name := "fnExactRadiiOf", fn := fun _ => fun
  | [d1, d2] => { results := [.lit (.bool false)], args := [d1, d2] }
  | _ => none }
def FnExactRadiiOfWrongFalsely : Prop := fnExactRadiiOfRow.holds Try.pinned (OpenSpec.ofChange fnExactRadiiOfWrong)

/-- 'laws.FnExactTurnSystem': WHATEVER THE INPUT: true; the input reads as it did. -/
def fnExactTurnSystemSpec : ChangeSpec := { name := "fnExactTurnSystem", fn := fun _ => fun
  | [d] => { results := [.lit (.bool true)], args := [d] }
  | _ => none }
def fnExactTurnSystemRow : OpenClaim := { program := "ytmcbcomcejgbcaa", sum := "9c80a538e378b61ede0d3b695379cb5d3a10d90205c59b2acf82386ed57e492b", func := "loop.example/g01110/laws.FnExactTurnSystem", spec := "fnExactTurnSystem", unfollowed := true, recurses := true, apart := false }
def FnExactTurnSystemSaid : Prop := fnExactTurnSystemRow.holds Try.pinned (OpenSpec.ofChange fnExactTurnSystemSpec)

/-- ITS FALSE NEIGHBOUR: 'it returns false'. Refute it at one input. -/
def fnExactTurnSystemWrong : ChangeSpec := { name := "fnExactTurnSystem", fn := fun _ => fun
  | [d] => { results := [.lit (.bool false)], args := [d] }
  | _ => none }
def FnExactTurnSystemWrongFalsely : Prop := fnExactTurnSystemRow.holds Try.pinned (OpenSpec.ofChange fnExactTurnSystemWrong)

/- THE SECOND FORM. 'bulk': how many values and letters a reading holds, each counted each time it is reached (what is shared counts as often as it is met; a slice's spare places count too). A statement '..UptoSaid' is the law's where the arguments, and the package variables that the reading takes, are together of bulk at most 1048576: NARROWER than '..Said'. Prove '..Said' where nothing that the law and all that it calls make is longer than what came in: it says more and counts as full. Else prove '..UptoSaid'. A law counts once. -/
mutual
def uptoBulk {H : Type} : DataW H → Nat
  | .lit (.string bytes) => bytes.length + 1
  | .lit _ => 1
  | .nil => 1
  | .ptr d => uptoBulk d + 1
  | .slice elems spare => uptoBulkAll elems + uptoBulkAll spare + 1
  | .agg parts => uptoBulkAll parts + 1
  | .iface _ d => uptoBulk d + 1
  | .map entries => uptoBulkEntries entries + 1
  | .held _ => 1
def uptoBulkAll {H : Type} : List (DataW H) → Nat
  | [] => 0
  | d :: r => uptoBulk d + uptoBulkAll r
def uptoBulkEntries {H : Type} : List (Lit × DataW H) → Nat
  | [] => 0
  | x :: r => uptoBulkEntry x + uptoBulkEntries r
def uptoBulkEntry {H : Type} : Lit × DataW H → Nat
  | (.string bytes, d) => bytes.length + uptoBulk d + 1
  | (_, d) => uptoBulk d + 1
 end
def uptoSmall : (H : Type) → List (DataW H) → Bool := fun _ ds => decide (uptoBulkAll ds ≤ 1048576)
def OpenSpec.upto (s : _root_.Go.ChangeSpec) : _root_.Go.OpenSpec := { _root_.Go.OpenSpec.ofChange s with cond := some uptoSmall }

/-- 'laws.FnExactHarmonicOf', WHERE WHAT IT READS IS OF BULK AT MOST 1048576: true; the input reads as it did. -/
def fnExactHarmonicOfUptoRow : OpenClaim := { program := "ytmcbcomcejgbcaa", sum := "9c80a538e378b61ede0d3b695379cb5d3a10d90205c59b2acf82386ed57e492b", func := "loop.example/g01110/laws.FnExactHarmonicOf", spec := "fnExactHarmonicOf", apart := false, narrowed := true }
def FnExactHarmonicOfUptoSaid : Prop := fnExactHarmonicOfUptoRow.holds Try.pinned (OpenSpec.upto fnExactHarmonicOfSpec)

/-- 'laws.FnExactIsSystem', WHERE WHAT IT READS IS OF BULK AT MOST 1048576: true; the input reads as it did. -/
def fnExactIsSystemUptoRow : OpenClaim := { program := "ytmcbcomcejgbcaa", sum := "9c80a538e378b61ede0d3b695379cb5d3a10d90205c59b2acf82386ed57e492b", func := "loop.example/g01110/laws.FnExactIsSystem", spec := "fnExactIsSystem", unfollowed := true, recurses := true, apart := false, narrowed := true }
def FnExactIsSystemUptoSaid : Prop := fnExactIsSystemUptoRow.holds Try.pinned (OpenSpec.upto fnExactIsSystemSpec)

/-- 'laws.FnIntervals', WHERE WHAT IT READS IS OF BULK AT MOST 1048576: true; the input reads as it did. -/
def fnIntervalsUptoRow : OpenClaim := { program := "ytmcbcomcejgbcaa", sum := "9c80a538e378b61ede0d3b695379cb5d3a10d90205c59b2acf82386ed57e492b", func := "loop.example/g01110/laws.FnIntervals", spec := "fnIntervals", unfollowed := true, recurses := true, apart := false, narrowed := true }
def FnIntervalsUptoSaid : Prop := fnIntervalsUptoRow.holds Try.pinned (OpenSpec.upto fnIntervalsSpec)

/-- 'laws.FnExactAreNeeds', WHERE WHAT IT READS IS OF BULK AT MOST 1048576: true; the input reads as it did. -/
def fnExactAreNeedsUptoRow : OpenClaim := { program := "ytmcbcomcejgbcaa", sum := "9c80a538e378b61ede0d3b695379cb5d3a10d90205c59b2acf82386ed57e492b", func := "loop.example/g01110/laws.FnExactAreNeeds", spec := "fnExactAreNeeds", unfollowed := true, recurses := true, apart := false, narrowed := true }
def FnExactAreNeedsUptoSaid : Prop := fnExactAreNeedsUptoRow.holds Try.pinned (OpenSpec.upto fnExactAreNeedsSpec)

/-- 'laws.FnExactApartIntervals', WHERE WHAT IT READS IS OF BULK AT MOST 1048576: true; the input reads as it did. -/
def fnExactApartIntervalsUptoRow : OpenClaim := { program := "ytmcbcomcejgbcaa", sum := "9c80a538e378b61ede0d3b695379cb5d3a10d90205c59b2acf82386ed57e492b", func := "loop.example/g01110/laws.FnExactApartIntervals", spec := "fnExactApartIntervals", unfollowed := true, recurses := true, apart := false, narrowed := true }
def FnExactApartIntervalsUptoSaid : Prop := fnExactApartIntervalsUptoRow.holds Try.pinned (OpenSpec.upto fnExactApartIntervalsSpec)

/-- 'laws.FnExactStabPoints', WHERE WHAT IT READS IS OF BULK AT MOST 1048576: true; the input reads as it did. -/
def fnExactStabPointsUptoRow : OpenClaim := { program := "ytmcbcomcejgbcaa", sum := "9c80a538e378b61ede0d3b695379cb5d3a10d90205c59b2acf82386ed57e492b", func := "loop.example/g01110/laws.FnExactStabPoints", spec := "fnExactStabPoints", unfollowed := true, recurses := true, apart := false, narrowed := true }
def FnExactStabPointsUptoSaid : Prop := fnExactStabPointsUptoRow.holds Try.pinned (OpenSpec.upto fnExactStabPointsSpec)

/-- 'laws.FnExactGapOf', WHERE WHAT IT READS IS OF BULK AT MOST 1048576: true; the input reads as it did. -/
def fnExactGapOfUptoRow : OpenClaim := { program := "ytmcbcomcejgbcaa", sum := "9c80a538e378b61ede0d3b695379cb5d3a10d90205c59b2acf82386ed57e492b", func := "loop.example/g01110/laws.FnExactGapOf", spec := "fnExactGapOf", unfollowed := true, recurses := true, apart := false, narrowed := true }
def FnExactGapOfUptoSaid : Prop := fnExactGapOfUptoRow.holds Try.pinned (OpenSpec.upto fnExactGapOfSpec)

/-- 'laws.FnExactCostOf', WHERE WHAT IT READS IS OF BULK AT MOST 1048576: true; the input reads as it did. -/
def fnExactCostOfUptoRow : OpenClaim := { program := "ytmcbcomcejgbcaa", sum := "9c80a538e378b61ede0d3b695379cb5d3a10d90205c59b2acf82386ed57e492b", func := "loop.example/g01110/laws.FnExactCostOf", spec := "fnExactCostOf", unfollowed := true, recurses := true, apart := false, narrowed := true }
def FnExactCostOfUptoSaid : Prop := fnExactCostOfUptoRow.holds Try.pinned (OpenSpec.upto fnExactCostOfSpec)

/-- 'laws.FnExactLineSites', WHERE WHAT IT READS IS OF BULK AT MOST 1048576: true; the input reads as it did. -/
def fnExactLineSitesUptoRow : OpenClaim := { program := "ytmcbcomcejgbcaa", sum := "9c80a538e378b61ede0d3b695379cb5d3a10d90205c59b2acf82386ed57e492b", func := "loop.example/g01110/laws.FnExactLineSites", spec := "fnExactLineSites", unfollowed := true, recurses := true, apart := false, narrowed := true }
def FnExactLineSitesUptoSaid : Prop := fnExactLineSitesUptoRow.holds Try.pinned (OpenSpec.upto fnExactLineSitesSpec)

/-- 'laws.FnExactArePrices', WHERE WHAT IT READS IS OF BULK AT MOST 1048576: true; the input reads as it did. -/
def fnExactArePricesUptoRow : OpenClaim := { program := "ytmcbcomcejgbcaa", sum := "9c80a538e378b61ede0d3b695379cb5d3a10d90205c59b2acf82386ed57e492b", func := "loop.example/g01110/laws.FnExactArePrices", spec := "fnExactArePrices", unfollowed := true, recurses := true, apart := false, narrowed := true }
def FnExactArePricesUptoSaid : Prop := fnExactArePricesUptoRow.holds Try.pinned (OpenSpec.upto fnExactArePricesSpec)

/-- 'laws.FnExactAreFarClients', WHERE WHAT IT READS IS OF BULK AT MOST 1048576: true; the input reads as it did. -/
def fnExactAreFarClientsUptoRow : OpenClaim := { program := "ytmcbcomcejgbcaa", sum := "9c80a538e378b61ede0d3b695379cb5d3a10d90205c59b2acf82386ed57e492b", func := "loop.example/g01110/laws.FnExactAreFarClients", spec := "fnExactAreFarClients", unfollowed := true, recurses := true, apart := false, narrowed := true }
def FnExactAreFarClientsUptoSaid : Prop := fnExactAreFarClientsUptoRow.holds Try.pinned (OpenSpec.upto fnExactAreFarClientsSpec)

/-- 'laws.FnExactIsCover', WHERE WHAT IT READS IS OF BULK AT MOST 1048576: true; the input reads as it did. -/
def fnExactIsCoverUptoRow : OpenClaim := { program := "ytmcbcomcejgbcaa", sum := "9c80a538e378b61ede0d3b695379cb5d3a10d90205c59b2acf82386ed57e492b", func := "loop.example/g01110/laws.FnExactIsCover", spec := "fnExactIsCover", unfollowed := true, recurses := true, apart := false, narrowed := true }
def FnExactIsCoverUptoSaid : Prop := fnExactIsCoverUptoRow.holds Try.pinned (OpenSpec.upto fnExactIsCoverSpec)

/-- 'laws.FnExactThresholdClients', WHERE WHAT IT READS IS OF BULK AT MOST 1048576: true; the input reads as it did. -/
def fnExactThresholdClientsUptoRow : OpenClaim := { program := "ytmcbcomcejgbcaa", sum := "9c80a538e378b61ede0d3b695379cb5d3a10d90205c59b2acf82386ed57e492b", func := "loop.example/g01110/laws.FnExactThresholdClients", spec := "fnExactThresholdClients", unfollowed := true, recurses := true, apart := false, narrowed := true }
def FnExactThresholdClientsUptoSaid : Prop := fnExactThresholdClientsUptoRow.holds Try.pinned (OpenSpec.upto fnExactThresholdClientsSpec)

/-- 'laws.FnExactIsHitting', WHERE WHAT IT READS IS OF BULK AT MOST 1048576: true; the input reads as it did. -/
def fnExactIsHittingUptoRow : OpenClaim := { program := "ytmcbcomcejgbcaa", sum := "9c80a538e378b61ede0d3b695379cb5d3a10d90205c59b2acf82386ed57e492b", func := "loop.example/g01110/laws.FnExactIsHitting", spec := "fnExactIsHitting", unfollowed := true, recurses := true, apart := false, narrowed := true }
def FnExactIsHittingUptoSaid : Prop := fnExactIsHittingUptoRow.holds Try.pinned (OpenSpec.upto fnExactIsHittingSpec)

/-- 'laws.FnExactReachSystem', WHERE WHAT IT READS IS OF BULK AT MOST 1048576: true; the input reads as it did. -/
def fnExactReachSystemUptoRow : OpenClaim := { program := "ytmcbcomcejgbcaa", sum := "9c80a538e378b61ede0d3b695379cb5d3a10d90205c59b2acf82386ed57e492b", func := "loop.example/g01110/laws.FnExactReachSystem", spec := "fnExactReachSystem", unfollowed := true, recurses := true, apart := false, narrowed := true }
def FnExactReachSystemUptoSaid : Prop := fnExactReachSystemUptoRow.holds Try.pinned (OpenSpec.upto fnExactReachSystemSpec)

/-- 'laws.FnExactAreFlowPrices', WHERE WHAT IT READS IS OF BULK AT MOST 1048576: true; the input reads as it did. -/
def fnExactAreFlowPricesUptoRow : OpenClaim := { program := "ytmcbcomcejgbcaa", sum := "9c80a538e378b61ede0d3b695379cb5d3a10d90205c59b2acf82386ed57e492b", func := "loop.example/g01110/laws.FnExactAreFlowPrices", spec := "fnExactAreFlowPrices", unfollowed := true, recurses := true, apart := false, narrowed := true }
def FnExactAreFlowPricesUptoSaid : Prop := fnExactAreFlowPricesUptoRow.holds Try.pinned (OpenSpec.upto fnExactAreFlowPricesSpec)

/-- 'laws.FnExactCoveredBy', WHERE WHAT IT READS IS OF BULK AT MOST 1048576: true; the input reads as it did. -/
def fnExactCoveredByUptoRow : OpenClaim := { program := "ytmcbcomcejgbcaa", sum := "9c80a538e378b61ede0d3b695379cb5d3a10d90205c59b2acf82386ed57e492b", func := "loop.example/g01110/laws.FnExactCoveredBy", spec := "fnExactCoveredBy", unfollowed := true, recurses := true, apart := false, narrowed := true }
def FnExactCoveredByUptoSaid : Prop := fnExactCoveredByUptoRow.holds Try.pinned (OpenSpec.upto fnExactCoveredBySpec)

/-- 'laws.FnExactClientsWithin', WHERE WHAT IT READS IS OF BULK AT MOST 1048576: true; the input reads as it did. -/
def fnExactClientsWithinUptoRow : OpenClaim := { program := "ytmcbcomcejgbcaa", sum := "9c80a538e378b61ede0d3b695379cb5d3a10d90205c59b2acf82386ed57e492b", func := "loop.example/g01110/laws.FnExactClientsWithin", spec := "fnExactClientsWithin", unfollowed := true, recurses := true, apart := false, narrowed := true }
def FnExactClientsWithinUptoSaid : Prop := fnExactClientsWithinUptoRow.holds Try.pinned (OpenSpec.upto fnExactClientsWithinSpec)

/-- 'laws.FnExactRadiiOf', WHERE WHAT IT READS IS OF BULK AT MOST 1048576: true; the input reads as it did. -/
def fnExactRadiiOfUptoRow : OpenClaim := { program := "ytmcbcomcejgbcaa", sum := "9c80a538e378b61ede0d3b695379cb5d3a10d90205c59b2acf82386ed57e492b", func := "loop.example/g01110/laws.FnExactRadiiOf", spec := "fnExactRadiiOf", unfollowed := true, recurses := true, apart := false, narrowed := true }
def FnExactRadiiOfUptoSaid : Prop := fnExactRadiiOfUptoRow.holds Try.pinned (OpenSpec.upto fnExactRadiiOfSpec)

/-- 'laws.FnExactTurnSystem', WHERE WHAT IT READS IS OF BULK AT MOST 1048576: true; the input reads as it did. -/
def fnExactTurnSystemUptoRow : OpenClaim := { program := "ytmcbcomcejgbcaa", sum := "9c80a538e378b61ede0d3b695379cb5d3a10d90205c59b2acf82386ed57e492b", func := "loop.example/g01110/laws.FnExactTurnSystem", spec := "fnExactTurnSystem", unfollowed := true, recurses := true, apart := false, narrowed := true }
def FnExactTurnSystemUptoSaid : Prop := fnExactTurnSystemUptoRow.holds Try.pinned (OpenSpec.upto fnExactTurnSystemSpec)

end Rows
end Go.Proofs.Ytmcbcomcejgbcaa
