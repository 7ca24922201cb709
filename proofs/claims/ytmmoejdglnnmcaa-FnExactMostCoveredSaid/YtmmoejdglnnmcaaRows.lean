/-
  No cell of these rows narrows 'for every input' (looked for: loops, veiled, ifaces, maps, wideKeys, modest, calm, conditions, laid).
  DERIVED. THE GIVEN ROWS OF THIS SEAT. 18 by the template 'for every input the law returns true; each argument reads behind the call as it read before'; 0 by the template 'total and deterministic' (their statements: YtmmoejdglnnmcaaTotals.lean).
  GIVEN WITH THE SEED: the statements are not yours to turn. If you find one false, say at which input.
  Laid BY PROGRAM, IN A SANDBOX (cutbox-rows.mjs): the forced cells as the released guide's own fill.sh prints them over the translation 35b94523c2e29af5… (all of the seat's roots in one cut). By AI agents, Wed Nov 11 2026. No macro, syntax, notation, axiom, sorry.
-/
import Derived.Test.YtmmoejdglnnmcaaChecked
import GoSem.Claim
import GoSem.ClaimJoined
import GoSem.ClaimMapViews
import Derived.JoinedTies
import Derived.KernelRfl
namespace Go.Proofs.Ytmmoejdglnnmcaa
/- THE CELL 'sum', in the pinned program and in every row, IS THE sha256 OF THE DUMP (.gsa) THAT YtmmoejdglnnmcaaProg.lean LOADS. Nothing in Lean hashes anything: it is a label: what it is worth is what the hold of that sum in a sandbox is worth. -/
noncomputable def Try.pinned : Pinned := { name := "ytmmoejdglnnmcaa", sum := "35b94523c2e29af51e5f04f45a9b0925b556085684e9377f91b12b5ec89fd0d4", checked := Try.checked }
namespace Rows
def none {H : Type} : Left H := { results := [], args := [] }

/-- 'laws.FnExactLineSites': WHATEVER THE INPUT: true; the input reads as it did. -/
def fnExactLineSitesSpec : ChangeSpec := { name := "fnExactLineSites", fn := fun _ => fun
  | [d1, d2, d3] => { results := [.lit (.bool true)], args := [d1, d2, d3] }
  | _ => none }
def fnExactLineSitesRow : OpenClaim := { program := "ytmmoejdglnnmcaa", sum := "35b94523c2e29af51e5f04f45a9b0925b556085684e9377f91b12b5ec89fd0d4", func := "loop.example/g01110/laws.FnExactLineSites", spec := "fnExactLineSites", unfollowed := true, recurses := true, apart := false }
def FnExactLineSitesSaid : Prop := fnExactLineSitesRow.holds Try.pinned (OpenSpec.ofChange fnExactLineSitesSpec)

/-- ITS FALSE NEIGHBOUR: 'it returns false'. Refute it at one input. -/
def fnExactLineSitesWrong : ChangeSpec := { name := "fnExactLineSites", fn := fun _ => fun
  | [d1, d2, d3] => { results := [.lit (.bool false)], args := [d1, d2, d3] }
  | _ => none }
def FnExactLineSitesWrongFalsely : Prop := fnExactLineSitesRow.holds Try.pinned (OpenSpec.ofChange fnExactLineSitesWrong)

/-- 'laws.FnExactReachSystem': WHATEVER THE INPUT: true; the input reads as it did. -/
def fnExactReachSystemSpec : ChangeSpec := { name := "fnExactReachSystem", fn := fun _ => fun
  | [d1, d2] => { results := [.lit (.bool true)], args := [d1, d2] }
  | _ => none }
def fnExactReachSystemRow : OpenClaim := { program := "ytmmoejdglnnmcaa", sum := "35b94523c2e29af51e5f04f45a9b0925b556085684e9377f91b12b5ec89fd0d4", func := "loop.example/g01110/laws.FnExactReachSystem", spec := "fnExactReachSystem", unfollowed := true, recurses := true, apart := false }
def FnExactReachSystemSaid : Prop := fnExactReachSystemRow.holds Try.pinned (OpenSpec.ofChange fnExactReachSystemSpec)

/-- ITS FALSE NEIGHBOUR: 'it returns false'. Refute it at one input. -/
def fnExactReachSystemWrong : ChangeSpec := { name := "fnExactReachSystem", fn := fun _ => fun
  | [d1, d2] => { results := [.lit (.bool false)], args := [d1, d2] }
  | _ => none }
def FnExactReachSystemWrongFalsely : Prop := fnExactReachSystemRow.holds Try.pinned (OpenSpec.ofChange fnExactReachSystemWrong)

/-- 'laws.FnExactTurnSystem': WHATEVER THE INPUT: true; the input reads as it did. -/
def fnExactTurnSystemSpec : ChangeSpec := { name := "fnExactTurnSystem", fn := fun _ => fun
  | [d] => { results := [.lit (.bool true)], args := [d] }
  | _ => none }
def fnExactTurnSystemRow : OpenClaim := { program := "ytmmoejdglnnmcaa", sum := "35b94523c2e29af51e5f04f45a9b0925b556085684e9377f91b12b5ec89fd0d4", func := "loop.example/g01110/laws.FnExactTurnSystem", spec := "fnExactTurnSystem", unfollowed := true, recurses := true, apart := false }
def FnExactTurnSystemSaid : Prop := fnExactTurnSystemRow.holds Try.pinned (OpenSpec.ofChange fnExactTurnSystemSpec)

/-- ITS FALSE NEIGHBOUR: 'it returns false'. Refute it at one input. -/
def fnExactTurnSystemWrong : ChangeSpec := { name := "fnExactTurnSystem", fn := fun _ => fun
  | [d] => { results := [.lit (.bool false)], args := [d] }
  | _ => none }
def FnExactTurnSystemWrongFalsely : Prop := fnExactTurnSystemRow.holds Try.pinned (OpenSpec.ofChange fnExactTurnSystemWrong)

/-- 'laws.FnExactLengthsOf': WHATEVER THE INPUT: true; the input reads as it did. -/
def fnExactLengthsOfSpec : ChangeSpec := { name := "fnExactLengthsOf", fn := fun _ => fun
  | [d] => { results := [.lit (.bool true)], args := [d] }
  | _ => none }
def fnExactLengthsOfRow : OpenClaim := { program := "ytmmoejdglnnmcaa", sum := "35b94523c2e29af51e5f04f45a9b0925b556085684e9377f91b12b5ec89fd0d4", func := "loop.example/g01110/laws.FnExactLengthsOf", spec := "fnExactLengthsOf", unfollowed := true, recurses := true, apart := false }
def FnExactLengthsOfSaid : Prop := fnExactLengthsOfRow.holds Try.pinned (OpenSpec.ofChange fnExactLengthsOfSpec)

/-- ITS FALSE NEIGHBOUR: 'it returns false'. Refute it at one input. -/
def fnExactLengthsOfWrong : ChangeSpec := { name := "fnExactLengthsOf", fn := fun _ => fun
  | [d] => { results := [.lit (.bool false)], args := [d] }
  | _ => none }
def FnExactLengthsOfWrongFalsely : Prop := fnExactLengthsOfRow.holds Try.pinned (OpenSpec.ofChange fnExactLengthsOfWrong)

/-- 'laws.FnExactMedianValue': WHATEVER THE INPUT: true; the input reads as it did. -/
def fnExactMedianValueSpec : ChangeSpec := { name := "fnExactMedianValue", fn := fun _ => fun
  | [d1, d2] => { results := [.lit (.bool true)], args := [d1, d2] }
  | _ => none }
def fnExactMedianValueRow : OpenClaim := { program := "ytmmoejdglnnmcaa", sum := "35b94523c2e29af51e5f04f45a9b0925b556085684e9377f91b12b5ec89fd0d4", func := "loop.example/g01110/laws.FnExactMedianValue", spec := "fnExactMedianValue", unfollowed := true, recurses := true, apart := false }
def FnExactMedianValueSaid : Prop := fnExactMedianValueRow.holds Try.pinned (OpenSpec.ofChange fnExactMedianValueSpec)

/-- ITS FALSE NEIGHBOUR: 'it returns false'. Refute it at one input. -/
def fnExactMedianValueWrong : ChangeSpec := { name := "fnExactMedianValue", fn := fun _ => fun
  | [d1, d2] => { results := [.lit (.bool false)], args := [d1, d2] }
  | _ => none }
def FnExactMedianValueWrongFalsely : Prop := fnExactMedianValueRow.holds Try.pinned (OpenSpec.ofChange fnExactMedianValueWrong)

/-- 'laws.FnExactCoveringSites': WHATEVER THE INPUT: true; the input reads as it did. -/
def fnExactCoveringSitesSpec : ChangeSpec := { name := "fnExactCoveringSites", fn := fun _ => fun
  | [d1, d2] => { results := [.lit (.bool true)], args := [d1, d2] }
  | _ => none }
def fnExactCoveringSitesRow : OpenClaim := { program := "ytmmoejdglnnmcaa", sum := "35b94523c2e29af51e5f04f45a9b0925b556085684e9377f91b12b5ec89fd0d4", func := "loop.example/g01110/laws.FnExactCoveringSites", spec := "fnExactCoveringSites", unfollowed := true, recurses := true, apart := false }
def FnExactCoveringSitesSaid : Prop := fnExactCoveringSitesRow.holds Try.pinned (OpenSpec.ofChange fnExactCoveringSitesSpec)

/-- ITS FALSE NEIGHBOUR: 'it returns false'. Refute it at one input. -/
def fnExactCoveringSitesWrong : ChangeSpec := { name := "fnExactCoveringSites", fn := fun _ => fun
  | [d1, d2] => { results := [.lit (.bool false)], args := [d1, d2] }
  | _ => none }
def FnExactCoveringSitesWrongFalsely : Prop := fnExactCoveringSitesRow.holds Try.pinned (OpenSpec.ofChange fnExactCoveringSitesWrong)

/-- 'laws.FnExactPriceBound': WHATEVER THE INPUT: true; the input reads as it did. -/
def fnExactPriceBoundSpec : ChangeSpec := { name := "fnExactPriceBound", fn := fun _ => fun
  | [d1, d2, d3] => { results := [.lit (.bool true)], args := [d1, d2, d3] }
  | _ => none }
def fnExactPriceBoundRow : OpenClaim := { program := "ytmmoejdglnnmcaa", sum := "35b94523c2e29af51e5f04f45a9b0925b556085684e9377f91b12b5ec89fd0d4", func := "loop.example/g01110/laws.FnExactPriceBound", spec := "fnExactPriceBound", unfollowed := true, recurses := true, apart := false }
def FnExactPriceBoundSaid : Prop := fnExactPriceBoundRow.holds Try.pinned (OpenSpec.ofChange fnExactPriceBoundSpec)

/-- ITS FALSE NEIGHBOUR: 'it returns false'. Refute it at one input. -/
def fnExactPriceBoundWrong : ChangeSpec := { name := "fnExactPriceBound", fn := fun _ => fun
  | [d1, d2, d3] => { results := [.lit (.bool false)], args := [d1, d2, d3] }
  | _ => none }
def FnExactPriceBoundWrongFalsely : Prop := fnExactPriceBoundRow.holds Try.pinned (OpenSpec.ofChange fnExactPriceBoundWrong)

/-- 'laws.FnExactCentreReach': WHATEVER THE INPUT: true; the input reads as it did. -/
def fnExactCentreReachSpec : ChangeSpec := { name := "fnExactCentreReach", fn := fun _ => fun
  | [d1, d2] => { results := [.lit (.bool true)], args := [d1, d2] }
  | _ => none }
def fnExactCentreReachRow : OpenClaim := { program := "ytmmoejdglnnmcaa", sum := "35b94523c2e29af51e5f04f45a9b0925b556085684e9377f91b12b5ec89fd0d4", func := "loop.example/g01110/laws.FnExactCentreReach", spec := "fnExactCentreReach", unfollowed := true, recurses := true, apart := false }
def FnExactCentreReachSaid : Prop := fnExactCentreReachRow.holds Try.pinned (OpenSpec.ofChange fnExactCentreReachSpec)

/-- ITS FALSE NEIGHBOUR: 'it returns false'. Refute it at one input. -/
def fnExactCentreReachWrong : ChangeSpec := { name := "fnExactCentreReach", fn := fun _ => fun
  | [d1, d2] => { results := [.lit (.bool false)], args := [d1, d2] }
  | _ => none }
def FnExactCentreReachWrongFalsely : Prop := fnExactCentreReachRow.holds Try.pinned (OpenSpec.ofChange fnExactCentreReachWrong)

/-- 'laws.FnExactMedianOf': WHATEVER THE INPUT: true; the input reads as it did. -/
def fnExactMedianOfSpec : ChangeSpec := { name := "fnExactMedianOf", fn := fun _ => fun
  | [d1, d2] => { results := [.lit (.bool true)], args := [d1, d2] }
  | _ => none }
def fnExactMedianOfRow : OpenClaim := { program := "ytmmoejdglnnmcaa", sum := "35b94523c2e29af51e5f04f45a9b0925b556085684e9377f91b12b5ec89fd0d4", func := "loop.example/g01110/laws.FnExactMedianOf", spec := "fnExactMedianOf", unfollowed := true, recurses := true, apart := false }
def FnExactMedianOfSaid : Prop := fnExactMedianOfRow.holds Try.pinned (OpenSpec.ofChange fnExactMedianOfSpec)

/-- ITS FALSE NEIGHBOUR: 'it returns false'. Refute it at one input. -/
def fnExactMedianOfWrong : ChangeSpec := { name := "fnExactMedianOf", fn := fun _ => fun
  | [d1, d2] => { results := [.lit (.bool false)], args := [d1, d2] }
  | _ => none }
def FnExactMedianOfWrongFalsely : Prop := fnExactMedianOfRow.holds Try.pinned (OpenSpec.ofChange fnExactMedianOfWrong)

/-- 'laws.FnExactLargestPacking': WHATEVER THE INPUT: true; the input reads as it did. -/
def fnExactLargestPackingSpec : ChangeSpec := { name := "fnExactLargestPacking", fn := fun _ => fun
  | [d] => { results := [.lit (.bool true)], args := [d] }
  | _ => none }
def fnExactLargestPackingRow : OpenClaim := { program := "ytmmoejdglnnmcaa", sum := "35b94523c2e29af51e5f04f45a9b0925b556085684e9377f91b12b5ec89fd0d4", func := "loop.example/g01110/laws.FnExactLargestPacking", spec := "fnExactLargestPacking", unfollowed := true, recurses := true, apart := false }
def FnExactLargestPackingSaid : Prop := fnExactLargestPackingRow.holds Try.pinned (OpenSpec.ofChange fnExactLargestPackingSpec)

/-- ITS FALSE NEIGHBOUR: 'it returns false'. Refute it at one input. -/
def fnExactLargestPackingWrong : ChangeSpec := { name := "fnExactLargestPacking", fn := fun _ => fun
  | [d] => { results := [.lit (.bool false)], args := [d] }
  | _ => none }
def FnExactLargestPackingWrongFalsely : Prop := fnExactLargestPackingRow.holds Try.pinned (OpenSpec.ofChange fnExactLargestPackingWrong)

/-- 'laws.FnExactMedianSteps': WHATEVER THE INPUT: true; the input reads as it did. -/
def fnExactMedianStepsSpec : ChangeSpec := { name := "fnExactMedianSteps", fn := fun _ => fun
  | [d] => { results := [.lit (.bool true)], args := [d] }
  | _ => none }
def fnExactMedianStepsRow : OpenClaim := { program := "ytmmoejdglnnmcaa", sum := "35b94523c2e29af51e5f04f45a9b0925b556085684e9377f91b12b5ec89fd0d4", func := "loop.example/g01110/laws.FnExactMedianSteps", spec := "fnExactMedianSteps", unfollowed := true, recurses := true, apart := false }
def FnExactMedianStepsSaid : Prop := fnExactMedianStepsRow.holds Try.pinned (OpenSpec.ofChange fnExactMedianStepsSpec)

/-- ITS FALSE NEIGHBOUR: 'it returns false'. Refute it at one input. -/
def fnExactMedianStepsWrong : ChangeSpec := { name := "fnExactMedianSteps", fn := fun _ => fun
  | [d] => { results := [.lit (.bool false)], args := [d] }
  | _ => none }
def FnExactMedianStepsWrongFalsely : Prop := fnExactMedianStepsRow.holds Try.pinned (OpenSpec.ofChange fnExactMedianStepsWrong)

/-- 'laws.FnExactFarReach': WHATEVER THE INPUT: true; the input reads as it did. -/
def fnExactFarReachSpec : ChangeSpec := { name := "fnExactFarReach", fn := fun _ => fun
  | [d1, d2] => { results := [.lit (.bool true)], args := [d1, d2] }
  | _ => none }
def fnExactFarReachRow : OpenClaim := { program := "ytmmoejdglnnmcaa", sum := "35b94523c2e29af51e5f04f45a9b0925b556085684e9377f91b12b5ec89fd0d4", func := "loop.example/g01110/laws.FnExactFarReach", spec := "fnExactFarReach", unfollowed := true, recurses := true, apart := false }
def FnExactFarReachSaid : Prop := fnExactFarReachRow.holds Try.pinned (OpenSpec.ofChange fnExactFarReachSpec)

/-- ITS FALSE NEIGHBOUR: 'it returns false'. Refute it at one input. -/
def fnExactFarReachWrong : ChangeSpec := { name := "fnExactFarReach", fn := fun _ => fun
  | [d1, d2] => { results := [.lit (.bool false)], args := [d1, d2] }
  | _ => none }
def FnExactFarReachWrongFalsely : Prop := fnExactFarReachRow.holds Try.pinned (OpenSpec.ofChange fnExactFarReachWrong)

/-- 'laws.FnExactBestPartial': WHATEVER THE INPUT: true; the input reads as it did. -/
def fnExactBestPartialSpec : ChangeSpec := { name := "fnExactBestPartial", fn := fun _ => fun
  | [d1, d2, d3] => { results := [.lit (.bool true)], args := [d1, d2, d3] }
  | _ => none }
def fnExactBestPartialRow : OpenClaim := { program := "ytmmoejdglnnmcaa", sum := "35b94523c2e29af51e5f04f45a9b0925b556085684e9377f91b12b5ec89fd0d4", func := "loop.example/g01110/laws.FnExactBestPartial", spec := "fnExactBestPartial", unfollowed := true, recurses := true, apart := false }
def FnExactBestPartialSaid : Prop := fnExactBestPartialRow.holds Try.pinned (OpenSpec.ofChange fnExactBestPartialSpec)

/-- ITS FALSE NEIGHBOUR: 'it returns false'. Refute it at one input. -/
def fnExactBestPartialWrong : ChangeSpec := { name := "fnExactBestPartial", fn := fun _ => fun
  | [d1, d2, d3] => { results := [.lit (.bool false)], args := [d1, d2, d3] }
  | _ => none }
def FnExactBestPartialWrongFalsely : Prop := fnExactBestPartialRow.holds Try.pinned (OpenSpec.ofChange fnExactBestPartialWrong)

/-- 'laws.FnExactLeastCover': WHATEVER THE INPUT: true; the input reads as it did. -/
def fnExactLeastCoverSpec : ChangeSpec := { name := "fnExactLeastCover", fn := fun _ => fun
  | [d] => { results := [.lit (.bool true)], args := [d] }
  | _ => none }
def fnExactLeastCoverRow : OpenClaim := { program := "ytmmoejdglnnmcaa", sum := "35b94523c2e29af51e5f04f45a9b0925b556085684e9377f91b12b5ec89fd0d4", func := "loop.example/g01110/laws.FnExactLeastCover", spec := "fnExactLeastCover", unfollowed := true, recurses := true, apart := false }
def FnExactLeastCoverSaid : Prop := fnExactLeastCoverRow.holds Try.pinned (OpenSpec.ofChange fnExactLeastCoverSpec)

/-- ITS FALSE NEIGHBOUR: 'it returns false'. Refute it at one input. -/
def fnExactLeastCoverWrong : ChangeSpec := { name := "fnExactLeastCover", fn := fun _ => fun
  | [d] => { results := [.lit (.bool false)], args := [d] }
  | _ => none }
def FnExactLeastCoverWrongFalsely : Prop := fnExactLeastCoverRow.holds Try.pinned (OpenSpec.ofChange fnExactLeastCoverWrong)

/-- 'laws.FnExactBestPrice': WHATEVER THE INPUT: true; the input reads as it did. -/
def fnExactBestPriceSpec : ChangeSpec := { name := "fnExactBestPrice", fn := fun _ => fun
  | [d1, d2] => { results := [.lit (.bool true)], args := [d1, d2] }
  | _ => none }
def fnExactBestPriceRow : OpenClaim := { program := "ytmmoejdglnnmcaa", sum := "35b94523c2e29af51e5f04f45a9b0925b556085684e9377f91b12b5ec89fd0d4", func := "loop.example/g01110/laws.FnExactBestPrice", spec := "fnExactBestPrice", unfollowed := true, recurses := true, apart := false }
def FnExactBestPriceSaid : Prop := fnExactBestPriceRow.holds Try.pinned (OpenSpec.ofChange fnExactBestPriceSpec)

/-- ITS FALSE NEIGHBOUR: 'it returns false'. Refute it at one input. -/
def fnExactBestPriceWrong : ChangeSpec := { name := "fnExactBestPrice", fn := fun _ => fun
  | [d1, d2] => { results := [.lit (.bool false)], args := [d1, d2] }
  | _ => none }
def FnExactBestPriceWrongFalsely : Prop := fnExactBestPriceRow.holds Try.pinned (OpenSpec.ofChange fnExactBestPriceWrong)

/-- 'laws.FnExactBestCentres': WHATEVER THE INPUT: true; the input reads as it did. -/
def fnExactBestCentresSpec : ChangeSpec := { name := "fnExactBestCentres", fn := fun _ => fun
  | [d1, d2] => { results := [.lit (.bool true)], args := [d1, d2] }
  | _ => none }
def fnExactBestCentresRow : OpenClaim := { program := "ytmmoejdglnnmcaa", sum := "35b94523c2e29af51e5f04f45a9b0925b556085684e9377f91b12b5ec89fd0d4", func := "loop.example/g01110/laws.FnExactBestCentres", spec := "fnExactBestCentres", unfollowed := true, recurses := true, apart := false }
def FnExactBestCentresSaid : Prop := fnExactBestCentresRow.holds Try.pinned (OpenSpec.ofChange fnExactBestCentresSpec)

/-- ITS FALSE NEIGHBOUR: 'it returns false'. Refute it at one input. -/
def fnExactBestCentresWrong : ChangeSpec := { name := "fnExactBestCentres", fn := fun _ => fun
  | [d1, d2] => { results := [.lit (.bool false)], args := [d1, d2] }
  | _ => none }
def FnExactBestCentresWrongFalsely : Prop := fnExactBestCentresRow.holds Try.pinned (OpenSpec.ofChange fnExactBestCentresWrong)

/-- 'laws.FnExactMostCovered': WHATEVER THE INPUT: true; the input reads as it did. -/
def fnExactMostCoveredSpec : ChangeSpec := { name := "fnExactMostCovered", fn := fun _ => fun
  | [d1, d2] => { results := [.lit (.bool true)], args := [d1, d2] }
  | _ => none }
def fnExactMostCoveredRow : OpenClaim := { program := "ytmmoejdglnnmcaa", sum := "35b94523c2e29af51e5f04f45a9b0925b556085684e9377f91b12b5ec89fd0d4", func := "loop.example/g01110/laws.FnExactMostCovered", spec := "fnExactMostCovered", unfollowed := true, recurses := true, apart := false }
def FnExactMostCoveredSaid : Prop := fnExactMostCoveredRow.holds Try.pinned (OpenSpec.ofChange fnExactMostCoveredSpec)

/-- ITS FALSE NEIGHBOUR: 'it returns false'. Refute it at one input. -/
def fnExactMostCoveredWrong : ChangeSpec := { name := "fnExactMostCovered", fn := fun _ => fun
  | [d1, d2] => { results := [.lit (.bool false)], args := [d1, d2] }
  | _ => none }
def FnExactMostCoveredWrongFalsely : Prop := fnExactMostCoveredRow.holds Try.pinned (OpenSpec.ofChange fnExactMostCoveredWrong)

/-- 'laws.FnExactLeastHitting': WHATEVER THE INPUT: true; the input reads as it did. -/
def fnExactLeastHittingSpec : ChangeSpec := { name := "fnExactLeastHitting", fn := fun _ => fun
  | [d] => { results := [.lit (.bool true)], args := [d] }
  | _ => none }
def fnExactLeastHittingRow : OpenClaim := { program := "ytmmoejdglnnmcaa", sum := "35b94523c2e29af51e5f04f45a9b0925b556085684e9377f91b12b5ec89fd0d4", func := "loop.example/g01110/laws.FnExactLeastHitting", spec := "fnExactLeastHitting", unfollowed := true, recurses := true, apart := false }
def FnExactLeastHittingSaid : Prop := fnExactLeastHittingRow.holds Try.pinned (OpenSpec.ofChange fnExactLeastHittingSpec)

/-- ITS FALSE NEIGHBOUR: 'it returns false'. Refute it at one input. -/
def fnExactLeastHittingWrong : ChangeSpec := { name := "fnExactLeastHitting", fn := fun _ => fun
  | [d] => { results := [.lit (.bool false)], args := [d] }
  | _ => none }
def FnExactLeastHittingWrongFalsely : Prop := fnExactLeastHittingRow.holds Try.pinned (OpenSpec.ofChange fnExactLeastHittingWrong)

/- THE SECOND FORM. 'bulk': how many values and letters a reading holds, each counted each time it is reached (what is shared counts as often as it is met; a slice's spare places count too). A statement '..UptoSaid' is the law's where the arguments, and the package variables that the reading takes, are together of bulk at most 1048576: NARROWER than '..Said'. Prove '..Said' where nothing that the law and all that it calls make is longer than what came in: it says more and counts as full. Else prove '..UptoSaid'. A law counts once. -/
mutual
def uptoBulk {H : Type} : DataW H → Nat
  | .lit (.string bytes) => bytes.length + 1
  | .lit _ => 1
  | .nil => 1
  | .ptr d => uptoBulk d + 1
  | .slice elems spare => uptoBulkAll elems + uptoBulkAll spare + 1
  | .agg parts => uptoBulkAll parts + 1
  | .iface _ d => uptoBulk d + 1
  | .map entries => uptoBulkEntries entries + 1
  | .held _ => 1
def uptoBulkAll {H : Type} : List (DataW H) → Nat
  | [] => 0
  | d :: r => uptoBulk d + uptoBulkAll r
def uptoBulkEntries {H : Type} : List (Lit × DataW H) → Nat
  | [] => 0
  | x :: r => uptoBulkEntry x + uptoBulkEntries r
def uptoBulkEntry {H : Type} : Lit × DataW H → Nat
  | (.string bytes, d) => bytes.length + uptoBulk d + 1
  | (_, d) => uptoBulk d + 1
 end
def uptoSmall : (H : Type) → List (DataW H) → Bool := fun _ ds => decide (uptoBulkAll ds ≤ 1048576)
def OpenSpec.upto (s : _root_.Go.ChangeSpec) : _root_.Go.OpenSpec := { _root_.Go.OpenSpec.ofChange s with cond := some uptoSmall }

/-- 'laws.FnExactLineSites', WHERE WHAT IT READS IS OF BULK AT MOST 1048576: true; the input reads as it did. -/
def fnExactLineSitesUptoRow : OpenClaim := { program := "ytmmoejdglnnmcaa", sum := "35b94523c2e29af51e5f04f45a9b0925b556085684e9377f91b12b5ec89fd0d4", func := "loop.example/g01110/laws.FnExactLineSites", spec := "fnExactLineSites", unfollowed := true, recurses := true, apart := false, narrowed := true }
def FnExactLineSitesUptoSaid : Prop := fnExactLineSitesUptoRow.holds Try.pinned (OpenSpec.upto fnExactLineSitesSpec)

/-- 'laws.FnExactReachSystem', WHERE WHAT IT READS IS OF BULK AT MOST 1048576: true; the input reads as it did. -/
def fnExactReachSystemUptoRow : OpenClaim := { program := "ytmmoejdglnnmcaa", sum := "35b94523c2e29af51e5f04f45a9b0925b556085684e9377f91b12b5ec89fd0d4", func := "loop.example/g01110/laws.FnExactReachSystem", spec := "fnExactReachSystem", unfollowed := true, recurses := true, apart := false, narrowed := true }
def FnExactReachSystemUptoSaid : Prop := fnExactReachSystemUptoRow.holds Try.pinned (OpenSpec.upto fnExactReachSystemSpec)

/-- 'laws.FnExactTurnSystem', WHERE WHAT IT READS IS OF BULK AT MOST 1048576: true; the input reads as it did. -/
def fnExactTurnSystemUptoRow : OpenClaim := { program := "ytmmoejdglnnmcaa", sum := "35b94523c2e29af51e5f04f45a9b0925b556085684e9377f91b12b5ec89fd0d4", func := "loop.example/g01110/laws.FnExactTurnSystem", spec := "fnExactTurnSystem", unfollowed := true, recurses := true, apart := false, narrowed := true }
def FnExactTurnSystemUptoSaid : Prop := fnExactTurnSystemUptoRow.holds Try.pinned (OpenSpec.upto fnExactTurnSystemSpec)

/-- 'laws.FnExactLengthsOf', WHERE WHAT IT READS IS OF BULK AT MOST 1048576: true; the input reads as it did. -/
def fnExactLengthsOfUptoRow : OpenClaim := { program := "ytmmoejdglnnmcaa", sum := "35b94523c2e29af51e5f04f45a9b0925b556085684e9377f91b12b5ec89fd0d4", func := "loop.example/g01110/laws.FnExactLengthsOf", spec := "fnExactLengthsOf", unfollowed := true, recurses := true, apart := false, narrowed := true }
def FnExactLengthsOfUptoSaid : Prop := fnExactLengthsOfUptoRow.holds Try.pinned (OpenSpec.upto fnExactLengthsOfSpec)

/-- 'laws.FnExactMedianValue', WHERE WHAT IT READS IS OF BULK AT MOST 1048576: true; the input reads as it did. -/
def fnExactMedianValueUptoRow : OpenClaim := { program := "ytmmoejdglnnmcaa", sum := "35b94523c2e29af51e5f04f45a9b0925b556085684e9377f91b12b5ec89fd0d4", func := "loop.example/g01110/laws.FnExactMedianValue", spec := "fnExactMedianValue", unfollowed := true, recurses := true, apart := false, narrowed := true }
def FnExactMedianValueUptoSaid : Prop := fnExactMedianValueUptoRow.holds Try.pinned (OpenSpec.upto fnExactMedianValueSpec)

/-- 'laws.FnExactCoveringSites', WHERE WHAT IT READS IS OF BULK AT MOST 1048576: true; the input reads as it did. -/
def fnExactCoveringSitesUptoRow : OpenClaim := { program := "ytmmoejdglnnmcaa", sum := "35b94523c2e29af51e5f04f45a9b0925b556085684e9377f91b12b5ec89fd0d4", func := "loop.example/g01110/laws.FnExactCoveringSites", spec := "fnExactCoveringSites", unfollowed := true, recurses := true, apart := false, narrowed := true }
def FnExactCoveringSitesUptoSaid : Prop := fnExactCoveringSitesUptoRow.holds Try.pinned (OpenSpec.upto fnExactCoveringSitesSpec)

/-- 'laws.FnExactPriceBound', WHERE WHAT IT READS IS OF BULK AT MOST 1048576: true; the input reads as it did. -/
def fnExactPriceBoundUptoRow : OpenClaim := { program := "ytmmoejdglnnmcaa", sum := "35b94523c2e29af51e5f04f45a9b0925b556085684e9377f91b12b5ec89fd0d4", func := "loop.example/g01110/laws.FnExactPriceBound", spec := "fnExactPriceBound", unfollowed := true, recurses := true, apart := false, narrowed := true }
def FnExactPriceBoundUptoSaid : Prop := fnExactPriceBoundUptoRow.holds Try.pinned (OpenSpec.upto fnExactPriceBoundSpec)

/-- 'laws.FnExactCentreReach', WHERE WHAT IT READS IS OF BULK AT MOST 1048576: true; the input reads as it did. -/
def fnExactCentreReachUptoRow : OpenClaim := { program := "ytmmoejdglnnmcaa", sum := "35b94523c2e29af51e5f04f45a9b0925b556085684e9377f91b12b5ec89fd0d4", func := "loop.example/g01110/laws.FnExactCentreReach", spec := "fnExactCentreReach", unfollowed := true, recurses := true, apart := false, narrowed := true }
def FnExactCentreReachUptoSaid : Prop := fnExactCentreReachUptoRow.holds Try.pinned (OpenSpec.upto fnExactCentreReachSpec)

/-- 'laws.FnExactMedianOf', WHERE WHAT IT READS IS OF BULK AT MOST 1048576: true; the input reads as it did. -/
def fnExactMedianOfUptoRow : OpenClaim := { program := "ytmmoejdglnnmcaa", sum := "35b94523c2e29af51e5f04f45a9b0925b556085684e9377f91b12b5ec89fd0d4", func := "loop.example/g01110/laws.FnExactMedianOf", spec := "fnExactMedianOf", unfollowed := true, recurses := true, apart := false, narrowed := true }
def FnExactMedianOfUptoSaid : Prop := fnExactMedianOfUptoRow.holds Try.pinned (OpenSpec.upto fnExactMedianOfSpec)

/-- 'laws.FnExactLargestPacking', WHERE WHAT IT READS IS OF BULK AT MOST 1048576: true; the input reads as it did. -/
def fnExactLargestPackingUptoRow : OpenClaim := { program := "ytmmoejdglnnmcaa", sum := "35b94523c2e29af51e5f04f45a9b0925b556085684e9377f91b12b5ec89fd0d4", func := "loop.example/g01110/laws.FnExactLargestPacking", spec := "fnExactLargestPacking", unfollowed := true, recurses := true, apart := false, narrowed := true }
def FnExactLargestPackingUptoSaid : Prop := fnExactLargestPackingUptoRow.holds Try.pinned (OpenSpec.upto fnExactLargestPackingSpec)

/-- 'laws.FnExactMedianSteps', WHERE WHAT IT READS IS OF BULK AT MOST 1048576: true; the input reads as it did. -/
def fnExactMedianStepsUptoRow : OpenClaim := { program := "ytmmoejdglnnmcaa", sum := "35b94523c2e29af51e5f04f45a9b0925b556085684e9377f91b12b5ec89fd0d4", func := "loop.example/g01110/laws.FnExactMedianSteps", spec := "fnExactMedianSteps", unfollowed := true, recurses := true, apart := false, narrowed := true }
def FnExactMedianStepsUptoSaid : Prop := fnExactMedianStepsUptoRow.holds Try.pinned (OpenSpec.upto fnExactMedianStepsSpec)

/-- 'laws.FnExactFarReach', WHERE WHAT IT READS IS OF BULK AT MOST 1048576: true; the input reads as it did. -/
def fnExactFarReachUptoRow : OpenClaim := { program := "ytmmoejdglnnmcaa", sum := "35b94523c2e29af51e5f04f45a9b0925b556085684e9377f91b12b5ec89fd0d4", func := "loop.example/g01110/laws.FnExactFarReach", spec := "fnExactFarReach", unfollowed := true, recurses := true, apart := false, narrowed := true }
def FnExactFarReachUptoSaid : Prop := fnExactFarReachUptoRow.holds Try.pinned (OpenSpec.upto fnExactFarReachSpec)

/-- 'laws.FnExactBestPartial', WHERE WHAT IT READS IS OF BULK AT MOST 1048576: true; the input reads as it did. -/
def fnExactBestPartialUptoRow : OpenClaim := { program := "ytmmoejdglnnmcaa", sum := "35b94523c2e29af51e5f04f45a9b0925b556085684e9377f91b12b5ec89fd0d4", func := "loop.example/g01110/laws.FnExactBestPartial", spec := "fnExactBestPartial", unfollowed := true, recurses := true, apart := false, narrowed := true }
def FnExactBestPartialUptoSaid : Prop := fnExactBestPartialUptoRow.holds Try.pinned (OpenSpec.upto fnExactBestPartialSpec)

/-- 'laws.FnExactLeastCover', WHERE WHAT IT READS IS OF BULK AT MOST 1048576: true; the input reads as it did. -/
def fnExactLeastCoverUptoRow : OpenClaim := { program := "ytmmoejdglnnmcaa", sum := "35b94523c2e29af51e5f04f45a9b0925b556085684e9377f91b12b5ec89fd0d4", func := "loop.example/g01110/laws.FnExactLeastCover", spec := "fnExactLeastCover", unfollowed := true, recurses := true, apart := false, narrowed := true }
def FnExactLeastCoverUptoSaid : Prop := fnExactLeastCoverUptoRow.holds Try.pinned (OpenSpec.upto fnExactLeastCoverSpec)

/-- 'laws.FnExactBestPrice', WHERE WHAT IT READS IS OF BULK AT MOST 1048576: true; the input reads as it did. -/
def fnExactBestPriceUptoRow : OpenClaim := { program := "ytmmoejdglnnmcaa", sum := "35b94523c2e29af51e5f04f45a9b0925b556085684e9377f91b12b5ec89fd0d4", func := "loop.example/g01110/laws.FnExactBestPrice", spec := "fnExactBestPrice", unfollowed := true, recurses := true, apart := false, narrowed := true }
def FnExactBestPriceUptoSaid : Prop := fnExactBestPriceUptoRow.holds Try.pinned (OpenSpec.upto fnExactBestPriceSpec)

/-- 'laws.FnExactBestCentres', WHERE WHAT IT READS IS OF BULK AT MOST 1048576: true; the input reads as it did. -/
def fnExactBestCentresUptoRow : OpenClaim := { program := "ytmmoejdglnnmcaa", sum := "35b94523c2e29af51e5f04f45a9b0925b556085684e9377f91b12b5ec89fd0d4", func := "loop.example/g01110/laws.FnExactBestCentres", spec := "fnExactBestCentres", unfollowed := true, recurses := true, apart := false, narrowed := true }
def FnExactBestCentresUptoSaid : Prop := fnExactBestCentresUptoRow.holds Try.pinned (OpenSpec.upto fnExactBestCentresSpec)

/-- 'laws.FnExactMostCovered', WHERE WHAT IT READS IS OF BULK AT MOST 1048576: true; the input reads as it did. -/
def fnExactMostCoveredUptoRow : OpenClaim := { program := "ytmmoejdglnnmcaa", sum := "35b94523c2e29af51e5f04f45a9b0925b556085684e9377f91b12b5ec89fd0d4", func := "loop.example/g01110/laws.FnExactMostCovered", spec := "fnExactMostCovered", unfollowed := true, recurses := true, apart := false, narrowed := true }
def FnExactMostCoveredUptoSaid : Prop := fnExactMostCoveredUptoRow.holds Try.pinned (OpenSpec.upto fnExactMostCoveredSpec)

/-- 'laws.FnExactLeastHitting', WHERE WHAT IT READS IS OF BULK AT MOST 1048576: true; the input reads as it did. -/
def fnExactLeastHittingUptoRow : OpenClaim := { program := "ytmmoejdglnnmcaa", sum := "35b94523c2e29af51e5f04f45a9b0925b556085684e9377f91b12b5ec89fd0d4", func := "loop.example/g01110/laws.FnExactLeastHitting", spec := "fnExactLeastHitting", unfollowed := true, recurses := true, apart := false, narrowed := true }
def FnExactLeastHittingUptoSaid : Prop := fnExactLeastHittingUptoRow.holds Try.pinned (OpenSpec.upto fnExactLeastHittingSpec)

end Rows
end Go.Proofs.Ytmmoejdglnnmcaa
