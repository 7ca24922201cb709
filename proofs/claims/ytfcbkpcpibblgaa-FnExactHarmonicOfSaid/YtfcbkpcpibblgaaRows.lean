/-
  No cell of these rows narrows 'for every input' (looked for: loops, veiled, ifaces, maps, wideKeys, modest, calm, conditions, laid).
  DERIVED. THE GIVEN ROWS OF THIS SEAT. 6 by the template 'for every input the law returns true; each argument reads behind the call as it read before'; 0 by the template 'total and deterministic' (their statements: YtfcbkpcpibblgaaTotals.lean).
  GIVEN WITH THE SEED: the statements are not yours to turn. If you find one false, say at which input.
  Laid BY PROGRAM, IN A SANDBOX (cutbox-rows.mjs): the forced cells as the released guide's own fill.sh prints them over the translation 293b53824d693207… (all of the seat's roots in one cut). By AI agents, Wed Nov 11 2026. No macro, syntax, notation, axiom, sorry.
-/
import Derived.Test.YtfcbkpcpibblgaaChecked
import GoSem.Claim
import GoSem.ClaimJoined
import GoSem.ClaimMapViews
import Derived.JoinedTies
import Derived.KernelRfl
namespace Go.Proofs.Ytfcbkpcpibblgaa
/- THE CELL 'sum', in the pinned program and in every row, IS THE sha256 OF THE DUMP (.gsa) THAT YtfcbkpcpibblgaaProg.lean LOADS. Nothing in Lean hashes anything: it is a label: what it is worth is what the hold of that sum in a sandbox is worth. -/
noncomputable def Try.pinned : Pinned := { name := "ytfcbkpcpibblgaa", sum := "293b53824d6932079606a02b5923d629fd970d3cfd5510a2e4f62a5cc8e62359", checked := Try.checked }
namespace Rows
def none {H : Type} : Left H := { results := [], args := [] }

/-- 'laws.FnExactHarmonicOf': WHATEVER THE INPUT: true; the input reads as it did. -/
def fnExactHarmonicOfSpec : ChangeSpec := { name := "fnExactHarmonicOf", fn := fun _ => fun
  | [d] => { results := [.lit (.bool true)], args := [d] }
  | _ => none }
def fnExactHarmonicOfRow : OpenClaim := { program := "ytfcbkpcpibblgaa", sum := "293b53824d6932079606a02b5923d629fd970d3cfd5510a2e4f62a5cc8e62359", func := "loop.example/g01110/laws.FnExactHarmonicOf", spec := "fnExactHarmonicOf", apart := false }
def FnExactHarmonicOfSaid : Prop := fnExactHarmonicOfRow.holds Try.pinned (OpenSpec.ofChange fnExactHarmonicOfSpec)

/-- ITS FALSE NEIGHBOUR: 'it returns false'. Refute it at one input. -/
def fnExactHarmonicOfWrong : ChangeSpec := { name := "fnExactHarmonicOf", fn := fun _ => fun
  | [d] => { results := [.lit (.bool false)], args := [d] }
  | _ => none }
def FnExactHarmonicOfWrongFalsely : Prop := fnExactHarmonicOfRow.holds Try.pinned (OpenSpec.ofChange fnExactHarmonicOfWrong)

/-- 'laws.FnExactIsSystem': WHATEVER THE INPUT: true; the input reads as it did. -/
def fnExactIsSystemSpec : ChangeSpec := { name := "fnExactIsSystem", fn := fun _ => fun
  | [d] => { results := [.lit (.bool true)], args := [d] }
  | _ => none }
def fnExactIsSystemRow : OpenClaim := { program := "ytfcbkpcpibblgaa", sum := "293b53824d6932079606a02b5923d629fd970d3cfd5510a2e4f62a5cc8e62359", func := "loop.example/g01110/laws.FnExactIsSystem", spec := "fnExactIsSystem", unfollowed := true, recurses := true, apart := false }
def FnExactIsSystemSaid : Prop := fnExactIsSystemRow.holds Try.pinned (OpenSpec.ofChange fnExactIsSystemSpec)

/-- ITS FALSE NEIGHBOUR: 'it returns false'. Refute it at one input. -/
def fnExactIsSystemWrong : ChangeSpec := { name := "fnExactIsSystem", fn := fun _ => fun
  | [d] => { results := [.lit (.bool false)], args := [d] }
  | _ => none }
def FnExactIsSystemWrongFalsely : Prop := fnExactIsSystemRow.holds Try.pinned (OpenSpec.ofChange fnExactIsSystemWrong)

/-- 'laws.FnIntervals': WHATEVER THE INPUT: true; the input reads as it did. -/
def fnIntervalsSpec : ChangeSpec := { name := "fnIntervals", fn := fun _ => fun
  | [d] => { results := [.lit (.bool true)], args := [d] }
  | _ => none }
def fnIntervalsRow : OpenClaim := { program := "ytfcbkpcpibblgaa", sum := "293b53824d6932079606a02b5923d629fd970d3cfd5510a2e4f62a5cc8e62359", func := "loop.example/g01110/laws.FnIntervals", spec := "fnIntervals", unfollowed := true, recurses := true, apart := false }
def FnIntervalsSaid : Prop := fnIntervalsRow.holds Try.pinned (OpenSpec.ofChange fnIntervalsSpec)

/-- ITS FALSE NEIGHBOUR: 'it returns false'. Refute it at one input. -/
def fnIntervalsWrong : ChangeSpec := { name := "fnIntervals", fn := fun _ => fun
  | [d] => { results := [.lit (.bool false)], args := [d] }
  | _ => none }
def FnIntervalsWrongFalsely : Prop := fnIntervalsRow.holds Try.pinned (OpenSpec.ofChange fnIntervalsWrong)

/-- 'laws.FnExactAreNeeds': WHATEVER THE INPUT: true; the input reads as it did. -/
def fnExactAreNeedsSpec : ChangeSpec := { name := "fnExactAreNeeds", fn := fun _ => fun
  | [d1, d2, d3] => { results := [.lit (.bool true)], args := [d1, d2, d3] }
  | _ => none }
def fnExactAreNeedsRow : OpenClaim := { program := "ytfcbkpcpibblgaa", sum := "293b53824d6932079606a02b5923d629fd970d3cfd5510a2e4f62a5cc8e62359", func := "loop.example/g01110/laws.FnExactAreNeeds", spec := "fnExactAreNeeds", unfollowed := true, recurses := true, apart := false }
def FnExactAreNeedsSaid : Prop := fnExactAreNeedsRow.holds Try.pinned (OpenSpec.ofChange fnExactAreNeedsSpec)

/-- ITS FALSE NEIGHBOUR: 'it returns false'. Refute it at one input. -/
def fnExactAreNeedsWrong : ChangeSpec := { name := "fnExactAreNeeds", fn := fun _ => fun
  | [d1, d2, d3] => { results := [.lit (.bool false)], args := [d1, d2, d3] }
  | _ => none }
def FnExactAreNeedsWrongFalsely : Prop := fnExactAreNeedsRow.holds Try.pinned (OpenSpec.ofChange fnExactAreNeedsWrong)

/-- 'laws.FnExactApartIntervals': WHATEVER THE INPUT: true; the input reads as it did. -/
def fnExactApartIntervalsSpec : ChangeSpec := { name := "fnExactApartIntervals", fn := fun _ => fun
  | [d] => { results := [.lit (.bool true)], args := [d] }
  | _ => none }
def fnExactApartIntervalsRow : OpenClaim := { program := "ytfcbkpcpibblgaa", sum := "293b53824d6932079606a02b5923d629fd970d3cfd5510a2e4f62a5cc8e62359", func := "loop.example/g01110/laws.FnExactApartIntervals", spec := "fnExactApartIntervals", unfollowed := true, recurses := true, apart := false }
def FnExactApartIntervalsSaid : Prop := fnExactApartIntervalsRow.holds Try.pinned (OpenSpec.ofChange fnExactApartIntervalsSpec)

/-- ITS FALSE NEIGHBOUR: 'it returns false'. Refute it at one input. -/
def fnExactApartIntervalsWrong : ChangeSpec := { name := "fnExactApartIntervals", fn := fun _ => fun
  | [d] => { results := [.lit (.bool false)], args := [d] }
  | _ => none }
def FnExactApartIntervalsWrongFalsely : Prop := fnExactApartIntervalsRow.holds Try.pinned (OpenSpec.ofChange fnExactApartIntervalsWrong)

/-- 'laws.FnExactStabPoints': WHATEVER THE INPUT: true; the input reads as it did. -/
def fnExactStabPointsSpec : ChangeSpec := { name := "fnExactStabPoints", fn := fun _ => fun
  | [d] => { results := [.lit (.bool true)], args := [d] }
  | _ => none }
def fnExactStabPointsRow : OpenClaim := { program := "ytfcbkpcpibblgaa", sum := "293b53824d6932079606a02b5923d629fd970d3cfd5510a2e4f62a5cc8e62359", func := "loop.example/g01110/laws.FnExactStabPoints", spec := "fnExactStabPoints", unfollowed := true, recurses := true, apart := false }
def FnExactStabPointsSaid : Prop := fnExactStabPointsRow.holds Try.pinned (OpenSpec.ofChange fnExactStabPointsSpec)

/-- ITS FALSE NEIGHBOUR: 'it returns false'. Refute it at one input. -/
def fnExactStabPointsWrong : ChangeSpec := { name := "fnExactStabPoints", fn := fun _ => fun
  | [d] => { results := [.lit (.bool false)], args := [d] }
  | _ => none }
def FnExactStabPointsWrongFalsely : Prop := fnExactStabPointsRow.holds Try.pinned (OpenSpec.ofChange fnExactStabPointsWrong)

/- THE SECOND FORM. 'bulk': how many values and letters a reading holds, each counted each time it is reached (what is shared counts as often as it is met; a slice's spare places count too). A statement '..UptoSaid' is the law's where the arguments, and the package variables that the reading takes, are together of bulk at most 1048576: NARROWER than '..Said'. Prove '..Said' where nothing that the law and all that it calls make is longer than what came in: it says more and counts as full. Else prove '..UptoSaid'. A law counts once. -/
mutual
def uptoBulk {H : Type} : DataW H → Nat
  | .lit (.string bytes) => bytes.length + 1
  | .lit _ => 1
  | .nil => 1
  | .ptr d => uptoBulk d + 1
  | .slice elems spare => uptoBulkAll elems + uptoBulkAll spare + 1
  | .agg parts => uptoBulkAll parts + 1
  | .iface _ d => uptoBulk d + 1
  | .map entries => uptoBulkEntries entries + 1
  | .held _ => 1
def uptoBulkAll {H : Type} : List (DataW H) → Nat
  | [] => 0
  | d :: r => uptoBulk d + uptoBulkAll r
def uptoBulkEntries {H : Type} : List (Lit × DataW H) → Nat
  | [] => 0
  | x :: r => uptoBulkEntry x + uptoBulkEntries r
def uptoBulkEntry {H : Type} : Lit × DataW H → Nat
  | (.string bytes, d) => bytes.length + uptoBulk d + 1
  | (_, d) => uptoBulk d + 1
 end
def uptoSmall : (H : Type) → List (DataW H) → Bool := fun _ ds => decide (uptoBulkAll ds ≤ 1048576)
def OpenSpec.upto (s : _root_.Go.ChangeSpec) : _root_.Go.OpenSpec := { _root_.Go.OpenSpec.ofChange s with cond := some uptoSmall }

/-- 'laws.FnExactHarmonicOf', WHERE WHAT IT READS IS OF BULK AT MOST 1048576: true; the input reads as it did. -/
def fnExactHarmonicOfUptoRow : OpenClaim := { program := "ytfcbkpcpibblgaa", sum := "293b53824d6932079606a02b5923d629fd970d3cfd5510a2e4f62a5cc8e62359", func := "loop.example/g01110/laws.FnExactHarmonicOf", spec := "fnExactHarmonicOf", apart := false, narrowed := true }
def FnExactHarmonicOfUptoSaid : Prop := fnExactHarmonicOfUptoRow.holds Try.pinned (OpenSpec.upto fnExactHarmonicOfSpec)

/-- 'laws.FnExactIsSystem', WHERE WHAT IT READS IS OF BULK AT MOST 1048576: true; the input reads as it did. -/
def fnExactIsSystemUptoRow : OpenClaim := { program := "ytfcbkpcpibblgaa", sum := "293b53824d6932079606a02b5923d629fd970d3cfd5510a2e4f62a5cc8e62359", func := "loop.example/g01110/laws.FnExactIsSystem", spec := "fnExactIsSystem", unfollowed := true, recurses := true, apart := false, narrowed := true }
def FnExactIsSystemUptoSaid : Prop := fnExactIsSystemUptoRow.holds Try.pinned (OpenSpec.upto fnExactIsSystemSpec)

/-- 'laws.FnIntervals', WHERE WHAT IT READS IS OF BULK AT MOST 1048576: true; the input reads as it did. -/
def fnIntervalsUptoRow : OpenClaim := { program := "ytfcbkpcpibblgaa", sum := "293b53824d6932079606a02b5923d629fd970d3cfd5510a2e4f62a5cc8e62359", func := "loop.example/g01110/laws.FnIntervals", spec := "fnIntervals", unfollowed := true, recurses := true, apart := false, narrowed := true }
def FnIntervalsUptoSaid : Prop := fnIntervalsUptoRow.holds Try.pinned (OpenSpec.upto fnIntervalsSpec)

/-- 'laws.FnExactAreNeeds', WHERE WHAT IT READS IS OF BULK AT MOST 1048576: true; the input reads as it did. -/
def fnExactAreNeedsUptoRow : OpenClaim := { program := "ytfcbkpcpibblgaa", sum := "293b53824d6932079606a02b5923d629fd970d3cfd5510a2e4f62a5cc8e62359", func := "loop.example/g01110/laws.FnExactAreNeeds", spec := "fnExactAreNeeds", unfollowed := true, recurses := true, apart := false, narrowed := true }
def FnExactAreNeedsUptoSaid : Prop := fnExactAreNeedsUptoRow.holds Try.pinned (OpenSpec.upto fnExactAreNeedsSpec)

/-- 'laws.FnExactApartIntervals', WHERE WHAT IT READS IS OF BULK AT MOST 1048576: true; the input reads as it did. -/
def fnExactApartIntervalsUptoRow : OpenClaim := { program := "ytfcbkpcpibblgaa", sum := "293b53824d6932079606a02b5923d629fd970d3cfd5510a2e4f62a5cc8e62359", func := "loop.example/g01110/laws.FnExactApartIntervals", spec := "fnExactApartIntervals", unfollowed := true, recurses := true, apart := false, narrowed := true }
def FnExactApartIntervalsUptoSaid : Prop := fnExactApartIntervalsUptoRow.holds Try.pinned (OpenSpec.upto fnExactApartIntervalsSpec)

/-- 'laws.FnExactStabPoints', WHERE WHAT IT READS IS OF BULK AT MOST 1048576: true; the input reads as it did. -/
def fnExactStabPointsUptoRow : OpenClaim := { program := "ytfcbkpcpibblgaa", sum := "293b53824d6932079606a02b5923d629fd970d3cfd5510a2e4f62a5cc8e62359", func := "loop.example/g01110/laws.FnExactStabPoints", spec := "fnExactStabPoints", unfollowed := true, recurses := true, apart := false, narrowed := true }
def FnExactStabPointsUptoSaid : Prop := fnExactStabPointsUptoRow.holds Try.pinned (OpenSpec.upto fnExactStabPointsSpec)

end Rows
end Go.Proofs.Ytfcbkpcpibblgaa
