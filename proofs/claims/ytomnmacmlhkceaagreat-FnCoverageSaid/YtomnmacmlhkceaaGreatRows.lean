/-
  No cell of these rows narrows 'for every input' (looked for: loops, veiled, ifaces, maps, wideKeys, modest, calm, conditions, laid).
  DERIVED. THE GIVEN ROWS OF THIS SEAT. 6 by the template 'for every input the law returns true; each argument reads behind the call as it read before'; 0 by the template 'total and deterministic' (their statements: YtomnmacmlhkceaaGreatTotals.lean).
  GIVEN WITH THE SEED: the statements are not yours to turn. If you find one false, say at which input.
  Laid BY PROGRAM, IN A SANDBOX (cutbox-rows.mjs): the forced cells as the released guide's own fill.sh prints them over the translation cf54d1e79829a87d… (all of the seat's roots in one cut). By AI agents, Wed Nov 11 2026. No macro, syntax, notation, axiom, sorry.
-/
import Derived.Test.YtomnmacmlhkceaaGreatChecked
import GoSem.Claim
import GoSem.ClaimJoined
import GoSem.ClaimMapViews
import Derived.JoinedTies
import Derived.KernelRfl
namespace Go.Proofs.YtomnmacmlhkceaaGreat
/- THE CELL 'sum', in the pinned program and in every row, IS THE sha256 OF THE DUMP (.gsa) THAT YtomnmacmlhkceaaGreatProg.lean LOADS. Nothing in Lean hashes anything: it is a label: what it is worth is what the hold of that sum in a sandbox is worth. -/
noncomputable def Tryz.pinned : Pinned := { name := "ytomnmacmlhkceaagreat", sum := "cf54d1e79829a87da51dd6d58d22601cf79242239f78a2d406f8db6bc45e6563", checked := Tryz.checked }
namespace Rows
def none {H : Type} : Left H := { results := [], args := [] }

/-- 'laws.FnCentres': WHATEVER THE INPUT: true; the input reads as it did. -/
def fnCentresSpec : ChangeSpec := { name := "fnCentres", fn := fun _ => fun
  | [d] => { results := [.lit (.bool true)], args := [d] }
  | _ => none }
def fnCentresRow : OpenClaim := { program := "ytomnmacmlhkceaagreat", sum := "cf54d1e79829a87da51dd6d58d22601cf79242239f78a2d406f8db6bc45e6563", func := "loop.example/g01110/laws.FnCentres", spec := "fnCentres", unfollowed := true, recurses := true, apart := false }
def FnCentresSaid : Prop := fnCentresRow.holds Tryz.pinned (OpenSpec.ofChange fnCentresSpec)

/-- ITS FALSE NEIGHBOUR: 'it returns false'. Refute it at one input. -/
def fnCentresWrong : ChangeSpec := { name := "fnCentres", fn := fun _ => fun
  | [d] => { results := [.lit (.bool false)], args := [d] }
  | _ => none }
def FnCentresWrongFalsely : Prop := fnCentresRow.holds Tryz.pinned (OpenSpec.ofChange fnCentresWrong)

/-- 'laws.FnSwaps': WHATEVER THE INPUT: true; the input reads as it did. -/
def fnSwapsSpec : ChangeSpec := { name := "fnSwaps", fn := fun _ => fun
  | [d] => { results := [.lit (.bool true)], args := [d] }
  | _ => none }
def fnSwapsRow : OpenClaim := { program := "ytomnmacmlhkceaagreat", sum := "cf54d1e79829a87da51dd6d58d22601cf79242239f78a2d406f8db6bc45e6563", func := "loop.example/g01110/laws.FnSwaps", spec := "fnSwaps", unfollowed := true, recurses := true, apart := false }
def FnSwapsSaid : Prop := fnSwapsRow.holds Tryz.pinned (OpenSpec.ofChange fnSwapsSpec)

/-- ITS FALSE NEIGHBOUR: 'it returns false'. Refute it at one input. -/
def fnSwapsWrong : ChangeSpec := { name := "fnSwaps", fn := fun _ => fun
  | [d] => { results := [.lit (.bool false)], args := [d] }
  | _ => none }
def FnSwapsWrongFalsely : Prop := fnSwapsRow.holds Tryz.pinned (OpenSpec.ofChange fnSwapsWrong)

/-- 'laws.FnMedians': WHATEVER THE INPUT: true; the input reads as it did. -/
def fnMediansSpec : ChangeSpec := { name := "fnMedians", fn := fun _ => fun
  | [d] => { results := [.lit (.bool true)], args := [d] }
  | _ => none }
def fnMediansRow : OpenClaim := { program := "ytomnmacmlhkceaagreat", sum := "cf54d1e79829a87da51dd6d58d22601cf79242239f78a2d406f8db6bc45e6563", func := "loop.example/g01110/laws.FnMedians", spec := "fnMedians", unfollowed := true, recurses := true, apart := false }
def FnMediansSaid : Prop := fnMediansRow.holds Tryz.pinned (OpenSpec.ofChange fnMediansSpec)

/-- ITS FALSE NEIGHBOUR: 'it returns false'. Refute it at one input. -/
def fnMediansWrong : ChangeSpec := { name := "fnMedians", fn := fun _ => fun
  | [d] => { results := [.lit (.bool false)], args := [d] }
  | _ => none }
def FnMediansWrongFalsely : Prop := fnMediansRow.holds Tryz.pinned (OpenSpec.ofChange fnMediansWrong)

/-- 'laws.FnCoverings': WHATEVER THE INPUT: true; the input reads as it did. -/
def fnCoveringsSpec : ChangeSpec := { name := "fnCoverings", fn := fun _ => fun
  | [d] => { results := [.lit (.bool true)], args := [d] }
  | _ => none }
def fnCoveringsRow : OpenClaim := { program := "ytomnmacmlhkceaagreat", sum := "cf54d1e79829a87da51dd6d58d22601cf79242239f78a2d406f8db6bc45e6563", func := "loop.example/g01110/laws.FnCoverings", spec := "fnCoverings", unfollowed := true, recurses := true, apart := false }
def FnCoveringsSaid : Prop := fnCoveringsRow.holds Tryz.pinned (OpenSpec.ofChange fnCoveringsSpec)

/-- ITS FALSE NEIGHBOUR: 'it returns false'. Refute it at one input. -/
def fnCoveringsWrong : ChangeSpec := { name := "fnCoverings", fn := fun _ => fun
  | [d] => { results := [.lit (.bool false)], args := [d] }
  | _ => none }
def FnCoveringsWrongFalsely : Prop := fnCoveringsRow.holds Tryz.pinned (OpenSpec.ofChange fnCoveringsWrong)

/-- 'laws.FnFarClients': WHATEVER THE INPUT: true; the input reads as it did. -/
def fnFarClientsSpec : ChangeSpec := { name := "fnFarClients", fn := fun _ => fun
  | [d] => { results := [.lit (.bool true)], args := [d] }
  | _ => none }
def fnFarClientsRow : OpenClaim := { program := "ytomnmacmlhkceaagreat", sum := "cf54d1e79829a87da51dd6d58d22601cf79242239f78a2d406f8db6bc45e6563", func := "loop.example/g01110/laws.FnFarClients", spec := "fnFarClients", unfollowed := true, recurses := true, apart := false }
def FnFarClientsSaid : Prop := fnFarClientsRow.holds Tryz.pinned (OpenSpec.ofChange fnFarClientsSpec)

/-- ITS FALSE NEIGHBOUR: 'it returns false'. Refute it at one input. -/
def fnFarClientsWrong : ChangeSpec := { name := "fnFarClients", fn := fun _ => fun
  | [d] => { results := [.lit (.bool false)], args := [d] }
  | _ => none }
def FnFarClientsWrongFalsely : Prop := fnFarClientsRow.holds Tryz.pinned (OpenSpec.ofChange fnFarClientsWrong)

/-- 'laws.FnCoverage': WHATEVER THE INPUT: true; the input reads as it did. -/
def fnCoverageSpec : ChangeSpec := { name := "fnCoverage", fn := fun _ => fun
  | [d] => { results := [.lit (.bool true)], args := [d] }
  | _ => none }
def fnCoverageRow : OpenClaim := { program := "ytomnmacmlhkceaagreat", sum := "cf54d1e79829a87da51dd6d58d22601cf79242239f78a2d406f8db6bc45e6563", func := "loop.example/g01110/laws.FnCoverage", spec := "fnCoverage", unfollowed := true, recurses := true, apart := false }
def FnCoverageSaid : Prop := fnCoverageRow.holds Tryz.pinned (OpenSpec.ofChange fnCoverageSpec)

/-- ITS FALSE NEIGHBOUR: 'it returns false'. Refute it at one input. -/
def fnCoverageWrong : ChangeSpec := { name := "fnCoverage", fn := fun _ => fun
  | [d] => { results := [.lit (.bool false)], args := [d] }
  | _ => none }
def FnCoverageWrongFalsely : Prop := fnCoverageRow.holds Tryz.pinned (OpenSpec.ofChange fnCoverageWrong)

/- THE SECOND FORM. 'bulk': how many values and letters a reading holds, each counted each time it is reached (what is shared counts as often as it is met; a slice's spare places count too). A statement '..UptoSaid' is the law's where the arguments, and the package variables that the reading takes, are together of bulk at most 1048576: NARROWER than '..Said'. Prove '..Said' where nothing that the law and all that it calls make is longer than what came in: it says more and counts as full. Else prove '..UptoSaid'. A law counts once. -/
mutual
def uptoBulk {H : Type} : DataW H → Nat
  | .lit (.string bytes) => bytes.length + 1
  | .lit _ => 1
  | .nil => 1
  | .ptr d => uptoBulk d + 1
  | .slice elems spare => uptoBulkAll elems + uptoBulkAll spare + 1
  | .agg parts => uptoBulkAll parts + 1
  | .iface _ d => uptoBulk d + 1
  | .map entries => uptoBulkEntries entries + 1
  | .held _ => 1
def uptoBulkAll {H : Type} : List (DataW H) → Nat
  | [] => 0
  | d :: r => uptoBulk d + uptoBulkAll r
def uptoBulkEntries {H : Type} : List (Lit × DataW H) → Nat
  | [] => 0
  | x :: r => uptoBulkEntry x + uptoBulkEntries r
def uptoBulkEntry {H : Type} : Lit × DataW H → Nat
  | (.string bytes, d) => bytes.length + uptoBulk d + 1
  | (_, d) => uptoBulk d + 1
 end
def uptoSmall : (H : Type) → List (DataW H) → Bool := fun _ ds => decide (uptoBulkAll ds ≤ 1048576)
def OpenSpec.upto (s : _root_.Go.ChangeSpec) : _root_.Go.OpenSpec := { _root_.Go.OpenSpec.ofChange s with cond := some uptoSmall }

/-- 'laws.FnCentres', WHERE WHAT IT READS IS OF BULK AT MOST 1048576: true; the input reads as it did. -/
def fnCentresUptoRow : OpenClaim := { program := "ytomnmacmlhkceaagreat", sum := "cf54d1e79829a87da51dd6d58d22601cf79242239f78a2d406f8db6bc45e6563", func := "loop.example/g01110/laws.FnCentres", spec := "fnCentres", unfollowed := true, recurses := true, apart := false, narrowed := true }
def FnCentresUptoSaid : Prop := fnCentresUptoRow.holds Tryz.pinned (OpenSpec.upto fnCentresSpec)

/-- 'laws.FnSwaps', WHERE WHAT IT READS IS OF BULK AT MOST 1048576: true; the input reads as it did. -/
def fnSwapsUptoRow : OpenClaim := { program := "ytomnmacmlhkceaagreat", sum := "cf54d1e79829a87da51dd6d58d22601cf79242239f78a2d406f8db6bc45e6563", func := "loop.example/g01110/laws.FnSwaps", spec := "fnSwaps", unfollowed := true, recurses := true, apart := false, narrowed := true }
def FnSwapsUptoSaid : Prop := fnSwapsUptoRow.holds Tryz.pinned (OpenSpec.upto fnSwapsSpec)

/-- 'laws.FnMedians', WHERE WHAT IT READS IS OF BULK AT MOST 1048576: true; the input reads as it did. -/
def fnMediansUptoRow : OpenClaim := { program := "ytomnmacmlhkceaagreat", sum := "cf54d1e79829a87da51dd6d58d22601cf79242239f78a2d406f8db6bc45e6563", func := "loop.example/g01110/laws.FnMedians", spec := "fnMedians", unfollowed := true, recurses := true, apart := false, narrowed := true }
def FnMediansUptoSaid : Prop := fnMediansUptoRow.holds Tryz.pinned (OpenSpec.upto fnMediansSpec)

/-- 'laws.FnCoverings', WHERE WHAT IT READS IS OF BULK AT MOST 1048576: true; the input reads as it did. -/
def fnCoveringsUptoRow : OpenClaim := { program := "ytomnmacmlhkceaagreat", sum := "cf54d1e79829a87da51dd6d58d22601cf79242239f78a2d406f8db6bc45e6563", func := "loop.example/g01110/laws.FnCoverings", spec := "fnCoverings", unfollowed := true, recurses := true, apart := false, narrowed := true }
def FnCoveringsUptoSaid : Prop := fnCoveringsUptoRow.holds Tryz.pinned (OpenSpec.upto fnCoveringsSpec)

/-- 'laws.FnFarClients', WHERE WHAT IT READS IS OF BULK AT MOST 1048576: true; the input reads as it did. -/
def fnFarClientsUptoRow : OpenClaim := { program := "ytomnmacmlhkceaagreat", sum := "cf54d1e79829a87da51dd6d58d22601cf79242239f78a2d406f8db6bc45e6563", func := "loop.example/g01110/laws.FnFarClients", spec := "fnFarClients", unfollowed := true, recurses := true, apart := false, narrowed := true }
def FnFarClientsUptoSaid : Prop := fnFarClientsUptoRow.holds Tryz.pinned (OpenSpec.upto fnFarClientsSpec)

/-- 'laws.FnCoverage', WHERE WHAT IT READS IS OF BULK AT MOST 1048576: true; the input reads as it did. -/
def fnCoverageUptoRow : OpenClaim := { program := "ytomnmacmlhkceaagreat", sum := "cf54d1e79829a87da51dd6d58d22601cf79242239f78a2d406f8db6bc45e6563", func := "loop.example/g01110/laws.FnCoverage", spec := "fnCoverage", unfollowed := true, recurses := true, apart := false, narrowed := true }
def FnCoverageUptoSaid : Prop := fnCoverageUptoRow.holds Tryz.pinned (OpenSpec.upto fnCoverageSpec)

end Rows
end Go.Proofs.YtomnmacmlhkceaaGreat
