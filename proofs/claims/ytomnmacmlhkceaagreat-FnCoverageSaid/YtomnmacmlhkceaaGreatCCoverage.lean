/- Greedy coverage reaches its share of the most elements that as many sets cover, and what sites reach is a cover exactly within their reach. No condition. No condition. -/
import Derived.Test.YtomnmacmlhkceaaGreatRows
import Derived.Test.YtomnmacmlhkceaaGreatQuy
import Derived.Test.YtomnmacmlhkceaaGreatQv
import Derived.Test.YtomnmacmlhkceaaGreatKCoverage1
import Derived.Test.YtomnmacmlhkceaaGreatKCoverage2
import Derived.Test.YtomnmacmlhkceaaGreatKCoverage3
import Derived.WalkKit
import Derived.ProofKit
import Derived.OpenShut
namespace Go.Proofs.YtomnmacmlhkceaaGreat.fnCoverage
open Go Go.ChangeShapes Go.WideShapes Go.ChangeAt Go.RowKit

theorem own : ownKnob Tryz.prog.godebug = none := by kernel_rfl

set_option maxRecDepth 100000 in
theorem lifted (os : Os) (started : os.Started) (H : Type) (enc : TypeId × Value → H) :
    ReturnsInHanded {} Tryz.checked os 8 .any (Rows.fnCoverageSpec.pre6 enc Tryz.prog Tryz.f8 Rows.fnCoverageRow.domain false) (Rows.fnCoverageSpec.post enc Tryz.prog Tryz.f8 false true false false) := by
  refine returnsInHanded_of_change (C := Tryz.checked) own started (by kernel_rfl) Tryz.func8
    (ChangeSpec.witness6 (enc := enc) (C := Tryz.checked) false ⟨#[], #[.slice none 0 0], []⟩ 8 (by kernel_rfl) (by kernel_rfl) (by kernel_rfl) (by kernel_rfl)) ?_
  intro W base args ds gs before hval0 hW hcnd _
  have hval : ∀ (j : Nat) t v, Tryz.f8.params[j]? = some t → args[j]? = some v → Value.okWide Tryz.prog W .any base t v := hval0
  have hW' := hW
  obtain ⟨p, q, hA0, hV, rfl, hfz, hnd⟩ := hW
  have hA : DataW.TrodAll enc Tryz.prog W 0 (fun _ => true) true Tryz.f8.params.toList args.toList ds p := hA0
  rw [Tryz.params8] at hA hval
  obtain ⟨v0, vs0, d0, ds0, p0', q0, hargs, rfl, rfl, h0, r0⟩ := trodAll_cons hA
  obtain ⟨rfl, rfl, rfl⟩ := trodAll_nil r0
  obtain rfl : args = #[v0] := by cases args; simp_all
  obtain ⟨a0, w0, p0⟩ := arg_bytes Tryz.underlying22 Tryz.underlying5 (by kernel_rfl) (hval 0 22 v0 rfl rfl) h0
  refine (law_calls (l_FnCoverage_pc a0 (fun x hx => Nat.lt_succ_of_le (p0 x hx))) W [v0] (all2_cons w0 (all2_nil))).mono fun e W' ⟨he, hg⟩ => ?_
  subst he
  exact ⟨_, rfl, post_below (by kernel_rfl) (by kernel_rfl) rfl rfl Tryz.underlying4 hW' rfl hg⟩

theorem fact0 : ((Rows.fnCoverageRow).wf (OpenSpec.ofChange (Rows.fnCoverageSpec))) = true := by kernel_rfl
theorem fact3 : (Tryz.f8.params.all (Tryz.prog.readableRec ·)) = true := by kernel_rfl
theorem fact4 : (namedTie Tryz.prog (Rows.fnCoverageRow).named (Rows.fnCoverageSpec).vars) = true := by kernel_rfl
theorem fact5 : (((Rows.fnCoverageRow).stops == [])) = true := by kernel_rfl
theorem fact7 : (((Rows.fnCoverageRow).knobs == [])) = true := by kernel_rfl
theorem fact9 : (((Rows.fnCoverageRow).inPlace == Tryz.prog.inPlace 8)) = true := by kernel_rfl
theorem fact10 : (((Rows.fnCoverageRow).unfollowed == Tryz.prog.unfollowed 8)) = true := by kernel_rfl
theorem fact11 : (((Rows.fnCoverageRow).recurses == Tryz.prog.recurses 8)) = true := by kernel_rfl
theorem fact12 : (((Rows.fnCoverageRow).named == Tryz.prog.varsNamed 8)) = true := by kernel_rfl
theorem fact13 : (((Rows.fnCoverageRow).maps == (Tryz.f8.params.toList ++ (Rows.fnCoverageSpec).plain.varTypes Tryz.prog).any (Tryz.prog.mapsRec ·))) = true := by kernel_rfl
theorem fact14 : (((Rows.fnCoverageRow).ifaces == (Tryz.f8.params.toList ++ (Rows.fnCoverageSpec).plain.varTypes Tryz.prog).any (Tryz.prog.ifacesRec ·))) = true := by kernel_rfl
theorem fact15 : (((Rows.fnCoverageRow).mapsOut == Tryz.prog.mapsAmong Tryz.f8.resultTypes.toList)) = true := by kernel_rfl
theorem fact16 : (((Rows.fnCoverageRow).loops == (Tryz.f8.params.toList ++ (Rows.fnCoverageSpec).plain.varTypes Tryz.prog).any (Tryz.prog.loopsFrom ·))) = true := by kernel_rfl
theorem fact17 : (((Rows.fnCoverageRow).wideKeys == (Tryz.f8.params.toList ++ (Rows.fnCoverageSpec).plain.varTypes Tryz.prog ++ Tryz.f8.resultTypes.toList).any (Tryz.prog.wideKeysFrom ·))) = true := by kernel_rfl
theorem fact18 : ((Rows.fnCoverageSpec).vars.all (Tryz.prog.varReadable ·)) = true := by kernel_rfl
theorem fact19 : (Tryz.f8.resultTypes.all (fun t => Tryz.prog.readableRec t && decide (t < Tryz.prog.types.size))) = true := by kernel_rfl
theorem fact20 : (((Rows.fnCoverageRow).ifacesOut == Tryz.f8.resultTypes.toList.any (Tryz.prog.ifacesRec ·))) = true := by kernel_rfl
theorem fact21 : (((Rows.fnCoverageRow).loopsOut == Tryz.f8.resultTypes.toList.any (Tryz.prog.loopsFrom ·))) = true := by kernel_rfl
theorem fact23 : ((Rows.fnCoverageRow).shortTexts.isNone) = true := by kernel_rfl
theorem fact28 : (((Rows.fnCoverageRow).kinds == (if (Rows.fnCoverageRow).domain.isEmpty then [] else Tryz.f8.params.toList.map fun t => match Tryz.prog.underlying t with | some (.int k) => some k | _ => none))) = true := by kernel_rfl
theorem fact29 : (((Rows.fnCoverageRow).pinned == (Rows.fnCoverageRow).pinnedBy)) = true := by kernel_rfl
theorem fact30 : (((Rows.fnCoverageRow).veiled == (Tryz.f8.params.toList ++ (Rows.fnCoverageSpec).plain.varTypes Tryz.prog ++ Tryz.f8.resultTypes.toList).any (Tryz.prog.veiledRec ·))) = true := by kernel_rfl
theorem fact31 : ((Rows.fnCoverageRow).veiledFits Tryz.prog Tryz.f8.params.toList (Tryz.f8.params.toList ++ (Rows.fnCoverageSpec).plain.varTypes Tryz.prog ++ Tryz.f8.resultTypes.toList)) = true := by kernel_rfl
theorem named : Tryz.pinned.checked.prog.funcNamed (Rows.fnCoverageRow).func = some 8 := by kernel_rfl
set_option maxRecDepth 100000 in
theorem closed : joinedFacts Tryz.prog 8 Tryz.f8 (Rows.fnCoverageSpec) (Rows.fnCoverageRow) = true := by
  simp only [joinedFacts, Bool.and_eq_true]
  exact ⟨⟨⟨⟨⟨⟨⟨⟨⟨⟨⟨⟨⟨⟨⟨⟨⟨⟨⟨⟨⟨⟨⟨⟨⟨⟨⟨⟨⟨⟨⟨fact0, pf_laid⟩, pf_maps⟩, fact3⟩, fact4⟩, fact5⟩, pf_stops⟩, fact7⟩, pf_knobs⟩, fact9⟩, fact10⟩, fact11⟩, fact12⟩, fact13⟩, fact14⟩, fact15⟩, fact16⟩, fact17⟩, fact18⟩, fact19⟩, fact20⟩, fact21⟩, pf_keys⟩, fact23⟩, pf_heard⟩, pf_enter⟩, pf_final⟩, pf_make⟩, fact28⟩, fact29⟩, fact30⟩, fact31⟩

theorem over : Rows.fnCoverageRow.holds Tryz.pinned (OpenSpec.ofChange Rows.fnCoverageSpec) :=
  OpenClaim.holds_of_wide 8 Tryz.f8 rfl rfl rfl rfl rfl rfl rfl ⟨rfl, rfl, rfl, rfl, rfl⟩ rfl rfl rfl rfl rfl named Tryz.func8 closed
    (of_decide_eq_true (by kernel_rfl)) (by unfold Func.isWrapper; rw [if_neg (by decide +kernel)]; exact ⟨rfl, rfl⟩)
    (fun os started H enc _ => lifted os started H enc)

theorem proved : Rows.FnCoverageSaid :=
  over
#print axioms proved
end Go.Proofs.YtomnmacmlhkceaaGreat.fnCoverage
