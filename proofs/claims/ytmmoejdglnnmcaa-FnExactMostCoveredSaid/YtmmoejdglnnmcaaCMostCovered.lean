/- The program's MostCovered returns what the reference's returns, for all arguments. No condition. -/
import Derived.Test.YtmmoejdglnnmcaaRows
import Derived.Test.YtmmoejdglnnmcaaPu
import Derived.Test.YtmmoejdglnnmcaaPv
import Derived.Test.YtmmoejdglnnmcaaKMostCovered1
import Derived.Test.YtmmoejdglnnmcaaKMostCovered2
import Derived.WalkKit
import Derived.ProofKit
import Derived.OpenShut
namespace Go.Proofs.Ytmmoejdglnnmcaa.fnExactMostCovered
open Go Go.ChangeShapes Go.WideShapes Go.ChangeAt Go.RowKit

theorem own : ownKnob Try.prog.godebug = none := by kernel_rfl

set_option maxRecDepth 100000 in
theorem lifted (os : Os) (started : os.Started) (H : Type) (enc : TypeId × Value → H) :
    ReturnsInHanded {} Try.checked os 19 .any (Rows.fnExactMostCoveredSpec.pre6 enc Try.prog Try.f19 Rows.fnExactMostCoveredRow.domain false) (Rows.fnExactMostCoveredSpec.post enc Try.prog Try.f19 false true false false) := by
  refine returnsInHanded_of_change (C := Try.checked) own started (by kernel_rfl) Try.func19
    (ChangeSpec.witness6 (enc := enc) (C := Try.checked) false ⟨#[], #[.agg #[.int .i64 0, .slice none 0 0, .slice none 0 0], .int .i64 0], []⟩ 8 (by kernel_rfl) (by kernel_rfl) (by kernel_rfl) (by kernel_rfl)) ?_
  intro W base args ds gs before hval0 hW hcnd _
  have hval : ∀ (j : Nat) t v, Try.f19.params[j]? = some t → args[j]? = some v → Value.okWide Try.prog W .any base t v := hval0
  have hW' := hW
  obtain ⟨p, q, hA0, hV, rfl, hfz, hnd⟩ := hW
  have hA : DataW.TrodAll enc Try.prog W 0 (fun _ => true) true Try.f19.params.toList args.toList ds p := hA0
  rw [Try.params19] at hA hval
  obtain ⟨v0, vs0, d0, ds0, p0', q0, hargs, rfl, rfl, h0, r0⟩ := trodAll_cons hA
  obtain ⟨v1, vs1, d1, ds1, p1', q1, rfl, rfl, rfl, h1, r1⟩ := trodAll_cons r0
  obtain ⟨rfl, rfl, rfl⟩ := trodAll_nil r1
  obtain rfl : args = #[v0, v1] := by cases args; simp_all
  obtain ⟨a0, b0, c0, w0, p0⟩ := arg_sys (ti := 3) (tr := 29) (tl := 22) Try.underlying44 (by kernel_rfl) rfl rfl rfl rfl rfl rfl Try.underlying3 (by kernel_rfl) Try.underlying22 (by kernel_rfl) Try.underlying29 (by kernel_rfl) (hval 0 44 v0 rfl rfl) h0
  obtain ⟨a1, w1, p1⟩ := arg_int Try.underlying3 (hval 1 3 v1 rfl rfl) h1
  refine (law_calls (l_FnExactMostCovered_pc a0 b0 c0 a1) W [v0, v1] (all2_cons w0 (all2_cons w1 (all2_nil)))).mono fun e W' ⟨he, hg⟩ => ?_
  subst he
  exact ⟨_, rfl, post_below (by kernel_rfl) (by kernel_rfl) rfl rfl Try.underlying4 hW' rfl hg⟩

theorem fact0 : ((Rows.fnExactMostCoveredRow).wf (OpenSpec.ofChange (Rows.fnExactMostCoveredSpec))) = true := by kernel_rfl
theorem fact3 : (Try.f19.params.all (Try.prog.readableRec ·)) = true := by kernel_rfl
theorem fact4 : (namedTie Try.prog (Rows.fnExactMostCoveredRow).named (Rows.fnExactMostCoveredSpec).vars) = true := by kernel_rfl
theorem fact5 : (((Rows.fnExactMostCoveredRow).stops == [])) = true := by kernel_rfl
theorem fact7 : (((Rows.fnExactMostCoveredRow).knobs == [])) = true := by kernel_rfl
theorem fact9 : (((Rows.fnExactMostCoveredRow).inPlace == Try.prog.inPlace 19)) = true := by kernel_rfl
theorem fact10 : (((Rows.fnExactMostCoveredRow).unfollowed == Try.prog.unfollowed 19)) = true := by kernel_rfl
theorem fact11 : (((Rows.fnExactMostCoveredRow).recurses == Try.prog.recurses 19)) = true := by kernel_rfl
theorem fact12 : (((Rows.fnExactMostCoveredRow).named == Try.prog.varsNamed 19)) = true := by kernel_rfl
theorem fact13 : (((Rows.fnExactMostCoveredRow).maps == (Try.f19.params.toList ++ (Rows.fnExactMostCoveredSpec).plain.varTypes Try.prog).any (Try.prog.mapsRec ·))) = true := by kernel_rfl
theorem fact14 : (((Rows.fnExactMostCoveredRow).ifaces == (Try.f19.params.toList ++ (Rows.fnExactMostCoveredSpec).plain.varTypes Try.prog).any (Try.prog.ifacesRec ·))) = true := by kernel_rfl
theorem fact15 : (((Rows.fnExactMostCoveredRow).mapsOut == Try.prog.mapsAmong Try.f19.resultTypes.toList)) = true := by kernel_rfl
theorem fact16 : (((Rows.fnExactMostCoveredRow).loops == (Try.f19.params.toList ++ (Rows.fnExactMostCoveredSpec).plain.varTypes Try.prog).any (Try.prog.loopsFrom ·))) = true := by kernel_rfl
theorem fact17 : (((Rows.fnExactMostCoveredRow).wideKeys == (Try.f19.params.toList ++ (Rows.fnExactMostCoveredSpec).plain.varTypes Try.prog ++ Try.f19.resultTypes.toList).any (Try.prog.wideKeysFrom ·))) = true := by kernel_rfl
theorem fact18 : ((Rows.fnExactMostCoveredSpec).vars.all (Try.prog.varReadable ·)) = true := by kernel_rfl
theorem fact19 : (Try.f19.resultTypes.all (fun t => Try.prog.readableRec t && decide (t < Try.prog.types.size))) = true := by kernel_rfl
theorem fact20 : (((Rows.fnExactMostCoveredRow).ifacesOut == Try.f19.resultTypes.toList.any (Try.prog.ifacesRec ·))) = true := by kernel_rfl
theorem fact21 : (((Rows.fnExactMostCoveredRow).loopsOut == Try.f19.resultTypes.toList.any (Try.prog.loopsFrom ·))) = true := by kernel_rfl
theorem fact23 : ((Rows.fnExactMostCoveredRow).shortTexts.isNone) = true := by kernel_rfl
theorem fact28 : (((Rows.fnExactMostCoveredRow).kinds == (if (Rows.fnExactMostCoveredRow).domain.isEmpty then [] else Try.f19.params.toList.map fun t => match Try.prog.underlying t with | some (.int k) => some k | _ => none))) = true := by kernel_rfl
theorem fact29 : (((Rows.fnExactMostCoveredRow).pinned == (Rows.fnExactMostCoveredRow).pinnedBy)) = true := by kernel_rfl
theorem fact30 : (((Rows.fnExactMostCoveredRow).veiled == (Try.f19.params.toList ++ (Rows.fnExactMostCoveredSpec).plain.varTypes Try.prog ++ Try.f19.resultTypes.toList).any (Try.prog.veiledRec ·))) = true := by kernel_rfl
theorem fact31 : ((Rows.fnExactMostCoveredRow).veiledFits Try.prog Try.f19.params.toList (Try.f19.params.toList ++ (Rows.fnExactMostCoveredSpec).plain.varTypes Try.prog ++ Try.f19.resultTypes.toList)) = true := by kernel_rfl
theorem named : Try.pinned.checked.prog.funcNamed (Rows.fnExactMostCoveredRow).func = some 19 := by kernel_rfl
set_option maxRecDepth 100000 in
theorem closed : joinedFacts Try.prog 19 Try.f19 (Rows.fnExactMostCoveredSpec) (Rows.fnExactMostCoveredRow) = true := by
  simp only [joinedFacts, Bool.and_eq_true]
  exact ⟨⟨⟨⟨⟨⟨⟨⟨⟨⟨⟨⟨⟨⟨⟨⟨⟨⟨⟨⟨⟨⟨⟨⟨⟨⟨⟨⟨⟨⟨⟨fact0, pf_laid⟩, pf_maps⟩, fact3⟩, fact4⟩, fact5⟩, pf_stops⟩, fact7⟩, pf_knobs⟩, fact9⟩, fact10⟩, fact11⟩, fact12⟩, fact13⟩, fact14⟩, fact15⟩, fact16⟩, fact17⟩, fact18⟩, fact19⟩, fact20⟩, fact21⟩, pf_keys⟩, fact23⟩, pf_heard⟩, pf_enter⟩, pf_final⟩, pf_make⟩, fact28⟩, fact29⟩, fact30⟩, fact31⟩

theorem over : Rows.fnExactMostCoveredRow.holds Try.pinned (OpenSpec.ofChange Rows.fnExactMostCoveredSpec) :=
  OpenClaim.holds_of_wide 19 Try.f19 rfl rfl rfl rfl rfl rfl rfl ⟨rfl, rfl, rfl, rfl, rfl⟩ rfl rfl rfl rfl rfl named Try.func19 closed
    (of_decide_eq_true (by kernel_rfl)) (by unfold Func.isWrapper; rw [if_neg (by decide +kernel)]; exact ⟨rfl, rfl⟩)
    (fun os started H enc _ => lifted os started H enc)

theorem proved : Rows.FnExactMostCoveredSaid :=
  over
#print axioms proved
end Go.Proofs.Ytmmoejdglnnmcaa.fnExactMostCovered
