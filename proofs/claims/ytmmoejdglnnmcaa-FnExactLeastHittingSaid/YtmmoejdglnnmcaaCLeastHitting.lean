/- The program's LeastHitting returns what the reference's returns, for all arguments. No condition. -/
import Derived.Test.YtmmoejdglnnmcaaRows
import Derived.Test.YtmmoejdglnnmcaaPu
import Derived.Test.YtmmoejdglnnmcaaPv
import Derived.Test.YtmmoejdglnnmcaaKLeastHitting1
import Derived.Test.YtmmoejdglnnmcaaKLeastHitting2
import Derived.WalkKit
import Derived.ProofKit
import Derived.OpenShut
namespace Go.Proofs.Ytmmoejdglnnmcaa.fnExactLeastHitting
open Go Go.ChangeShapes Go.WideShapes Go.ChangeAt Go.RowKit

theorem own : ownKnob Try.prog.godebug = none := by kernel_rfl

set_option maxRecDepth 100000 in
theorem lifted (os : Os) (started : os.Started) (H : Type) (enc : TypeId × Value → H) :
    ReturnsInHanded {} Try.checked os 20 .any (Rows.fnExactLeastHittingSpec.pre6 enc Try.prog Try.f20 Rows.fnExactLeastHittingRow.domain false) (Rows.fnExactLeastHittingSpec.post enc Try.prog Try.f20 false true false false) := by
  refine returnsInHanded_of_change (C := Try.checked) own started (by kernel_rfl) Try.func20
    (ChangeSpec.witness6 (enc := enc) (C := Try.checked) false ⟨#[], #[.agg #[.int .i64 0, .slice none 0 0, .slice none 0 0]], []⟩ 8 (by kernel_rfl) (by kernel_rfl) (by kernel_rfl) (by kernel_rfl)) ?_
  intro W base args ds gs before hval0 hW hcnd _
  have hval : ∀ (j : Nat) t v, Try.f20.params[j]? = some t → args[j]? = some v → Value.okWide Try.prog W .any base t v := hval0
  have hW' := hW
  obtain ⟨p, q, hA0, hV, rfl, hfz, hnd⟩ := hW
  have hA : DataW.TrodAll enc Try.prog W 0 (fun _ => true) true Try.f20.params.toList args.toList ds p := hA0
  rw [Try.params20] at hA hval
  obtain ⟨v0, vs0, d0, ds0, p0', q0, hargs, rfl, rfl, h0, r0⟩ := trodAll_cons hA
  obtain ⟨rfl, rfl, rfl⟩ := trodAll_nil r0
  obtain rfl : args = #[v0] := by cases args; simp_all
  obtain ⟨a0, b0, c0, w0, p0⟩ := arg_sys (ti := 3) (tr := 29) (tl := 22) Try.underlying44 (by kernel_rfl) rfl rfl rfl rfl rfl rfl Try.underlying3 (by kernel_rfl) Try.underlying22 (by kernel_rfl) Try.underlying29 (by kernel_rfl) (hval 0 44 v0 rfl rfl) h0
  refine (law_calls (l_FnExactLeastHitting_pc a0 b0 c0) W [v0] (all2_cons w0 (all2_nil))).mono fun e W' ⟨he, hg⟩ => ?_
  subst he
  exact ⟨_, rfl, post_below (by kernel_rfl) (by kernel_rfl) rfl rfl Try.underlying4 hW' rfl hg⟩

theorem fact0 : ((Rows.fnExactLeastHittingRow).wf (OpenSpec.ofChange (Rows.fnExactLeastHittingSpec))) = true := by kernel_rfl
theorem fact3 : (Try.f20.params.all (Try.prog.readableRec ·)) = true := by kernel_rfl
theorem fact4 : (namedTie Try.prog (Rows.fnExactLeastHittingRow).named (Rows.fnExactLeastHittingSpec).vars) = true := by kernel_rfl
theorem fact5 : (((Rows.fnExactLeastHittingRow).stops == [])) = true := by kernel_rfl
theorem fact7 : (((Rows.fnExactLeastHittingRow).knobs == [])) = true := by kernel_rfl
theorem fact9 : (((Rows.fnExactLeastHittingRow).inPlace == Try.prog.inPlace 20)) = true := by kernel_rfl
theorem fact10 : (((Rows.fnExactLeastHittingRow).unfollowed == Try.prog.unfollowed 20)) = true := by kernel_rfl
theorem fact11 : (((Rows.fnExactLeastHittingRow).recurses == Try.prog.recurses 20)) = true := by kernel_rfl
theorem fact12 : (((Rows.fnExactLeastHittingRow).named == Try.prog.varsNamed 20)) = true := by kernel_rfl
theorem fact13 : (((Rows.fnExactLeastHittingRow).maps == (Try.f20.params.toList ++ (Rows.fnExactLeastHittingSpec).plain.varTypes Try.prog).any (Try.prog.mapsRec ·))) = true := by kernel_rfl
theorem fact14 : (((Rows.fnExactLeastHittingRow).ifaces == (Try.f20.params.toList ++ (Rows.fnExactLeastHittingSpec).plain.varTypes Try.prog).any (Try.prog.ifacesRec ·))) = true := by kernel_rfl
theorem fact15 : (((Rows.fnExactLeastHittingRow).mapsOut == Try.prog.mapsAmong Try.f20.resultTypes.toList)) = true := by kernel_rfl
theorem fact16 : (((Rows.fnExactLeastHittingRow).loops == (Try.f20.params.toList ++ (Rows.fnExactLeastHittingSpec).plain.varTypes Try.prog).any (Try.prog.loopsFrom ·))) = true := by kernel_rfl
theorem fact17 : (((Rows.fnExactLeastHittingRow).wideKeys == (Try.f20.params.toList ++ (Rows.fnExactLeastHittingSpec).plain.varTypes Try.prog ++ Try.f20.resultTypes.toList).any (Try.prog.wideKeysFrom ·))) = true := by kernel_rfl
theorem fact18 : ((Rows.fnExactLeastHittingSpec).vars.all (Try.prog.varReadable ·)) = true := by kernel_rfl
theorem fact19 : (Try.f20.resultTypes.all (fun t => Try.prog.readableRec t && decide (t < Try.prog.types.size))) = true := by kernel_rfl
theorem fact20 : (((Rows.fnExactLeastHittingRow).ifacesOut == Try.f20.resultTypes.toList.any (Try.prog.ifacesRec ·))) = true := by kernel_rfl
theorem fact21 : (((Rows.fnExactLeastHittingRow).loopsOut == Try.f20.resultTypes.toList.any (Try.prog.loopsFrom ·))) = true := by kernel_rfl
theorem fact23 : ((Rows.fnExactLeastHittingRow).shortTexts.isNone) = true := by kernel_rfl
theorem fact28 : (((Rows.fnExactLeastHittingRow).kinds == (if (Rows.fnExactLeastHittingRow).domain.isEmpty then [] else Try.f20.params.toList.map fun t => match Try.prog.underlying t with | some (.int k) => some k | _ => none))) = true := by kernel_rfl
theorem fact29 : (((Rows.fnExactLeastHittingRow).pinned == (Rows.fnExactLeastHittingRow).pinnedBy)) = true := by kernel_rfl
theorem fact30 : (((Rows.fnExactLeastHittingRow).veiled == (Try.f20.params.toList ++ (Rows.fnExactLeastHittingSpec).plain.varTypes Try.prog ++ Try.f20.resultTypes.toList).any (Try.prog.veiledRec ·))) = true := by kernel_rfl
theorem fact31 : ((Rows.fnExactLeastHittingRow).veiledFits Try.prog Try.f20.params.toList (Try.f20.params.toList ++ (Rows.fnExactLeastHittingSpec).plain.varTypes Try.prog ++ Try.f20.resultTypes.toList)) = true := by kernel_rfl
theorem named : Try.pinned.checked.prog.funcNamed (Rows.fnExactLeastHittingRow).func = some 20 := by kernel_rfl
set_option maxRecDepth 100000 in
theorem closed : joinedFacts Try.prog 20 Try.f20 (Rows.fnExactLeastHittingSpec) (Rows.fnExactLeastHittingRow) = true := by
  simp only [joinedFacts, Bool.and_eq_true]
  exact ⟨⟨⟨⟨⟨⟨⟨⟨⟨⟨⟨⟨⟨⟨⟨⟨⟨⟨⟨⟨⟨⟨⟨⟨⟨⟨⟨⟨⟨⟨⟨fact0, pf_laid⟩, pf_maps⟩, fact3⟩, fact4⟩, fact5⟩, pf_stops⟩, fact7⟩, pf_knobs⟩, fact9⟩, fact10⟩, fact11⟩, fact12⟩, fact13⟩, fact14⟩, fact15⟩, fact16⟩, fact17⟩, fact18⟩, fact19⟩, fact20⟩, fact21⟩, pf_keys⟩, fact23⟩, pf_heard⟩, pf_enter⟩, pf_final⟩, pf_make⟩, fact28⟩, fact29⟩, fact30⟩, fact31⟩

theorem over : Rows.fnExactLeastHittingRow.holds Try.pinned (OpenSpec.ofChange Rows.fnExactLeastHittingSpec) :=
  OpenClaim.holds_of_wide 20 Try.f20 rfl rfl rfl rfl rfl rfl rfl ⟨rfl, rfl, rfl, rfl, rfl⟩ rfl rfl rfl rfl rfl named Try.func20 closed
    (of_decide_eq_true (by kernel_rfl)) (by unfold Func.isWrapper; rw [if_neg (by decide +kernel)]; exact ⟨rfl, rfl⟩)
    (fun os started H enc _ => lifted os started H enc)

theorem proved : Rows.FnExactLeastHittingSaid :=
  over
#print axioms proved
end Go.Proofs.Ytmmoejdglnnmcaa.fnExactLeastHitting
