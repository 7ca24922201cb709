/- The program's TurnSystem returns what the reference's returns, for all arguments. No condition. -/
import Derived.Test.YtomnmacmlhkceaaRows
import Derived.Test.YtomnmacmlhkceaaQu
import Derived.Test.YtomnmacmlhkceaaQv
import Derived.Test.YtomnmacmlhkceaaKTurnSystem1
import Derived.WalkKit
import Derived.ProofKit
import Derived.OpenShut
namespace Go.Proofs.Ytomnmacmlhkceaa.fnExactTurnSystem
open Go Go.ChangeShapes Go.WideShapes Go.ChangeAt Go.RowKit

theorem own : ownKnob Try.prog.godebug = none := by kernel_rfl

set_option maxRecDepth 100000 in
theorem lifted (os : Os) (started : os.Started) (H : Type) (enc : TypeId × Value → H) :
    ReturnsInHanded {} Try.checked os 5 .any (Rows.fnExactTurnSystemSpec.pre6 enc Try.prog Try.f5 Rows.fnExactTurnSystemRow.domain false) (Rows.fnExactTurnSystemSpec.post enc Try.prog Try.f5 false true false false) := by
  refine returnsInHanded_of_change (C := Try.checked) own started (by kernel_rfl) Try.func5
    (ChangeSpec.witness6 (enc := enc) (C := Try.checked) false ⟨#[], #[.agg #[.int .i64 0, .slice none 0 0, .slice none 0 0]], []⟩ 8 (by kernel_rfl) (by kernel_rfl) (by kernel_rfl) (by kernel_rfl)) ?_
  intro W base args ds gs before hval0 hW hcnd _
  have hval : ∀ (j : Nat) t v, Try.f5.params[j]? = some t → args[j]? = some v → Value.okWide Try.prog W .any base t v := hval0
  have hW' := hW
  obtain ⟨p, q, hA0, hV, rfl, hfz, hnd⟩ := hW
  have hA : DataW.TrodAll enc Try.prog W 0 (fun _ => true) true Try.f5.params.toList args.toList ds p := hA0
  rw [Try.params5] at hA hval
  obtain ⟨v0, vs0, d0, ds0, p0', q0, hargs, rfl, rfl, h0, r0⟩ := trodAll_cons hA
  obtain ⟨rfl, rfl, rfl⟩ := trodAll_nil r0
  obtain rfl : args = #[v0] := by cases args; simp_all
  obtain ⟨a0, b0, c0, w0, p0⟩ := arg_sys (ti := 3) (tr := 31) (tl := 26) Try.underlying46 (by kernel_rfl) rfl rfl rfl rfl rfl rfl Try.underlying3 (by kernel_rfl) Try.underlying26 (by kernel_rfl) Try.underlying31 (by kernel_rfl) (hval 0 46 v0 rfl rfl) h0
  refine (law_calls (l_FnExactTurnSystem_pc a0 b0 c0) W [v0] (all2_cons w0 (all2_nil))).mono fun e W' ⟨he, hg⟩ => ?_
  subst he
  exact ⟨_, rfl, post_below (by kernel_rfl) (by kernel_rfl) rfl rfl Try.underlying4 hW' rfl hg⟩

theorem fact0 : ((Rows.fnExactTurnSystemRow).wf (OpenSpec.ofChange (Rows.fnExactTurnSystemSpec))) = true := by kernel_rfl
theorem fact3 : (Try.f5.params.all (Try.prog.readableRec ·)) = true := by kernel_rfl
theorem fact4 : (namedTie Try.prog (Rows.fnExactTurnSystemRow).named (Rows.fnExactTurnSystemSpec).vars) = true := by kernel_rfl
theorem fact5 : (((Rows.fnExactTurnSystemRow).stops == [])) = true := by kernel_rfl
theorem fact7 : (((Rows.fnExactTurnSystemRow).knobs == [])) = true := by kernel_rfl
theorem fact9 : (((Rows.fnExactTurnSystemRow).inPlace == Try.prog.inPlace 5)) = true := by kernel_rfl
theorem fact10 : (((Rows.fnExactTurnSystemRow).unfollowed == Try.prog.unfollowed 5)) = true := by kernel_rfl
theorem fact11 : (((Rows.fnExactTurnSystemRow).recurses == Try.prog.recurses 5)) = true := by kernel_rfl
theorem fact12 : (((Rows.fnExactTurnSystemRow).named == Try.prog.varsNamed 5)) = true := by kernel_rfl
theorem fact13 : (((Rows.fnExactTurnSystemRow).maps == (Try.f5.params.toList ++ (Rows.fnExactTurnSystemSpec).plain.varTypes Try.prog).any (Try.prog.mapsRec ·))) = true := by kernel_rfl
theorem fact14 : (((Rows.fnExactTurnSystemRow).ifaces == (Try.f5.params.toList ++ (Rows.fnExactTurnSystemSpec).plain.varTypes Try.prog).any (Try.prog.ifacesRec ·))) = true := by kernel_rfl
theorem fact15 : (((Rows.fnExactTurnSystemRow).mapsOut == Try.prog.mapsAmong Try.f5.resultTypes.toList)) = true := by kernel_rfl
theorem fact16 : (((Rows.fnExactTurnSystemRow).loops == (Try.f5.params.toList ++ (Rows.fnExactTurnSystemSpec).plain.varTypes Try.prog).any (Try.prog.loopsFrom ·))) = true := by kernel_rfl
theorem fact17 : (((Rows.fnExactTurnSystemRow).wideKeys == (Try.f5.params.toList ++ (Rows.fnExactTurnSystemSpec).plain.varTypes Try.prog ++ Try.f5.resultTypes.toList).any (Try.prog.wideKeysFrom ·))) = true := by kernel_rfl
theorem fact18 : ((Rows.fnExactTurnSystemSpec).vars.all (Try.prog.varReadable ·)) = true := by kernel_rfl
theorem fact19 : (Try.f5.resultTypes.all (fun t => Try.prog.readableRec t && decide (t < Try.prog.types.size))) = true := by kernel_rfl
theorem fact20 : (((Rows.fnExactTurnSystemRow).ifacesOut == Try.f5.resultTypes.toList.any (Try.prog.ifacesRec ·))) = true := by kernel_rfl
theorem fact21 : (((Rows.fnExactTurnSystemRow).loopsOut == Try.f5.resultTypes.toList.any (Try.prog.loopsFrom ·))) = true := by kernel_rfl
theorem fact23 : ((Rows.fnExactTurnSystemRow).shortTexts.isNone) = true := by kernel_rfl
theorem fact28 : (((Rows.fnExactTurnSystemRow).kinds == (if (Rows.fnExactTurnSystemRow).domain.isEmpty then [] else Try.f5.params.toList.map fun t => match Try.prog.underlying t with | some (.int k) => some k | _ => none))) = true := by kernel_rfl
theorem fact29 : (((Rows.fnExactTurnSystemRow).pinned == (Rows.fnExactTurnSystemRow).pinnedBy)) = true := by kernel_rfl
theorem fact30 : (((Rows.fnExactTurnSystemRow).veiled == (Try.f5.params.toList ++ (Rows.fnExactTurnSystemSpec).plain.varTypes Try.prog ++ Try.f5.resultTypes.toList).any (Try.prog.veiledRec ·))) = true := by kernel_rfl
theorem fact31 : ((Rows.fnExactTurnSystemRow).veiledFits Try.prog Try.f5.params.toList (Try.f5.params.toList ++ (Rows.fnExactTurnSystemSpec).plain.varTypes Try.prog ++ Try.f5.resultTypes.toList)) = true := by kernel_rfl
theorem named : Try.pinned.checked.prog.funcNamed (Rows.fnExactTurnSystemRow).func = some 5 := by kernel_rfl
set_option maxRecDepth 100000 in
theorem closed : joinedFacts Try.prog 5 Try.f5 (Rows.fnExactTurnSystemSpec) (Rows.fnExactTurnSystemRow) = true := by
  simp only [joinedFacts, Bool.and_eq_true]
  exact ⟨⟨⟨⟨⟨⟨⟨⟨⟨⟨⟨⟨⟨⟨⟨⟨⟨⟨⟨⟨⟨⟨⟨⟨⟨⟨⟨⟨⟨⟨⟨fact0, pf_laid⟩, pf_maps⟩, fact3⟩, fact4⟩, fact5⟩, pf_stops⟩, fact7⟩, pf_knobs⟩, fact9⟩, fact10⟩, fact11⟩, fact12⟩, fact13⟩, fact14⟩, fact15⟩, fact16⟩, fact17⟩, fact18⟩, fact19⟩, fact20⟩, fact21⟩, pf_keys⟩, fact23⟩, pf_heard⟩, pf_enter⟩, pf_final⟩, pf_make⟩, fact28⟩, fact29⟩, fact30⟩, fact31⟩

theorem over : Rows.fnExactTurnSystemRow.holds Try.pinned (OpenSpec.ofChange Rows.fnExactTurnSystemSpec) :=
  OpenClaim.holds_of_wide 5 Try.f5 rfl rfl rfl rfl rfl rfl rfl ⟨rfl, rfl, rfl, rfl, rfl⟩ rfl rfl rfl rfl rfl named Try.func5 closed
    (of_decide_eq_true (by kernel_rfl)) (by unfold Func.isWrapper; rw [if_neg (by decide +kernel)]; exact ⟨rfl, rfl⟩)
    (fun os started H enc _ => lifted os started H enc)

theorem proved : Rows.FnExactTurnSystemSaid :=
  over
#print axioms proved
end Go.Proofs.Ytomnmacmlhkceaa.fnExactTurnSystem
