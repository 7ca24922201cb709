/- The program's LineGroups returns what the reference's returns, for all arguments. No condition. -/
import Derived.Test.YtomnmacmlhkceaaRows
import Derived.Test.YtomnmacmlhkceaaQu
import Derived.Test.YtomnmacmlhkceaaQv
import Derived.Test.YtomnmacmlhkceaaKLineGroups1
import Derived.Test.YtomnmacmlhkceaaKLineGroups2
import Derived.WalkKit
import Derived.ProofKit
import Derived.OpenShut
namespace Go.Proofs.Ytomnmacmlhkceaa.fnExactLineGroups
open Go Go.ChangeShapes Go.WideShapes Go.ChangeAt Go.RowKit

theorem own : ownKnob Try.prog.godebug = none := by kernel_rfl

set_option maxRecDepth 100000 in
theorem lifted (os : Os) (started : os.Started) (H : Type) (enc : TypeId × Value → H) :
    ReturnsInHanded {} Try.checked os 7 .any (Rows.fnExactLineGroupsSpec.pre6 enc Try.prog Try.f7 Rows.fnExactLineGroupsRow.domain false) (Rows.fnExactLineGroupsSpec.post enc Try.prog Try.f7 false true false false) := by
  refine returnsInHanded_of_change (C := Try.checked) own started (by kernel_rfl) Try.func7
    (ChangeSpec.witness6 (enc := enc) (C := Try.checked) false ⟨#[], #[.slice none 0 0, .slice none 0 0, .int .i64 0], []⟩ 8 (by kernel_rfl) (by kernel_rfl) (by kernel_rfl) (by kernel_rfl)) ?_
  intro W base args ds gs before hval0 hW hcnd _
  have hval : ∀ (j : Nat) t v, Try.f7.params[j]? = some t → args[j]? = some v → Value.okWide Try.prog W .any base t v := hval0
  have hW' := hW
  obtain ⟨p, q, hA0, hV, rfl, hfz, hnd⟩ := hW
  have hA : DataW.TrodAll enc Try.prog W 0 (fun _ => true) true Try.f7.params.toList args.toList ds p := hA0
  rw [Try.params7] at hA hval
  obtain ⟨v0, vs0, d0, ds0, p0', q0, hargs, rfl, rfl, h0, r0⟩ := trodAll_cons hA
  obtain ⟨v1, vs1, d1, ds1, p1', q1, rfl, rfl, rfl, h1, r1⟩ := trodAll_cons r0
  obtain ⟨v2, vs2, d2, ds2, p2', q2, rfl, rfl, rfl, h2, r2⟩ := trodAll_cons r1
  obtain ⟨rfl, rfl, rfl⟩ := trodAll_nil r2
  obtain rfl : args = #[v0, v1, v2] := by cases args; simp_all
  obtain ⟨a0, w0, p0⟩ := arg_ints Try.underlying26 Try.underlying3 (by kernel_rfl) (hval 0 26 v0 rfl rfl) h0
  obtain ⟨a1, w1, p1⟩ := arg_ints Try.underlying26 Try.underlying3 (by kernel_rfl) (hval 1 26 v1 rfl rfl) h1
  obtain ⟨a2, w2, p2⟩ := arg_int Try.underlying3 (hval 2 3 v2 rfl rfl) h2
  refine (law_calls (l_FnExactLineGroups_pc a0 a1 a2) W [v0, v1, v2] (all2_cons w0 (all2_cons w1 (all2_cons w2 (all2_nil))))).mono fun e W' ⟨he, hg⟩ => ?_
  subst he
  exact ⟨_, rfl, post_below (by kernel_rfl) (by kernel_rfl) rfl rfl Try.underlying4 hW' rfl hg⟩

theorem fact0 : ((Rows.fnExactLineGroupsRow).wf (OpenSpec.ofChange (Rows.fnExactLineGroupsSpec))) = true := by kernel_rfl
theorem fact3 : (Try.f7.params.all (Try.prog.readableRec ·)) = true := by kernel_rfl
theorem fact4 : (namedTie Try.prog (Rows.fnExactLineGroupsRow).named (Rows.fnExactLineGroupsSpec).vars) = true := by kernel_rfl
theorem fact5 : (((Rows.fnExactLineGroupsRow).stops == [])) = true := by kernel_rfl
theorem fact7 : (((Rows.fnExactLineGroupsRow).knobs == [])) = true := by kernel_rfl
theorem fact9 : (((Rows.fnExactLineGroupsRow).inPlace == Try.prog.inPlace 7)) = true := by kernel_rfl
theorem fact10 : (((Rows.fnExactLineGroupsRow).unfollowed == Try.prog.unfollowed 7)) = true := by kernel_rfl
theorem fact11 : (((Rows.fnExactLineGroupsRow).recurses == Try.prog.recurses 7)) = true := by kernel_rfl
theorem fact12 : (((Rows.fnExactLineGroupsRow).named == Try.prog.varsNamed 7)) = true := by kernel_rfl
theorem fact13 : (((Rows.fnExactLineGroupsRow).maps == (Try.f7.params.toList ++ (Rows.fnExactLineGroupsSpec).plain.varTypes Try.prog).any (Try.prog.mapsRec ·))) = true := by kernel_rfl
theorem fact14 : (((Rows.fnExactLineGroupsRow).ifaces == (Try.f7.params.toList ++ (Rows.fnExactLineGroupsSpec).plain.varTypes Try.prog).any (Try.prog.ifacesRec ·))) = true := by kernel_rfl
theorem fact15 : (((Rows.fnExactLineGroupsRow).mapsOut == Try.prog.mapsAmong Try.f7.resultTypes.toList)) = true := by kernel_rfl
theorem fact16 : (((Rows.fnExactLineGroupsRow).loops == (Try.f7.params.toList ++ (Rows.fnExactLineGroupsSpec).plain.varTypes Try.prog).any (Try.prog.loopsFrom ·))) = true := by kernel_rfl
theorem fact17 : (((Rows.fnExactLineGroupsRow).wideKeys == (Try.f7.params.toList ++ (Rows.fnExactLineGroupsSpec).plain.varTypes Try.prog ++ Try.f7.resultTypes.toList).any (Try.prog.wideKeysFrom ·))) = true := by kernel_rfl
theorem fact18 : ((Rows.fnExactLineGroupsSpec).vars.all (Try.prog.varReadable ·)) = true := by kernel_rfl
theorem fact19 : (Try.f7.resultTypes.all (fun t => Try.prog.readableRec t && decide (t < Try.prog.types.size))) = true := by kernel_rfl
theorem fact20 : (((Rows.fnExactLineGroupsRow).ifacesOut == Try.f7.resultTypes.toList.any (Try.prog.ifacesRec ·))) = true := by kernel_rfl
theorem fact21 : (((Rows.fnExactLineGroupsRow).loopsOut == Try.f7.resultTypes.toList.any (Try.prog.loopsFrom ·))) = true := by kernel_rfl
theorem fact23 : ((Rows.fnExactLineGroupsRow).shortTexts.isNone) = true := by kernel_rfl
theorem fact28 : (((Rows.fnExactLineGroupsRow).kinds == (if (Rows.fnExactLineGroupsRow).domain.isEmpty then [] else Try.f7.params.toList.map fun t => match Try.prog.underlying t with | some (.int k) => some k | _ => none))) = true := by kernel_rfl
theorem fact29 : (((Rows.fnExactLineGroupsRow).pinned == (Rows.fnExactLineGroupsRow).pinnedBy)) = true := by kernel_rfl
theorem fact30 : (((Rows.fnExactLineGroupsRow).veiled == (Try.f7.params.toList ++ (Rows.fnExactLineGroupsSpec).plain.varTypes Try.prog ++ Try.f7.resultTypes.toList).any (Try.prog.veiledRec ·))) = true := by kernel_rfl
theorem fact31 : ((Rows.fnExactLineGroupsRow).veiledFits Try.prog Try.f7.params.toList (Try.f7.params.toList ++ (Rows.fnExactLineGroupsSpec).plain.varTypes Try.prog ++ Try.f7.resultTypes.toList)) = true := by kernel_rfl
theorem named : Try.pinned.checked.prog.funcNamed (Rows.fnExactLineGroupsRow).func = some 7 := by kernel_rfl
set_option maxRecDepth 100000 in
theorem closed : joinedFacts Try.prog 7 Try.f7 (Rows.fnExactLineGroupsSpec) (Rows.fnExactLineGroupsRow) = true := by
  simp only [joinedFacts, Bool.and_eq_true]
  exact ⟨⟨⟨⟨⟨⟨⟨⟨⟨⟨⟨⟨⟨⟨⟨⟨⟨⟨⟨⟨⟨⟨⟨⟨⟨⟨⟨⟨⟨⟨⟨fact0, pf_laid⟩, pf_maps⟩, fact3⟩, fact4⟩, fact5⟩, pf_stops⟩, fact7⟩, pf_knobs⟩, fact9⟩, fact10⟩, fact11⟩, fact12⟩, fact13⟩, fact14⟩, fact15⟩, fact16⟩, fact17⟩, fact18⟩, fact19⟩, fact20⟩, fact21⟩, pf_keys⟩, fact23⟩, pf_heard⟩, pf_enter⟩, pf_final⟩, pf_make⟩, fact28⟩, fact29⟩, fact30⟩, fact31⟩

theorem over : Rows.fnExactLineGroupsRow.holds Try.pinned (OpenSpec.ofChange Rows.fnExactLineGroupsSpec) :=
  OpenClaim.holds_of_wide 7 Try.f7 rfl rfl rfl rfl rfl rfl rfl ⟨rfl, rfl, rfl, rfl, rfl⟩ rfl rfl rfl rfl rfl named Try.func7 closed
    (of_decide_eq_true (by kernel_rfl)) (by unfold Func.isWrapper; rw [if_neg (by decide +kernel)]; exact ⟨rfl, rfl⟩)
    (fun os started H enc _ => lifted os started H enc)

theorem proved : Rows.FnExactLineGroupsSaid :=
  over
#print axioms proved
end Go.Proofs.Ytomnmacmlhkceaa.fnExactLineGroups
