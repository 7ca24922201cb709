/- The program's ReachSystem returns what the reference's returns, for all arguments. No condition. -/
import Derived.Test.YtomnmacmlhkceaaRows
import Derived.Test.YtomnmacmlhkceaaQu
import Derived.Test.YtomnmacmlhkceaaQv
import Derived.Test.YtomnmacmlhkceaaKReachSystem1
import Derived.WalkKit
import Derived.ProofKit
import Derived.OpenShut
namespace Go.Proofs.Ytomnmacmlhkceaa.fnExactReachSystem
open Go Go.ChangeShapes Go.WideShapes Go.ChangeAt Go.RowKit

theorem own : ownKnob Try.prog.godebug = none := by kernel_rfl

set_option maxRecDepth 100000 in
theorem lifted (os : Os) (started : os.Started) (H : Type) (enc : TypeId × Value → H) :
    ReturnsInHanded {} Try.checked os 4 .any (Rows.fnExactReachSystemSpec.pre6 enc Try.prog Try.f4 Rows.fnExactReachSystemRow.domain false) (Rows.fnExactReachSystemSpec.post enc Try.prog Try.f4 false true false false) := by
  refine returnsInHanded_of_change (C := Try.checked) own started (by kernel_rfl) Try.func4
    (ChangeSpec.witness6 (enc := enc) (C := Try.checked) false ⟨#[], #[.agg #[.slice none 0 0, .slice none 0 0], .int .i64 0], []⟩ 8 (by kernel_rfl) (by kernel_rfl) (by kernel_rfl) (by kernel_rfl)) ?_
  intro W base args ds gs before hval0 hW hcnd _
  have hval : ∀ (j : Nat) t v, Try.f4.params[j]? = some t → args[j]? = some v → Value.okWide Try.prog W .any base t v := hval0
  have hW' := hW
  obtain ⟨p, q, hA0, hV, rfl, hfz, hnd⟩ := hW
  have hA : DataW.TrodAll enc Try.prog W 0 (fun _ => true) true Try.f4.params.toList args.toList ds p := hA0
  rw [Try.params4] at hA hval
  obtain ⟨v0, vs0, d0, ds0, p0', q0, hargs, rfl, rfl, h0, r0⟩ := trodAll_cons hA
  obtain ⟨v1, vs1, d1, ds1, p1', q1, rfl, rfl, rfl, h1, r1⟩ := trodAll_cons r0
  obtain ⟨rfl, rfl, rfl⟩ := trodAll_nil r1
  obtain rfl : args = #[v0, v1] := by cases args; simp_all
  obtain ⟨a0, b0, w0, p0⟩ := arg_field (ti := 3) (tr := 31) (tl := 26) Try.underlying33 (by kernel_rfl) rfl rfl rfl rfl Try.underlying3 (by kernel_rfl) Try.underlying26 (by kernel_rfl) Try.underlying31 (by kernel_rfl) (hval 0 33 v0 rfl rfl) h0
  obtain ⟨a1, w1, p1⟩ := arg_int Try.underlying3 (hval 1 3 v1 rfl rfl) h1
  refine (law_calls (l_FnExactReachSystem_pc a0 b0 a1) W [v0, v1] (all2_cons w0 (all2_cons w1 (all2_nil)))).mono fun e W' ⟨he, hg⟩ => ?_
  subst he
  exact ⟨_, rfl, post_below (by kernel_rfl) (by kernel_rfl) rfl rfl Try.underlying4 hW' rfl hg⟩

theorem fact0 : ((Rows.fnExactReachSystemRow).wf (OpenSpec.ofChange (Rows.fnExactReachSystemSpec))) = true := by kernel_rfl
theorem fact3 : (Try.f4.params.all (Try.prog.readableRec ·)) = true := by kernel_rfl
theorem fact4 : (namedTie Try.prog (Rows.fnExactReachSystemRow).named (Rows.fnExactReachSystemSpec).vars) = true := by kernel_rfl
theorem fact5 : (((Rows.fnExactReachSystemRow).stops == [])) = true := by kernel_rfl
theorem fact7 : (((Rows.fnExactReachSystemRow).knobs == [])) = true := by kernel_rfl
theorem fact9 : (((Rows.fnExactReachSystemRow).inPlace == Try.prog.inPlace 4)) = true := by kernel_rfl
theorem fact10 : (((Rows.fnExactReachSystemRow).unfollowed == Try.prog.unfollowed 4)) = true := by kernel_rfl
theorem fact11 : (((Rows.fnExactReachSystemRow).recurses == Try.prog.recurses 4)) = true := by kernel_rfl
theorem fact12 : (((Rows.fnExactReachSystemRow).named == Try.prog.varsNamed 4)) = true := by kernel_rfl
theorem fact13 : (((Rows.fnExactReachSystemRow).maps == (Try.f4.params.toList ++ (Rows.fnExactReachSystemSpec).plain.varTypes Try.prog).any (Try.prog.mapsRec ·))) = true := by kernel_rfl
theorem fact14 : (((Rows.fnExactReachSystemRow).ifaces == (Try.f4.params.toList ++ (Rows.fnExactReachSystemSpec).plain.varTypes Try.prog).any (Try.prog.ifacesRec ·))) = true := by kernel_rfl
theorem fact15 : (((Rows.fnExactReachSystemRow).mapsOut == Try.prog.mapsAmong Try.f4.resultTypes.toList)) = true := by kernel_rfl
theorem fact16 : (((Rows.fnExactReachSystemRow).loops == (Try.f4.params.toList ++ (Rows.fnExactReachSystemSpec).plain.varTypes Try.prog).any (Try.prog.loopsFrom ·))) = true := by kernel_rfl
theorem fact17 : (((Rows.fnExactReachSystemRow).wideKeys == (Try.f4.params.toList ++ (Rows.fnExactReachSystemSpec).plain.varTypes Try.prog ++ Try.f4.resultTypes.toList).any (Try.prog.wideKeysFrom ·))) = true := by kernel_rfl
theorem fact18 : ((Rows.fnExactReachSystemSpec).vars.all (Try.prog.varReadable ·)) = true := by kernel_rfl
theorem fact19 : (Try.f4.resultTypes.all (fun t => Try.prog.readableRec t && decide (t < Try.prog.types.size))) = true := by kernel_rfl
theorem fact20 : (((Rows.fnExactReachSystemRow).ifacesOut == Try.f4.resultTypes.toList.any (Try.prog.ifacesRec ·))) = true := by kernel_rfl
theorem fact21 : (((Rows.fnExactReachSystemRow).loopsOut == Try.f4.resultTypes.toList.any (Try.prog.loopsFrom ·))) = true := by kernel_rfl
theorem fact23 : ((Rows.fnExactReachSystemRow).shortTexts.isNone) = true := by kernel_rfl
theorem fact28 : (((Rows.fnExactReachSystemRow).kinds == (if (Rows.fnExactReachSystemRow).domain.isEmpty then [] else Try.f4.params.toList.map fun t => match Try.prog.underlying t with | some (.int k) => some k | _ => none))) = true := by kernel_rfl
theorem fact29 : (((Rows.fnExactReachSystemRow).pinned == (Rows.fnExactReachSystemRow).pinnedBy)) = true := by kernel_rfl
theorem fact30 : (((Rows.fnExactReachSystemRow).veiled == (Try.f4.params.toList ++ (Rows.fnExactReachSystemSpec).plain.varTypes Try.prog ++ Try.f4.resultTypes.toList).any (Try.prog.veiledRec ·))) = true := by kernel_rfl
theorem fact31 : ((Rows.fnExactReachSystemRow).veiledFits Try.prog Try.f4.params.toList (Try.f4.params.toList ++ (Rows.fnExactReachSystemSpec).plain.varTypes Try.prog ++ Try.f4.resultTypes.toList)) = true := by kernel_rfl
theorem named : Try.pinned.checked.prog.funcNamed (Rows.fnExactReachSystemRow).func = some 4 := by kernel_rfl
set_option maxRecDepth 100000 in
theorem closed : joinedFacts Try.prog 4 Try.f4 (Rows.fnExactReachSystemSpec) (Rows.fnExactReachSystemRow) = true := by
  simp only [joinedFacts, Bool.and_eq_true]
  exact ⟨⟨⟨⟨⟨⟨⟨⟨⟨⟨⟨⟨⟨⟨⟨⟨⟨⟨⟨⟨⟨⟨⟨⟨⟨⟨⟨⟨⟨⟨⟨fact0, pf_laid⟩, pf_maps⟩, fact3⟩, fact4⟩, fact5⟩, pf_stops⟩, fact7⟩, pf_knobs⟩, fact9⟩, fact10⟩, fact11⟩, fact12⟩, fact13⟩, fact14⟩, fact15⟩, fact16⟩, fact17⟩, fact18⟩, fact19⟩, fact20⟩, fact21⟩, pf_keys⟩, fact23⟩, pf_heard⟩, pf_enter⟩, pf_final⟩, pf_make⟩, fact28⟩, fact29⟩, fact30⟩, fact31⟩

theorem over : Rows.fnExactReachSystemRow.holds Try.pinned (OpenSpec.ofChange Rows.fnExactReachSystemSpec) :=
  OpenClaim.holds_of_wide 4 Try.f4 rfl rfl rfl rfl rfl rfl rfl ⟨rfl, rfl, rfl, rfl, rfl⟩ rfl rfl rfl rfl rfl named Try.func4 closed
    (of_decide_eq_true (by kernel_rfl)) (by unfold Func.isWrapper; rw [if_neg (by decide +kernel)]; exact ⟨rfl, rfl⟩)
    (fun os started H enc _ => lifted os started H enc)

theorem proved : Rows.FnExactReachSystemSaid :=
  over
#print axioms proved
end Go.Proofs.Ytomnmacmlhkceaa.fnExactReachSystem
