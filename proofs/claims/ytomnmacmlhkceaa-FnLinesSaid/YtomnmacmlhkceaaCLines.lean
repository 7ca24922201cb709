/- The Field of a line is metric, its medians are told by tables, and the sites of a median serve clients that are next to each other. No condition. No condition. -/
import Derived.Test.YtomnmacmlhkceaaRows
import Derived.Test.YtomnmacmlhkceaaQuy
import Derived.Test.YtomnmacmlhkceaaQv
import Derived.Test.YtomnmacmlhkceaaKLines1
import Derived.Test.YtomnmacmlhkceaaKLines2
import Derived.WalkKit
import Derived.ProofKit
import Derived.OpenShut
namespace Go.Proofs.Ytomnmacmlhkceaa.fnLines
open Go Go.ChangeShapes Go.WideShapes Go.ChangeAt Go.RowKit

theorem own : ownKnob Try.prog.godebug = none := by kernel_rfl

set_option maxRecDepth 100000 in
theorem lifted (os : Os) (started : os.Started) (H : Type) (enc : TypeId × Value → H) :
    ReturnsInHanded {} Try.checked os 10 .any (Rows.fnLinesSpec.pre6 enc Try.prog Try.f10 Rows.fnLinesRow.domain false) (Rows.fnLinesSpec.post enc Try.prog Try.f10 false true false false) := by
  refine returnsInHanded_of_change (C := Try.checked) own started (by kernel_rfl) Try.func10
    (ChangeSpec.witness6 (enc := enc) (C := Try.checked) false ⟨#[], #[.slice none 0 0], []⟩ 8 (by kernel_rfl) (by kernel_rfl) (by kernel_rfl) (by kernel_rfl)) ?_
  intro W base args ds gs before hval0 hW hcnd _
  have hval : ∀ (j : Nat) t v, Try.f10.params[j]? = some t → args[j]? = some v → Value.okWide Try.prog W .any base t v := hval0
  have hW' := hW
  obtain ⟨p, q, hA0, hV, rfl, hfz, hnd⟩ := hW
  have hA : DataW.TrodAll enc Try.prog W 0 (fun _ => true) true Try.f10.params.toList args.toList ds p := hA0
  rw [Try.params10] at hA hval
  obtain ⟨v0, vs0, d0, ds0, p0', q0, hargs, rfl, rfl, h0, r0⟩ := trodAll_cons hA
  obtain ⟨rfl, rfl, rfl⟩ := trodAll_nil r0
  obtain rfl : args = #[v0] := by cases args; simp_all
  obtain ⟨a0, w0, p0⟩ := arg_bytes Try.underlying22 Try.underlying5 (by kernel_rfl) (hval 0 22 v0 rfl rfl) h0
  refine (law_calls (l_FnLines_pc a0 (fun x hx => Nat.lt_succ_of_le (p0 x hx))) W [v0] (all2_cons w0 (all2_nil))).mono fun e W' ⟨he, hg⟩ => ?_
  subst he
  exact ⟨_, rfl, post_below (by kernel_rfl) (by kernel_rfl) rfl rfl Try.underlying4 hW' rfl hg⟩

theorem fact0 : ((Rows.fnLinesRow).wf (OpenSpec.ofChange (Rows.fnLinesSpec))) = true := by kernel_rfl
theorem fact3 : (Try.f10.params.all (Try.prog.readableRec ·)) = true := by kernel_rfl
theorem fact4 : (namedTie Try.prog (Rows.fnLinesRow).named (Rows.fnLinesSpec).vars) = true := by kernel_rfl
theorem fact5 : (((Rows.fnLinesRow).stops == [])) = true := by kernel_rfl
theorem fact7 : (((Rows.fnLinesRow).knobs == [])) = true := by kernel_rfl
theorem fact9 : (((Rows.fnLinesRow).inPlace == Try.prog.inPlace 10)) = true := by kernel_rfl
theorem fact10 : (((Rows.fnLinesRow).unfollowed == Try.prog.unfollowed 10)) = true := by kernel_rfl
theorem fact11 : (((Rows.fnLinesRow).recurses == Try.prog.recurses 10)) = true := by kernel_rfl
theorem fact12 : (((Rows.fnLinesRow).named == Try.prog.varsNamed 10)) = true := by kernel_rfl
theorem fact13 : (((Rows.fnLinesRow).maps == (Try.f10.params.toList ++ (Rows.fnLinesSpec).plain.varTypes Try.prog).any (Try.prog.mapsRec ·))) = true := by kernel_rfl
theorem fact14 : (((Rows.fnLinesRow).ifaces == (Try.f10.params.toList ++ (Rows.fnLinesSpec).plain.varTypes Try.prog).any (Try.prog.ifacesRec ·))) = true := by kernel_rfl
theorem fact15 : (((Rows.fnLinesRow).mapsOut == Try.prog.mapsAmong Try.f10.resultTypes.toList)) = true := by kernel_rfl
theorem fact16 : (((Rows.fnLinesRow).loops == (Try.f10.params.toList ++ (Rows.fnLinesSpec).plain.varTypes Try.prog).any (Try.prog.loopsFrom ·))) = true := by kernel_rfl
theorem fact17 : (((Rows.fnLinesRow).wideKeys == (Try.f10.params.toList ++ (Rows.fnLinesSpec).plain.varTypes Try.prog ++ Try.f10.resultTypes.toList).any (Try.prog.wideKeysFrom ·))) = true := by kernel_rfl
theorem fact18 : ((Rows.fnLinesSpec).vars.all (Try.prog.varReadable ·)) = true := by kernel_rfl
theorem fact19 : (Try.f10.resultTypes.all (fun t => Try.prog.readableRec t && decide (t < Try.prog.types.size))) = true := by kernel_rfl
theorem fact20 : (((Rows.fnLinesRow).ifacesOut == Try.f10.resultTypes.toList.any (Try.prog.ifacesRec ·))) = true := by kernel_rfl
theorem fact21 : (((Rows.fnLinesRow).loopsOut == Try.f10.resultTypes.toList.any (Try.prog.loopsFrom ·))) = true := by kernel_rfl
theorem fact23 : ((Rows.fnLinesRow).shortTexts.isNone) = true := by kernel_rfl
theorem fact28 : (((Rows.fnLinesRow).kinds == (if (Rows.fnLinesRow).domain.isEmpty then [] else Try.f10.params.toList.map fun t => match Try.prog.underlying t with | some (.int k) => some k | _ => none))) = true := by kernel_rfl
theorem fact29 : (((Rows.fnLinesRow).pinned == (Rows.fnLinesRow).pinnedBy)) = true := by kernel_rfl
theorem fact30 : (((Rows.fnLinesRow).veiled == (Try.f10.params.toList ++ (Rows.fnLinesSpec).plain.varTypes Try.prog ++ Try.f10.resultTypes.toList).any (Try.prog.veiledRec ·))) = true := by kernel_rfl
theorem fact31 : ((Rows.fnLinesRow).veiledFits Try.prog Try.f10.params.toList (Try.f10.params.toList ++ (Rows.fnLinesSpec).plain.varTypes Try.prog ++ Try.f10.resultTypes.toList)) = true := by kernel_rfl
theorem named : Try.pinned.checked.prog.funcNamed (Rows.fnLinesRow).func = some 10 := by kernel_rfl
set_option maxRecDepth 100000 in
theorem closed : joinedFacts Try.prog 10 Try.f10 (Rows.fnLinesSpec) (Rows.fnLinesRow) = true := by
  simp only [joinedFacts, Bool.and_eq_true]
  exact ⟨⟨⟨⟨⟨⟨⟨⟨⟨⟨⟨⟨⟨⟨⟨⟨⟨⟨⟨⟨⟨⟨⟨⟨⟨⟨⟨⟨⟨⟨⟨fact0, pf_laid⟩, pf_maps⟩, fact3⟩, fact4⟩, fact5⟩, pf_stops⟩, fact7⟩, pf_knobs⟩, fact9⟩, fact10⟩, fact11⟩, fact12⟩, fact13⟩, fact14⟩, fact15⟩, fact16⟩, fact17⟩, fact18⟩, fact19⟩, fact20⟩, fact21⟩, pf_keys⟩, fact23⟩, pf_heard⟩, pf_enter⟩, pf_final⟩, pf_make⟩, fact28⟩, fact29⟩, fact30⟩, fact31⟩

theorem over : Rows.fnLinesRow.holds Try.pinned (OpenSpec.ofChange Rows.fnLinesSpec) :=
  OpenClaim.holds_of_wide 10 Try.f10 rfl rfl rfl rfl rfl rfl rfl ⟨rfl, rfl, rfl, rfl, rfl⟩ rfl rfl rfl rfl rfl named Try.func10 closed
    (of_decide_eq_true (by kernel_rfl)) (by unfold Func.isWrapper; rw [if_neg (by decide +kernel)]; exact ⟨rfl, rfl⟩)
    (fun os started H enc _ => lifted os started H enc)

theorem proved : Rows.FnLinesSaid :=
  over
#print axioms proved
end Go.Proofs.Ytomnmacmlhkceaa.fnLines
