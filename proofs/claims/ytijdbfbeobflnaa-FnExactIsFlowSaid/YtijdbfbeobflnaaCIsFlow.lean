/- For every Field f, all lists of numbers as rooms, needs and set, and every list of lists of numbers as flow, laws.FnExactIsFlow returns true on them: the program and the reference return the same answers, and all arguments are left as they were. No condition. -/
import Derived.Test.YtijdbfbeobflnaaRows
import Derived.Test.YtijdbfbeobflnaaPu
import Derived.Test.YtijdbfbeobflnaaPv
import Derived.Test.YtijdbfbeobflnaaKIsFlow1
import Derived.Test.YtijdbfbeobflnaaKIsFlow2
import Derived.WalkKit
import Derived.ProofKit
import Derived.OpenShut
namespace Go.Proofs.Ytijdbfbeobflnaa.fnExactIsFlow
open Go Go.ChangeShapes Go.WideShapes Go.ChangeAt Go.RowKit

theorem own : ownKnob Try.prog.godebug = none := by kernel_rfl

set_option maxRecDepth 100000 in
theorem lifted (os : Os) (started : os.Started) (H : Type) (enc : TypeId × Value → H) :
    ReturnsInHanded {} Try.checked os 15 .any (Rows.fnExactIsFlowSpec.pre6 enc Try.prog Try.f15 Rows.fnExactIsFlowRow.domain false) (Rows.fnExactIsFlowSpec.post enc Try.prog Try.f15 false true false false) := by
  refine returnsInHanded_of_change (C := Try.checked) own started (by kernel_rfl) Try.func15
    (ChangeSpec.witness6 (enc := enc) (C := Try.checked) false ⟨#[], #[.agg #[.slice none 0 0, .slice none 0 0], .slice none 0 0, .slice none 0 0, .slice none 0 0, .slice none 0 0], []⟩ 8 (by kernel_rfl) (by kernel_rfl) (by kernel_rfl) (by kernel_rfl)) ?_
  intro W base args ds gs before hval0 hW hcnd _
  have hval : ∀ (j : Nat) t v, Try.f15.params[j]? = some t → args[j]? = some v → Value.okWide Try.prog W .any base t v := hval0
  have hW' := hW
  obtain ⟨p, q, hA0, hV, rfl, hfz, hnd⟩ := hW
  have hA : DataW.TrodAll enc Try.prog W 0 (fun _ => true) true Try.f15.params.toList args.toList ds p := hA0
  rw [Try.params15] at hA hval
  obtain ⟨v0, vs0, d0, ds0, p0', q0, hargs, rfl, rfl, h0, r0⟩ := trodAll_cons hA
  obtain ⟨v1, vs1, d1, ds1, p1', q1, rfl, rfl, rfl, h1, r1⟩ := trodAll_cons r0
  obtain ⟨v2, vs2, d2, ds2, p2', q2, rfl, rfl, rfl, h2, r2⟩ := trodAll_cons r1
  obtain ⟨v3, vs3, d3, ds3, p3', q3, rfl, rfl, rfl, h3, r3⟩ := trodAll_cons r2
  obtain ⟨v4, vs4, d4, ds4, p4', q4, rfl, rfl, rfl, h4, r4⟩ := trodAll_cons r3
  obtain ⟨rfl, rfl, rfl⟩ := trodAll_nil r4
  obtain rfl : args = #[v0, v1, v2, v3, v4] := by cases args; simp_all
  obtain ⟨a0, b0, w0, p0⟩ := arg_field (ti := 3) (tr := 39) (tl := 26) Try.underlying41 (by kernel_rfl) rfl rfl rfl rfl Try.underlying3 (by kernel_rfl) Try.underlying26 (by kernel_rfl) Try.underlying39 (by kernel_rfl) (hval 0 41 v0 rfl rfl) h0
  obtain ⟨a1, w1, p1⟩ := arg_ints Try.underlying26 Try.underlying3 (by kernel_rfl) (hval 1 26 v1 rfl rfl) h1
  obtain ⟨a2, w2, p2⟩ := arg_ints Try.underlying26 Try.underlying3 (by kernel_rfl) (hval 2 26 v2 rfl rfl) h2
  obtain ⟨a3, w3, p3⟩ := arg_ints Try.underlying26 Try.underlying3 (by kernel_rfl) (hval 3 26 v3 rfl rfl) h3
  obtain ⟨a4, w4⟩ := arg_rows Try.underlying39 (by kernel_rfl) Try.underlying26 Try.underlying3 (by kernel_rfl) (hval 4 39 v4 rfl rfl) h4
  refine (law_calls (l_FnExactIsFlow_pc a0 b0 a1 a2 a3 a4) W [v0, v1, v2, v3, v4] (all2_cons w0 (all2_cons w1 (all2_cons w2 (all2_cons w3 (all2_cons w4 (all2_nil))))))).mono fun e W' ⟨he, hg⟩ => ?_
  subst he
  exact ⟨_, rfl, post_below (by kernel_rfl) (by kernel_rfl) rfl rfl Try.underlying4 hW' rfl hg⟩

theorem fact0 : ((Rows.fnExactIsFlowRow).wf (OpenSpec.ofChange (Rows.fnExactIsFlowSpec))) = true := by kernel_rfl
theorem fact3 : (Try.f15.params.all (Try.prog.readableRec ·)) = true := by kernel_rfl
theorem fact4 : (namedTie Try.prog (Rows.fnExactIsFlowRow).named (Rows.fnExactIsFlowSpec).vars) = true := by kernel_rfl
theorem fact5 : (((Rows.fnExactIsFlowRow).stops == [])) = true := by kernel_rfl
theorem fact7 : (((Rows.fnExactIsFlowRow).knobs == [])) = true := by kernel_rfl
theorem fact9 : (((Rows.fnExactIsFlowRow).inPlace == Try.prog.inPlace 15)) = true := by kernel_rfl
theorem fact10 : (((Rows.fnExactIsFlowRow).unfollowed == Try.prog.unfollowed 15)) = true := by kernel_rfl
theorem fact11 : (((Rows.fnExactIsFlowRow).recurses == Try.prog.recurses 15)) = true := by kernel_rfl
theorem fact12 : (((Rows.fnExactIsFlowRow).named == Try.prog.varsNamed 15)) = true := by kernel_rfl
theorem fact13 : (((Rows.fnExactIsFlowRow).maps == (Try.f15.params.toList ++ (Rows.fnExactIsFlowSpec).plain.varTypes Try.prog).any (Try.prog.mapsRec ·))) = true := by kernel_rfl
theorem fact14 : (((Rows.fnExactIsFlowRow).ifaces == (Try.f15.params.toList ++ (Rows.fnExactIsFlowSpec).plain.varTypes Try.prog).any (Try.prog.ifacesRec ·))) = true := by kernel_rfl
theorem fact15 : (((Rows.fnExactIsFlowRow).mapsOut == Try.prog.mapsAmong Try.f15.resultTypes.toList)) = true := by kernel_rfl
theorem fact16 : (((Rows.fnExactIsFlowRow).loops == (Try.f15.params.toList ++ (Rows.fnExactIsFlowSpec).plain.varTypes Try.prog).any (Try.prog.loopsFrom ·))) = true := by kernel_rfl
theorem fact17 : (((Rows.fnExactIsFlowRow).wideKeys == (Try.f15.params.toList ++ (Rows.fnExactIsFlowSpec).plain.varTypes Try.prog ++ Try.f15.resultTypes.toList).any (Try.prog.wideKeysFrom ·))) = true := by kernel_rfl
theorem fact18 : ((Rows.fnExactIsFlowSpec).vars.all (Try.prog.varReadable ·)) = true := by kernel_rfl
theorem fact19 : (Try.f15.resultTypes.all (fun t => Try.prog.readableRec t && decide (t < Try.prog.types.size))) = true := by kernel_rfl
theorem fact20 : (((Rows.fnExactIsFlowRow).ifacesOut == Try.f15.resultTypes.toList.any (Try.prog.ifacesRec ·))) = true := by kernel_rfl
theorem fact21 : (((Rows.fnExactIsFlowRow).loopsOut == Try.f15.resultTypes.toList.any (Try.prog.loopsFrom ·))) = true := by kernel_rfl
theorem fact23 : ((Rows.fnExactIsFlowRow).shortTexts.isNone) = true := by kernel_rfl
theorem fact28 : (((Rows.fnExactIsFlowRow).kinds == (if (Rows.fnExactIsFlowRow).domain.isEmpty then [] else Try.f15.params.toList.map fun t => match Try.prog.underlying t with | some (.int k) => some k | _ => none))) = true := by kernel_rfl
theorem fact29 : (((Rows.fnExactIsFlowRow).pinned == (Rows.fnExactIsFlowRow).pinnedBy)) = true := by kernel_rfl
theorem fact30 : (((Rows.fnExactIsFlowRow).veiled == (Try.f15.params.toList ++ (Rows.fnExactIsFlowSpec).plain.varTypes Try.prog ++ Try.f15.resultTypes.toList).any (Try.prog.veiledRec ·))) = true := by kernel_rfl
theorem fact31 : ((Rows.fnExactIsFlowRow).veiledFits Try.prog Try.f15.params.toList (Try.f15.params.toList ++ (Rows.fnExactIsFlowSpec).plain.varTypes Try.prog ++ Try.f15.resultTypes.toList)) = true := by kernel_rfl
theorem named : Try.pinned.checked.prog.funcNamed (Rows.fnExactIsFlowRow).func = some 15 := by kernel_rfl
set_option maxRecDepth 100000 in
theorem closed : joinedFacts Try.prog 15 Try.f15 (Rows.fnExactIsFlowSpec) (Rows.fnExactIsFlowRow) = true := by
  simp only [joinedFacts, Bool.and_eq_true]
  exact ⟨⟨⟨⟨⟨⟨⟨⟨⟨⟨⟨⟨⟨⟨⟨⟨⟨⟨⟨⟨⟨⟨⟨⟨⟨⟨⟨⟨⟨⟨⟨fact0, pf_laid⟩, pf_maps⟩, fact3⟩, fact4⟩, fact5⟩, pf_stops⟩, fact7⟩, pf_knobs⟩, fact9⟩, fact10⟩, fact11⟩, fact12⟩, fact13⟩, fact14⟩, fact15⟩, fact16⟩, fact17⟩, fact18⟩, fact19⟩, fact20⟩, fact21⟩, pf_keys⟩, fact23⟩, pf_heard⟩, pf_enter⟩, pf_final⟩, pf_make⟩, fact28⟩, fact29⟩, fact30⟩, fact31⟩

theorem over : Rows.fnExactIsFlowRow.holds Try.pinned (OpenSpec.ofChange Rows.fnExactIsFlowSpec) :=
  OpenClaim.holds_of_wide 15 Try.f15 rfl rfl rfl rfl rfl rfl rfl ⟨rfl, rfl, rfl, rfl, rfl⟩ rfl rfl rfl rfl rfl named Try.func15 closed
    (of_decide_eq_true (by kernel_rfl)) (by unfold Func.isWrapper; rw [if_neg (by decide +kernel)]; exact ⟨rfl, rfl⟩)
    (fun os started H enc _ => lifted os started H enc)

theorem proved : Rows.FnExactIsFlowSaid :=
  over
#print axioms proved
end Go.Proofs.Ytijdbfbeobflnaa.fnExactIsFlow
