/- For every Field f and all lists of numbers s, u and w, laws.FnExactAreFlowPrices(f, s, u, w) returns true: the program and the reference return the same, and f, s, u and w are left as they were. No condition. -/
import Derived.Test.YtmcbcomcejgbcaaRows
import Derived.Test.YtmcbcomcejgbcaaPu
import Derived.Test.YtmcbcomcejgbcaaPv
import Derived.Test.YtmcbcomcejgbcaaT9
import Derived.WalkKit
import Derived.ProofKit
import Derived.OpenShut
namespace Go.Proofs.Ytmcbcomcejgbcaa.fnExactAreFlowPrices
open Go Go.ChangeShapes Go.WideShapes Go.ChangeAt Go.RowKit

theorem own : ownKnob Try.prog.godebug = none := by kernel_rfl

set_option maxRecDepth 100000 in
theorem lifted (os : Os) (started : os.Started) (H : Type) (enc : TypeId × Value → H) :
    ReturnsInHanded {} Try.checked os 18 .any (Rows.fnExactAreFlowPricesSpec.pre6 enc Try.prog Try.f18 Rows.fnExactAreFlowPricesRow.domain false) (Rows.fnExactAreFlowPricesSpec.post enc Try.prog Try.f18 false true false false) := by
  refine returnsInHanded_of_change (C := Try.checked) own started (by kernel_rfl) Try.func18
    (ChangeSpec.witness6 (enc := enc) (C := Try.checked) false ⟨#[], #[.agg #[.slice none 0 0, .slice none 0 0], .slice none 0 0, .slice none 0 0, .slice none 0 0], []⟩ 8 (by kernel_rfl) (by kernel_rfl) (by kernel_rfl) (by kernel_rfl)) ?_
  intro W base args ds gs before hval0 hW hcnd _
  have hval : ∀ (j : Nat) t v, Try.f18.params[j]? = some t → args[j]? = some v → Value.okWide Try.prog W .any base t v := hval0
  have hW' := hW
  obtain ⟨p, q, hA0, hV, rfl, hfz, hnd⟩ := hW
  have hA : DataW.TrodAll enc Try.prog W 0 (fun _ => true) true Try.f18.params.toList args.toList ds p := hA0
  rw [Try.params18] at hA hval
  obtain ⟨v0, vs0, d0, ds0, p0', q0, hargs, rfl, rfl, h0, r0⟩ := trodAll_cons hA
  obtain ⟨v1, vs1, d1, ds1, p1', q1, rfl, rfl, rfl, h1, r1⟩ := trodAll_cons r0
  obtain ⟨v2, vs2, d2, ds2, p2', q2, rfl, rfl, rfl, h2, r2⟩ := trodAll_cons r1
  obtain ⟨v3, vs3, d3, ds3, p3', q3, rfl, rfl, rfl, h3, r3⟩ := trodAll_cons r2
  obtain ⟨rfl, rfl, rfl⟩ := trodAll_nil r3
  obtain rfl : args = #[v0, v1, v2, v3] := by cases args; simp_all
  obtain ⟨a0, b0, w0, p0⟩ := arg_field (ti := 3) (tr := 25) (tl := 26) Try.underlying44 (by kernel_rfl) rfl rfl rfl rfl Try.underlying3 (by kernel_rfl) Try.underlying26 (by kernel_rfl) Try.underlying25 (by kernel_rfl) (hval 0 44 v0 rfl rfl) h0
  obtain ⟨a1, w1, p1⟩ := arg_ints Try.underlying26 Try.underlying3 (by kernel_rfl) (hval 1 26 v1 rfl rfl) h1
  obtain ⟨a2, w2, p2⟩ := arg_ints Try.underlying26 Try.underlying3 (by kernel_rfl) (hval 2 26 v2 rfl rfl) h2
  obtain ⟨a3, w3, p3⟩ := arg_ints Try.underlying26 Try.underlying3 (by kernel_rfl) (hval 3 26 v3 rfl rfl) h3
  refine (law_calls (l_FnExactAreFlowPrices_pc a0 b0 a1 a2 a3) W [v0, v1, v2, v3] (all2_cons w0 (all2_cons w1 (all2_cons w2 (all2_cons w3 (all2_nil)))))).mono fun e W' ⟨he, hg⟩ => ?_
  subst he
  exact ⟨_, rfl, post_below (by kernel_rfl) (by kernel_rfl) rfl rfl Try.underlying4 hW' rfl hg⟩

theorem fact0 : ((Rows.fnExactAreFlowPricesRow).wf (OpenSpec.ofChange (Rows.fnExactAreFlowPricesSpec))) = true := by kernel_rfl
theorem fact3 : (Try.f18.params.all (Try.prog.readableRec ·)) = true := by kernel_rfl
theorem fact4 : (namedTie Try.prog (Rows.fnExactAreFlowPricesRow).named (Rows.fnExactAreFlowPricesSpec).vars) = true := by kernel_rfl
theorem fact5 : (((Rows.fnExactAreFlowPricesRow).stops == [])) = true := by kernel_rfl
theorem fact7 : (((Rows.fnExactAreFlowPricesRow).knobs == [])) = true := by kernel_rfl
theorem fact9 : (((Rows.fnExactAreFlowPricesRow).inPlace == Try.prog.inPlace 18)) = true := by kernel_rfl
theorem fact10 : (((Rows.fnExactAreFlowPricesRow).unfollowed == Try.prog.unfollowed 18)) = true := by kernel_rfl
theorem fact11 : (((Rows.fnExactAreFlowPricesRow).recurses == Try.prog.recurses 18)) = true := by kernel_rfl
theorem fact12 : (((Rows.fnExactAreFlowPricesRow).named == Try.prog.varsNamed 18)) = true := by kernel_rfl
theorem fact13 : (((Rows.fnExactAreFlowPricesRow).maps == (Try.f18.params.toList ++ (Rows.fnExactAreFlowPricesSpec).plain.varTypes Try.prog).any (Try.prog.mapsRec ·))) = true := by kernel_rfl
theorem fact14 : (((Rows.fnExactAreFlowPricesRow).ifaces == (Try.f18.params.toList ++ (Rows.fnExactAreFlowPricesSpec).plain.varTypes Try.prog).any (Try.prog.ifacesRec ·))) = true := by kernel_rfl
theorem fact15 : (((Rows.fnExactAreFlowPricesRow).mapsOut == Try.prog.mapsAmong Try.f18.resultTypes.toList)) = true := by kernel_rfl
theorem fact16 : (((Rows.fnExactAreFlowPricesRow).loops == (Try.f18.params.toList ++ (Rows.fnExactAreFlowPricesSpec).plain.varTypes Try.prog).any (Try.prog.loopsFrom ·))) = true := by kernel_rfl
theorem fact17 : (((Rows.fnExactAreFlowPricesRow).wideKeys == (Try.f18.params.toList ++ (Rows.fnExactAreFlowPricesSpec).plain.varTypes Try.prog ++ Try.f18.resultTypes.toList).any (Try.prog.wideKeysFrom ·))) = true := by kernel_rfl
theorem fact18 : ((Rows.fnExactAreFlowPricesSpec).vars.all (Try.prog.varReadable ·)) = true := by kernel_rfl
theorem fact19 : (Try.f18.resultTypes.all (fun t => Try.prog.readableRec t && decide (t < Try.prog.types.size))) = true := by kernel_rfl
theorem fact20 : (((Rows.fnExactAreFlowPricesRow).ifacesOut == Try.f18.resultTypes.toList.any (Try.prog.ifacesRec ·))) = true := by kernel_rfl
theorem fact21 : (((Rows.fnExactAreFlowPricesRow).loopsOut == Try.f18.resultTypes.toList.any (Try.prog.loopsFrom ·))) = true := by kernel_rfl
theorem fact23 : ((Rows.fnExactAreFlowPricesRow).shortTexts.isNone) = true := by kernel_rfl
theorem fact28 : (((Rows.fnExactAreFlowPricesRow).kinds == (if (Rows.fnExactAreFlowPricesRow).domain.isEmpty then [] else Try.f18.params.toList.map fun t => match Try.prog.underlying t with | some (.int k) => some k | _ => none))) = true := by kernel_rfl
theorem fact29 : (((Rows.fnExactAreFlowPricesRow).pinned == (Rows.fnExactAreFlowPricesRow).pinnedBy)) = true := by kernel_rfl
theorem fact30 : (((Rows.fnExactAreFlowPricesRow).veiled == (Try.f18.params.toList ++ (Rows.fnExactAreFlowPricesSpec).plain.varTypes Try.prog ++ Try.f18.resultTypes.toList).any (Try.prog.veiledRec ·))) = true := by kernel_rfl
theorem fact31 : ((Rows.fnExactAreFlowPricesRow).veiledFits Try.prog Try.f18.params.toList (Try.f18.params.toList ++ (Rows.fnExactAreFlowPricesSpec).plain.varTypes Try.prog ++ Try.f18.resultTypes.toList)) = true := by kernel_rfl
theorem named : Try.pinned.checked.prog.funcNamed (Rows.fnExactAreFlowPricesRow).func = some 18 := by kernel_rfl
set_option maxRecDepth 100000 in
theorem closed : joinedFacts Try.prog 18 Try.f18 (Rows.fnExactAreFlowPricesSpec) (Rows.fnExactAreFlowPricesRow) = true := by
  simp only [joinedFacts, Bool.and_eq_true]
  exact ⟨⟨⟨⟨⟨⟨⟨⟨⟨⟨⟨⟨⟨⟨⟨⟨⟨⟨⟨⟨⟨⟨⟨⟨⟨⟨⟨⟨⟨⟨⟨fact0, pf_laid⟩, pf_maps⟩, fact3⟩, fact4⟩, fact5⟩, pf_stops⟩, fact7⟩, pf_knobs⟩, fact9⟩, fact10⟩, fact11⟩, fact12⟩, fact13⟩, fact14⟩, fact15⟩, fact16⟩, fact17⟩, fact18⟩, fact19⟩, fact20⟩, fact21⟩, pf_keys⟩, fact23⟩, pf_heard⟩, pf_enter⟩, pf_final⟩, pf_make⟩, fact28⟩, fact29⟩, fact30⟩, fact31⟩

theorem over : Rows.fnExactAreFlowPricesRow.holds Try.pinned (OpenSpec.ofChange Rows.fnExactAreFlowPricesSpec) :=
  OpenClaim.holds_of_wide 18 Try.f18 rfl rfl rfl rfl rfl rfl rfl ⟨rfl, rfl, rfl, rfl, rfl⟩ rfl rfl rfl rfl rfl named Try.func18 closed
    (of_decide_eq_true (by kernel_rfl)) (by unfold Func.isWrapper; rw [if_neg (by decide +kernel)]; exact ⟨rfl, rfl⟩)
    (fun os started H enc _ => lifted os started H enc)

theorem proved : Rows.FnExactAreFlowPricesSaid :=
  over
#print axioms proved
end Go.Proofs.Ytmcbcomcejgbcaa.fnExactAreFlowPrices
