/- For every Field f and all lists of numbers as rooms, needs, set, client prices and site prices, laws.FnExactFlowYield returns true on them: the program and the reference return the same yield, and all arguments are left as they were. No condition. -/
import Derived.Test.YtijdbfbeobflnaaRows
import Derived.Test.YtijdbfbeobflnaaPu
import Derived.Test.YtijdbfbeobflnaaPv
import Derived.Test.YtijdbfbeobflnaaKFlowYield1
import Derived.Test.YtijdbfbeobflnaaKFlowYield2
import Derived.WalkKit
import Derived.ProofKit
import Derived.OpenShut
namespace Go.Proofs.Ytijdbfbeobflnaa.fnExactFlowYield
open Go Go.ChangeShapes Go.WideShapes Go.ChangeAt Go.RowKit

theorem own : ownKnob Try.prog.godebug = none := by kernel_rfl

set_option maxRecDepth 100000 in
theorem lifted (os : Os) (started : os.Started) (H : Type) (enc : TypeId × Value → H) :
    ReturnsInHanded {} Try.checked os 14 .any (Rows.fnExactFlowYieldSpec.pre6 enc Try.prog Try.f14 Rows.fnExactFlowYieldRow.domain false) (Rows.fnExactFlowYieldSpec.post enc Try.prog Try.f14 false true false false) := by
  refine returnsInHanded_of_change (C := Try.checked) own started (by kernel_rfl) Try.func14
    (ChangeSpec.witness6 (enc := enc) (C := Try.checked) false ⟨#[], #[.agg #[.slice none 0 0, .slice none 0 0], .slice none 0 0, .slice none 0 0, .slice none 0 0, .slice none 0 0, .slice none 0 0], []⟩ 8 (by kernel_rfl) (by kernel_rfl) (by kernel_rfl) (by kernel_rfl)) ?_
  intro W base args ds gs before hval0 hW hcnd _
  have hval : ∀ (j : Nat) t v, Try.f14.params[j]? = some t → args[j]? = some v → Value.okWide Try.prog W .any base t v := hval0
  have hW' := hW
  obtain ⟨p, q, hA0, hV, rfl, hfz, hnd⟩ := hW
  have hA : DataW.TrodAll enc Try.prog W 0 (fun _ => true) true Try.f14.params.toList args.toList ds p := hA0
  rw [Try.params14] at hA hval
  obtain ⟨v0, vs0, d0, ds0, p0', q0, hargs, rfl, rfl, h0, r0⟩ := trodAll_cons hA
  obtain ⟨v1, vs1, d1, ds1, p1', q1, rfl, rfl, rfl, h1, r1⟩ := trodAll_cons r0
  obtain ⟨v2, vs2, d2, ds2, p2', q2, rfl, rfl, rfl, h2, r2⟩ := trodAll_cons r1
  obtain ⟨v3, vs3, d3, ds3, p3', q3, rfl, rfl, rfl, h3, r3⟩ := trodAll_cons r2
  obtain ⟨v4, vs4, d4, ds4, p4', q4, rfl, rfl, rfl, h4, r4⟩ := trodAll_cons r3
  obtain ⟨v5, vs5, d5, ds5, p5', q5, rfl, rfl, rfl, h5, r5⟩ := trodAll_cons r4
  obtain ⟨rfl, rfl, rfl⟩ := trodAll_nil r5
  obtain rfl : args = #[v0, v1, v2, v3, v4, v5] := by cases args; simp_all
  obtain ⟨a0, b0, w0, p0⟩ := arg_field (ti := 3) (tr := 39) (tl := 26) Try.underlying41 (by kernel_rfl) rfl rfl rfl rfl Try.underlying3 (by kernel_rfl) Try.underlying26 (by kernel_rfl) Try.underlying39 (by kernel_rfl) (hval 0 41 v0 rfl rfl) h0
  obtain ⟨a1, w1, p1⟩ := arg_ints Try.underlying26 Try.underlying3 (by kernel_rfl) (hval 1 26 v1 rfl rfl) h1
  obtain ⟨a2, w2, p2⟩ := arg_ints Try.underlying26 Try.underlying3 (by kernel_rfl) (hval 2 26 v2 rfl rfl) h2
  obtain ⟨a3, w3, p3⟩ := arg_ints Try.underlying26 Try.underlying3 (by kernel_rfl) (hval 3 26 v3 rfl rfl) h3
  obtain ⟨a4, w4, p4⟩ := arg_ints Try.underlying26 Try.underlying3 (by kernel_rfl) (hval 4 26 v4 rfl rfl) h4
  obtain ⟨a5, w5, p5⟩ := arg_ints Try.underlying26 Try.underlying3 (by kernel_rfl) (hval 5 26 v5 rfl rfl) h5
  refine (law_calls (l_FnExactFlowYield_pc a0 b0 a1 a2 a3 a4 a5) W [v0, v1, v2, v3, v4, v5] (all2_cons w0 (all2_cons w1 (all2_cons w2 (all2_cons w3 (all2_cons w4 (all2_cons w5 (all2_nil)))))))).mono fun e W' ⟨he, hg⟩ => ?_
  subst he
  exact ⟨_, rfl, post_below (by kernel_rfl) (by kernel_rfl) rfl rfl Try.underlying4 hW' rfl hg⟩

theorem fact0 : ((Rows.fnExactFlowYieldRow).wf (OpenSpec.ofChange (Rows.fnExactFlowYieldSpec))) = true := by kernel_rfl
theorem fact3 : (Try.f14.params.all (Try.prog.readableRec ·)) = true := by kernel_rfl
theorem fact4 : (namedTie Try.prog (Rows.fnExactFlowYieldRow).named (Rows.fnExactFlowYieldSpec).vars) = true := by kernel_rfl
theorem fact5 : (((Rows.fnExactFlowYieldRow).stops == [])) = true := by kernel_rfl
theorem fact7 : (((Rows.fnExactFlowYieldRow).knobs == [])) = true := by kernel_rfl
theorem fact9 : (((Rows.fnExactFlowYieldRow).inPlace == Try.prog.inPlace 14)) = true := by kernel_rfl
theorem fact10 : (((Rows.fnExactFlowYieldRow).unfollowed == Try.prog.unfollowed 14)) = true := by kernel_rfl
theorem fact11 : (((Rows.fnExactFlowYieldRow).recurses == Try.prog.recurses 14)) = true := by kernel_rfl
theorem fact12 : (((Rows.fnExactFlowYieldRow).named == Try.prog.varsNamed 14)) = true := by kernel_rfl
theorem fact13 : (((Rows.fnExactFlowYieldRow).maps == (Try.f14.params.toList ++ (Rows.fnExactFlowYieldSpec).plain.varTypes Try.prog).any (Try.prog.mapsRec ·))) = true := by kernel_rfl
theorem fact14 : (((Rows.fnExactFlowYieldRow).ifaces == (Try.f14.params.toList ++ (Rows.fnExactFlowYieldSpec).plain.varTypes Try.prog).any (Try.prog.ifacesRec ·))) = true := by kernel_rfl
theorem fact15 : (((Rows.fnExactFlowYieldRow).mapsOut == Try.prog.mapsAmong Try.f14.resultTypes.toList)) = true := by kernel_rfl
theorem fact16 : (((Rows.fnExactFlowYieldRow).loops == (Try.f14.params.toList ++ (Rows.fnExactFlowYieldSpec).plain.varTypes Try.prog).any (Try.prog.loopsFrom ·))) = true := by kernel_rfl
theorem fact17 : (((Rows.fnExactFlowYieldRow).wideKeys == (Try.f14.params.toList ++ (Rows.fnExactFlowYieldSpec).plain.varTypes Try.prog ++ Try.f14.resultTypes.toList).any (Try.prog.wideKeysFrom ·))) = true := by kernel_rfl
theorem fact18 : ((Rows.fnExactFlowYieldSpec).vars.all (Try.prog.varReadable ·)) = true := by kernel_rfl
theorem fact19 : (Try.f14.resultTypes.all (fun t => Try.prog.readableRec t && decide (t < Try.prog.types.size))) = true := by kernel_rfl
theorem fact20 : (((Rows.fnExactFlowYieldRow).ifacesOut == Try.f14.resultTypes.toList.any (Try.prog.ifacesRec ·))) = true := by kernel_rfl
theorem fact21 : (((Rows.fnExactFlowYieldRow).loopsOut == Try.f14.resultTypes.toList.any (Try.prog.loopsFrom ·))) = true := by kernel_rfl
theorem fact23 : ((Rows.fnExactFlowYieldRow).shortTexts.isNone) = true := by kernel_rfl
theorem fact28 : (((Rows.fnExactFlowYieldRow).kinds == (if (Rows.fnExactFlowYieldRow).domain.isEmpty then [] else Try.f14.params.toList.map fun t => match Try.prog.underlying t with | some (.int k) => some k | _ => none))) = true := by kernel_rfl
theorem fact29 : (((Rows.fnExactFlowYieldRow).pinned == (Rows.fnExactFlowYieldRow).pinnedBy)) = true := by kernel_rfl
theorem fact30 : (((Rows.fnExactFlowYieldRow).veiled == (Try.f14.params.toList ++ (Rows.fnExactFlowYieldSpec).plain.varTypes Try.prog ++ Try.f14.resultTypes.toList).any (Try.prog.veiledRec ·))) = true := by kernel_rfl
theorem fact31 : ((Rows.fnExactFlowYieldRow).veiledFits Try.prog Try.f14.params.toList (Try.f14.params.toList ++ (Rows.fnExactFlowYieldSpec).plain.varTypes Try.prog ++ Try.f14.resultTypes.toList)) = true := by kernel_rfl
theorem named : Try.pinned.checked.prog.funcNamed (Rows.fnExactFlowYieldRow).func = some 14 := by kernel_rfl
set_option maxRecDepth 100000 in
theorem closed : joinedFacts Try.prog 14 Try.f14 (Rows.fnExactFlowYieldSpec) (Rows.fnExactFlowYieldRow) = true := by
  simp only [joinedFacts, Bool.and_eq_true]
  exact ⟨⟨⟨⟨⟨⟨⟨⟨⟨⟨⟨⟨⟨⟨⟨⟨⟨⟨⟨⟨⟨⟨⟨⟨⟨⟨⟨⟨⟨⟨⟨fact0, pf_laid⟩, pf_maps⟩, fact3⟩, fact4⟩, fact5⟩, pf_stops⟩, fact7⟩, pf_knobs⟩, fact9⟩, fact10⟩, fact11⟩, fact12⟩, fact13⟩, fact14⟩, fact15⟩, fact16⟩, fact17⟩, fact18⟩, fact19⟩, fact20⟩, fact21⟩, pf_keys⟩, fact23⟩, pf_heard⟩, pf_enter⟩, pf_final⟩, pf_make⟩, fact28⟩, fact29⟩, fact30⟩, fact31⟩

theorem over : Rows.fnExactFlowYieldRow.holds Try.pinned (OpenSpec.ofChange Rows.fnExactFlowYieldSpec) :=
  OpenClaim.holds_of_wide 14 Try.f14 rfl rfl rfl rfl rfl rfl rfl ⟨rfl, rfl, rfl, rfl, rfl⟩ rfl rfl rfl rfl rfl named Try.func14 closed
    (of_decide_eq_true (by kernel_rfl)) (by unfold Func.isWrapper; rw [if_neg (by decide +kernel)]; exact ⟨rfl, rfl⟩)
    (fun os started H enc _ => lifted os started H enc)

theorem proved : Rows.FnExactFlowYieldSaid :=
  over
#print axioms proved
end Go.Proofs.Ytijdbfbeobflnaa.fnExactFlowYield
