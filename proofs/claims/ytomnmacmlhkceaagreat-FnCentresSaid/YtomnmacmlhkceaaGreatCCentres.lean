/- the least reach lies between that of far clients and three times it in a metric Field, farthest and threshold sites are within three times, and no more clients are far than sites that cover. No condition. -/
import Derived.Test.YtomnmacmlhkceaaGreatRows
import Derived.Test.YtomnmacmlhkceaaGreatQuy
import Derived.Test.YtomnmacmlhkceaaGreatQv
import Derived.Test.YtomnmacmlhkceaaGreatKCentres1
import Derived.Test.YtomnmacmlhkceaaGreatKCentres2
import Derived.Test.YtomnmacmlhkceaaGreatKCentres3
import Derived.WalkKit
import Derived.ProofKit
import Derived.OpenShut
namespace Go.Proofs.YtomnmacmlhkceaaGreat.fnCentres
open Go Go.ChangeShapes Go.WideShapes Go.ChangeAt Go.RowKit

theorem own : ownKnob Tryz.prog.godebug = none := by kernel_rfl

set_option maxRecDepth 100000 in
theorem lifted (os : Os) (started : os.Started) (H : Type) (enc : TypeId × Value → H) :
    ReturnsInHanded {} Tryz.checked os 3 .any (Rows.fnCentresSpec.pre6 enc Tryz.prog Tryz.f3 Rows.fnCentresRow.domain false) (Rows.fnCentresSpec.post enc Tryz.prog Tryz.f3 false true false false) := by
  refine returnsInHanded_of_change (C := Tryz.checked) own started (by kernel_rfl) Tryz.func3
    (ChangeSpec.witness6 (enc := enc) (C := Tryz.checked) false ⟨#[], #[.slice none 0 0], []⟩ 8 (by kernel_rfl) (by kernel_rfl) (by kernel_rfl) (by kernel_rfl)) ?_
  intro W base args ds gs before hval0 hW hcnd _
  have hval : ∀ (j : Nat) t v, Tryz.f3.params[j]? = some t → args[j]? = some v → Value.okWide Tryz.prog W .any base t v := hval0
  have hW' := hW
  obtain ⟨p, q, hA0, hV, rfl, hfz, hnd⟩ := hW
  have hA : DataW.TrodAll enc Tryz.prog W 0 (fun _ => true) true Tryz.f3.params.toList args.toList ds p := hA0
  rw [Tryz.params3] at hA hval
  obtain ⟨v0, vs0, d0, ds0, p0', q0, hargs, rfl, rfl, h0, r0⟩ := trodAll_cons hA
  obtain ⟨rfl, rfl, rfl⟩ := trodAll_nil r0
  obtain rfl : args = #[v0] := by cases args; simp_all
  obtain ⟨a0, w0, p0⟩ := arg_bytes Tryz.underlying22 Tryz.underlying5 (by kernel_rfl) (hval 0 22 v0 rfl rfl) h0
  refine (law_calls (l_FnCentres_pc a0 (fun x hx => Nat.lt_succ_of_le (p0 x hx))) W [v0] (all2_cons w0 (all2_nil))).mono fun e W' ⟨he, hg⟩ => ?_
  subst he
  exact ⟨_, rfl, post_below (by kernel_rfl) (by kernel_rfl) rfl rfl Tryz.underlying4 hW' rfl hg⟩

theorem fact0 : ((Rows.fnCentresRow).wf (OpenSpec.ofChange (Rows.fnCentresSpec))) = true := by kernel_rfl
theorem fact3 : (Tryz.f3.params.all (Tryz.prog.readableRec ·)) = true := by kernel_rfl
theorem fact4 : (namedTie Tryz.prog (Rows.fnCentresRow).named (Rows.fnCentresSpec).vars) = true := by kernel_rfl
theorem fact5 : (((Rows.fnCentresRow).stops == [])) = true := by kernel_rfl
theorem fact7 : (((Rows.fnCentresRow).knobs == [])) = true := by kernel_rfl
theorem fact9 : (((Rows.fnCentresRow).inPlace == Tryz.prog.inPlace 3)) = true := by kernel_rfl
theorem fact10 : (((Rows.fnCentresRow).unfollowed == Tryz.prog.unfollowed 3)) = true := by kernel_rfl
theorem fact11 : (((Rows.fnCentresRow).recurses == Tryz.prog.recurses 3)) = true := by kernel_rfl
theorem fact12 : (((Rows.fnCentresRow).named == Tryz.prog.varsNamed 3)) = true := by kernel_rfl
theorem fact13 : (((Rows.fnCentresRow).maps == (Tryz.f3.params.toList ++ (Rows.fnCentresSpec).plain.varTypes Tryz.prog).any (Tryz.prog.mapsRec ·))) = true := by kernel_rfl
theorem fact14 : (((Rows.fnCentresRow).ifaces == (Tryz.f3.params.toList ++ (Rows.fnCentresSpec).plain.varTypes Tryz.prog).any (Tryz.prog.ifacesRec ·))) = true := by kernel_rfl
theorem fact15 : (((Rows.fnCentresRow).mapsOut == Tryz.prog.mapsAmong Tryz.f3.resultTypes.toList)) = true := by kernel_rfl
theorem fact16 : (((Rows.fnCentresRow).loops == (Tryz.f3.params.toList ++ (Rows.fnCentresSpec).plain.varTypes Tryz.prog).any (Tryz.prog.loopsFrom ·))) = true := by kernel_rfl
theorem fact17 : (((Rows.fnCentresRow).wideKeys == (Tryz.f3.params.toList ++ (Rows.fnCentresSpec).plain.varTypes Tryz.prog ++ Tryz.f3.resultTypes.toList).any (Tryz.prog.wideKeysFrom ·))) = true := by kernel_rfl
theorem fact18 : ((Rows.fnCentresSpec).vars.all (Tryz.prog.varReadable ·)) = true := by kernel_rfl
theorem fact19 : (Tryz.f3.resultTypes.all (fun t => Tryz.prog.readableRec t && decide (t < Tryz.prog.types.size))) = true := by kernel_rfl
theorem fact20 : (((Rows.fnCentresRow).ifacesOut == Tryz.f3.resultTypes.toList.any (Tryz.prog.ifacesRec ·))) = true := by kernel_rfl
theorem fact21 : (((Rows.fnCentresRow).loopsOut == Tryz.f3.resultTypes.toList.any (Tryz.prog.loopsFrom ·))) = true := by kernel_rfl
theorem fact23 : ((Rows.fnCentresRow).shortTexts.isNone) = true := by kernel_rfl
theorem fact28 : (((Rows.fnCentresRow).kinds == (if (Rows.fnCentresRow).domain.isEmpty then [] else Tryz.f3.params.toList.map fun t => match Tryz.prog.underlying t with | some (.int k) => some k | _ => none))) = true := by kernel_rfl
theorem fact29 : (((Rows.fnCentresRow).pinned == (Rows.fnCentresRow).pinnedBy)) = true := by kernel_rfl
theorem fact30 : (((Rows.fnCentresRow).veiled == (Tryz.f3.params.toList ++ (Rows.fnCentresSpec).plain.varTypes Tryz.prog ++ Tryz.f3.resultTypes.toList).any (Tryz.prog.veiledRec ·))) = true := by kernel_rfl
theorem fact31 : ((Rows.fnCentresRow).veiledFits Tryz.prog Tryz.f3.params.toList (Tryz.f3.params.toList ++ (Rows.fnCentresSpec).plain.varTypes Tryz.prog ++ Tryz.f3.resultTypes.toList)) = true := by kernel_rfl
theorem named : Tryz.pinned.checked.prog.funcNamed (Rows.fnCentresRow).func = some 3 := by kernel_rfl
set_option maxRecDepth 100000 in
theorem closed : joinedFacts Tryz.prog 3 Tryz.f3 (Rows.fnCentresSpec) (Rows.fnCentresRow) = true := by
  simp only [joinedFacts, Bool.and_eq_true]
  exact ⟨⟨⟨⟨⟨⟨⟨⟨⟨⟨⟨⟨⟨⟨⟨⟨⟨⟨⟨⟨⟨⟨⟨⟨⟨⟨⟨⟨⟨⟨⟨fact0, pf_laid⟩, pf_maps⟩, fact3⟩, fact4⟩, fact5⟩, pf_stops⟩, fact7⟩, pf_knobs⟩, fact9⟩, fact10⟩, fact11⟩, fact12⟩, fact13⟩, fact14⟩, fact15⟩, fact16⟩, fact17⟩, fact18⟩, fact19⟩, fact20⟩, fact21⟩, pf_keys⟩, fact23⟩, pf_heard⟩, pf_enter⟩, pf_final⟩, pf_make⟩, fact28⟩, fact29⟩, fact30⟩, fact31⟩

theorem over : Rows.fnCentresRow.holds Tryz.pinned (OpenSpec.ofChange Rows.fnCentresSpec) :=
  OpenClaim.holds_of_wide 3 Tryz.f3 rfl rfl rfl rfl rfl rfl rfl ⟨rfl, rfl, rfl, rfl, rfl⟩ rfl rfl rfl rfl rfl named Tryz.func3 closed
    (of_decide_eq_true (by kernel_rfl)) (by unfold Func.isWrapper; rw [if_neg (by decide +kernel)]; exact ⟨rfl, rfl⟩)
    (fun os started H enc _ => lifted os started H enc)

theorem proved : Rows.FnCentresSaid :=
  over
#print axioms proved
end Go.Proofs.YtomnmacmlhkceaaGreat.fnCentres
