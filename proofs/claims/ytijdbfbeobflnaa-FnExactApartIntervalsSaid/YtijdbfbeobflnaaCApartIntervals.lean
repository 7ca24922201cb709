/- For every list of pairs of numbers, laws.FnExactApartIntervals returns true on it: the program and the reference return the same indices, the list is left as it was, and the indices share no memory with it, nor with those of another call. No condition. -/
import Derived.Test.YtijdbfbeobflnaaRows
import Derived.Test.YtijdbfbeobflnaaPu
import Derived.Test.YtijdbfbeobflnaaPv
import Derived.Test.YtijdbfbeobflnaaKApartIntervals1
import Derived.WalkKit
import Derived.ProofKit
import Derived.OpenShut
namespace Go.Proofs.Ytijdbfbeobflnaa.fnExactApartIntervals
open Go Go.ChangeShapes Go.WideShapes Go.ChangeAt Go.RowKit

theorem own : ownKnob Try.prog.godebug = none := by kernel_rfl

set_option maxRecDepth 100000 in
theorem lifted (os : Os) (started : os.Started) (H : Type) (enc : TypeId × Value → H) :
    ReturnsInHanded {} Try.checked os 4 .any (Rows.fnExactApartIntervalsSpec.pre6 enc Try.prog Try.f4 Rows.fnExactApartIntervalsRow.domain false) (Rows.fnExactApartIntervalsSpec.post enc Try.prog Try.f4 false true false false) := by
  refine returnsInHanded_of_change (C := Try.checked) own started (by kernel_rfl) Try.func4
    (ChangeSpec.witness6 (enc := enc) (C := Try.checked) false ⟨#[], #[.slice none 0 0], []⟩ 8 (by kernel_rfl) (by kernel_rfl) (by kernel_rfl) (by kernel_rfl)) ?_
  intro W base args ds gs before hval0 hW hcnd _
  have hval : ∀ (j : Nat) t v, Try.f4.params[j]? = some t → args[j]? = some v → Value.okWide Try.prog W .any base t v := hval0
  have hW' := hW
  obtain ⟨p, q, hA0, hV, rfl, hfz, hnd⟩ := hW
  have hA : DataW.TrodAll enc Try.prog W 0 (fun _ => true) true Try.f4.params.toList args.toList ds p := hA0
  rw [Try.params4] at hA hval
  obtain ⟨v0, vs0, d0, ds0, p0', q0, hargs, rfl, rfl, h0, r0⟩ := trodAll_cons hA
  obtain ⟨rfl, rfl, rfl⟩ := trodAll_nil r0
  obtain rfl : args = #[v0] := by cases args; simp_all
  obtain ⟨a0, w0, p0⟩ := arg_pairs Try.underlying24 (by kernel_rfl) Try.underlying30 Try.underlying3 (by kernel_rfl) (hval 0 24 v0 rfl rfl) h0
  refine (law_calls (l_FnExactApartIntervals_pc a0) W [v0] (all2_cons w0 (all2_nil))).mono fun e W' ⟨he, hg⟩ => ?_
  subst he
  exact ⟨_, rfl, post_below (by kernel_rfl) (by kernel_rfl) rfl rfl Try.underlying4 hW' rfl hg⟩

theorem fact0 : ((Rows.fnExactApartIntervalsRow).wf (OpenSpec.ofChange (Rows.fnExactApartIntervalsSpec))) = true := by kernel_rfl
theorem fact3 : (Try.f4.params.all (Try.prog.readableRec ·)) = true := by kernel_rfl
theorem fact4 : (namedTie Try.prog (Rows.fnExactApartIntervalsRow).named (Rows.fnExactApartIntervalsSpec).vars) = true := by kernel_rfl
theorem fact5 : (((Rows.fnExactApartIntervalsRow).stops == [])) = true := by kernel_rfl
theorem fact7 : (((Rows.fnExactApartIntervalsRow).knobs == [])) = true := by kernel_rfl
theorem fact9 : (((Rows.fnExactApartIntervalsRow).inPlace == Try.prog.inPlace 4)) = true := by kernel_rfl
theorem fact10 : (((Rows.fnExactApartIntervalsRow).unfollowed == Try.prog.unfollowed 4)) = true := by kernel_rfl
theorem fact11 : (((Rows.fnExactApartIntervalsRow).recurses == Try.prog.recurses 4)) = true := by kernel_rfl
theorem fact12 : (((Rows.fnExactApartIntervalsRow).named == Try.prog.varsNamed 4)) = true := by kernel_rfl
theorem fact13 : (((Rows.fnExactApartIntervalsRow).maps == (Try.f4.params.toList ++ (Rows.fnExactApartIntervalsSpec).plain.varTypes Try.prog).any (Try.prog.mapsRec ·))) = true := by kernel_rfl
theorem fact14 : (((Rows.fnExactApartIntervalsRow).ifaces == (Try.f4.params.toList ++ (Rows.fnExactApartIntervalsSpec).plain.varTypes Try.prog).any (Try.prog.ifacesRec ·))) = true := by kernel_rfl
theorem fact15 : (((Rows.fnExactApartIntervalsRow).mapsOut == Try.prog.mapsAmong Try.f4.resultTypes.toList)) = true := by kernel_rfl
theorem fact16 : (((Rows.fnExactApartIntervalsRow).loops == (Try.f4.params.toList ++ (Rows.fnExactApartIntervalsSpec).plain.varTypes Try.prog).any (Try.prog.loopsFrom ·))) = true := by kernel_rfl
theorem fact17 : (((Rows.fnExactApartIntervalsRow).wideKeys == (Try.f4.params.toList ++ (Rows.fnExactApartIntervalsSpec).plain.varTypes Try.prog ++ Try.f4.resultTypes.toList).any (Try.prog.wideKeysFrom ·))) = true := by kernel_rfl
theorem fact18 : ((Rows.fnExactApartIntervalsSpec).vars.all (Try.prog.varReadable ·)) = true := by kernel_rfl
theorem fact19 : (Try.f4.resultTypes.all (fun t => Try.prog.readableRec t && decide (t < Try.prog.types.size))) = true := by kernel_rfl
theorem fact20 : (((Rows.fnExactApartIntervalsRow).ifacesOut == Try.f4.resultTypes.toList.any (Try.prog.ifacesRec ·))) = true := by kernel_rfl
theorem fact21 : (((Rows.fnExactApartIntervalsRow).loopsOut == Try.f4.resultTypes.toList.any (Try.prog.loopsFrom ·))) = true := by kernel_rfl
theorem fact23 : ((Rows.fnExactApartIntervalsRow).shortTexts.isNone) = true := by kernel_rfl
theorem fact28 : (((Rows.fnExactApartIntervalsRow).kinds == (if (Rows.fnExactApartIntervalsRow).domain.isEmpty then [] else Try.f4.params.toList.map fun t => match Try.prog.underlying t with | some (.int k) => some k | _ => none))) = true := by kernel_rfl
theorem fact29 : (((Rows.fnExactApartIntervalsRow).pinned == (Rows.fnExactApartIntervalsRow).pinnedBy)) = true := by kernel_rfl
theorem fact30 : (((Rows.fnExactApartIntervalsRow).veiled == (Try.f4.params.toList ++ (Rows.fnExactApartIntervalsSpec).plain.varTypes Try.prog ++ Try.f4.resultTypes.toList).any (Try.prog.veiledRec ·))) = true := by kernel_rfl
theorem fact31 : ((Rows.fnExactApartIntervalsRow).veiledFits Try.prog Try.f4.params.toList (Try.f4.params.toList ++ (Rows.fnExactApartIntervalsSpec).plain.varTypes Try.prog ++ Try.f4.resultTypes.toList)) = true := by kernel_rfl
theorem named : Try.pinned.checked.prog.funcNamed (Rows.fnExactApartIntervalsRow).func = some 4 := by kernel_rfl
set_option maxRecDepth 100000 in
theorem closed : joinedFacts Try.prog 4 Try.f4 (Rows.fnExactApartIntervalsSpec) (Rows.fnExactApartIntervalsRow) = true := by
  simp only [joinedFacts, Bool.and_eq_true]
  exact ⟨⟨⟨⟨⟨⟨⟨⟨⟨⟨⟨⟨⟨⟨⟨⟨⟨⟨⟨⟨⟨⟨⟨⟨⟨⟨⟨⟨⟨⟨⟨fact0, pf_laid⟩, pf_maps⟩, fact3⟩, fact4⟩, fact5⟩, pf_stops⟩, fact7⟩, pf_knobs⟩, fact9⟩, fact10⟩, fact11⟩, fact12⟩, fact13⟩, fact14⟩, fact15⟩, fact16⟩, fact17⟩, fact18⟩, fact19⟩, fact20⟩, fact21⟩, pf_keys⟩, fact23⟩, pf_heard⟩, pf_enter⟩, pf_final⟩, pf_make⟩, fact28⟩, fact29⟩, fact30⟩, fact31⟩

theorem over : Rows.fnExactApartIntervalsRow.holds Try.pinned (OpenSpec.ofChange Rows.fnExactApartIntervalsSpec) :=
  OpenClaim.holds_of_wide 4 Try.f4 rfl rfl rfl rfl rfl rfl rfl ⟨rfl, rfl, rfl, rfl, rfl⟩ rfl rfl rfl rfl rfl named Try.func4 closed
    (of_decide_eq_true (by kernel_rfl)) (by unfold Func.isWrapper; rw [if_neg (by decide +kernel)]; exact ⟨rfl, rfl⟩)
    (fun os started H enc _ => lifted os started H enc)

theorem proved : Rows.FnExactApartIntervalsSaid :=
  over
#print axioms proved
end Go.Proofs.Ytijdbfbeobflnaa.fnExactApartIntervals
