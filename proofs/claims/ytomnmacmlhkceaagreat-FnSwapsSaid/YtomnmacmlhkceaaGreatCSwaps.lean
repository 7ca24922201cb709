/- A local set of a metric Field has a service of at most five times the least one, and each swap that is made gains what is told. No condition. -/
import Derived.Test.YtomnmacmlhkceaaGreatRows
import Derived.Test.YtomnmacmlhkceaaGreatQuy
import Derived.Test.YtomnmacmlhkceaaGreatQv
import Derived.Test.YtomnmacmlhkceaaGreatKSwaps1
import Derived.Test.YtomnmacmlhkceaaGreatKSwaps2
import Derived.WalkKit
import Derived.ProofKit
import Derived.OpenShut
namespace Go.Proofs.YtomnmacmlhkceaaGreat.fnSwaps
open Go Go.ChangeShapes Go.WideShapes Go.ChangeAt Go.RowKit

theorem own : ownKnob Tryz.prog.godebug = none := by kernel_rfl

set_option maxRecDepth 100000 in
theorem lifted (os : Os) (started : os.Started) (H : Type) (enc : TypeId × Value → H) :
    ReturnsInHanded {} Tryz.checked os 4 .any (Rows.fnSwapsSpec.pre6 enc Tryz.prog Tryz.f4 Rows.fnSwapsRow.domain false) (Rows.fnSwapsSpec.post enc Tryz.prog Tryz.f4 false true false false) := by
  refine returnsInHanded_of_change (C := Tryz.checked) own started (by kernel_rfl) Tryz.func4
    (ChangeSpec.witness6 (enc := enc) (C := Tryz.checked) false ⟨#[], #[.slice none 0 0], []⟩ 8 (by kernel_rfl) (by kernel_rfl) (by kernel_rfl) (by kernel_rfl)) ?_
  intro W base args ds gs before hval0 hW hcnd _
  have hval : ∀ (j : Nat) t v, Tryz.f4.params[j]? = some t → args[j]? = some v → Value.okWide Tryz.prog W .any base t v := hval0
  have hW' := hW
  obtain ⟨p, q, hA0, hV, rfl, hfz, hnd⟩ := hW
  have hA : DataW.TrodAll enc Tryz.prog W 0 (fun _ => true) true Tryz.f4.params.toList args.toList ds p := hA0
  rw [Tryz.params4] at hA hval
  obtain ⟨v0, vs0, d0, ds0, p0', q0, hargs, rfl, rfl, h0, r0⟩ := trodAll_cons hA
  obtain ⟨rfl, rfl, rfl⟩ := trodAll_nil r0
  obtain rfl : args = #[v0] := by cases args; simp_all
  obtain ⟨a0, w0, p0⟩ := arg_bytes Tryz.underlying22 Tryz.underlying5 (by kernel_rfl) (hval 0 22 v0 rfl rfl) h0
  refine (law_calls (l_FnSwaps_pc a0 (fun x hx => Nat.lt_succ_of_le (p0 x hx))) W [v0] (all2_cons w0 (all2_nil))).mono fun e W' ⟨he, hg⟩ => ?_
  subst he
  exact ⟨_, rfl, post_below (by kernel_rfl) (by kernel_rfl) rfl rfl Tryz.underlying4 hW' rfl hg⟩

theorem fact0 : ((Rows.fnSwapsRow).wf (OpenSpec.ofChange (Rows.fnSwapsSpec))) = true := by kernel_rfl
theorem fact3 : (Tryz.f4.params.all (Tryz.prog.readableRec ·)) = true := by kernel_rfl
theorem fact4 : (namedTie Tryz.prog (Rows.fnSwapsRow).named (Rows.fnSwapsSpec).vars) = true := by kernel_rfl
theorem fact5 : (((Rows.fnSwapsRow).stops == [])) = true := by kernel_rfl
theorem fact7 : (((Rows.fnSwapsRow).knobs == [])) = true := by kernel_rfl
theorem fact9 : (((Rows.fnSwapsRow).inPlace == Tryz.prog.inPlace 4)) = true := by kernel_rfl
theorem fact10 : (((Rows.fnSwapsRow).unfollowed == Tryz.prog.unfollowed 4)) = true := by kernel_rfl
theorem fact11 : (((Rows.fnSwapsRow).recurses == Tryz.prog.recurses 4)) = true := by kernel_rfl
theorem fact12 : (((Rows.fnSwapsRow).named == Tryz.prog.varsNamed 4)) = true := by kernel_rfl
theorem fact13 : (((Rows.fnSwapsRow).maps == (Tryz.f4.params.toList ++ (Rows.fnSwapsSpec).plain.varTypes Tryz.prog).any (Tryz.prog.mapsRec ·))) = true := by kernel_rfl
theorem fact14 : (((Rows.fnSwapsRow).ifaces == (Tryz.f4.params.toList ++ (Rows.fnSwapsSpec).plain.varTypes Tryz.prog).any (Tryz.prog.ifacesRec ·))) = true := by kernel_rfl
theorem fact15 : (((Rows.fnSwapsRow).mapsOut == Tryz.prog.mapsAmong Tryz.f4.resultTypes.toList)) = true := by kernel_rfl
theorem fact16 : (((Rows.fnSwapsRow).loops == (Tryz.f4.params.toList ++ (Rows.fnSwapsSpec).plain.varTypes Tryz.prog).any (Tryz.prog.loopsFrom ·))) = true := by kernel_rfl
theorem fact17 : (((Rows.fnSwapsRow).wideKeys == (Tryz.f4.params.toList ++ (Rows.fnSwapsSpec).plain.varTypes Tryz.prog ++ Tryz.f4.resultTypes.toList).any (Tryz.prog.wideKeysFrom ·))) = true := by kernel_rfl
theorem fact18 : ((Rows.fnSwapsSpec).vars.all (Tryz.prog.varReadable ·)) = true := by kernel_rfl
theorem fact19 : (Tryz.f4.resultTypes.all (fun t => Tryz.prog.readableRec t && decide (t < Tryz.prog.types.size))) = true := by kernel_rfl
theorem fact20 : (((Rows.fnSwapsRow).ifacesOut == Tryz.f4.resultTypes.toList.any (Tryz.prog.ifacesRec ·))) = true := by kernel_rfl
theorem fact21 : (((Rows.fnSwapsRow).loopsOut == Tryz.f4.resultTypes.toList.any (Tryz.prog.loopsFrom ·))) = true := by kernel_rfl
theorem fact23 : ((Rows.fnSwapsRow).shortTexts.isNone) = true := by kernel_rfl
theorem fact28 : (((Rows.fnSwapsRow).kinds == (if (Rows.fnSwapsRow).domain.isEmpty then [] else Tryz.f4.params.toList.map fun t => match Tryz.prog.underlying t with | some (.int k) => some k | _ => none))) = true := by kernel_rfl
theorem fact29 : (((Rows.fnSwapsRow).pinned == (Rows.fnSwapsRow).pinnedBy)) = true := by kernel_rfl
theorem fact30 : (((Rows.fnSwapsRow).veiled == (Tryz.f4.params.toList ++ (Rows.fnSwapsSpec).plain.varTypes Tryz.prog ++ Tryz.f4.resultTypes.toList).any (Tryz.prog.veiledRec ·))) = true := by kernel_rfl
theorem fact31 : ((Rows.fnSwapsRow).veiledFits Tryz.prog Tryz.f4.params.toList (Tryz.f4.params.toList ++ (Rows.fnSwapsSpec).plain.varTypes Tryz.prog ++ Tryz.f4.resultTypes.toList)) = true := by kernel_rfl
theorem named : Tryz.pinned.checked.prog.funcNamed (Rows.fnSwapsRow).func = some 4 := by kernel_rfl
set_option maxRecDepth 100000 in
theorem closed : joinedFacts Tryz.prog 4 Tryz.f4 (Rows.fnSwapsSpec) (Rows.fnSwapsRow) = true := by
  simp only [joinedFacts, Bool.and_eq_true]
  exact ⟨⟨⟨⟨⟨⟨⟨⟨⟨⟨⟨⟨⟨⟨⟨⟨⟨⟨⟨⟨⟨⟨⟨⟨⟨⟨⟨⟨⟨⟨⟨fact0, pf_laid⟩, pf_maps⟩, fact3⟩, fact4⟩, fact5⟩, pf_stops⟩, fact7⟩, pf_knobs⟩, fact9⟩, fact10⟩, fact11⟩, fact12⟩, fact13⟩, fact14⟩, fact15⟩, fact16⟩, fact17⟩, fact18⟩, fact19⟩, fact20⟩, fact21⟩, pf_keys⟩, fact23⟩, pf_heard⟩, pf_enter⟩, pf_final⟩, pf_make⟩, fact28⟩, fact29⟩, fact30⟩, fact31⟩

theorem over : Rows.fnSwapsRow.holds Tryz.pinned (OpenSpec.ofChange Rows.fnSwapsSpec) :=
  OpenClaim.holds_of_wide 4 Tryz.f4 rfl rfl rfl rfl rfl rfl rfl ⟨rfl, rfl, rfl, rfl, rfl⟩ rfl rfl rfl rfl rfl named Tryz.func4 closed
    (of_decide_eq_true (by kernel_rfl)) (by unfold Func.isWrapper; rw [if_neg (by decide +kernel)]; exact ⟨rfl, rfl⟩)
    (fun os started H enc _ => lifted os started H enc)

theorem proved : Rows.FnSwapsSaid :=
  over
#print axioms proved
end Go.Proofs.YtomnmacmlhkceaaGreat.fnSwaps
