/- For every System s, laws.FnExactRaisePrices(s) returns true: the program and the reference return the same prices and the same choice, s is left as it was, and both lists share no memory with it, with one another, nor with those of another call. No condition. -/
import Derived.Test.YtijdbfbeobflnaaRows
import Derived.Test.YtijdbfbeobflnaaPu
import Derived.Test.YtijdbfbeobflnaaPv
import Derived.Test.YtijdbfbeobflnaaKRaisePrices1
import Derived.WalkKit
import Derived.ProofKit
import Derived.OpenShut
namespace Go.Proofs.Ytijdbfbeobflnaa.fnExactRaisePrices
open Go Go.ChangeShapes Go.WideShapes Go.ChangeAt Go.RowKit

theorem own : ownKnob Try.prog.godebug = none := by kernel_rfl

set_option maxRecDepth 100000 in
theorem lifted (os : Os) (started : os.Started) (H : Type) (enc : TypeId × Value → H) :
    ReturnsInHanded {} Try.checked os 12 .any (Rows.fnExactRaisePricesSpec.pre6 enc Try.prog Try.f12 Rows.fnExactRaisePricesRow.domain false) (Rows.fnExactRaisePricesSpec.post enc Try.prog Try.f12 false true false false) := by
  refine returnsInHanded_of_change (C := Try.checked) own started (by kernel_rfl) Try.func12
    (ChangeSpec.witness6 (enc := enc) (C := Try.checked) false ⟨#[], #[.agg #[.int .i64 0, .slice none 0 0, .slice none 0 0]], []⟩ 8 (by kernel_rfl) (by kernel_rfl) (by kernel_rfl) (by kernel_rfl)) ?_
  intro W base args ds gs before hval0 hW hcnd _
  have hval : ∀ (j : Nat) t v, Try.f12.params[j]? = some t → args[j]? = some v → Value.okWide Try.prog W .any base t v := hval0
  have hW' := hW
  obtain ⟨p, q, hA0, hV, rfl, hfz, hnd⟩ := hW
  have hA : DataW.TrodAll enc Try.prog W 0 (fun _ => true) true Try.f12.params.toList args.toList ds p := hA0
  rw [Try.params12] at hA hval
  obtain ⟨v0, vs0, d0, ds0, p0', q0, hargs, rfl, rfl, h0, r0⟩ := trodAll_cons hA
  obtain ⟨rfl, rfl, rfl⟩ := trodAll_nil r0
  obtain rfl : args = #[v0] := by cases args; simp_all
  obtain ⟨a0, b0, c0, w0, p0⟩ := arg_sys (ti := 3) (tr := 39) (tl := 26) Try.underlying59 (by kernel_rfl) rfl rfl rfl rfl rfl rfl Try.underlying3 (by kernel_rfl) Try.underlying26 (by kernel_rfl) Try.underlying39 (by kernel_rfl) (hval 0 59 v0 rfl rfl) h0
  refine (law_calls (l_FnExactRaisePrices_pc a0 b0 c0) W [v0] (all2_cons w0 (all2_nil))).mono fun e W' ⟨he, hg⟩ => ?_
  subst he
  exact ⟨_, rfl, post_below (by kernel_rfl) (by kernel_rfl) rfl rfl Try.underlying4 hW' rfl hg⟩

theorem fact0 : ((Rows.fnExactRaisePricesRow).wf (OpenSpec.ofChange (Rows.fnExactRaisePricesSpec))) = true := by kernel_rfl
theorem fact3 : (Try.f12.params.all (Try.prog.readableRec ·)) = true := by kernel_rfl
theorem fact4 : (namedTie Try.prog (Rows.fnExactRaisePricesRow).named (Rows.fnExactRaisePricesSpec).vars) = true := by kernel_rfl
theorem fact5 : (((Rows.fnExactRaisePricesRow).stops == [])) = true := by kernel_rfl
theorem fact7 : (((Rows.fnExactRaisePricesRow).knobs == [])) = true := by kernel_rfl
theorem fact9 : (((Rows.fnExactRaisePricesRow).inPlace == Try.prog.inPlace 12)) = true := by kernel_rfl
theorem fact10 : (((Rows.fnExactRaisePricesRow).unfollowed == Try.prog.unfollowed 12)) = true := by kernel_rfl
theorem fact11 : (((Rows.fnExactRaisePricesRow).recurses == Try.prog.recurses 12)) = true := by kernel_rfl
theorem fact12 : (((Rows.fnExactRaisePricesRow).named == Try.prog.varsNamed 12)) = true := by kernel_rfl
theorem fact13 : (((Rows.fnExactRaisePricesRow).maps == (Try.f12.params.toList ++ (Rows.fnExactRaisePricesSpec).plain.varTypes Try.prog).any (Try.prog.mapsRec ·))) = true := by kernel_rfl
theorem fact14 : (((Rows.fnExactRaisePricesRow).ifaces == (Try.f12.params.toList ++ (Rows.fnExactRaisePricesSpec).plain.varTypes Try.prog).any (Try.prog.ifacesRec ·))) = true := by kernel_rfl
theorem fact15 : (((Rows.fnExactRaisePricesRow).mapsOut == Try.prog.mapsAmong Try.f12.resultTypes.toList)) = true := by kernel_rfl
theorem fact16 : (((Rows.fnExactRaisePricesRow).loops == (Try.f12.params.toList ++ (Rows.fnExactRaisePricesSpec).plain.varTypes Try.prog).any (Try.prog.loopsFrom ·))) = true := by kernel_rfl
theorem fact17 : (((Rows.fnExactRaisePricesRow).wideKeys == (Try.f12.params.toList ++ (Rows.fnExactRaisePricesSpec).plain.varTypes Try.prog ++ Try.f12.resultTypes.toList).any (Try.prog.wideKeysFrom ·))) = true := by kernel_rfl
theorem fact18 : ((Rows.fnExactRaisePricesSpec).vars.all (Try.prog.varReadable ·)) = true := by kernel_rfl
theorem fact19 : (Try.f12.resultTypes.all (fun t => Try.prog.readableRec t && decide (t < Try.prog.types.size))) = true := by kernel_rfl
theorem fact20 : (((Rows.fnExactRaisePricesRow).ifacesOut == Try.f12.resultTypes.toList.any (Try.prog.ifacesRec ·))) = true := by kernel_rfl
theorem fact21 : (((Rows.fnExactRaisePricesRow).loopsOut == Try.f12.resultTypes.toList.any (Try.prog.loopsFrom ·))) = true := by kernel_rfl
theorem fact23 : ((Rows.fnExactRaisePricesRow).shortTexts.isNone) = true := by kernel_rfl
theorem fact28 : (((Rows.fnExactRaisePricesRow).kinds == (if (Rows.fnExactRaisePricesRow).domain.isEmpty then [] else Try.f12.params.toList.map fun t => match Try.prog.underlying t with | some (.int k) => some k | _ => none))) = true := by kernel_rfl
theorem fact29 : (((Rows.fnExactRaisePricesRow).pinned == (Rows.fnExactRaisePricesRow).pinnedBy)) = true := by kernel_rfl
theorem fact30 : (((Rows.fnExactRaisePricesRow).veiled == (Try.f12.params.toList ++ (Rows.fnExactRaisePricesSpec).plain.varTypes Try.prog ++ Try.f12.resultTypes.toList).any (Try.prog.veiledRec ·))) = true := by kernel_rfl
theorem fact31 : ((Rows.fnExactRaisePricesRow).veiledFits Try.prog Try.f12.params.toList (Try.f12.params.toList ++ (Rows.fnExactRaisePricesSpec).plain.varTypes Try.prog ++ Try.f12.resultTypes.toList)) = true := by kernel_rfl
theorem named : Try.pinned.checked.prog.funcNamed (Rows.fnExactRaisePricesRow).func = some 12 := by kernel_rfl
set_option maxRecDepth 100000 in
theorem closed : joinedFacts Try.prog 12 Try.f12 (Rows.fnExactRaisePricesSpec) (Rows.fnExactRaisePricesRow) = true := by
  simp only [joinedFacts, Bool.and_eq_true]
  exact ⟨⟨⟨⟨⟨⟨⟨⟨⟨⟨⟨⟨⟨⟨⟨⟨⟨⟨⟨⟨⟨⟨⟨⟨⟨⟨⟨⟨⟨⟨⟨fact0, pf_laid⟩, pf_maps⟩, fact3⟩, fact4⟩, fact5⟩, pf_stops⟩, fact7⟩, pf_knobs⟩, fact9⟩, fact10⟩, fact11⟩, fact12⟩, fact13⟩, fact14⟩, fact15⟩, fact16⟩, fact17⟩, fact18⟩, fact19⟩, fact20⟩, fact21⟩, pf_keys⟩, fact23⟩, pf_heard⟩, pf_enter⟩, pf_final⟩, pf_make⟩, fact28⟩, fact29⟩, fact30⟩, fact31⟩

theorem over : Rows.fnExactRaisePricesRow.holds Try.pinned (OpenSpec.ofChange Rows.fnExactRaisePricesSpec) :=
  OpenClaim.holds_of_wide 12 Try.f12 rfl rfl rfl rfl rfl rfl rfl ⟨rfl, rfl, rfl, rfl, rfl⟩ rfl rfl rfl rfl rfl named Try.func12 closed
    (of_decide_eq_true (by kernel_rfl)) (by unfold Func.isWrapper; rw [if_neg (by decide +kernel)]; exact ⟨rfl, rfl⟩)
    (fun os started H enc _ => lifted os started H enc)

theorem proved : Rows.FnExactRaisePricesSaid :=
  over
#print axioms proved
end Go.Proofs.Ytijdbfbeobflnaa.fnExactRaisePrices
