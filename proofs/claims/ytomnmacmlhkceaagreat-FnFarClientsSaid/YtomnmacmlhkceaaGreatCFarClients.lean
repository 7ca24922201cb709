/- clients that are far need as many sites, the largest list of them is as long as any other one, and threshold clients are far. No condition. -/
import Derived.Test.YtomnmacmlhkceaaGreatRows
import Derived.Test.YtomnmacmlhkceaaGreatQuy
import Derived.Test.YtomnmacmlhkceaaGreatQv
import Derived.Test.YtomnmacmlhkceaaGreatKFarClients1
import Derived.Test.YtomnmacmlhkceaaGreatKFarClients2
import Derived.Test.YtomnmacmlhkceaaGreatKFarClients3
import Derived.WalkKit
import Derived.ProofKit
import Derived.OpenShut
namespace Go.Proofs.YtomnmacmlhkceaaGreat.fnFarClients
open Go Go.ChangeShapes Go.WideShapes Go.ChangeAt Go.RowKit

theorem own : ownKnob Tryz.prog.godebug = none := by kernel_rfl

set_option maxRecDepth 100000 in
theorem lifted (os : Os) (started : os.Started) (H : Type) (enc : TypeId × Value → H) :
    ReturnsInHanded {} Tryz.checked os 7 .any (Rows.fnFarClientsSpec.pre6 enc Tryz.prog Tryz.f7 Rows.fnFarClientsRow.domain false) (Rows.fnFarClientsSpec.post enc Tryz.prog Tryz.f7 false true false false) := by
  refine returnsInHanded_of_change (C := Tryz.checked) own started (by kernel_rfl) Tryz.func7
    (ChangeSpec.witness6 (enc := enc) (C := Tryz.checked) false ⟨#[], #[.slice none 0 0], []⟩ 8 (by kernel_rfl) (by kernel_rfl) (by kernel_rfl) (by kernel_rfl)) ?_
  intro W base args ds gs before hval0 hW hcnd _
  have hval : ∀ (j : Nat) t v, Tryz.f7.params[j]? = some t → args[j]? = some v → Value.okWide Tryz.prog W .any base t v := hval0
  have hW' := hW
  obtain ⟨p, q, hA0, hV, rfl, hfz, hnd⟩ := hW
  have hA : DataW.TrodAll enc Tryz.prog W 0 (fun _ => true) true Tryz.f7.params.toList args.toList ds p := hA0
  rw [Tryz.params7] at hA hval
  obtain ⟨v0, vs0, d0, ds0, p0', q0, hargs, rfl, rfl, h0, r0⟩ := trodAll_cons hA
  obtain ⟨rfl, rfl, rfl⟩ := trodAll_nil r0
  obtain rfl : args = #[v0] := by cases args; simp_all
  obtain ⟨a0, w0, p0⟩ := arg_bytes Tryz.underlying22 Tryz.underlying5 (by kernel_rfl) (hval 0 22 v0 rfl rfl) h0
  refine (law_calls (l_FnFarClients_pc a0 (fun x hx => Nat.lt_succ_of_le (p0 x hx))) W [v0] (all2_cons w0 (all2_nil))).mono fun e W' ⟨he, hg⟩ => ?_
  subst he
  exact ⟨_, rfl, post_below (by kernel_rfl) (by kernel_rfl) rfl rfl Tryz.underlying4 hW' rfl hg⟩

theorem fact0 : ((Rows.fnFarClientsRow).wf (OpenSpec.ofChange (Rows.fnFarClientsSpec))) = true := by kernel_rfl
theorem fact3 : (Tryz.f7.params.all (Tryz.prog.readableRec ·)) = true := by kernel_rfl
theorem fact4 : (namedTie Tryz.prog (Rows.fnFarClientsRow).named (Rows.fnFarClientsSpec).vars) = true := by kernel_rfl
theorem fact5 : (((Rows.fnFarClientsRow).stops == [])) = true := by kernel_rfl
theorem fact7 : (((Rows.fnFarClientsRow).knobs == [])) = true := by kernel_rfl
theorem fact9 : (((Rows.fnFarClientsRow).inPlace == Tryz.prog.inPlace 7)) = true := by kernel_rfl
theorem fact10 : (((Rows.fnFarClientsRow).unfollowed == Tryz.prog.unfollowed 7)) = true := by kernel_rfl
theorem fact11 : (((Rows.fnFarClientsRow).recurses == Tryz.prog.recurses 7)) = true := by kernel_rfl
theorem fact12 : (((Rows.fnFarClientsRow).named == Tryz.prog.varsNamed 7)) = true := by kernel_rfl
theorem fact13 : (((Rows.fnFarClientsRow).maps == (Tryz.f7.params.toList ++ (Rows.fnFarClientsSpec).plain.varTypes Tryz.prog).any (Tryz.prog.mapsRec ·))) = true := by kernel_rfl
theorem fact14 : (((Rows.fnFarClientsRow).ifaces == (Tryz.f7.params.toList ++ (Rows.fnFarClientsSpec).plain.varTypes Tryz.prog).any (Tryz.prog.ifacesRec ·))) = true := by kernel_rfl
theorem fact15 : (((Rows.fnFarClientsRow).mapsOut == Tryz.prog.mapsAmong Tryz.f7.resultTypes.toList)) = true := by kernel_rfl
theorem fact16 : (((Rows.fnFarClientsRow).loops == (Tryz.f7.params.toList ++ (Rows.fnFarClientsSpec).plain.varTypes Tryz.prog).any (Tryz.prog.loopsFrom ·))) = true := by kernel_rfl
theorem fact17 : (((Rows.fnFarClientsRow).wideKeys == (Tryz.f7.params.toList ++ (Rows.fnFarClientsSpec).plain.varTypes Tryz.prog ++ Tryz.f7.resultTypes.toList).any (Tryz.prog.wideKeysFrom ·))) = true := by kernel_rfl
theorem fact18 : ((Rows.fnFarClientsSpec).vars.all (Tryz.prog.varReadable ·)) = true := by kernel_rfl
theorem fact19 : (Tryz.f7.resultTypes.all (fun t => Tryz.prog.readableRec t && decide (t < Tryz.prog.types.size))) = true := by kernel_rfl
theorem fact20 : (((Rows.fnFarClientsRow).ifacesOut == Tryz.f7.resultTypes.toList.any (Tryz.prog.ifacesRec ·))) = true := by kernel_rfl
theorem fact21 : (((Rows.fnFarClientsRow).loopsOut == Tryz.f7.resultTypes.toList.any (Tryz.prog.loopsFrom ·))) = true := by kernel_rfl
theorem fact23 : ((Rows.fnFarClientsRow).shortTexts.isNone) = true := by kernel_rfl
theorem fact28 : (((Rows.fnFarClientsRow).kinds == (if (Rows.fnFarClientsRow).domain.isEmpty then [] else Tryz.f7.params.toList.map fun t => match Tryz.prog.underlying t with | some (.int k) => some k | _ => none))) = true := by kernel_rfl
theorem fact29 : (((Rows.fnFarClientsRow).pinned == (Rows.fnFarClientsRow).pinnedBy)) = true := by kernel_rfl
theorem fact30 : (((Rows.fnFarClientsRow).veiled == (Tryz.f7.params.toList ++ (Rows.fnFarClientsSpec).plain.varTypes Tryz.prog ++ Tryz.f7.resultTypes.toList).any (Tryz.prog.veiledRec ·))) = true := by kernel_rfl
theorem fact31 : ((Rows.fnFarClientsRow).veiledFits Tryz.prog Tryz.f7.params.toList (Tryz.f7.params.toList ++ (Rows.fnFarClientsSpec).plain.varTypes Tryz.prog ++ Tryz.f7.resultTypes.toList)) = true := by kernel_rfl
theorem named : Tryz.pinned.checked.prog.funcNamed (Rows.fnFarClientsRow).func = some 7 := by kernel_rfl
set_option maxRecDepth 100000 in
theorem closed : joinedFacts Tryz.prog 7 Tryz.f7 (Rows.fnFarClientsSpec) (Rows.fnFarClientsRow) = true := by
  simp only [joinedFacts, Bool.and_eq_true]
  exact ⟨⟨⟨⟨⟨⟨⟨⟨⟨⟨⟨⟨⟨⟨⟨⟨⟨⟨⟨⟨⟨⟨⟨⟨⟨⟨⟨⟨⟨⟨⟨fact0, pf_laid⟩, pf_maps⟩, fact3⟩, fact4⟩, fact5⟩, pf_stops⟩, fact7⟩, pf_knobs⟩, fact9⟩, fact10⟩, fact11⟩, fact12⟩, fact13⟩, fact14⟩, fact15⟩, fact16⟩, fact17⟩, fact18⟩, fact19⟩, fact20⟩, fact21⟩, pf_keys⟩, fact23⟩, pf_heard⟩, pf_enter⟩, pf_final⟩, pf_make⟩, fact28⟩, fact29⟩, fact30⟩, fact31⟩

theorem over : Rows.fnFarClientsRow.holds Tryz.pinned (OpenSpec.ofChange Rows.fnFarClientsSpec) :=
  OpenClaim.holds_of_wide 7 Tryz.f7 rfl rfl rfl rfl rfl rfl rfl ⟨rfl, rfl, rfl, rfl, rfl⟩ rfl rfl rfl rfl rfl named Tryz.func7 closed
    (of_decide_eq_true (by kernel_rfl)) (by unfold Func.isWrapper; rw [if_neg (by decide +kernel)]; exact ⟨rfl, rfl⟩)
    (fun os started H enc _ => lifted os started H enc)

theorem proved : Rows.FnFarClientsSaid :=
  over
#print axioms proved
end Go.Proofs.YtomnmacmlhkceaaGreat.fnFarClients
