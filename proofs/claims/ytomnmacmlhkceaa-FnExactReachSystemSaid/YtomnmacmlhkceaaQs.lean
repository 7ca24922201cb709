/- The pure layer, part S: from a law's contract to what its statement asks behind the call. No function of the program is named here. -/
import Derived.Test.YtomnmacmlhkceaaQra
import Derived.ProofKit
import Derived.OpenShut
set_option linter.unusedVariables false
set_option linter.unusedSimpArgs false
namespace Go.Proofs.Ytomnmacmlhkceaa
open Go Go.ChangeShapes Go.WideShapes Go.RowKit
theorem trodAll_below {H : Type} {enc : TypeId × Value → H} {P : Program} (hl : laidOutB P = true) {W W' : World} (hb : Below W.heap.size W W') :
  ∀ (ts : List TypeId), (ts.all fun t => P.readableRec t && decide (t < P.types.size)) = true → ∀ (vs : List Value) (ds : List (DataW H)) (ps : List MemPlace), DataW.TrodAll enc P W 0 (fun _ => true) true ts vs ds ps →
   (∀ x ∈ ps, x.block < W.heap.size) → DataW.TrodAll enc P W' 0 (fun b => decide (b < W.heap.size)) true ts vs ds ps
 | [], _, vs, ds, ps, h, _ => by
  obtain ⟨rfl, rfl, rfl⟩ := trodAll_nil h
  exact trodAll_mk0
 | t :: ts, hts, vs, ds, ps, h, hlt => by
  obtain ⟨v, vs', d, ds', p, q, rfl, rfl, rfl, h0, r0⟩ := trodAll_cons h
  simp only [List.all_cons, Bool.and_eq_true, decide_eq_true_eq] at hts
  exact trodAll_cons_mk (hb.trod hl hts.1.1 hts.1.2 h0 fun x hx => hlt x (List.mem_append_left _ hx))
   (trodAll_below hl hb ts (by simpa using hts.2) vs' ds' q r0 fun x hx => hlt x (List.mem_append_right _ hx))
theorem post_below {H : Type} {enc : TypeId × Value → H} {P : Program} {f : Func} {s : ChangeSpec} {apart fresh : Bool} {W W' : World} {args : Array Value} {ds gs : List (DataW H)} {before : List MemPlace} {tb : TypeId}
  (hl : laidOutB P = true) (hts : (f.params.toList.all fun t => P.readableRec t && decide (t < P.types.size)) = true) (hvars : s.vars = []) (hrt : f.resultTypes = #[tb]) (htb : P.underlying tb = some .bool)
  (hW : DataW.Whole enc P f.params.toList s.vars apart W args.toList ds gs before) (hs : s.fn H ds = { results := [.lit (.bool true)], args := ds }) (hb : Below W.heap.size W W') :
  s.post enc P f apart fresh false false W args (.bool true) W' := by
 have hlt : ∀ p ∈ before, p.block < W.heap.size := fun p hp => hW.lt p hp
 have hW0 := hW
 obtain ⟨p, q, hA, hV, rfl, hfz, hnd⟩ := hW
 rw [hvars] at hV
 obtain ⟨rfl, rfl⟩ := trodVars_none hV
 have e : s.fn H (ds ++ []) = { results := [.lit (.bool true)], args := ds } := by rw [List.append_nil]; exact hs
 refine ⟨ds, [], p ++ [], [], p, [], hW0, ?_, ?_, ?_, hb.frame _, fun h => by cases h⟩
 ·rw [e, hrt]
  exact trodAll_cons_mk (shut_bool htb _) trodAll_mk0
 ·rw [e]
  exact trodAll_below hl hb _ hts _ _ _ hA fun x hx => hlt x (List.mem_append_left _ hx)
 ·rw [e, hvars]
  rfl
theorem all2_nil {α β : Type} {r : α → β → Prop} : All2 r [] [] := ⟨rfl, fun j x y h => by simp at h⟩
theorem all2_cons {α β : Type} {r : α → β → Prop} {x : α} {y : β} {xs : List α} {ys : List β} (h : r x y) (hs : All2 r xs ys) : All2 r (x :: xs) (y :: ys) := by
 refine ⟨by simp [hs.1], fun j a b ha hb => ?_⟩
 cases j with
 | zero => simp at ha hb; subst ha hb; exact h
 | succ j => exact hs.2 j a b (by simpa using ha) (by simpa using hb)
theorem law_calls {P : Program} {f : FuncId} {args : List D} (h : PC P f args (.one (.d (.bool true)))) (w : World) (vs : List Value) (hall : All2 (R w.cell? (fun _ => False)) vs args) :
  Calls P f vs.toArray w fun e w' => e = .returned (.bool true) ∧ Below w.heap.size w w' := by
 refine (h.2 w (fun _ => False) vs (fun _ h => h.elim) hall).mono fun e w' ⟨v, he, hb, ρ, us, hv, hl, _, hr⟩ => ⟨?_, hb.toBelow⟩
 have hl1 : us.length = 1 := hl
 have h0 : us[0]? = some us[0] := List.getElem?_eq_getElem (by omega)
 have h1 := hr 0 us[0] (.d (.bool true)) h0 rfl
 have h2 : us[0] = .bool true := by
  have : R (ucell w') _ us[0] (.bool true) := h1
  revert this
  generalize us[0] = u
  intro this
  cases this
  rfl
 have h3 : v = us[0] := by rw [hv]; simp [Res.value, List.getD, h0]
 rw [he, h3, h2]
end Go.Proofs.Ytomnmacmlhkceaa
