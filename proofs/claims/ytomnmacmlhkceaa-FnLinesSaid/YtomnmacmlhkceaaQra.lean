/- The pure layer: contracts of functions whose results are some of which something is so. No function of the program is named here. -/
import Derived.Test.YtomnmacmlhkceaaQr
set_option linter.unusedVariables false
set_option linter.unusedSimpArgs false
namespace Go.Proofs.Ytomnmacmlhkceaa
open Go
variable {S : Setting} {ρ : Nat → Nm} {a : Act} {w : World} {σ : Env} {st : Store}
def retX (P : Program) (rvs : List ResultVar) (X : Ex) : Post := fun e σ st =>
 match e with
 | .normal => X.ex fun g => allP (X.Q g :: retPs P rvs (X.r g) σ st)
 | .ret => X.ex fun g => allP (X.Q g :: retPs P rvs (X.r g) σ st)
 | _ => False
theorem pe_of {P : Program} {f : FuncId} {fn : Func} {c : Code} (hm : P.follows .mixedOrders = true) (hf : P.funcs[f]? = some fn) (hbody : Body P f) (hb : fn.body = some c) (C : FuncId → List D → Orc) (A : Ann) {args : List D} {X : Ex}
  (hB : (Nat.ble args.length fn.ntmps && codeB fn.ntmps c) = true) (hv : vc P C c A (env0 0 args) [] (retX P fn.results.toList X)) : PE P f args X := by
 refine ⟨hbody, fun w O vs hO hall => ?_⟩
 simp only [Bool.and_eq_true] at hB
 have hle := Nat.le_of_ble_eq_true hB.1
 refine calls_of_wp hf hb ?_
 let S : Setting := { P := P, n := fn.ntmps, w0 := w, O := O, may := fun _ => False, F := fun b => b < w.heap.size, fb := fun _ h => h }
 have hst : StR S (fun _ => nm 0 0) { tmps := vs.toArray ++ Array.replicate (fn.ntmps - vs.toArray.size) undef, defers := [] } w (env0 0 args) [] := by
  have hvl := hall.1
  refine ⟨?_, rfl, hO, fun k e hk => by simp [aget] at hk, fun k e hk => by simp [aget] at hk, fun k k' e e' hk => by simp [aget] at hk, fun t p hp => ?_, ⟨rfl, rfl, rfl, Nat.le_refl _, Nat.le_refl _, fun _ _ _ => rfl⟩, fun t p hp j hj => ?_, fun k t cs hk => by simp [aget] at hk, fun _ hg => by cases hg⟩
  ·show (vs.toArray ++ Array.replicate (fn.ntmps - vs.toArray.size) undef).size = fn.ntmps
   simp; omega
  ·obtain ⟨j, x, h1, h2, h3⟩ := env0_get args 0 t p hp
   rw [Nat.zero_add] at h1
   subst h1 h3
   have hj : t < args.length := (List.getElem?_eq_some_iff.1 h2).1
   refine ⟨by show t < fn.ntmps; omega, ?_⟩
   have hjv : t < vs.length := by omega
   have hv := List.getElem?_eq_getElem hjv
   have hr := hall.2 t _ x hv h2
   have e : (vs.toArray ++ Array.replicate (fn.ntmps - vs.toArray.size) undef).getD t undef = vs[t] := by
    simp [Array.getD, Array.getElem_append, hjv]
    omega
   show RP w _ _ _ ((vs.toArray ++ Array.replicate (fn.ntmps - vs.toArray.size) undef).getD t undef) _
   rw [e]
   refine .d _ _ _ (hr.step fun b hb hn => ⟨rfl, fun ho => ?_⟩)
   rcases ho with ho | ⟨k, e, hk, _⟩
   ·exact hn ho
   ·simp [aget] at hk
  ·obtain ⟨j', x, _, _, h3⟩ := env0_get args 0 t p hp
   subst h3
   simp [PV.rgm] at hj
 refine vc_ok (S := S) hm (fun _ h => h.elim) c A _ _ _ _ _ _ _ hB.2 hst hv ?_
 intro e ρ a' w' σ' st' hst' hk
 have fin : (X.ex fun g => allP (X.Q g :: retPs P fn.results.toList (X.r g) σ' st')) → a'.defers = [] ∧ ∃ v, (results fn a'.tmps).run P w' = .ok v w' ∧ ∃ v', (Ending.returned v : Ending) = .returned v' ∧ Bel w.heap.size w w' ∧ ∃ g, X.Q g ∧ ResOk w.heap.size w' v' (X.r g) := by
  intro hk
  obtain ⟨g, hk⟩ := X.exOk _ hk
  obtain ⟨v, h1, h2⟩ := ret_ok hst' (fun _ h => h) (fun _ h => h) (fun q hq => allP_mem hk q (List.mem_cons_of_mem _ hq))
  refine ⟨hst'.dfr, v, h1, v, rfl, ?_, g, allP_mem hk _ List.mem_cons_self, h2⟩
  exact ⟨⟨hst'.frm.os, hst'.frm.tape, hst'.frm.output, hst'.frm.size, fun b hb => hst'.frm.block b hb fun h => h⟩, hst'.frm.drawn⟩
 cases e with
 | normal => exact fin hk
 | ret => exact fin hk
 | _ => exact hk.elim
theorem pe_by {P : Program} {f : FuncId} {fn : Func} {Q : Prop} (hm : P.follows .mixedOrders = true) (hf : P.funcs[f]? = some fn) (hbody : Body P f) (hb : fn.body = some (bodyOf fn)) (C : FuncId → List D → Orc) (A : Ann) {args : List D} {X : Ex}
  (hB : (Nat.ble args.length fn.ntmps && codeB fn.ntmps (bodyOf fn)) = true) (hq : Q) (hv : vc P C (bodyOf fn) A (env0 0 args) [] (retX P fn.results.toList X) = Q) : PE P f args X :=
 pe_of hm hf hbody hb C A hB (hv ▸ hq)
end Go.Proofs.Ytomnmacmlhkceaa
