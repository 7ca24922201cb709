/- The pure layer: the library's DeleteFunc at rows of numbers, as a contract of this layer. No function of the program is named here. -/
import Derived.Test.YtomnmacmlhkceaaQua
import Derived.Shelf.SlicesE.DeleteFunc
set_option linter.unusedVariables false
set_option linter.unusedSimpArgs false
namespace Go.Proofs.Ytomnmacmlhkceaa
open Go Go.RowKit Go.Lib Go.Sort
variable {P : Program} {ρs : Go.Shelf.Ren}
def PB (P : Program) (f : FuncId) (args : List D) (b : Bool) : Prop :=
 Body P f ∧ ∀ (w : World) (vs : List Value), All2 (R w.cell? fun _ => False) vs args → Calls P f vs.toArray w fun e w' => e = .returned (.bool b) ∧ ∃ q, w' = w.drewN q
theorem pu_deleteFunc (L : SlLaysH.n10 P ρs) (hz : ∀ w, (zeroValue (ρs.t 23)).run P w = .ok (.slice none 0 0) w) (e : TypeId) (xss : List (List Int)) (p : List Int → Bool) (gf : FuncId) (caps : List D)
  (hp : ∀ x, PB P gf (.sl (.ints x) :: caps) (p x)) (hpos : 0 < xss.length) : PU P (ρs.f 10) e (.rows xss) (.rows (xss.filter fun x => !(p x))) [.fn gf 0 caps] true := by
 have hb : Body P (ρs.f 10) := L.f10.enters rfl
 have hbg : Body P gf := (hp []).1
 refine pu_turn hb rfl rfl (List.length_filter_le _ _) hpos fun w O g cap cur vs hg hcap hsz1 hle hO hgO hrow hrest => ?_
 have hle : xss.length ≤ cap := hle
 have hcap : cap ≤ 9223372036854775807 := hcap
 obtain ⟨v, rfl⟩ : ∃ v, vs = [v] := by
  match vs, hrest.1 with
  | [v], _ => exact ⟨v, rfl⟩
 have hv := hrest.2 0 v (.fn gf 0 caps) rfl rfl
 obtain ⟨lb, rfl, hlb⟩ : ∃ lb : List Value, v = .func (.func gf) #[] lb.toArray ∧ All2 (R w.cell? O) lb caps := by
  cases hv with
  | fn _ _ us _ hl hr => exact ⟨us, rfl, hl, hr⟩
 let α := Option (Fin xss.length)
 let enc : α → Value := fun i => match i with
  | some i => cur.getD i.1 undef
  | none => .slice none 0 0
 let el : α → List Int := fun i => match i with
  | some i => xss[i.1]
  | none => []
 let d : Array α := Array.ofFn fun i : Fin xss.length => some i
 have hdz : d.size = xss.length := by simp [d]
 have hd : ∀ j (hj : j < xss.length), d[j]! = some ⟨j, hj⟩ := fun j hj => by
  rw [getElem!_pos d j (by omega)]
  simp [d]
 have henc : ∀ i : Fin xss.length, cur[i.1]? = some (enc (some i)) ∧ R w.cell? O (enc (some i)) (.sl (.ints (el (some i)))) := by
  intro i
  obtain ⟨u, hu, hr⟩ := hrow i.1 i.2
  have e1 : enc (some i) = u := by simp [enc, hu]
  rw [e1]
  refine ⟨hu, ?_⟩
  have e2 : (Mem.rows xss).get i.1 0 = .sl (.ints (el (some i))) := by simp [Mem.get, el]
  rw [← e2]
  exact hr
 have henc2 : ∀ x : α, R w.cell? O (enc x) (.sl (.ints (el x))) := fun x => match x with
  | some i => (henc i).2
  | none => .slnil _ rfl
 have hone : OneCell enc := fun x => (henc2 x).oneCell rfl
 have hH : Holds enc w g 0 d := by
  intro j hj
  have hj : j < xss.length := by omega
  rw [Nat.zero_add, hd j hj]
  exact ⟨by rw [cell_of_row w _ _ _ _ _ hg, (henc ⟨j, hj⟩).1], frozen_of_row _ _ _ _ _ hg⟩
 have key : ∀ (W : World) (x : α), (∀ {v : Value} {y : D}, R w.cell? O v y → R W.cell? O v y) → FnGives P gf lb.toArray #[enc x] (.bool (p (el x))) W := by
  intro W x hst
  have h0 : ∀ {v : Value} {y : D}, R w.cell? O v y → R W.cell? (fun _ => False) v y := fun h => (hst h).mono fun a v h1 _ => ⟨h1, fun h => h⟩
  have := (hp (el x)).2 W (enc x :: lb) (by
   refine ⟨by simp [hlb.1], fun j v q hv hq => ?_⟩
   cases j with
   | zero => simp at hv hq; subst hv hq; exact h0 (henc2 x)
   | succ j => exact h0 (hlb.2 j v q (by simpa using hv) (by simpa using hq)))
  show Calls P gf (#[enc x] ++ lb.toArray) W _
  have ea : #[enc x] ++ lb.toArray = (enc x :: lb).toArray := by simp
  rw [ea]
  exact this
 have hgs := (Array.getElem?_eq_some_iff.1 hg).1
 have hpa : PredAt P gf lb.toArray enc (fun x => p (el x)) w := fun W x hbel => key W x fun h => h.step fun b hb1 hn => ⟨hbel.block b hb1, hn⟩
 have hpo : PredOver P gf lb.toArray enc (fun x => p (el x)) g 0 d.size w := fun q os dk x _ => key _ x fun h => bel_turn enc hgO h dk q os
 have hcall := AnyE.slices_DeleteFunc L enc hone (fun x => p (el x)) gf lb.toArray (fun args w => hbg.run args w) none hz g 0 cap d w hpa hpo hH (by omega) (by omega)
 rw [hdz] at hcall
 have hmap : d.toList.map el = xss := by
  apply List.ext_getElem
  ·simp [d]
  ·intro i h2 h3
   simp [d, el]
 have hfil : (d.toList.filter fun x => !p (el x)).map el = xss.filter fun x => !(p x) := by
  have := List.filter_map (p := fun x => !(p x)) (f := el) (l := d.toList)
  rw [hmap] at this
  rw [this]
  rfl
 have hfl : (d.toList.filter fun x => !p (el x)).length = (xss.filter fun x => !(p x)).length := by rw [← hfil, List.length_map]
 refine hcall.mono fun en w' he => ?_
 obtain ⟨rfl, q, rfl⟩ := he
 obtain ⟨t1, t2, t3, t4, t5, t6, t7⟩ := turn_world enc hg ((d.toList.filter fun x => !p (el x)) ++ List.replicate (xss.length - (d.toList.filter fun x => !p (el x)).length) none).toArray q #[]
 rw [grow_empty] at t1 t2 t3 t4 t5 t6 t7
 refine ⟨by rw [hfl]; rfl, t1, t2, t3, t4, t5, t6, _, t7, by simp [putCells], fun i hi => ?_⟩
 have hi : i < (xss.filter fun x => !(p x)).length := hi
 have hi' : i < (d.toList.filter fun x => !p (el x)).length := by omega
 have hil : i < xss.length := Nat.lt_of_lt_of_le hi (List.length_filter_le _ _)
 obtain ⟨k, hk⟩ : ∃ k : Fin xss.length, (d.toList.filter fun x => !p (el x))[i] = some k := by
  have h1 := (List.mem_filter.1 (List.getElem_mem hi')).1
  have h2 : ∀ x ∈ d.toList, ∃ k, x = some k := by
   intro x hx
   simp only [d, Array.toList_ofFn, List.mem_ofFn] at hx
   obtain ⟨k, hk⟩ := hx
   exact ⟨k, hk.symm⟩
  exact h2 _ h1
 refine ⟨k.1, k.2, ?_, ?_⟩
 ·have h1 : (xss.filter fun x => !(p x))[i]? = some xss[k.1] := by
   rw [← hfil, List.getElem?_map, List.getElem?_eq_getElem hi', hk]
   rfl
  have h2 : xss[k.1]? = some xss[k.1] := List.getElem?_eq_getElem k.2
  show D.sl (.ints ((xss.filter fun x => !(p x)).getD i [])) = D.sl (.ints (xss.getD k.1 []))
  rw [List.getD_eq_getElem?_getD, List.getD_eq_getElem?_getD, h1, h2]
 ·rw [putCells_get enc _ _ (by simp; omega) (by omega), (henc k).1]
  congr 1
  simp only [List.getElem!_toArray, List.getElem!_eq_getElem?_getD]
  rw [List.getElem?_append_left hi', List.getElem?_eq_getElem hi', hk]
  rfl
end Go.Proofs.Ytomnmacmlhkceaa
