/- The pure layer: the library's sorting of whole numbers in place. No function of the program is named here. -/
import Derived.Test.YtomnmacmlhkceaaGreatQua
import Derived.Shelf.SortM.Plain
import Derived.Shelf.SortM.SortNone
set_option linter.unusedVariables false
set_option linter.unusedSimpArgs false
namespace Go.Proofs.YtomnmacmlhkceaaGreat
open Go Go.RowKit Go.Lib Go.Sort
variable {P : Program} {ρs : Go.Shelf.Ren}
theorem pu_sort_int (L : SlLaysM.n5 P ρs) (e : TypeId) (xs : List Int) (hsz : xs.length < 4611686018427387904) : PU P (ρs.f 5) e (.ints xs) (.ints (xs.mergeSort fun x y => decide (x ≤ y))) [] false := by
 have hb : Body P (ρs.f 5) := L.f5.enters rfl
 have hml : (xs.mergeSort fun x y => decide (x ≤ y)).length = xs.length := List.length_mergeSort _
 by_cases hpos : 0 < xs.length
 ·refine pu_turn hb rfl rfl (Nat.le_of_eq hml) hpos fun w O g cap cur vs hg hcap hsz1 hle hO hgO hrow hrest => ?_
  have hvs : vs = [] := List.eq_nil_of_length_eq_zero hrest.1
  subst hvs
  obtain ⟨hcur, hH⟩ := ints_holds hg hrow
  refine (AnyM.slices_Sort_int L g 0 cap xs w hH (Array.getElem?_eq_some_iff.1 hg).1 hsz).mono fun en w' he => ?_
  obtain ⟨rfl, q, os, rfl⟩ := he
  obtain ⟨t1, t2, t3, t4, t5, t6, t7⟩ := turn_world (Value.int .i64) hg (xs.mergeSort fun x y => decide (x ≤ y)).toArray q os
  refine ⟨rfl, t1, t2, t3, t4, t5, t6, _, t7, by simp [putCells], fun i hi => ?_⟩
  have hi : i < (xs.mergeSort fun x y => decide (x ≤ y)).length := hi
  have hm : (xs.mergeSort fun x y => decide (x ≤ y))[i] ∈ xs := (List.mergeSort_perm xs _).mem_iff.1 (List.getElem_mem hi)
  obtain ⟨j, hj, hx⟩ := mem_get_lt hm
  refine ⟨j, hj, ?_, ?_⟩
  ·show D.int .i64 _ = D.int .i64 _
   rw [hx]
   rw [List.getD_eq_getElem?_getD, List.getElem?_eq_getElem hi]
   rfl
  ·have hle2 : xs.length ≤ cap := hle
   rw [putCells_get _ _ _ (by simpa using hi) (by omega), hcur j hj, hx]
   simp only [List.getElem!_toArray, List.getElem!_eq_getElem?_getD]
   rw [List.getElem?_eq_getElem hi]
   rfl
 ·have h0 : xs = [] := List.eq_nil_of_length_eq_zero (by omega)
  subst h0
  rw [show ([] : List Int).mergeSort (fun x y => decide (x ≤ y)) = [] by simp]
  refine pu_same hb fun w O ad cap vs hrest => ?_
  have hvs : vs = [] := List.eq_nil_of_length_eq_zero hrest.1
  subst hvs
  exact AnyM.slices_Sort_int_none L ad cap w
end Go.Proofs.YtomnmacmlhkceaaGreat
