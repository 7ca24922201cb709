/- The pure layer: the library's sorting and cutting of rows in place, as contracts of this layer. No function of the program is named here. -/
import Derived.Test.YtomnmacmlhkceaaQm2
import Derived.Shelf.SlSortCmp.NoneTotal
import Derived.Shelf.Slices.CompactI
import Derived.Shelf.Spec.SlicesGrow
set_option linter.unusedVariables false
set_option linter.unusedSimpArgs false
namespace Go.Proofs.Ytomnmacmlhkceaa
open Go Go.RowKit Go.Lib Go.Sort
variable {P : Program} {ρs : Go.Shelf.Ren}
theorem heap_turn {α : Type} [Inhabited α] (enc : α → Value) (w : World) (g : Nat) (d : Array α) (q : Nat) (os : Array Obj) {b : Nat} (hb : b < w.heap.size) :
  (grow (putRow enc (Sort.ahead w q) g 0 d) os).heap[b]? = if g = b then (w.heap[b]?).map (onCells (putCells enc 0 d)) else w.heap[b]? := by
 show ((w.heap.modify g (onCells (putCells enc 0 d))) ++ os)[b]? = _
 rw [Array.getElem?_append_left (by simpa using hb), Array.getElem?_modify]
theorem putCells_get {α : Type} [Inhabited α] (enc : α → Value) (d : Array α) (cur : Array Value) {i : Nat} (hi : i < d.size) (hc : i < cur.size) : (putCells enc 0 d cur)[i]? = some (enc d[i]!) := by
 simp [putCells, hc, hi]
theorem turn_world {α : Type} [Inhabited α] (enc : α → Value) {w : World} {g : Nat} {cur : Array Value} {e : TypeId} (hg : w.heap[g]? = some (.cells cur e (0, 0))) (d : Array α) (q : Nat) (os : Array Obj) :
  (grow (putRow enc (Sort.ahead w q) g 0 d) os).os = w.os ∧ (grow (putRow enc (Sort.ahead w q) g 0 d) os).tape = w.tape ∧ (grow (putRow enc (Sort.ahead w q) g 0 d) os).output = w.output ∧ w.heap.size ≤ (grow (putRow enc (Sort.ahead w q) g 0 d) os).heap.size ∧
   w.drawn ≤ (grow (putRow enc (Sort.ahead w q) g 0 d) os).drawn ∧ (∀ b, b < w.heap.size → b ≠ g → (grow (putRow enc (Sort.ahead w q) g 0 d) os).heap[b]? = w.heap[b]?) ∧
   (grow (putRow enc (Sort.ahead w q) g 0 d) os).heap[g]? = some (.cells (putCells enc 0 d cur) e (0, 0)) := by
 refine ⟨rfl, rfl, rfl, ?_, ?_, fun b hb hne => ?_, ?_⟩
 ·rw [size_grow, size_putRow]
  exact Nat.le_add_right _ _
 ·show w.drawn ≤ w.drawn + q
  omega
 ·rw [heap_turn enc w g d q os hb, if_neg (Ne.symm hne)]
 ·rw [heap_turn enc w g d q os (Array.getElem?_eq_some_iff.1 hg).1, if_pos rfl, hg]
  rfl
theorem grow_of_bel {w w' : World} (h : Bel w.heap.size w w') : ∃ q os, w' = grow (w.drewN q) os := by
 refine ⟨w'.drawn - w.drawn, w'.heap.extract w.heap.size w'.heap.size, ?_⟩
 have hd := h.drawn
 obtain ⟨heap', tape', drawn', os', output'⟩ := w'
 have e1 : os' = w.os := h.os
 have e2 : tape' = w.tape := h.tape
 have e3 : output' = w.output := h.output
 have hs : w.heap.size ≤ heap'.size := h.size
 have hb : ∀ k, k < w.heap.size → heap'[k]? = w.heap[k]? := h.block
 subst e1 e2 e3
 have eh : heap' = w.heap ++ heap'.extract w.heap.size heap'.size := by
  apply Array.ext_getElem?
  intro k
  by_cases hk : k < w.heap.size
  ·rw [Array.getElem?_append_left hk]; exact hb k hk
  ·rw [Array.getElem?_append_right (by omega), Array.getElem?_extract]
   by_cases hk2 : k < heap'.size
   ·rw [if_pos (by omega)]; congr 1; omega
   ·rw [if_neg (by omega), Array.getElem?_eq_none (by omega)]
 have ed : w.drawn + (drawn' - w.drawn) = drawn' := by
  have : w.drawn ≤ drawn' := hd
  omega
 simp only [grow, World.drewN, ed]
 congr 1
theorem res_int {base : Nat} {w' : World} {v : Value} {k : IntKind} {n : Int} (h : ResOk base w' v (.one (.d (.int k n)))) : v = .int k n := by
 obtain ⟨ρ, us, hv, hl, _, hr⟩ := h
 have hl1 : us.length = 1 := hl
 have h0 : us[0]? = some us[0] := List.getElem?_eq_getElem (by omega)
 have h1 := hr 0 us[0] (.d (.int k n)) h0 rfl
 have h2 : us[0] = .int k n := by
  have : R (ucell w') _ us[0] (.int k n) := h1
  revert this
  generalize us[0] = u
  intro this
  cases this
  rfl
 rw [hv, ← h2]
 simp [Res.value, List.getD, h0]
theorem pu_turn {f : FuncId} {e : TypeId} {m m' : Mem} {rest : List D} {ret : Bool} (hb : Body P f) (h1 : m.width = 1) (h1' : m'.width = 1) (hl : m'.len ≤ m.len) (hpos : 0 < m.len)
  (h : ∀ (w : World) (O : Nat → Prop) (g cap : Nat) (cur : Array Value) (vs : List Value), w.heap[g]? = some (.cells cur e (0, 0)) → cap ≤ maxLen → cur.size = cap → m.len ≤ cap → (∀ b, O b → b < w.heap.size) → O g →
   (∀ i, i < m.len → ∃ u, cur[i]? = some u ∧ R w.cell? O u (m.get i 0)) → All2 (R w.cell? O) vs rest →
   Calls P f (.slice (some ⟨g, 0, none⟩) m.len cap :: vs).toArray w fun en w' => en = .returned (backV ret (some ⟨g, 0, none⟩) m'.len cap) ∧
    w'.os = w.os ∧ w'.tape = w.tape ∧ w'.output = w.output ∧ w.heap.size ≤ w'.heap.size ∧ w.drawn ≤ w'.drawn ∧ (∀ b, b < w.heap.size → b ≠ g → w'.heap[b]? = w.heap[b]?) ∧
    ∃ cur' : Array Value, w'.heap[g]? = some (.cells cur' e (0, 0)) ∧ cur'.size = cur.size ∧ ∀ i, i < m'.len → ∃ j, j < m.len ∧ m'.get i 0 = m.get j 0 ∧ cur'[i]? = cur[j]?) : PU P f e m m' rest ret := by
 refine ⟨hb, by omega, hl, fun w O ad g cap cur vs had hg hcap hsz hle hO hgO hrow hrest => ?_⟩
 rw [h1] at hsz hrow ⊢
 have hcp : 0 < cap := by omega
 rcases had with rfl | ⟨_, h0, _⟩
 ·refine (h w O g cap cur vs (hg hcp) hcap (by omega) hle hO (hgO hcp) (fun i hi => ?_) hrest).mono fun en w' he => ?_
  ·obtain ⟨u, hu, hr⟩ := hrow i 0 hi (by omega)
   exact ⟨u, by simpa using hu, hr⟩
  ·obtain ⟨rfl, q1, q2, q3, q4, q5, q6, cur', q7, q8, q9⟩ := he
   refine ⟨rfl, q1, q2, q3, q4, q5, fun b hb1 hb2 => q6 b hb1 fun eb => hb2 ⟨eb, hcp⟩, cur', fun _ => q7, by omega, fun i hi => ?_⟩
   obtain ⟨j, hj, g1, g2⟩ := q9 i hi
   refine ⟨j, hj, fun c hc => ?_⟩
   have : c = 0 := by omega
   subst this
   exact ⟨g1, by simpa using g2⟩
 ·omega
theorem bel_turn {α : Type} [Inhabited α] (enc : α → Value) {w : World} {O : Nat → Prop} {g : Nat} {v : Value} {x : D} (hO : O g) (h : R w.cell? O v x) (d : Array α) (q : Nat) (os : Array Obj) : R (grow (putRow enc (Sort.ahead w q) g 0 d) os).cell? O v x := by
 refine h.step fun b hb hn => ⟨?_, hn⟩
 rw [heap_turn enc w g d q os hb, if_neg fun (eb : g = b) => hn (eb ▸ hO)]
theorem sortedBy_unique {β : Type} {c : β → β → Int} (hS : SWO (ltOf c)) (hT : ∀ x y, ltOf c x y = false → ltOf c y x = false → x = y) {l l' : List β} (hp : l'.Perm l) (hs : l'.Pairwise fun x y => ltOf c y x = false) : l' = l.mergeSort fun x y => !(ltOf c) y x := by
 refine List.Perm.eq_of_pairwise (le := fun x y => (!(ltOf c) y x) = true) ?_ ?_ ?_ (hp.trans (List.mergeSort_perm _ _).symm)
 ·intro a b _ _ h1 h2
  simp only [Bool.not_eq_true'] at h1 h2
  exact hT a b h2 h1
 ·exact hs.imp fun h => by simpa using h
 ·refine List.pairwise_mergeSort ?_ ?_ _
  ·intro a b c h1 h2
   simp only [Bool.not_eq_true'] at h1 h2 ⊢
   exact hS.ntrans c b a h2 h1
  ·intro a b
   cases h : ltOf c b a with
   | false => simp
   | true =>
    have h3 : ltOf c a b = false := by
     cases h4 : ltOf c a b with
     | false => rfl
     | true => have := hS.trans a b a h4 h; rw [hS.irrefl a] at this; cases this
    simp [h3]
theorem pu_sortFunc (L : SlLaysF.n6 P ρs) (e : TypeId) {β : Type} (ys : List β) (mk : β → D) (c : β → β → Int) (hS : SWO (ltOf c)) (hT : ∀ x y, ltOf c x y = false → ltOf c y x = false → x = y) (gf : FuncId)
  (hc : ∀ x ∈ ys, ∀ y ∈ ys, PC P gf [mk x, mk y] (.one (.d (.int .i64 (c x y))))) (m m' : Mem) (h1 : m.width = 1) (h1' : m'.width = 1) (hl : m.len = ys.length) (hl' : m'.len = ys.length) (hcell : ∀ x, (mk x).cell = true)
  (hg1 : ∀ i x, ys[i]? = some x → m.get i 0 = mk x) (hg2 : ∀ i x, (ys.mergeSort fun x y => !(ltOf c) y x)[i]? = some x → m'.get i 0 = mk x) (hsz : ys.length < 4611686018427387904) (hbg : Body P gf) : PU P (ρs.f 6) e m m' [.fn gf 0 []] false := by
 have hb : Body P (ρs.f 6) := L.f6.enters rfl
 have hfn : ∀ {g : Addr → Option Value} {O : Nat → Prop} {vs : List Value}, All2 (R g O) vs [.fn gf 0 []] → vs = [.func (.func gf) #[] #[]] := by
  intro g O vs hrest
  obtain ⟨v, hv⟩ : ∃ v, vs = [v] := by
   match vs, hrest.1 with
   | [v], _ => exact ⟨v, rfl⟩
  subst hv
  have hr := hrest.2 0 v (.fn gf 0 []) rfl rfl
  cases hr with
  | fn _ _ us _ hl _ =>
   have : us = [] := List.eq_nil_of_length_eq_zero hl
   subst this
   rfl
 by_cases hpos : 0 < m.len
 ·refine pu_turn hb h1 h1' (by omega) hpos fun w O g cap cur vs hg hcap hsz1 hle hO hgO hrow hrest => ?_
  have hvs := hfn hrest
  subst hvs
  haveI : Inhabited (Fin m.len) := ⟨⟨0, hpos⟩⟩
  let enc : Fin m.len → Value := fun i => cur.getD i.1 undef
  let el : Fin m.len → β := fun i => ys[i.1]'(by have := i.2; omega)
  let d : Array (Fin m.len) := Array.ofFn fun i : Fin m.len => i
  have hdz : d.size = m.len := by simp [d]
  have hd : ∀ j (hj : j < m.len), d[j]! = ⟨j, hj⟩ := fun j hj => by
   rw [getElem!_pos d j (by omega)]
   simp [d]
  have henc : ∀ i : Fin m.len, cur[i.1]? = some (enc i) ∧ R w.cell? O (enc i) (mk (el i)) := by
   intro i
   obtain ⟨u, hu, hr⟩ := hrow i.1 i.2
   have e1 : enc i = u := by simp [enc, hu]
   rw [e1]
   refine ⟨hu, ?_⟩
   rw [← hg1 i.1 (el i) (List.getElem?_eq_getElem _)]
   exact hr
  have hone : OneCell enc := fun i => (henc i).2.oneCell (hcell _)
  have hH : Holds enc w g 0 d := by
   intro j hj
   have hj : j < m.len := by omega
   rw [Nat.zero_add, hd j hj]
   exact ⟨by rw [cell_of_row w _ _ _ _ _ hg, (henc ⟨j, hj⟩).1], frozen_of_row _ _ _ _ _ hg⟩
  have hlt : ∀ x y : Fin m.len, ltOf (fun i j => c (el i) (el j)) x y = ltOf c (el x) (el y) := fun _ _ => rfl
  have hO2 : SWO (ltOf fun i j : Fin m.len => c (el i) (el j)) := ⟨fun x => hS.irrefl (el x), fun x y z => hS.trans (el x) (el y) (el z), fun x y z => hS.ntrans (el x) (el y) (el z)⟩
  have hmem : ∀ i : Fin m.len, el i ∈ ys := fun i => List.getElem_mem _
  have hcmp : CmpLays1 P gf #[] enc (fun i j => c (el i) (el j)) g 0 d.size w := by
   intro q os dk hdk x y
   have hx := bel_turn enc hgO (henc x).2 dk q os
   have hy := bel_turn enc hgO (henc y).2 dk q os
   have hsw : sortWorld enc w g 0 q dk os = grow (putRow enc (Sort.ahead w q) g 0 dk) os := rfl
   have := (hc _ (hmem x) _ (hmem y)).2 (sortWorld enc w g 0 q dk os) O [enc x, enc y] (fun b hb => by rw [hsw, size_grow, size_putRow]; exact Nat.lt_of_lt_of_le (hO b hb) (Nat.le_add_right _ _)) (by
    refine ⟨rfl, fun j v p hv hp => ?_⟩
    match j with
    | 0 => simp at hv hp; subst hv hp; exact hx
    | 1 => simp at hv hp; subst hv hp; exact hy
    | j + 2 => simp at hv)
   refine Calls.mono (by simpa using this) fun en w' he => ?_
   obtain ⟨v, rfl, hbel, hres⟩ := he
   obtain ⟨q', os', hw⟩ := grow_of_bel hbel
   exact ⟨by rw [res_int hres], q', os', hw⟩
  have hcall := Any.slices_SortFunc L enc hone (fun i j => c (el i) (el j)) hO2 gf #[] g 0 cap d w (fun args w => hbg.run args w) hcmp hH (Array.getElem?_eq_some_iff.1 hg).1 (by omega)
  rw [hdz] at hcall
  refine hcall.mono fun en w' he => ?_
  obtain ⟨rfl, d', q, os, hperm, hsort, hw⟩ := he
  have hw : w' = grow (putRow enc (Sort.ahead w q) g 0 d') os := hw
  subst hw
  obtain ⟨t1, t2, t3, t4, t5, t6, t7⟩ := turn_world enc hg d' q os
  obtain ⟨p1, _, p3⟩ := hperm
  have hdz' : d'.size = m.len := by omega
  have e1 : d'.extract 0 m.len = d' := by
    have h9 : d'.extract 0 d'.size = d' := Array.extract_size
    rwa [hdz'] at h9
  have e2 : d.extract 0 m.len = d := by
    have h9 : d.extract 0 d.size = d := Array.extract_size
    rwa [hdz] at h9
  rw [e1, e2] at p3
  have hmap : d.toList.map el = ys := by
   apply List.ext_getElem
   ·simp [d]; omega
   ·intro i h2 h3
    simp [d, el]
  have hsorted : d'.toList.map el = ys.mergeSort fun x y => !(ltOf c) y x := by
   refine sortedBy_unique hS hT (by rw [← hmap]; exact p3.map el) ?_
   rw [List.pairwise_map, List.pairwise_iff_getElem]
   intro i j hi hj hij
   have hi' : i < d'.size := by simpa using hi
   have hj' : j < d'.size := by simpa using hj
   have := hsort i j (Nat.zero_le _) hij (by omega)
   rw [getElem!_pos d' j hj', getElem!_pos d' i hi', hlt] at this
   simpa using this
  refine ⟨rfl, t1, t2, t3, t4, t5, t6, _, t7, by simp [putCells], fun i hi => ?_⟩
  have hi' : i < d'.size := by omega
  have hx : (ys.mergeSort fun x y => !(ltOf c) y x)[i]? = some (el d'[i]) := by
   rw [← hsorted]
   simp [hi']
  refine ⟨(d'[i]).1, (d'[i]).2, ?_, ?_⟩
  ·rw [hg2 i _ hx, hg1 _ (el d'[i]) (List.getElem?_eq_getElem _)]
  ·have hle2 : m.len ≤ cap := hle
   rw [putCells_get enc d' cur hi' (by omega), getElem!_pos d' i hi', (henc d'[i]).1]
 ·have h0 : ys = [] := List.eq_nil_of_length_eq_zero (by omega)
  refine ⟨hb, by omega, by omega, fun w O ad g cap cur vs had hg hcap hsz1 hle hO hgO hrow hrest => ?_⟩
  have hvs := hfn hrest
  subst hvs
  have hm0 : m.len = 0 := by omega
  rw [hm0]
  refine Calls.mono (AnyF.slices_SortFunc_none { L with } ad cap (.func (.func gf) #[] #[]) w) fun en w' he => ?_
  obtain ⟨rfl, rfl⟩ := he
  exact ⟨rfl, rfl, rfl, rfl, Nat.le_refl _, Nat.le_refl _, fun _ _ _ => rfl, cur, hg, hsz1, fun i hi => by omega⟩
end Go.Proofs.Ytomnmacmlhkceaa
