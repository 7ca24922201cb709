/- The pure layer, part U: how arguments that are read as data read as plain data. No function of the program is named here. -/
import Derived.Test.YtomnmacmlhkceaaQt
import Derived.ChangeSlices
import Derived.DataReads
import Derived.OpenShut
import Derived.Deep.Strs
set_option linter.unusedVariables false
set_option linter.unusedSimpArgs false
namespace Go.Proofs.Ytomnmacmlhkceaa
open Go Go.ChangeShapes Go.WideShapes Go.RowKit
section
variable {H : Type} {enc : TypeId × Value → H} {P : Program} {w : World} {base : Nat} {spare : Nat → Bool} {held : Bool} {fuel : Nat} {t e f : TypeId} {cs : List Value} {x : DataW H × List MemPlace}
abbrev R0 (w : World) : Value → D → Prop := R w.cell? (fun _ => False)
theorem rd_int (ht : P.underlying t = some (.int .i64)) (h : DataW.trod enc P w base spare held fuel t cs = some x) :
  ∃ n : Int, cs = [.int .i64 n] ∧ R0 w (.int .i64 n) (.int .i64 n) ∧ -9223372036854775808 ≤ n ∧ n ≤ 9223372036854775807 := by
 obtain ⟨n, h1, _, h2⟩ := DataW.trod_int ht h
 have := bounds_i64 h2
 exact ⟨n, h1, .int _ _, by omega, by omega⟩
theorem slice_elems (ht : P.underlying t = some (.slice e)) (h : DataW.trod enc P w base spare held fuel t cs = some x) :
  (cs = [.slice none 0 0]) ∨ ∃ (a : Addr) (len cap n : Nat), cs = [.slice (some a) len cap] ∧ len ≤ cap ∧ cap ≤ maxLen ∧
   ∀ i, i < len → ∃ cs' y, cs'.length = P.cellsOf e ∧ (∀ c, c < P.cellsOf e → w.cell? (a.add (i * P.cellsOf e + c)) = cs'[c]?) ∧ DataW.trod enc P w base spare held n e cs' = some y := by
 rcases DataW.trod_slice ht h with ⟨h0, _⟩ | ⟨a, len, cap, elems, rest, n, _, rfl, _, _, hl, hm, hlen, hel, _⟩
 ·exact .inl h0
 ·refine .inr ⟨a, len, cap, n, rfl, hl, hm, fun i hi => ?_⟩
  have h1 := hel i hi
  have h2 : elems[i]? = some (elems[i]'(by omega)) := List.getElem?_eq_getElem (by omega)
  rw [h2, Option.bind_eq_some_iff] at h1
  obtain ⟨cs', h3, h4⟩ := h1
  obtain ⟨_, h5, h6⟩ := World.cells?_some h3
  exact ⟨cs', _, h5, fun c hc => by rw [← add_add]; exact h6 c hc, h4⟩
theorem pick_all {α : Type} [Inhabited α] {p : Nat → α → Prop} {n : Nat} (h : ∀ i, i < n → ∃ y, p i y) : ∃ f : Nat → α, ∀ i, i < n → p i (f i) := by
 have h2 : ∀ i, ∃ y, i < n → p i y := fun i => by
  by_cases hi : i < n
  ·obtain ⟨y, hy⟩ := h i hi; exact ⟨y, fun _ => hy⟩
  ·exact ⟨default, fun h => absurd h hi⟩
 exact Classical.skolem.1 h2
theorem rd_ints (ht : P.underlying t = some (.slice e)) (he : P.underlying e = some (.int .i64)) (hc : P.cellsOf e = 1) (h : DataW.trod enc P w base spare held fuel t cs = some x) :
  ∃ (v : Value) (xs : List Int), cs = [v] ∧ R0 w v (.sl (.ints xs)) ∧ (∀ x ∈ xs, -9223372036854775808 ≤ x ∧ x ≤ 9223372036854775807) := by
 rcases slice_elems ht h with rfl | ⟨a, len, cap, n, rfl, hl, hm, hel⟩
 ·exact ⟨_, [], rfl, .slnil _ rfl, fun x hx => by cases hx⟩
 ·have h1 : ∀ i, i < len → ∃ z : Int, w.cell? (a.add i) = some (.int .i64 z) ∧ -9223372036854775808 ≤ z ∧ z ≤ 9223372036854775807 := by
   intro i hi
   obtain ⟨cs', y, h2, h3, h4⟩ := hel i hi
   obtain ⟨z, h5, _, h6, h7⟩ := rd_int he h4
   rw [hc] at h3
   have := h3 0 (by omega)
   rw [h5, Nat.mul_one, Nat.add_zero] at this
   exact ⟨z, this, h6, h7⟩
  obtain ⟨g, hg⟩ := pick_all h1
  refine ⟨_, (List.range len).map g, rfl, .sl _ a len cap (by simp [Mem.len]) ⟨hl, by omega⟩ (fun i _ => .int .i64 (g i)) (fun i c hi hc => ?_) (fun i c hi hc => ?_), fun x hx => ?_⟩
  ·have hi' : i < len := by simpa [Mem.len] using hi
   have hc' : c = 0 := by simpa [Mem.width] using hc
   refine ⟨?_, fun h => h⟩
   rw [hc']
   simpa [Mem.width] using (hg i hi').1
  ·have hi' : i < len := by simpa [Mem.len] using hi
   have : (Mem.ints ((List.range len).map g)).get i c = .int .i64 (g i) := by simp [Mem.get, hi']
   rw [this]
   exact .int _ _
  ·obtain ⟨i, hi, rfl⟩ := List.mem_map.1 hx
   exact (hg i (List.mem_range.1 hi)).2
theorem rd_rows (ht : P.underlying t = some (.slice e)) (hc : P.cellsOf e = 1) (he : P.underlying e = some (.slice f)) (hf : P.underlying f = some (.int .i64)) (hcf : P.cellsOf f = 1)
  (h : DataW.trod enc P w base spare held fuel t cs = some x) : ∃ (v : Value) (xss : List (List Int)), cs = [v] ∧ R0 w v (.sl (.rows xss)) := by
 rcases slice_elems ht h with rfl | ⟨a, len, cap, n, rfl, hl, hm, hel⟩
 ·exact ⟨_, [], rfl, .slnil _ rfl⟩
 ·have h1 : ∀ i, i < len → ∃ z : Value × List Int, w.cell? (a.add i) = some z.1 ∧ R0 w z.1 (.sl (.ints z.2)) := by
   intro i hi
   obtain ⟨cs', y, h2, h3, h4⟩ := hel i hi
   obtain ⟨v, xs, h5, h6, _⟩ := rd_ints he hf hcf h4
   rw [hc] at h3
   have := h3 0 (by omega)
   rw [h5, Nat.mul_one, Nat.add_zero] at this
   exact ⟨(v, xs), this, h6⟩
  haveI : Inhabited (Value × List Int) := ⟨(.bool true, [])⟩
  obtain ⟨g, hg⟩ := pick_all h1
  refine ⟨_, (List.range len).map fun i => (g i).2, rfl, .sl _ a len cap (by simp [Mem.len]) ⟨hl, by omega⟩ (fun i _ => (g i).1) (fun i c hi hc => ?_) (fun i c hi hc => ?_)⟩
  ·have hi' : i < len := by simpa [Mem.len] using hi
   have hc' : c = 0 := by simpa [Mem.width] using hc
   refine ⟨?_, fun h => h⟩
   rw [hc']
   simpa [Mem.width] using (hg i hi').1
  ·have hi' : i < len := by simpa [Mem.len] using hi
   have : (Mem.rows ((List.range len).map fun i => (g i).2)).get i c = .sl (.ints (g i).2) := by simp [Mem.get, hi']
   rw [this]
   exact (hg i hi').2
theorem cells_struct {r : Reach} {b0 : Nat} {v : Value} {fs : Array Field} (ht : P.underlying t = some (.struct fs)) (hv : Value.okWide P w r b0 t v) : ∃ cs : List Value, v = .agg cs.toArray ∧ v.cells.toList = cs := by
 simp only [Value.okWide, ht] at hv
 obtain ⟨cs, h1, _⟩ := hv
 exact ⟨cs.toList, by simp [h1], by simp [h1, Value.cells]⟩
variable {v : Value} {d : DataW H} {ps : List MemPlace} {r : Reach} {b0 : Nat}
theorem arg_int (ht : P.underlying t = some (.int .i64)) (hv : Value.okWide P w r b0 t v) (h : DataW.Trod enc P w base spare held t v d ps) :
  ∃ n : Int, R0 w v (.int .i64 n) ∧ -9223372036854775808 ≤ n ∧ n ≤ 9223372036854775807 := by
 obtain ⟨n, rfl, _, _, hw⟩ := open_int ht hv h
 have := bounds_i64 hw
 exact ⟨n, .int _ _, by omega, by omega⟩
theorem arg_field {ti tr tl : TypeId} {n0 n1 : Field} (ht : P.underlying t = some (.struct #[n0, n1])) (hs : P.cellsOf t = 2) (h0 : n0.offset = 0) (h1 : n1.offset = 1) (t0 : n0.type = tl) (t1 : n1.type = tr)
  (hi : P.underlying ti = some (.int .i64)) (ci : P.cellsOf ti = 1) (hl : P.underlying tl = some (.slice ti)) (cl : P.cellsOf tl = 1) (hr : P.underlying tr = some (.slice tl)) (cr : P.cellsOf tr = 1)
  (hv : Value.okWide P w r b0 t v) (h : DataW.Trod enc P w base spare held t v d ps) :
  ∃ (xs : List Int) (xss : List (List Int)), R0 w v (.agg [.sl (.ints xs), .sl (.rows xss)]) ∧ (∀ x ∈ xs, -9223372036854775808 ≤ x ∧ x ≤ 9223372036854775807) := by
 subst t0 t1
 obtain ⟨fuel, h⟩ := h
 obtain ⟨cs, rfl, hcs⟩ := cells_struct ht hv
 rw [hcs] at h
 obtain ⟨y0, y1, m, _, hlen, g0, g1⟩ := trod_struct2 ht h
 rw [h0, cl] at g0
 rw [h1, cr] at g1
 obtain ⟨v0, xs, e0, r0, b3⟩ := rd_ints hl hi ci g0
 obtain ⟨v1, xss, e1, r1⟩ := rd_rows hr cl hl hi ci g1
 rw [hs] at hlen
 have e : cs = [v0, v1] := by
  match cs, hlen with
  | [c0, c1], _ =>
   simp at e0 e1
   rw [e0, e1]
 subst e
 refine ⟨xs, xss, .agg _ _ rfl fun j u d hu hd => ?_, b3⟩
 match j with
 | 0 => simp at hu hd; subst hu hd; exact r0
 | 1 => simp at hu hd; subst hu hd; exact r1
 | j + 2 => simp at hu
end
end Go.Proofs.Ytomnmacmlhkceaa
