/- The pure layer, part U: how arguments that are read as data read as plain data. No function of the program is named here. -/
import Derived.Test.YtomnmacmlhkceaaQt
import Derived.ChangeSlices
import Derived.DataReads
import Derived.OpenShut
import Derived.Deep.Strs
set_option linter.unusedVariables false
set_option linter.unusedSimpArgs false
namespace Go.Proofs.Ytomnmacmlhkceaa
open Go Go.ChangeShapes Go.WideShapes Go.RowKit
section
variable {H : Type} {enc : TypeId × Value → H} {P : Program} {w : World} {base : Nat} {spare : Nat → Bool} {held : Bool} {fuel : Nat} {t e f : TypeId} {cs : List Value} {x : DataW H × List MemPlace}
abbrev R0 (w : World) : Value → D → Prop := R w.cell? (fun _ => False)
theorem rd_int (ht : P.underlying t = some (.int .i64)) (h : DataW.trod enc P w base spare held fuel t cs = some x) :
  ∃ n : Int, cs = [.int .i64 n] ∧ R0 w (.int .i64 n) (.int .i64 n) ∧ -9223372036854775808 ≤ n ∧ n ≤ 9223372036854775807 := by
 obtain ⟨n, h1, _, h2⟩ := DataW.trod_int ht h
 have := bounds_i64 h2
 exact ⟨n, h1, .int _ _, by omega, by omega⟩
theorem slice_elems (ht : P.underlying t = some (.slice e)) (h : DataW.trod enc P w base spare held fuel t cs = some x) :
  (cs = [.slice none 0 0]) ∨ ∃ (a : Addr) (len cap n : Nat), cs = [.slice (some a) len cap] ∧ len ≤ cap ∧ cap ≤ maxLen ∧
   ∀ i, i < len → ∃ cs' y, cs'.length = P.cellsOf e ∧ (∀ c, c < P.cellsOf e → w.cell? (a.add (i * P.cellsOf e + c)) = cs'[c]?) ∧ DataW.trod enc P w base spare held n e cs' = some y := by
 rcases DataW.trod_slice ht h with ⟨h0, _⟩ | ⟨a, len, cap, elems, rest, n, _, rfl, _, _, hl, hm, hlen, hel, _⟩
 ·exact .inl h0
 ·refine .inr ⟨a, len, cap, n, rfl, hl, hm, fun i hi => ?_⟩
  have h1 := hel i hi
  have h2 : elems[i]? = some (elems[i]'(by omega)) := List.getElem?_eq_getElem (by omega)
  rw [h2, Option.bind_eq_some_iff] at h1
  obtain ⟨cs', h3, h4⟩ := h1
  obtain ⟨_, h5, h6⟩ := World.cells?_some h3
  exact ⟨cs', _, h5, fun c hc => by rw [← add_add]; exact h6 c hc, h4⟩
theorem pick_all {α : Type} [Inhabited α] {p : Nat → α → Prop} {n : Nat} (h : ∀ i, i < n → ∃ y, p i y) : ∃ f : Nat → α, ∀ i, i < n → p i (f i) := by
 have h2 : ∀ i, ∃ y, i < n → p i y := fun i => by
  by_cases hi : i < n
  ·obtain ⟨y, hy⟩ := h i hi; exact ⟨y, fun _ => hy⟩
  ·exact ⟨default, fun h => absurd h hi⟩
 exact Classical.skolem.1 h2
theorem rd_ints (ht : P.underlying t = some (.slice e)) (he : P.underlying e = some (.int .i64)) (hc : P.cellsOf e = 1) (h : DataW.trod enc P w base spare held fuel t cs = some x) :
  ∃ (v : Value) (xs : List Int), cs = [v] ∧ R0 w v (.sl (.ints xs)) ∧ (∀ x ∈ xs, -9223372036854775808 ≤ x ∧ x ≤ 9223372036854775807) := by
 rcases slice_elems ht h with rfl | ⟨a, len, cap, n, rfl, hl, hm, hel⟩
 ·exact ⟨_, [], rfl, .slnil _ rfl, fun x hx => by cases hx⟩
 ·have h1 : ∀ i, i < len → ∃ z : Int, w.cell? (a.add i) = some (.int .i64 z) ∧ -9223372036854775808 ≤ z ∧ z ≤ 9223372036854775807 := by
   intro i hi
   obtain ⟨cs', y, h2, h3, h4⟩ := hel i hi
   obtain ⟨z, h5, _, h6, h7⟩ := rd_int he h4
   rw [hc] at h3
   have := h3 0 (by omega)
   rw [h5, Nat.mul_one, Nat.add_zero] at this
   exact ⟨z, this, h6, h7⟩
  obtain ⟨g, hg⟩ := pick_all h1
  refine ⟨_, (List.range len).map g, rfl, .sl _ a len cap (by simp [Mem.len]) ⟨hl, by omega⟩ (fun i _ => .int .i64 (g i)) (fun i c hi hc => ?_) (fun i c hi hc => ?_), fun x hx => ?_⟩
  ·have hi' : i < len := by simpa [Mem.len] using hi
   have hc' : c = 0 := by simpa [Mem.width] using hc
   refine ⟨?_, fun h => h⟩
   rw [hc']
   simpa [Mem.width] using (hg i hi').1
  ·have hi' : i < len := by simpa [Mem.len] using hi
   have : (Mem.ints ((List.range len).map g)).get i c = .int .i64 (g i) := by simp [Mem.get, hi']
   rw [this]
   exact .int _ _
  ·obtain ⟨i, hi, rfl⟩ := List.mem_map.1 hx
   exact (hg i (List.mem_range.1 hi)).2
theorem cells_slice {r : Reach} {b0 : Nat} {v : Value} (ht : P.underlying t = some (.slice e)) (hv : Value.okWide P w r b0 t v) : v.cells.toList = [v] := by
 simp only [Value.okWide, ht, Cell.okWide] at hv
 cases v <;> simp_all [Cell.ok, Value.cells]
variable {v : Value} {d : DataW H} {ps : List MemPlace} {r : Reach} {b0 : Nat}
theorem arg_int (ht : P.underlying t = some (.int .i64)) (hv : Value.okWide P w r b0 t v) (h : DataW.Trod enc P w base spare held t v d ps) :
  ∃ n : Int, R0 w v (.int .i64 n) ∧ -9223372036854775808 ≤ n ∧ n ≤ 9223372036854775807 := by
 obtain ⟨n, rfl, _, _, hw⟩ := open_int ht hv h
 have := bounds_i64 hw
 exact ⟨n, .int _ _, by omega, by omega⟩
theorem arg_ints (ht : P.underlying t = some (.slice e)) (he : P.underlying e = some (.int .i64)) (hc : P.cellsOf e = 1) (hv : Value.okWide P w r b0 t v) (h : DataW.Trod enc P w base spare held t v d ps) :
  ∃ xs : List Int, R0 w v (.sl (.ints xs)) ∧ (∀ x ∈ xs, -9223372036854775808 ≤ x ∧ x ≤ 9223372036854775807) := by
 obtain ⟨fuel, h⟩ := h
 obtain ⟨u, xs, h1, h2, h3⟩ := rd_ints ht he hc h
 rw [cells_slice ht hv] at h1
 cases h1
 exact ⟨xs, h2, h3⟩
end
end Go.Proofs.Ytomnmacmlhkceaa
