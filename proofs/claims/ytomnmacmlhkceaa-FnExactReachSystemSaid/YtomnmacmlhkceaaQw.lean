/- Plain aids: ascending lists, sets as bits. No function of the program is named here. -/
import Derived.Test.YtomnmacmlhkceaaQt
set_option linter.unusedVariables false
set_option linter.unusedSimpArgs false
namespace Go.Proofs.Ytomnmacmlhkceaa
open Go
abbrev Asc (l : List Int) : Prop := l.Pairwise (· < ·)
def members (p : Nat → Bool) (n : Nat) : List Int := ((List.range n).filter p).map fun (k : Nat) => (k : Int)
theorem mem_members {p : Nat → Bool} {n : Nat} {x : Int} : x ∈ members p n ↔ 0 ≤ x ∧ x < n ∧ p x.toNat = true := by
 simp only [members, List.mem_map, List.mem_filter, List.mem_range]
 constructor
 ·rintro ⟨k, ⟨h1, h2⟩, rfl⟩
  exact ⟨by omega, by omega, by simpa using h2⟩
 ·rintro ⟨h1, h2, h3⟩
  exact ⟨x.toNat, ⟨by omega, h3⟩, by omega⟩
theorem members_succ (p : Nat → Bool) (n : Nat) : members p (n + 1) = members p n ++ (if p n then [(n : Int)] else []) := by
 simp only [members, List.range_succ, List.filter_append, List.map_append]
 congr 1
 by_cases h : p n = true
 ·simp [h]
 ·simp [h]
theorem asc_members (p : Nat → Bool) : ∀ n, Asc (members p n)
 | 0 => by simp [members, Asc]
 | n + 1 => by
  rw [members_succ]
  refine List.pairwise_append.2 ⟨asc_members p n, ?_, fun x hx y hy => ?_⟩
  ·split <;> simp
  ·have h1 := (mem_members.1 hx).2.1
   split at hy
   ·simp at hy; omega
   ·cases hy
theorem members_len_le (p : Nat → Bool) : ∀ n, (members p n).length ≤ n
 | 0 => by simp [members]
 | n + 1 => by
  rw [members_succ, List.length_append]
  have := members_len_le p n
  split <;> simp <;> omega
/-! Bits. -/
theorem nrmT : (∀ (p : Prop) [Decidable p], (decide p = true) = p) ∧ (∀ (p : Prop) [Decidable p], (decide p = false) ↔ ¬p) ∧ (∀ b : Bool, ((!b) = true) = (b = false)) ∧ (∀ b : Bool, ((!b) = false) = (b = true)) ∧ (∀ b : Bool, (!!b) = b)
  ∧ (∀ a b : Bool, ((a && b) = true) = (a = true ∧ b = true)) ∧ (∀ a b : Bool, ((a || b) = true) = (a = true ∨ b = true)) ∧ (∀ a b : Bool, ((a && b) = false) ↔ (a = false ∨ b = false)) ∧ (∀ a b : Bool, ((a || b) = false) ↔ (a = false ∧ b = false))
  ∧ (∀ (α : Type) [BEq α] [LawfulBEq α] (a b : α), ((a == b) = true) ↔ (a = b)) ∧ (∀ (α : Type) [BEq α] [LawfulBEq α] (a b : α), ((a == b) = false) ↔ ¬(a = b))
  ∧ (∀ (α : Type) [BEq α] [LawfulBEq α] (a b : α), ((a != b) = true) ↔ ¬(a = b)) ∧ (∀ (α : Type) [BEq α] [LawfulBEq α] (a b : α), ((a != b) = false) ↔ (a = b))
  ∧ (∀ a b : Int, (a ≥ b) = (b ≤ a)) ∧ (∀ a b : Int, (a > b) = (b < a)) ∧ (∀ a b : Int, (¬(a < b)) ↔ (b ≤ a)) ∧ (∀ a b : Int, (¬(a ≤ b)) ↔ (b < a)) :=
 ⟨fun _ _ => decide_eq_true_eq, fun _ _ => decide_eq_false_iff_not, Bool.not_eq_true', Bool.not_eq_false', Bool.not_not, Bool.and_eq_true, Bool.or_eq_true, fun _ _ => Bool.and_eq_false_iff, fun _ _ => Bool.or_eq_false_iff,
  fun _ _ _ _ _ => beq_iff_eq, fun _ _ _ _ _ => beq_eq_false_iff_ne, fun _ _ _ _ _ => bne_iff_ne, fun _ _ _ _ _ => bne_eq_false_iff_eq, fun _ _ => rfl, fun _ _ => rfl, fun _ _ => Int.not_lt, fun _ _ => Int.not_le⟩
end Go.Proofs.Ytomnmacmlhkceaa
