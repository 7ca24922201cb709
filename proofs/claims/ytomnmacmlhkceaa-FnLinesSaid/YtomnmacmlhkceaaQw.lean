/- Plain aids: ascending lists, sets as bits. No function of the program is named here. -/
import Derived.Test.YtomnmacmlhkceaaQt
set_option linter.unusedVariables false
set_option linter.unusedSimpArgs false
namespace Go.Proofs.Ytomnmacmlhkceaa
open Go
abbrev Asc (l : List Int) : Prop := l.Pairwise (· < ·)
def putL : List Int → Int → List Int
 | [], n => [n]
 | x :: r, n => if x < n then x :: putL r n else if x = n then x :: r else n :: x :: r
theorem mem_putL {y : Int} : ∀ {l : List Int} {n : Int}, y ∈ putL l n ↔ y = n ∨ y ∈ l
 | [], n => by simp [putL]
 | x :: r, n => by
  unfold putL
  by_cases h : x < n
  ·rw [if_pos h, List.mem_cons, mem_putL (l := r), List.mem_cons]
   constructor
   ·rintro (h1 | h1 | h1)
    ·exact .inr (.inl h1)
    ·exact .inl h1
    ·exact .inr (.inr h1)
   ·rintro (h1 | h1 | h1)
    ·exact .inr (.inl h1)
    ·exact .inl h1
    ·exact .inr (.inr h1)
  ·rw [if_neg h]
   by_cases e : x = n
   ·rw [if_pos e, List.mem_cons]
    constructor
    ·exact .inr
    ·rintro (h1 | h1)
     ·exact .inl (h1.trans e.symm)
     ·exact h1
   ·rw [if_neg e, List.mem_cons]
theorem asc_putL : ∀ {l : List Int} {n : Int}, Asc l → Asc (putL l n)
 | [], n, _ => by simp [putL, Asc]
 | x :: r, n, h => by
  unfold putL
  obtain ⟨h1, h2⟩ := List.pairwise_cons.1 h
  by_cases hx : x < n
  ·rw [if_pos hx]
   refine List.pairwise_cons.2 ⟨fun y hy => ?_, asc_putL h2⟩
   rcases mem_putL.1 hy with rfl | hy
   ·exact hx
   ·exact h1 y hy
  ·rw [if_neg hx]
   by_cases e : x = n
   ·rw [if_pos e]; exact h
   ·rw [if_neg e]
    refine List.pairwise_cons.2 ⟨fun y hy => ?_, h⟩
    rcases List.mem_cons.1 hy with rfl | hy
    ·omega
    ·have := h1 y hy; omega
theorem putL_len : ∀ (l : List Int) (n : Int), (putL l n).length ≤ l.length + 1
 | [], n => by simp [putL]
 | x :: r, n => by
  unfold putL
  have := putL_len r n
  split
  ·simp only [List.length_cons]; omega
  ·split <;> simp
theorem putL_at : ∀ (l : List Int) (n : Int) (k : Nat), k ≤ l.length → (∀ j, j < k → l.getD j 0 < n) → (k < l.length → ¬ l.getD k 0 < n) →
  putL l n = if k < l.length ∧ l.getD k 0 = n then l else l.take k ++ [n] ++ l.drop k
 | [], n, k, hk, _, _ => by
  have : k = 0 := by simpa using hk
  subst this
  simp [putL]
 | x :: r, n, 0, hk, h1, h2 => by
  have h3 := h2 (by simp)
  simp only [List.getD_cons_zero] at h3
  unfold putL
  rw [if_neg h3]
  by_cases e : x = n
  ·simp [e]
  ·simp [e]
 | x :: r, n, k + 1, hk, h1, h2 => by
  have h3 := h1 0 (by omega)
  simp only [List.getD_cons_zero] at h3
  unfold putL
  rw [if_pos h3]
  have ih := putL_at r n k (by simpa using hk) (fun j hj => by have := h1 (j + 1) (by omega); simpa using this) (fun hlt => by have := h2 (by simpa using hlt); simpa using this)
  rw [ih]
  by_cases e : k < r.length ∧ r.getD k 0 = n
  ·have e2 : k + 1 < (x :: r).length ∧ (x :: r).getD (k + 1) 0 = n := by simpa using e
   rw [if_pos e, if_pos e2]
  ·have e2 : ¬ (k + 1 < (x :: r).length ∧ (x :: r).getD (k + 1) 0 = n) := by simpa using e
   rw [if_neg e, if_neg e2]
   simp
theorem asc_ext : ∀ {l m : List Int}, Asc l → Asc m → (∀ x, x ∈ l ↔ x ∈ m) → l = m
 | [], [], _, _, _ => rfl
 | [], y :: m, _, _, h => by have := (h y).2 List.mem_cons_self; cases this
 | x :: l, [], _, _, h => by have := (h x).1 List.mem_cons_self; cases this
 | x :: l, y :: m, hl, hm, h => by
  obtain ⟨l1, l2⟩ := List.pairwise_cons.1 hl
  obtain ⟨m1, m2⟩ := List.pairwise_cons.1 hm
  have e : x = y := by
   have hx := (h x).1 List.mem_cons_self
   have hy := (h y).2 List.mem_cons_self
   rcases List.mem_cons.1 hx with hx | hx
   ·exact hx
   ·rcases List.mem_cons.1 hy with hy | hy
    ·exact hy.symm
    ·have a := m1 x hx; have b := l1 y hy; omega
  subst e
  rw [asc_ext l2 m2 fun z => ?_]
  constructor
  ·intro hz
   rcases List.mem_cons.1 ((h z).1 (List.mem_cons_of_mem _ hz)) with e | e
   ·have := l1 z hz; omega
   ·exact e
  ·intro hz
   rcases List.mem_cons.1 ((h z).2 (List.mem_cons_of_mem _ hz)) with e | e
   ·have := m1 z hz; omega
   ·exact e
def members (p : Nat → Bool) (n : Nat) : List Int := ((List.range n).filter p).map fun (k : Nat) => (k : Int)
theorem mem_members {p : Nat → Bool} {n : Nat} {x : Int} : x ∈ members p n ↔ 0 ≤ x ∧ x < n ∧ p x.toNat = true := by
 simp only [members, List.mem_map, List.mem_filter, List.mem_range]
 constructor
 ·rintro ⟨k, ⟨h1, h2⟩, rfl⟩
  exact ⟨by omega, by omega, by simpa using h2⟩
 ·rintro ⟨h1, h2, h3⟩
  exact ⟨x.toNat, ⟨by omega, h3⟩, by omega⟩
theorem members_succ (p : Nat → Bool) (n : Nat) : members p (n + 1) = members p n ++ (if p n then [(n : Int)] else []) := by
 simp only [members, List.range_succ, List.filter_append, List.map_append]
 congr 1
 by_cases h : p n = true
 ·simp [h]
 ·simp [h]
theorem asc_members (p : Nat → Bool) : ∀ n, Asc (members p n)
 | 0 => by simp [members, Asc]
 | n + 1 => by
  rw [members_succ]
  refine List.pairwise_append.2 ⟨asc_members p n, ?_, fun x hx y hy => ?_⟩
  ·split <;> simp
  ·have h1 := (mem_members.1 hx).2.1
   split at hy
   ·simp at hy; omega
   ·cases hy
theorem members_congr {p q : Nat → Bool} {n : Nat} (h : ∀ k, k < n → p k = q k) : members p n = members q n := by
 simp only [members]
 congr 1
 exact List.filter_congr fun k hk => h k (List.mem_range.1 hk)
theorem members_len_le (p : Nat → Bool) : ∀ n, (members p n).length ≤ n
 | 0 => by simp [members]
 | n + 1 => by
  rw [members_succ, List.length_append]
  have := members_len_le p n
  split <;> simp <;> omega
/-! Bits. -/
def bagTo (list : List Int) (k : Nat) : Nat := foldTo (fun s j => s ||| 2 ^ (list.getD j 0).toNat) 0 k
def bagN (list : List Int) : Nat := bagTo list list.length
theorem bagTo_bit {list : List Int} {x : Nat} : ∀ k, (bagTo list k).testBit x = true ↔ ∃ j, j < k ∧ (list.getD j 0).toNat = x
 | 0 => by simp [bagTo, foldTo]
 | k + 1 => by
  have e : bagTo list (k + 1) = bagTo list k ||| 2 ^ (list.getD k 0).toNat := rfl
  rw [e, Nat.testBit_or, Bool.or_eq_true, bagTo_bit k, Nat.testBit_two_pow]
  simp only [decide_eq_true_eq]
  constructor
  ·rintro (⟨j, h1, h2⟩ | h)
   ·exact ⟨j, by omega, h2⟩
   ·exact ⟨k, by omega, h⟩
  ·rintro ⟨j, h1, h2⟩
   by_cases e : j = k
   ·subst e; exact .inr h2
   ·exact .inl ⟨j, by omega, h2⟩
theorem bagN_bit {list : List Int} (h : ∀ x ∈ list, 0 ≤ x) {x : Nat} : (bagN list).testBit x = list.contains (x : Int) := by
 rw [Bool.eq_iff_iff, bagN, bagTo_bit, List.contains_iff_mem]
 constructor
 ·rintro ⟨j, h1, h2⟩
  have h3 := h _ (getD_mem (d := 0) h1)
  have : (x : Int) = list.getD j 0 := by omega
  rw [this]
  exact getD_mem h1
 ·intro hx
  obtain ⟨j, h1, h2⟩ := List.mem_iff_getElem.1 hx
  exact ⟨j, h1, by simp [h1, h2]⟩
theorem bagTo_lt {list : List Int} {m : Nat} (h : ∀ x ∈ list, 0 ≤ x ∧ x < m) : ∀ k, k ≤ list.length → bagTo list k < 2 ^ m
 | 0, _ => Nat.two_pow_pos m
 | k + 1, hk => by
  have e : bagTo list (k + 1) = bagTo list k ||| 2 ^ (list.getD k 0).toNat := rfl
  rw [e]
  refine Nat.or_lt_two_pow (bagTo_lt h k (by omega)) ?_
  have := h _ (getD_mem (d := 0) (show k < list.length by omega))
  exact Nat.pow_lt_pow_right (by omega) (by omega)
theorem bagN_lt {list : List Int} {m : Nat} (h : ∀ x ∈ list, 0 ≤ x ∧ x < m) : bagN list < 2 ^ m := bagTo_lt h _ (Nat.le_refl _)
theorem shr_bit {n k : Nat} : ((((n : Int) / 2 ^ k).toNat &&& 1 : Nat) : Int) = if n.testBit k then 1 else 0 := by
 have e : (n : Int) / 2 ^ k = ((n / 2 ^ k : Nat) : Int) := by simp
 rw [e, Int.toNat_natCast, Nat.and_one_is_mod, Nat.testBit_eq_decide_div_mod_eq]
 have : n / 2 ^ k % 2 < 2 := Nat.mod_lt _ (by omega)
 by_cases h : n / 2 ^ k % 2 = 1
 ·simp [h]
 ·have : n / 2 ^ k % 2 = 0 := by omega
  simp [this]
theorem nrmT : (∀ (p : Prop) [Decidable p], (decide p = true) = p) ∧ (∀ (p : Prop) [Decidable p], (decide p = false) ↔ ¬p) ∧ (∀ b : Bool, ((!b) = true) = (b = false)) ∧ (∀ b : Bool, ((!b) = false) = (b = true)) ∧ (∀ b : Bool, (!!b) = b)
  ∧ (∀ a b : Bool, ((a && b) = true) = (a = true ∧ b = true)) ∧ (∀ a b : Bool, ((a || b) = true) = (a = true ∨ b = true)) ∧ (∀ a b : Bool, ((a && b) = false) ↔ (a = false ∨ b = false)) ∧ (∀ a b : Bool, ((a || b) = false) ↔ (a = false ∧ b = false))
  ∧ (∀ (α : Type) [BEq α] [LawfulBEq α] (a b : α), ((a == b) = true) ↔ (a = b)) ∧ (∀ (α : Type) [BEq α] [LawfulBEq α] (a b : α), ((a == b) = false) ↔ ¬(a = b))
  ∧ (∀ (α : Type) [BEq α] [LawfulBEq α] (a b : α), ((a != b) = true) ↔ ¬(a = b)) ∧ (∀ (α : Type) [BEq α] [LawfulBEq α] (a b : α), ((a != b) = false) ↔ (a = b))
  ∧ (∀ a b : Int, (a ≥ b) = (b ≤ a)) ∧ (∀ a b : Int, (a > b) = (b < a)) ∧ (∀ a b : Int, (¬(a < b)) ↔ (b ≤ a)) ∧ (∀ a b : Int, (¬(a ≤ b)) ↔ (b < a)) :=
 ⟨fun _ _ => decide_eq_true_eq, fun _ _ => decide_eq_false_iff_not, Bool.not_eq_true', Bool.not_eq_false', Bool.not_not, Bool.and_eq_true, Bool.or_eq_true, fun _ _ => Bool.and_eq_false_iff, fun _ _ => Bool.or_eq_false_iff,
  fun _ _ _ _ _ => beq_iff_eq, fun _ _ _ _ _ => beq_eq_false_iff_ne, fun _ _ _ _ _ => bne_iff_ne, fun _ _ _ _ _ => bne_eq_false_iff_eq, fun _ _ => rfl, fun _ _ => rfl, fun _ _ => Int.not_lt, fun _ _ => Int.not_le⟩
end Go.Proofs.Ytomnmacmlhkceaa
