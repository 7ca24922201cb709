/- Contracts. -/
import Derived.Test.YtmcbcomcejgbcaaPw
import Derived.Test.YtmcbcomcejgbcaaProg
import Derived.Test.YtmcbcomcejgbcaaT6
import Derived.KernelRfl
set_option linter.unusedVariables false
set_option linter.unusedSimpArgs false
namespace Go.Proofs.Ytmcbcomcejgbcaa
open Go

abbrev i_bagOf_JJ0 (list : List Int) (out : Int) (i : Int) : Prop := (0 ≤ i) ∧ (i ≤ (list.length : Int)) ∧ (out = ((bagTo list i.toNat : Nat) : Int))
abbrev i_bagOf_mJ0 (list : List Int) (out : Int) (i : Int) : Nat := (list.length - i).toNat
def i_bagOf_C (f : FuncId) (ds : List D) : Orc := .no
def i_bagOf_A (list : List Int) : Ann := .two (.none) (.two (.none) (.two (.two (.none) (.loop (cut2 (fun (out : Int) (i : Int) => i_bagOf_JJ0 list out i) (fun (out : Int) (i : Int) => [(3, .d true (.int .u64 out)), (6, .d false (.sl (.ints list))), (7, .d true (.int .i64 (list.length : Int))), (8, .d true (.int .i64 i))]) (fun (out : Int) (i : Int) => [])) (fun g => i_bagOf_mJ0 list g.1 g.2) (fun _ => .none))) (.none)))
def i_bagOf_P (list : List Int) : Prop :=
  ((∃ out' : Int, ∃ i' : Int, (i_bagOf_JJ0 list out' i') ∧ ((0 : Int) = out') ∧ (list = list) ∧ ((list.length : Int) = (list.length : Int)) ∧ ((0 : Int) = i')) ∧ (∀ out : Int, ∀ i : Int, (i_bagOf_JJ0 list out i) → (((decide (i < (list.length : Int))) = true → ((0 : Int) ≤ i) ∧ ((i : Int) < list.length) ∧ (i.toNat < list.length) ∧ ((0 : Int) ≤ 1) ∧ ((0 : Int) ≤ (list.getD i.toNat 0)) ∧ ((0 : Int) ≤ ((1 : Int) * 2 ^ ((list.getD i.toNat 0).toNat)) ∧ (((1 : Int) * 2 ^ ((list.getD i.toNat 0).toNat)) : Int) ≤ 18446744073709551615) ∧ ((0 : Int) ≤ out ∧ (out : Int) ≤ 18446744073709551615) ∧ ((0 : Int) ≤ ((1 : Int) * 2 ^ ((list.getD i.toNat 0).toNat)) ∧ (((1 : Int) * 2 ^ ((list.getD i.toNat 0).toNat)) : Int) ≤ 18446744073709551615) ∧ (-9223372036854775808 ≤ (i + 1) ∧ (i + 1) ≤ 9223372036854775807) ∧ (∃ out' : Int, ∃ i' : Int, (i_bagOf_JJ0 list out' i') ∧ (i_bagOf_mJ0 list out' i' < i_bagOf_mJ0 list out i) ∧ (((out.toNat ||| ((1 : Int) * 2 ^ ((list.getD i.toNat 0).toNat)).toNat : Nat) : Int) = out') ∧ (list = list) ∧ ((list.length : Int) = (list.length : Int)) ∧ ((i + 1) = i'))) ∧ ((decide (i < (list.length : Int))) = false → ((out = ((bagN list : Nat) : Int)))))))
theorem i_bagOf_vc (list : List Int) (hb : ∀ x ∈ list, 0 ≤ x ∧ x < 62) (w_list : (list.length : Int) ≤ 9223372036854775807) : i_bagOf_P list := by
  unfold i_bagOf_P
  have lt := bagTo_lt (m := 62) hb
  have he : (2 : Nat) ^ 62 = 4611686018427387904 := by decide
  refine ⟨?_, ?_⟩
  · refine ⟨0, 0, ?_⟩
    refine ⟨?_, rfl, rfl, rfl, rfl⟩
    · refine ⟨?_, ?_, ?_⟩
      · first | omega | rfl | (intro hg; simp only [nrmT] at hg; omega) | (intro g1 g2; simp [g1, g2]; done) | (intro g1; simp at g1 ⊢; simp [g1]; done) | (simp only [nrmT] at *; omega) | (simp at * <;> omega) | (simp_all <;> omega) | (simp_all; done)
      · first | omega | rfl | (intro hg; simp only [nrmT] at hg; omega) | (intro g1 g2; simp [g1, g2]; done) | (intro g1; simp at g1 ⊢; simp [g1]; done) | (simp only [nrmT] at *; omega) | (simp at * <;> omega) | (simp_all <;> omega) | (simp_all; done)
      · first | omega | rfl | (intro hg; simp only [nrmT] at hg; omega) | (intro g1 g2; simp [g1, g2]; done) | (intro g1; simp at g1 ⊢; simp [g1]; done) | (simp only [nrmT] at *; omega) | (simp at * <;> omega) | (simp_all <;> omega) | (simp_all; done)
  · intro out i hJ
    obtain ⟨h1, h2, h3⟩ := hJ
    refine ⟨?_, ?_⟩
    · intro b1
      try simp only [nrmT] at b1
      refine ⟨?_, ?_, ?_, ?_, ?_, ?_, ?_, ?_, ?_, ?_⟩
      · first | omega | rfl | (intro hg; simp only [nrmT] at hg; omega) | (intro g1 g2; simp [g1, g2]; done) | (intro g1; simp at g1 ⊢; simp [g1]; done) | (simp only [nrmT] at *; omega) | (simp at * <;> omega) | (simp_all <;> omega) | (simp_all; done)
      · first | omega | rfl | (intro hg; simp only [nrmT] at hg; omega) | (intro g1 g2; simp [g1, g2]; done) | (intro g1; simp at g1 ⊢; simp [g1]; done) | (simp only [nrmT] at *; omega) | (simp at * <;> omega) | (simp_all <;> omega) | (simp_all; done)
      · first | omega | rfl | (intro hg; simp only [nrmT] at hg; omega) | (intro g1 g2; simp [g1, g2]; done) | (intro g1; simp at g1 ⊢; simp [g1]; done) | (simp only [nrmT] at *; omega) | (simp at * <;> omega) | (simp_all <;> omega) | (simp_all; done)
      · first | omega | rfl | (intro hg; simp only [nrmT] at hg; omega) | (intro g1 g2; simp [g1, g2]; done) | (intro g1; simp at g1 ⊢; simp [g1]; done) | (simp only [nrmT] at *; omega) | (simp at * <;> omega) | (simp_all <;> omega) | (simp_all; done)
      · have := hb _ (getD_memI (d := 0) h1 (by omega))
        omega
      · have h7 := hb _ (getD_memI (d := 0) h1 (by omega))
        have h8 := pow_le (x := list.getD i.toNat 0) (m := 62) (by omega)
        rw [he] at h8
        omega
      · have := lt i.toNat (by omega)
        omega
      · have h7 := hb _ (getD_memI (d := 0) h1 (by omega))
        have h8 := pow_le (x := list.getD i.toNat 0) (m := 62) (by omega)
        rw [he] at h8
        omega
      · first | omega | rfl | (intro hg; simp only [nrmT] at hg; omega) | (intro g1 g2; simp [g1, g2]; done) | (intro g1; simp at g1 ⊢; simp [g1]; done) | (simp only [nrmT] at *; omega) | (simp at * <;> omega) | (simp_all <;> omega) | (simp_all; done)
      · refine ⟨((out.toNat ||| ((1 : Int) * 2 ^ ((list.getD i.toNat 0).toNat)).toNat : Nat) : Int), (i + 1), ?_⟩
        refine ⟨?_, ?_, rfl, rfl, rfl, rfl⟩
        · refine ⟨?_, ?_, ?_⟩
          · first | omega | rfl | (intro hg; simp only [nrmT] at hg; omega) | (intro g1 g2; simp [g1, g2]; done) | (intro g1; simp at g1 ⊢; simp [g1]; done) | (simp only [nrmT] at *; omega) | (simp at * <;> omega) | (simp_all <;> omega) | (simp_all; done)
          · first | omega | rfl | (intro hg; simp only [nrmT] at hg; omega) | (intro g1 g2; simp [g1, g2]; done) | (intro g1; simp at g1 ⊢; simp [g1]; done) | (simp only [nrmT] at *; omega) | (simp at * <;> omega) | (simp_all <;> omega) | (simp_all; done)
          · have e : (i + 1).toNat = i.toNat + 1 := by omega
            rw [one_pow, h3, Int.toNat_natCast, e]
            rfl
        · first | (show _ < _; omega) | (simp only [i_bagOf_mJ0]; omega) | (simp only [i_bagOf_mJ0] at *; simp at *; omega)
    · intro b2
      try simp only [nrmT] at b2
      rw [h3]
      unfold bagN
      rw [show i.toNat = list.length by omega]
theorem i_bagOf_pc (list : List Int) (hb : ∀ x ∈ list, 0 ≤ x ∧ x < 62) : PC Try.prog 171 [.sl (.ints list)] (.one (.d (.int .u64 ((bagN list : Nat) : Int)))) :=
  pc_wf @Try.call171 fun hw => pc_by (by kernel_rfl) Try.func171 @Try.call171 (by kernel_rfl) i_bagOf_C (i_bagOf_A list) (by kernel_rfl) (i_bagOf_vc list hb hw.1) (by kernel_rfl)
def i_bagOf_orc : List D → Orc := orcN [some .ints] fun ds => match ds with
  | [.sl (.ints list)] => some (.one (.d (.int .u64 ((bagN list : Nat) : Int))))
  | _ => none

def i_bag_has_C (f : FuncId) (ds : List D) : Orc := .no
def i_bag_has_A (b : Int) (x : Int) : Ann := .none
def i_bag_has_P (b : Int) (x : Int) : Prop :=
  ((0 : Int) ≤ b ∧ (b : Int) ≤ 18446744073709551615) ∧ ((0 : Int) ≤ x) ∧ ((0 : Int) ≤ (b / 2 ^ x.toNat) ∧ ((b / 2 ^ x.toNat) : Int) ≤ 18446744073709551615) ∧ ((0 : Int) ≤ 1 ∧ (1 : Int) ≤ 18446744073709551615) ∧ ((((((b / 2 ^ x.toNat).toNat &&& 1 : Nat) : Int) == 1) = (b.toNat.testBit x.toNat)))
theorem i_bag_has_vc (b : Int) (x : Int) (hb : 0 ≤ b ∧ b ≤ 4611686018427387903) (hx : 0 ≤ x)  : i_bag_has_P b x := by
  unfold i_bag_has_P
  refine ⟨?_, ?_, ?_, ?_, ?_⟩
  · first | omega | rfl | (intro hg; simp only [nrmT] at hg; omega) | (intro g1 g2; simp [g1, g2]; done) | (intro g1; simp at g1 ⊢; simp [g1]; done) | (simp only [nrmT] at *; omega) | (simp at * <;> omega) | (simp_all <;> omega) | (simp_all; done)
  · first | omega | rfl | (intro hg; simp only [nrmT] at hg; omega) | (intro g1 g2; simp [g1, g2]; done) | (intro g1; simp at g1 ⊢; simp [g1]; done) | (simp only [nrmT] at *; omega) | (simp at * <;> omega) | (simp_all <;> omega) | (simp_all; done)
  · have h1 : 0 ≤ b / 2 ^ x.toNat := Int.ediv_nonneg hb.1 (Int.le_of_lt (Int.pow_pos (by omega)))
    have h2 : b / 2 ^ x.toNat ≤ b := Int.ediv_le_self _ hb.1
    omega
  · first | omega | rfl | (intro hg; simp only [nrmT] at hg; omega) | (intro g1 g2; simp [g1, g2]; done) | (intro g1; simp at g1 ⊢; simp [g1]; done) | (simp only [nrmT] at *; omega) | (simp at * <;> omega) | (simp_all <;> omega) | (simp_all; done)
  · have e : b = ((b.toNat : Nat) : Int) := by omega
    have h := shr_bit (n := b.toNat) (k := x.toNat)
    rw [← e] at h
    rw [h]
    cases b.toNat.testBit x.toNat <;> rfl
theorem i_bag_has_pc (b : Int) (x : Int) (hb : 0 ≤ b ∧ b ≤ 4611686018427387903) (hx : 0 ≤ x) : PC Try.prog 172 [.int .u64 b, .int .i64 x] (.one (.d (.bool (b.toNat.testBit x.toNat)))) :=
  pc_wf @Try.call172 fun _ => pc_by (by kernel_rfl) Try.func172 @Try.call172 (by kernel_rfl) i_bag_has_C (i_bag_has_A b x) (by kernel_rfl) (i_bag_has_vc b x hb hx) (by kernel_rfl)
def i_bag_has_orc : List D → Orc := orcN [none, none] fun ds => match ds with
  | [.int .u64 b, .int .i64 x] => some (.one (.d (.bool (b.toNat.testBit x.toNat))))
  | _ => none

def covTo (Sets : List (List Int)) (choice : List Int) (i : Nat) : Nat := foldTo (fun s k => s ||| bagN (Sets.getD (choice.getD k 0).toNat [])) 0 i
def covB (Sets : List (List Int)) (choice : List Int) (x : Nat) : Bool := choice.any fun c => (Sets.getD c.toNat []).contains (x : Int)
def coverB (Size : Int) (Sets : List (List Int)) (choice : List Int) : Bool := allTo (covB Sets choice) Size.toNat
theorem rising_mem {xs : List Int} {lo hi : Int} (h : rising xs lo hi = true) : ∀ x ∈ xs, lo ≤ x ∧ x ≤ hi := by
  intro x hx
  obtain ⟨k, hk, rfl⟩ := List.mem_iff_getElem.1 hx
  have := rising_at h k hk
  simp [hk] at this
  omega
theorem set_mem {Size : Int} {Sets : List (List Int)} {Costs : List Int} (h : goodSys Size Sets Costs = true) {k : Nat} (hk : k < Sets.length) : ∀ x ∈ Sets.getD k [], 0 ≤ x ∧ x < 8 := by
  intro x hx
  have h1 := rising_mem (gs_set h hk) x hx
  have h2 := gs_facts h
  omega
theorem set_memS {Size : Int} {Sets : List (List Int)} {Costs : List Int} (h : goodSys Size Sets Costs = true) {k : Nat} (hk : k < Sets.length) : ∀ x ∈ Sets.getD k [], 0 ≤ x ∧ x < (Size.toNat : Int) := by
  intro x hx
  have h1 := rising_mem (gs_set h hk) x hx
  have h2 := gs_facts h
  omega
theorem covTo_bit {Size : Int} {Sets : List (List Int)} {Costs choice : List Int} (h : goodSys Size Sets Costs = true) (hc : rising choice 0 ((Sets.length : Int) - 1) = true) {x : Nat} : ∀ k, k ≤ choice.length →
    ((covTo Sets choice k).testBit x = true ↔ ∃ j, j < k ∧ (x : Int) ∈ Sets.getD (choice.getD j 0).toNat [])
  | 0, _ => by simp [covTo, foldTo]
  | k + 1, hk => by
    have e : covTo Sets choice (k + 1) = covTo Sets choice k ||| bagN (Sets.getD (choice.getD k 0).toNat []) := rfl
    have h1 := rising_at hc k (by omega)
    rw [e, Nat.testBit_or, Bool.or_eq_true, covTo_bit h hc k (by omega), bagN_bit (fun y hy => (set_mem h (k := (choice.getD k 0).toNat) (by omega) y hy).1), List.contains_iff_mem]
    constructor
    · rintro (⟨j, h1, h2⟩ | h)
      · exact ⟨j, by omega, h2⟩
      · exact ⟨k, by omega, h⟩
    · rintro ⟨j, h1, h2⟩
      by_cases e : j = k
      · subst e; exact .inr h2
      · exact .inl ⟨j, by omega, h2⟩
theorem covB_iff {Sets : List (List Int)} {choice : List Int} {x : Nat} : covB Sets choice x = true ↔ ∃ j, j < choice.length ∧ (x : Int) ∈ Sets.getD (choice.getD j 0).toNat [] := by
  unfold covB
  rw [List.any_eq_true]
  constructor
  · rintro ⟨c, hc, hx⟩
    rw [List.contains_iff_mem] at hx
    obtain ⟨j, hj, rfl⟩ := List.mem_iff_getElem.1 hc
    exact ⟨j, hj, by simpa [hj] using hx⟩
  · rintro ⟨j, hj, hx⟩
    exact ⟨_, getD_mem (d := 0) hj, by rw [List.contains_iff_mem]; exact hx⟩
theorem covN_bit {Size : Int} {Sets : List (List Int)} {Costs choice : List Int} (h : goodSys Size Sets Costs = true) (hc : rising choice 0 ((Sets.length : Int) - 1) = true) (x : Nat) : (covTo Sets choice choice.length).testBit x = covB Sets choice x := by
  rw [Bool.eq_iff_iff, covTo_bit h hc _ (Nat.le_refl _), covB_iff]
theorem covTo_lt {Size : Int} {Sets : List (List Int)} {Costs choice : List Int} (h : goodSys Size Sets Costs = true) (hc : rising choice 0 ((Sets.length : Int) - 1) = true) : ∀ k, k ≤ choice.length → covTo Sets choice k < 2 ^ Size.toNat
  | 0, _ => Nat.two_pow_pos _
  | k + 1, hk => by
    have e : covTo Sets choice (k + 1) = covTo Sets choice k ||| bagN (Sets.getD (choice.getD k 0).toNat []) := rfl
    rw [e]
    have h1 := rising_at hc k (by omega)
    exact Nat.or_lt_two_pow (covTo_lt h hc k (by omega)) (bagN_lt (m := Size.toNat) fun y hy => set_memS h (k := (choice.getD k 0).toNat) (by omega) y hy)
theorem pow8 {n : Nat} (h : n ≤ 8) : (2 : Nat) ^ n ≤ 256 := Nat.le_trans (Nat.pow_le_pow_right (by omega) h) (by decide)

abbrev i_System_covered_JJ0 (Size : Int) (Sets : List (List Int)) (Costs : List Int) (choice : List Int) (out : Int) (i : Int) : Prop := (0 ≤ i) ∧ (i ≤ (choice.length : Int)) ∧ (out = ((covTo Sets choice i.toNat : Nat) : Int))
abbrev i_System_covered_mJ0 (Size : Int) (Sets : List (List Int)) (Costs : List Int) (choice : List Int) (out : Int) (i : Int) : Nat := (choice.length - i).toNat
def i_System_covered_C (f : FuncId) (ds : List D) : Orc := bif Nat.beq f 171 then i_bagOf_orc ds else .no
def i_System_covered_A (Size : Int) (Sets : List (List Int)) (Costs : List Int) (choice : List Int) : Ann := .two (.none) (.two (.none) (.two (.two (.none) (.loop (cut2 (fun (out : Int) (i : Int) => i_System_covered_JJ0 Size Sets Costs choice out i) (fun (out : Int) (i : Int) => [(2, .ptr 2 0), (5, .d true (.int .u64 out)), (8, .d false (.sl (.ints choice))), (9, .d true (.int .i64 (choice.length : Int))), (10, .d true (.int .i64 i))]) (fun (out : Int) (i : Int) => [(2, .box 31 [.d false (.int .i64 Size), .d false (.sl (.rows Sets)), .d false (.sl (.ints Costs))])])) (fun g => i_System_covered_mJ0 Size Sets Costs choice g.1 g.2) (fun _ => .none))) (.none)))
def i_System_covered_P (Size : Int) (Sets : List (List Int)) (Costs : List Int) (choice : List Int) : Prop :=
  ((∃ out' : Int, ∃ i' : Int, (i_System_covered_JJ0 Size Sets Costs choice out' i') ∧ ((0 : Int) = out') ∧ (choice = choice) ∧ ((choice.length : Int) = (choice.length : Int)) ∧ ((0 : Int) = i') ∧ (Size = Size) ∧ (Sets = Sets) ∧ (Costs = Costs)) ∧ (∀ out : Int, ∀ i : Int, (i_System_covered_JJ0 Size Sets Costs choice out i) → (((decide (i < (choice.length : Int))) = true → ((0 : Int) ≤ i) ∧ ((i : Int) < choice.length) ∧ (i.toNat < choice.length) ∧ ((0 : Int) ≤ (choice.getD i.toNat 0)) ∧ (((choice.getD i.toNat 0) : Int) < Sets.length) ∧ ((choice.getD i.toNat 0).toNat < Sets.length) ∧ (PC Try.prog 171 [.sl (.ints (Sets.getD ((choice.getD i.toNat 0).toNat) []))] (.one (.d (.int .u64 ((bagN (Sets.getD ((choice.getD i.toNat 0).toNat) []) : Nat) : Int))))) ∧ ((0 : Int) ≤ out ∧ (out : Int) ≤ 18446744073709551615) ∧ ((0 : Int) ≤ ((bagN (Sets.getD ((choice.getD i.toNat 0).toNat) []) : Nat) : Int) ∧ (((bagN (Sets.getD ((choice.getD i.toNat 0).toNat) []) : Nat) : Int) : Int) ≤ 18446744073709551615) ∧ (-9223372036854775808 ≤ (i + 1) ∧ (i + 1) ≤ 9223372036854775807) ∧ (∃ out' : Int, ∃ i' : Int, (i_System_covered_JJ0 Size Sets Costs choice out' i') ∧ (i_System_covered_mJ0 Size Sets Costs choice out' i' < i_System_covered_mJ0 Size Sets Costs choice out i) ∧ (((out.toNat ||| ((bagN (Sets.getD ((choice.getD i.toNat 0).toNat) []) : Nat) : Int).toNat : Nat) : Int) = out') ∧ (choice = choice) ∧ ((choice.length : Int) = (choice.length : Int)) ∧ ((i + 1) = i') ∧ (Size = Size) ∧ (Sets = Sets) ∧ (Costs = Costs))) ∧ ((decide (i < (choice.length : Int))) = false → ((out = ((covTo Sets choice choice.length : Nat) : Int)))))))
theorem i_System_covered_vc (Size : Int) (Sets : List (List Int)) (Costs : List Int) (choice : List Int) (hg : goodSys Size Sets Costs = true) (hc : rising choice 0 ((Sets.length : Int) - 1) = true) (w_Sets : (Sets.length : Int) ≤ 9223372036854775807) (v_Sets : ∀ x9 ∈ Sets, (x9.length : Int) ≤ 9223372036854775807) (w_Costs : (Costs.length : Int) ≤ 9223372036854775807) (w_choice : (choice.length : Int) ≤ 9223372036854775807) : i_System_covered_P Size Sets Costs choice := by
  unfold i_System_covered_P
  have gf := gs_facts hg
  have cl := rising_len hc (by omega)
  have ca := fun k => rising_at hc k
  have lt := covTo_lt hg hc
  have p8 := pow8 (n := Size.toNat) (by omega)
  refine ⟨?_, ?_⟩
  · refine ⟨0, 0, ?_⟩
    refine ⟨?_, rfl, rfl, rfl, rfl, rfl, rfl, rfl⟩
    · refine ⟨?_, ?_, ?_⟩
      · first | omega | rfl | (intro hg; simp only [nrmT] at hg; omega) | (intro g1 g2; simp [g1, g2]; done) | (intro g1; simp at g1 ⊢; simp [g1]; done) | (simp only [nrmT] at *; omega) | (simp at * <;> omega) | (simp_all <;> omega) | (simp_all; done)
      · first | omega | rfl | (intro hg; simp only [nrmT] at hg; omega) | (intro g1 g2; simp [g1, g2]; done) | (intro g1; simp at g1 ⊢; simp [g1]; done) | (simp only [nrmT] at *; omega) | (simp at * <;> omega) | (simp_all <;> omega) | (simp_all; done)
      · first | omega | rfl | (intro hg; simp only [nrmT] at hg; omega) | (intro g1 g2; simp [g1, g2]; done) | (intro g1; simp at g1 ⊢; simp [g1]; done) | (simp only [nrmT] at *; omega) | (simp at * <;> omega) | (simp_all <;> omega) | (simp_all; done)
  · intro out i hJ
    obtain ⟨h1, h2, h3⟩ := hJ
    refine ⟨?_, ?_⟩
    · intro b1
      try simp only [nrmT] at b1
      refine ⟨?_, ?_, ?_, ?_, ?_, ?_, ?_, ?_, ?_, ?_, ?_⟩
      · first | omega | rfl | (intro hg; simp only [nrmT] at hg; omega) | (intro g1 g2; simp [g1, g2]; done) | (intro g1; simp at g1 ⊢; simp [g1]; done) | (simp only [nrmT] at *; omega) | (simp at * <;> omega) | (simp_all <;> omega) | (simp_all; done)
      · first | omega | rfl | (intro hg; simp only [nrmT] at hg; omega) | (intro g1 g2; simp [g1, g2]; done) | (intro g1; simp at g1 ⊢; simp [g1]; done) | (simp only [nrmT] at *; omega) | (simp at * <;> omega) | (simp_all <;> omega) | (simp_all; done)
      · first | omega | rfl | (intro hg; simp only [nrmT] at hg; omega) | (intro g1 g2; simp [g1, g2]; done) | (intro g1; simp at g1 ⊢; simp [g1]; done) | (simp only [nrmT] at *; omega) | (simp at * <;> omega) | (simp_all <;> omega) | (simp_all; done)
      · have := ca i.toNat (by omega)
        omega
      · have := ca i.toNat (by omega)
        omega
      · have := ca i.toNat (by omega)
        omega
      · refine i_bagOf_pc (Sets.getD ((choice.getD i.toNat 0).toNat) []) ?_
        · have h7 := ca i.toNat (by omega)
          intro x hx
          have := set_mem hg (k := (choice.getD i.toNat 0).toNat) (by omega) x hx
          omega
      · have := lt i.toNat (by omega)
        omega
      · have h7 := ca i.toNat (by omega)
        have h8 := bagN_lt (m := 8) (list := Sets.getD (choice.getD i.toNat 0).toNat []) fun y hy => set_mem hg (by omega) y hy
        have he : (2 : Nat) ^ 8 = 256 := by decide
        omega
      · first | omega | rfl | (intro hg; simp only [nrmT] at hg; omega) | (intro g1 g2; simp [g1, g2]; done) | (intro g1; simp at g1 ⊢; simp [g1]; done) | (simp only [nrmT] at *; omega) | (simp at * <;> omega) | (simp_all <;> omega) | (simp_all; done)
      · refine ⟨((out.toNat ||| ((bagN (Sets.getD ((choice.getD i.toNat 0).toNat) []) : Nat) : Int).toNat : Nat) : Int), (i + 1), ?_⟩
        refine ⟨?_, ?_, rfl, rfl, rfl, rfl, rfl, rfl, rfl⟩
        · refine ⟨?_, ?_, ?_⟩
          · first | omega | rfl | (intro hg; simp only [nrmT] at hg; omega) | (intro g1 g2; simp [g1, g2]; done) | (intro g1; simp at g1 ⊢; simp [g1]; done) | (simp only [nrmT] at *; omega) | (simp at * <;> omega) | (simp_all <;> omega) | (simp_all; done)
          · first | omega | rfl | (intro hg; simp only [nrmT] at hg; omega) | (intro g1 g2; simp [g1, g2]; done) | (intro g1; simp at g1 ⊢; simp [g1]; done) | (simp only [nrmT] at *; omega) | (simp at * <;> omega) | (simp_all <;> omega) | (simp_all; done)
          · have e : (i + 1).toNat = i.toNat + 1 := by omega
            rw [h3, Int.toNat_natCast, Int.toNat_natCast, e]
            rfl
        · first | (show _ < _; omega) | (simp only [i_System_covered_mJ0]; omega) | (simp only [i_System_covered_mJ0] at *; simp at *; omega)
    · intro b2
      try simp only [nrmT] at b2
      rw [h3]
      rw [show i.toNat = choice.length by omega]
theorem i_System_covered_pc (Size : Int) (Sets : List (List Int)) (Costs : List Int) (choice : List Int) (hg : goodSys Size Sets Costs = true) (hc : rising choice 0 ((Sets.length : Int) - 1) = true) : PC Try.prog 137 [.agg [.int .i64 Size, .sl (.rows Sets), .sl (.ints Costs)], .sl (.ints choice)] (.one (.d (.int .u64 ((covTo Sets choice choice.length : Nat) : Int)))) :=
  pc_wf @Try.call137 fun hw => pc_by (by kernel_rfl) Try.func137 @Try.call137 (by kernel_rfl) i_System_covered_C (i_System_covered_A Size Sets Costs choice) (by kernel_rfl) (i_System_covered_vc Size Sets Costs choice hg hc hw.1.2.1.1 hw.1.2.1.2 hw.1.2.2.1 hw.2.1) (by kernel_rfl)
def i_System_covered_orc : List D → Orc := orcN [none, some .ints] fun ds => match ds with
  | [.agg [.int .i64 Size, .sl (.rows Sets), .sl (.ints Costs)], .sl (.ints choice)] => some (.one (.d (.int .u64 ((covTo Sets choice choice.length : Nat) : Int))))
  | _ => none

def i_System_all_C (f : FuncId) (ds : List D) : Orc := .no
def i_System_all_A (Size : Int) (Sets : List (List Int)) (Costs : List Int) : Ann := .none
def i_System_all_P (Size : Int) (Sets : List (List Int)) (Costs : List Int) : Prop :=
  ((0 : Int) ≤ 1) ∧ ((0 : Int) ≤ Size) ∧ ((0 : Int) ≤ ((1 : Int) * 2 ^ Size.toNat) ∧ (((1 : Int) * 2 ^ Size.toNat) : Int) ≤ 18446744073709551615) ∧ (0 ≤ (((1 : Int) * 2 ^ Size.toNat) - 1) ∧ (((1 : Int) * 2 ^ Size.toNat) - 1) ≤ 18446744073709551615) ∧ (((((1 : Int) * 2 ^ Size.toNat) - 1) = ((2 ^ Size.toNat - 1 : Nat) : Int)))
theorem i_System_all_vc (Size : Int) (Sets : List (List Int)) (Costs : List Int) (hg : 0 ≤ Size ∧ Size ≤ 8) (w_Sets : (Sets.length : Int) ≤ 9223372036854775807) (v_Sets : ∀ x9 ∈ Sets, (x9.length : Int) ≤ 9223372036854775807) (w_Costs : (Costs.length : Int) ≤ 9223372036854775807) : i_System_all_P Size Sets Costs := by
  unfold i_System_all_P
  have p8 := pow8 (n := Size.toNat) (by omega)
  have h7 := pow_le (x := Size) (m := 8) (by omega)
  have h8 := one_pow (x := Size)
  have h9 := Nat.two_pow_pos Size.toNat
  have he : (2 : Nat) ^ 8 = 256 := by decide
  refine ⟨?_, ?_, ?_, ?_, ?_⟩
  · omega
  · omega
  · omega
  · omega
  · omega
theorem i_System_all_pc (Size : Int) (Sets : List (List Int)) (Costs : List Int) (hg : 0 ≤ Size ∧ Size ≤ 8) : PC Try.prog 162 [.agg [.int .i64 Size, .sl (.rows Sets), .sl (.ints Costs)]] (.one (.d (.int .u64 ((2 ^ Size.toNat - 1 : Nat) : Int)))) :=
  pc_wf @Try.call162 fun hw => pc_by (by kernel_rfl) Try.func162 @Try.call162 (by kernel_rfl) i_System_all_C (i_System_all_A Size Sets Costs) (by kernel_rfl) (i_System_all_vc Size Sets Costs hg hw.1.2.1.1 hw.1.2.1.2 hw.1.2.2.1) (by kernel_rfl)
def i_System_all_orc : List D → Orc := orcN [none] fun ds => match ds with
  | [.agg [.int .i64 Size, .sl (.rows Sets), .sl (.ints Costs)]] => some (.one (.d (.int .u64 ((2 ^ Size.toNat - 1 : Nat) : Int))))
  | _ => none

def i_System_isCover_C (f : FuncId) (ds : List D) : Orc := bif Nat.beq f 137 then i_System_covered_orc ds else bif Nat.beq f 162 then i_System_all_orc ds else .no
def i_System_isCover_A (Size : Int) (Sets : List (List Int)) (Costs : List Int) (choice : List Int) : Ann := .none
def i_System_isCover_P (Size : Int) (Sets : List (List Int)) (Costs : List Int) (choice : List Int) : Prop :=
  (true = true) ∧ (PC Try.prog 137 [.agg [.int .i64 Size, .sl (.rows Sets), .sl (.ints Costs)], .sl (.ints choice)] (.one (.d (.int .u64 ((covTo Sets choice choice.length : Nat) : Int))))) ∧ (PC Try.prog 162 [.agg [.int .i64 Size, .sl (.rows Sets), .sl (.ints Costs)]] (.one (.d (.int .u64 ((2 ^ Size.toNat - 1 : Nat) : Int))))) ∧ (((((covTo Sets choice choice.length : Nat) : Int) == ((2 ^ Size.toNat - 1 : Nat) : Int)) = (coverB Size Sets choice)))
theorem i_System_isCover_vc (Size : Int) (Sets : List (List Int)) (Costs : List Int) (choice : List Int) (hg : goodSys Size Sets Costs = true) (hc : rising choice 0 ((Sets.length : Int) - 1) = true) (w_Sets : (Sets.length : Int) ≤ 9223372036854775807) (v_Sets : ∀ x9 ∈ Sets, (x9.length : Int) ≤ 9223372036854775807) (w_Costs : (Costs.length : Int) ≤ 9223372036854775807) (w_choice : (choice.length : Int) ≤ 9223372036854775807) : i_System_isCover_P Size Sets Costs choice := by
  unfold i_System_isCover_P
  have gf := gs_facts hg
  have cl := rising_len hc (by omega)
  have ca := fun k => rising_at hc k
  have lt := covTo_lt hg hc
  have p8 := pow8 (n := Size.toNat) (by omega)
  refine ⟨rfl, ?_, ?_, ?_⟩
  · refine i_System_covered_pc Size Sets Costs choice ?_ ?_
    · first | omega | rfl | (intro hg; simp only [nrmT] at hg; omega) | (intro g1 g2; simp [g1, g2]; done) | (intro g1; simp at g1 ⊢; simp [g1]; done) | (simp only [nrmT] at *; omega) | (simp at * <;> omega) | (simp_all <;> omega) | (simp_all; done)
    · first | omega | rfl | (intro hg; simp only [nrmT] at hg; omega) | (intro g1 g2; simp [g1, g2]; done) | (intro g1; simp at g1 ⊢; simp [g1]; done) | (simp only [nrmT] at *; omega) | (simp at * <;> omega) | (simp_all <;> omega) | (simp_all; done)
  · refine i_System_all_pc Size Sets Costs ?_
    · omega
  · have h1 := covTo_lt hg hc choice.length (Nat.le_refl _)
    have h2 := all_bits h1
    unfold coverB
    rw [← allTo_congr (p := fun x => (covTo Sets choice choice.length).testBit x) (q := covB Sets choice) (fun x _ => covN_bit hg hc x), Bool.eq_iff_iff, ← h2]
    simp only [beq_iff_eq]
    omega
theorem i_System_isCover_pc (Size : Int) (Sets : List (List Int)) (Costs : List Int) (choice : List Int) (hg : goodSys Size Sets Costs = true) (hc : rising choice 0 ((Sets.length : Int) - 1) = true) : PC Try.prog 124 [.agg [.int .i64 Size, .sl (.rows Sets), .sl (.ints Costs)], .sl (.ints choice)] (.one (.d (.bool (coverB Size Sets choice)))) :=
  pc_wf @Try.call124 fun hw => pc_by (by kernel_rfl) Try.func124 @Try.call124 (by kernel_rfl) i_System_isCover_C (i_System_isCover_A Size Sets Costs choice) (by kernel_rfl) (i_System_isCover_vc Size Sets Costs choice hg hc hw.1.2.1.1 hw.1.2.1.2 hw.1.2.2.1 hw.2.1) (by kernel_rfl)
def i_System_isCover_orc : List D → Orc := orcN [none, some .ints] fun ds => match ds with
  | [.agg [.int .i64 Size, .sl (.rows Sets), .sl (.ints Costs)], .sl (.ints choice)] => some (.one (.d (.bool (coverB Size Sets choice))))
  | _ => none

def i_IsCover_C (f : FuncId) (ds : List D) : Orc := bif Nat.beq f 109 then i_isChoice_orc ds else bif Nat.beq f 124 then i_System_isCover_orc ds else .no
def i_IsCover_A (Size : Int) (Sets : List (List Int)) (Costs : List Int) (choice : List Int) : Ann := .none
def i_IsCover_P (Size : Int) (Sets : List (List Int)) (Costs : List Int) (choice : List Int) : Prop :=
  (PC Try.prog 109 [.agg [.int .i64 Size, .sl (.rows Sets), .sl (.ints Costs)], .sl (.ints choice)] (.one (.d (.bool (goodSys Size Sets Costs && rising choice 0 ((Sets.length : Int) - 1)))))) ∧ (((!(goodSys Size Sets Costs && rising choice 0 ((Sets.length : Int) - 1))) = true → ((false = ((goodSys Size Sets Costs && rising choice 0 ((Sets.length : Int) - 1)) && coverB Size Sets choice)) ∧ (false = (goodSys Size Sets Costs && rising choice 0 ((Sets.length : Int) - 1))))) ∧ ((!(goodSys Size Sets Costs && rising choice 0 ((Sets.length : Int) - 1))) = false → (PC Try.prog 124 [.agg [.int .i64 Size, .sl (.rows Sets), .sl (.ints Costs)], .sl (.ints choice)] (.one (.d (.bool (coverB Size Sets choice))))) ∧ (((coverB Size Sets choice) = ((goodSys Size Sets Costs && rising choice 0 ((Sets.length : Int) - 1)) && coverB Size Sets choice)) ∧ (true = (goodSys Size Sets Costs && rising choice 0 ((Sets.length : Int) - 1))))))
theorem i_IsCover_vc (Size : Int) (Sets : List (List Int)) (Costs : List Int) (choice : List Int)  (w_Sets : (Sets.length : Int) ≤ 9223372036854775807) (v_Sets : ∀ x9 ∈ Sets, (x9.length : Int) ≤ 9223372036854775807) (w_Costs : (Costs.length : Int) ≤ 9223372036854775807) (w_choice : (choice.length : Int) ≤ 9223372036854775807) : i_IsCover_P Size Sets Costs choice := by
  unfold i_IsCover_P
  refine ⟨i_isChoice_pc Size Sets Costs choice, ?_, ?_⟩
  · intro b1
    try simp only [Bool.not_eq_true', Bool.not_eq_false', Bool.not_not] at b1
    refine ⟨?_, ?_⟩
    · have hq : (goodSys Size Sets Costs && rising choice 0 ((Sets.length : Int) - 1)) = false := by
        revert b1; cases goodSys Size Sets Costs <;> cases rising choice 0 ((Sets.length : Int) - 1) <;> simp
      rw [hq]; rfl
    · have hq : (goodSys Size Sets Costs && rising choice 0 ((Sets.length : Int) - 1)) = false := by
        revert b1; cases goodSys Size Sets Costs <;> cases rising choice 0 ((Sets.length : Int) - 1) <;> simp
      exact hq.symm
  · intro b2
    try simp only [Bool.not_eq_true', Bool.not_eq_false', Bool.not_not] at b2
    refine ⟨?_, ?_, ?_⟩
    · refine i_System_isCover_pc Size Sets Costs choice ?_ ?_
      · have hq : goodSys Size Sets Costs = true ∧ rising choice 0 ((Sets.length : Int) - 1) = true := by
          revert b2; cases goodSys Size Sets Costs <;> cases rising choice 0 ((Sets.length : Int) - 1) <;> simp
        exact hq.1
      · have hq : goodSys Size Sets Costs = true ∧ rising choice 0 ((Sets.length : Int) - 1) = true := by
          revert b2; cases goodSys Size Sets Costs <;> cases rising choice 0 ((Sets.length : Int) - 1) <;> simp
        exact hq.2
    · have hq : goodSys Size Sets Costs = true ∧ rising choice 0 ((Sets.length : Int) - 1) = true := by
        revert b2; cases goodSys Size Sets Costs <;> cases rising choice 0 ((Sets.length : Int) - 1) <;> simp
      rw [hq.1, hq.2]; rfl
    · have hq : goodSys Size Sets Costs = true ∧ rising choice 0 ((Sets.length : Int) - 1) = true := by
        revert b2; cases goodSys Size Sets Costs <;> cases rising choice 0 ((Sets.length : Int) - 1) <;> simp
      rw [hq.1, hq.2]; rfl
theorem i_IsCover_pc (Size : Int) (Sets : List (List Int)) (Costs : List Int) (choice : List Int)  : PC Try.prog 61 [.agg [.int .i64 Size, .sl (.rows Sets), .sl (.ints Costs)], .sl (.ints choice)] (.tup [.d (.bool ((goodSys Size Sets Costs && rising choice 0 ((Sets.length : Int) - 1)) && coverB Size Sets choice)), .d (.bool (goodSys Size Sets Costs && rising choice 0 ((Sets.length : Int) - 1)))]) :=
  pc_wf @Try.call61 fun hw => pc_by (by kernel_rfl) Try.func61 @Try.call61 (by kernel_rfl) i_IsCover_C (i_IsCover_A Size Sets Costs choice) (by kernel_rfl) (i_IsCover_vc Size Sets Costs choice hw.1.2.1.1 hw.1.2.1.2 hw.1.2.2.1 hw.2.1) (by kernel_rfl)
def i_IsCover_orc : List D → Orc := orcN [none, some .ints] fun ds => match ds with
  | [.agg [.int .i64 Size, .sl (.rows Sets), .sl (.ints Costs)], .sl (.ints choice)] => some (.tup [.d (.bool ((goodSys Size Sets Costs && rising choice 0 ((Sets.length : Int) - 1)) && coverB Size Sets choice)), .d (.bool (goodSys Size Sets Costs && rising choice 0 ((Sets.length : Int) - 1)))])
  | _ => none

abbrev s_l1Put_JJ0 (l : List Int) (n : Int) (k : Int) : Prop := (0 ≤ k) ∧ (k ≤ (l.length : Int)) ∧ (∀ j, j < k.toNat → l.getD j 0 < n)
abbrev s_l1Put_mJ0 (l : List Int) (n : Int) (k : Int) : Nat := (l.length - k).toNat
def s_l1Put_C (f : FuncId) (ds : List D) : Orc := .no
def s_l1Put_A (l : List Int) (n : Int) : Ann := .two (.none) (.two (.none) (.two (.loop (cut1 (fun (k : Int) => s_l1Put_JJ0 l n k) (fun (k : Int) => [(0, .d true (.sl (.ints l))), (1, .d false (.int .i64 n)), (5, .d true (.int .i64 k))]) (fun (k : Int) => [])) (fun g => s_l1Put_mJ0 l n g) (fun _ => .none)) (.two (.none) (.two (.reg [(6, .frz)]) (.none)))))
def s_l1Put_P (l : List Int) (n : Int) : Prop :=
  ((∃ k' : Int, (s_l1Put_JJ0 l n k') ∧ (l = l) ∧ (n = n) ∧ ((0 : Int) = k')) ∧ (∀ k : Int, (s_l1Put_JJ0 l n k) → ((decide (k < (l.length : Int))) = true → (decide (k < (l.length : Int))) = true) ∧ ((decide (k < (l.length : Int))) = true → (decide (k < (l.length : Int))) = true) ∧ (((decide (k < (l.length : Int))) = true → (0 : Int) ≤ k)) ∧ (((decide (k < (l.length : Int))) = true → (k : Int) < l.length)) ∧ ((decide (k < (l.length : Int))) = true → (decide (k < (l.length : Int))) = true) ∧ (((decide (k < (l.length : Int))) = true → k.toNat < l.length)) ∧ ((decide (k < (l.length : Int))) = true → (decide (k < (l.length : Int))) = true) ∧ ((decide (k < (l.length : Int))) = true → (decide (k < (l.length : Int))) = true) ∧ (true = true) ∧ (((decide (k < (l.length : Int))) = true → (decide (k < (l.length : Int))) = true)) ∧ (((decide (k < (l.length : Int))) = false → true = true)) ∧ (((cond (decide (k < (l.length : Int))) (decide ((l.getD k.toNat 0) < n)) false) = true → (-9223372036854775808 ≤ (k + 1) ∧ (k + 1) ≤ 9223372036854775807) ∧ (∃ k' : Int, (s_l1Put_JJ0 l n k') ∧ (s_l1Put_mJ0 l n k' < s_l1Put_mJ0 l n k) ∧ (l = l) ∧ (n = n) ∧ ((k + 1) = k'))) ∧ ((cond (decide (k < (l.length : Int))) (decide ((l.getD k.toNat 0) < n)) false) = false → ((decide (k < (l.length : Int))) = true → (decide (k < (l.length : Int))) = true) ∧ ((decide (k < (l.length : Int))) = true → (decide (k < (l.length : Int))) = true) ∧ (((decide (k < (l.length : Int))) = true → (0 : Int) ≤ k)) ∧ (((decide (k < (l.length : Int))) = true → (k : Int) < l.length)) ∧ ((decide (k < (l.length : Int))) = true → (decide (k < (l.length : Int))) = true) ∧ (((decide (k < (l.length : Int))) = true → k.toNat < l.length)) ∧ ((decide (k < (l.length : Int))) = true → (decide (k < (l.length : Int))) = true) ∧ ((decide (k < (l.length : Int))) = true → (decide (k < (l.length : Int))) = true) ∧ (true = true) ∧ (((decide (k < (l.length : Int))) = true → (decide (k < (l.length : Int))) = true)) ∧ (((decide (k < (l.length : Int))) = false → true = true)) ∧ (((cond (decide (k < (l.length : Int))) ((l.getD k.toNat 0) == n) false) = true → (((l : List Int) = (putL l n)))) ∧ ((cond (decide (k < (l.length : Int))) ((l.getD k.toNat 0) == n) false) = false → (true = true) ∧ ((0 : Int) ≤ k) ∧ ((k : Int) ≤ l.length) ∧ ((0 : Nat) = 0) ∧ (True) ∧ ((0 + ((l.take k.toNat).drop 0).length) * 8 ≤ 140737488355328) ∧ ((0 + ((l.take k.toNat).drop 0).length) = ([] ++ ((l.take k.toNat).drop 0)).length) ∧ (True) ∧ ((([] ++ ((l.take k.toNat).drop 0)).length + 1) * 8 ≤ 140737488355328) ∧ ((0 : Int) ≤ k) ∧ ((k : Int) ≤ l.length) ∧ (((0 + ((l.take k.toNat).drop 0).length) + 1) = (([] ++ ((l.take k.toNat).drop 0)) ++ [n]).length) ∧ (True) ∧ (((([] ++ ((l.take k.toNat).drop 0)) ++ [n]).length + ((l.take l.length).drop k.toNat).length) * 8 ≤ 140737488355328) ∧ (((((0 + ((l.take k.toNat).drop 0).length) + 1) + ((l.take l.length).drop k.toNat).length) = ((([] ++ ((l.take k.toNat).drop 0)) ++ [n]) ++ ((l.take l.length).drop k.toNat)).length) ∧ ((((([] ++ ((l.take k.toNat).drop 0)) ++ [n]) ++ ((l.take l.length).drop k.toNat)) : List Int) = (putL l n)))))))))
theorem s_l1Put_vc (l : List Int) (n : Int) (hl : l.length ≤ 1048576) (w_l : (l.length : Int) ≤ 9223372036854775807) : s_l1Put_P l n := by
  unfold s_l1Put_P
  refine ⟨?_, ?_⟩
  · refine ⟨0, ?_⟩
    refine ⟨?_, rfl, rfl, rfl⟩
    · refine ⟨?_, ?_, ?_⟩
      · first | omega | rfl | (intro hg; simp only [nrmT] at hg; omega) | (intro g1 g2; simp [g1, g2]; done) | (intro g1; simp at g1 ⊢; simp [g1]; done) | (simp only [nrmT] at *; omega) | (simp at * <;> omega) | (simp_all <;> omega) | (simp_all; done)
      · first | omega | rfl | (intro hg; simp only [nrmT] at hg; omega) | (intro g1 g2; simp [g1, g2]; done) | (intro g1; simp at g1 ⊢; simp [g1]; done) | (simp only [nrmT] at *; omega) | (simp at * <;> omega) | (simp_all <;> omega) | (simp_all; done)
      · first | omega | rfl | (intro hg; simp only [nrmT] at hg; omega) | (intro g1 g2; simp [g1, g2]; done) | (intro g1; simp at g1 ⊢; simp [g1]; done) | (simp only [nrmT] at *; omega) | (simp at * <;> omega) | (simp_all <;> omega) | (simp_all; done)
  · intro k hJ
    obtain ⟨h1, h2, h3⟩ := hJ
    refine ⟨id, id, ?_, ?_, id, ?_, id, id, rfl, id, fun _ => rfl, ?_, ?_⟩
    · first | omega | rfl | (intro hg; simp only [nrmT] at hg; omega) | (intro g1 g2; simp [g1, g2]; done) | (intro g1; simp at g1 ⊢; simp [g1]; done) | (simp only [nrmT] at *; omega) | (simp at * <;> omega) | (simp_all <;> omega) | (simp_all; done)
    · first | omega | rfl | (intro hg; simp only [nrmT] at hg; omega) | (intro g1 g2; simp [g1, g2]; done) | (intro g1; simp at g1 ⊢; simp [g1]; done) | (simp only [nrmT] at *; omega) | (simp at * <;> omega) | (simp_all <;> omega) | (simp_all; done)
    · first | omega | rfl | (intro hg; simp only [nrmT] at hg; omega) | (intro g1 g2; simp [g1, g2]; done) | (intro g1; simp at g1 ⊢; simp [g1]; done) | (simp only [nrmT] at *; omega) | (simp at * <;> omega) | (simp_all <;> omega) | (simp_all; done)
    · intro b1
      refine ⟨?_, ?_⟩
      · have h5 : k < (l.length : Int) ∧ l.getD k.toNat 0 < n := by
          revert b1; by_cases h : k < (l.length : Int)
          · rw [decide_eq_true h]; intro g; exact ⟨h, by simpa using g⟩
          · rw [decide_eq_false h]; intro g; cases g
        omega
      · refine ⟨(k + 1), ?_⟩
        refine ⟨?_, ?_, rfl, rfl, rfl⟩
        · refine ⟨?_, ?_, ?_⟩
          · omega
          · have h5 : k < (l.length : Int) ∧ l.getD k.toNat 0 < n := by
              revert b1; by_cases h : k < (l.length : Int)
              · rw [decide_eq_true h]; intro g; exact ⟨h, by simpa using g⟩
              · rw [decide_eq_false h]; intro g; cases g
            omega
          · have h5 : k < (l.length : Int) ∧ l.getD k.toNat 0 < n := by
              revert b1; by_cases h : k < (l.length : Int)
              · rw [decide_eq_true h]; intro g; exact ⟨h, by simpa using g⟩
              · rw [decide_eq_false h]; intro g; cases g
            intro j hj
            by_cases e : j = k.toNat
            · rw [e]; exact h5.2
            · exact h3 j (by omega)
        · have h5 : k < (l.length : Int) ∧ l.getD k.toNat 0 < n := by
            revert b1; by_cases h : k < (l.length : Int)
            · rw [decide_eq_true h]; intro g; exact ⟨h, by simpa using g⟩
            · rw [decide_eq_false h]; intro g; cases g
          first | (show _ < _; omega) | (simp only [s_l1Put_mJ0]; omega) | (simp only [s_l1Put_mJ0] at *; simp at *; omega)
    · intro b2
      refine ⟨id, id, ?_, ?_, id, ?_, id, id, rfl, id, fun _ => rfl, ?_, ?_⟩
      · first | omega | rfl | (intro hg; simp only [nrmT] at hg; omega) | (intro g1 g2; simp [g1, g2]; done) | (intro g1; simp at g1 ⊢; simp [g1]; done) | (simp only [nrmT] at *; omega) | (simp at * <;> omega) | (simp_all <;> omega) | (simp_all; done)
      · first | omega | rfl | (intro hg; simp only [nrmT] at hg; omega) | (intro g1 g2; simp [g1, g2]; done) | (intro g1; simp at g1 ⊢; simp [g1]; done) | (simp only [nrmT] at *; omega) | (simp at * <;> omega) | (simp_all <;> omega) | (simp_all; done)
      · first | omega | rfl | (intro hg; simp only [nrmT] at hg; omega) | (intro g1 g2; simp [g1, g2]; done) | (intro g1; simp at g1 ⊢; simp [g1]; done) | (simp only [nrmT] at *; omega) | (simp at * <;> omega) | (simp_all <;> omega) | (simp_all; done)
      · intro b3
        have h6 : k.toNat < l.length → ¬ l.getD k.toNat 0 < n := by
          intro g1 g2
          rw [decide_eq_true (show k < (l.length : Int) by omega), decide_eq_true g2] at b2
          cases b2
        have h7 : k < (l.length : Int) ∧ l.getD k.toNat 0 = n := by
          revert b3; by_cases h : k < (l.length : Int)
          · rw [decide_eq_true h]; intro g; exact ⟨h, by simpa using g⟩
          · rw [decide_eq_false h]; intro g; cases g
        rw [putL_at l n k.toNat (by omega) h3 h6, if_pos ⟨by omega, h7.2⟩]
      · intro b4
        refine ⟨rfl, ?_, ?_, rfl, trivial, ?_, ?_, trivial, ?_, ?_, ?_, ?_, trivial, ?_, ?_, ?_⟩
        · first | omega | rfl | (intro hg; simp only [nrmT] at hg; omega) | (intro g1 g2; simp [g1, g2]; done) | (intro g1; simp at g1 ⊢; simp [g1]; done) | (simp only [nrmT] at *; omega) | (simp at * <;> omega) | (simp_all <;> omega) | (simp_all; done)
        · first | omega | rfl | (intro hg; simp only [nrmT] at hg; omega) | (intro g1 g2; simp [g1, g2]; done) | (intro g1; simp at g1 ⊢; simp [g1]; done) | (simp only [nrmT] at *; omega) | (simp at * <;> omega) | (simp_all <;> omega) | (simp_all; done)
        · first | (simp only [List.length_append, List.length_take, List.length_drop, List.length_cons, List.length_nil]; done) | (simp only [List.length_append, List.length_take, List.length_drop, List.length_cons, List.length_nil]; omega)
        · first | (simp only [List.length_append, List.length_take, List.length_drop, List.length_cons, List.length_nil]; done) | (simp only [List.length_append, List.length_take, List.length_drop, List.length_cons, List.length_nil]; omega)
        · first | (simp only [List.length_append, List.length_take, List.length_drop, List.length_cons, List.length_nil]; done) | (simp only [List.length_append, List.length_take, List.length_drop, List.length_cons, List.length_nil]; omega)
        · first | omega | rfl | (intro hg; simp only [nrmT] at hg; omega) | (intro g1 g2; simp [g1, g2]; done) | (intro g1; simp at g1 ⊢; simp [g1]; done) | (simp only [nrmT] at *; omega) | (simp at * <;> omega) | (simp_all <;> omega) | (simp_all; done)
        · first | omega | rfl | (intro hg; simp only [nrmT] at hg; omega) | (intro g1 g2; simp [g1, g2]; done) | (intro g1; simp at g1 ⊢; simp [g1]; done) | (simp only [nrmT] at *; omega) | (simp at * <;> omega) | (simp_all <;> omega) | (simp_all; done)
        · first | (simp only [List.length_append, List.length_take, List.length_drop, List.length_cons, List.length_nil]; done) | (simp only [List.length_append, List.length_take, List.length_drop, List.length_cons, List.length_nil]; omega)
        · first | (simp only [List.length_append, List.length_take, List.length_drop, List.length_cons, List.length_nil]; done) | (simp only [List.length_append, List.length_take, List.length_drop, List.length_cons, List.length_nil]; omega)
        · first | (simp only [List.length_append, List.length_take, List.length_drop, List.length_cons, List.length_nil]; done) | (simp only [List.length_append, List.length_take, List.length_drop, List.length_cons, List.length_nil]; omega)
        · have h6 : k.toNat < l.length → ¬ l.getD k.toNat 0 < n := by
            intro g1 g2
            rw [decide_eq_true (show k < (l.length : Int) by omega), decide_eq_true g2] at b2
            cases b2
          have h7 : ¬ (k.toNat < l.length ∧ l.getD k.toNat 0 = n) := by
            rintro ⟨g1, g2⟩
            rw [decide_eq_true (show k < (l.length : Int) by omega), g2] at b4
            simp at b4
          rw [putL_at l n k.toNat (by omega) h3 h6, if_neg h7]
          simp
theorem s_l1Put_pc (l : List Int) (n : Int) (hl : l.length ≤ 1048576) : PCs Try.prog 173 [.sl (.ints l), .int .i64 n] 0 (.sl (.ints (putL l n))) :=
  pcs_wf @Try.call173 fun hw => pcs_by (by kernel_rfl) Try.func173 @Try.call173 (by kernel_rfl) s_l1Put_C (s_l1Put_A l n) (by kernel_rfl) (s_l1Put_vc l n hl hw.1) (by kernel_rfl)
def s_l1Put_orc : List D → Orc := orcS 0 fun ds => match ds with
  | [.sl (.ints l), .int .i64 n] => some (.sl (.ints (putL l n)))
  | _ => none

theorem getD_get {α : Type} {xs : List α} {k : Nat} {d : α} (h : k < xs.length) : xs.getD k d = xs[k] := by simp [h]
def putAll (l set : List Int) (k : Nat) : List Int := foldTo (fun l j => putL l (set.getD j 0)) l k
def covL (Sets : List (List Int)) (choice : List Int) (i : Nat) : List Int := foldTo (fun l k => putAll l (Sets.getD (choice.getD k 0).toNat []) (Sets.getD (choice.getD k 0).toNat []).length) [] i
theorem mem_putAll {l set : List Int} {y : Int} : ∀ k, k ≤ set.length → (y ∈ putAll l set k ↔ y ∈ l ∨ ∃ j, j < k ∧ set.getD j 0 = y)
  | 0, _ => by simp [putAll, foldTo]
  | k + 1, hk => by
    have e : putAll l set (k + 1) = putL (putAll l set k) (set.getD k 0) := rfl
    rw [e, mem_putL, mem_putAll k (by omega)]
    constructor
    · rintro (h | h | ⟨j, h1, h2⟩)
      · exact .inr ⟨k, by omega, h.symm⟩
      · exact .inl h
      · exact .inr ⟨j, by omega, h2⟩
    · rintro (h | ⟨j, h1, h2⟩)
      · exact .inr (.inl h)
      · by_cases e : j = k
        · subst e; exact .inl h2.symm
        · exact .inr (.inr ⟨j, by omega, h2⟩)
theorem asc_putAll {l set : List Int} (h : Asc l) : ∀ k, Asc (putAll l set k)
  | 0 => h
  | k + 1 => asc_putL (asc_putAll h k)
theorem putAll_len {l set : List Int} : ∀ k, (putAll l set k).length ≤ l.length + k
  | 0 => Nat.le_refl _
  | k + 1 => by
    have := putAll_len (l := l) (set := set) k
    have := putL_len (putAll l set k) (set.getD k 0)
    have e : putAll l set (k + 1) = putL (putAll l set k) (set.getD k 0) := rfl
    rw [e]; omega
theorem mem_covL {Sets : List (List Int)} {choice : List Int} {y : Int} : ∀ i, y ∈ covL Sets choice i ↔ ∃ j, j < i ∧ y ∈ Sets.getD (choice.getD j 0).toNat []
  | 0 => by simp [covL, foldTo]
  | i + 1 => by
    have e : covL Sets choice (i + 1) = putAll (covL Sets choice i) (Sets.getD (choice.getD i 0).toNat []) (Sets.getD (choice.getD i 0).toNat []).length := rfl
    rw [e, mem_putAll _ (Nat.le_refl _), mem_covL i]
    constructor
    · rintro (⟨j, h1, h2⟩ | ⟨j, h1, h2⟩)
      · exact ⟨j, by omega, h2⟩
      · exact ⟨i, by omega, by rw [← h2]; exact getD_mem h1⟩
    · rintro ⟨j, h1, h2⟩
      by_cases e : j = i
      · subst e
        obtain ⟨k, hk, h3⟩ := List.mem_iff_getElem.1 h2
        exact .inr ⟨k, hk, by rw [← h3]; exact getD_get hk⟩
      · exact .inl ⟨j, by omega, h2⟩
theorem asc_covL {Sets : List (List Int)} {choice : List Int} : ∀ i, Asc (covL Sets choice i)
  | 0 => List.Pairwise.nil
  | i + 1 => asc_putAll (asc_covL i) _
theorem covL_members {Size : Int} {Sets : List (List Int)} {Costs choice : List Int} (h : goodSys Size Sets Costs = true) (hc : rising choice 0 ((Sets.length : Int) - 1) = true) : covL Sets choice choice.length = members (covB Sets choice) Size.toNat := by
  refine asc_ext (asc_covL _) (asc_members _ _) fun x => ?_
  rw [mem_covL, mem_members]
  constructor
  · rintro ⟨j, h1, h2⟩
    have h3 := rising_at hc j h1
    have h4 := set_memS h (k := (choice.getD j 0).toNat) (by omega) x h2
    refine ⟨h4.1, h4.2, covB_iff.2 ⟨j, h1, ?_⟩⟩
    rwa [show ((x.toNat : Nat) : Int) = x by omega]
  · rintro ⟨h1, h2, h3⟩
    obtain ⟨j, h4, h5⟩ := covB_iff.1 h3
    exact ⟨j, h4, by rwa [show ((x.toNat : Nat) : Int) = x by omega] at h5⟩

abbrev s_l6Covered_JJ0 (Size : Int) (Sets : List (List Int)) (Costs : List Int) (choice : List Int) (out : List Int) (i : Int) : Prop := (0 ≤ i) ∧ (i ≤ (choice.length : Int)) ∧ (out = covL Sets choice i.toNat) ∧ ((out.length : Int) ≤ 8 * i)
abbrev s_l6Covered_mJ0 (Size : Int) (Sets : List (List Int)) (Costs : List Int) (choice : List Int) (out : List Int) (i : Int) : Nat := (choice.length - i).toNat
abbrev s_l6Covered_JJ1 (Size : Int) (Sets : List (List Int)) (Costs : List Int) (choice : List Int) (out : List Int) (i : Int) (out1 : List Int) (k : Int) : Prop := (0 ≤ k) ∧ (k ≤ ((Sets.getD (choice.getD i.toNat 0).toNat []).length : Int)) ∧ (out1 = putAll out (Sets.getD (choice.getD i.toNat 0).toNat []) k.toNat) ∧ ((out1.length : Int) ≤ 8 * i + k)
abbrev s_l6Covered_mJ1 (Size : Int) (Sets : List (List Int)) (Costs : List Int) (choice : List Int) (out : List Int) (i : Int) (out1 : List Int) (k : Int) : Nat := ((Sets.getD (choice.getD i.toNat 0).toNat []).length - k).toNat
def s_l6Covered_C (f : FuncId) (ds : List D) : Orc := bif Nat.beq f 173 then s_l1Put_orc ds else .no
def s_l6Covered_A (Size : Int) (Sets : List (List Int)) (Costs : List Int) (choice : List Int) : Ann := .two (.none) (.two (.reg [(0, .frz)]) (.two (.two (.none) (.loop (cut2 (fun (out : List Int) (i : Int) => s_l6Covered_JJ0 Size Sets Costs choice out i) (fun (out : List Int) (i : Int) => [(1, .d false (.sl (.ints choice))), (2, .ptr 2 0), (5, .d true (.sl (.ints out))), (6, .d true (.int .i64 i))]) (fun (out : List Int) (i : Int) => [(2, .box 31 [.d false (.int .i64 Size), .d false (.sl (.rows Sets)), .d false (.sl (.ints Costs))])])) (fun g => s_l6Covered_mJ0 Size Sets Costs choice g.1 g.2) (fun g => (fun (out : List Int) (i : Int) => .two (.none) (.two (.two (.none) (.two (.none) (.loop (cut2 (fun (out1 : List Int) (k : Int) => s_l6Covered_JJ1 Size Sets Costs choice out i out1 k) (fun (out1 : List Int) (k : Int) => [(1, .d false (.sl (.ints choice))), (2, .ptr 2 0), (5, .d true (.sl (.ints out1))), (6, .d true (.int .i64 i)), (7, .d false (.sl (.ints (Sets.getD ((choice.getD i.toNat 0).toNat) [])))), (8, .d true (.int .i64 k))]) (fun (out1 : List Int) (k : Int) => [(2, .box 31 [.d false (.int .i64 Size), .d false (.sl (.rows Sets)), .d false (.sl (.ints Costs))])])) (fun g => s_l6Covered_mJ1 Size Sets Costs choice out i g.1 g.2) (fun _ => .none)))) (.none))) (g.1) (g.2)))) (.none)))
def s_l6Covered_P (Size : Int) (Sets : List (List Int)) (Costs : List Int) (choice : List Int) : Prop :=
  ((∃ out' : List Int, ∃ i' : Int, (s_l6Covered_JJ0 Size Sets Costs choice out' i') ∧ (choice = choice) ∧ ([] = out') ∧ ((0 : Int) = i') ∧ (Size = Size) ∧ (Sets = Sets) ∧ (Costs = Costs)) ∧ (∀ out : List Int, ∀ i : Int, (s_l6Covered_JJ0 Size Sets Costs choice out i) → (((decide (i < (choice.length : Int))) = true → (true = true) ∧ ((0 : Int) ≤ i) ∧ ((i : Int) < choice.length) ∧ (i.toNat < choice.length) ∧ ((0 : Int) ≤ (choice.getD i.toNat 0)) ∧ (((choice.getD i.toNat 0) : Int) < Sets.length) ∧ ((choice.getD i.toNat 0).toNat < Sets.length) ∧ ((∃ out1' : List Int, ∃ k' : Int, (s_l6Covered_JJ1 Size Sets Costs choice out i out1' k') ∧ (choice = choice) ∧ (out = out1') ∧ (i = i) ∧ ((Sets.getD ((choice.getD i.toNat 0).toNat) []) = (Sets.getD ((choice.getD i.toNat 0).toNat) [])) ∧ ((0 : Int) = k') ∧ (Size = Size) ∧ (Sets = Sets) ∧ (Costs = Costs)) ∧ (∀ out1 : List Int, ∀ k : Int, (s_l6Covered_JJ1 Size Sets Costs choice out i out1 k) → (((decide (k < (((Sets.getD ((choice.getD i.toNat 0).toNat) []).length) : Int))) = true → ((0 : Int) ≤ k) ∧ ((k : Int) < (Sets.getD ((choice.getD i.toNat 0).toNat) []).length) ∧ (k.toNat < (Sets.getD ((choice.getD i.toNat 0).toNat) []).length) ∧ (PCs Try.prog 173 [.sl (.ints out1), .int .i64 ((Sets.getD ((choice.getD i.toNat 0).toNat) []).getD k.toNat 0)] 0 (.sl (.ints (putL out1 ((Sets.getD ((choice.getD i.toNat 0).toNat) []).getD k.toNat 0))))) ∧ (-9223372036854775808 ≤ (k + 1) ∧ (k + 1) ≤ 9223372036854775807) ∧ (∃ out1' : List Int, ∃ k' : Int, (s_l6Covered_JJ1 Size Sets Costs choice out i out1' k') ∧ (s_l6Covered_mJ1 Size Sets Costs choice out i out1' k' < s_l6Covered_mJ1 Size Sets Costs choice out i out1 k) ∧ (choice = choice) ∧ ((putL out1 ((Sets.getD ((choice.getD i.toNat 0).toNat) []).getD k.toNat 0)) = out1') ∧ (i = i) ∧ ((Sets.getD ((choice.getD i.toNat 0).toNat) []) = (Sets.getD ((choice.getD i.toNat 0).toNat) [])) ∧ ((k + 1) = k') ∧ (Size = Size) ∧ (Sets = Sets) ∧ (Costs = Costs))) ∧ ((decide (k < (((Sets.getD ((choice.getD i.toNat 0).toNat) []).length) : Int))) = false → (-9223372036854775808 ≤ (i + 1) ∧ (i + 1) ≤ 9223372036854775807) ∧ (∃ out' : List Int, ∃ i' : Int, (s_l6Covered_JJ0 Size Sets Costs choice out' i') ∧ (s_l6Covered_mJ0 Size Sets Costs choice out' i' < s_l6Covered_mJ0 Size Sets Costs choice out i) ∧ (choice = choice) ∧ (out1 = out') ∧ ((i + 1) = i') ∧ (Size = Size) ∧ (Sets = Sets) ∧ (Costs = Costs))))))) ∧ ((decide (i < (choice.length : Int))) = false → (((out : List Int) = (covL Sets choice choice.length)))))))
theorem s_l6Covered_vc (Size : Int) (Sets : List (List Int)) (Costs : List Int) (choice : List Int) (hg : goodSys Size Sets Costs = true) (hc : rising choice 0 ((Sets.length : Int) - 1) = true) (w_Sets : (Sets.length : Int) ≤ 9223372036854775807) (v_Sets : ∀ x9 ∈ Sets, (x9.length : Int) ≤ 9223372036854775807) (w_Costs : (Costs.length : Int) ≤ 9223372036854775807) (w_choice : (choice.length : Int) ≤ 9223372036854775807) : s_l6Covered_P Size Sets Costs choice := by
  unfold s_l6Covered_P
  have gf := gs_facts hg
  have cl := rising_len hc (by omega)
  have ca := fun k => rising_at hc k
  have sl := fun (k : Nat) (hk : k < Sets.length) => rising_len (gs_set hg hk) (by omega)
  refine ⟨?_, ?_⟩
  · refine ⟨([]), 0, ?_⟩
    refine ⟨?_, rfl, ?_, rfl, rfl, rfl, rfl⟩
    · refine ⟨?_, ?_, ?_, ?_⟩
      · first | omega | rfl | (intro hg; simp only [nrmT] at hg; omega) | (intro g1 g2; simp [g1, g2]; done) | (intro g1; simp at g1 ⊢; simp [g1]; done) | (simp only [nrmT] at *; omega) | (simp at * <;> omega) | (simp_all <;> omega) | (simp_all; done)
      · first | omega | rfl | (intro hg; simp only [nrmT] at hg; omega) | (intro g1 g2; simp [g1, g2]; done) | (intro g1; simp at g1 ⊢; simp [g1]; done) | (simp only [nrmT] at *; omega) | (simp at * <;> omega) | (simp_all <;> omega) | (simp_all; done)
      · first | omega | rfl | (intro hg; simp only [nrmT] at hg; omega) | (intro g1 g2; simp [g1, g2]; done) | (intro g1; simp at g1 ⊢; simp [g1]; done) | (simp only [nrmT] at *; omega) | (simp at * <;> omega) | (simp_all <;> omega) | (simp_all; done)
      · first | omega | rfl | (intro hg; simp only [nrmT] at hg; omega) | (intro g1 g2; simp [g1, g2]; done) | (intro g1; simp at g1 ⊢; simp [g1]; done) | (simp only [nrmT] at *; omega) | (simp at * <;> omega) | (simp_all <;> omega) | (simp_all; done)
    · first | omega | rfl | (intro hg; simp only [nrmT] at hg; omega) | (intro g1 g2; simp [g1, g2]; done) | (intro g1; simp at g1 ⊢; simp [g1]; done) | (simp only [nrmT] at *; omega) | (simp at * <;> omega) | (simp_all <;> omega) | (simp_all; done)
  · intro out i hJ
    obtain ⟨h1, h2, h3, h3l⟩ := hJ
    refine ⟨?_, ?_⟩
    · intro b1
      try simp only [nrmT] at b1
      refine ⟨rfl, ?_, ?_, ?_, ?_, ?_, ?_, ?_, ?_⟩
      · first | omega | rfl | (intro hg; simp only [nrmT] at hg; omega) | (intro g1 g2; simp [g1, g2]; done) | (intro g1; simp at g1 ⊢; simp [g1]; done) | (simp only [nrmT] at *; omega) | (simp at * <;> omega) | (simp_all <;> omega) | (simp_all; done)
      · first | omega | rfl | (intro hg; simp only [nrmT] at hg; omega) | (intro g1 g2; simp [g1, g2]; done) | (intro g1; simp at g1 ⊢; simp [g1]; done) | (simp only [nrmT] at *; omega) | (simp at * <;> omega) | (simp_all <;> omega) | (simp_all; done)
      · first | omega | rfl | (intro hg; simp only [nrmT] at hg; omega) | (intro g1 g2; simp [g1, g2]; done) | (intro g1; simp at g1 ⊢; simp [g1]; done) | (simp only [nrmT] at *; omega) | (simp at * <;> omega) | (simp_all <;> omega) | (simp_all; done)
      · have := ca i.toNat (by omega)
        omega
      · have := ca i.toNat (by omega)
        omega
      · have := ca i.toNat (by omega)
        omega
      · refine ⟨out, 0, ?_⟩
        refine ⟨?_, rfl, rfl, rfl, rfl, rfl, rfl, rfl, rfl⟩
        · refine ⟨?_, ?_, ?_, ?_⟩
          · first | omega | rfl | (intro hg; simp only [nrmT] at hg; omega) | (intro g1 g2; simp [g1, g2]; done) | (intro g1; simp at g1 ⊢; simp [g1]; done) | (simp only [nrmT] at *; omega) | (simp at * <;> omega) | (simp_all <;> omega) | (simp_all; done)
          · first | omega | rfl | (intro hg; simp only [nrmT] at hg; omega) | (intro g1 g2; simp [g1, g2]; done) | (intro g1; simp at g1 ⊢; simp [g1]; done) | (simp only [nrmT] at *; omega) | (simp at * <;> omega) | (simp_all <;> omega) | (simp_all; done)
          · first | omega | rfl | (intro hg; simp only [nrmT] at hg; omega) | (intro g1 g2; simp [g1, g2]; done) | (intro g1; simp at g1 ⊢; simp [g1]; done) | (simp only [nrmT] at *; omega) | (simp at * <;> omega) | (simp_all <;> omega) | (simp_all; done)
          · first | omega | rfl | (intro hg; simp only [nrmT] at hg; omega) | (intro g1 g2; simp [g1, g2]; done) | (intro g1; simp at g1 ⊢; simp [g1]; done) | (simp only [nrmT] at *; omega) | (simp at * <;> omega) | (simp_all <;> omega) | (simp_all; done)
      · intro out1 k hJ
        obtain ⟨h4, h5, h6, h6l⟩ := hJ
        refine ⟨?_, ?_⟩
        · intro b2
          try simp only [nrmT] at b2
          refine ⟨?_, ?_, ?_, ?_, ?_, ?_⟩
          · first | omega | rfl | (intro hg; simp only [nrmT] at hg; omega) | (intro g1 g2; simp [g1, g2]; done) | (intro g1; simp at g1 ⊢; simp [g1]; done) | (simp only [nrmT] at *; omega) | (simp at * <;> omega) | (simp_all <;> omega) | (simp_all; done)
          · first | omega | rfl | (intro hg; simp only [nrmT] at hg; omega) | (intro g1 g2; simp [g1, g2]; done) | (intro g1; simp at g1 ⊢; simp [g1]; done) | (simp only [nrmT] at *; omega) | (simp at * <;> omega) | (simp_all <;> omega) | (simp_all; done)
          · first | omega | rfl | (intro hg; simp only [nrmT] at hg; omega) | (intro g1 g2; simp [g1, g2]; done) | (intro g1; simp at g1 ⊢; simp [g1]; done) | (simp only [nrmT] at *; omega) | (simp at * <;> omega) | (simp_all <;> omega) | (simp_all; done)
          · refine s_l1Put_pc out1 ((Sets.getD ((choice.getD i.toNat 0).toNat) []).getD k.toNat 0) ?_
            · have h7 := ca i.toNat (by omega)
              have h8 := sl (choice.getD i.toNat 0).toNat (by omega)
              have h9 := putL_len out1 ((Sets.getD (choice.getD i.toNat 0).toNat []).getD k.toNat 0)
              omega
          · have h7 := ca i.toNat (by omega)
            have h8 := sl (choice.getD i.toNat 0).toNat (by omega)
            omega
          · refine ⟨(putL out1 ((Sets.getD ((choice.getD i.toNat 0).toNat) []).getD k.toNat 0)), (k + 1), ?_⟩
            refine ⟨?_, ?_, rfl, rfl, rfl, rfl, rfl, rfl, rfl, rfl⟩
            · refine ⟨?_, ?_, ?_, ?_⟩
              · first | omega | rfl | (intro hg; simp only [nrmT] at hg; omega) | (intro g1 g2; simp [g1, g2]; done) | (intro g1; simp at g1 ⊢; simp [g1]; done) | (simp only [nrmT] at *; omega) | (simp at * <;> omega) | (simp_all <;> omega) | (simp_all; done)
              · first | omega | rfl | (intro hg; simp only [nrmT] at hg; omega) | (intro g1 g2; simp [g1, g2]; done) | (intro g1; simp at g1 ⊢; simp [g1]; done) | (simp only [nrmT] at *; omega) | (simp at * <;> omega) | (simp_all <;> omega) | (simp_all; done)
              · rw [h6, show (k + 1).toNat = k.toNat + 1 by omega]; rfl
              · have h7 := ca i.toNat (by omega)
                have h8 := sl (choice.getD i.toNat 0).toNat (by omega)
                have h9 := putL_len out1 ((Sets.getD (choice.getD i.toNat 0).toNat []).getD k.toNat 0)
                omega
            · first | (show _ < _; omega) | (simp only [s_l6Covered_mJ1]; omega) | (simp only [s_l6Covered_mJ1] at *; simp at *; omega)
        · intro b3
          try simp only [nrmT] at b3
          refine ⟨?_, ?_⟩
          · first | omega | rfl | (intro hg; simp only [nrmT] at hg; omega) | (intro g1 g2; simp [g1, g2]; done) | (intro g1; simp at g1 ⊢; simp [g1]; done) | (simp only [nrmT] at *; omega) | (simp at * <;> omega) | (simp_all <;> omega) | (simp_all; done)
          · refine ⟨out1, (i + 1), ?_⟩
            refine ⟨?_, ?_, rfl, rfl, rfl, rfl, rfl, rfl⟩
            · refine ⟨?_, ?_, ?_, ?_⟩
              · first | omega | rfl | (intro hg; simp only [nrmT] at hg; omega) | (intro g1 g2; simp [g1, g2]; done) | (intro g1; simp at g1 ⊢; simp [g1]; done) | (simp only [nrmT] at *; omega) | (simp at * <;> omega) | (simp_all <;> omega) | (simp_all; done)
              · first | omega | rfl | (intro hg; simp only [nrmT] at hg; omega) | (intro g1 g2; simp [g1, g2]; done) | (intro g1; simp at g1 ⊢; simp [g1]; done) | (simp only [nrmT] at *; omega) | (simp at * <;> omega) | (simp_all <;> omega) | (simp_all; done)
              · rw [h6, h3, show (i + 1).toNat = i.toNat + 1 by omega, show k.toNat = (Sets.getD (choice.getD i.toNat 0).toNat []).length by omega]; rfl
              · have h7 := ca i.toNat (by omega)
                have h8 := sl (choice.getD i.toNat 0).toNat (by omega)
                omega
            · first | (show _ < _; omega) | (simp only [s_l6Covered_mJ0]; omega) | (simp only [s_l6Covered_mJ0] at *; simp at *; omega)
    · intro b4
      try simp only [nrmT] at b4
      rw [h3, show i.toNat = choice.length by omega]
theorem s_l6Covered_pc (Size : Int) (Sets : List (List Int)) (Costs : List Int) (choice : List Int) (hg : goodSys Size Sets Costs = true) (hc : rising choice 0 ((Sets.length : Int) - 1) = true) : PC Try.prog 136 [.agg [.int .i64 Size, .sl (.rows Sets), .sl (.ints Costs)], .sl (.ints choice)] (.one (.d (.sl (.ints (covL Sets choice choice.length))))) :=
  pc_wf @Try.call136 fun hw => pc_by (by kernel_rfl) Try.func136 @Try.call136 (by kernel_rfl) s_l6Covered_C (s_l6Covered_A Size Sets Costs choice) (by kernel_rfl) (s_l6Covered_vc Size Sets Costs choice hg hc hw.1.2.1.1 hw.1.2.1.2 hw.1.2.2.1 hw.2.1) (by kernel_rfl)
def s_l6Covered_orc : List D → Orc := orcN [none, some .ints] fun ds => match ds with
  | [.agg [.int .i64 Size, .sl (.rows Sets), .sl (.ints Costs)], .sl (.ints choice)] => some (.one (.d (.sl (.ints (covL Sets choice choice.length)))))
  | _ => none

def s_l6Cover_C (f : FuncId) (ds : List D) : Orc := bif Nat.beq f 136 then s_l6Covered_orc ds else .no
def s_l6Cover_A (Size : Int) (Sets : List (List Int)) (Costs : List Int) (choice : List Int) : Ann := .none
def s_l6Cover_P (Size : Int) (Sets : List (List Int)) (Costs : List Int) (choice : List Int) : Prop :=
  (true = true) ∧ (PC Try.prog 136 [.agg [.int .i64 Size, .sl (.rows Sets), .sl (.ints Costs)], .sl (.ints choice)] (.one (.d (.sl (.ints (covL Sets choice choice.length)))))) ∧ ((((((covL Sets choice choice.length).length) : Int) == Size) = (coverB Size Sets choice)))
theorem s_l6Cover_vc (Size : Int) (Sets : List (List Int)) (Costs : List Int) (choice : List Int) (hg : goodSys Size Sets Costs = true) (hc : rising choice 0 ((Sets.length : Int) - 1) = true) (w_Sets : (Sets.length : Int) ≤ 9223372036854775807) (v_Sets : ∀ x9 ∈ Sets, (x9.length : Int) ≤ 9223372036854775807) (w_Costs : (Costs.length : Int) ≤ 9223372036854775807) (w_choice : (choice.length : Int) ≤ 9223372036854775807) : s_l6Cover_P Size Sets Costs choice := by
  unfold s_l6Cover_P
  refine ⟨rfl, ?_, ?_⟩
  · refine s_l6Covered_pc Size Sets Costs choice ?_ ?_
    · first | omega | rfl | (intro hg; simp only [nrmT] at hg; omega) | (intro g1 g2; simp [g1, g2]; done) | (intro g1; simp at g1 ⊢; simp [g1]; done) | (simp only [nrmT] at *; omega) | (simp at * <;> omega) | (simp_all <;> omega) | (simp_all; done)
    · first | omega | rfl | (intro hg; simp only [nrmT] at hg; omega) | (intro g1 g2; simp [g1, g2]; done) | (intro g1; simp at g1 ⊢; simp [g1]; done) | (simp only [nrmT] at *; omega) | (simp at * <;> omega) | (simp_all <;> omega) | (simp_all; done)
  · rw [covL_members hg hc]
    have gf := gs_facts hg
    have h1 := members_full (covB Sets choice) Size.toNat
    unfold coverB
    rw [Bool.eq_iff_iff, ← h1, beq_iff_eq]
    omega
theorem s_l6Cover_pc (Size : Int) (Sets : List (List Int)) (Costs : List Int) (choice : List Int) (hg : goodSys Size Sets Costs = true) (hc : rising choice 0 ((Sets.length : Int) - 1) = true) : PC Try.prog 123 [.agg [.int .i64 Size, .sl (.rows Sets), .sl (.ints Costs)], .sl (.ints choice)] (.one (.d (.bool (coverB Size Sets choice)))) :=
  pc_wf @Try.call123 fun hw => pc_by (by kernel_rfl) Try.func123 @Try.call123 (by kernel_rfl) s_l6Cover_C (s_l6Cover_A Size Sets Costs choice) (by kernel_rfl) (s_l6Cover_vc Size Sets Costs choice hg hc hw.1.2.1.1 hw.1.2.1.2 hw.1.2.2.1 hw.2.1) (by kernel_rfl)
def s_l6Cover_orc : List D → Orc := orcN [none, some .ints] fun ds => match ds with
  | [.agg [.int .i64 Size, .sl (.rows Sets), .sl (.ints Costs)], .sl (.ints choice)] => some (.one (.d (.bool (coverB Size Sets choice))))
  | _ => none

def s_IsCover_C (f : FuncId) (ds : List D) : Orc := bif Nat.beq f 107 then s_l6Two_orc ds else bif Nat.beq f 123 then s_l6Cover_orc ds else .no
def s_IsCover_A (Size : Int) (Sets : List (List Int)) (Costs : List Int) (choice : List Int) : Ann := .none
def s_IsCover_P (Size : Int) (Sets : List (List Int)) (Costs : List Int) (choice : List Int) : Prop :=
  (PC Try.prog 107 [.agg [.int .i64 Size, .sl (.rows Sets), .sl (.ints Costs)], .sl (.ints choice)] (.one (.d (.bool (goodSys Size Sets Costs && rising choice 0 ((Sets.length : Int) - 1)))))) ∧ (((!(goodSys Size Sets Costs && rising choice 0 ((Sets.length : Int) - 1))) = true → ((false = ((goodSys Size Sets Costs && rising choice 0 ((Sets.length : Int) - 1)) && coverB Size Sets choice)) ∧ (false = (goodSys Size Sets Costs && rising choice 0 ((Sets.length : Int) - 1))))) ∧ ((!(goodSys Size Sets Costs && rising choice 0 ((Sets.length : Int) - 1))) = false → (PC Try.prog 123 [.agg [.int .i64 Size, .sl (.rows Sets), .sl (.ints Costs)], .sl (.ints choice)] (.one (.d (.bool (coverB Size Sets choice))))) ∧ (((coverB Size Sets choice) = ((goodSys Size Sets Costs && rising choice 0 ((Sets.length : Int) - 1)) && coverB Size Sets choice)) ∧ (true = (goodSys Size Sets Costs && rising choice 0 ((Sets.length : Int) - 1))))))
theorem s_IsCover_vc (Size : Int) (Sets : List (List Int)) (Costs : List Int) (choice : List Int)  (w_Sets : (Sets.length : Int) ≤ 9223372036854775807) (v_Sets : ∀ x9 ∈ Sets, (x9.length : Int) ≤ 9223372036854775807) (w_Costs : (Costs.length : Int) ≤ 9223372036854775807) (w_choice : (choice.length : Int) ≤ 9223372036854775807) : s_IsCover_P Size Sets Costs choice := by
  unfold s_IsCover_P
  refine ⟨s_l6Two_pc Size Sets Costs choice, ?_, ?_⟩
  · intro b1
    try simp only [Bool.not_eq_true', Bool.not_eq_false', Bool.not_not] at b1
    refine ⟨?_, ?_⟩
    · have hq : (goodSys Size Sets Costs && rising choice 0 ((Sets.length : Int) - 1)) = false := by
        revert b1; cases goodSys Size Sets Costs <;> cases rising choice 0 ((Sets.length : Int) - 1) <;> simp
      rw [hq]; rfl
    · have hq : (goodSys Size Sets Costs && rising choice 0 ((Sets.length : Int) - 1)) = false := by
        revert b1; cases goodSys Size Sets Costs <;> cases rising choice 0 ((Sets.length : Int) - 1) <;> simp
      exact hq.symm
  · intro b2
    try simp only [Bool.not_eq_true', Bool.not_eq_false', Bool.not_not] at b2
    refine ⟨?_, ?_, ?_⟩
    · refine s_l6Cover_pc Size Sets Costs choice ?_ ?_
      · have hq : goodSys Size Sets Costs = true ∧ rising choice 0 ((Sets.length : Int) - 1) = true := by
          revert b2; cases goodSys Size Sets Costs <;> cases rising choice 0 ((Sets.length : Int) - 1) <;> simp
        exact hq.1
      · have hq : goodSys Size Sets Costs = true ∧ rising choice 0 ((Sets.length : Int) - 1) = true := by
          revert b2; cases goodSys Size Sets Costs <;> cases rising choice 0 ((Sets.length : Int) - 1) <;> simp
        exact hq.2
    · have hq : goodSys Size Sets Costs = true ∧ rising choice 0 ((Sets.length : Int) - 1) = true := by
        revert b2; cases goodSys Size Sets Costs <;> cases rising choice 0 ((Sets.length : Int) - 1) <;> simp
      rw [hq.1, hq.2]; rfl
    · have hq : goodSys Size Sets Costs = true ∧ rising choice 0 ((Sets.length : Int) - 1) = true := by
        revert b2; cases goodSys Size Sets Costs <;> cases rising choice 0 ((Sets.length : Int) - 1) <;> simp
      rw [hq.1, hq.2]; rfl
theorem s_IsCover_pc (Size : Int) (Sets : List (List Int)) (Costs : List Int) (choice : List Int)  : PC Try.prog 60 [.agg [.int .i64 Size, .sl (.rows Sets), .sl (.ints Costs)], .sl (.ints choice)] (.tup [.d (.bool ((goodSys Size Sets Costs && rising choice 0 ((Sets.length : Int) - 1)) && coverB Size Sets choice)), .d (.bool (goodSys Size Sets Costs && rising choice 0 ((Sets.length : Int) - 1)))]) :=
  pc_wf @Try.call60 fun hw => pc_by (by kernel_rfl) Try.func60 @Try.call60 (by kernel_rfl) s_IsCover_C (s_IsCover_A Size Sets Costs choice) (by kernel_rfl) (s_IsCover_vc Size Sets Costs choice hw.1.2.1.1 hw.1.2.1.2 hw.1.2.2.1 hw.2.1) (by kernel_rfl)
def s_IsCover_orc : List D → Orc := orcN [none, some .ints] fun ds => match ds with
  | [.agg [.int .i64 Size, .sl (.rows Sets), .sl (.ints Costs)], .sl (.ints choice)] => some (.tup [.d (.bool ((goodSys Size Sets Costs && rising choice 0 ((Sets.length : Int) - 1)) && coverB Size Sets choice)), .d (.bool (goodSys Size Sets Costs && rising choice 0 ((Sets.length : Int) - 1)))])
  | _ => none

def l_FnExactIsCover_C (f : FuncId) (ds : List D) : Orc := bif Nat.beq f 25 then l_szSystem_orc ds else bif Nat.beq f 27 then l_toSystem_orc ds else bif Nat.beq f 40 then l_toIntS_orc ds else bif Nat.beq f 60 then s_IsCover_orc ds else bif Nat.beq f 61 then i_IsCover_orc ds else bif Nat.beq f 29 then l_eqSystem_orc ds else bif Nat.beq f 43 then l_eqIntS_orc ds else .no
def l_FnExactIsCover_A (Size : Int) (Sets : List (List Int)) (Costs : List Int) (choice : List Int) : Ann := .none
def l_FnExactIsCover_P (Size : Int) (Sets : List (List Int)) (Costs : List Int) (choice : List Int) : Prop :=
  (((decide ((choice.length : Int) > 1048576)) = true → ((true = true))) ∧ ((decide ((choice.length : Int) > 1048576)) = false → (PC Try.prog 25 [.agg [.int .i64 Size, .sl (.rows Sets), .sl (.ints Costs)], .int .i64 1048576] (.one (.d (.int .i64 (szSys Sets Costs 1048576))))) ∧ (((decide ((szSys Sets Costs 1048576) < 0)) = true → ((true = true))) ∧ ((decide ((szSys Sets Costs 1048576) < 0)) = false → (PC Try.prog 27 [.agg [.int .i64 Size, .sl (.rows Sets), .sl (.ints Costs)]] (.one (.d (.agg [.int .i64 Size, .sl (.rows Sets), .sl (.ints Costs)])))) ∧ (PC Try.prog 40 [.sl (.ints choice)] (.one (.d (.sl (.ints choice))))) ∧ (PC Try.prog 60 [.agg [.int .i64 Size, .sl (.rows Sets), .sl (.ints Costs)], .sl (.ints choice)] (.tup [.d (.bool ((goodSys Size Sets Costs && rising choice 0 ((Sets.length : Int) - 1)) && coverB Size Sets choice)), .d (.bool (goodSys Size Sets Costs && rising choice 0 ((Sets.length : Int) - 1)))])) ∧ (PC Try.prog 27 [.agg [.int .i64 Size, .sl (.rows Sets), .sl (.ints Costs)]] (.one (.d (.agg [.int .i64 Size, .sl (.rows Sets), .sl (.ints Costs)])))) ∧ (PC Try.prog 40 [.sl (.ints choice)] (.one (.d (.sl (.ints choice))))) ∧ (PC Try.prog 61 [.agg [.int .i64 Size, .sl (.rows Sets), .sl (.ints Costs)], .sl (.ints choice)] (.tup [.d (.bool ((goodSys Size Sets Costs && rising choice 0 ((Sets.length : Int) - 1)) && coverB Size Sets choice)), .d (.bool (goodSys Size Sets Costs && rising choice 0 ((Sets.length : Int) - 1)))])) ∧ ((!(((goodSys Size Sets Costs && rising choice 0 ((Sets.length : Int) - 1)) && coverB Size Sets choice) != ((goodSys Size Sets Costs && rising choice 0 ((Sets.length : Int) - 1)) && coverB Size Sets choice))) = true → (!(((goodSys Size Sets Costs && rising choice 0 ((Sets.length : Int) - 1)) && coverB Size Sets choice) != ((goodSys Size Sets Costs && rising choice 0 ((Sets.length : Int) - 1)) && coverB Size Sets choice))) = true) ∧ ((!(((goodSys Size Sets Costs && rising choice 0 ((Sets.length : Int) - 1)) && coverB Size Sets choice) != ((goodSys Size Sets Costs && rising choice 0 ((Sets.length : Int) - 1)) && coverB Size Sets choice))) = true → (!(((goodSys Size Sets Costs && rising choice 0 ((Sets.length : Int) - 1)) && coverB Size Sets choice) != ((goodSys Size Sets Costs && rising choice 0 ((Sets.length : Int) - 1)) && coverB Size Sets choice))) = true) ∧ (true = true) ∧ (((((goodSys Size Sets Costs && rising choice 0 ((Sets.length : Int) - 1)) && coverB Size Sets choice) != ((goodSys Size Sets Costs && rising choice 0 ((Sets.length : Int) - 1)) && coverB Size Sets choice)) = true → true = true)) ∧ (((((goodSys Size Sets Costs && rising choice 0 ((Sets.length : Int) - 1)) && coverB Size Sets choice) != ((goodSys Size Sets Costs && rising choice 0 ((Sets.length : Int) - 1)) && coverB Size Sets choice)) = false → (!(((goodSys Size Sets Costs && rising choice 0 ((Sets.length : Int) - 1)) && coverB Size Sets choice) != ((goodSys Size Sets Costs && rising choice 0 ((Sets.length : Int) - 1)) && coverB Size Sets choice))) = true)) ∧ (((cond (((goodSys Size Sets Costs && rising choice 0 ((Sets.length : Int) - 1)) && coverB Size Sets choice) != ((goodSys Size Sets Costs && rising choice 0 ((Sets.length : Int) - 1)) && coverB Size Sets choice)) true ((goodSys Size Sets Costs && rising choice 0 ((Sets.length : Int) - 1)) != (goodSys Size Sets Costs && rising choice 0 ((Sets.length : Int) - 1)))) = true → ((false = true))) ∧ ((cond (((goodSys Size Sets Costs && rising choice 0 ((Sets.length : Int) - 1)) && coverB Size Sets choice) != ((goodSys Size Sets Costs && rising choice 0 ((Sets.length : Int) - 1)) && coverB Size Sets choice)) true ((goodSys Size Sets Costs && rising choice 0 ((Sets.length : Int) - 1)) != (goodSys Size Sets Costs && rising choice 0 ((Sets.length : Int) - 1)))) = false → (true = true) ∧ (PC Try.prog 27 [.agg [.int .i64 Size, .sl (.rows Sets), .sl (.ints Costs)]] (.one (.d (.agg [.int .i64 Size, .sl (.rows Sets), .sl (.ints Costs)])))) ∧ (PC Try.prog 29 [.agg [.int .i64 Size, .sl (.rows Sets), .sl (.ints Costs)], .agg [.int .i64 Size, .sl (.rows Sets), .sl (.ints Costs)]] (.one (.d (.bool ((Size == Size) && (Sets == Sets) && (Costs == Costs)))))) ∧ (((!((Size == Size) && (Sets == Sets) && (Costs == Costs))) = true → ((false = true))) ∧ ((!((Size == Size) && (Sets == Sets) && (Costs == Costs))) = false → (PC Try.prog 40 [.sl (.ints choice)] (.one (.d (.sl (.ints choice))))) ∧ (PC Try.prog 43 [.sl (.ints choice), .sl (.ints choice)] (.one (.d (.bool (choice == choice))))) ∧ (((!(choice == choice)) = true → ((false = true))) ∧ ((!(choice == choice)) = false → ((true = true))))))))))))
theorem l_FnExactIsCover_vc (Size : Int) (Sets : List (List Int)) (Costs : List Int) (choice : List Int)  (w_Sets : (Sets.length : Int) ≤ 9223372036854775807) (v_Sets : ∀ x9 ∈ Sets, (x9.length : Int) ≤ 9223372036854775807) (w_Costs : (Costs.length : Int) ≤ 9223372036854775807) (w_choice : (choice.length : Int) ≤ 9223372036854775807) : l_FnExactIsCover_P Size Sets Costs choice := by
  unfold l_FnExactIsCover_P
  refine ⟨?_, ?_⟩
  · intro b1
    try simp only [nrmT] at b1
    exact rfl
  · intro b2
    try simp only [nrmT] at b2
    refine ⟨?_, ?_, ?_⟩
    · refine l_szSystem_pc Size Sets Costs 1048576 ?_
      · first | omega | rfl | (intro hg; simp only [nrmT] at hg; omega) | (intro g1 g2; simp [g1, g2]; done) | (intro g1; simp at g1 ⊢; simp [g1]; done) | (simp only [nrmT] at *; omega) | (simp at * <;> omega) | (simp_all <;> omega) | (simp_all; done)
    · intro b3
      try simp only [nrmT] at b3
      exact rfl
    · intro b4
      try simp only [nrmT] at b4
      refine ⟨?_, ?_, s_IsCover_pc Size Sets Costs choice, ?_, ?_, i_IsCover_pc Size Sets Costs choice, id, id, rfl, fun _ => rfl, ?_, ?_, ?_⟩
      · refine l_toSystem_pc Size Sets Costs ?_ ?_ ?_
        · have := szSys_bound b4; omega
        · have h := (szSys_bound b4).2.1
          intro xs hx
          have h := h xs hx
          omega
        · have := szSys_bound b4; omega
      · refine l_toIntS_pc choice ?_
        · first | omega | rfl | (intro hg; simp only [nrmT] at hg; omega) | (intro g1 g2; simp [g1, g2]; done) | (intro g1; simp at g1 ⊢; simp [g1]; done) | (simp only [nrmT] at *; omega) | (simp at * <;> omega) | (simp_all <;> omega) | (simp_all; done)
      · refine l_toSystem_pc Size Sets Costs ?_ ?_ ?_
        · have := szSys_bound b4; omega
        · have h := (szSys_bound b4).2.1
          intro xs hx
          have h := h xs hx
          omega
        · have := szSys_bound b4; omega
      · refine l_toIntS_pc choice ?_
        · first | omega | rfl | (intro hg; simp only [nrmT] at hg; omega) | (intro g1 g2; simp [g1, g2]; done) | (intro g1; simp at g1 ⊢; simp [g1]; done) | (simp only [nrmT] at *; omega) | (simp at * <;> omega) | (simp_all <;> omega) | (simp_all; done)
      · first | omega | rfl | (intro hg; simp only [nrmT] at hg; omega) | (intro g1 g2; simp [g1, g2]; done) | (intro g1; simp at g1 ⊢; simp [g1]; done) | (simp only [nrmT] at *; omega) | (simp at * <;> omega) | (simp_all <;> omega) | (simp_all; done)
      · intro b5
        first | omega | rfl | (intro hg; simp only [nrmT] at hg; omega) | (intro g1 g2; simp [g1, g2]; done) | (intro g1; simp at g1 ⊢; simp [g1]; done) | (simp only [nrmT] at *; omega) | (simp at * <;> omega) | (simp_all <;> omega) | (simp_all; done)
      · intro b6
        refine ⟨rfl, ?_, l_eqSystem_pc Size Sets Costs Size Sets Costs, ?_, ?_⟩
        · refine l_toSystem_pc Size Sets Costs ?_ ?_ ?_
          · have := szSys_bound b4; omega
          · have h := (szSys_bound b4).2.1
            intro xs hx
            have h := h xs hx
            omega
          · have := szSys_bound b4; omega
        · intro b7
          try simp only [Bool.not_eq_true', Bool.not_eq_false', Bool.not_not] at b7
          first | omega | rfl | (intro hg; simp only [nrmT] at hg; omega) | (intro g1 g2; simp [g1, g2]; done) | (intro g1; simp at g1 ⊢; simp [g1]; done) | (simp only [nrmT] at *; omega) | (simp at * <;> omega) | (simp_all <;> omega) | (simp_all; done)
        · intro b8
          try simp only [Bool.not_eq_true', Bool.not_eq_false', Bool.not_not] at b8
          refine ⟨?_, l_eqIntS_pc choice choice, ?_, ?_⟩
          · refine l_toIntS_pc choice ?_
            · first | omega | rfl | (intro hg; simp only [nrmT] at hg; omega) | (intro g1 g2; simp [g1, g2]; done) | (intro g1; simp at g1 ⊢; simp [g1]; done) | (simp only [nrmT] at *; omega) | (simp at * <;> omega) | (simp_all <;> omega) | (simp_all; done)
          · intro b9
            try simp only [nrmT] at b9
            first | omega | rfl | (intro hg; simp only [nrmT] at hg; omega) | (intro g1 g2; simp [g1, g2]; done) | (intro g1; simp at g1 ⊢; simp [g1]; done) | (simp only [nrmT] at *; omega) | (simp at * <;> omega) | (simp_all <;> omega) | (simp_all; done)
          · intro b10
            try simp only [nrmT] at b10
            exact rfl
theorem l_FnExactIsCover_pc (Size : Int) (Sets : List (List Int)) (Costs : List Int) (choice : List Int)  : PC Try.prog 14 [.agg [.int .i64 Size, .sl (.rows Sets), .sl (.ints Costs)], .sl (.ints choice)] (.one (.d (.bool true))) :=
  pc_wf @Try.call14 fun hw => pc_by (by kernel_rfl) Try.func14 @Try.call14 (by kernel_rfl) l_FnExactIsCover_C (l_FnExactIsCover_A Size Sets Costs choice) (by kernel_rfl) (l_FnExactIsCover_vc Size Sets Costs choice hw.1.2.1.1 hw.1.2.1.2 hw.1.2.2.1 hw.2.1) (by kernel_rfl)
def l_FnExactIsCover_orc : List D → Orc := orcN [none, some .ints] fun ds => match ds with
  | [.agg [.int .i64 Size, .sl (.rows Sets), .sl (.ints Costs)], .sl (.ints choice)] => some (.one (.d (.bool true)))
  | _ => none

end Go.Proofs.Ytmcbcomcejgbcaa
