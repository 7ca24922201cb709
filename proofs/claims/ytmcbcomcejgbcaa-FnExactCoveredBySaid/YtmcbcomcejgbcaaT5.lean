/- Contracts. -/
import Derived.Test.YtmcbcomcejgbcaaPw
import Derived.Test.YtmcbcomcejgbcaaProg
import Derived.Test.YtmcbcomcejgbcaaT4
import Derived.KernelRfl
set_option linter.unusedVariables false
set_option linter.unusedSimpArgs false
namespace Go.Proofs.Ytmcbcomcejgbcaa
open Go

def sumTo (f : Nat → Int) (n : Nat) : Int := foldTo (fun s k => s + f k) 0 n
theorem sumTo_step {f : Nat → Int} {i : Int} (h : 0 ≤ i) : sumTo f (i + 1).toNat = sumTo f i.toNat + f i.toNat := foldTo_step h
theorem sumTo_bound {f : Nat → Int} {m : Int} (n : Nat) (h : ∀ k, k < n → 0 ≤ f k ∧ f k ≤ m) : 0 ≤ sumTo f n ∧ sumTo f n ≤ m * n := by
  induction n with
  | zero => simp [sumTo, foldTo]
  | succ n ih =>
    have h1 := ih fun k hk => h k (Nat.lt_succ_of_lt hk)
    have h2 := h n (Nat.lt_succ_self n)
    have e : sumTo f (n + 1) = sumTo f n + f n := rfl
    rw [e]
    have e2 : m * ((n + 1 : Nat) : Int) = m * (n : Int) + m := by rw [Int.natCast_succ, Int.mul_add, Int.mul_one]
    rw [e2]
    omega
theorem rising_at {xs : List Int} {lo hi : Int} (h : rising xs lo hi = true) : ∀ k, k < xs.length → lo + k ≤ xs.getD k 0 ∧ xs.getD k 0 ≤ hi := by
  intro k
  induction k with
  | zero =>
    intro hk
    have h1 := allTo_iff.1 h 0 hk
    simp only [risingP, Bool.and_eq_true] at h1
    have := inB_le h1.1
    omega
  | succ k ih =>
    intro hk
    have h0 := ih (by omega)
    have h1 := allTo_iff.1 h (k + 1) hk
    simp only [risingP, Bool.and_eq_true, Bool.or_eq_true, decide_eq_true_eq, Nat.add_sub_cancel] at h1
    have := inB_le h1.1
    have h2 := h1.2
    omega
theorem rising_len {xs : List Int} {lo hi : Int} (h : rising xs lo hi = true) (hlo : lo ≤ hi + 1) : (xs.length : Int) ≤ hi - lo + 1 := by
  by_cases h0 : xs.length = 0
  · omega
  · have := rising_at h (xs.length - 1) (by omega)
    omega
theorem gs_facts {size : Int} {sets : List (List Int)} {costs : List Int} (h : goodSys size sets costs = true) : 0 ≤ size ∧ size ≤ 8 ∧ sets.length ≤ 8 ∧ costs.length = sets.length := by
  simp only [goodSys, Bool.and_eq_true, decide_eq_true_eq] at h
  have := inB_le h.1.1.1.1
  omega
theorem gs_cost {size : Int} {sets : List (List Int)} {costs : List Int} (h : goodSys size sets costs = true) {k : Nat} (hk : k < costs.length) : 1 ≤ costs.getD k 0 ∧ costs.getD k 0 ≤ 99 := by
  simp only [goodSys, Bool.and_eq_true, decide_eq_true_eq] at h
  exact inB_le (List.all_eq_true.1 h.1.2 _ (getD_mem hk))
theorem gs_set {size : Int} {sets : List (List Int)} {costs : List Int} (h : goodSys size sets costs = true) {k : Nat} (hk : k < sets.length) : rising (sets.getD k []) 0 (size - 1) = true := by
  simp only [goodSys, Bool.and_eq_true, decide_eq_true_eq] at h
  exact List.all_eq_true.1 h.2 _ (getD_mem hk)
def costAt (Costs choice : List Int) (k : Nat) : Int := Costs.getD (choice.getD k 0).toNat 0
def costOf (Costs choice : List Int) : Int := sumTo (costAt Costs choice) choice.length
theorem costAt_bound {size : Int} {sets : List (List Int)} {costs choice : List Int} (h : goodSys size sets costs = true) (hc : rising choice 0 ((sets.length : Int) - 1) = true) {k : Nat} (hk : k < choice.length) :
    0 ≤ costAt costs choice k ∧ costAt costs choice k ≤ 99 := by
  have h1 := rising_at hc k hk
  have h2 := gs_facts h
  have := gs_cost h (k := (choice.getD k 0).toNat) (by omega)
  unfold costAt
  omega

abbrev s_l6Cost_JJ0 (Size : Int) (Sets : List (List Int)) (Costs : List Int) (choice : List Int) (out : Int) (i : Int) : Prop := (0 ≤ i) ∧ (i ≤ (choice.length : Int)) ∧ (out = sumTo (costAt Costs choice) i.toNat)
abbrev s_l6Cost_mJ0 (Size : Int) (Sets : List (List Int)) (Costs : List Int) (choice : List Int) (out : Int) (i : Int) : Nat := (choice.length - i).toNat
def s_l6Cost_C (f : FuncId) (ds : List D) : Orc := .no
def s_l6Cost_A (Size : Int) (Sets : List (List Int)) (Costs : List Int) (choice : List Int) : Ann := .two (.none) (.two (.none) (.two (.two (.none) (.loop (cut2 (fun (out : Int) (i : Int) => s_l6Cost_JJ0 Size Sets Costs choice out i) (fun (out : Int) (i : Int) => [(1, .d false (.sl (.ints choice))), (2, .ptr 2 0), (5, .d true (.int .i64 out)), (6, .d true (.int .i64 i))]) (fun (out : Int) (i : Int) => [(2, .box 31 [.d false (.int .i64 Size), .d false (.sl (.rows Sets)), .d false (.sl (.ints Costs))])])) (fun g => s_l6Cost_mJ0 Size Sets Costs choice g.1 g.2) (fun _ => .none))) (.none)))
def s_l6Cost_P (Size : Int) (Sets : List (List Int)) (Costs : List Int) (choice : List Int) : Prop :=
  ((∃ out' : Int, ∃ i' : Int, (s_l6Cost_JJ0 Size Sets Costs choice out' i') ∧ (choice = choice) ∧ ((0 : Int) = out') ∧ ((0 : Int) = i') ∧ (Size = Size) ∧ (Sets = Sets) ∧ (Costs = Costs)) ∧ (∀ out : Int, ∀ i : Int, (s_l6Cost_JJ0 Size Sets Costs choice out i) → (((decide (i < (choice.length : Int))) = true → (true = true) ∧ ((0 : Int) ≤ i) ∧ ((i : Int) < choice.length) ∧ (i.toNat < choice.length) ∧ ((0 : Int) ≤ (choice.getD i.toNat 0)) ∧ (((choice.getD i.toNat 0) : Int) < Costs.length) ∧ ((choice.getD i.toNat 0).toNat < Costs.length) ∧ (-9223372036854775808 ≤ (out + (Costs.getD ((choice.getD i.toNat 0).toNat) 0)) ∧ (out + (Costs.getD ((choice.getD i.toNat 0).toNat) 0)) ≤ 9223372036854775807) ∧ (-9223372036854775808 ≤ (i + 1) ∧ (i + 1) ≤ 9223372036854775807) ∧ (∃ out' : Int, ∃ i' : Int, (s_l6Cost_JJ0 Size Sets Costs choice out' i') ∧ (s_l6Cost_mJ0 Size Sets Costs choice out' i' < s_l6Cost_mJ0 Size Sets Costs choice out i) ∧ (choice = choice) ∧ ((out + (Costs.getD ((choice.getD i.toNat 0).toNat) 0)) = out') ∧ ((i + 1) = i') ∧ (Size = Size) ∧ (Sets = Sets) ∧ (Costs = Costs))) ∧ ((decide (i < (choice.length : Int))) = false → ((out = (costOf Costs choice)))))))
theorem s_l6Cost_vc (Size : Int) (Sets : List (List Int)) (Costs : List Int) (choice : List Int) (hg : goodSys Size Sets Costs = true) (hc : rising choice 0 ((Sets.length : Int) - 1) = true) (w_Sets : (Sets.length : Int) ≤ 9223372036854775807) (v_Sets : ∀ x9 ∈ Sets, (x9.length : Int) ≤ 9223372036854775807) (w_Costs : (Costs.length : Int) ≤ 9223372036854775807) (w_choice : (choice.length : Int) ≤ 9223372036854775807) : s_l6Cost_P Size Sets Costs choice := by
  unfold s_l6Cost_P
  have gf := gs_facts hg
  have cl := rising_len hc (by omega)
  have ca := fun k => rising_at hc k
  have cb := fun k (hk : k < choice.length) => costAt_bound hg hc hk
  refine ⟨?_, ?_⟩
  · refine ⟨0, 0, ?_⟩
    refine ⟨?_, rfl, rfl, rfl, rfl, rfl, rfl⟩
    · refine ⟨?_, ?_, ?_⟩
      · first | omega | rfl | (intro hg; simp only [nrmT] at hg; omega) | (intro g1 g2; simp [g1, g2]; done) | (intro g1; simp at g1 ⊢; simp [g1]; done) | (simp only [nrmT] at *; omega) | (simp at * <;> omega) | (simp_all <;> omega) | (simp_all; done)
      · first | omega | rfl | (intro hg; simp only [nrmT] at hg; omega) | (intro g1 g2; simp [g1, g2]; done) | (intro g1; simp at g1 ⊢; simp [g1]; done) | (simp only [nrmT] at *; omega) | (simp at * <;> omega) | (simp_all <;> omega) | (simp_all; done)
      · first | omega | rfl | (intro hg; simp only [nrmT] at hg; omega) | (intro g1 g2; simp [g1, g2]; done) | (intro g1; simp at g1 ⊢; simp [g1]; done) | (simp only [nrmT] at *; omega) | (simp at * <;> omega) | (simp_all <;> omega) | (simp_all; done)
  · intro out i hJ
    obtain ⟨h1, h2, h3⟩ := hJ
    refine ⟨?_, ?_⟩
    · intro b1
      try simp only [nrmT] at b1
      refine ⟨rfl, ?_, ?_, ?_, ?_, ?_, ?_, ?_, ?_, ?_⟩
      · first | omega | rfl | (intro hg; simp only [nrmT] at hg; omega) | (intro g1 g2; simp [g1, g2]; done) | (intro g1; simp at g1 ⊢; simp [g1]; done) | (simp only [nrmT] at *; omega) | (simp at * <;> omega) | (simp_all <;> omega) | (simp_all; done)
      · first | omega | rfl | (intro hg; simp only [nrmT] at hg; omega) | (intro g1 g2; simp [g1, g2]; done) | (intro g1; simp at g1 ⊢; simp [g1]; done) | (simp only [nrmT] at *; omega) | (simp at * <;> omega) | (simp_all <;> omega) | (simp_all; done)
      · first | omega | rfl | (intro hg; simp only [nrmT] at hg; omega) | (intro g1 g2; simp [g1, g2]; done) | (intro g1; simp at g1 ⊢; simp [g1]; done) | (simp only [nrmT] at *; omega) | (simp at * <;> omega) | (simp_all <;> omega) | (simp_all; done)
      · have := ca i.toNat (by omega)
        omega
      · have := ca i.toNat (by omega)
        omega
      · have := ca i.toNat (by omega)
        omega
      · have h6 := sumTo_bound i.toNat (fun k hk => cb k (by omega))
        have h7 := cb i.toNat (by omega)
        unfold costAt at h7
        omega
      · first | omega | rfl | (intro hg; simp only [nrmT] at hg; omega) | (intro g1 g2; simp [g1, g2]; done) | (intro g1; simp at g1 ⊢; simp [g1]; done) | (simp only [nrmT] at *; omega) | (simp at * <;> omega) | (simp_all <;> omega) | (simp_all; done)
      · refine ⟨(out + (Costs.getD ((choice.getD i.toNat 0).toNat) 0)), (i + 1), ?_⟩
        refine ⟨?_, ?_, rfl, rfl, rfl, rfl, rfl, rfl⟩
        · refine ⟨?_, ?_, ?_⟩
          · first | omega | rfl | (intro hg; simp only [nrmT] at hg; omega) | (intro g1 g2; simp [g1, g2]; done) | (intro g1; simp at g1 ⊢; simp [g1]; done) | (simp only [nrmT] at *; omega) | (simp at * <;> omega) | (simp_all <;> omega) | (simp_all; done)
          · first | omega | rfl | (intro hg; simp only [nrmT] at hg; omega) | (intro g1 g2; simp [g1, g2]; done) | (intro g1; simp at g1 ⊢; simp [g1]; done) | (simp only [nrmT] at *; omega) | (simp at * <;> omega) | (simp_all <;> omega) | (simp_all; done)
          · rw [sumTo_step h1, h3]; rfl
        · first | (show _ < _; omega) | (simp only [s_l6Cost_mJ0]; omega) | (simp only [s_l6Cost_mJ0] at *; simp at *; omega)
    · intro b2
      try simp only [nrmT] at b2
      unfold costOf
      rw [h3]
      congr 1
      omega
theorem s_l6Cost_pc (Size : Int) (Sets : List (List Int)) (Costs : List Int) (choice : List Int) (hg : goodSys Size Sets Costs = true) (hc : rising choice 0 ((Sets.length : Int) - 1) = true) : PC Try.prog 108 [.agg [.int .i64 Size, .sl (.rows Sets), .sl (.ints Costs)], .sl (.ints choice)] (.one (.d (.int .i64 (costOf Costs choice)))) :=
  pc_wf @Try.call108 fun hw => pc_by (by kernel_rfl) Try.func108 @Try.call108 (by kernel_rfl) s_l6Cost_C (s_l6Cost_A Size Sets Costs choice) (by kernel_rfl) (s_l6Cost_vc Size Sets Costs choice hg hc hw.1.2.1.1 hw.1.2.1.2 hw.1.2.2.1 hw.2.1) (by kernel_rfl)
def s_l6Cost_orc : List D → Orc := orcN [none, some .ints] fun ds => match ds with
  | [.agg [.int .i64 Size, .sl (.rows Sets), .sl (.ints Costs)], .sl (.ints choice)] => some (.one (.d (.int .i64 (costOf Costs choice))))
  | _ => none

abbrev i_System_cost_JJ0 (Size : Int) (Sets : List (List Int)) (Costs : List Int) (choice : List Int) (out : Int) (i : Int) : Prop := (0 ≤ i) ∧ (i ≤ (choice.length : Int)) ∧ (out = sumTo (costAt Costs choice) i.toNat)
abbrev i_System_cost_mJ0 (Size : Int) (Sets : List (List Int)) (Costs : List Int) (choice : List Int) (out : Int) (i : Int) : Nat := (choice.length - i).toNat
def i_System_cost_C (f : FuncId) (ds : List D) : Orc := .no
def i_System_cost_A (Size : Int) (Sets : List (List Int)) (Costs : List Int) (choice : List Int) : Ann := .two (.none) (.two (.none) (.two (.two (.none) (.loop (cut2 (fun (out : Int) (i : Int) => i_System_cost_JJ0 Size Sets Costs choice out i) (fun (out : Int) (i : Int) => [(2, .ptr 2 0), (5, .d true (.int .i64 out)), (8, .d false (.sl (.ints choice))), (9, .d true (.int .i64 (choice.length : Int))), (10, .d true (.int .i64 i))]) (fun (out : Int) (i : Int) => [(2, .box 31 [.d false (.int .i64 Size), .d false (.sl (.rows Sets)), .d false (.sl (.ints Costs))])])) (fun g => i_System_cost_mJ0 Size Sets Costs choice g.1 g.2) (fun _ => .none))) (.none)))
def i_System_cost_P (Size : Int) (Sets : List (List Int)) (Costs : List Int) (choice : List Int) : Prop :=
  ((∃ out' : Int, ∃ i' : Int, (i_System_cost_JJ0 Size Sets Costs choice out' i') ∧ ((0 : Int) = out') ∧ (choice = choice) ∧ ((choice.length : Int) = (choice.length : Int)) ∧ ((0 : Int) = i') ∧ (Size = Size) ∧ (Sets = Sets) ∧ (Costs = Costs)) ∧ (∀ out : Int, ∀ i : Int, (i_System_cost_JJ0 Size Sets Costs choice out i) → (((decide (i < (choice.length : Int))) = true → ((0 : Int) ≤ i) ∧ ((i : Int) < choice.length) ∧ (i.toNat < choice.length) ∧ ((0 : Int) ≤ (choice.getD i.toNat 0)) ∧ (((choice.getD i.toNat 0) : Int) < Costs.length) ∧ ((choice.getD i.toNat 0).toNat < Costs.length) ∧ (-9223372036854775808 ≤ (out + (Costs.getD ((choice.getD i.toNat 0).toNat) 0)) ∧ (out + (Costs.getD ((choice.getD i.toNat 0).toNat) 0)) ≤ 9223372036854775807) ∧ (-9223372036854775808 ≤ (i + 1) ∧ (i + 1) ≤ 9223372036854775807) ∧ (∃ out' : Int, ∃ i' : Int, (i_System_cost_JJ0 Size Sets Costs choice out' i') ∧ (i_System_cost_mJ0 Size Sets Costs choice out' i' < i_System_cost_mJ0 Size Sets Costs choice out i) ∧ ((out + (Costs.getD ((choice.getD i.toNat 0).toNat) 0)) = out') ∧ (choice = choice) ∧ ((choice.length : Int) = (choice.length : Int)) ∧ ((i + 1) = i') ∧ (Size = Size) ∧ (Sets = Sets) ∧ (Costs = Costs))) ∧ ((decide (i < (choice.length : Int))) = false → ((out = (costOf Costs choice)))))))
theorem i_System_cost_vc (Size : Int) (Sets : List (List Int)) (Costs : List Int) (choice : List Int) (hg : goodSys Size Sets Costs = true) (hc : rising choice 0 ((Sets.length : Int) - 1) = true) (w_Sets : (Sets.length : Int) ≤ 9223372036854775807) (v_Sets : ∀ x9 ∈ Sets, (x9.length : Int) ≤ 9223372036854775807) (w_Costs : (Costs.length : Int) ≤ 9223372036854775807) (w_choice : (choice.length : Int) ≤ 9223372036854775807) : i_System_cost_P Size Sets Costs choice := by
  unfold i_System_cost_P
  have gf := gs_facts hg
  have cl := rising_len hc (by omega)
  have ca := fun k => rising_at hc k
  have cb := fun k (hk : k < choice.length) => costAt_bound hg hc hk
  refine ⟨?_, ?_⟩
  · refine ⟨0, 0, ?_⟩
    refine ⟨?_, rfl, rfl, rfl, rfl, rfl, rfl, rfl⟩
    · refine ⟨?_, ?_, ?_⟩
      · first | omega | rfl | (intro hg; simp only [nrmT] at hg; omega) | (intro g1 g2; simp [g1, g2]; done) | (intro g1; simp at g1 ⊢; simp [g1]; done) | (simp only [nrmT] at *; omega) | (simp at * <;> omega) | (simp_all <;> omega) | (simp_all; done)
      · first | omega | rfl | (intro hg; simp only [nrmT] at hg; omega) | (intro g1 g2; simp [g1, g2]; done) | (intro g1; simp at g1 ⊢; simp [g1]; done) | (simp only [nrmT] at *; omega) | (simp at * <;> omega) | (simp_all <;> omega) | (simp_all; done)
      · first | omega | rfl | (intro hg; simp only [nrmT] at hg; omega) | (intro g1 g2; simp [g1, g2]; done) | (intro g1; simp at g1 ⊢; simp [g1]; done) | (simp only [nrmT] at *; omega) | (simp at * <;> omega) | (simp_all <;> omega) | (simp_all; done)
  · intro out i hJ
    obtain ⟨h1, h2, h3⟩ := hJ
    refine ⟨?_, ?_⟩
    · intro b1
      try simp only [nrmT] at b1
      refine ⟨?_, ?_, ?_, ?_, ?_, ?_, ?_, ?_, ?_⟩
      · first | omega | rfl | (intro hg; simp only [nrmT] at hg; omega) | (intro g1 g2; simp [g1, g2]; done) | (intro g1; simp at g1 ⊢; simp [g1]; done) | (simp only [nrmT] at *; omega) | (simp at * <;> omega) | (simp_all <;> omega) | (simp_all; done)
      · first | omega | rfl | (intro hg; simp only [nrmT] at hg; omega) | (intro g1 g2; simp [g1, g2]; done) | (intro g1; simp at g1 ⊢; simp [g1]; done) | (simp only [nrmT] at *; omega) | (simp at * <;> omega) | (simp_all <;> omega) | (simp_all; done)
      · first | omega | rfl | (intro hg; simp only [nrmT] at hg; omega) | (intro g1 g2; simp [g1, g2]; done) | (intro g1; simp at g1 ⊢; simp [g1]; done) | (simp only [nrmT] at *; omega) | (simp at * <;> omega) | (simp_all <;> omega) | (simp_all; done)
      · have := ca i.toNat (by omega)
        omega
      · have := ca i.toNat (by omega)
        omega
      · have := ca i.toNat (by omega)
        omega
      · have h6 := sumTo_bound i.toNat (fun k hk => cb k (by omega))
        have h7 := cb i.toNat (by omega)
        unfold costAt at h7
        omega
      · first | omega | rfl | (intro hg; simp only [nrmT] at hg; omega) | (intro g1 g2; simp [g1, g2]; done) | (intro g1; simp at g1 ⊢; simp [g1]; done) | (simp only [nrmT] at *; omega) | (simp at * <;> omega) | (simp_all <;> omega) | (simp_all; done)
      · refine ⟨(out + (Costs.getD ((choice.getD i.toNat 0).toNat) 0)), (i + 1), ?_⟩
        refine ⟨?_, ?_, rfl, rfl, rfl, rfl, rfl, rfl, rfl⟩
        · refine ⟨?_, ?_, ?_⟩
          · first | omega | rfl | (intro hg; simp only [nrmT] at hg; omega) | (intro g1 g2; simp [g1, g2]; done) | (intro g1; simp at g1 ⊢; simp [g1]; done) | (simp only [nrmT] at *; omega) | (simp at * <;> omega) | (simp_all <;> omega) | (simp_all; done)
          · first | omega | rfl | (intro hg; simp only [nrmT] at hg; omega) | (intro g1 g2; simp [g1, g2]; done) | (intro g1; simp at g1 ⊢; simp [g1]; done) | (simp only [nrmT] at *; omega) | (simp at * <;> omega) | (simp_all <;> omega) | (simp_all; done)
          · rw [sumTo_step h1, h3]; rfl
        · first | (show _ < _; omega) | (simp only [i_System_cost_mJ0]; omega) | (simp only [i_System_cost_mJ0] at *; simp at *; omega)
    · intro b2
      try simp only [nrmT] at b2
      unfold costOf
      rw [h3]
      congr 1
      omega
theorem i_System_cost_pc (Size : Int) (Sets : List (List Int)) (Costs : List Int) (choice : List Int) (hg : goodSys Size Sets Costs = true) (hc : rising choice 0 ((Sets.length : Int) - 1) = true) : PC Try.prog 110 [.agg [.int .i64 Size, .sl (.rows Sets), .sl (.ints Costs)], .sl (.ints choice)] (.one (.d (.int .i64 (costOf Costs choice)))) :=
  pc_wf @Try.call110 fun hw => pc_by (by kernel_rfl) Try.func110 @Try.call110 (by kernel_rfl) i_System_cost_C (i_System_cost_A Size Sets Costs choice) (by kernel_rfl) (i_System_cost_vc Size Sets Costs choice hg hc hw.1.2.1.1 hw.1.2.1.2 hw.1.2.2.1 hw.2.1) (by kernel_rfl)
def i_System_cost_orc : List D → Orc := orcN [none, some .ints] fun ds => match ds with
  | [.agg [.int .i64 Size, .sl (.rows Sets), .sl (.ints Costs)], .sl (.ints choice)] => some (.one (.d (.int .i64 (costOf Costs choice))))
  | _ => none

def s_l6Two_C (f : FuncId) (ds : List D) : Orc := bif Nat.beq f 85 then s_l6Good_orc ds else bif Nat.beq f 119 then s_l1Rising_orc ds else .no
def s_l6Two_A (Size : Int) (Sets : List (List Int)) (Costs : List Int) (choice : List Int) : Ann := .none
def s_l6Two_P (Size : Int) (Sets : List (List Int)) (Costs : List Int) (choice : List Int) : Prop :=
  (PC Try.prog 85 [.agg [.int .i64 Size, .sl (.rows Sets), .sl (.ints Costs)]] (.one (.d (.bool (goodSys Size Sets Costs))))) ∧ ((goodSys Size Sets Costs) = true → (goodSys Size Sets Costs) = true) ∧ ((goodSys Size Sets Costs) = true → (goodSys Size Sets Costs) = true) ∧ ((goodSys Size Sets Costs) = true → (goodSys Size Sets Costs) = true) ∧ (((goodSys Size Sets Costs) = true → -9223372036854775808 ≤ ((Sets.length : Int) - 1) ∧ ((Sets.length : Int) - 1) ≤ 9223372036854775807)) ∧ ((goodSys Size Sets Costs) = true → (goodSys Size Sets Costs) = true) ∧ ((goodSys Size Sets Costs) = true → (goodSys Size Sets Costs) = true) ∧ ((goodSys Size Sets Costs) = true → PC Try.prog 119 [.sl (.ints choice), .int .i64 0, .int .i64 ((Sets.length : Int) - 1)] (.one (.d (.bool (rising choice 0 ((Sets.length : Int) - 1)))))) ∧ (true = true) ∧ (((goodSys Size Sets Costs) = true → (goodSys Size Sets Costs) = true)) ∧ (((goodSys Size Sets Costs) = false → true = true)) ∧ (((cond (goodSys Size Sets Costs) (rising choice 0 ((Sets.length : Int) - 1)) false) = (goodSys Size Sets Costs && rising choice 0 ((Sets.length : Int) - 1))))
theorem s_l6Two_vc (Size : Int) (Sets : List (List Int)) (Costs : List Int) (choice : List Int)  (w_Sets : (Sets.length : Int) ≤ 9223372036854775807) (v_Sets : ∀ x9 ∈ Sets, (x9.length : Int) ≤ 9223372036854775807) (w_Costs : (Costs.length : Int) ≤ 9223372036854775807) (w_choice : (choice.length : Int) ≤ 9223372036854775807) : s_l6Two_P Size Sets Costs choice := by
  unfold s_l6Two_P
  refine ⟨s_l6Good_pc Size Sets Costs, id, id, id, ?_, id, id, fun _ => s_l1Rising_pc choice 0 ((Sets.length : Int) - 1), rfl, id, fun _ => rfl, ?_⟩
  · first | omega | rfl | (intro hg; simp only [nrmT] at hg; omega) | (intro g1 g2; simp [g1, g2]; done) | (intro g1; simp at g1 ⊢; simp [g1]; done) | (simp only [nrmT] at *; omega) | (simp at * <;> omega) | (simp_all <;> omega) | (simp_all; done) | (cases goodSys Size Sets Costs <;> rfl)
  · first | omega | rfl | (intro hg; simp only [nrmT] at hg; omega) | (intro g1 g2; simp [g1, g2]; done) | (intro g1; simp at g1 ⊢; simp [g1]; done) | (simp only [nrmT] at *; omega) | (simp at * <;> omega) | (simp_all <;> omega) | (simp_all; done) | (cases goodSys Size Sets Costs <;> rfl)
theorem s_l6Two_pc (Size : Int) (Sets : List (List Int)) (Costs : List Int) (choice : List Int)  : PC Try.prog 107 [.agg [.int .i64 Size, .sl (.rows Sets), .sl (.ints Costs)], .sl (.ints choice)] (.one (.d (.bool (goodSys Size Sets Costs && rising choice 0 ((Sets.length : Int) - 1))))) :=
  pc_wf @Try.call107 fun hw => pc_by (by kernel_rfl) Try.func107 @Try.call107 (by kernel_rfl) s_l6Two_C (s_l6Two_A Size Sets Costs choice) (by kernel_rfl) (s_l6Two_vc Size Sets Costs choice hw.1.2.1.1 hw.1.2.1.2 hw.1.2.2.1 hw.2.1) (by kernel_rfl)
def s_l6Two_orc : List D → Orc := orcN [none, some .ints] fun ds => match ds with
  | [.agg [.int .i64 Size, .sl (.rows Sets), .sl (.ints Costs)], .sl (.ints choice)] => some (.one (.d (.bool (goodSys Size Sets Costs && rising choice 0 ((Sets.length : Int) - 1)))))
  | _ => none

def i_isChoice_C (f : FuncId) (ds : List D) : Orc := bif Nat.beq f 28 then i_IsSystem_orc ds else bif Nat.beq f 90 then i_isRising_orc ds else .no
def i_isChoice_A (Size : Int) (Sets : List (List Int)) (Costs : List Int) (choice : List Int) : Ann := .none
def i_isChoice_P (Size : Int) (Sets : List (List Int)) (Costs : List Int) (choice : List Int) : Prop :=
  (PC Try.prog 28 [.agg [.int .i64 Size, .sl (.rows Sets), .sl (.ints Costs)]] (.one (.d (.bool (goodSys Size Sets Costs))))) ∧ ((goodSys Size Sets Costs) = true → (goodSys Size Sets Costs) = true) ∧ ((goodSys Size Sets Costs) = true → (goodSys Size Sets Costs) = true) ∧ ((goodSys Size Sets Costs) = true → (goodSys Size Sets Costs) = true) ∧ ((goodSys Size Sets Costs) = true → (goodSys Size Sets Costs) = true) ∧ ((goodSys Size Sets Costs) = true → PC Try.prog 90 [.sl (.ints choice), .int .i64 (Sets.length : Int)] (.one (.d (.bool (rising choice 0 ((Sets.length : Int) - 1)))))) ∧ (true = true) ∧ (((goodSys Size Sets Costs) = true → (goodSys Size Sets Costs) = true)) ∧ (((goodSys Size Sets Costs) = false → true = true)) ∧ (((cond (goodSys Size Sets Costs) (rising choice 0 ((Sets.length : Int) - 1)) false) = (goodSys Size Sets Costs && rising choice 0 ((Sets.length : Int) - 1))))
theorem i_isChoice_vc (Size : Int) (Sets : List (List Int)) (Costs : List Int) (choice : List Int)  (w_Sets : (Sets.length : Int) ≤ 9223372036854775807) (v_Sets : ∀ x9 ∈ Sets, (x9.length : Int) ≤ 9223372036854775807) (w_Costs : (Costs.length : Int) ≤ 9223372036854775807) (w_choice : (choice.length : Int) ≤ 9223372036854775807) : i_isChoice_P Size Sets Costs choice := by
  unfold i_isChoice_P
  refine ⟨i_IsSystem_pc Size Sets Costs, id, id, id, id, ?_, rfl, id, fun _ => rfl, ?_⟩
  · intro hg
    refine i_isRising_pc choice (Sets.length : Int) ?_
    · first | omega | rfl | (intro hg; simp only [nrmT] at hg; omega) | (intro g1 g2; simp [g1, g2]; done) | (intro g1; simp at g1 ⊢; simp [g1]; done) | (simp only [nrmT] at *; omega) | (simp at * <;> omega) | (simp_all <;> omega) | (simp_all; done) | (cases goodSys Size Sets Costs <;> rfl)
  · first | omega | rfl | (intro hg; simp only [nrmT] at hg; omega) | (intro g1 g2; simp [g1, g2]; done) | (intro g1; simp at g1 ⊢; simp [g1]; done) | (simp only [nrmT] at *; omega) | (simp at * <;> omega) | (simp_all <;> omega) | (simp_all; done) | (cases goodSys Size Sets Costs <;> rfl)
theorem i_isChoice_pc (Size : Int) (Sets : List (List Int)) (Costs : List Int) (choice : List Int)  : PC Try.prog 109 [.agg [.int .i64 Size, .sl (.rows Sets), .sl (.ints Costs)], .sl (.ints choice)] (.one (.d (.bool (goodSys Size Sets Costs && rising choice 0 ((Sets.length : Int) - 1))))) :=
  pc_wf @Try.call109 fun hw => pc_by (by kernel_rfl) Try.func109 @Try.call109 (by kernel_rfl) i_isChoice_C (i_isChoice_A Size Sets Costs choice) (by kernel_rfl) (i_isChoice_vc Size Sets Costs choice hw.1.2.1.1 hw.1.2.1.2 hw.1.2.2.1 hw.2.1) (by kernel_rfl)
def i_isChoice_orc : List D → Orc := orcN [none, some .ints] fun ds => match ds with
  | [.agg [.int .i64 Size, .sl (.rows Sets), .sl (.ints Costs)], .sl (.ints choice)] => some (.one (.d (.bool (goodSys Size Sets Costs && rising choice 0 ((Sets.length : Int) - 1)))))
  | _ => none

def s_CostOf_C (f : FuncId) (ds : List D) : Orc := bif Nat.beq f 107 then s_l6Two_orc ds else bif Nat.beq f 108 then s_l6Cost_orc ds else .no
def s_CostOf_A (Size : Int) (Sets : List (List Int)) (Costs : List Int) (choice : List Int) : Ann := .none
def s_CostOf_P (Size : Int) (Sets : List (List Int)) (Costs : List Int) (choice : List Int) : Prop :=
  (PC Try.prog 107 [.agg [.int .i64 Size, .sl (.rows Sets), .sl (.ints Costs)], .sl (.ints choice)] (.one (.d (.bool (goodSys Size Sets Costs && rising choice 0 ((Sets.length : Int) - 1)))))) ∧ (((!(goodSys Size Sets Costs && rising choice 0 ((Sets.length : Int) - 1))) = true → (((0 : Int) = (if goodSys Size Sets Costs && rising choice 0 ((Sets.length : Int) - 1) then costOf Costs choice else 0)) ∧ (false = (goodSys Size Sets Costs && rising choice 0 ((Sets.length : Int) - 1))))) ∧ ((!(goodSys Size Sets Costs && rising choice 0 ((Sets.length : Int) - 1))) = false → (PC Try.prog 108 [.agg [.int .i64 Size, .sl (.rows Sets), .sl (.ints Costs)], .sl (.ints choice)] (.one (.d (.int .i64 (costOf Costs choice))))) ∧ (((costOf Costs choice) = (if goodSys Size Sets Costs && rising choice 0 ((Sets.length : Int) - 1) then costOf Costs choice else 0)) ∧ (true = (goodSys Size Sets Costs && rising choice 0 ((Sets.length : Int) - 1))))))
theorem s_CostOf_vc (Size : Int) (Sets : List (List Int)) (Costs : List Int) (choice : List Int)  (w_Sets : (Sets.length : Int) ≤ 9223372036854775807) (v_Sets : ∀ x9 ∈ Sets, (x9.length : Int) ≤ 9223372036854775807) (w_Costs : (Costs.length : Int) ≤ 9223372036854775807) (w_choice : (choice.length : Int) ≤ 9223372036854775807) : s_CostOf_P Size Sets Costs choice := by
  unfold s_CostOf_P
  refine ⟨s_l6Two_pc Size Sets Costs choice, ?_, ?_⟩
  · intro b1
    try simp only [Bool.not_eq_true', Bool.not_eq_false', Bool.not_not] at b1
    refine ⟨?_, ?_⟩
    · have hq : (goodSys Size Sets Costs && rising choice 0 ((Sets.length : Int) - 1)) = false := by
        revert b1; cases goodSys Size Sets Costs <;> cases rising choice 0 ((Sets.length : Int) - 1) <;> simp
      rw [hq]; rfl
    · have hq : (goodSys Size Sets Costs && rising choice 0 ((Sets.length : Int) - 1)) = false := by
        revert b1; cases goodSys Size Sets Costs <;> cases rising choice 0 ((Sets.length : Int) - 1) <;> simp
      exact hq.symm
  · intro b2
    try simp only [Bool.not_eq_true', Bool.not_eq_false', Bool.not_not] at b2
    refine ⟨?_, ?_, ?_⟩
    · refine s_l6Cost_pc Size Sets Costs choice ?_ ?_
      · have hq : goodSys Size Sets Costs = true ∧ rising choice 0 ((Sets.length : Int) - 1) = true := by
          revert b2; cases goodSys Size Sets Costs <;> cases rising choice 0 ((Sets.length : Int) - 1) <;> simp
        exact hq.1
      · have hq : goodSys Size Sets Costs = true ∧ rising choice 0 ((Sets.length : Int) - 1) = true := by
          revert b2; cases goodSys Size Sets Costs <;> cases rising choice 0 ((Sets.length : Int) - 1) <;> simp
        exact hq.2
    · have hq : goodSys Size Sets Costs = true ∧ rising choice 0 ((Sets.length : Int) - 1) = true := by
        revert b2; cases goodSys Size Sets Costs <;> cases rising choice 0 ((Sets.length : Int) - 1) <;> simp
      rw [hq.1, hq.2]; rfl
    · have hq : goodSys Size Sets Costs = true ∧ rising choice 0 ((Sets.length : Int) - 1) = true := by
        revert b2; cases goodSys Size Sets Costs <;> cases rising choice 0 ((Sets.length : Int) - 1) <;> simp
      rw [hq.1, hq.2]; rfl
theorem s_CostOf_pc (Size : Int) (Sets : List (List Int)) (Costs : List Int) (choice : List Int)  : PC Try.prog 52 [.agg [.int .i64 Size, .sl (.rows Sets), .sl (.ints Costs)], .sl (.ints choice)] (.tup [.d (.int .i64 (if goodSys Size Sets Costs && rising choice 0 ((Sets.length : Int) - 1) then costOf Costs choice else 0)), .d (.bool (goodSys Size Sets Costs && rising choice 0 ((Sets.length : Int) - 1)))]) :=
  pc_wf @Try.call52 fun hw => pc_by (by kernel_rfl) Try.func52 @Try.call52 (by kernel_rfl) s_CostOf_C (s_CostOf_A Size Sets Costs choice) (by kernel_rfl) (s_CostOf_vc Size Sets Costs choice hw.1.2.1.1 hw.1.2.1.2 hw.1.2.2.1 hw.2.1) (by kernel_rfl)
def s_CostOf_orc : List D → Orc := orcN [none, some .ints] fun ds => match ds with
  | [.agg [.int .i64 Size, .sl (.rows Sets), .sl (.ints Costs)], .sl (.ints choice)] => some (.tup [.d (.int .i64 (if goodSys Size Sets Costs && rising choice 0 ((Sets.length : Int) - 1) then costOf Costs choice else 0)), .d (.bool (goodSys Size Sets Costs && rising choice 0 ((Sets.length : Int) - 1)))])
  | _ => none

def i_CostOf_C (f : FuncId) (ds : List D) : Orc := bif Nat.beq f 109 then i_isChoice_orc ds else bif Nat.beq f 110 then i_System_cost_orc ds else .no
def i_CostOf_A (Size : Int) (Sets : List (List Int)) (Costs : List Int) (choice : List Int) : Ann := .none
def i_CostOf_P (Size : Int) (Sets : List (List Int)) (Costs : List Int) (choice : List Int) : Prop :=
  (PC Try.prog 109 [.agg [.int .i64 Size, .sl (.rows Sets), .sl (.ints Costs)], .sl (.ints choice)] (.one (.d (.bool (goodSys Size Sets Costs && rising choice 0 ((Sets.length : Int) - 1)))))) ∧ (((!(goodSys Size Sets Costs && rising choice 0 ((Sets.length : Int) - 1))) = true → (((0 : Int) = (if goodSys Size Sets Costs && rising choice 0 ((Sets.length : Int) - 1) then costOf Costs choice else 0)) ∧ (false = (goodSys Size Sets Costs && rising choice 0 ((Sets.length : Int) - 1))))) ∧ ((!(goodSys Size Sets Costs && rising choice 0 ((Sets.length : Int) - 1))) = false → (PC Try.prog 110 [.agg [.int .i64 Size, .sl (.rows Sets), .sl (.ints Costs)], .sl (.ints choice)] (.one (.d (.int .i64 (costOf Costs choice))))) ∧ (((costOf Costs choice) = (if goodSys Size Sets Costs && rising choice 0 ((Sets.length : Int) - 1) then costOf Costs choice else 0)) ∧ (true = (goodSys Size Sets Costs && rising choice 0 ((Sets.length : Int) - 1))))))
theorem i_CostOf_vc (Size : Int) (Sets : List (List Int)) (Costs : List Int) (choice : List Int)  (w_Sets : (Sets.length : Int) ≤ 9223372036854775807) (v_Sets : ∀ x9 ∈ Sets, (x9.length : Int) ≤ 9223372036854775807) (w_Costs : (Costs.length : Int) ≤ 9223372036854775807) (w_choice : (choice.length : Int) ≤ 9223372036854775807) : i_CostOf_P Size Sets Costs choice := by
  unfold i_CostOf_P
  refine ⟨i_isChoice_pc Size Sets Costs choice, ?_, ?_⟩
  · intro b1
    try simp only [Bool.not_eq_true', Bool.not_eq_false', Bool.not_not] at b1
    refine ⟨?_, ?_⟩
    · have hq : (goodSys Size Sets Costs && rising choice 0 ((Sets.length : Int) - 1)) = false := by
        revert b1; cases goodSys Size Sets Costs <;> cases rising choice 0 ((Sets.length : Int) - 1) <;> simp
      rw [hq]; rfl
    · have hq : (goodSys Size Sets Costs && rising choice 0 ((Sets.length : Int) - 1)) = false := by
        revert b1; cases goodSys Size Sets Costs <;> cases rising choice 0 ((Sets.length : Int) - 1) <;> simp
      exact hq.symm
  · intro b2
    try simp only [Bool.not_eq_true', Bool.not_eq_false', Bool.not_not] at b2
    refine ⟨?_, ?_, ?_⟩
    · refine i_System_cost_pc Size Sets Costs choice ?_ ?_
      · have hq : goodSys Size Sets Costs = true ∧ rising choice 0 ((Sets.length : Int) - 1) = true := by
          revert b2; cases goodSys Size Sets Costs <;> cases rising choice 0 ((Sets.length : Int) - 1) <;> simp
        exact hq.1
      · have hq : goodSys Size Sets Costs = true ∧ rising choice 0 ((Sets.length : Int) - 1) = true := by
          revert b2; cases goodSys Size Sets Costs <;> cases rising choice 0 ((Sets.length : Int) - 1) <;> simp
        exact hq.2
    · have hq : goodSys Size Sets Costs = true ∧ rising choice 0 ((Sets.length : Int) - 1) = true := by
        revert b2; cases goodSys Size Sets Costs <;> cases rising choice 0 ((Sets.length : Int) - 1) <;> simp
      rw [hq.1, hq.2]; rfl
    · have hq : goodSys Size Sets Costs = true ∧ rising choice 0 ((Sets.length : Int) - 1) = true := by
        revert b2; cases goodSys Size Sets Costs <;> cases rising choice 0 ((Sets.length : Int) - 1) <;> simp
      rw [hq.1, hq.2]; rfl
theorem i_CostOf_pc (Size : Int) (Sets : List (List Int)) (Costs : List Int) (choice : List Int)  : PC Try.prog 53 [.agg [.int .i64 Size, .sl (.rows Sets), .sl (.ints Costs)], .sl (.ints choice)] (.tup [.d (.int .i64 (if goodSys Size Sets Costs && rising choice 0 ((Sets.length : Int) - 1) then costOf Costs choice else 0)), .d (.bool (goodSys Size Sets Costs && rising choice 0 ((Sets.length : Int) - 1)))]) :=
  pc_wf @Try.call53 fun hw => pc_by (by kernel_rfl) Try.func53 @Try.call53 (by kernel_rfl) i_CostOf_C (i_CostOf_A Size Sets Costs choice) (by kernel_rfl) (i_CostOf_vc Size Sets Costs choice hw.1.2.1.1 hw.1.2.1.2 hw.1.2.2.1 hw.2.1) (by kernel_rfl)
def i_CostOf_orc : List D → Orc := orcN [none, some .ints] fun ds => match ds with
  | [.agg [.int .i64 Size, .sl (.rows Sets), .sl (.ints Costs)], .sl (.ints choice)] => some (.tup [.d (.int .i64 (if goodSys Size Sets Costs && rising choice 0 ((Sets.length : Int) - 1) then costOf Costs choice else 0)), .d (.bool (goodSys Size Sets Costs && rising choice 0 ((Sets.length : Int) - 1)))])
  | _ => none

def l_FnExactCostOf_C (f : FuncId) (ds : List D) : Orc := bif Nat.beq f 25 then l_szSystem_orc ds else bif Nat.beq f 27 then l_toSystem_orc ds else bif Nat.beq f 40 then l_toIntS_orc ds else bif Nat.beq f 52 then s_CostOf_orc ds else bif Nat.beq f 53 then i_CostOf_orc ds else bif Nat.beq f 29 then l_eqSystem_orc ds else bif Nat.beq f 43 then l_eqIntS_orc ds else .no
def l_FnExactCostOf_A (Size : Int) (Sets : List (List Int)) (Costs : List Int) (choice : List Int) : Ann := .none
def l_FnExactCostOf_P (Size : Int) (Sets : List (List Int)) (Costs : List Int) (choice : List Int) : Prop :=
  (((decide ((choice.length : Int) > 1048576)) = true → ((true = true))) ∧ ((decide ((choice.length : Int) > 1048576)) = false → (PC Try.prog 25 [.agg [.int .i64 Size, .sl (.rows Sets), .sl (.ints Costs)], .int .i64 1048576] (.one (.d (.int .i64 (szSys Sets Costs 1048576))))) ∧ (((decide ((szSys Sets Costs 1048576) < 0)) = true → ((true = true))) ∧ ((decide ((szSys Sets Costs 1048576) < 0)) = false → (PC Try.prog 27 [.agg [.int .i64 Size, .sl (.rows Sets), .sl (.ints Costs)]] (.one (.d (.agg [.int .i64 Size, .sl (.rows Sets), .sl (.ints Costs)])))) ∧ (PC Try.prog 40 [.sl (.ints choice)] (.one (.d (.sl (.ints choice))))) ∧ (PC Try.prog 52 [.agg [.int .i64 Size, .sl (.rows Sets), .sl (.ints Costs)], .sl (.ints choice)] (.tup [.d (.int .i64 (if goodSys Size Sets Costs && rising choice 0 ((Sets.length : Int) - 1) then costOf Costs choice else 0)), .d (.bool (goodSys Size Sets Costs && rising choice 0 ((Sets.length : Int) - 1)))])) ∧ (PC Try.prog 27 [.agg [.int .i64 Size, .sl (.rows Sets), .sl (.ints Costs)]] (.one (.d (.agg [.int .i64 Size, .sl (.rows Sets), .sl (.ints Costs)])))) ∧ (PC Try.prog 40 [.sl (.ints choice)] (.one (.d (.sl (.ints choice))))) ∧ (PC Try.prog 53 [.agg [.int .i64 Size, .sl (.rows Sets), .sl (.ints Costs)], .sl (.ints choice)] (.tup [.d (.int .i64 (if goodSys Size Sets Costs && rising choice 0 ((Sets.length : Int) - 1) then costOf Costs choice else 0)), .d (.bool (goodSys Size Sets Costs && rising choice 0 ((Sets.length : Int) - 1)))])) ∧ ((!((if goodSys Size Sets Costs && rising choice 0 ((Sets.length : Int) - 1) then costOf Costs choice else 0) != (if goodSys Size Sets Costs && rising choice 0 ((Sets.length : Int) - 1) then costOf Costs choice else 0))) = true → (!((if goodSys Size Sets Costs && rising choice 0 ((Sets.length : Int) - 1) then costOf Costs choice else 0) != (if goodSys Size Sets Costs && rising choice 0 ((Sets.length : Int) - 1) then costOf Costs choice else 0))) = true) ∧ ((!((if goodSys Size Sets Costs && rising choice 0 ((Sets.length : Int) - 1) then costOf Costs choice else 0) != (if goodSys Size Sets Costs && rising choice 0 ((Sets.length : Int) - 1) then costOf Costs choice else 0))) = true → (!((if goodSys Size Sets Costs && rising choice 0 ((Sets.length : Int) - 1) then costOf Costs choice else 0) != (if goodSys Size Sets Costs && rising choice 0 ((Sets.length : Int) - 1) then costOf Costs choice else 0))) = true) ∧ (true = true) ∧ ((((if goodSys Size Sets Costs && rising choice 0 ((Sets.length : Int) - 1) then costOf Costs choice else 0) != (if goodSys Size Sets Costs && rising choice 0 ((Sets.length : Int) - 1) then costOf Costs choice else 0)) = true → true = true)) ∧ ((((if goodSys Size Sets Costs && rising choice 0 ((Sets.length : Int) - 1) then costOf Costs choice else 0) != (if goodSys Size Sets Costs && rising choice 0 ((Sets.length : Int) - 1) then costOf Costs choice else 0)) = false → (!((if goodSys Size Sets Costs && rising choice 0 ((Sets.length : Int) - 1) then costOf Costs choice else 0) != (if goodSys Size Sets Costs && rising choice 0 ((Sets.length : Int) - 1) then costOf Costs choice else 0))) = true)) ∧ (((cond ((if goodSys Size Sets Costs && rising choice 0 ((Sets.length : Int) - 1) then costOf Costs choice else 0) != (if goodSys Size Sets Costs && rising choice 0 ((Sets.length : Int) - 1) then costOf Costs choice else 0)) true ((goodSys Size Sets Costs && rising choice 0 ((Sets.length : Int) - 1)) != (goodSys Size Sets Costs && rising choice 0 ((Sets.length : Int) - 1)))) = true → ((false = true))) ∧ ((cond ((if goodSys Size Sets Costs && rising choice 0 ((Sets.length : Int) - 1) then costOf Costs choice else 0) != (if goodSys Size Sets Costs && rising choice 0 ((Sets.length : Int) - 1) then costOf Costs choice else 0)) true ((goodSys Size Sets Costs && rising choice 0 ((Sets.length : Int) - 1)) != (goodSys Size Sets Costs && rising choice 0 ((Sets.length : Int) - 1)))) = false → (true = true) ∧ (PC Try.prog 27 [.agg [.int .i64 Size, .sl (.rows Sets), .sl (.ints Costs)]] (.one (.d (.agg [.int .i64 Size, .sl (.rows Sets), .sl (.ints Costs)])))) ∧ (PC Try.prog 29 [.agg [.int .i64 Size, .sl (.rows Sets), .sl (.ints Costs)], .agg [.int .i64 Size, .sl (.rows Sets), .sl (.ints Costs)]] (.one (.d (.bool ((Size == Size) && (Sets == Sets) && (Costs == Costs)))))) ∧ (((!((Size == Size) && (Sets == Sets) && (Costs == Costs))) = true → ((false = true))) ∧ ((!((Size == Size) && (Sets == Sets) && (Costs == Costs))) = false → (PC Try.prog 40 [.sl (.ints choice)] (.one (.d (.sl (.ints choice))))) ∧ (PC Try.prog 43 [.sl (.ints choice), .sl (.ints choice)] (.one (.d (.bool (choice == choice))))) ∧ (((!(choice == choice)) = true → ((false = true))) ∧ ((!(choice == choice)) = false → ((true = true))))))))))))
theorem l_FnExactCostOf_vc (Size : Int) (Sets : List (List Int)) (Costs : List Int) (choice : List Int)  (w_Sets : (Sets.length : Int) ≤ 9223372036854775807) (v_Sets : ∀ x9 ∈ Sets, (x9.length : Int) ≤ 9223372036854775807) (w_Costs : (Costs.length : Int) ≤ 9223372036854775807) (w_choice : (choice.length : Int) ≤ 9223372036854775807) : l_FnExactCostOf_P Size Sets Costs choice := by
  unfold l_FnExactCostOf_P
  refine ⟨?_, ?_⟩
  · intro b1
    try simp only [nrmT] at b1
    exact rfl
  · intro b2
    try simp only [nrmT] at b2
    refine ⟨?_, ?_, ?_⟩
    · refine l_szSystem_pc Size Sets Costs 1048576 ?_
      · first | omega | rfl | (intro hg; simp only [nrmT] at hg; omega) | (intro g1 g2; simp [g1, g2]; done) | (intro g1; simp at g1 ⊢; simp [g1]; done) | (simp only [nrmT] at *; omega) | (simp at * <;> omega) | (simp_all <;> omega) | (simp_all; done)
    · intro b3
      try simp only [nrmT] at b3
      exact rfl
    · intro b4
      try simp only [nrmT] at b4
      refine ⟨?_, ?_, s_CostOf_pc Size Sets Costs choice, ?_, ?_, i_CostOf_pc Size Sets Costs choice, id, id, rfl, fun _ => rfl, ?_, ?_, ?_⟩
      · refine l_toSystem_pc Size Sets Costs ?_ ?_ ?_
        · have := szSys_bound b4; omega
        · have h := (szSys_bound b4).2.1
          intro xs hx
          have h := h xs hx
          omega
        · have := szSys_bound b4; omega
      · refine l_toIntS_pc choice ?_
        · first | omega | rfl | (intro hg; simp only [nrmT] at hg; omega) | (intro g1 g2; simp [g1, g2]; done) | (intro g1; simp at g1 ⊢; simp [g1]; done) | (simp only [nrmT] at *; omega) | (simp at * <;> omega) | (simp_all <;> omega) | (simp_all; done)
      · refine l_toSystem_pc Size Sets Costs ?_ ?_ ?_
        · have := szSys_bound b4; omega
        · have h := (szSys_bound b4).2.1
          intro xs hx
          have h := h xs hx
          omega
        · have := szSys_bound b4; omega
      · refine l_toIntS_pc choice ?_
        · first | omega | rfl | (intro hg; simp only [nrmT] at hg; omega) | (intro g1 g2; simp [g1, g2]; done) | (intro g1; simp at g1 ⊢; simp [g1]; done) | (simp only [nrmT] at *; omega) | (simp at * <;> omega) | (simp_all <;> omega) | (simp_all; done)
      · first | omega | rfl | (intro hg; simp only [nrmT] at hg; omega) | (intro g1 g2; simp [g1, g2]; done) | (intro g1; simp at g1 ⊢; simp [g1]; done) | (simp only [nrmT] at *; omega) | (simp at * <;> omega) | (simp_all <;> omega) | (simp_all; done)
      · intro b5
        first | omega | rfl | (intro hg; simp only [nrmT] at hg; omega) | (intro g1 g2; simp [g1, g2]; done) | (intro g1; simp at g1 ⊢; simp [g1]; done) | (simp only [nrmT] at *; omega) | (simp at * <;> omega) | (simp_all <;> omega) | (simp_all; done)
      · intro b6
        refine ⟨rfl, ?_, l_eqSystem_pc Size Sets Costs Size Sets Costs, ?_, ?_⟩
        · refine l_toSystem_pc Size Sets Costs ?_ ?_ ?_
          · have := szSys_bound b4; omega
          · have h := (szSys_bound b4).2.1
            intro xs hx
            have h := h xs hx
            omega
          · have := szSys_bound b4; omega
        · intro b7
          try simp only [Bool.not_eq_true', Bool.not_eq_false', Bool.not_not] at b7
          first | omega | rfl | (intro hg; simp only [nrmT] at hg; omega) | (intro g1 g2; simp [g1, g2]; done) | (intro g1; simp at g1 ⊢; simp [g1]; done) | (simp only [nrmT] at *; omega) | (simp at * <;> omega) | (simp_all <;> omega) | (simp_all; done)
        · intro b8
          try simp only [Bool.not_eq_true', Bool.not_eq_false', Bool.not_not] at b8
          refine ⟨?_, l_eqIntS_pc choice choice, ?_, ?_⟩
          · refine l_toIntS_pc choice ?_
            · first | omega | rfl | (intro hg; simp only [nrmT] at hg; omega) | (intro g1 g2; simp [g1, g2]; done) | (intro g1; simp at g1 ⊢; simp [g1]; done) | (simp only [nrmT] at *; omega) | (simp at * <;> omega) | (simp_all <;> omega) | (simp_all; done)
          · intro b9
            try simp only [nrmT] at b9
            first | omega | rfl | (intro hg; simp only [nrmT] at hg; omega) | (intro g1 g2; simp [g1, g2]; done) | (intro g1; simp at g1 ⊢; simp [g1]; done) | (simp only [nrmT] at *; omega) | (simp at * <;> omega) | (simp_all <;> omega) | (simp_all; done)
          · intro b10
            try simp only [nrmT] at b10
            exact rfl
theorem l_FnExactCostOf_pc (Size : Int) (Sets : List (List Int)) (Costs : List Int) (choice : List Int)  : PC Try.prog 10 [.agg [.int .i64 Size, .sl (.rows Sets), .sl (.ints Costs)], .sl (.ints choice)] (.one (.d (.bool true))) :=
  pc_wf @Try.call10 fun hw => pc_by (by kernel_rfl) Try.func10 @Try.call10 (by kernel_rfl) l_FnExactCostOf_C (l_FnExactCostOf_A Size Sets Costs choice) (by kernel_rfl) (l_FnExactCostOf_vc Size Sets Costs choice hw.1.2.1.1 hw.1.2.1.2 hw.1.2.2.1 hw.2.1) (by kernel_rfl)
def l_FnExactCostOf_orc : List D → Orc := orcN [none, some .ints] fun ds => match ds with
  | [.agg [.int .i64 Size, .sl (.rows Sets), .sl (.ints Costs)], .sl (.ints choice)] => some (.one (.d (.bool true)))
  | _ => none

def pricedAt (set prices : List Int) (k : Nat) : Int := prices.getD (set.getD k 0).toNat 0
def priced (set prices : List Int) : Int := sumTo (pricedAt set prices) set.length
theorem rowOk_at {row : List Int} {n most : Int} (h : rowOk row n most = true) : (row.length : Int) = n ∧ ∀ k, k < row.length → 0 ≤ row.getD k 0 ∧ row.getD k 0 ≤ most := by
  simp only [rowOk, Bool.and_eq_true, decide_eq_true_eq] at h
  exact ⟨h.2, fun k hk => inB_le (List.all_eq_true.1 h.1 _ (getD_mem hk))⟩
theorem pricedAt_bound {size : Int} {set prices : List Int} (h : rising set 0 (size - 1) = true) (hp : rowOk prices size 1000000 = true) {k : Nat} (hk : k < set.length) :
    0 ≤ pricedAt set prices k ∧ pricedAt set prices k ≤ 1000000 := by
  have h1 := rising_at h k hk
  obtain ⟨h2, h3⟩ := rowOk_at hp
  exact h3 _ (by omega)
theorem priced_bound {size : Int} {set prices : List Int} (h : rising set 0 (size - 1) = true) (hp : rowOk prices size 1000000 = true) (hs : 0 ≤ size ∧ size ≤ 8) : 0 ≤ priced set prices ∧ priced set prices ≤ 8000000 := by
  have h1 := sumTo_bound (f := pricedAt set prices) set.length (fun k hk => pricedAt_bound h hp hk)
  have h2 := rising_len h (by omega)
  unfold priced
  omega

abbrev s_l6Priced_JJ0 (set : List Int) (prices : List Int) (out : Int) (i : Int) : Prop := (0 ≤ i) ∧ (i ≤ (set.length : Int)) ∧ (out = sumTo (pricedAt set prices) i.toNat)
abbrev s_l6Priced_mJ0 (set : List Int) (prices : List Int) (out : Int) (i : Int) : Nat := (set.length - i).toNat
def s_l6Priced_C (f : FuncId) (ds : List D) : Orc := .no
def s_l6Priced_A (set : List Int) (prices : List Int) : Ann := .two (.none) (.two (.none) (.two (.two (.none) (.loop (cut2 (fun (out : Int) (i : Int) => s_l6Priced_JJ0 set prices out i) (fun (out : Int) (i : Int) => [(0, .d false (.sl (.ints set))), (1, .d false (.sl (.ints prices))), (5, .d true (.int .i64 out)), (6, .d true (.int .i64 i))]) (fun (out : Int) (i : Int) => [])) (fun g => s_l6Priced_mJ0 set prices g.1 g.2) (fun _ => .none))) (.none)))
def s_l6Priced_P (set : List Int) (prices : List Int) : Prop :=
  ((∃ out' : Int, ∃ i' : Int, (s_l6Priced_JJ0 set prices out' i') ∧ (set = set) ∧ (prices = prices) ∧ ((0 : Int) = out') ∧ ((0 : Int) = i')) ∧ (∀ out : Int, ∀ i : Int, (s_l6Priced_JJ0 set prices out i) → (((decide (i < (set.length : Int))) = true → ((0 : Int) ≤ i) ∧ ((i : Int) < set.length) ∧ (i.toNat < set.length) ∧ ((0 : Int) ≤ (set.getD i.toNat 0)) ∧ (((set.getD i.toNat 0) : Int) < prices.length) ∧ ((set.getD i.toNat 0).toNat < prices.length) ∧ (-9223372036854775808 ≤ (out + (prices.getD ((set.getD i.toNat 0).toNat) 0)) ∧ (out + (prices.getD ((set.getD i.toNat 0).toNat) 0)) ≤ 9223372036854775807) ∧ (-9223372036854775808 ≤ (i + 1) ∧ (i + 1) ≤ 9223372036854775807) ∧ (∃ out' : Int, ∃ i' : Int, (s_l6Priced_JJ0 set prices out' i') ∧ (s_l6Priced_mJ0 set prices out' i' < s_l6Priced_mJ0 set prices out i) ∧ (set = set) ∧ (prices = prices) ∧ ((out + (prices.getD ((set.getD i.toNat 0).toNat) 0)) = out') ∧ ((i + 1) = i'))) ∧ ((decide (i < (set.length : Int))) = false → ((out = (priced set prices)))))))
theorem s_l6Priced_vc (set : List Int) (prices : List Int) (hp : ∃ size : Int, rising set 0 (size - 1) = true ∧ rowOk prices size 1000000 = true ∧ 0 ≤ size ∧ size ≤ 8) (w_set : (set.length : Int) ≤ 9223372036854775807) (w_prices : (prices.length : Int) ≤ 9223372036854775807) : s_l6Priced_P set prices := by
  unfold s_l6Priced_P
  obtain ⟨size, hs, hp, h8⟩ := hp
  have cl := rising_len hs (by omega)
  have ca := fun k => rising_at hs k
  obtain ⟨pl, pb⟩ := rowOk_at hp
  have cb := fun k (hk : k < set.length) => pricedAt_bound hs hp hk
  refine ⟨?_, ?_⟩
  · refine ⟨0, 0, ?_⟩
    refine ⟨?_, rfl, rfl, rfl, rfl⟩
    · refine ⟨?_, ?_, ?_⟩
      · first | omega | rfl | (intro hg; simp only [nrmT] at hg; omega) | (intro g1 g2; simp [g1, g2]; done) | (intro g1; simp at g1 ⊢; simp [g1]; done) | (simp only [nrmT] at *; omega) | (simp at * <;> omega) | (simp_all <;> omega) | (simp_all; done)
      · first | omega | rfl | (intro hg; simp only [nrmT] at hg; omega) | (intro g1 g2; simp [g1, g2]; done) | (intro g1; simp at g1 ⊢; simp [g1]; done) | (simp only [nrmT] at *; omega) | (simp at * <;> omega) | (simp_all <;> omega) | (simp_all; done)
      · first | omega | rfl | (intro hg; simp only [nrmT] at hg; omega) | (intro g1 g2; simp [g1, g2]; done) | (intro g1; simp at g1 ⊢; simp [g1]; done) | (simp only [nrmT] at *; omega) | (simp at * <;> omega) | (simp_all <;> omega) | (simp_all; done)
  · intro out i hJ
    obtain ⟨h1, h2, h3⟩ := hJ
    refine ⟨?_, ?_⟩
    · intro b1
      try simp only [nrmT] at b1
      refine ⟨?_, ?_, ?_, ?_, ?_, ?_, ?_, ?_, ?_⟩
      · first | omega | rfl | (intro hg; simp only [nrmT] at hg; omega) | (intro g1 g2; simp [g1, g2]; done) | (intro g1; simp at g1 ⊢; simp [g1]; done) | (simp only [nrmT] at *; omega) | (simp at * <;> omega) | (simp_all <;> omega) | (simp_all; done)
      · first | omega | rfl | (intro hg; simp only [nrmT] at hg; omega) | (intro g1 g2; simp [g1, g2]; done) | (intro g1; simp at g1 ⊢; simp [g1]; done) | (simp only [nrmT] at *; omega) | (simp at * <;> omega) | (simp_all <;> omega) | (simp_all; done)
      · first | omega | rfl | (intro hg; simp only [nrmT] at hg; omega) | (intro g1 g2; simp [g1, g2]; done) | (intro g1; simp at g1 ⊢; simp [g1]; done) | (simp only [nrmT] at *; omega) | (simp at * <;> omega) | (simp_all <;> omega) | (simp_all; done)
      · have := ca i.toNat (by omega)
        omega
      · have := ca i.toNat (by omega)
        omega
      · have := ca i.toNat (by omega)
        omega
      · have h6 := sumTo_bound i.toNat (fun k hk => cb k (by omega))
        have h7 := cb i.toNat (by omega)
        unfold pricedAt at h7
        omega
      · first | omega | rfl | (intro hg; simp only [nrmT] at hg; omega) | (intro g1 g2; simp [g1, g2]; done) | (intro g1; simp at g1 ⊢; simp [g1]; done) | (simp only [nrmT] at *; omega) | (simp at * <;> omega) | (simp_all <;> omega) | (simp_all; done)
      · refine ⟨(out + (prices.getD ((set.getD i.toNat 0).toNat) 0)), (i + 1), ?_⟩
        refine ⟨?_, ?_, rfl, rfl, rfl, rfl⟩
        · refine ⟨?_, ?_, ?_⟩
          · first | omega | rfl | (intro hg; simp only [nrmT] at hg; omega) | (intro g1 g2; simp [g1, g2]; done) | (intro g1; simp at g1 ⊢; simp [g1]; done) | (simp only [nrmT] at *; omega) | (simp at * <;> omega) | (simp_all <;> omega) | (simp_all; done)
          · first | omega | rfl | (intro hg; simp only [nrmT] at hg; omega) | (intro g1 g2; simp [g1, g2]; done) | (intro g1; simp at g1 ⊢; simp [g1]; done) | (simp only [nrmT] at *; omega) | (simp at * <;> omega) | (simp_all <;> omega) | (simp_all; done)
          · rw [sumTo_step h1, h3]; rfl
        · first | (show _ < _; omega) | (simp only [s_l6Priced_mJ0]; omega) | (simp only [s_l6Priced_mJ0] at *; simp at *; omega)
    · intro b2
      try simp only [nrmT] at b2
      unfold priced
      rw [h3]
      congr 1
      omega
theorem s_l6Priced_pc (set : List Int) (prices : List Int) (hp : ∃ size : Int, rising set 0 (size - 1) = true ∧ rowOk prices size 1000000 = true ∧ 0 ≤ size ∧ size ≤ 8) : PC Try.prog 117 [.sl (.ints set), .sl (.ints prices)] (.one (.d (.int .i64 (priced set prices)))) :=
  pc_wf @Try.call117 fun hw => pc_by (by kernel_rfl) Try.func117 @Try.call117 (by kernel_rfl) s_l6Priced_C (s_l6Priced_A set prices) (by kernel_rfl) (s_l6Priced_vc set prices hp hw.1 hw.2.1) (by kernel_rfl)
def s_l6Priced_orc : List D → Orc := orcN [some .ints, some .ints] fun ds => match ds with
  | [.sl (.ints set), .sl (.ints prices)] => some (.one (.d (.int .i64 (priced set prices))))
  | _ => none

abbrev i_System_priceOf_JJ0 (Size : Int) (Sets : List (List Int)) (Costs : List Int) (k : Int) (prices : List Int) (out : Int) (i : Int) : Prop := (0 ≤ i) ∧ (i ≤ ((Sets.getD k.toNat []).length : Int)) ∧ (out = sumTo (pricedAt (Sets.getD k.toNat []) prices) i.toNat)
abbrev i_System_priceOf_mJ0 (Size : Int) (Sets : List (List Int)) (Costs : List Int) (k : Int) (prices : List Int) (out : Int) (i : Int) : Nat := ((Sets.getD k.toNat []).length - i).toNat
def i_System_priceOf_C (f : FuncId) (ds : List D) : Orc := .no
def i_System_priceOf_A (Size : Int) (Sets : List (List Int)) (Costs : List Int) (k : Int) (prices : List Int) : Ann := .two (.none) (.two (.none) (.two (.two (.none) (.loop (cut2 (fun (out : Int) (i : Int) => i_System_priceOf_JJ0 Size Sets Costs k prices out i) (fun (out : Int) (i : Int) => [(2, .d false (.sl (.ints prices))), (7, .d true (.int .i64 out)), (14, .d false (.sl (.ints (Sets.getD k.toNat [])))), (15, .d true (.int .i64 (((Sets.getD k.toNat []).length) : Int))), (16, .d true (.int .i64 i))]) (fun (out : Int) (i : Int) => [])) (fun g => i_System_priceOf_mJ0 Size Sets Costs k prices g.1 g.2) (fun _ => .none))) (.none)))
def i_System_priceOf_P (Size : Int) (Sets : List (List Int)) (Costs : List Int) (k : Int) (prices : List Int) : Prop :=
  ((0 : Int) ≤ k) ∧ ((k : Int) < Sets.length) ∧ (k.toNat < Sets.length) ∧ ((∃ out' : Int, ∃ i' : Int, (i_System_priceOf_JJ0 Size Sets Costs k prices out' i') ∧ (prices = prices) ∧ ((0 : Int) = out') ∧ ((Sets.getD k.toNat []) = (Sets.getD k.toNat [])) ∧ ((((Sets.getD k.toNat []).length) : Int) = (((Sets.getD k.toNat []).length) : Int)) ∧ ((0 : Int) = i')) ∧ (∀ out : Int, ∀ i : Int, (i_System_priceOf_JJ0 Size Sets Costs k prices out i) → (((decide (i < (((Sets.getD k.toNat []).length) : Int))) = true → ((0 : Int) ≤ i) ∧ ((i : Int) < (Sets.getD k.toNat []).length) ∧ (i.toNat < (Sets.getD k.toNat []).length) ∧ ((0 : Int) ≤ ((Sets.getD k.toNat []).getD i.toNat 0)) ∧ ((((Sets.getD k.toNat []).getD i.toNat 0) : Int) < prices.length) ∧ (((Sets.getD k.toNat []).getD i.toNat 0).toNat < prices.length) ∧ (-9223372036854775808 ≤ (out + (prices.getD (((Sets.getD k.toNat []).getD i.toNat 0).toNat) 0)) ∧ (out + (prices.getD (((Sets.getD k.toNat []).getD i.toNat 0).toNat) 0)) ≤ 9223372036854775807) ∧ (-9223372036854775808 ≤ (i + 1) ∧ (i + 1) ≤ 9223372036854775807) ∧ (∃ out' : Int, ∃ i' : Int, (i_System_priceOf_JJ0 Size Sets Costs k prices out' i') ∧ (i_System_priceOf_mJ0 Size Sets Costs k prices out' i' < i_System_priceOf_mJ0 Size Sets Costs k prices out i) ∧ (prices = prices) ∧ ((out + (prices.getD (((Sets.getD k.toNat []).getD i.toNat 0).toNat) 0)) = out') ∧ ((Sets.getD k.toNat []) = (Sets.getD k.toNat [])) ∧ ((((Sets.getD k.toNat []).length) : Int) = (((Sets.getD k.toNat []).length) : Int)) ∧ ((i + 1) = i'))) ∧ ((decide (i < (((Sets.getD k.toNat []).length) : Int))) = false → ((out = (priced (Sets.getD k.toNat []) prices)))))))
theorem i_System_priceOf_vc (Size : Int) (Sets : List (List Int)) (Costs : List Int) (k : Int) (prices : List Int) (hg : goodSys Size Sets Costs = true) (hk : 0 ≤ k ∧ k < (Sets.length : Int)) (hp : rowOk prices Size 1000000 = true) (w_Sets : (Sets.length : Int) ≤ 9223372036854775807) (v_Sets : ∀ x9 ∈ Sets, (x9.length : Int) ≤ 9223372036854775807) (w_Costs : (Costs.length : Int) ≤ 9223372036854775807) (w_prices : (prices.length : Int) ≤ 9223372036854775807) : i_System_priceOf_P Size Sets Costs k prices := by
  unfold i_System_priceOf_P
  have gf := gs_facts hg
  have hs := gs_set hg (k := k.toNat) (by omega)
  have cl := rising_len hs (by omega)
  have ca := fun k => rising_at hs k
  obtain ⟨pl, pb⟩ := rowOk_at hp
  have cb := fun j (hj : j < (Sets.getD k.toNat []).length) => pricedAt_bound hs hp hj
  refine ⟨?_, ?_, ?_, ?_, ?_⟩
  · first | omega | rfl | (intro hg; simp only [nrmT] at hg; omega) | (intro g1 g2; simp [g1, g2]; done) | (intro g1; simp at g1 ⊢; simp [g1]; done) | (simp only [nrmT] at *; omega) | (simp at * <;> omega) | (simp_all <;> omega) | (simp_all; done)
  · first | omega | rfl | (intro hg; simp only [nrmT] at hg; omega) | (intro g1 g2; simp [g1, g2]; done) | (intro g1; simp at g1 ⊢; simp [g1]; done) | (simp only [nrmT] at *; omega) | (simp at * <;> omega) | (simp_all <;> omega) | (simp_all; done)
  · first | omega | rfl | (intro hg; simp only [nrmT] at hg; omega) | (intro g1 g2; simp [g1, g2]; done) | (intro g1; simp at g1 ⊢; simp [g1]; done) | (simp only [nrmT] at *; omega) | (simp at * <;> omega) | (simp_all <;> omega) | (simp_all; done)
  · refine ⟨0, 0, ?_⟩
    refine ⟨?_, rfl, rfl, rfl, rfl, rfl⟩
    · refine ⟨?_, ?_, ?_⟩
      · first | omega | rfl | (intro hg; simp only [nrmT] at hg; omega) | (intro g1 g2; simp [g1, g2]; done) | (intro g1; simp at g1 ⊢; simp [g1]; done) | (simp only [nrmT] at *; omega) | (simp at * <;> omega) | (simp_all <;> omega) | (simp_all; done)
      · first | omega | rfl | (intro hg; simp only [nrmT] at hg; omega) | (intro g1 g2; simp [g1, g2]; done) | (intro g1; simp at g1 ⊢; simp [g1]; done) | (simp only [nrmT] at *; omega) | (simp at * <;> omega) | (simp_all <;> omega) | (simp_all; done)
      · first | omega | rfl | (intro hg; simp only [nrmT] at hg; omega) | (intro g1 g2; simp [g1, g2]; done) | (intro g1; simp at g1 ⊢; simp [g1]; done) | (simp only [nrmT] at *; omega) | (simp at * <;> omega) | (simp_all <;> omega) | (simp_all; done)
  · intro out i hJ
    obtain ⟨h1, h2, h3⟩ := hJ
    refine ⟨?_, ?_⟩
    · intro b1
      try simp only [nrmT] at b1
      refine ⟨?_, ?_, ?_, ?_, ?_, ?_, ?_, ?_, ?_⟩
      · first | omega | rfl | (intro hg; simp only [nrmT] at hg; omega) | (intro g1 g2; simp [g1, g2]; done) | (intro g1; simp at g1 ⊢; simp [g1]; done) | (simp only [nrmT] at *; omega) | (simp at * <;> omega) | (simp_all <;> omega) | (simp_all; done)
      · first | omega | rfl | (intro hg; simp only [nrmT] at hg; omega) | (intro g1 g2; simp [g1, g2]; done) | (intro g1; simp at g1 ⊢; simp [g1]; done) | (simp only [nrmT] at *; omega) | (simp at * <;> omega) | (simp_all <;> omega) | (simp_all; done)
      · first | omega | rfl | (intro hg; simp only [nrmT] at hg; omega) | (intro g1 g2; simp [g1, g2]; done) | (intro g1; simp at g1 ⊢; simp [g1]; done) | (simp only [nrmT] at *; omega) | (simp at * <;> omega) | (simp_all <;> omega) | (simp_all; done)
      · have := ca i.toNat (by omega)
        omega
      · have := ca i.toNat (by omega)
        omega
      · have := ca i.toNat (by omega)
        omega
      · have h6 := sumTo_bound i.toNat (fun k hk => cb k (by omega))
        have h7 := cb i.toNat (by omega)
        unfold pricedAt at h7
        omega
      · first | omega | rfl | (intro hg; simp only [nrmT] at hg; omega) | (intro g1 g2; simp [g1, g2]; done) | (intro g1; simp at g1 ⊢; simp [g1]; done) | (simp only [nrmT] at *; omega) | (simp at * <;> omega) | (simp_all <;> omega) | (simp_all; done)
      · refine ⟨(out + (prices.getD (((Sets.getD k.toNat []).getD i.toNat 0).toNat) 0)), (i + 1), ?_⟩
        refine ⟨?_, ?_, rfl, rfl, rfl, rfl, rfl⟩
        · refine ⟨?_, ?_, ?_⟩
          · first | omega | rfl | (intro hg; simp only [nrmT] at hg; omega) | (intro g1 g2; simp [g1, g2]; done) | (intro g1; simp at g1 ⊢; simp [g1]; done) | (simp only [nrmT] at *; omega) | (simp at * <;> omega) | (simp_all <;> omega) | (simp_all; done)
          · first | omega | rfl | (intro hg; simp only [nrmT] at hg; omega) | (intro g1 g2; simp [g1, g2]; done) | (intro g1; simp at g1 ⊢; simp [g1]; done) | (simp only [nrmT] at *; omega) | (simp at * <;> omega) | (simp_all <;> omega) | (simp_all; done)
          · rw [sumTo_step h1, h3]; rfl
        · first | (show _ < _; omega) | (simp only [i_System_priceOf_mJ0]; omega) | (simp only [i_System_priceOf_mJ0] at *; simp at *; omega)
    · intro b2
      try simp only [nrmT] at b2
      unfold priced
      rw [h3]
      congr 1
      omega
theorem i_System_priceOf_pc (Size : Int) (Sets : List (List Int)) (Costs : List Int) (k : Int) (prices : List Int) (hg : goodSys Size Sets Costs = true) (hk : 0 ≤ k ∧ k < (Sets.length : Int)) (hp : rowOk prices Size 1000000 = true) : PC Try.prog 118 [.agg [.int .i64 Size, .sl (.rows Sets), .sl (.ints Costs)], .int .i64 k, .sl (.ints prices)] (.one (.d (.int .i64 (priced (Sets.getD k.toNat []) prices)))) :=
  pc_wf @Try.call118 fun hw => pc_by (by kernel_rfl) Try.func118 @Try.call118 (by kernel_rfl) i_System_priceOf_C (i_System_priceOf_A Size Sets Costs k prices) (by kernel_rfl) (i_System_priceOf_vc Size Sets Costs k prices hg hk hp hw.1.2.1.1 hw.1.2.1.2 hw.1.2.2.1 hw.2.2.1) (by kernel_rfl)
def i_System_priceOf_orc : List D → Orc := orcN [none, none, some .ints] fun ds => match ds with
  | [.agg [.int .i64 Size, .sl (.rows Sets), .sl (.ints Costs)], .int .i64 k, .sl (.ints prices)] => some (.one (.d (.int .i64 (priced (Sets.getD k.toNat []) prices))))
  | _ => none

def fairAt (Sets : List (List Int)) (Costs prices : List Int) (scale : Int) (k : Nat) : Bool := decide (priced (Sets.getD k []) prices ≤ Costs.getD k 0 * scale)
def fair (Sets : List (List Int)) (Costs prices : List Int) (scale : Int) : Bool := allTo (fairAt Sets Costs prices scale) Sets.length
theorem mul_small {x y : Int} (hx : 1 ≤ x ∧ x ≤ 99) (hy : 1 ≤ y ∧ y ≤ 1000000) : 1 ≤ x * y ∧ x * y ≤ 99000000 := by
  constructor
  · exact Int.le_trans (by omega : (1 : Int) ≤ 1 * 1) (Int.mul_le_mul hx.1 hy.1 (by omega) (by omega))
  · exact Int.le_trans (Int.mul_le_mul hx.2 hy.2 (by omega) (by omega)) (by omega)

abbrev s_ArePrices_JJ0 (Size : Int) (Sets : List (List Int)) (Costs : List Int) (prices : List Int) (scale : Int) (i : Int) : Prop := (0 ≤ i) ∧ (i ≤ (Sets.length : Int)) ∧ (allTo (fairAt Sets Costs prices scale) i.toNat = true) ∧ (goodSys Size Sets Costs = true) ∧ (rowOk prices Size 1000000 = true) ∧ (inB scale 1 1000000 = true)
abbrev s_ArePrices_mJ0 (Size : Int) (Sets : List (List Int)) (Costs : List Int) (prices : List Int) (scale : Int) (i : Int) : Nat := (Sets.length - i).toNat
def s_ArePrices_C (f : FuncId) (ds : List D) : Orc := bif Nat.beq f 85 then s_l6Good_orc ds else bif Nat.beq f 116 then s_l2Row_orc ds else bif Nat.beq f 81 then s_l1In_orc ds else bif Nat.beq f 117 then s_l6Priced_orc ds else .no
def s_ArePrices_A (Size : Int) (Sets : List (List Int)) (Costs : List Int) (prices : List Int) (scale : Int) : Ann := .two (.none) (.two (.none) (.two (.two (.none) (.loop (cut1 (fun (i : Int) => s_ArePrices_JJ0 Size Sets Costs prices scale i) (fun (i : Int) => [(1, .d false (.sl (.ints prices))), (2, .d false (.int .i64 scale)), (3, .ptr 3 0), (8, .d true (.int .i64 i))]) (fun (i : Int) => [(3, .box 31 [.d false (.int .i64 Size), .d false (.sl (.rows Sets)), .d false (.sl (.ints Costs))])])) (fun g => s_ArePrices_mJ0 Size Sets Costs prices scale g) (fun _ => .none))) (.none)))
def s_ArePrices_P (Size : Int) (Sets : List (List Int)) (Costs : List Int) (prices : List Int) (scale : Int) : Prop :=
  (PC Try.prog 85 [.agg [.int .i64 Size, .sl (.rows Sets), .sl (.ints Costs)]] (.one (.d (.bool (goodSys Size Sets Costs))))) ∧ ((!(!(goodSys Size Sets Costs))) = true → (!(!(goodSys Size Sets Costs))) = true) ∧ ((!(!(goodSys Size Sets Costs))) = true → (!(!(goodSys Size Sets Costs))) = true) ∧ ((!(!(goodSys Size Sets Costs))) = true → (!(!(goodSys Size Sets Costs))) = true) ∧ ((!(!(goodSys Size Sets Costs))) = true → PC Try.prog 116 [.sl (.ints prices), .int .i64 Size, .int .i64 1000000] (.one (.d (.bool (rowOk prices Size 1000000))))) ∧ ((!(!(goodSys Size Sets Costs))) = true → (!(!(goodSys Size Sets Costs))) = true) ∧ (true = true) ∧ (((!(goodSys Size Sets Costs)) = true → true = true)) ∧ (((!(goodSys Size Sets Costs)) = false → (!(!(goodSys Size Sets Costs))) = true)) ∧ ((!(cond (!(goodSys Size Sets Costs)) true (!(rowOk prices Size 1000000)))) = true → (!(cond (!(goodSys Size Sets Costs)) true (!(rowOk prices Size 1000000)))) = true) ∧ ((!(cond (!(goodSys Size Sets Costs)) true (!(rowOk prices Size 1000000)))) = true → PC Try.prog 81 [.int .i64 scale, .int .i64 1, .int .i64 1000000] (.one (.d (.bool (inB scale 1 1000000))))) ∧ ((!(cond (!(goodSys Size Sets Costs)) true (!(rowOk prices Size 1000000)))) = true → (!(cond (!(goodSys Size Sets Costs)) true (!(rowOk prices Size 1000000)))) = true) ∧ (true = true) ∧ (((cond (!(goodSys Size Sets Costs)) true (!(rowOk prices Size 1000000))) = true → true = true)) ∧ (((cond (!(goodSys Size Sets Costs)) true (!(rowOk prices Size 1000000))) = false → (!(cond (!(goodSys Size Sets Costs)) true (!(rowOk prices Size 1000000)))) = true)) ∧ (((cond (cond (!(goodSys Size Sets Costs)) true (!(rowOk prices Size 1000000))) true (!(inB scale 1 1000000))) = true → ((false = ((goodSys Size Sets Costs && rowOk prices Size 1000000 && inB scale 1 1000000) && fair Sets Costs prices scale)) ∧ (false = (goodSys Size Sets Costs && rowOk prices Size 1000000 && inB scale 1 1000000)))) ∧ ((cond (cond (!(goodSys Size Sets Costs)) true (!(rowOk prices Size 1000000))) true (!(inB scale 1 1000000))) = false → ((∃ i' : Int, (s_ArePrices_JJ0 Size Sets Costs prices scale i') ∧ (prices = prices) ∧ (scale = scale) ∧ ((0 : Int) = i') ∧ (Size = Size) ∧ (Sets = Sets) ∧ (Costs = Costs)) ∧ (∀ i : Int, (s_ArePrices_JJ0 Size Sets Costs prices scale i) → (((decide (i < (Sets.length : Int))) = true → (true = true) ∧ ((0 : Int) ≤ i) ∧ ((i : Int) < Sets.length) ∧ (i.toNat < Sets.length) ∧ (PC Try.prog 117 [.sl (.ints (Sets.getD i.toNat [])), .sl (.ints prices)] (.one (.d (.int .i64 (priced (Sets.getD i.toNat []) prices))))) ∧ ((0 : Int) ≤ i) ∧ ((i : Int) < Costs.length) ∧ (i.toNat < Costs.length) ∧ (-9223372036854775808 ≤ ((Costs.getD i.toNat 0) * scale) ∧ ((Costs.getD i.toNat 0) * scale) ≤ 9223372036854775807) ∧ (((decide ((priced (Sets.getD i.toNat []) prices) > ((Costs.getD i.toNat 0) * scale))) = true → ((false = ((goodSys Size Sets Costs && rowOk prices Size 1000000 && inB scale 1 1000000) && fair Sets Costs prices scale)) ∧ (true = (goodSys Size Sets Costs && rowOk prices Size 1000000 && inB scale 1 1000000)))) ∧ ((decide ((priced (Sets.getD i.toNat []) prices) > ((Costs.getD i.toNat 0) * scale))) = false → (-9223372036854775808 ≤ (i + 1) ∧ (i + 1) ≤ 9223372036854775807) ∧ (∃ i' : Int, (s_ArePrices_JJ0 Size Sets Costs prices scale i') ∧ (s_ArePrices_mJ0 Size Sets Costs prices scale i' < s_ArePrices_mJ0 Size Sets Costs prices scale i) ∧ (prices = prices) ∧ (scale = scale) ∧ ((i + 1) = i') ∧ (Size = Size) ∧ (Sets = Sets) ∧ (Costs = Costs))))) ∧ ((decide (i < (Sets.length : Int))) = false → ((true = ((goodSys Size Sets Costs && rowOk prices Size 1000000 && inB scale 1 1000000) && fair Sets Costs prices scale)) ∧ (true = (goodSys Size Sets Costs && rowOk prices Size 1000000 && inB scale 1 1000000)))))))))
theorem s_ArePrices_vc (Size : Int) (Sets : List (List Int)) (Costs : List Int) (prices : List Int) (scale : Int)  (w_Sets : (Sets.length : Int) ≤ 9223372036854775807) (v_Sets : ∀ x9 ∈ Sets, (x9.length : Int) ≤ 9223372036854775807) (w_Costs : (Costs.length : Int) ≤ 9223372036854775807) (w_prices : (prices.length : Int) ≤ 9223372036854775807) : s_ArePrices_P Size Sets Costs prices scale := by
  unfold s_ArePrices_P
  refine ⟨s_l6Good_pc Size Sets Costs, id, id, id, fun _ => s_l2Row_pc prices Size 1000000, id, rfl, fun _ => rfl, ?_, id, fun _ => s_l1In_pc scale 1 1000000, id, rfl, fun _ => rfl, ?_, ?_, ?_⟩
  · intro h; rw [h]; rfl
  · intro h; rw [h]; rfl
  · intro b1
    refine ⟨?_, ?_⟩
    · have hq : (goodSys Size Sets Costs && rowOk prices Size 1000000 && inB scale 1 1000000) = false := by
        revert b1; cases goodSys Size Sets Costs <;> cases rowOk prices Size 1000000 <;> cases inB scale 1 1000000 <;> simp
      rw [hq]; rfl
    · have hq : (goodSys Size Sets Costs && rowOk prices Size 1000000 && inB scale 1 1000000) = false := by
        revert b1; cases goodSys Size Sets Costs <;> cases rowOk prices Size 1000000 <;> cases inB scale 1 1000000 <;> simp
      exact hq.symm
  · intro b2
    refine ⟨?_, ?_⟩
    · refine ⟨0, ?_⟩
      refine ⟨?_, rfl, rfl, rfl, rfl, rfl, rfl⟩
      · refine ⟨?_, ?_, ?_, ?_, ?_, ?_⟩
        · first | omega | rfl | (intro hg; simp only [nrmT] at hg; omega) | (intro g1 g2; simp [g1, g2]; done) | (intro g1; simp at g1 ⊢; simp [g1]; done) | (simp only [nrmT] at *; omega) | (simp at * <;> omega) | (simp_all <;> omega) | (simp_all; done)
        · omega
        · first | omega | rfl | (intro hg; simp only [nrmT] at hg; omega) | (intro g1 g2; simp [g1, g2]; done) | (intro g1; simp at g1 ⊢; simp [g1]; done) | (simp only [nrmT] at *; omega) | (simp at * <;> omega) | (simp_all <;> omega) | (simp_all; done)
        · have hq : goodSys Size Sets Costs = true ∧ rowOk prices Size 1000000 = true ∧ inB scale 1 1000000 = true := by
            revert b2; cases goodSys Size Sets Costs <;> cases rowOk prices Size 1000000 <;> cases inB scale 1 1000000 <;> simp
          exact hq.1
        · have hq : goodSys Size Sets Costs = true ∧ rowOk prices Size 1000000 = true ∧ inB scale 1 1000000 = true := by
            revert b2; cases goodSys Size Sets Costs <;> cases rowOk prices Size 1000000 <;> cases inB scale 1 1000000 <;> simp
          exact hq.2.1
        · have hq : goodSys Size Sets Costs = true ∧ rowOk prices Size 1000000 = true ∧ inB scale 1 1000000 = true := by
            revert b2; cases goodSys Size Sets Costs <;> cases rowOk prices Size 1000000 <;> cases inB scale 1 1000000 <;> simp
          exact hq.2.2
    · intro i hJ
      obtain ⟨h1, h2, h3, h4, h5, h6⟩ := hJ
      refine ⟨?_, ?_⟩
      · intro b3
        try simp only [nrmT] at b3
        refine ⟨rfl, ?_, ?_, ?_, ?_, ?_, ?_, ?_, ?_, ?_, ?_⟩
        · first | omega | rfl | (intro hg; simp only [nrmT] at hg; omega) | (intro g1 g2; simp [g1, g2]; done) | (intro g1; simp at g1 ⊢; simp [g1]; done) | (simp only [nrmT] at *; omega) | (simp at * <;> omega) | (simp_all <;> omega) | (simp_all; done)
        · first | omega | rfl | (intro hg; simp only [nrmT] at hg; omega) | (intro g1 g2; simp [g1, g2]; done) | (intro g1; simp at g1 ⊢; simp [g1]; done) | (simp only [nrmT] at *; omega) | (simp at * <;> omega) | (simp_all <;> omega) | (simp_all; done)
        · first | omega | rfl | (intro hg; simp only [nrmT] at hg; omega) | (intro g1 g2; simp [g1, g2]; done) | (intro g1; simp at g1 ⊢; simp [g1]; done) | (simp only [nrmT] at *; omega) | (simp at * <;> omega) | (simp_all <;> omega) | (simp_all; done)
        · refine s_l6Priced_pc (Sets.getD i.toNat []) prices ?_
          · exact ⟨Size, gs_set h4 (by omega), h5, (gs_facts h4).1, (gs_facts h4).2.1⟩
        · first | omega | rfl | (intro hg; simp only [nrmT] at hg; omega) | (intro g1 g2; simp [g1, g2]; done) | (intro g1; simp at g1 ⊢; simp [g1]; done) | (simp only [nrmT] at *; omega) | (simp at * <;> omega) | (simp_all <;> omega) | (simp_all; done)
        · have gf := gs_facts h4
          omega
        · have gf := gs_facts h4
          omega
        · have gf := gs_facts h4
          have c1 := gs_cost h4 (k := i.toNat) (by omega)
          have c2 := mul_small c1 (inB_le h6)
          omega
        · intro b4
          try simp only [nrmT] at b4
          refine ⟨?_, ?_⟩
          · have gf := gs_facts h4
            rw [show fair Sets Costs prices scale = false from allTo_falseI h1 (by omega) (by unfold fairAt; simp only [decide_eq_false_iff_not]; omega), Bool.and_false]
          · rw [h4, h5, h6]; rfl
        · intro b5
          try simp only [nrmT] at b5
          refine ⟨?_, ?_⟩
          · first | omega | rfl | (intro hg; simp only [nrmT] at hg; omega) | (intro g1 g2; simp [g1, g2]; done) | (intro g1; simp at g1 ⊢; simp [g1]; done) | (simp only [nrmT] at *; omega) | (simp at * <;> omega) | (simp_all <;> omega) | (simp_all; done)
          · refine ⟨(i + 1), ?_⟩
            refine ⟨?_, ?_, rfl, rfl, rfl, rfl, rfl, rfl⟩
            · refine ⟨?_, ?_, ?_, ?_, ?_, ?_⟩
              · first | omega | rfl | (intro hg; simp only [nrmT] at hg; omega) | (intro g1 g2; simp [g1, g2]; done) | (intro g1; simp at g1 ⊢; simp [g1]; done) | (simp only [nrmT] at *; omega) | (simp at * <;> omega) | (simp_all <;> omega) | (simp_all; done)
              · have gf := gs_facts h4
                omega
              · have gf := gs_facts h4
                refine allTo_step h1 h3 ?_
                unfold fairAt
                simp only [decide_eq_true_eq]
                omega
              · exact h4
              · exact h5
              · exact h6
            · have gf := gs_facts h4
              first | (show _ < _; omega) | (simp only [s_ArePrices_mJ0]; omega) | (simp only [s_ArePrices_mJ0] at *; simp at *; omega)
      · intro b6
        try simp only [nrmT] at b6
        refine ⟨?_, ?_⟩
        · have gf := gs_facts h4
          have e : i.toNat = Sets.length := by omega
          rw [h4, h5, h6]
          unfold fair
          rw [← e, h3]; rfl
        · rw [h4, h5, h6]; rfl
theorem s_ArePrices_pc (Size : Int) (Sets : List (List Int)) (Costs : List Int) (prices : List Int) (scale : Int)  : PC Try.prog 56 [.agg [.int .i64 Size, .sl (.rows Sets), .sl (.ints Costs)], .sl (.ints prices), .int .i64 scale] (.tup [.d (.bool ((goodSys Size Sets Costs && rowOk prices Size 1000000 && inB scale 1 1000000) && fair Sets Costs prices scale)), .d (.bool (goodSys Size Sets Costs && rowOk prices Size 1000000 && inB scale 1 1000000))]) :=
  pc_wf @Try.call56 fun hw => pc_by (by kernel_rfl) Try.func56 @Try.call56 (by kernel_rfl) s_ArePrices_C (s_ArePrices_A Size Sets Costs prices scale) (by kernel_rfl) (s_ArePrices_vc Size Sets Costs prices scale hw.1.2.1.1 hw.1.2.1.2 hw.1.2.2.1 hw.2.1) (by kernel_rfl)
def s_ArePrices_orc : List D → Orc := orcN [none, some .ints, none] fun ds => match ds with
  | [.agg [.int .i64 Size, .sl (.rows Sets), .sl (.ints Costs)], .sl (.ints prices), .int .i64 scale] => some (.tup [.d (.bool ((goodSys Size Sets Costs && rowOk prices Size 1000000 && inB scale 1 1000000) && fair Sets Costs prices scale)), .d (.bool (goodSys Size Sets Costs && rowOk prices Size 1000000 && inB scale 1 1000000))])
  | _ => none

abbrev i_ArePrices_JJ0 (Size : Int) (Sets : List (List Int)) (Costs : List Int) (prices : List Int) (scale : Int) (i : Int) : Prop := (0 ≤ i) ∧ (i ≤ (Sets.length : Int)) ∧ (allTo (fairAt Sets Costs prices scale) i.toNat = true) ∧ (goodSys Size Sets Costs = true) ∧ (rowOk prices Size 1000000 = true) ∧ (inB scale 1 1000000 = true)
abbrev i_ArePrices_mJ0 (Size : Int) (Sets : List (List Int)) (Costs : List Int) (prices : List Int) (scale : Int) (i : Int) : Nat := (Sets.length - i).toNat
def i_ArePrices_C (f : FuncId) (ds : List D) : Orc := bif Nat.beq f 28 then i_IsSystem_orc ds else bif Nat.beq f 87 then i_areBetween_orc ds else bif Nat.beq f 82 then i_between_orc ds else bif Nat.beq f 118 then i_System_priceOf_orc ds else .no
def i_ArePrices_A (Size : Int) (Sets : List (List Int)) (Costs : List Int) (prices : List Int) (scale : Int) : Ann := .two (.none) (.two (.none) (.two (.two (.none) (.loop (cut1 (fun (i : Int) => i_ArePrices_JJ0 Size Sets Costs prices scale i) (fun (i : Int) => [(1, .d false (.sl (.ints prices))), (2, .d false (.int .i64 scale)), (3, .ptr 3 0), (31, .d false (.sl (.ints Costs))), (32, .d true (.int .i64 (Costs.length : Int))), (33, .d true (.int .i64 i))]) (fun (i : Int) => [(3, .box 31 [.d false (.int .i64 Size), .d false (.sl (.rows Sets)), .d false (.sl (.ints Costs))])])) (fun g => i_ArePrices_mJ0 Size Sets Costs prices scale g) (fun _ => .none))) (.none)))
def i_ArePrices_P (Size : Int) (Sets : List (List Int)) (Costs : List Int) (prices : List Int) (scale : Int) : Prop :=
  (PC Try.prog 28 [.agg [.int .i64 Size, .sl (.rows Sets), .sl (.ints Costs)]] (.one (.d (.bool (goodSys Size Sets Costs))))) ∧ ((!(!(goodSys Size Sets Costs))) = true → (!(!(goodSys Size Sets Costs))) = true) ∧ ((!(!(goodSys Size Sets Costs))) = true → (!(!(goodSys Size Sets Costs))) = true) ∧ ((!(!(goodSys Size Sets Costs))) = true → (!(!(goodSys Size Sets Costs))) = true) ∧ ((!(!(goodSys Size Sets Costs))) = true → (!(!(goodSys Size Sets Costs))) = true) ∧ (true = true) ∧ (((!(goodSys Size Sets Costs)) = true → true = true)) ∧ (((!(goodSys Size Sets Costs)) = false → (!(!(goodSys Size Sets Costs))) = true)) ∧ ((!(cond (!(goodSys Size Sets Costs)) true ((prices.length : Int) != Size))) = true → (!(cond (!(goodSys Size Sets Costs)) true ((prices.length : Int) != Size))) = true) ∧ ((!(cond (!(goodSys Size Sets Costs)) true ((prices.length : Int) != Size))) = true → PC Try.prog 87 [.sl (.ints prices), .int .i64 0, .int .i64 1000000] (.one (.d (.bool (prices.all (fun x => inB x 0 1000000)))))) ∧ ((!(cond (!(goodSys Size Sets Costs)) true ((prices.length : Int) != Size))) = true → (!(cond (!(goodSys Size Sets Costs)) true ((prices.length : Int) != Size))) = true) ∧ (true = true) ∧ (((cond (!(goodSys Size Sets Costs)) true ((prices.length : Int) != Size)) = true → true = true)) ∧ (((cond (!(goodSys Size Sets Costs)) true ((prices.length : Int) != Size)) = false → (!(cond (!(goodSys Size Sets Costs)) true ((prices.length : Int) != Size))) = true)) ∧ ((!(cond (cond (!(goodSys Size Sets Costs)) true ((prices.length : Int) != Size)) true (!(prices.all (fun x => inB x 0 1000000))))) = true → (!(cond (cond (!(goodSys Size Sets Costs)) true ((prices.length : Int) != Size)) true (!(prices.all (fun x => inB x 0 1000000))))) = true) ∧ ((!(cond (cond (!(goodSys Size Sets Costs)) true ((prices.length : Int) != Size)) true (!(prices.all (fun x => inB x 0 1000000))))) = true → PC Try.prog 82 [.int .i64 scale, .int .i64 1, .int .i64 1000000] (.one (.d (.bool (inB scale 1 1000000))))) ∧ ((!(cond (cond (!(goodSys Size Sets Costs)) true ((prices.length : Int) != Size)) true (!(prices.all (fun x => inB x 0 1000000))))) = true → (!(cond (cond (!(goodSys Size Sets Costs)) true ((prices.length : Int) != Size)) true (!(prices.all (fun x => inB x 0 1000000))))) = true) ∧ (true = true) ∧ (((cond (cond (!(goodSys Size Sets Costs)) true ((prices.length : Int) != Size)) true (!(prices.all (fun x => inB x 0 1000000)))) = true → true = true)) ∧ (((cond (cond (!(goodSys Size Sets Costs)) true ((prices.length : Int) != Size)) true (!(prices.all (fun x => inB x 0 1000000)))) = false → (!(cond (cond (!(goodSys Size Sets Costs)) true ((prices.length : Int) != Size)) true (!(prices.all (fun x => inB x 0 1000000))))) = true)) ∧ (((cond (cond (cond (!(goodSys Size Sets Costs)) true ((prices.length : Int) != Size)) true (!(prices.all (fun x => inB x 0 1000000)))) true (!(inB scale 1 1000000))) = true → ((false = ((goodSys Size Sets Costs && rowOk prices Size 1000000 && inB scale 1 1000000) && fair Sets Costs prices scale)) ∧ (false = (goodSys Size Sets Costs && rowOk prices Size 1000000 && inB scale 1 1000000)))) ∧ ((cond (cond (cond (!(goodSys Size Sets Costs)) true ((prices.length : Int) != Size)) true (!(prices.all (fun x => inB x 0 1000000)))) true (!(inB scale 1 1000000))) = false → ((∃ i' : Int, (i_ArePrices_JJ0 Size Sets Costs prices scale i') ∧ (prices = prices) ∧ (scale = scale) ∧ (Costs = Costs) ∧ ((Costs.length : Int) = (Costs.length : Int)) ∧ ((0 : Int) = i') ∧ (Size = Size) ∧ (Sets = Sets) ∧ (Costs = Costs)) ∧ (∀ i : Int, (i_ArePrices_JJ0 Size Sets Costs prices scale i) → (((decide (i < (Costs.length : Int))) = true → ((0 : Int) ≤ i) ∧ ((i : Int) < Costs.length) ∧ (i.toNat < Costs.length) ∧ (PC Try.prog 118 [.agg [.int .i64 Size, .sl (.rows Sets), .sl (.ints Costs)], .int .i64 i, .sl (.ints prices)] (.one (.d (.int .i64 (priced (Sets.getD i.toNat []) prices))))) ∧ (-9223372036854775808 ≤ ((Costs.getD i.toNat 0) * scale) ∧ ((Costs.getD i.toNat 0) * scale) ≤ 9223372036854775807) ∧ (((decide ((priced (Sets.getD i.toNat []) prices) > ((Costs.getD i.toNat 0) * scale))) = true → ((false = ((goodSys Size Sets Costs && rowOk prices Size 1000000 && inB scale 1 1000000) && fair Sets Costs prices scale)) ∧ (true = (goodSys Size Sets Costs && rowOk prices Size 1000000 && inB scale 1 1000000)))) ∧ ((decide ((priced (Sets.getD i.toNat []) prices) > ((Costs.getD i.toNat 0) * scale))) = false → (-9223372036854775808 ≤ (i + 1) ∧ (i + 1) ≤ 9223372036854775807) ∧ (∃ i' : Int, (i_ArePrices_JJ0 Size Sets Costs prices scale i') ∧ (i_ArePrices_mJ0 Size Sets Costs prices scale i' < i_ArePrices_mJ0 Size Sets Costs prices scale i) ∧ (prices = prices) ∧ (scale = scale) ∧ (Costs = Costs) ∧ ((Costs.length : Int) = (Costs.length : Int)) ∧ ((i + 1) = i') ∧ (Size = Size) ∧ (Sets = Sets) ∧ (Costs = Costs))))) ∧ ((decide (i < (Costs.length : Int))) = false → ((true = ((goodSys Size Sets Costs && rowOk prices Size 1000000 && inB scale 1 1000000) && fair Sets Costs prices scale)) ∧ (true = (goodSys Size Sets Costs && rowOk prices Size 1000000 && inB scale 1 1000000)))))))))
theorem i_ArePrices_vc (Size : Int) (Sets : List (List Int)) (Costs : List Int) (prices : List Int) (scale : Int)  (w_Sets : (Sets.length : Int) ≤ 9223372036854775807) (v_Sets : ∀ x9 ∈ Sets, (x9.length : Int) ≤ 9223372036854775807) (w_Costs : (Costs.length : Int) ≤ 9223372036854775807) (w_prices : (prices.length : Int) ≤ 9223372036854775807) : i_ArePrices_P Size Sets Costs prices scale := by
  unfold i_ArePrices_P
  refine ⟨i_IsSystem_pc Size Sets Costs, id, id, id, id, rfl, fun _ => rfl, ?_, id, fun _ => i_areBetween_pc prices 0 1000000, id, rfl, fun _ => rfl, ?_, id, fun _ => i_between_pc scale 1 1000000, id, rfl, fun _ => rfl, ?_, ?_, ?_⟩
  · intro h; rw [h]; rfl
  · intro h; rw [h]; rfl
  · intro h; rw [h]; rfl
  · intro b1
    refine ⟨?_, ?_⟩
    · have hq : (goodSys Size Sets Costs && rowOk prices Size 1000000 && inB scale 1 1000000) = false := by
        revert b1; unfold rowOk; cases goodSys Size Sets Costs <;> cases (prices.all fun x => inB x 0 1000000) <;> cases inB scale 1 1000000 <;> by_cases h : (prices.length : Int) = Size <;> simp [h]
      rw [hq]; rfl
    · have hq : (goodSys Size Sets Costs && rowOk prices Size 1000000 && inB scale 1 1000000) = false := by
        revert b1; unfold rowOk; cases goodSys Size Sets Costs <;> cases (prices.all fun x => inB x 0 1000000) <;> cases inB scale 1 1000000 <;> by_cases h : (prices.length : Int) = Size <;> simp [h]
      exact hq.symm
  · intro b2
    refine ⟨?_, ?_⟩
    · refine ⟨0, ?_⟩
      refine ⟨?_, rfl, rfl, rfl, rfl, rfl, rfl, rfl, rfl⟩
      · refine ⟨?_, ?_, ?_, ?_, ?_, ?_⟩
        · first | omega | rfl | (intro hg; simp only [nrmT] at hg; omega) | (intro g1 g2; simp [g1, g2]; done) | (intro g1; simp at g1 ⊢; simp [g1]; done) | (simp only [nrmT] at *; omega) | (simp at * <;> omega) | (simp_all <;> omega) | (simp_all; done)
        · omega
        · first | omega | rfl | (intro hg; simp only [nrmT] at hg; omega) | (intro g1 g2; simp [g1, g2]; done) | (intro g1; simp at g1 ⊢; simp [g1]; done) | (simp only [nrmT] at *; omega) | (simp at * <;> omega) | (simp_all <;> omega) | (simp_all; done)
        · have hq : goodSys Size Sets Costs = true ∧ rowOk prices Size 1000000 = true ∧ inB scale 1 1000000 = true := by
            revert b2; unfold rowOk; cases goodSys Size Sets Costs <;> cases (prices.all fun x => inB x 0 1000000) <;> cases inB scale 1 1000000 <;> by_cases h : (prices.length : Int) = Size <;> simp [h]
          exact hq.1
        · have hq : goodSys Size Sets Costs = true ∧ rowOk prices Size 1000000 = true ∧ inB scale 1 1000000 = true := by
            revert b2; unfold rowOk; cases goodSys Size Sets Costs <;> cases (prices.all fun x => inB x 0 1000000) <;> cases inB scale 1 1000000 <;> by_cases h : (prices.length : Int) = Size <;> simp [h]
          exact hq.2.1
        · have hq : goodSys Size Sets Costs = true ∧ rowOk prices Size 1000000 = true ∧ inB scale 1 1000000 = true := by
            revert b2; unfold rowOk; cases goodSys Size Sets Costs <;> cases (prices.all fun x => inB x 0 1000000) <;> cases inB scale 1 1000000 <;> by_cases h : (prices.length : Int) = Size <;> simp [h]
          exact hq.2.2
    · intro i hJ
      obtain ⟨h1, h2, h3, h4, h5, h6⟩ := hJ
      refine ⟨?_, ?_⟩
      · intro b3
        try simp only [nrmT] at b3
        refine ⟨?_, ?_, ?_, ?_, ?_, ?_, ?_⟩
        · first | omega | rfl | (intro hg; simp only [nrmT] at hg; omega) | (intro g1 g2; simp [g1, g2]; done) | (intro g1; simp at g1 ⊢; simp [g1]; done) | (simp only [nrmT] at *; omega) | (simp at * <;> omega) | (simp_all <;> omega) | (simp_all; done)
        · have gf := gs_facts h4
          omega
        · have gf := gs_facts h4
          omega
        · refine i_System_priceOf_pc Size Sets Costs i prices ?_ ?_ ?_
          · exact h4
          · have gf := gs_facts h4
            omega
          · exact h5
        · have gf := gs_facts h4
          have c1 := gs_cost h4 (k := i.toNat) (by omega)
          have c2 := mul_small c1 (inB_le h6)
          omega
        · intro b4
          try simp only [nrmT] at b4
          refine ⟨?_, ?_⟩
          · have gf := gs_facts h4
            rw [show fair Sets Costs prices scale = false from allTo_falseI h1 (by omega) (by unfold fairAt; simp only [decide_eq_false_iff_not]; omega), Bool.and_false]
          · rw [h4, h5, h6]; rfl
        · intro b5
          try simp only [nrmT] at b5
          refine ⟨?_, ?_⟩
          · first | omega | rfl | (intro hg; simp only [nrmT] at hg; omega) | (intro g1 g2; simp [g1, g2]; done) | (intro g1; simp at g1 ⊢; simp [g1]; done) | (simp only [nrmT] at *; omega) | (simp at * <;> omega) | (simp_all <;> omega) | (simp_all; done)
          · refine ⟨(i + 1), ?_⟩
            refine ⟨?_, ?_, rfl, rfl, rfl, rfl, rfl, rfl, rfl, rfl⟩
            · refine ⟨?_, ?_, ?_, ?_, ?_, ?_⟩
              · first | omega | rfl | (intro hg; simp only [nrmT] at hg; omega) | (intro g1 g2; simp [g1, g2]; done) | (intro g1; simp at g1 ⊢; simp [g1]; done) | (simp only [nrmT] at *; omega) | (simp at * <;> omega) | (simp_all <;> omega) | (simp_all; done)
              · have gf := gs_facts h4
                omega
              · have gf := gs_facts h4
                refine allTo_step h1 h3 ?_
                unfold fairAt
                simp only [decide_eq_true_eq]
                omega
              · exact h4
              · exact h5
              · exact h6
            · have gf := gs_facts h4
              first | (show _ < _; omega) | (simp only [i_ArePrices_mJ0]; omega) | (simp only [i_ArePrices_mJ0] at *; simp at *; omega)
      · intro b6
        try simp only [nrmT] at b6
        refine ⟨?_, ?_⟩
        · have gf := gs_facts h4
          have e : i.toNat = Sets.length := by omega
          rw [h4, h5, h6]
          unfold fair
          rw [← e, h3]; rfl
        · rw [h4, h5, h6]; rfl
theorem i_ArePrices_pc (Size : Int) (Sets : List (List Int)) (Costs : List Int) (prices : List Int) (scale : Int)  : PC Try.prog 57 [.agg [.int .i64 Size, .sl (.rows Sets), .sl (.ints Costs)], .sl (.ints prices), .int .i64 scale] (.tup [.d (.bool ((goodSys Size Sets Costs && rowOk prices Size 1000000 && inB scale 1 1000000) && fair Sets Costs prices scale)), .d (.bool (goodSys Size Sets Costs && rowOk prices Size 1000000 && inB scale 1 1000000))]) :=
  pc_wf @Try.call57 fun hw => pc_by (by kernel_rfl) Try.func57 @Try.call57 (by kernel_rfl) i_ArePrices_C (i_ArePrices_A Size Sets Costs prices scale) (by kernel_rfl) (i_ArePrices_vc Size Sets Costs prices scale hw.1.2.1.1 hw.1.2.1.2 hw.1.2.2.1 hw.2.1) (by kernel_rfl)
def i_ArePrices_orc : List D → Orc := orcN [none, some .ints, none] fun ds => match ds with
  | [.agg [.int .i64 Size, .sl (.rows Sets), .sl (.ints Costs)], .sl (.ints prices), .int .i64 scale] => some (.tup [.d (.bool ((goodSys Size Sets Costs && rowOk prices Size 1000000 && inB scale 1 1000000) && fair Sets Costs prices scale)), .d (.bool (goodSys Size Sets Costs && rowOk prices Size 1000000 && inB scale 1 1000000))])
  | _ => none

def l_FnExactArePrices_C (f : FuncId) (ds : List D) : Orc := bif Nat.beq f 25 then l_szSystem_orc ds else bif Nat.beq f 27 then l_toSystem_orc ds else bif Nat.beq f 40 then l_toIntS_orc ds else bif Nat.beq f 56 then s_ArePrices_orc ds else bif Nat.beq f 57 then i_ArePrices_orc ds else bif Nat.beq f 29 then l_eqSystem_orc ds else bif Nat.beq f 43 then l_eqIntS_orc ds else .no
def l_FnExactArePrices_A (Size : Int) (Sets : List (List Int)) (Costs : List Int) (prices : List Int) (scale : Int) : Ann := .none
def l_FnExactArePrices_P (Size : Int) (Sets : List (List Int)) (Costs : List Int) (prices : List Int) (scale : Int) : Prop :=
  (((decide ((prices.length : Int) > 1048576)) = true → ((true = true))) ∧ ((decide ((prices.length : Int) > 1048576)) = false → (PC Try.prog 25 [.agg [.int .i64 Size, .sl (.rows Sets), .sl (.ints Costs)], .int .i64 1048576] (.one (.d (.int .i64 (szSys Sets Costs 1048576))))) ∧ (((decide ((szSys Sets Costs 1048576) < 0)) = true → ((true = true))) ∧ ((decide ((szSys Sets Costs 1048576) < 0)) = false → (PC Try.prog 27 [.agg [.int .i64 Size, .sl (.rows Sets), .sl (.ints Costs)]] (.one (.d (.agg [.int .i64 Size, .sl (.rows Sets), .sl (.ints Costs)])))) ∧ (PC Try.prog 40 [.sl (.ints prices)] (.one (.d (.sl (.ints prices))))) ∧ (PC Try.prog 56 [.agg [.int .i64 Size, .sl (.rows Sets), .sl (.ints Costs)], .sl (.ints prices), .int .i64 scale] (.tup [.d (.bool ((goodSys Size Sets Costs && rowOk prices Size 1000000 && inB scale 1 1000000) && fair Sets Costs prices scale)), .d (.bool (goodSys Size Sets Costs && rowOk prices Size 1000000 && inB scale 1 1000000))])) ∧ (PC Try.prog 27 [.agg [.int .i64 Size, .sl (.rows Sets), .sl (.ints Costs)]] (.one (.d (.agg [.int .i64 Size, .sl (.rows Sets), .sl (.ints Costs)])))) ∧ (PC Try.prog 40 [.sl (.ints prices)] (.one (.d (.sl (.ints prices))))) ∧ (PC Try.prog 57 [.agg [.int .i64 Size, .sl (.rows Sets), .sl (.ints Costs)], .sl (.ints prices), .int .i64 scale] (.tup [.d (.bool ((goodSys Size Sets Costs && rowOk prices Size 1000000 && inB scale 1 1000000) && fair Sets Costs prices scale)), .d (.bool (goodSys Size Sets Costs && rowOk prices Size 1000000 && inB scale 1 1000000))])) ∧ ((!(((goodSys Size Sets Costs && rowOk prices Size 1000000 && inB scale 1 1000000) && fair Sets Costs prices scale) != ((goodSys Size Sets Costs && rowOk prices Size 1000000 && inB scale 1 1000000) && fair Sets Costs prices scale))) = true → (!(((goodSys Size Sets Costs && rowOk prices Size 1000000 && inB scale 1 1000000) && fair Sets Costs prices scale) != ((goodSys Size Sets Costs && rowOk prices Size 1000000 && inB scale 1 1000000) && fair Sets Costs prices scale))) = true) ∧ ((!(((goodSys Size Sets Costs && rowOk prices Size 1000000 && inB scale 1 1000000) && fair Sets Costs prices scale) != ((goodSys Size Sets Costs && rowOk prices Size 1000000 && inB scale 1 1000000) && fair Sets Costs prices scale))) = true → (!(((goodSys Size Sets Costs && rowOk prices Size 1000000 && inB scale 1 1000000) && fair Sets Costs prices scale) != ((goodSys Size Sets Costs && rowOk prices Size 1000000 && inB scale 1 1000000) && fair Sets Costs prices scale))) = true) ∧ (true = true) ∧ (((((goodSys Size Sets Costs && rowOk prices Size 1000000 && inB scale 1 1000000) && fair Sets Costs prices scale) != ((goodSys Size Sets Costs && rowOk prices Size 1000000 && inB scale 1 1000000) && fair Sets Costs prices scale)) = true → true = true)) ∧ (((((goodSys Size Sets Costs && rowOk prices Size 1000000 && inB scale 1 1000000) && fair Sets Costs prices scale) != ((goodSys Size Sets Costs && rowOk prices Size 1000000 && inB scale 1 1000000) && fair Sets Costs prices scale)) = false → (!(((goodSys Size Sets Costs && rowOk prices Size 1000000 && inB scale 1 1000000) && fair Sets Costs prices scale) != ((goodSys Size Sets Costs && rowOk prices Size 1000000 && inB scale 1 1000000) && fair Sets Costs prices scale))) = true)) ∧ (((cond (((goodSys Size Sets Costs && rowOk prices Size 1000000 && inB scale 1 1000000) && fair Sets Costs prices scale) != ((goodSys Size Sets Costs && rowOk prices Size 1000000 && inB scale 1 1000000) && fair Sets Costs prices scale)) true ((goodSys Size Sets Costs && rowOk prices Size 1000000 && inB scale 1 1000000) != (goodSys Size Sets Costs && rowOk prices Size 1000000 && inB scale 1 1000000))) = true → ((false = true))) ∧ ((cond (((goodSys Size Sets Costs && rowOk prices Size 1000000 && inB scale 1 1000000) && fair Sets Costs prices scale) != ((goodSys Size Sets Costs && rowOk prices Size 1000000 && inB scale 1 1000000) && fair Sets Costs prices scale)) true ((goodSys Size Sets Costs && rowOk prices Size 1000000 && inB scale 1 1000000) != (goodSys Size Sets Costs && rowOk prices Size 1000000 && inB scale 1 1000000))) = false → (true = true) ∧ (PC Try.prog 27 [.agg [.int .i64 Size, .sl (.rows Sets), .sl (.ints Costs)]] (.one (.d (.agg [.int .i64 Size, .sl (.rows Sets), .sl (.ints Costs)])))) ∧ (PC Try.prog 29 [.agg [.int .i64 Size, .sl (.rows Sets), .sl (.ints Costs)], .agg [.int .i64 Size, .sl (.rows Sets), .sl (.ints Costs)]] (.one (.d (.bool ((Size == Size) && (Sets == Sets) && (Costs == Costs)))))) ∧ (((!((Size == Size) && (Sets == Sets) && (Costs == Costs))) = true → ((false = true))) ∧ ((!((Size == Size) && (Sets == Sets) && (Costs == Costs))) = false → (PC Try.prog 40 [.sl (.ints prices)] (.one (.d (.sl (.ints prices))))) ∧ (PC Try.prog 43 [.sl (.ints prices), .sl (.ints prices)] (.one (.d (.bool (prices == prices))))) ∧ (((!(prices == prices)) = true → ((false = true))) ∧ ((!(prices == prices)) = false → ((true = true))))))))))))
theorem l_FnExactArePrices_vc (Size : Int) (Sets : List (List Int)) (Costs : List Int) (prices : List Int) (scale : Int)  (w_Sets : (Sets.length : Int) ≤ 9223372036854775807) (v_Sets : ∀ x9 ∈ Sets, (x9.length : Int) ≤ 9223372036854775807) (w_Costs : (Costs.length : Int) ≤ 9223372036854775807) (w_prices : (prices.length : Int) ≤ 9223372036854775807) : l_FnExactArePrices_P Size Sets Costs prices scale := by
  unfold l_FnExactArePrices_P
  refine ⟨?_, ?_⟩
  · intro b1
    try simp only [nrmT] at b1
    exact rfl
  · intro b2
    try simp only [nrmT] at b2
    refine ⟨?_, ?_, ?_⟩
    · refine l_szSystem_pc Size Sets Costs 1048576 ?_
      · first | omega | rfl | (intro hg; simp only [nrmT] at hg; omega) | (intro g1 g2; simp [g1, g2]; done) | (intro g1; simp at g1 ⊢; simp [g1]; done) | (simp only [nrmT] at *; omega) | (simp at * <;> omega) | (simp_all <;> omega) | (simp_all; done)
    · intro b3
      try simp only [nrmT] at b3
      exact rfl
    · intro b4
      try simp only [nrmT] at b4
      refine ⟨?_, ?_, s_ArePrices_pc Size Sets Costs prices scale, ?_, ?_, i_ArePrices_pc Size Sets Costs prices scale, id, id, rfl, fun _ => rfl, ?_, ?_, ?_⟩
      · refine l_toSystem_pc Size Sets Costs ?_ ?_ ?_
        · have := szSys_bound b4; omega
        · have h := (szSys_bound b4).2.1
          intro xs hx
          have h := h xs hx
          omega
        · have := szSys_bound b4; omega
      · refine l_toIntS_pc prices ?_
        · first | omega | rfl | (intro hg; simp only [nrmT] at hg; omega) | (intro g1 g2; simp [g1, g2]; done) | (intro g1; simp at g1 ⊢; simp [g1]; done) | (simp only [nrmT] at *; omega) | (simp at * <;> omega) | (simp_all <;> omega) | (simp_all; done)
      · refine l_toSystem_pc Size Sets Costs ?_ ?_ ?_
        · have := szSys_bound b4; omega
        · have h := (szSys_bound b4).2.1
          intro xs hx
          have h := h xs hx
          omega
        · have := szSys_bound b4; omega
      · refine l_toIntS_pc prices ?_
        · first | omega | rfl | (intro hg; simp only [nrmT] at hg; omega) | (intro g1 g2; simp [g1, g2]; done) | (intro g1; simp at g1 ⊢; simp [g1]; done) | (simp only [nrmT] at *; omega) | (simp at * <;> omega) | (simp_all <;> omega) | (simp_all; done)
      · first | omega | rfl | (intro hg; simp only [nrmT] at hg; omega) | (intro g1 g2; simp [g1, g2]; done) | (intro g1; simp at g1 ⊢; simp [g1]; done) | (simp only [nrmT] at *; omega) | (simp at * <;> omega) | (simp_all <;> omega) | (simp_all; done)
      · intro b5
        first | omega | rfl | (intro hg; simp only [nrmT] at hg; omega) | (intro g1 g2; simp [g1, g2]; done) | (intro g1; simp at g1 ⊢; simp [g1]; done) | (simp only [nrmT] at *; omega) | (simp at * <;> omega) | (simp_all <;> omega) | (simp_all; done)
      · intro b6
        refine ⟨rfl, ?_, l_eqSystem_pc Size Sets Costs Size Sets Costs, ?_, ?_⟩
        · refine l_toSystem_pc Size Sets Costs ?_ ?_ ?_
          · have := szSys_bound b4; omega
          · have h := (szSys_bound b4).2.1
            intro xs hx
            have h := h xs hx
            omega
          · have := szSys_bound b4; omega
        · intro b7
          try simp only [Bool.not_eq_true', Bool.not_eq_false', Bool.not_not] at b7
          first | omega | rfl | (intro hg; simp only [nrmT] at hg; omega) | (intro g1 g2; simp [g1, g2]; done) | (intro g1; simp at g1 ⊢; simp [g1]; done) | (simp only [nrmT] at *; omega) | (simp at * <;> omega) | (simp_all <;> omega) | (simp_all; done)
        · intro b8
          try simp only [Bool.not_eq_true', Bool.not_eq_false', Bool.not_not] at b8
          refine ⟨?_, l_eqIntS_pc prices prices, ?_, ?_⟩
          · refine l_toIntS_pc prices ?_
            · first | omega | rfl | (intro hg; simp only [nrmT] at hg; omega) | (intro g1 g2; simp [g1, g2]; done) | (intro g1; simp at g1 ⊢; simp [g1]; done) | (simp only [nrmT] at *; omega) | (simp at * <;> omega) | (simp_all <;> omega) | (simp_all; done)
          · intro b9
            try simp only [nrmT] at b9
            first | omega | rfl | (intro hg; simp only [nrmT] at hg; omega) | (intro g1 g2; simp [g1, g2]; done) | (intro g1; simp at g1 ⊢; simp [g1]; done) | (simp only [nrmT] at *; omega) | (simp at * <;> omega) | (simp_all <;> omega) | (simp_all; done)
          · intro b10
            try simp only [nrmT] at b10
            exact rfl
theorem l_FnExactArePrices_pc (Size : Int) (Sets : List (List Int)) (Costs : List Int) (prices : List Int) (scale : Int)  : PC Try.prog 12 [.agg [.int .i64 Size, .sl (.rows Sets), .sl (.ints Costs)], .sl (.ints prices), .int .i64 scale] (.one (.d (.bool true))) :=
  pc_wf @Try.call12 fun hw => pc_by (by kernel_rfl) Try.func12 @Try.call12 (by kernel_rfl) l_FnExactArePrices_C (l_FnExactArePrices_A Size Sets Costs prices scale) (by kernel_rfl) (l_FnExactArePrices_vc Size Sets Costs prices scale hw.1.2.1.1 hw.1.2.1.2 hw.1.2.2.1 hw.2.1) (by kernel_rfl)
def l_FnExactArePrices_orc : List D → Orc := orcN [none, some .ints, none] fun ds => match ds with
  | [.agg [.int .i64 Size, .sl (.rows Sets), .sl (.ints Costs)], .sl (.ints prices), .int .i64 scale] => some (.one (.d (.bool true)))
  | _ => none

end Go.Proofs.Ytmcbcomcejgbcaa
