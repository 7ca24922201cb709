/- Contracts of the functions that the law reaches. -/
import Derived.Test.YtijdbfbeobflnaaKGreedyPrices1
import Derived.KernelRfl
set_option linter.unusedVariables false
set_option linter.unusedSimpArgs false
namespace Go.Proofs.Ytijdbfbeobflnaa
open Go

def s_l6Next_P (Size : Int) (Sets : List (List Int)) (Costs : List Int) (covered : List Int) : Prop :=
  ((∃ best' : Int, ∃ i' : Int, (s_l6Next_JJ0 Size Sets Costs covered best' i') ∧ (covered = covered) ∧ (((-1) : Int) = best') ∧ ((0 : Int) = i') ∧ (Size = Size) ∧ (Sets = Sets) ∧ (Costs = Costs)) ∧ (∀ best : Int, ∀ i : Int, (s_l6Next_JJ0 Size Sets Costs covered best i) → (((decide (i < (Sets.length : Int))) = true → ((0 : Int) ≤ i) ∧ ((i : Int) < Sets.length) ∧ (i.toNat < Sets.length) ∧ (PC Try.prog 137 [.sl (.ints (Sets.getD i.toNat [])), .sl (.ints covered)] (.one (.d (.int .i64 (newOf (Sets.getD i.toNat []) covered))))) ∧ (true = true) ∧ ((decide ((newOf (Sets.getD i.toNat []) covered) > 0)) = true → (decide ((newOf (Sets.getD i.toNat []) covered) > 0)) = true) ∧ ((decide ((newOf (Sets.getD i.toNat []) covered) > 0)) = true → (decide ((newOf (Sets.getD i.toNat []) covered) > 0)) = true) ∧ (((decide ((newOf (Sets.getD i.toNat []) covered) > 0)) && (!(decide (best < 0)))) = true → ((decide ((newOf (Sets.getD i.toNat []) covered) > 0)) && (!(decide (best < 0)))) = true) ∧ (((decide ((newOf (Sets.getD i.toNat []) covered) > 0)) && (!(decide (best < 0)))) = true → ((decide ((newOf (Sets.getD i.toNat []) covered) > 0)) && (!(decide (best < 0)))) = true) ∧ (((decide ((newOf (Sets.getD i.toNat []) covered) > 0)) && (!(decide (best < 0)))) = true → ((decide ((newOf (Sets.getD i.toNat []) covered) > 0)) && (!(decide (best < 0)))) = true) ∧ ((((decide ((newOf (Sets.getD i.toNat []) covered) > 0)) && (!(decide (best < 0)))) = true → (0 : Int) ≤ i)) ∧ ((((decide ((newOf (Sets.getD i.toNat []) covered) > 0)) && (!(decide (best < 0)))) = true → (i : Int) < Costs.length)) ∧ (((decide ((newOf (Sets.getD i.toNat []) covered) > 0)) && (!(decide (best < 0)))) = true → ((decide ((newOf (Sets.getD i.toNat []) covered) > 0)) && (!(decide (best < 0)))) = true) ∧ ((((decide ((newOf (Sets.getD i.toNat []) covered) > 0)) && (!(decide (best < 0)))) = true → i.toNat < Costs.length)) ∧ (((decide ((newOf (Sets.getD i.toNat []) covered) > 0)) && (!(decide (best < 0)))) = true → ((decide ((newOf (Sets.getD i.toNat []) covered) > 0)) && (!(decide (best < 0)))) = true) ∧ (((decide ((newOf (Sets.getD i.toNat []) covered) > 0)) && (!(decide (best < 0)))) = true → ((decide ((newOf (Sets.getD i.toNat []) covered) > 0)) && (!(decide (best < 0)))) = true) ∧ (((decide ((newOf (Sets.getD i.toNat []) covered) > 0)) && (!(decide (best < 0)))) = true → ((decide ((newOf (Sets.getD i.toNat []) covered) > 0)) && (!(decide (best < 0)))) = true) ∧ ((((decide ((newOf (Sets.getD i.toNat []) covered) > 0)) && (!(decide (best < 0)))) = true → (0 : Int) ≤ best)) ∧ ((((decide ((newOf (Sets.getD i.toNat []) covered) > 0)) && (!(decide (best < 0)))) = true → (best : Int) < Sets.length)) ∧ (((decide ((newOf (Sets.getD i.toNat []) covered) > 0)) && (!(decide (best < 0)))) = true → ((decide ((newOf (Sets.getD i.toNat []) covered) > 0)) && (!(decide (best < 0)))) = true) ∧ ((((decide ((newOf (Sets.getD i.toNat []) covered) > 0)) && (!(decide (best < 0)))) = true → best.toNat < Sets.length)) ∧ (((decide ((newOf (Sets.getD i.toNat []) covered) > 0)) && (!(decide (best < 0)))) = true → ((decide ((newOf (Sets.getD i.toNat []) covered) > 0)) && (!(decide (best < 0)))) = true) ∧ (((decide ((newOf (Sets.getD i.toNat []) covered) > 0)) && (!(decide (best < 0)))) = true → ((decide ((newOf (Sets.getD i.toNat []) covered) > 0)) && (!(decide (best < 0)))) = true) ∧ (((decide ((newOf (Sets.getD i.toNat []) covered) > 0)) && (!(decide (best < 0)))) = true → PC Try.prog 137 [.sl (.ints (Sets.getD best.toNat [])), .sl (.ints covered)] (.one (.d (.int .i64 (newOf (Sets.getD best.toNat []) covered))))) ∧ (((decide ((newOf (Sets.getD i.toNat []) covered) > 0)) && (!(decide (best < 0)))) = true → ((decide ((newOf (Sets.getD i.toNat []) covered) > 0)) && (!(decide (best < 0)))) = true) ∧ (((decide ((newOf (Sets.getD i.toNat []) covered) > 0)) && (!(decide (best < 0)))) = true → ((decide ((newOf (Sets.getD i.toNat []) covered) > 0)) && (!(decide (best < 0)))) = true) ∧ ((((decide ((newOf (Sets.getD i.toNat []) covered) > 0)) && (!(decide (best < 0)))) = true → -9223372036854775808 ≤ ((Costs.getD i.toNat 0) * (newOf (Sets.getD best.toNat []) covered)) ∧ ((Costs.getD i.toNat 0) * (newOf (Sets.getD best.toNat []) covered)) ≤ 9223372036854775807)) ∧ (((decide ((newOf (Sets.getD i.toNat []) covered) > 0)) && (!(decide (best < 0)))) = true → ((decide ((newOf (Sets.getD i.toNat []) covered) > 0)) && (!(decide (best < 0)))) = true) ∧ (((decide ((newOf (Sets.getD i.toNat []) covered) > 0)) && (!(decide (best < 0)))) = true → ((decide ((newOf (Sets.getD i.toNat []) covered) > 0)) && (!(decide (best < 0)))) = true) ∧ (((decide ((newOf (Sets.getD i.toNat []) covered) > 0)) && (!(decide (best < 0)))) = true → ((decide ((newOf (Sets.getD i.toNat []) covered) > 0)) && (!(decide (best < 0)))) = true) ∧ ((((decide ((newOf (Sets.getD i.toNat []) covered) > 0)) && (!(decide (best < 0)))) = true → (0 : Int) ≤ best)) ∧ ((((decide ((newOf (Sets.getD i.toNat []) covered) > 0)) && (!(decide (best < 0)))) = true → (best : Int) < Costs.length)) ∧ (((decide ((newOf (Sets.getD i.toNat []) covered) > 0)) && (!(decide (best < 0)))) = true → ((decide ((newOf (Sets.getD i.toNat []) covered) > 0)) && (!(decide (best < 0)))) = true) ∧ ((((decide ((newOf (Sets.getD i.toNat []) covered) > 0)) && (!(decide (best < 0)))) = true → best.toNat < Costs.length)) ∧ (((decide ((newOf (Sets.getD i.toNat []) covered) > 0)) && (!(decide (best < 0)))) = true → ((decide ((newOf (Sets.getD i.toNat []) covered) > 0)) && (!(decide (best < 0)))) = true) ∧ (((decide ((newOf (Sets.getD i.toNat []) covered) > 0)) && (!(decide (best < 0)))) = true → ((decide ((newOf (Sets.getD i.toNat []) covered) > 0)) && (!(decide (best < 0)))) = true) ∧ ((((decide ((newOf (Sets.getD i.toNat []) covered) > 0)) && (!(decide (best < 0)))) = true → -9223372036854775808 ≤ ((Costs.getD best.toNat 0) * (newOf (Sets.getD i.toNat []) covered)) ∧ ((Costs.getD best.toNat 0) * (newOf (Sets.getD i.toNat []) covered)) ≤ 9223372036854775807)) ∧ (((decide ((newOf (Sets.getD i.toNat []) covered) > 0)) && (!(decide (best < 0)))) = true → ((decide ((newOf (Sets.getD i.toNat []) covered) > 0)) && (!(decide (best < 0)))) = true) ∧ (((decide ((newOf (Sets.getD i.toNat []) covered) > 0)) && (!(decide (best < 0)))) = true → ((decide ((newOf (Sets.getD i.toNat []) covered) > 0)) && (!(decide (best < 0)))) = true) ∧ (((decide ((newOf (Sets.getD i.toNat []) covered) > 0)) = true → (decide ((newOf (Sets.getD i.toNat []) covered) > 0)) = true)) ∧ (((decide ((newOf (Sets.getD i.toNat []) covered) > 0)) = true → (decide (best < 0)) = true → true = true)) ∧ (((decide ((newOf (Sets.getD i.toNat []) covered) > 0)) = true → (decide (best < 0)) = false → ((decide ((newOf (Sets.getD i.toNat []) covered) > 0)) && (!(decide (best < 0)))) = true)) ∧ (true = true) ∧ (((decide ((newOf (Sets.getD i.toNat []) covered) > 0)) = true → (decide ((newOf (Sets.getD i.toNat []) covered) > 0)) = true)) ∧ (((decide ((newOf (Sets.getD i.toNat []) covered) > 0)) = false → true = true)) ∧ (((cond (decide ((newOf (Sets.getD i.toNat []) covered) > 0)) (cond (decide (best < 0)) true (decide (((Costs.getD i.toNat 0) * (newOf (Sets.getD best.toNat []) covered)) < ((Costs.getD best.toNat 0) * (newOf (Sets.getD i.toNat []) covered))))) false) = true → (-9223372036854775808 ≤ (i + 1) ∧ (i + 1) ≤ 9223372036854775807) ∧ (∃ best' : Int, ∃ i' : Int, (s_l6Next_JJ0 Size Sets Costs covered best' i') ∧ (s_l6Next_mJ0 Size Sets Costs covered best' i' < s_l6Next_mJ0 Size Sets Costs covered best i) ∧ (covered = covered) ∧ (i = best') ∧ ((i + 1) = i') ∧ (Size = Size) ∧ (Sets = Sets) ∧ (Costs = Costs))) ∧ ((cond (decide ((newOf (Sets.getD i.toNat []) covered) > 0)) (cond (decide (best < 0)) true (decide (((Costs.getD i.toNat 0) * (newOf (Sets.getD best.toNat []) covered)) < ((Costs.getD best.toNat 0) * (newOf (Sets.getD i.toNat []) covered))))) false) = false → (-9223372036854775808 ≤ (i + 1) ∧ (i + 1) ≤ 9223372036854775807) ∧ (∃ best' : Int, ∃ i' : Int, (s_l6Next_JJ0 Size Sets Costs covered best' i') ∧ (s_l6Next_mJ0 Size Sets Costs covered best' i' < s_l6Next_mJ0 Size Sets Costs covered best i) ∧ (covered = covered) ∧ (best = best') ∧ ((i + 1) = i') ∧ (Size = Size) ∧ (Sets = Sets) ∧ (Costs = Costs))))) ∧ ((decide (i < (Sets.length : Int))) = false → ((best = (grC Sets Costs covered Sets.length)))))))
theorem s_l6Next_vc (Size : Int) (Sets : List (List Int)) (Costs : List Int) (covered : List Int) (hg : goodSys Size Sets Costs = true) (w_Sets : (Sets.length : Int) ≤ 9223372036854775807) (v_Sets : ∀ x9 ∈ Sets, (x9.length : Int) ≤ 9223372036854775807) (w_Costs : (Costs.length : Int) ≤ 9223372036854775807) (w_covered : (covered.length : Int) ≤ 9223372036854775807) : s_l6Next_P Size Sets Costs covered := by
  unfold s_l6Next_P
  have gf := gs_facts hg
  refine ⟨?_, ?_⟩
  · refine ⟨(-1), 0, ?_⟩
    refine ⟨?_, rfl, rfl, rfl, rfl, rfl, rfl⟩
    · refine ⟨?_, ?_, ?_⟩
      · first | omega | rfl | (intro hg; simp only [nrmT] at hg; omega) | (intro g1 g2; simp [g1, g2]; done) | (intro g1; simp at g1 ⊢; simp [g1]; done) | (simp only [nrmT] at *; omega) | (simp at * <;> omega) | (simp_all <;> omega) | (simp_all; done)
      · first | omega | rfl | (intro hg; simp only [nrmT] at hg; omega) | (intro g1 g2; simp [g1, g2]; done) | (intro g1; simp at g1 ⊢; simp [g1]; done) | (simp only [nrmT] at *; omega) | (simp at * <;> omega) | (simp_all <;> omega) | (simp_all; done)
      · first | omega | rfl | (intro hg; simp only [nrmT] at hg; omega) | (intro g1 g2; simp [g1, g2]; done) | (intro g1; simp at g1 ⊢; simp [g1]; done) | (simp only [nrmT] at *; omega) | (simp at * <;> omega) | (simp_all <;> omega) | (simp_all; done)
  · intro best i hJ
    obtain ⟨h1, h2, h3⟩ := hJ
    refine ⟨?_, ?_⟩
    · intro b1
      try simp only [nrmT] at b1
      refine ⟨?_, ?_, ?_, s_l6New_pc (Sets.getD i.toNat []) covered, rfl, id, id, id, id, id, ?_, ?_, id, ?_, id, id, id, ?_, ?_, id, ?_, id, id, fun _ => s_l6New_pc (Sets.getD best.toNat []) covered, id, id, ?_, id, id, id, ?_, ?_, id, ?_, id, id, ?_, id, id, id, fun _ _ => rfl, ?_, rfl, id, fun _ => rfl, ?_, ?_⟩
      · first | omega | rfl | (intro hg; simp only [nrmT] at hg; omega) | (intro g1 g2; simp [g1, g2]; done) | (intro g1; simp at g1 ⊢; simp [g1]; done) | (simp only [nrmT] at *; omega) | (simp at * <;> omega) | (simp_all <;> omega) | (simp_all; done)
      · first | omega | rfl | (intro hg; simp only [nrmT] at hg; omega) | (intro g1 g2; simp [g1, g2]; done) | (intro g1; simp at g1 ⊢; simp [g1]; done) | (simp only [nrmT] at *; omega) | (simp at * <;> omega) | (simp_all <;> omega) | (simp_all; done)
      · first | omega | rfl | (intro hg; simp only [nrmT] at hg; omega) | (intro g1 g2; simp [g1, g2]; done) | (intro g1; simp at g1 ⊢; simp [g1]; done) | (simp only [nrmT] at *; omega) | (simp at * <;> omega) | (simp_all <;> omega) | (simp_all; done)
      · intro hgd
        have gi := grC_in Sets Costs covered i.toNat
        rw [← h3] at gi
        simp only [Bool.and_eq_true, Bool.not_eq_true', decide_eq_false_iff_not] at hgd
        omega
      · intro hgd
        have gi := grC_in Sets Costs covered i.toNat
        rw [← h3] at gi
        simp only [Bool.and_eq_true, Bool.not_eq_true', decide_eq_false_iff_not] at hgd
        omega
      · intro hgd
        have gi := grC_in Sets Costs covered i.toNat
        rw [← h3] at gi
        simp only [Bool.and_eq_true, Bool.not_eq_true', decide_eq_false_iff_not] at hgd
        omega
      · intro hgd
        have gi := grC_in Sets Costs covered i.toNat
        rw [← h3] at gi
        simp only [Bool.and_eq_true, Bool.not_eq_true', decide_eq_false_iff_not] at hgd
        omega
      · intro hgd
        have gi := grC_in Sets Costs covered i.toNat
        rw [← h3] at gi
        simp only [Bool.and_eq_true, Bool.not_eq_true', decide_eq_false_iff_not] at hgd
        omega
      · intro hgd
        have gi := grC_in Sets Costs covered i.toNat
        rw [← h3] at gi
        simp only [Bool.and_eq_true, Bool.not_eq_true', decide_eq_false_iff_not] at hgd
        omega
      · intro hgd
        have gi := grC_in Sets Costs covered i.toNat
        rw [← h3] at gi
        simp only [Bool.and_eq_true, Bool.not_eq_true', decide_eq_false_iff_not] at hgd
        have := prod_ok hg covered (i := i.toNat) (j := best.toNat) (by omega) (by omega)
        omega
      · intro hgd
        have gi := grC_in Sets Costs covered i.toNat
        rw [← h3] at gi
        simp only [Bool.and_eq_true, Bool.not_eq_true', decide_eq_false_iff_not] at hgd
        omega
      · intro hgd
        have gi := grC_in Sets Costs covered i.toNat
        rw [← h3] at gi
        simp only [Bool.and_eq_true, Bool.not_eq_true', decide_eq_false_iff_not] at hgd
        omega
      · intro hgd
        have gi := grC_in Sets Costs covered i.toNat
        rw [← h3] at gi
        simp only [Bool.and_eq_true, Bool.not_eq_true', decide_eq_false_iff_not] at hgd
        omega
      · intro hgd
        have gi := grC_in Sets Costs covered i.toNat
        rw [← h3] at gi
        simp only [Bool.and_eq_true, Bool.not_eq_true', decide_eq_false_iff_not] at hgd
        have := prod_ok hg covered (i := best.toNat) (j := i.toNat) (by omega) (by omega)
        omega
      · intro g1 g2; rw [g1, g2]; rfl
      · intro b2
        refine ⟨?_, ?_⟩
        · first | omega | rfl | (intro hg; simp only [nrmT] at hg; omega) | (intro g1 g2; simp [g1, g2]; done) | (intro g1; simp at g1 ⊢; simp [g1]; done) | (simp only [nrmT] at *; omega) | (simp at * <;> omega) | (simp_all <;> omega) | (simp_all; done)
        · refine ⟨i, (i + 1), ?_⟩
          refine ⟨?_, ?_, rfl, rfl, rfl, rfl, rfl, rfl⟩
          · refine ⟨?_, ?_, ?_⟩
            · first | omega | rfl | (intro hg; simp only [nrmT] at hg; omega) | (intro g1 g2; simp [g1, g2]; done) | (intro g1; simp at g1 ⊢; simp [g1]; done) | (simp only [nrmT] at *; omega) | (simp at * <;> omega) | (simp_all <;> omega) | (simp_all; done)
            · first | omega | rfl | (intro hg; simp only [nrmT] at hg; omega) | (intro g1 g2; simp [g1, g2]; done) | (intro g1; simp at g1 ⊢; simp [g1]; done) | (simp only [nrmT] at *; omega) | (simp at * <;> omega) | (simp_all <;> omega) | (simp_all; done)
            · rw [cond_and_or] at b2
              rw [show (i + 1).toNat = i.toNat + 1 by omega, grC_succ, ← h3]
              unfold grCF
              rw [if_pos b2]; omega
          · first | (show _ < _; omega) | (simp only [s_l6Next_mJ0]; omega) | (simp only [s_l6Next_mJ0] at *; simp at *; omega)
      · intro b3
        refine ⟨?_, ?_⟩
        · first | omega | rfl | (intro hg; simp only [nrmT] at hg; omega) | (intro g1 g2; simp [g1, g2]; done) | (intro g1; simp at g1 ⊢; simp [g1]; done) | (simp only [nrmT] at *; omega) | (simp at * <;> omega) | (simp_all <;> omega) | (simp_all; done)
        · refine ⟨best, (i + 1), ?_⟩
          refine ⟨?_, ?_, rfl, rfl, rfl, rfl, rfl, rfl⟩
          · refine ⟨?_, ?_, ?_⟩
            · first | omega | rfl | (intro hg; simp only [nrmT] at hg; omega) | (intro g1 g2; simp [g1, g2]; done) | (intro g1; simp at g1 ⊢; simp [g1]; done) | (simp only [nrmT] at *; omega) | (simp at * <;> omega) | (simp_all <;> omega) | (simp_all; done)
            · first | omega | rfl | (intro hg; simp only [nrmT] at hg; omega) | (intro g1 g2; simp [g1, g2]; done) | (intro g1; simp at g1 ⊢; simp [g1]; done) | (simp only [nrmT] at *; omega) | (simp at * <;> omega) | (simp_all <;> omega) | (simp_all; done)
            · rw [cond_and_or] at b3
              rw [show (i + 1).toNat = i.toNat + 1 by omega, grC_succ, ← h3]
              unfold grCF
              rw [if_neg (by rw [b3]; decide)]
          · first | (show _ < _; omega) | (simp only [s_l6Next_mJ0]; omega) | (simp only [s_l6Next_mJ0] at *; simp at *; omega)
    · intro b4
      try simp only [nrmT] at b4
      rw [h3, show i.toNat = Sets.length by omega]
theorem s_l6Next_pc (Size : Int) (Sets : List (List Int)) (Costs : List Int) (covered : List Int) (hg : goodSys Size Sets Costs = true) : PC Try.prog 193 [.agg [.int .i64 Size, .sl (.rows Sets), .sl (.ints Costs)], .sl (.ints covered)] (.one (.d (.int .i64 (grC Sets Costs covered Sets.length)))) :=
  pc_wf @Try.call193 fun hw => pc_by (by kernel_rfl) Try.func193 @Try.call193 (by kernel_rfl) s_l6Next_C (s_l6Next_A Size Sets Costs covered) (by kernel_rfl) (s_l6Next_vc Size Sets Costs covered hg hw.1.2.1.1 hw.1.2.1.2 hw.1.2.2.1 hw.2.1) (by kernel_rfl)
def s_l6Next_orc : List D → Orc := orcN [none, some .ints] fun ds => match ds with
  | [.agg [.int .i64 Size, .sl (.rows Sets), .sl (.ints Costs)], .sl (.ints covered)] => some (.one (.d (.int .i64 (grC Sets Costs covered Sets.length))))
  | _ => none
abbrev i_System_greedy_JJ0 (Size : Int) (Sets : List (List Int)) (Costs : List Int) (out : List Int) (fresh : List Int) (done : Int) : Prop := (GrOk Sets out) ∧ (grs Size Sets Costs out = grs Size Sets Costs []) ∧ (fresh = freshOf Sets out) ∧ (done = ((covTo Sets out out.length : Nat) : Int))
abbrev i_System_greedy_mJ0 (Size : Int) (Sets : List (List Int)) (Costs : List Int) (out : List Int) (fresh : List Int) (done : Int) : Nat := Size.toNat - cnt Sets out
abbrev i_System_greedy_JJ1 (Size : Int) (Sets : List (List Int)) (Costs : List Int) (out : List Int) (fresh : List Int) (done : Int) (best : Int) (most : Int) (i : Int) : Prop := (0 ≤ i) ∧ (i ≤ (Sets.length : Int)) ∧ (best = grTo Sets Costs out i.toNat) ∧ (most = if best < 0 then 1 else newN Sets out best.toNat)
abbrev i_System_greedy_mJ1 (Size : Int) (Sets : List (List Int)) (Costs : List Int) (out : List Int) (fresh : List Int) (done : Int) (best : Int) (most : Int) (i : Int) : Nat := (Sets.length - i).toNat
abbrev i_System_greedy_JA1 (Size : Int) (Sets : List (List Int)) (Costs : List Int) (out : List Int) (fresh : List Int) (done : Int) (best : Int) (most : Int) : Prop := (best = grTo Sets Costs out Sets.length) ∧ (most = if best < 0 then 1 else newN Sets out best.toNat)
def i_System_greedy_C (f : FuncId) (ds : List D) : Orc := bif Nat.beq f 194 then i_System_all_orc ds else bif Nat.beq f 139 then i_bagOf_orc ds else bif Nat.beq f 140 then i_bag_size_orc ds else .no
def i_System_greedy_A (Size : Int) (Sets : List (List Int)) (Costs : List Int) : Ann := .two (.none) (.two (.none) (.two (.loop (cut3 (fun (out : List Int) (fresh : List Int) (done : Int) => i_System_greedy_JJ0 Size Sets Costs out fresh done) (fun (out : List Int) (fresh : List Int) (done : Int) => [(1, .ptr 1 0), (5, .own 1000000 out.length), (6, .own 1000001 fresh.length), (7, .d true (.int .u64 done))]) (fun (out : List Int) (fresh : List Int) (done : Int) => [(1000000, .arr true 3 (.ints out)), (1000001, .arr true 3 (.ints fresh)), (1, .box 50 [.d false (.int .i64 Size), .d false (.sl (.rows Sets)), .d false (.sl (.ints Costs))])])) (fun g => i_System_greedy_mJ0 Size Sets Costs g.1 g.2.1 g.2.2) (fun g => (fun (out : List Int) (fresh : List Int) (done : Int) => .two (.none) (.two (.none) (.cut (.two (.none) (.loop (cut3 (fun (best : Int) (most : Int) (i : Int) => i_System_greedy_JJ1 Size Sets Costs out fresh done best most i) (fun (best : Int) (most : Int) (i : Int) => [(1, .ptr 1 0), (5, .own 1000000 out.length), (6, .own 1000001 fresh.length), (7, .d true (.int .u64 done)), (8, .d true (.int .i64 best)), (9, .d true (.int .i64 most)), (20, .d false (.sl (.rows Sets))), (21, .d true (.int .i64 (Sets.length : Int))), (22, .d true (.int .i64 i))]) (fun (best : Int) (most : Int) (i : Int) => [(1, .box 50 [.d false (.int .i64 Size), .d false (.sl (.rows Sets)), .d false (.sl (.ints Costs))]), (1000000, .arr true 3 (.ints out)), (1000001, .arr true 3 (.ints fresh))])) (fun g => i_System_greedy_mJ1 Size Sets Costs out fresh done g.1 g.2.1 g.2.2) (fun _ => .none))) (cut2 (fun (best : Int) (most : Int) => i_System_greedy_JA1 Size Sets Costs out fresh done best most) (fun (best : Int) (most : Int) => [(1, .ptr 1 0), (5, .own 1000000 out.length), (6, .own 1000001 fresh.length), (7, .d true (.int .u64 done)), (8, .d true (.int .i64 best)), (9, .d true (.int .i64 most))]) (fun (best : Int) (most : Int) => [(1, .box 50 [.d false (.int .i64 Size), .d false (.sl (.rows Sets)), .d false (.sl (.ints Costs))]), (1000000, .arr true 3 (.ints out)), (1000001, .arr true 3 (.ints fresh))])) (fun _ => .none)))) (g.1) (g.2.1) (g.2.2))) (.none)))
def i_System_greedy_P (Size : Int) (Sets : List (List Int)) (Costs : List Int) : Prop :=
  ((∃ out' : List Int, ∃ fresh' : List Int, ∃ done' : Int, (i_System_greedy_JJ0 Size Sets Costs out' fresh' done') ∧ ((0 : Nat) = out'.length) ∧ ((0 : Nat) = fresh'.length) ∧ ((0 : Int) = done') ∧ ([] = out') ∧ ([] = fresh') ∧ (Size = Size) ∧ (Sets = Sets) ∧ (Costs = Costs)) ∧ (∀ out : List Int, ∀ fresh : List Int, ∀ done : Int, (i_System_greedy_JJ0 Size Sets Costs out fresh done) → (PC Try.prog 194 [.agg [.int .i64 Size, .sl (.rows Sets), .sl (.ints Costs)]] (.one (.d (.int .u64 ((2 ^ Size.toNat - 1 : Nat) : Int))))) ∧ (((done != ((2 ^ Size.toNat - 1 : Nat) : Int)) = true → ((((∃ best' : Int, ∃ most' : Int, ∃ i' : Int, (i_System_greedy_JJ1 Size Sets Costs out fresh done best' most' i') ∧ (out.length = out.length) ∧ (fresh.length = fresh.length) ∧ (done = done) ∧ (((-1) : Int) = best') ∧ ((1 : Int) = most') ∧ (Sets = Sets) ∧ ((Sets.length : Int) = (Sets.length : Int)) ∧ ((0 : Int) = i') ∧ (Size = Size) ∧ (Sets = Sets) ∧ (Costs = Costs) ∧ (out = out) ∧ (fresh = fresh)) ∧ (∀ best : Int, ∀ most : Int, ∀ i : Int, (i_System_greedy_JJ1 Size Sets Costs out fresh done best most i) → (((decide (i < (Sets.length : Int))) = true → ((0 : Int) ≤ i) ∧ ((i : Int) < Sets.length) ∧ (i.toNat < Sets.length) ∧ (PC Try.prog 139 [.sl (.ints (Sets.getD i.toNat []))] (.one (.d (.int .u64 ((bagN (Sets.getD i.toNat []) : Nat) : Int))))) ∧ ((0 : Int) ≤ ((bagN (Sets.getD i.toNat []) : Nat) : Int) ∧ (((bagN (Sets.getD i.toNat []) : Nat) : Int) : Int) ≤ 18446744073709551615) ∧ ((0 : Int) ≤ done ∧ (done : Int) ≤ 18446744073709551615) ∧ (PC Try.prog 140 [.int .u64 ((((bagN (Sets.getD i.toNat []) : Nat) : Int).toNat ^^^ (((bagN (Sets.getD i.toNat []) : Nat) : Int).toNat &&& done.toNat) : Nat) : Int)] (.one (.d (.int .i64 (popc ((((bagN (Sets.getD i.toNat []) : Nat) : Int).toNat ^^^ (((bagN (Sets.getD i.toNat []) : Nat) : Int).toNat &&& done.toNat) : Nat) : Int).toNat))))) ∧ (true = true) ∧ ((decide ((popc ((((bagN (Sets.getD i.toNat []) : Nat) : Int).toNat ^^^ (((bagN (Sets.getD i.toNat []) : Nat) : Int).toNat &&& done.toNat) : Nat) : Int).toNat) > 0)) = true → (decide ((popc ((((bagN (Sets.getD i.toNat []) : Nat) : Int).toNat ^^^ (((bagN (Sets.getD i.toNat []) : Nat) : Int).toNat &&& done.toNat) : Nat) : Int).toNat) > 0)) = true) ∧ ((decide ((popc ((((bagN (Sets.getD i.toNat []) : Nat) : Int).toNat ^^^ (((bagN (Sets.getD i.toNat []) : Nat) : Int).toNat &&& done.toNat) : Nat) : Int).toNat) > 0)) = true → (decide ((popc ((((bagN (Sets.getD i.toNat []) : Nat) : Int).toNat ^^^ (((bagN (Sets.getD i.toNat []) : Nat) : Int).toNat &&& done.toNat) : Nat) : Int).toNat) > 0)) = true) ∧ (((decide ((popc ((((bagN (Sets.getD i.toNat []) : Nat) : Int).toNat ^^^ (((bagN (Sets.getD i.toNat []) : Nat) : Int).toNat &&& done.toNat) : Nat) : Int).toNat) > 0)) && (!(decide (best < 0)))) = true → ((decide ((popc ((((bagN (Sets.getD i.toNat []) : Nat) : Int).toNat ^^^ (((bagN (Sets.getD i.toNat []) : Nat) : Int).toNat &&& done.toNat) : Nat) : Int).toNat) > 0)) && (!(decide (best < 0)))) = true) ∧ (((decide ((popc ((((bagN (Sets.getD i.toNat []) : Nat) : Int).toNat ^^^ (((bagN (Sets.getD i.toNat []) : Nat) : Int).toNat &&& done.toNat) : Nat) : Int).toNat) > 0)) && (!(decide (best < 0)))) = true → ((decide ((popc ((((bagN (Sets.getD i.toNat []) : Nat) : Int).toNat ^^^ (((bagN (Sets.getD i.toNat []) : Nat) : Int).toNat &&& done.toNat) : Nat) : Int).toNat) > 0)) && (!(decide (best < 0)))) = true) ∧ (((decide ((popc ((((bagN (Sets.getD i.toNat []) : Nat) : Int).toNat ^^^ (((bagN (Sets.getD i.toNat []) : Nat) : Int).toNat &&& done.toNat) : Nat) : Int).toNat) > 0)) && (!(decide (best < 0)))) = true → ((decide ((popc ((((bagN (Sets.getD i.toNat []) : Nat) : Int).toNat ^^^ (((bagN (Sets.getD i.toNat []) : Nat) : Int).toNat &&& done.toNat) : Nat) : Int).toNat) > 0)) && (!(decide (best < 0)))) = true) ∧ ((((decide ((popc ((((bagN (Sets.getD i.toNat []) : Nat) : Int).toNat ^^^ (((bagN (Sets.getD i.toNat []) : Nat) : Int).toNat &&& done.toNat) : Nat) : Int).toNat) > 0)) && (!(decide (best < 0)))) = true → (0 : Int) ≤ i)) ∧ ((((decide ((popc ((((bagN (Sets.getD i.toNat []) : Nat) : Int).toNat ^^^ (((bagN (Sets.getD i.toNat []) : Nat) : Int).toNat &&& done.toNat) : Nat) : Int).toNat) > 0)) && (!(decide (best < 0)))) = true → (i : Int) < Costs.length)) ∧ (((decide ((popc ((((bagN (Sets.getD i.toNat []) : Nat) : Int).toNat ^^^ (((bagN (Sets.getD i.toNat []) : Nat) : Int).toNat &&& done.toNat) : Nat) : Int).toNat) > 0)) && (!(decide (best < 0)))) = true → ((decide ((popc ((((bagN (Sets.getD i.toNat []) : Nat) : Int).toNat ^^^ (((bagN (Sets.getD i.toNat []) : Nat) : Int).toNat &&& done.toNat) : Nat) : Int).toNat) > 0)) && (!(decide (best < 0)))) = true) ∧ ((((decide ((popc ((((bagN (Sets.getD i.toNat []) : Nat) : Int).toNat ^^^ (((bagN (Sets.getD i.toNat []) : Nat) : Int).toNat &&& done.toNat) : Nat) : Int).toNat) > 0)) && (!(decide (best < 0)))) = true → i.toNat < Costs.length)) ∧ (((decide ((popc ((((bagN (Sets.getD i.toNat []) : Nat) : Int).toNat ^^^ (((bagN (Sets.getD i.toNat []) : Nat) : Int).toNat &&& done.toNat) : Nat) : Int).toNat) > 0)) && (!(decide (best < 0)))) = true → ((decide ((popc ((((bagN (Sets.getD i.toNat []) : Nat) : Int).toNat ^^^ (((bagN (Sets.getD i.toNat []) : Nat) : Int).toNat &&& done.toNat) : Nat) : Int).toNat) > 0)) && (!(decide (best < 0)))) = true) ∧ (((decide ((popc ((((bagN (Sets.getD i.toNat []) : Nat) : Int).toNat ^^^ (((bagN (Sets.getD i.toNat []) : Nat) : Int).toNat &&& done.toNat) : Nat) : Int).toNat) > 0)) && (!(decide (best < 0)))) = true → ((decide ((popc ((((bagN (Sets.getD i.toNat []) : Nat) : Int).toNat ^^^ (((bagN (Sets.getD i.toNat []) : Nat) : Int).toNat &&& done.toNat) : Nat) : Int).toNat) > 0)) && (!(decide (best < 0)))) = true) ∧ ((((decide ((popc ((((bagN (Sets.getD i.toNat []) : Nat) : Int).toNat ^^^ (((bagN (Sets.getD i.toNat []) : Nat) : Int).toNat &&& done.toNat) : Nat) : Int).toNat) > 0)) && (!(decide (best < 0)))) = true → -9223372036854775808 ≤ ((Costs.getD i.toNat 0) * most) ∧ ((Costs.getD i.toNat 0) * most) ≤ 9223372036854775807)) ∧ (((decide ((popc ((((bagN (Sets.getD i.toNat []) : Nat) : Int).toNat ^^^ (((bagN (Sets.getD i.toNat []) : Nat) : Int).toNat &&& done.toNat) : Nat) : Int).toNat) > 0)) && (!(decide (best < 0)))) = true → ((decide ((popc ((((bagN (Sets.getD i.toNat []) : Nat) : Int).toNat ^^^ (((bagN (Sets.getD i.toNat []) : Nat) : Int).toNat &&& done.toNat) : Nat) : Int).toNat) > 0)) && (!(decide (best < 0)))) = true) ∧ (((decide ((popc ((((bagN (Sets.getD i.toNat []) : Nat) : Int).toNat ^^^ (((bagN (Sets.getD i.toNat []) : Nat) : Int).toNat &&& done.toNat) : Nat) : Int).toNat) > 0)) && (!(decide (best < 0)))) = true → ((decide ((popc ((((bagN (Sets.getD i.toNat []) : Nat) : Int).toNat ^^^ (((bagN (Sets.getD i.toNat []) : Nat) : Int).toNat &&& done.toNat) : Nat) : Int).toNat) > 0)) && (!(decide (best < 0)))) = true) ∧ (((decide ((popc ((((bagN (Sets.getD i.toNat []) : Nat) : Int).toNat ^^^ (((bagN (Sets.getD i.toNat []) : Nat) : Int).toNat &&& done.toNat) : Nat) : Int).toNat) > 0)) && (!(decide (best < 0)))) = true → ((decide ((popc ((((bagN (Sets.getD i.toNat []) : Nat) : Int).toNat ^^^ (((bagN (Sets.getD i.toNat []) : Nat) : Int).toNat &&& done.toNat) : Nat) : Int).toNat) > 0)) && (!(decide (best < 0)))) = true) ∧ ((((decide ((popc ((((bagN (Sets.getD i.toNat []) : Nat) : Int).toNat ^^^ (((bagN (Sets.getD i.toNat []) : Nat) : Int).toNat &&& done.toNat) : Nat) : Int).toNat) > 0)) && (!(decide (best < 0)))) = true → (0 : Int) ≤ best)) ∧ ((((decide ((popc ((((bagN (Sets.getD i.toNat []) : Nat) : Int).toNat ^^^ (((bagN (Sets.getD i.toNat []) : Nat) : Int).toNat &&& done.toNat) : Nat) : Int).toNat) > 0)) && (!(decide (best < 0)))) = true → (best : Int) < Costs.length)) ∧ (((decide ((popc ((((bagN (Sets.getD i.toNat []) : Nat) : Int).toNat ^^^ (((bagN (Sets.getD i.toNat []) : Nat) : Int).toNat &&& done.toNat) : Nat) : Int).toNat) > 0)) && (!(decide (best < 0)))) = true → ((decide ((popc ((((bagN (Sets.getD i.toNat []) : Nat) : Int).toNat ^^^ (((bagN (Sets.getD i.toNat []) : Nat) : Int).toNat &&& done.toNat) : Nat) : Int).toNat) > 0)) && (!(decide (best < 0)))) = true) ∧ ((((decide ((popc ((((bagN (Sets.getD i.toNat []) : Nat) : Int).toNat ^^^ (((bagN (Sets.getD i.toNat []) : Nat) : Int).toNat &&& done.toNat) : Nat) : Int).toNat) > 0)) && (!(decide (best < 0)))) = true → best.toNat < Costs.length)) ∧ (((decide ((popc ((((bagN (Sets.getD i.toNat []) : Nat) : Int).toNat ^^^ (((bagN (Sets.getD i.toNat []) : Nat) : Int).toNat &&& done.toNat) : Nat) : Int).toNat) > 0)) && (!(decide (best < 0)))) = true → ((decide ((popc ((((bagN (Sets.getD i.toNat []) : Nat) : Int).toNat ^^^ (((bagN (Sets.getD i.toNat []) : Nat) : Int).toNat &&& done.toNat) : Nat) : Int).toNat) > 0)) && (!(decide (best < 0)))) = true) ∧ (((decide ((popc ((((bagN (Sets.getD i.toNat []) : Nat) : Int).toNat ^^^ (((bagN (Sets.getD i.toNat []) : Nat) : Int).toNat &&& done.toNat) : Nat) : Int).toNat) > 0)) && (!(decide (best < 0)))) = true → ((decide ((popc ((((bagN (Sets.getD i.toNat []) : Nat) : Int).toNat ^^^ (((bagN (Sets.getD i.toNat []) : Nat) : Int).toNat &&& done.toNat) : Nat) : Int).toNat) > 0)) && (!(decide (best < 0)))) = true) ∧ ((((decide ((popc ((((bagN (Sets.getD i.toNat []) : Nat) : Int).toNat ^^^ (((bagN (Sets.getD i.toNat []) : Nat) : Int).toNat &&& done.toNat) : Nat) : Int).toNat) > 0)) && (!(decide (best < 0)))) = true → -9223372036854775808 ≤ ((Costs.getD best.toNat 0) * (popc ((((bagN (Sets.getD i.toNat []) : Nat) : Int).toNat ^^^ (((bagN (Sets.getD i.toNat []) : Nat) : Int).toNat &&& done.toNat) : Nat) : Int).toNat)) ∧ ((Costs.getD best.toNat 0) * (popc ((((bagN (Sets.getD i.toNat []) : Nat) : Int).toNat ^^^ (((bagN (Sets.getD i.toNat []) : Nat) : Int).toNat &&& done.toNat) : Nat) : Int).toNat)) ≤ 9223372036854775807)) ∧ (((decide ((popc ((((bagN (Sets.getD i.toNat []) : Nat) : Int).toNat ^^^ (((bagN (Sets.getD i.toNat []) : Nat) : Int).toNat &&& done.toNat) : Nat) : Int).toNat) > 0)) && (!(decide (best < 0)))) = true → ((decide ((popc ((((bagN (Sets.getD i.toNat []) : Nat) : Int).toNat ^^^ (((bagN (Sets.getD i.toNat []) : Nat) : Int).toNat &&& done.toNat) : Nat) : Int).toNat) > 0)) && (!(decide (best < 0)))) = true) ∧ (((decide ((popc ((((bagN (Sets.getD i.toNat []) : Nat) : Int).toNat ^^^ (((bagN (Sets.getD i.toNat []) : Nat) : Int).toNat &&& done.toNat) : Nat) : Int).toNat) > 0)) && (!(decide (best < 0)))) = true → ((decide ((popc ((((bagN (Sets.getD i.toNat []) : Nat) : Int).toNat ^^^ (((bagN (Sets.getD i.toNat []) : Nat) : Int).toNat &&& done.toNat) : Nat) : Int).toNat) > 0)) && (!(decide (best < 0)))) = true) ∧ (((decide ((popc ((((bagN (Sets.getD i.toNat []) : Nat) : Int).toNat ^^^ (((bagN (Sets.getD i.toNat []) : Nat) : Int).toNat &&& done.toNat) : Nat) : Int).toNat) > 0)) = true → (decide ((popc ((((bagN (Sets.getD i.toNat []) : Nat) : Int).toNat ^^^ (((bagN (Sets.getD i.toNat []) : Nat) : Int).toNat &&& done.toNat) : Nat) : Int).toNat) > 0)) = true)) ∧ (((decide ((popc ((((bagN (Sets.getD i.toNat []) : Nat) : Int).toNat ^^^ (((bagN (Sets.getD i.toNat []) : Nat) : Int).toNat &&& done.toNat) : Nat) : Int).toNat) > 0)) = true → (decide (best < 0)) = true → true = true)) ∧ (((decide ((popc ((((bagN (Sets.getD i.toNat []) : Nat) : Int).toNat ^^^ (((bagN (Sets.getD i.toNat []) : Nat) : Int).toNat &&& done.toNat) : Nat) : Int).toNat) > 0)) = true → (decide (best < 0)) = false → ((decide ((popc ((((bagN (Sets.getD i.toNat []) : Nat) : Int).toNat ^^^ (((bagN (Sets.getD i.toNat []) : Nat) : Int).toNat &&& done.toNat) : Nat) : Int).toNat) > 0)) && (!(decide (best < 0)))) = true)) ∧ (true = true) ∧ (((decide ((popc ((((bagN (Sets.getD i.toNat []) : Nat) : Int).toNat ^^^ (((bagN (Sets.getD i.toNat []) : Nat) : Int).toNat &&& done.toNat) : Nat) : Int).toNat) > 0)) = true → (decide ((popc ((((bagN (Sets.getD i.toNat []) : Nat) : Int).toNat ^^^ (((bagN (Sets.getD i.toNat []) : Nat) : Int).toNat &&& done.toNat) : Nat) : Int).toNat) > 0)) = true)) ∧ (((decide ((popc ((((bagN (Sets.getD i.toNat []) : Nat) : Int).toNat ^^^ (((bagN (Sets.getD i.toNat []) : Nat) : Int).toNat &&& done.toNat) : Nat) : Int).toNat) > 0)) = false → true = true)) ∧ (((cond (decide ((popc ((((bagN (Sets.getD i.toNat []) : Nat) : Int).toNat ^^^ (((bagN (Sets.getD i.toNat []) : Nat) : Int).toNat &&& done.toNat) : Nat) : Int).toNat) > 0)) (cond (decide (best < 0)) true (decide (((Costs.getD i.toNat 0) * most) < ((Costs.getD best.toNat 0) * (popc ((((bagN (Sets.getD i.toNat []) : Nat) : Int).toNat ^^^ (((bagN (Sets.getD i.toNat []) : Nat) : Int).toNat &&& done.toNat) : Nat) : Int).toNat))))) false) = true → (-9223372036854775808 ≤ (i + 1) ∧ (i + 1) ≤ 9223372036854775807) ∧ (∃ best' : Int, ∃ most' : Int, ∃ i' : Int, (i_System_greedy_JJ1 Size Sets Costs out fresh done best' most' i') ∧ (i_System_greedy_mJ1 Size Sets Costs out fresh done best' most' i' < i_System_greedy_mJ1 Size Sets Costs out fresh done best most i) ∧ (out.length = out.length) ∧ (fresh.length = fresh.length) ∧ (done = done) ∧ (i = best') ∧ ((popc ((((bagN (Sets.getD i.toNat []) : Nat) : Int).toNat ^^^ (((bagN (Sets.getD i.toNat []) : Nat) : Int).toNat &&& done.toNat) : Nat) : Int).toNat) = most') ∧ (Sets = Sets) ∧ ((Sets.length : Int) = (Sets.length : Int)) ∧ ((i + 1) = i') ∧ (Size = Size) ∧ (Sets = Sets) ∧ (Costs = Costs) ∧ (out = out) ∧ (fresh = fresh))) ∧ ((cond (decide ((popc ((((bagN (Sets.getD i.toNat []) : Nat) : Int).toNat ^^^ (((bagN (Sets.getD i.toNat []) : Nat) : Int).toNat &&& done.toNat) : Nat) : Int).toNat) > 0)) (cond (decide (best < 0)) true (decide (((Costs.getD i.toNat 0) * most) < ((Costs.getD best.toNat 0) * (popc ((((bagN (Sets.getD i.toNat []) : Nat) : Int).toNat ^^^ (((bagN (Sets.getD i.toNat []) : Nat) : Int).toNat &&& done.toNat) : Nat) : Int).toNat))))) false) = false → (-9223372036854775808 ≤ (i + 1) ∧ (i + 1) ≤ 9223372036854775807) ∧ (∃ best' : Int, ∃ most' : Int, ∃ i' : Int, (i_System_greedy_JJ1 Size Sets Costs out fresh done best' most' i') ∧ (i_System_greedy_mJ1 Size Sets Costs out fresh done best' most' i' < i_System_greedy_mJ1 Size Sets Costs out fresh done best most i) ∧ (out.length = out.length) ∧ (fresh.length = fresh.length) ∧ (done = done) ∧ (best = best') ∧ (most = most') ∧ (Sets = Sets) ∧ ((Sets.length : Int) = (Sets.length : Int)) ∧ ((i + 1) = i') ∧ (Size = Size) ∧ (Sets = Sets) ∧ (Costs = Costs) ∧ (out = out) ∧ (fresh = fresh))))) ∧ ((decide (i < (Sets.length : Int))) = false → (∃ best' : Int, ∃ most' : Int, (i_System_greedy_JA1 Size Sets Costs out fresh done best' most') ∧ (out.length = out.length) ∧ (fresh.length = fresh.length) ∧ (done = done) ∧ (best = best') ∧ (most = most') ∧ (Size = Size) ∧ (Sets = Sets) ∧ (Costs = Costs) ∧ (out = out) ∧ (fresh = fresh))))))) ∧ (∀ best : Int, ∀ most : Int, (i_System_greedy_JA1 Size Sets Costs out fresh done best most) → (((decide (best < 0)) = true → (((grO Size Sets Costs).length = 0) ∧ ((freshOf Sets (grO Size Sets Costs)).length = 0) ∧ (false = ((grs Size Sets Costs []).isSome)))) ∧ ((decide (best < 0)) = false → (true = true) ∧ (out.length = out.length) ∧ ((1 : Nat) = 1) ∧ ((out.length + 1) * 8 ≤ 140737488355328) ∧ (fresh.length = fresh.length) ∧ ((1 : Nat) = 1) ∧ ((fresh.length + 1) * 8 ≤ 140737488355328) ∧ ((0 : Int) ≤ best) ∧ ((best : Int) < Sets.length) ∧ (best.toNat < Sets.length) ∧ (PC Try.prog 139 [.sl (.ints (Sets.getD best.toNat []))] (.one (.d (.int .u64 ((bagN (Sets.getD best.toNat []) : Nat) : Int))))) ∧ ((0 : Int) ≤ done ∧ (done : Int) ≤ 18446744073709551615) ∧ ((0 : Int) ≤ ((bagN (Sets.getD best.toNat []) : Nat) : Int) ∧ (((bagN (Sets.getD best.toNat []) : Nat) : Int) : Int) ≤ 18446744073709551615) ∧ (∃ out' : List Int, ∃ fresh' : List Int, ∃ done' : Int, (i_System_greedy_JJ0 Size Sets Costs out' fresh' done') ∧ (i_System_greedy_mJ0 Size Sets Costs out' fresh' done' < i_System_greedy_mJ0 Size Sets Costs out fresh done) ∧ ((out.length + 1) = out'.length) ∧ ((fresh.length + 1) = fresh'.length) ∧ (((done.toNat ||| ((bagN (Sets.getD best.toNat []) : Nat) : Int).toNat : Nat) : Int) = done') ∧ ((out ++ [best]) = out') ∧ ((fresh ++ [most]) = fresh') ∧ (Size = Size) ∧ (Sets = Sets) ∧ (Costs = Costs))))))) ∧ ((done != ((2 ^ Size.toNat - 1 : Nat) : Int)) = false → ((out.length = out.length) ∧ ((out : List Int) = grO Size Sets Costs) ∧ (fresh.length = fresh.length) ∧ ((fresh : List Int) = freshOf Sets (grO Size Sets Costs)) ∧ (true = ((grs Size Sets Costs []).isSome)))))))
theorem i_System_greedy_vc (Size : Int) (Sets : List (List Int)) (Costs : List Int) (hg : goodSys Size Sets Costs = true) (w_Sets : (Sets.length : Int) ≤ 9223372036854775807) (v_Sets : ∀ x9 ∈ Sets, (x9.length : Int) ≤ 9223372036854775807) (w_Costs : (Costs.length : Int) ≤ 9223372036854775807) : i_System_greedy_P Size Sets Costs := by
  unfold i_System_greedy_P
  have gf := gs_facts hg
  refine ⟨?_, ?_⟩
  · refine ⟨([]), ([]), 0, ?_⟩
    refine ⟨?_, rfl, rfl, rfl, ?_, ?_, rfl, rfl, rfl⟩
    · refine ⟨?_, ?_, ?_, ?_⟩
      · exact grOk_nil Sets
      · first | omega | rfl | (intro hg; simp only [nrmT] at hg; omega) | (intro g1 g2; simp [g1, g2]; done) | (intro g1; simp at g1 ⊢; simp [g1]; done) | (simp only [nrmT] at *; omega) | (simp at * <;> omega) | (simp_all <;> omega) | (simp_all; done)
      · first | omega | rfl | (intro hg; simp only [nrmT] at hg; omega) | (intro g1 g2; simp [g1, g2]; done) | (intro g1; simp at g1 ⊢; simp [g1]; done) | (simp only [nrmT] at *; omega) | (simp at * <;> omega) | (simp_all <;> omega) | (simp_all; done)
      · first | omega | rfl | (intro hg; simp only [nrmT] at hg; omega) | (intro g1 g2; simp [g1, g2]; done) | (intro g1; simp at g1 ⊢; simp [g1]; done) | (simp only [nrmT] at *; omega) | (simp at * <;> omega) | (simp_all <;> omega) | (simp_all; done)
    · first | omega | rfl | (intro hg; simp only [nrmT] at hg; omega) | (intro g1 g2; simp [g1, g2]; done) | (intro g1; simp at g1 ⊢; simp [g1]; done) | (simp only [nrmT] at *; omega) | (simp at * <;> omega) | (simp_all <;> omega) | (simp_all; done)
    · first | omega | rfl | (intro hg; simp only [nrmT] at hg; omega) | (intro g1 g2; simp [g1, g2]; done) | (intro g1; simp at g1 ⊢; simp [g1]; done) | (simp only [nrmT] at *; omega) | (simp at * <;> omega) | (simp_all <;> omega) | (simp_all; done)
  · intro out fresh done hJ
    obtain ⟨h2, h3, h4, hc⟩ := hJ
    refine ⟨?_, ?_, ?_⟩
    · refine i_System_all_pc Size Sets Costs ?_
      · first | omega | rfl | (intro hg; simp only [nrmT] at hg; omega) | (intro g1 g2; simp [g1, g2]; done) | (intro g1; simp at g1 ⊢; simp [g1]; done) | (simp only [nrmT] at *; omega) | (simp at * <;> omega) | (simp_all <;> omega) | (simp_all; done)
    · intro b1
      try simp only [nrmT] at b1
      refine ⟨?_, ?_⟩
      · refine ⟨?_, ?_⟩
        · refine ⟨(-1), 1, 0, ?_⟩
          refine ⟨?_, rfl, rfl, rfl, rfl, rfl, rfl, rfl, rfl, rfl, rfl, rfl, rfl, rfl⟩
          · refine ⟨?_, ?_, ?_, ?_⟩
            · first | omega | rfl | (intro hg; simp only [nrmT] at hg; omega) | (intro g1 g2; simp [g1, g2]; done) | (intro g1; simp at g1 ⊢; simp [g1]; done) | (simp only [nrmT] at *; omega) | (simp at * <;> omega) | (simp_all <;> omega) | (simp_all; done)
            · first | omega | rfl | (intro hg; simp only [nrmT] at hg; omega) | (intro g1 g2; simp [g1, g2]; done) | (intro g1; simp at g1 ⊢; simp [g1]; done) | (simp only [nrmT] at *; omega) | (simp at * <;> omega) | (simp_all <;> omega) | (simp_all; done)
            · first | omega | rfl | (intro hg; simp only [nrmT] at hg; omega) | (intro g1 g2; simp [g1, g2]; done) | (intro g1; simp at g1 ⊢; simp [g1]; done) | (simp only [nrmT] at *; omega) | (simp at * <;> omega) | (simp_all <;> omega) | (simp_all; done)
            · rfl
        · intro best most i hJ
          obtain ⟨k1, k2, k3, k4⟩ := hJ
          refine ⟨?_, ?_⟩
          · intro b2
            try simp only [nrmT] at b2
            refine ⟨?_, ?_, ?_, ?_, ?_, ?_, ?_, rfl, id, id, id, id, id, ?_, ?_, id, ?_, id, id, ?_, id, id, id, ?_, ?_, id, ?_, id, id, ?_, id, id, id, fun _ _ => rfl, ?_, rfl, id, fun _ => rfl, ?_, ?_⟩
            · first | omega | rfl | (intro hg; simp only [nrmT] at hg; omega) | (intro g1 g2; simp [g1, g2]; done) | (intro g1; simp at g1 ⊢; simp [g1]; done) | (simp only [nrmT] at *; omega) | (simp at * <;> omega) | (simp_all <;> omega) | (simp_all; done)
            · first | omega | rfl | (intro hg; simp only [nrmT] at hg; omega) | (intro g1 g2; simp [g1, g2]; done) | (intro g1; simp at g1 ⊢; simp [g1]; done) | (simp only [nrmT] at *; omega) | (simp at * <;> omega) | (simp_all <;> omega) | (simp_all; done)
            · first | omega | rfl | (intro hg; simp only [nrmT] at hg; omega) | (intro g1 g2; simp [g1, g2]; done) | (intro g1; simp at g1 ⊢; simp [g1]; done) | (simp only [nrmT] at *; omega) | (simp at * <;> omega) | (simp_all <;> omega) | (simp_all; done)
            · refine i_bagOf_pc (Sets.getD i.toNat []) ?_
              · intro x hx; have := set_mem hg (k := i.toNat) (by omega) x hx; omega
            · have := set_bag hg (k := i.toNat) (by omega)
              omega
            · have := cov_bag hg h2.inR
              omega
            · refine i_bag_size_pc ((((bagN (Sets.getD i.toNat []) : Nat) : Int).toNat ^^^ (((bagN (Sets.getD i.toNat []) : Nat) : Int).toNat &&& done.toNat) : Nat) : Int) ?_
              · simp only [Int.toNat_natCast]
                have := not_lt256 (d := done.toNat) (set_bag hg (k := i.toNat) (by omega))
                omega
            · intro hgd
              have gi := (grTo_facts Sets Costs out i.toNat).1
              rw [← k3] at gi
              simp only [Bool.and_eq_true, Bool.not_eq_true', decide_eq_false_iff_not] at hgd
              omega
            · intro hgd
              have gi := (grTo_facts Sets Costs out i.toNat).1
              rw [← k3] at gi
              simp only [Bool.and_eq_true, Bool.not_eq_true', decide_eq_false_iff_not] at hgd
              omega
            · intro hgd
              have gi := (grTo_facts Sets Costs out i.toNat).1
              rw [← k3] at gi
              simp only [Bool.and_eq_true, Bool.not_eq_true', decide_eq_false_iff_not] at hgd
              omega
            · intro hgd
              have gi := (grTo_facts Sets Costs out i.toNat).1
              rw [← k3] at gi
              simp only [Bool.and_eq_true, Bool.not_eq_true', decide_eq_false_iff_not] at hgd
              rw [k4, if_neg hgd.2]
              have := prod_ok hg (covL Sets out out.length) (i := i.toNat) (j := best.toNat) (by omega) (by omega)
              unfold newN
              omega
            · intro hgd
              have gi := (grTo_facts Sets Costs out i.toNat).1
              rw [← k3] at gi
              simp only [Bool.and_eq_true, Bool.not_eq_true', decide_eq_false_iff_not] at hgd
              omega
            · intro hgd
              have gi := (grTo_facts Sets Costs out i.toNat).1
              rw [← k3] at gi
              simp only [Bool.and_eq_true, Bool.not_eq_true', decide_eq_false_iff_not] at hgd
              omega
            · intro hgd
              have gi := (grTo_facts Sets Costs out i.toNat).1
              rw [← k3] at gi
              simp only [Bool.and_eq_true, Bool.not_eq_true', decide_eq_false_iff_not] at hgd
              omega
            · intro hgd
              have gi := (grTo_facts Sets Costs out i.toNat).1
              rw [← k3] at gi
              simp only [Bool.and_eq_true, Bool.not_eq_true', decide_eq_false_iff_not] at hgd
              have hn0 : popc ((((bagN (Sets.getD i.toNat []) : Nat) : Int).toNat ^^^ (((bagN (Sets.getD i.toNat []) : Nat) : Int).toNat &&& done.toNat) : Nat) : Int).toNat = newN Sets out i.toNat := by
                rw [hc]; simp only [Int.toNat_natCast]; exact new_same hg h2.inR (by omega)
              rw [hn0]
              have := prod_ok hg (covL Sets out out.length) (i := best.toNat) (j := i.toNat) (by omega) (by omega)
              unfold newN
              omega
            · intro g1 g2; rw [g1, g2]; rfl
            · intro b3
              refine ⟨?_, ?_⟩
              · first | omega | rfl | (intro hg; simp only [nrmT] at hg; omega) | (intro g1 g2; simp [g1, g2]; done) | (intro g1; simp at g1 ⊢; simp [g1]; done) | (simp only [nrmT] at *; omega) | (simp at * <;> omega) | (simp_all <;> omega) | (simp_all; done)
              · refine ⟨i, (popc ((((bagN (Sets.getD i.toNat []) : Nat) : Int).toNat ^^^ (((bagN (Sets.getD i.toNat []) : Nat) : Int).toNat &&& done.toNat) : Nat) : Int).toNat), (i + 1), ?_⟩
                refine ⟨?_, ?_, rfl, rfl, rfl, rfl, rfl, rfl, rfl, rfl, rfl, rfl, rfl, rfl, rfl⟩
                · refine ⟨?_, ?_, ?_, ?_⟩
                  · first | omega | rfl | (intro hg; simp only [nrmT] at hg; omega) | (intro g1 g2; simp [g1, g2]; done) | (intro g1; simp at g1 ⊢; simp [g1]; done) | (simp only [nrmT] at *; omega) | (simp at * <;> omega) | (simp_all <;> omega) | (simp_all; done)
                  · first | omega | rfl | (intro hg; simp only [nrmT] at hg; omega) | (intro g1 g2; simp [g1, g2]; done) | (intro g1; simp at g1 ⊢; simp [g1]; done) | (simp only [nrmT] at *; omega) | (simp at * <;> omega) | (simp_all <;> omega) | (simp_all; done)
                  · have hn0 : popc ((((bagN (Sets.getD i.toNat []) : Nat) : Int).toNat ^^^ (((bagN (Sets.getD i.toNat []) : Nat) : Int).toNat &&& done.toNat) : Nat) : Int).toNat = newN Sets out i.toNat := by
                      rw [hc]; simp only [Int.toNat_natCast]; exact new_same hg h2.inR (by omega)
                    rw [cond_and_or, hn0] at b3
                    have hcd : (decide (best < 0) || decide (Costs.getD i.toNat 0 * most < Costs.getD best.toNat 0 * newN Sets out i.toNat)) = (decide (best < 0) || decide (Costs.getD i.toNat 0 * newN Sets out best.toNat < Costs.getD best.toNat 0 * newN Sets out i.toNat)) := by
                      by_cases hb : best < 0
                      · rw [decide_eq_true hb]; rfl
                      · rw [k4, if_neg hb]
                    rw [hcd] at b3
                    rw [show (i + 1).toNat = i.toNat + 1 by omega, grTo_succ, ← k3]
                    unfold grF
                    rw [if_pos b3]; omega
                  · have hn0 : popc ((((bagN (Sets.getD i.toNat []) : Nat) : Int).toNat ^^^ (((bagN (Sets.getD i.toNat []) : Nat) : Int).toNat &&& done.toNat) : Nat) : Int).toNat = newN Sets out i.toNat := by
                      rw [hc]; simp only [Int.toNat_natCast]; exact new_same hg h2.inR (by omega)
                    rw [hn0, if_neg (by omega)]
                · first | (show _ < _; omega) | (simp only [i_System_greedy_mJ1]; omega) | (simp only [i_System_greedy_mJ1] at *; simp at *; omega)
            · intro b4
              refine ⟨?_, ?_⟩
              · first | omega | rfl | (intro hg; simp only [nrmT] at hg; omega) | (intro g1 g2; simp [g1, g2]; done) | (intro g1; simp at g1 ⊢; simp [g1]; done) | (simp only [nrmT] at *; omega) | (simp at * <;> omega) | (simp_all <;> omega) | (simp_all; done)
              · refine ⟨best, most, (i + 1), ?_⟩
                refine ⟨?_, ?_, rfl, rfl, rfl, rfl, rfl, rfl, rfl, rfl, rfl, rfl, rfl, rfl, rfl⟩
                · refine ⟨?_, ?_, ?_, ?_⟩
                  · first | omega | rfl | (intro hg; simp only [nrmT] at hg; omega) | (intro g1 g2; simp [g1, g2]; done) | (intro g1; simp at g1 ⊢; simp [g1]; done) | (simp only [nrmT] at *; omega) | (simp at * <;> omega) | (simp_all <;> omega) | (simp_all; done)
                  · first | omega | rfl | (intro hg; simp only [nrmT] at hg; omega) | (intro g1 g2; simp [g1, g2]; done) | (intro g1; simp at g1 ⊢; simp [g1]; done) | (simp only [nrmT] at *; omega) | (simp at * <;> omega) | (simp_all <;> omega) | (simp_all; done)
                  · have hn0 : popc ((((bagN (Sets.getD i.toNat []) : Nat) : Int).toNat ^^^ (((bagN (Sets.getD i.toNat []) : Nat) : Int).toNat &&& done.toNat) : Nat) : Int).toNat = newN Sets out i.toNat := by
                      rw [hc]; simp only [Int.toNat_natCast]; exact new_same hg h2.inR (by omega)
                    rw [cond_and_or, hn0] at b4
                    have hcd : (decide (best < 0) || decide (Costs.getD i.toNat 0 * most < Costs.getD best.toNat 0 * newN Sets out i.toNat)) = (decide (best < 0) || decide (Costs.getD i.toNat 0 * newN Sets out best.toNat < Costs.getD best.toNat 0 * newN Sets out i.toNat)) := by
                      by_cases hb : best < 0
                      · rw [decide_eq_true hb]; rfl
                      · rw [k4, if_neg hb]
                    rw [hcd] at b4
                    rw [show (i + 1).toNat = i.toNat + 1 by omega, grTo_succ, ← k3]
                    unfold grF
                    rw [if_neg (by rw [b4]; decide)]
                  · exact k4
                · first | (show _ < _; omega) | (simp only [i_System_greedy_mJ1]; omega) | (simp only [i_System_greedy_mJ1] at *; simp at *; omega)
          · intro b5
            try simp only [nrmT] at b5
            refine ⟨best, most, ?_⟩
            refine ⟨?_, rfl, rfl, rfl, rfl, rfl, rfl, rfl, rfl, rfl, rfl⟩
            · refine ⟨?_, ?_⟩
              · rw [k3, show i.toNat = Sets.length by omega]
              · exact k4
      · intro best most hJ
        obtain ⟨h9, h10⟩ := hJ
        refine ⟨?_, ?_⟩
        · intro b6
          try simp only [nrmT] at b6
          refine ⟨?_, ?_, ?_⟩
          · have hnf : ¬ coverB Size Sets out = true := fun e => by
              rw [← done_all hg h2.inR] at e
              rw [hc, e] at b1
              exact b1 rfl
            have e0 := grs_none (Costs := Costs) hnf (by rw [← h9]; omega)
            first | (unfold grO; rw [← h3, e0]; rfl) | (rw [← h3, e0]; rfl)
          · have hnf : ¬ coverB Size Sets out = true := fun e => by
              rw [← done_all hg h2.inR] at e
              rw [hc, e] at b1
              exact b1 rfl
            have e0 := grs_none (Costs := Costs) hnf (by rw [← h9]; omega)
            first | (unfold grO; rw [← h3, e0]; rfl) | (rw [← h3, e0]; rfl)
          · have hnf : ¬ coverB Size Sets out = true := fun e => by
              rw [← done_all hg h2.inR] at e
              rw [hc, e] at b1
              exact b1 rfl
            have e0 := grs_none (Costs := Costs) hnf (by rw [← h9]; omega)
            first | (unfold grO; rw [← h3, e0]; rfl) | (rw [← h3, e0]; rfl)
        · intro b7
          try simp only [nrmT] at b7
          refine ⟨rfl, rfl, rfl, ?_, rfl, rfl, ?_, ?_, ?_, ?_, ?_, ?_, ?_, ?_⟩
          · have := h2.len
            have := cnt_le hg h2.inR
            omega
          · have := h2.len
            have := cnt_le hg h2.inR
            rw [h4]
            unfold freshOf
            rw [tabTo_len]
            omega
          · have gb := (grTo_facts Sets Costs out Sets.length).1
            rw [← h9] at gb
            omega
          · have gb := (grTo_facts Sets Costs out Sets.length).1
            rw [← h9] at gb
            omega
          · have gb := (grTo_facts Sets Costs out Sets.length).1
            rw [← h9] at gb
            omega
          · refine i_bagOf_pc (Sets.getD best.toNat []) ?_
            · have gb := (grTo_facts Sets Costs out Sets.length).1
              rw [← h9] at gb
              intro x hx; have := set_mem hg (k := best.toNat) (by omega) x hx; omega
          · have := cov_bag hg h2.inR
            omega
          · have gb := (grTo_facts Sets Costs out Sets.length).1
            rw [← h9] at gb
            have := set_bag hg (k := best.toNat) (by omega)
            omega
          · refine ⟨(out ++ [best]), (fresh ++ [most]), ((done.toNat ||| ((bagN (Sets.getD best.toNat []) : Nat) : Int).toNat : Nat) : Int), ?_⟩
            refine ⟨?_, ?_, ?_, ?_, rfl, rfl, rfl, rfl, rfl, rfl⟩
            · refine ⟨?_, ?_, ?_, ?_⟩
              · have gb := (grTo_facts Sets Costs out Sets.length).1
                rw [← h9] at gb
                have eb : grTo Sets Costs out Sets.length = best := h9.symm
                have := grOk_app hg h2 (Costs := Costs) (by rw [eb]; omega)
                rw [eb] at this; exact this
              · have hnf : ¬ coverB Size Sets out = true := fun e => by
                  rw [← done_all hg h2.inR] at e
                  rw [hc, e] at b1
                  exact b1 rfl
                have eb : grTo Sets Costs out Sets.length = best := h9.symm
                have := grs_step hg h2.inR hnf (by rw [eb]; omega)
                rw [eb] at this
                rw [this, h3]
              · rw [h4, fresh_app, h10, if_neg (by omega)]
              · rw [covTo_app, hc]; simp only [Int.toNat_natCast]
            · have gb := (grTo_facts Sets Costs out Sets.length).1
              rw [← h9] at gb
              have eb : grTo Sets Costs out Sets.length = best := h9.symm
              have h11 := (grTo_facts Sets Costs out Sets.length).2.1 (by rw [eb]; omega)
              rw [eb] at h11
              have h12 := cnt_step hg h2.inR (b := best) (by omega) h11
              have h13 := cnt_le hg (inR_app h2.inR (b := best) (by omega))
              show Size.toNat - cnt Sets (out ++ [best]) < Size.toNat - cnt Sets out
              omega
            · simp
            · simp
    · intro b8
      try simp only [nrmT] at b8
      refine ⟨rfl, ?_, rfl, ?_, ?_⟩
      · have e : coverB Size Sets out = true := by rw [← done_all hg h2.inR]; omega
        unfold grO; rw [← h3, grs_full e]; rfl
      · have e : coverB Size Sets out = true := by rw [← done_all hg h2.inR]; omega
        unfold grO; rw [← h3, grs_full e, h4]; rfl
      · have e : coverB Size Sets out = true := by rw [← done_all hg h2.inR]; omega
        rw [← h3, grs_full e]; rfl
theorem i_System_greedy_pc (Size : Int) (Sets : List (List Int)) (Costs : List Int) (hg : goodSys Size Sets Costs = true) : PC Try.prog 150 [.agg [.int .i64 Size, .sl (.rows Sets), .sl (.ints Costs)]] (.tup [.own 3 (.ints (grO Size Sets Costs)), .own 3 (.ints (freshOf Sets (grO Size Sets Costs))), .d (.bool ((grs Size Sets Costs []).isSome))]) :=
  pc_wf @Try.call150 fun hw => pc_by (by kernel_rfl) Try.func150 @Try.call150 (by kernel_rfl) i_System_greedy_C (i_System_greedy_A Size Sets Costs) (by kernel_rfl) (i_System_greedy_vc Size Sets Costs hg hw.1.2.1.1 hw.1.2.1.2 hw.1.2.2.1) (by kernel_rfl)
def i_System_greedy_orc : List D → Orc := orcN [none] fun ds => match ds with
  | [.agg [.int .i64 Size, .sl (.rows Sets), .sl (.ints Costs)]] => some (.tup [.own 3 (.ints (grO Size Sets Costs)), .own 3 (.ints (freshOf Sets (grO Size Sets Costs))), .d (.bool ((grs Size Sets Costs []).isSome))])
  | _ => none
def prV (Sets : List (List Int)) (Costs r : List Int) (i : Nat) : Int := 840 / newN Sets (r.take i) (r.getD i 0).toNat * Costs.getD (r.getD i 0).toNat 0
def prAt (Sets : List (List Int)) (Costs r : List Int) : Nat → Nat → Int
  | 0, _ => 0
  | i + 1, x => if (!(covB Sets (r.take i) x) && (Sets.getD (r.getD i 0).toNat []).contains (x : Int)) = true then prV Sets Costs r i else prAt Sets Costs r i x
def prL (Size : Int) (Sets : List (List Int)) (Costs r : List Int) (i : Nat) : List Int := tabTo (prAt Sets Costs r i) Size.toNat
theorem prV_app {Sets : List (List Int)} {Costs r : List Int} {b : Int} {i : Nat} (hi : i < r.length) : prV Sets Costs (r ++ [b]) i = prV Sets Costs r i := by
  unfold prV
  rw [List.take_append_of_le_length (by omega)]
  simp only [List.getD_eq_getElem?_getD]
  rw [List.getElem?_append_left hi]
theorem prAt_app {Sets : List (List Int)} {Costs r : List Int} {b : Int} : ∀ i x, i ≤ r.length → prAt Sets Costs (r ++ [b]) i x = prAt Sets Costs r i x
  | 0, _, _ => rfl
  | i + 1, x, h => by
    have e : (r ++ [b]).getD i 0 = r.getD i 0 := by
      simp only [List.getD_eq_getElem?_getD]
      rw [List.getElem?_append_left (by omega)]
    simp only [prAt]
    rw [prV_app (by omega), prAt_app i x (by omega), List.take_append_of_le_length (by omega), e]
theorem prL_zero (Size : Int) (Sets : List (List Int)) (Costs r : List Int) : prL Size Sets Costs r 0 = List.replicate Size.toNat 0 := by
  unfold prL tabTo
  apply List.ext_getElem
  · simp
  · intro k h1 h2
    simp [prAt]
theorem prL_len (Size : Int) (Sets : List (List Int)) (Costs r : List Int) (i : Nat) : (prL Size Sets Costs r i).length = Size.toNat := tabTo_len _ _
theorem tab_set {α : Type} {f : Nat → α} {n i : Nat} {v : α} : (tabTo f n).set i v = tabTo (fun x => if x = i then v else f x) n := by
  unfold tabTo
  apply List.ext_getElem
  · simp
  · intro k h1 h2
    rw [List.getElem_set]
    simp only [List.getElem_map, List.getElem_range]
    by_cases e : i = k
    · rw [if_pos e, if_pos e.symm]
    · rw [if_neg e, if_neg (fun h => e h.symm)]
/-- Some elements' places get a value, one after the other. -/
def setsTo (q : Int → Bool) (v : Int) (L p : List Int) (k : Nat) : List Int := foldTo (fun p j => if q (L.getD j 0) = true then p else p.set (L.getD j 0).toNat v) p k
theorem setsTo_succ (q : Int → Bool) (v : Int) (L p : List Int) (k : Nat) : setsTo q v L p (k + 1) = if q (L.getD k 0) = true then setsTo q v L p k else (setsTo q v L p k).set (L.getD k 0).toNat v := rfl
theorem setsTo_len (q : Int → Bool) (v : Int) (L p : List Int) (k : Nat) : (setsTo q v L p k).length = p.length :=
  foldTo_inv (P := fun _ (o : List Int) => o.length = p.length) k rfl fun j x _ hx => by split <;> simp [hx]
theorem setsTo_tab {q : Int → Bool} {v : Int} {L : List Int} {f : Nat → Int} {n : Nat} (hL : ∀ x ∈ L, 0 ≤ x) : ∀ k, k ≤ L.length → setsTo q v L (tabTo f n) k = tabTo (fun x => if ((L.take k).contains (x : Int) && !(q (x : Int))) = true then v else f x) n
  | 0, _ => by
    show tabTo f n = _
    unfold tabTo
    refine List.map_congr_left fun x _ => ?_
    simp
  | k + 1, hk => by
    have hlt : k < L.length := by omega
    have e : L.take (k + 1) = L.take k ++ [L.getD k 0] := by
      rw [List.take_add_one, List.getElem?_eq_getElem hlt, getD_get hlt]; rfl
    have h0 := hL _ (getD_mem (d := 0) hlt)
    rw [setsTo_succ, setsTo_tab hL k (by omega), e]
    have hc : ∀ x : Nat, (L.take k ++ [L.getD k 0]).contains (x : Int) = ((L.take k).contains (x : Int) || decide ((x : Int) = L.getD k 0)) := by
      intro x
      rw [List.contains_eq_any_beq, List.any_append, ← List.contains_eq_any_beq]
      simp only [List.any_cons, List.any_nil, Bool.or_false]
      rfl
    by_cases hq : q (L.getD k 0) = true
    · rw [if_pos hq]
      unfold tabTo
      refine List.map_congr_left fun x _ => ?_
      rw [hc]
      by_cases hx : (x : Int) = L.getD k 0
      · rw [hx, hq]; simp
      · rw [decide_eq_false hx, Bool.or_false]
    · rw [if_neg hq, tab_set]
      unfold tabTo
      refine List.map_congr_left fun x _ => ?_
      rw [hc]
      by_cases hx : (x : Int) = L.getD k 0
      · rw [if_pos (by omega), decide_eq_true hx, Bool.or_true, hx, Bool.true_and, if_pos (by simpa using hq)]
      · rw [if_neg (by omega), decide_eq_false hx, Bool.or_false]
theorem prL_step {Size : Int} {Sets : List (List Int)} {Costs r : List Int} {q : Int → Bool} {L : List Int} {i : Nat} {v : Int} (hL : ∀ x ∈ L, 0 ≤ x) (hv : v = prV Sets Costs r i)
    (hq : ∀ x : Nat, x < Size.toNat → (L.contains (x : Int) && !(q (x : Int))) = (!(covB Sets (r.take i) x) && (Sets.getD (r.getD i 0).toNat []).contains (x : Int))) :
    setsTo q v L (prL Size Sets Costs r i) L.length = prL Size Sets Costs r (i + 1) := by
  unfold prL
  rw [setsTo_tab hL _ (Nat.le_refl _), List.take_length]
  unfold tabTo
  refine List.map_congr_left fun x hx => ?_
  rw [hq x (List.mem_range.1 hx)]
  simp only [prAt]
  rw [hv]
theorem div840 {n c : Int} (h : 1 ≤ n ∧ n ≤ 8) : 840 * c / n = 840 / n * c := by
  have : n = 1 ∨ n = 2 ∨ n = 3 ∨ n = 4 ∨ n = 5 ∨ n = 6 ∨ n = 7 ∨ n = 8 := by omega
  rcases this with rfl | rfl | rfl | rfl | rfl | rfl | rfl | rfl <;> omega
theorem putL_mem : ∀ {l : List Int} {x : Int}, Asc l → x ∈ l → putL l x = l
  | [], _, _, h => by cases h
  | y :: r, x, ha, h => by
    obtain ⟨h1, h2⟩ := List.pairwise_cons.1 ha
    unfold putL
    by_cases e : y < x
    · rw [if_pos e]
      rcases List.mem_cons.1 h with h | h
      · omega
      · rw [putL_mem h2 h]
    · rw [if_neg e]
      rcases List.mem_cons.1 h with h | h
      · rw [if_pos h.symm]
      · have := h1 x h; omega
theorem put_same {l set : List Int} {lo hi : Int} (hr : rising set lo hi = true) {k : Nat} (hk : k < set.length) : (putAll l set k).contains (set.getD k 0) = l.contains (set.getD k 0) := by
  rw [Bool.eq_iff_iff, List.contains_iff_mem, List.contains_iff_mem, mem_putAll k (by omega)]
  constructor
  · rintro (h | ⟨j, h1, h2⟩)
    · exact h
    · have := rising_lt hr h1 hk; omega
  · exact .inl
theorem putAll_succ (l set : List Int) (k : Nat) : putAll l set (k + 1) = putL (putAll l set k) (set.getD k 0) := rfl
theorem new_one {Size : Int} {Sets : List (List Int)} {Costs r : List Int} (hg : goodSys Size Sets Costs = true) (h : GrOk Sets r) {i : Nat} (hi : i < r.length) : 1 ≤ newN Sets (r.take i) (r.getD i 0).toNat ∧ newN Sets (r.take i) (r.getD i 0).toNat ≤ 8 := by
  have h1 := h.pos i hi
  have h2 := h.inR _ (getD_mem (d := 0) hi)
  have h3 := new_le8 hg (covL Sets (r.take i) (r.take i).length) (k := (r.getD i 0).toNat) (by omega)
  unfold newN at *
  omega
def gpL (Size : Int) (Sets : List (List Int)) (Costs : List Int) : List Int := if (goodSys Size Sets Costs && coverB Size Sets (allN Sets.length)) = true then prL Size Sets Costs (grO Size Sets Costs) (grO Size Sets Costs).length else []
theorem gpL_len {Size : Int} {Sets : List (List Int)} {Costs : List Int} : (gpL Size Sets Costs).length ≤ 8 := by
  unfold gpL
  split
  · rename_i h
    rw [Bool.and_eq_true] at h
    have := gs_facts h.1
    rw [prL_len]; omega
  · simp
theorem take_last (out : List Int) (b : Int) : (out ++ [b]).take out.length = out := by simp
theorem getD_last (out : List Int) (b : Int) : (out ++ [b]).getD out.length 0 = b := by simp
theorem prV_last (Sets : List (List Int)) (Costs out : List Int) (b : Int) : prV Sets Costs (out ++ [b]) out.length = 840 / newN Sets out b.toNat * Costs.getD b.toNat 0 := by
  unfold prV
  rw [take_last, getD_last]
theorem prL_app {Size : Int} {Sets : List (List Int)} {Costs out : List Int} {b : Int} : prL Size Sets Costs (out ++ [b]) out.length = prL Size Sets Costs out out.length := by
  unfold prL tabTo
  exact List.map_congr_left fun x _ => prAt_app _ x (Nat.le_refl _)
theorem pr_bound {n c : Int} (h : 1 ≤ n) (hc : 1 ≤ c ∧ c ≤ 99) : 0 ≤ 840 / n * c ∧ 840 / n * c ≤ 83160 := by
  have h1 : 0 ≤ 840 / n := Int.ediv_nonneg (by omega) (by omega)
  have h2 : 840 / n ≤ 840 := Int.ediv_le_self _ (by omega)
  exact ⟨Int.mul_nonneg h1 (by omega), Int.le_trans (Int.mul_le_mul h2 hc.2 (by omega) (by omega)) (by omega)⟩
theorem covTo_take {Sets : List (List Int)} {r : List Int} {i : Nat} (hi : i ≤ r.length) : covTo Sets r i = covTo Sets (r.take i) (r.take i).length := by
  rw [List.length_take, Nat.min_eq_left hi]
  unfold covTo
  refine foldTo_congr fun j x hj => ?_
  simp only [List.getD_eq_getElem?_getD]
  rw [List.getElem?_take_of_lt hj]
theorem inR_take {Sets : List (List Int)} {r : List Int} (h : InR Sets r) (i : Nat) : InR Sets (r.take i) := fun c hc => h c (List.mem_of_mem_take hc)
def newEl (Sets : List (List Int)) (r : List Int) (i : Nat) : List Int := members (fun k => (bagN (Sets.getD (r.getD i 0).toNat []) ^^^ (bagN (Sets.getD (r.getD i 0).toNat []) &&& covTo Sets r i)).testBit k) 62
theorem newEl_mem {Size : Int} {Sets : List (List Int)} {Costs r : List Int} (hg : goodSys Size Sets Costs = true) (hc : InR Sets r) {i : Nat} (hi : i < r.length) (x : Int) :
    x ∈ newEl Sets r i ↔ x ∈ Sets.getD (r.getD i 0).toNat [] ∧ covB Sets (r.take i) x.toNat = false := by
  have h1 := hc _ (getD_mem (d := 0) hi)
  have hk : (r.getD i 0).toNat < Sets.length := by omega
  unfold newEl
  rw [mem_members]
  have hb : ∀ n : Nat, (bagN (Sets.getD (r.getD i 0).toNat []) ^^^ (bagN (Sets.getD (r.getD i 0).toNat []) &&& covTo Sets r i)).testBit n = ((Sets.getD (r.getD i 0).toNat []).contains (n : Int) && !(covB Sets (r.take i) n)) := by
    intro n
    rw [Nat.testBit_xor, Nat.testBit_and, bagN_bit (fun y hy => (set_mem hg hk y hy).1), covTo_take (by omega), covN_bit2 hg (inR_take hc i)]
    cases (Sets.getD (r.getD i 0).toNat []).contains (n : Int) <;> cases covB Sets (r.take i) n <;> rfl
  rw [hb, Bool.and_eq_true, List.contains_iff_mem]
  constructor
  · rintro ⟨h2, h3, h4, h5⟩
    rw [show ((x.toNat : Nat) : Int) = x by omega] at h4
    exact ⟨h4, by simpa using h5⟩
  · rintro ⟨h2, h3⟩
    have h4 := set_mem hg hk x h2
    refine ⟨h4.1, by omega, ?_, by simpa using h3⟩
    rwa [show ((x.toNat : Nat) : Int) = x by omega]
theorem newEl_in {Size : Int} {Sets : List (List Int)} {Costs r : List Int} (hg : goodSys Size Sets Costs = true) (hc : InR Sets r) {i : Nat} (hi : i < r.length) : ∀ x ∈ newEl Sets r i, 0 ≤ x ∧ x < (Size.toNat : Int) := by
  intro x hx
  have h1 := hc _ (getD_mem (d := 0) hi)
  exact set_memS hg (k := (r.getD i 0).toNat) (by omega) x ((newEl_mem hg hc hi x).1 hx).1
theorem prL_impl {Size : Int} {Sets : List (List Int)} {Costs r : List Int} (hg : goodSys Size Sets Costs = true) (hc : InR Sets r) {i : Nat} (hi : i < r.length) :
    setsTo (fun _ => false) (prV Sets Costs r i) (newEl Sets r i) (prL Size Sets Costs r i) (newEl Sets r i).length = prL Size Sets Costs r (i + 1) := by
  refine prL_step (fun x hx => (newEl_in hg hc hi x hx).1) rfl fun x _ => ?_
  rw [Bool.not_false, Bool.and_true, Bool.eq_iff_iff, List.contains_iff_mem, newEl_mem hg hc hi, Bool.and_eq_true, List.contains_iff_mem, Int.toNat_natCast]
  constructor
  · rintro ⟨h1, h2⟩
    exact ⟨by rw [h2]; rfl, h1⟩
  · rintro ⟨h1, h2⟩
    exact ⟨h2, by simpa using h1⟩
theorem prL_spec {Size : Int} {Sets : List (List Int)} {Costs out : List Int} (hg : goodSys Size Sets Costs = true) {b : Int} (hb : 0 ≤ b ∧ b < (Sets.length : Int)) :
    setsTo (fun x => (covL Sets out out.length).contains x) (prV Sets Costs (out ++ [b]) out.length) (Sets.getD b.toNat []) (prL Size Sets Costs out out.length) (Sets.getD b.toNat []).length = prL Size Sets Costs (out ++ [b]) (out.length + 1) := by
  rw [← prL_app (b := b)]
  refine prL_step (fun x hx => (set_mem hg (k := b.toNat) (by omega) x hx).1) rfl fun x _ => ?_
  rw [take_last, getD_last]
  have e : (covL Sets out out.length).contains (x : Int) = covB Sets out x := by
    rw [Bool.eq_iff_iff, List.contains_iff_mem, covB_iff2]
  rw [e, Bool.and_comm]
theorem fresh_get {Sets : List (List Int)} {r : List Int} {i : Nat} (hi : i < r.length) : (freshOf Sets r).getD i 0 = newN Sets (r.take i) (r.getD i 0).toNat := tabTo_get hi
theorem fresh_len (Sets : List (List Int)) (r : List Int) : (freshOf Sets r).length = r.length := tabTo_len _ _
abbrev s_l6Greedy_JJ0 (Size : Int) (Sets : List (List Int)) (Costs : List Int) (out : List Int) (covered : List Int) (prices : List Int) : Prop := (GrOk Sets out) ∧ (grs Size Sets Costs out = grs Size Sets Costs []) ∧ (prices = prL Size Sets Costs out out.length) ∧ (covered = covL Sets out out.length)
abbrev s_l6Greedy_mJ0 (Size : Int) (Sets : List (List Int)) (Costs : List Int) (out : List Int) (covered : List Int) (prices : List Int) : Nat := Size.toNat - cnt Sets out
abbrev s_l6Greedy_JJ1 (Size : Int) (Sets : List (List Int)) (Costs : List Int) (out : List Int) (covered : List Int) (prices : List Int) (cov1 : List Int) (pr1 : List Int) (k : Int) : Prop := (0 ≤ k) ∧ (k ≤ ((Sets.getD (grC Sets Costs covered Sets.length).toNat []).length : Int)) ∧ (cov1 = putAll covered (Sets.getD (grC Sets Costs covered Sets.length).toNat []) k.toNat) ∧ (pr1 = setsTo (fun x => covered.contains x) (prV Sets Costs (out ++ [grC Sets Costs covered Sets.length]) out.length) (Sets.getD (grC Sets Costs covered Sets.length).toNat []) prices k.toNat)
abbrev s_l6Greedy_mJ1 (Size : Int) (Sets : List (List Int)) (Costs : List Int) (out : List Int) (covered : List Int) (prices : List Int) (cov1 : List Int) (pr1 : List Int) (k : Int) : Nat := ((Sets.getD (grC Sets Costs covered Sets.length).toNat []).length - k).toNat
def s_l6Greedy_C (f : FuncId) (ds : List D) : Orc := bif Nat.beq f 193 then s_l6Next_orc ds else bif Nat.beq f 137 then s_l6New_orc ds else bif Nat.beq f 122 then s_l1Has_orc ds else bif Nat.beq f 138 then s_l1Put_orc ds else .no
def s_l6Greedy_A (Size : Int) (Sets : List (List Int)) (Costs : List Int) : Ann := .two (.none) (.two (.reg [(1, .frz)]) (.two (.loop (cut3 (fun (out : List Int) (covered : List Int) (prices : List Int) => s_l6Greedy_JJ0 Size Sets Costs out covered prices) (fun (out : List Int) (covered : List Int) (prices : List Int) => [(1, .ptr 1 0), (4, .own 1000000 out.length), (5, .d true (.sl (.ints covered))), (6, .own 15 prices.length)]) (fun (out : List Int) (covered : List Int) (prices : List Int) => [(1000000, .arr true 3 (.ints out)), (15, .arr true 3 (.ints prices)), (1, .box 50 [.d false (.int .i64 Size), .d false (.sl (.rows Sets)), .d false (.sl (.ints Costs))])])) (fun g => s_l6Greedy_mJ0 Size Sets Costs g.1 g.2.1 g.2.2) (fun g => (fun (out : List Int) (covered : List Int) (prices : List Int) => .two (.none) (.two (.none) (.two (.none) (.two (.two (.none) (.loop (cut3 (fun (cov1 : List Int) (pr1 : List Int) (k : Int) => s_l6Greedy_JJ1 Size Sets Costs out covered prices cov1 pr1 k) (fun (cov1 : List Int) (pr1 : List Int) (k : Int) => [(1, .ptr 1 0), (4, .own 1000000 out.length), (5, .d true (.sl (.ints cov1))), (6, .own 15 pr1.length), (7, .d true (.int .i64 (grC Sets Costs covered Sets.length))), (8, .d true (.int .i64 (newOf (Sets.getD ((grC Sets Costs covered Sets.length).toNat) []) covered))), (9, .d true (.int .i64 k))]) (fun (cov1 : List Int) (pr1 : List Int) (k : Int) => [(15, .arr true 3 (.ints pr1)), (1, .box 50 [.d false (.int .i64 Size), .d false (.sl (.rows Sets)), .d false (.sl (.ints Costs))]), (1000000, .arr true 3 (.ints out))])) (fun g => s_l6Greedy_mJ1 Size Sets Costs out covered prices g.1 g.2.1 g.2.2) (fun _ => .none))) (.none))))) (g.1) (g.2.1) (g.2.2))) (.none)))
def s_l6Greedy_P (Size : Int) (Sets : List (List Int)) (Costs : List Int) : Prop :=
  (true = true) ∧ (Size = Size) ∧ ((0 : Int) ≤ Size) ∧ ((Size : Int) * ((8 : Nat) : Int) ≤ 140737488355328) ∧ ((∃ out' : List Int, ∃ covered' : List Int, ∃ prices' : List Int, (s_l6Greedy_JJ0 Size Sets Costs out' covered' prices') ∧ ((0 : Nat) = out'.length) ∧ ([] = covered') ∧ (Size.toNat = prices'.length) ∧ ([] = out') ∧ ((List.replicate Size.toNat (0 : Int)) = prices') ∧ (Size = Size) ∧ (Sets = Sets) ∧ (Costs = Costs)) ∧ (∀ out : List Int, ∀ covered : List Int, ∀ prices : List Int, (s_l6Greedy_JJ0 Size Sets Costs out covered prices) → (((decide ((covered.length : Int) < Size)) = true → (PC Try.prog 193 [.agg [.int .i64 Size, .sl (.rows Sets), .sl (.ints Costs)], .sl (.ints covered)] (.one (.d (.int .i64 (grC Sets Costs covered Sets.length))))) ∧ ((0 : Int) ≤ (grC Sets Costs covered Sets.length)) ∧ (((grC Sets Costs covered Sets.length) : Int) < Sets.length) ∧ ((grC Sets Costs covered Sets.length).toNat < Sets.length) ∧ (PC Try.prog 137 [.sl (.ints (Sets.getD ((grC Sets Costs covered Sets.length).toNat) [])), .sl (.ints covered)] (.one (.d (.int .i64 (newOf (Sets.getD ((grC Sets Costs covered Sets.length).toNat) []) covered))))) ∧ ((∃ cov1' : List Int, ∃ pr1' : List Int, ∃ k' : Int, (s_l6Greedy_JJ1 Size Sets Costs out covered prices cov1' pr1' k') ∧ (out.length = out.length) ∧ (covered = cov1') ∧ (prices.length = pr1'.length) ∧ ((grC Sets Costs covered Sets.length) = (grC Sets Costs covered Sets.length)) ∧ ((newOf (Sets.getD ((grC Sets Costs covered Sets.length).toNat) []) covered) = (newOf (Sets.getD ((grC Sets Costs covered Sets.length).toNat) []) covered)) ∧ ((0 : Int) = k') ∧ (prices = pr1') ∧ (Size = Size) ∧ (Sets = Sets) ∧ (Costs = Costs) ∧ (out = out)) ∧ (∀ cov1 : List Int, ∀ pr1 : List Int, ∀ k : Int, (s_l6Greedy_JJ1 Size Sets Costs out covered prices cov1 pr1 k) → ((0 : Int) ≤ (grC Sets Costs covered Sets.length)) ∧ (((grC Sets Costs covered Sets.length) : Int) < Sets.length) ∧ ((grC Sets Costs covered Sets.length).toNat < Sets.length) ∧ (((decide (k < (((Sets.getD ((grC Sets Costs covered Sets.length).toNat) []).length) : Int))) = true → ((0 : Int) ≤ (grC Sets Costs covered Sets.length)) ∧ (((grC Sets Costs covered Sets.length) : Int) < Sets.length) ∧ ((grC Sets Costs covered Sets.length).toNat < Sets.length) ∧ ((0 : Int) ≤ k) ∧ ((k : Int) < (Sets.getD ((grC Sets Costs covered Sets.length).toNat) []).length) ∧ (k.toNat < (Sets.getD ((grC Sets Costs covered Sets.length).toNat) []).length) ∧ (PC Try.prog 122 [.sl (.ints cov1), .int .i64 ((Sets.getD ((grC Sets Costs covered Sets.length).toNat) []).getD k.toNat 0)] (.one (.d (.bool (cov1.contains ((Sets.getD ((grC Sets Costs covered Sets.length).toNat) []).getD k.toNat 0)))))) ∧ (((!(cov1.contains ((Sets.getD ((grC Sets Costs covered Sets.length).toNat) []).getD k.toNat 0))) = true → (PCs Try.prog 138 [.sl (.ints cov1), .int .i64 ((Sets.getD ((grC Sets Costs covered Sets.length).toNat) []).getD k.toNat 0)] 0 (.sl (.ints (putL cov1 ((Sets.getD ((grC Sets Costs covered Sets.length).toNat) []).getD k.toNat 0))))) ∧ (true = true) ∧ ((0 : Int) ≤ 840 ∧ (840 : Int) ≤ 9223372036854775807) ∧ ((1 : Int) ≤ (newOf (Sets.getD ((grC Sets Costs covered Sets.length).toNat) []) covered)) ∧ ((0 : Int) ≤ (grC Sets Costs covered Sets.length)) ∧ (((grC Sets Costs covered Sets.length) : Int) < Costs.length) ∧ ((grC Sets Costs covered Sets.length).toNat < Costs.length) ∧ (-9223372036854775808 ≤ ((840 / (newOf (Sets.getD ((grC Sets Costs covered Sets.length).toNat) []) covered)) * (Costs.getD ((grC Sets Costs covered Sets.length).toNat) 0)) ∧ ((840 / (newOf (Sets.getD ((grC Sets Costs covered Sets.length).toNat) []) covered)) * (Costs.getD ((grC Sets Costs covered Sets.length).toNat) 0)) ≤ 9223372036854775807) ∧ ((0 : Int) ≤ ((Sets.getD ((grC Sets Costs covered Sets.length).toNat) []).getD k.toNat 0)) ∧ ((((Sets.getD ((grC Sets Costs covered Sets.length).toNat) []).getD k.toNat 0) : Int) < (pr1.length : Int)) ∧ (((Sets.getD ((grC Sets Costs covered Sets.length).toNat) []).getD k.toNat 0).toNat < pr1.length) ∧ (-9223372036854775808 ≤ (k + 1) ∧ (k + 1) ≤ 9223372036854775807) ∧ (∃ cov1' : List Int, ∃ pr1' : List Int, ∃ k' : Int, (s_l6Greedy_JJ1 Size Sets Costs out covered prices cov1' pr1' k') ∧ (s_l6Greedy_mJ1 Size Sets Costs out covered prices cov1' pr1' k' < s_l6Greedy_mJ1 Size Sets Costs out covered prices cov1 pr1 k) ∧ (out.length = out.length) ∧ ((putL cov1 ((Sets.getD ((grC Sets Costs covered Sets.length).toNat) []).getD k.toNat 0)) = cov1') ∧ (pr1.length = pr1'.length) ∧ ((grC Sets Costs covered Sets.length) = (grC Sets Costs covered Sets.length)) ∧ ((newOf (Sets.getD ((grC Sets Costs covered Sets.length).toNat) []) covered) = (newOf (Sets.getD ((grC Sets Costs covered Sets.length).toNat) []) covered)) ∧ ((k + 1) = k') ∧ ((pr1.set (((Sets.getD ((grC Sets Costs covered Sets.length).toNat) []).getD k.toNat 0).toNat) ((840 / (newOf (Sets.getD ((grC Sets Costs covered Sets.length).toNat) []) covered)) * (Costs.getD ((grC Sets Costs covered Sets.length).toNat) 0))) = pr1') ∧ (Size = Size) ∧ (Sets = Sets) ∧ (Costs = Costs) ∧ (out = out))) ∧ ((!(cov1.contains ((Sets.getD ((grC Sets Costs covered Sets.length).toNat) []).getD k.toNat 0))) = false → (-9223372036854775808 ≤ (k + 1) ∧ (k + 1) ≤ 9223372036854775807) ∧ (∃ cov1' : List Int, ∃ pr1' : List Int, ∃ k' : Int, (s_l6Greedy_JJ1 Size Sets Costs out covered prices cov1' pr1' k') ∧ (s_l6Greedy_mJ1 Size Sets Costs out covered prices cov1' pr1' k' < s_l6Greedy_mJ1 Size Sets Costs out covered prices cov1 pr1 k) ∧ (out.length = out.length) ∧ (cov1 = cov1') ∧ (pr1.length = pr1'.length) ∧ ((grC Sets Costs covered Sets.length) = (grC Sets Costs covered Sets.length)) ∧ ((newOf (Sets.getD ((grC Sets Costs covered Sets.length).toNat) []) covered) = (newOf (Sets.getD ((grC Sets Costs covered Sets.length).toNat) []) covered)) ∧ ((k + 1) = k') ∧ (pr1 = pr1') ∧ (Size = Size) ∧ (Sets = Sets) ∧ (Costs = Costs) ∧ (out = out))))) ∧ ((decide (k < (((Sets.getD ((grC Sets Costs covered Sets.length).toNat) []).length) : Int))) = false → (out.length = out.length) ∧ ((1 : Nat) = 1) ∧ ((out.length + 1) * 8 ≤ 140737488355328) ∧ (∃ out' : List Int, ∃ covered' : List Int, ∃ prices' : List Int, (s_l6Greedy_JJ0 Size Sets Costs out' covered' prices') ∧ (s_l6Greedy_mJ0 Size Sets Costs out' covered' prices' < s_l6Greedy_mJ0 Size Sets Costs out covered prices) ∧ ((out.length + 1) = out'.length) ∧ (cov1 = covered') ∧ (pr1.length = prices'.length) ∧ ((out ++ [(grC Sets Costs covered Sets.length)]) = out') ∧ (pr1 = prices') ∧ (Size = Size) ∧ (Sets = Sets) ∧ (Costs = Costs))))))) ∧ ((decide ((covered.length : Int) < Size)) = false → ((out.length = out.length) ∧ ((out : List Int) = (grO Size Sets Costs)) ∧ (prices.length = prices.length) ∧ ((prices : List Int) = (prL Size Sets Costs (grO Size Sets Costs) (grO Size Sets Costs).length)))))))
theorem s_l6Greedy_vc (Size : Int) (Sets : List (List Int)) (Costs : List Int) (hg : goodSys Size Sets Costs = true) (ha : coverB Size Sets (allN Sets.length) = true) (w_Sets : (Sets.length : Int) ≤ 9223372036854775807) (v_Sets : ∀ x9 ∈ Sets, (x9.length : Int) ≤ 9223372036854775807) (w_Costs : (Costs.length : Int) ≤ 9223372036854775807) : s_l6Greedy_P Size Sets Costs := by
  unfold s_l6Greedy_P
  have gf := gs_facts hg
  refine ⟨rfl, rfl, ?_, ?_, ?_, ?_⟩
  · omega
  · omega
  · refine ⟨([]), ([]), (List.replicate Size.toNat (0 : Int)), ?_⟩
    refine ⟨?_, rfl, ?_, ?_, ?_, rfl, rfl, rfl, rfl⟩
    · refine ⟨?_, ?_, ?_, ?_⟩
      · exact grOk_nil Sets
      · first | omega | rfl | (intro hg; simp only [nrmT] at hg; omega) | (intro g1 g2; simp [g1, g2]; done) | (intro g1; simp at g1 ⊢; simp [g1]; done) | (simp only [nrmT] at *; omega) | (simp at * <;> omega) | (simp_all <;> omega) | (simp_all; done)
      · exact (prL_zero _ _ _ _).symm
      · first | omega | rfl | (intro hg; simp only [nrmT] at hg; omega) | (intro g1 g2; simp [g1, g2]; done) | (intro g1; simp at g1 ⊢; simp [g1]; done) | (simp only [nrmT] at *; omega) | (simp at * <;> omega) | (simp_all <;> omega) | (simp_all; done)
    · first | omega | rfl | (intro hg; simp only [nrmT] at hg; omega) | (intro g1 g2; simp [g1, g2]; done) | (intro g1; simp at g1 ⊢; simp [g1]; done) | (simp only [nrmT] at *; omega) | (simp at * <;> omega) | (simp_all <;> omega) | (simp_all; done)
    · simp
    · first | omega | rfl | (intro hg; simp only [nrmT] at hg; omega) | (intro g1 g2; simp [g1, g2]; done) | (intro g1; simp at g1 ⊢; simp [g1]; done) | (simp only [nrmT] at *; omega) | (simp at * <;> omega) | (simp_all <;> omega) | (simp_all; done)
  · intro out covered prices hJ
    obtain ⟨h2, h3, h4, hc⟩ := hJ
    refine ⟨?_, ?_⟩
    · intro b1
      try simp only [nrmT] at b1
      refine ⟨?_, ?_, ?_, ?_, s_l6New_pc (Sets.getD ((grC Sets Costs covered Sets.length).toNat) []) covered, ?_, ?_⟩
      · refine s_l6Next_pc Size Sets Costs covered ?_
        · first | omega | rfl | (intro hg; simp only [nrmT] at hg; omega) | (intro g1 g2; simp [g1, g2]; done) | (intro g1; simp at g1 ⊢; simp [g1]; done) | (simp only [nrmT] at *; omega) | (simp at * <;> omega) | (simp_all <;> omega) | (simp_all; done)
      · have eB : grC Sets Costs covered Sets.length = grTo Sets Costs out Sets.length := by rw [hc]; rfl
        have hnf : ¬ coverB Size Sets out = true := fun e => by
          have := (cnt_full hg h2.inR).2 e
          unfold cnt at this
          rw [← hc] at this
          omega
        have gn := gr_next (Costs := Costs) hg ha hnf
        have gi := (grTo_facts Sets Costs out Sets.length).1
        have gp := (grTo_facts Sets Costs out Sets.length).2.1 gn
        have hn1 : newN Sets out (grTo Sets Costs out Sets.length).toNat = newOf (Sets.getD (grTo Sets Costs out Sets.length).toNat []) (covL Sets out out.length) := rfl
        have hrs := gs_set hg (k := (grTo Sets Costs out Sets.length).toNat) (by omega)
        have sl := rising_len hrs (by omega)
        rw [eB]; omega
      · have eB : grC Sets Costs covered Sets.length = grTo Sets Costs out Sets.length := by rw [hc]; rfl
        have hnf : ¬ coverB Size Sets out = true := fun e => by
          have := (cnt_full hg h2.inR).2 e
          unfold cnt at this
          rw [← hc] at this
          omega
        have gn := gr_next (Costs := Costs) hg ha hnf
        have gi := (grTo_facts Sets Costs out Sets.length).1
        have gp := (grTo_facts Sets Costs out Sets.length).2.1 gn
        have hn1 : newN Sets out (grTo Sets Costs out Sets.length).toNat = newOf (Sets.getD (grTo Sets Costs out Sets.length).toNat []) (covL Sets out out.length) := rfl
        have hrs := gs_set hg (k := (grTo Sets Costs out Sets.length).toNat) (by omega)
        have sl := rising_len hrs (by omega)
        rw [eB]; omega
      · have eB : grC Sets Costs covered Sets.length = grTo Sets Costs out Sets.length := by rw [hc]; rfl
        have hnf : ¬ coverB Size Sets out = true := fun e => by
          have := (cnt_full hg h2.inR).2 e
          unfold cnt at this
          rw [← hc] at this
          omega
        have gn := gr_next (Costs := Costs) hg ha hnf
        have gi := (grTo_facts Sets Costs out Sets.length).1
        have gp := (grTo_facts Sets Costs out Sets.length).2.1 gn
        have hn1 : newN Sets out (grTo Sets Costs out Sets.length).toNat = newOf (Sets.getD (grTo Sets Costs out Sets.length).toNat []) (covL Sets out out.length) := rfl
        have hrs := gs_set hg (k := (grTo Sets Costs out Sets.length).toNat) (by omega)
        have sl := rising_len hrs (by omega)
        rw [eB]; omega
      · refine ⟨covered, prices, 0, ?_⟩
        refine ⟨?_, rfl, rfl, rfl, rfl, rfl, rfl, rfl, rfl, rfl, rfl, rfl⟩
        · refine ⟨?_, ?_, ?_, ?_⟩
          · first | omega | rfl | (intro hg; simp only [nrmT] at hg; omega) | (intro g1 g2; simp [g1, g2]; done) | (intro g1; simp at g1 ⊢; simp [g1]; done) | (simp only [nrmT] at *; omega) | (simp at * <;> omega) | (simp_all <;> omega) | (simp_all; done)
          · first | omega | rfl | (intro hg; simp only [nrmT] at hg; omega) | (intro g1 g2; simp [g1, g2]; done) | (intro g1; simp at g1 ⊢; simp [g1]; done) | (simp only [nrmT] at *; omega) | (simp at * <;> omega) | (simp_all <;> omega) | (simp_all; done)
          · rfl
          · rfl
      · intro cov1 pr1 k hJ
        obtain ⟨k1, k2, k3, k4⟩ := hJ
        refine ⟨?_, ?_, ?_, ?_, ?_⟩
        · have eB : grC Sets Costs covered Sets.length = grTo Sets Costs out Sets.length := by rw [hc]; rfl
          have hnf : ¬ coverB Size Sets out = true := fun e => by
            have := (cnt_full hg h2.inR).2 e
            unfold cnt at this
            rw [← hc] at this
            omega
          have gn := gr_next (Costs := Costs) hg ha hnf
          have gi := (grTo_facts Sets Costs out Sets.length).1
          have gp := (grTo_facts Sets Costs out Sets.length).2.1 gn
          have hn1 : newN Sets out (grTo Sets Costs out Sets.length).toNat = newOf (Sets.getD (grTo Sets Costs out Sets.length).toNat []) (covL Sets out out.length) := rfl
          have hrs := gs_set hg (k := (grTo Sets Costs out Sets.length).toNat) (by omega)
          have sl := rising_len hrs (by omega)
          rw [eB]; omega
        · have eB : grC Sets Costs covered Sets.length = grTo Sets Costs out Sets.length := by rw [hc]; rfl
          have hnf : ¬ coverB Size Sets out = true := fun e => by
            have := (cnt_full hg h2.inR).2 e
            unfold cnt at this
            rw [← hc] at this
            omega
          have gn := gr_next (Costs := Costs) hg ha hnf
          have gi := (grTo_facts Sets Costs out Sets.length).1
          have gp := (grTo_facts Sets Costs out Sets.length).2.1 gn
          have hn1 : newN Sets out (grTo Sets Costs out Sets.length).toNat = newOf (Sets.getD (grTo Sets Costs out Sets.length).toNat []) (covL Sets out out.length) := rfl
          have hrs := gs_set hg (k := (grTo Sets Costs out Sets.length).toNat) (by omega)
          have sl := rising_len hrs (by omega)
          rw [eB]; omega
        · have eB : grC Sets Costs covered Sets.length = grTo Sets Costs out Sets.length := by rw [hc]; rfl
          have hnf : ¬ coverB Size Sets out = true := fun e => by
            have := (cnt_full hg h2.inR).2 e
            unfold cnt at this
            rw [← hc] at this
            omega
          have gn := gr_next (Costs := Costs) hg ha hnf
          have gi := (grTo_facts Sets Costs out Sets.length).1
          have gp := (grTo_facts Sets Costs out Sets.length).2.1 gn
          have hn1 : newN Sets out (grTo Sets Costs out Sets.length).toNat = newOf (Sets.getD (grTo Sets Costs out Sets.length).toNat []) (covL Sets out out.length) := rfl
          have hrs := gs_set hg (k := (grTo Sets Costs out Sets.length).toNat) (by omega)
          have sl := rising_len hrs (by omega)
          rw [eB]; omega
        · intro b2
          try simp only [nrmT] at b2
          refine ⟨?_, ?_, ?_, ?_, ?_, ?_, s_l1Has_pc cov1 ((Sets.getD ((grC Sets Costs covered Sets.length).toNat) []).getD k.toNat 0), ?_, ?_⟩
          · have eB : grC Sets Costs covered Sets.length = grTo Sets Costs out Sets.length := by rw [hc]; rfl
            have hnf : ¬ coverB Size Sets out = true := fun e => by
              have := (cnt_full hg h2.inR).2 e
              unfold cnt at this
              rw [← hc] at this
              omega
            have gn := gr_next (Costs := Costs) hg ha hnf
            have gi := (grTo_facts Sets Costs out Sets.length).1
            have gp := (grTo_facts Sets Costs out Sets.length).2.1 gn
            have hn1 : newN Sets out (grTo Sets Costs out Sets.length).toNat = newOf (Sets.getD (grTo Sets Costs out Sets.length).toNat []) (covL Sets out out.length) := rfl
            have hrs := gs_set hg (k := (grTo Sets Costs out Sets.length).toNat) (by omega)
            have sl := rising_len hrs (by omega)
            rw [eB]; omega
          · have eB : grC Sets Costs covered Sets.length = grTo Sets Costs out Sets.length := by rw [hc]; rfl
            have hnf : ¬ coverB Size Sets out = true := fun e => by
              have := (cnt_full hg h2.inR).2 e
              unfold cnt at this
              rw [← hc] at this
              omega
            have gn := gr_next (Costs := Costs) hg ha hnf
            have gi := (grTo_facts Sets Costs out Sets.length).1
            have gp := (grTo_facts Sets Costs out Sets.length).2.1 gn
            have hn1 : newN Sets out (grTo Sets Costs out Sets.length).toNat = newOf (Sets.getD (grTo Sets Costs out Sets.length).toNat []) (covL Sets out out.length) := rfl
            have hrs := gs_set hg (k := (grTo Sets Costs out Sets.length).toNat) (by omega)
            have sl := rising_len hrs (by omega)
            rw [eB]; omega
          · have eB : grC Sets Costs covered Sets.length = grTo Sets Costs out Sets.length := by rw [hc]; rfl
            have hnf : ¬ coverB Size Sets out = true := fun e => by
              have := (cnt_full hg h2.inR).2 e
              unfold cnt at this
              rw [← hc] at this
              omega
            have gn := gr_next (Costs := Costs) hg ha hnf
            have gi := (grTo_facts Sets Costs out Sets.length).1
            have gp := (grTo_facts Sets Costs out Sets.length).2.1 gn
            have hn1 : newN Sets out (grTo Sets Costs out Sets.length).toNat = newOf (Sets.getD (grTo Sets Costs out Sets.length).toNat []) (covL Sets out out.length) := rfl
            have hrs := gs_set hg (k := (grTo Sets Costs out Sets.length).toNat) (by omega)
            have sl := rising_len hrs (by omega)
            rw [eB]; omega
          · first | omega | rfl | (intro hg; simp only [nrmT] at hg; omega) | (intro g1 g2; simp [g1, g2]; done) | (intro g1; simp at g1 ⊢; simp [g1]; done) | (simp only [nrmT] at *; omega) | (simp at * <;> omega) | (simp_all <;> omega) | (simp_all; done)
          · first | omega | rfl | (intro hg; simp only [nrmT] at hg; omega) | (intro g1 g2; simp [g1, g2]; done) | (intro g1; simp at g1 ⊢; simp [g1]; done) | (simp only [nrmT] at *; omega) | (simp at * <;> omega) | (simp_all <;> omega) | (simp_all; done)
          · first | omega | rfl | (intro hg; simp only [nrmT] at hg; omega) | (intro g1 g2; simp [g1, g2]; done) | (intro g1; simp at g1 ⊢; simp [g1]; done) | (simp only [nrmT] at *; omega) | (simp at * <;> omega) | (simp_all <;> omega) | (simp_all; done)
          · intro b3
            try simp only [nrmT] at b3
            refine ⟨?_, rfl, ?_, ?_, ?_, ?_, ?_, ?_, ?_, ?_, ?_, ?_, ?_⟩
            · refine s_l1Put_pc cov1 ((Sets.getD ((grC Sets Costs covered Sets.length).toNat) []).getD k.toNat 0) ?_
              · have eB : grC Sets Costs covered Sets.length = grTo Sets Costs out Sets.length := by rw [hc]; rfl
                have hnf : ¬ coverB Size Sets out = true := fun e => by
                  have := (cnt_full hg h2.inR).2 e
                  unfold cnt at this
                  rw [← hc] at this
                  omega
                have gn := gr_next (Costs := Costs) hg ha hnf
                have gi := (grTo_facts Sets Costs out Sets.length).1
                have gp := (grTo_facts Sets Costs out Sets.length).2.1 gn
                have hn1 : newN Sets out (grTo Sets Costs out Sets.length).toNat = newOf (Sets.getD (grTo Sets Costs out Sets.length).toNat []) (covL Sets out out.length) := rfl
                have hrs := gs_set hg (k := (grTo Sets Costs out Sets.length).toNat) (by omega)
                have sl := rising_len hrs (by omega)
                rw [eB] at k2 k3
                rw [k3]
                have := putAll_len (l := covered) (set := Sets.getD (grTo Sets Costs out Sets.length).toNat []) k.toNat
                have h11 := cnt_le hg h2.inR
                unfold cnt at h11
                rw [← hc] at h11
                omega
            · first | omega | rfl | (intro hg; simp only [nrmT] at hg; omega) | (intro g1 g2; simp [g1, g2]; done) | (intro g1; simp at g1 ⊢; simp [g1]; done) | (simp only [nrmT] at *; omega) | (simp at * <;> omega) | (simp_all <;> omega) | (simp_all; done)
            · have eB : grC Sets Costs covered Sets.length = grTo Sets Costs out Sets.length := by rw [hc]; rfl
              have hnf : ¬ coverB Size Sets out = true := fun e => by
                have := (cnt_full hg h2.inR).2 e
                unfold cnt at this
                rw [← hc] at this
                omega
              have gn := gr_next (Costs := Costs) hg ha hnf
              have gi := (grTo_facts Sets Costs out Sets.length).1
              have gp := (grTo_facts Sets Costs out Sets.length).2.1 gn
              have hn1 : newN Sets out (grTo Sets Costs out Sets.length).toNat = newOf (Sets.getD (grTo Sets Costs out Sets.length).toNat []) (covL Sets out out.length) := rfl
              have hrs := gs_set hg (k := (grTo Sets Costs out Sets.length).toNat) (by omega)
              have sl := rising_len hrs (by omega)
              rw [eB, hc, ← hn1]; omega
            · have eB : grC Sets Costs covered Sets.length = grTo Sets Costs out Sets.length := by rw [hc]; rfl
              have hnf : ¬ coverB Size Sets out = true := fun e => by
                have := (cnt_full hg h2.inR).2 e
                unfold cnt at this
                rw [← hc] at this
                omega
              have gn := gr_next (Costs := Costs) hg ha hnf
              have gi := (grTo_facts Sets Costs out Sets.length).1
              have gp := (grTo_facts Sets Costs out Sets.length).2.1 gn
              have hn1 : newN Sets out (grTo Sets Costs out Sets.length).toNat = newOf (Sets.getD (grTo Sets Costs out Sets.length).toNat []) (covL Sets out out.length) := rfl
              have hrs := gs_set hg (k := (grTo Sets Costs out Sets.length).toNat) (by omega)
              have sl := rising_len hrs (by omega)
              rw [eB]; omega
            · have eB : grC Sets Costs covered Sets.length = grTo Sets Costs out Sets.length := by rw [hc]; rfl
              have hnf : ¬ coverB Size Sets out = true := fun e => by
                have := (cnt_full hg h2.inR).2 e
                unfold cnt at this
                rw [← hc] at this
                omega
              have gn := gr_next (Costs := Costs) hg ha hnf
              have gi := (grTo_facts Sets Costs out Sets.length).1
              have gp := (grTo_facts Sets Costs out Sets.length).2.1 gn
              have hn1 : newN Sets out (grTo Sets Costs out Sets.length).toNat = newOf (Sets.getD (grTo Sets Costs out Sets.length).toNat []) (covL Sets out out.length) := rfl
              have hrs := gs_set hg (k := (grTo Sets Costs out Sets.length).toNat) (by omega)
              have sl := rising_len hrs (by omega)
              rw [eB]; omega
            · have eB : grC Sets Costs covered Sets.length = grTo Sets Costs out Sets.length := by rw [hc]; rfl
              have hnf : ¬ coverB Size Sets out = true := fun e => by
                have := (cnt_full hg h2.inR).2 e
                unfold cnt at this
                rw [← hc] at this
                omega
              have gn := gr_next (Costs := Costs) hg ha hnf
              have gi := (grTo_facts Sets Costs out Sets.length).1
              have gp := (grTo_facts Sets Costs out Sets.length).2.1 gn
              have hn1 : newN Sets out (grTo Sets Costs out Sets.length).toNat = newOf (Sets.getD (grTo Sets Costs out Sets.length).toNat []) (covL Sets out out.length) := rfl
              have hrs := gs_set hg (k := (grTo Sets Costs out Sets.length).toNat) (by omega)
              have sl := rising_len hrs (by omega)
              rw [eB]; omega
            · have eB : grC Sets Costs covered Sets.length = grTo Sets Costs out Sets.length := by rw [hc]; rfl
              have hnf : ¬ coverB Size Sets out = true := fun e => by
                have := (cnt_full hg h2.inR).2 e
                unfold cnt at this
                rw [← hc] at this
                omega
              have gn := gr_next (Costs := Costs) hg ha hnf
              have gi := (grTo_facts Sets Costs out Sets.length).1
              have gp := (grTo_facts Sets Costs out Sets.length).2.1 gn
              have hn1 : newN Sets out (grTo Sets Costs out Sets.length).toNat = newOf (Sets.getD (grTo Sets Costs out Sets.length).toNat []) (covL Sets out out.length) := rfl
              have hrs := gs_set hg (k := (grTo Sets Costs out Sets.length).toNat) (by omega)
              have sl := rising_len hrs (by omega)
              rw [eB, hc, ← hn1]
              have := pr_bound (n := newN Sets out (grTo Sets Costs out Sets.length).toNat) (by omega) (gs_cost hg (k := (grTo Sets Costs out Sets.length).toNat) (by omega))
              omega
            · have eB : grC Sets Costs covered Sets.length = grTo Sets Costs out Sets.length := by rw [hc]; rfl
              have hnf : ¬ coverB Size Sets out = true := fun e => by
                have := (cnt_full hg h2.inR).2 e
                unfold cnt at this
                rw [← hc] at this
                omega
              have gn := gr_next (Costs := Costs) hg ha hnf
              have gi := (grTo_facts Sets Costs out Sets.length).1
              have gp := (grTo_facts Sets Costs out Sets.length).2.1 gn
              have hn1 : newN Sets out (grTo Sets Costs out Sets.length).toNat = newOf (Sets.getD (grTo Sets Costs out Sets.length).toNat []) (covL Sets out out.length) := rfl
              have hrs := gs_set hg (k := (grTo Sets Costs out Sets.length).toNat) (by omega)
              have sl := rising_len hrs (by omega)
              have pl : pr1.length = Size.toNat := by rw [k4, setsTo_len, h4, prL_len]
              have hm := set_memS hg (k := (grTo Sets Costs out Sets.length).toNat) (by omega) _ (getD_mem (d := 0) (show k.toNat < (Sets.getD (grTo Sets Costs out Sets.length).toNat []).length by rw [eB] at b2; omega))
              rw [eB]
              omega
            · have eB : grC Sets Costs covered Sets.length = grTo Sets Costs out Sets.length := by rw [hc]; rfl
              have hnf : ¬ coverB Size Sets out = true := fun e => by
                have := (cnt_full hg h2.inR).2 e
                unfold cnt at this
                rw [← hc] at this
                omega
              have gn := gr_next (Costs := Costs) hg ha hnf
              have gi := (grTo_facts Sets Costs out Sets.length).1
              have gp := (grTo_facts Sets Costs out Sets.length).2.1 gn
              have hn1 : newN Sets out (grTo Sets Costs out Sets.length).toNat = newOf (Sets.getD (grTo Sets Costs out Sets.length).toNat []) (covL Sets out out.length) := rfl
              have hrs := gs_set hg (k := (grTo Sets Costs out Sets.length).toNat) (by omega)
              have sl := rising_len hrs (by omega)
              have pl : pr1.length = Size.toNat := by rw [k4, setsTo_len, h4, prL_len]
              have hm := set_memS hg (k := (grTo Sets Costs out Sets.length).toNat) (by omega) _ (getD_mem (d := 0) (show k.toNat < (Sets.getD (grTo Sets Costs out Sets.length).toNat []).length by rw [eB] at b2; omega))
              rw [eB]
              omega
            · have eB : grC Sets Costs covered Sets.length = grTo Sets Costs out Sets.length := by rw [hc]; rfl
              have hnf : ¬ coverB Size Sets out = true := fun e => by
                have := (cnt_full hg h2.inR).2 e
                unfold cnt at this
                rw [← hc] at this
                omega
              have gn := gr_next (Costs := Costs) hg ha hnf
              have gi := (grTo_facts Sets Costs out Sets.length).1
              have gp := (grTo_facts Sets Costs out Sets.length).2.1 gn
              have hn1 : newN Sets out (grTo Sets Costs out Sets.length).toNat = newOf (Sets.getD (grTo Sets Costs out Sets.length).toNat []) (covL Sets out out.length) := rfl
              have hrs := gs_set hg (k := (grTo Sets Costs out Sets.length).toNat) (by omega)
              have sl := rising_len hrs (by omega)
              have pl : pr1.length = Size.toNat := by rw [k4, setsTo_len, h4, prL_len]
              have hm := set_memS hg (k := (grTo Sets Costs out Sets.length).toNat) (by omega) _ (getD_mem (d := 0) (show k.toNat < (Sets.getD (grTo Sets Costs out Sets.length).toNat []).length by rw [eB] at b2; omega))
              rw [eB]
              omega
            · have eB : grC Sets Costs covered Sets.length = grTo Sets Costs out Sets.length := by rw [hc]; rfl
              have hnf : ¬ coverB Size Sets out = true := fun e => by
                have := (cnt_full hg h2.inR).2 e
                unfold cnt at this
                rw [← hc] at this
                omega
              have gn := gr_next (Costs := Costs) hg ha hnf
              have gi := (grTo_facts Sets Costs out Sets.length).1
              have gp := (grTo_facts Sets Costs out Sets.length).2.1 gn
              have hn1 : newN Sets out (grTo Sets Costs out Sets.length).toNat = newOf (Sets.getD (grTo Sets Costs out Sets.length).toNat []) (covL Sets out out.length) := rfl
              have hrs := gs_set hg (k := (grTo Sets Costs out Sets.length).toNat) (by omega)
              have sl := rising_len hrs (by omega)
              rw [eB] at b2
              omega
            · refine ⟨(putL cov1 ((Sets.getD ((grC Sets Costs covered Sets.length).toNat) []).getD k.toNat 0)), (pr1.set (((Sets.getD ((grC Sets Costs covered Sets.length).toNat) []).getD k.toNat 0).toNat) ((840 / (newOf (Sets.getD ((grC Sets Costs covered Sets.length).toNat) []) covered)) * (Costs.getD ((grC Sets Costs covered Sets.length).toNat) 0))), (k + 1), ?_⟩
              refine ⟨?_, ?_, rfl, rfl, ?_, rfl, rfl, rfl, rfl, rfl, rfl, rfl, rfl⟩
              · refine ⟨?_, ?_, ?_, ?_⟩
                · first | omega | rfl | (intro hg; simp only [nrmT] at hg; omega) | (intro g1 g2; simp [g1, g2]; done) | (intro g1; simp at g1 ⊢; simp [g1]; done) | (simp only [nrmT] at *; omega) | (simp at * <;> omega) | (simp_all <;> omega) | (simp_all; done)
                · first | omega | rfl | (intro hg; simp only [nrmT] at hg; omega) | (intro g1 g2; simp [g1, g2]; done) | (intro g1; simp at g1 ⊢; simp [g1]; done) | (simp only [nrmT] at *; omega) | (simp at * <;> omega) | (simp_all <;> omega) | (simp_all; done)
                · rw [show (k + 1).toNat = k.toNat + 1 by omega, putAll_succ, ← k3]
                · have eB : grC Sets Costs covered Sets.length = grTo Sets Costs out Sets.length := by rw [hc]; rfl
                  have hnf : ¬ coverB Size Sets out = true := fun e => by
                    have := (cnt_full hg h2.inR).2 e
                    unfold cnt at this
                    rw [← hc] at this
                    omega
                  have gn := gr_next (Costs := Costs) hg ha hnf
                  have gi := (grTo_facts Sets Costs out Sets.length).1
                  have gp := (grTo_facts Sets Costs out Sets.length).2.1 gn
                  have hn1 : newN Sets out (grTo Sets Costs out Sets.length).toNat = newOf (Sets.getD (grTo Sets Costs out Sets.length).toNat []) (covL Sets out out.length) := rfl
                  have hrs := gs_set hg (k := (grTo Sets Costs out Sets.length).toNat) (by omega)
                  have sl := rising_len hrs (by omega)
                  rw [eB] at b2 k2 k3 k4 b3
                  rw [k3, put_same hrs (by omega)] at b3
                  rw [eB, show (k + 1).toNat = k.toNat + 1 by omega, setsTo_succ, if_neg (by rw [b3]; decide), ← k4, prV_last, hn1, hc]
              · first | (show _ < _; omega) | (simp only [s_l6Greedy_mJ1]; omega) | (simp only [s_l6Greedy_mJ1] at *; simp at *; omega)
              · simp
          · intro b4
            try simp only [nrmT] at b4
            refine ⟨?_, ?_⟩
            · have eB : grC Sets Costs covered Sets.length = grTo Sets Costs out Sets.length := by rw [hc]; rfl
              have hnf : ¬ coverB Size Sets out = true := fun e => by
                have := (cnt_full hg h2.inR).2 e
                unfold cnt at this
                rw [← hc] at this
                omega
              have gn := gr_next (Costs := Costs) hg ha hnf
              have gi := (grTo_facts Sets Costs out Sets.length).1
              have gp := (grTo_facts Sets Costs out Sets.length).2.1 gn
              have hn1 : newN Sets out (grTo Sets Costs out Sets.length).toNat = newOf (Sets.getD (grTo Sets Costs out Sets.length).toNat []) (covL Sets out out.length) := rfl
              have hrs := gs_set hg (k := (grTo Sets Costs out Sets.length).toNat) (by omega)
              have sl := rising_len hrs (by omega)
              rw [eB] at b2
              omega
            · refine ⟨cov1, pr1, (k + 1), ?_⟩
              refine ⟨?_, ?_, rfl, rfl, rfl, rfl, rfl, rfl, rfl, rfl, rfl, rfl, rfl⟩
              · refine ⟨?_, ?_, ?_, ?_⟩
                · first | omega | rfl | (intro hg; simp only [nrmT] at hg; omega) | (intro g1 g2; simp [g1, g2]; done) | (intro g1; simp at g1 ⊢; simp [g1]; done) | (simp only [nrmT] at *; omega) | (simp at * <;> omega) | (simp_all <;> omega) | (simp_all; done)
                · first | omega | rfl | (intro hg; simp only [nrmT] at hg; omega) | (intro g1 g2; simp [g1, g2]; done) | (intro g1; simp at g1 ⊢; simp [g1]; done) | (simp only [nrmT] at *; omega) | (simp at * <;> omega) | (simp_all <;> omega) | (simp_all; done)
                · have eB : grC Sets Costs covered Sets.length = grTo Sets Costs out Sets.length := by rw [hc]; rfl
                  have hnf : ¬ coverB Size Sets out = true := fun e => by
                    have := (cnt_full hg h2.inR).2 e
                    unfold cnt at this
                    rw [← hc] at this
                    omega
                  have gn := gr_next (Costs := Costs) hg ha hnf
                  have gi := (grTo_facts Sets Costs out Sets.length).1
                  have gp := (grTo_facts Sets Costs out Sets.length).2.1 gn
                  have hn1 : newN Sets out (grTo Sets Costs out Sets.length).toNat = newOf (Sets.getD (grTo Sets Costs out Sets.length).toNat []) (covL Sets out out.length) := rfl
                  have hrs := gs_set hg (k := (grTo Sets Costs out Sets.length).toNat) (by omega)
                  have sl := rising_len hrs (by omega)
                  rw [eB] at k2 k3 b4
                  rw [eB, show (k + 1).toNat = k.toNat + 1 by omega, putAll_succ, ← k3]
                  refine (putL_mem ?_ (List.contains_iff_mem.1 b4)).symm
                  rw [k3, hc]; exact asc_putAll (asc_covL _) _
                · have eB : grC Sets Costs covered Sets.length = grTo Sets Costs out Sets.length := by rw [hc]; rfl
                  have hnf : ¬ coverB Size Sets out = true := fun e => by
                    have := (cnt_full hg h2.inR).2 e
                    unfold cnt at this
                    rw [← hc] at this
                    omega
                  have gn := gr_next (Costs := Costs) hg ha hnf
                  have gi := (grTo_facts Sets Costs out Sets.length).1
                  have gp := (grTo_facts Sets Costs out Sets.length).2.1 gn
                  have hn1 : newN Sets out (grTo Sets Costs out Sets.length).toNat = newOf (Sets.getD (grTo Sets Costs out Sets.length).toNat []) (covL Sets out out.length) := rfl
                  have hrs := gs_set hg (k := (grTo Sets Costs out Sets.length).toNat) (by omega)
                  have sl := rising_len hrs (by omega)
                  rw [eB] at b2 k2 k3 k4 b4
                  rw [k3, put_same hrs (by omega)] at b4
                  rw [eB, show (k + 1).toNat = k.toNat + 1 by omega, setsTo_succ, if_pos b4, ← k4]
              · first | (show _ < _; omega) | (simp only [s_l6Greedy_mJ1]; omega) | (simp only [s_l6Greedy_mJ1] at *; simp at *; omega)
        · intro b5
          try simp only [nrmT] at b5
          refine ⟨rfl, rfl, ?_, ?_⟩
          · have := h2.len
            have := cnt_le hg h2.inR
            omega
          · refine ⟨(out ++ [(grC Sets Costs covered Sets.length)]), cov1, pr1, ?_⟩
            refine ⟨?_, ?_, ?_, rfl, rfl, rfl, rfl, rfl, rfl, rfl⟩
            · refine ⟨?_, ?_, ?_, ?_⟩
              · have eB : grC Sets Costs covered Sets.length = grTo Sets Costs out Sets.length := by rw [hc]; rfl
                have hnf : ¬ coverB Size Sets out = true := fun e => by
                  have := (cnt_full hg h2.inR).2 e
                  unfold cnt at this
                  rw [← hc] at this
                  omega
                have gn := gr_next (Costs := Costs) hg ha hnf
                have gi := (grTo_facts Sets Costs out Sets.length).1
                have gp := (grTo_facts Sets Costs out Sets.length).2.1 gn
                have hn1 : newN Sets out (grTo Sets Costs out Sets.length).toNat = newOf (Sets.getD (grTo Sets Costs out Sets.length).toNat []) (covL Sets out out.length) := rfl
                have hrs := gs_set hg (k := (grTo Sets Costs out Sets.length).toNat) (by omega)
                have sl := rising_len hrs (by omega)
                rw [eB]; exact grOk_app hg h2 (by omega)
              · have eB : grC Sets Costs covered Sets.length = grTo Sets Costs out Sets.length := by rw [hc]; rfl
                have hnf : ¬ coverB Size Sets out = true := fun e => by
                  have := (cnt_full hg h2.inR).2 e
                  unfold cnt at this
                  rw [← hc] at this
                  omega
                have gn := gr_next (Costs := Costs) hg ha hnf
                have gi := (grTo_facts Sets Costs out Sets.length).1
                have gp := (grTo_facts Sets Costs out Sets.length).2.1 gn
                have hn1 : newN Sets out (grTo Sets Costs out Sets.length).toNat = newOf (Sets.getD (grTo Sets Costs out Sets.length).toNat []) (covL Sets out out.length) := rfl
                have hrs := gs_set hg (k := (grTo Sets Costs out Sets.length).toNat) (by omega)
                have sl := rising_len hrs (by omega)
                rw [eB, grs_step hg h2.inR hnf (by omega), h3]
              · have eB : grC Sets Costs covered Sets.length = grTo Sets Costs out Sets.length := by rw [hc]; rfl
                have hnf : ¬ coverB Size Sets out = true := fun e => by
                  have := (cnt_full hg h2.inR).2 e
                  unfold cnt at this
                  rw [← hc] at this
                  omega
                have gn := gr_next (Costs := Costs) hg ha hnf
                have gi := (grTo_facts Sets Costs out Sets.length).1
                have gp := (grTo_facts Sets Costs out Sets.length).2.1 gn
                have hn1 : newN Sets out (grTo Sets Costs out Sets.length).toNat = newOf (Sets.getD (grTo Sets Costs out Sets.length).toNat []) (covL Sets out out.length) := rfl
                have hrs := gs_set hg (k := (grTo Sets Costs out Sets.length).toNat) (by omega)
                have sl := rising_len hrs (by omega)
                rw [eB] at k2 k4 b5 ⊢
                rw [k4, show k.toNat = (Sets.getD (grTo Sets Costs out Sets.length).toNat []).length by omega, h4, hc, List.length_append, List.length_cons, List.length_nil]
                exact prL_spec hg (by omega)
              · have eB : grC Sets Costs covered Sets.length = grTo Sets Costs out Sets.length := by rw [hc]; rfl
                have hnf : ¬ coverB Size Sets out = true := fun e => by
                  have := (cnt_full hg h2.inR).2 e
                  unfold cnt at this
                  rw [← hc] at this
                  omega
                have gn := gr_next (Costs := Costs) hg ha hnf
                have gi := (grTo_facts Sets Costs out Sets.length).1
                have gp := (grTo_facts Sets Costs out Sets.length).2.1 gn
                have hn1 : newN Sets out (grTo Sets Costs out Sets.length).toNat = newOf (Sets.getD (grTo Sets Costs out Sets.length).toNat []) (covL Sets out out.length) := rfl
                have hrs := gs_set hg (k := (grTo Sets Costs out Sets.length).toNat) (by omega)
                have sl := rising_len hrs (by omega)
                rw [eB] at k2 k3 b5 ⊢
                rw [covL_app, k3, show k.toNat = (Sets.getD (grTo Sets Costs out Sets.length).toNat []).length by omega, hc]
            · have eB : grC Sets Costs covered Sets.length = grTo Sets Costs out Sets.length := by rw [hc]; rfl
              have hnf : ¬ coverB Size Sets out = true := fun e => by
                have := (cnt_full hg h2.inR).2 e
                unfold cnt at this
                rw [← hc] at this
                omega
              have gn := gr_next (Costs := Costs) hg ha hnf
              have gi := (grTo_facts Sets Costs out Sets.length).1
              have gp := (grTo_facts Sets Costs out Sets.length).2.1 gn
              have hn1 : newN Sets out (grTo Sets Costs out Sets.length).toNat = newOf (Sets.getD (grTo Sets Costs out Sets.length).toNat []) (covL Sets out out.length) := rfl
              have hrs := gs_set hg (k := (grTo Sets Costs out Sets.length).toNat) (by omega)
              have sl := rising_len hrs (by omega)
              have h12 := cnt_step hg h2.inR (b := grTo Sets Costs out Sets.length) (by omega) gp
              have h13 := cnt_le hg (inR_app h2.inR (b := grTo Sets Costs out Sets.length) (by omega))
              show Size.toNat - cnt Sets (out ++ [grC Sets Costs covered Sets.length]) < Size.toNat - cnt Sets out
              rw [eB]; omega
            · simp
    · intro b6
      try simp only [nrmT] at b6
      refine ⟨rfl, ?_, rfl, ?_⟩
      · have e : coverB Size Sets out = true := by
          rw [← cnt_full hg h2.inR]
          have := cnt_le hg h2.inR
          unfold cnt at *
          rw [← hc] at *
          omega
        unfold grO; rw [← h3, grs_full e]; rfl
      · have e : coverB Size Sets out = true := by
          rw [← cnt_full hg h2.inR]
          have := cnt_le hg h2.inR
          unfold cnt at *
          rw [← hc] at *
          omega
        unfold grO; rw [← h3, grs_full e, h4]; rfl
theorem s_l6Greedy_pc (Size : Int) (Sets : List (List Int)) (Costs : List Int) (hg : goodSys Size Sets Costs = true) (ha : coverB Size Sets (allN Sets.length) = true) : PC Try.prog 149 [.agg [.int .i64 Size, .sl (.rows Sets), .sl (.ints Costs)]] (.tup [.d (.sl (.ints (grO Size Sets Costs))), .d (.sl (.ints (prL Size Sets Costs (grO Size Sets Costs) (grO Size Sets Costs).length)))]) :=
  pc_wf @Try.call149 fun hw => pc_by (by kernel_rfl) Try.func149 @Try.call149 (by kernel_rfl) s_l6Greedy_C (s_l6Greedy_A Size Sets Costs) (by kernel_rfl) (s_l6Greedy_vc Size Sets Costs hg ha hw.1.2.1.1 hw.1.2.1.2 hw.1.2.2.1) (by kernel_rfl)
def s_l6Greedy_orc : List D → Orc := orcN [none] fun ds => match ds with
  | [.agg [.int .i64 Size, .sl (.rows Sets), .sl (.ints Costs)]] => some (.tup [.d (.sl (.ints (grO Size Sets Costs))), .d (.sl (.ints (prL Size Sets Costs (grO Size Sets Costs) (grO Size Sets Costs).length)))])
  | _ => none
def s_GreedyPrices_C (f : FuncId) (ds : List D) : Orc := bif Nat.beq f 117 then s_l6Good_orc ds else bif Nat.beq f 148 then s_l6All_orc ds else bif Nat.beq f 147 then s_l6Cover_orc ds else bif Nat.beq f 149 then s_l6Greedy_orc ds else .no
def s_GreedyPrices_A (Size : Int) (Sets : List (List Int)) (Costs : List Int) : Ann := .none
def s_GreedyPrices_P (Size : Int) (Sets : List (List Int)) (Costs : List Int) : Prop :=
  (true = true) ∧ (PC Try.prog 117 [.agg [.int .i64 Size, .sl (.rows Sets), .sl (.ints Costs)]] (.one (.d (.bool (goodSys Size Sets Costs))))) ∧ ((!(!(goodSys Size Sets Costs))) = true → (!(!(goodSys Size Sets Costs))) = true) ∧ ((!(!(goodSys Size Sets Costs))) = true → PC Try.prog 148 [.agg [.int .i64 Size, .sl (.rows Sets), .sl (.ints Costs)]] (.one (.d (.sl (.ints (allN Sets.length)))))) ∧ ((!(!(goodSys Size Sets Costs))) = true → (!(!(goodSys Size Sets Costs))) = true) ∧ ((!(!(goodSys Size Sets Costs))) = true → (!(!(goodSys Size Sets Costs))) = true) ∧ ((!(!(goodSys Size Sets Costs))) = true → PC Try.prog 147 [.agg [.int .i64 Size, .sl (.rows Sets), .sl (.ints Costs)], .sl (.ints (allN Sets.length))] (.one (.d (.bool (coverB Size Sets (allN Sets.length)))))) ∧ ((!(!(goodSys Size Sets Costs))) = true → (!(!(goodSys Size Sets Costs))) = true) ∧ (true = true) ∧ (((!(goodSys Size Sets Costs)) = true → true = true)) ∧ (((!(goodSys Size Sets Costs)) = false → (!(!(goodSys Size Sets Costs))) = true)) ∧ (((cond (!(goodSys Size Sets Costs)) true (!(coverB Size Sets (allN Sets.length)))) = true → (((0 : Nat) = 0) ∧ (([] : List Int) = (gpL Size Sets Costs)) ∧ (false = (goodSys Size Sets Costs && coverB Size Sets (allN Sets.length))))) ∧ ((cond (!(goodSys Size Sets Costs)) true (!(coverB Size Sets (allN Sets.length)))) = false → (PC Try.prog 149 [.agg [.int .i64 Size, .sl (.rows Sets), .sl (.ints Costs)]] (.tup [.d (.sl (.ints (grO Size Sets Costs))), .d (.sl (.ints (prL Size Sets Costs (grO Size Sets Costs) (grO Size Sets Costs).length)))])) ∧ ((((prL Size Sets Costs (grO Size Sets Costs) (grO Size Sets Costs).length) : List Int) = (gpL Size Sets Costs)) ∧ (true = (goodSys Size Sets Costs && coverB Size Sets (allN Sets.length))))))
theorem s_GreedyPrices_vc (Size : Int) (Sets : List (List Int)) (Costs : List Int)  (w_Sets : (Sets.length : Int) ≤ 9223372036854775807) (v_Sets : ∀ x9 ∈ Sets, (x9.length : Int) ≤ 9223372036854775807) (w_Costs : (Costs.length : Int) ≤ 9223372036854775807) : s_GreedyPrices_P Size Sets Costs := by
  unfold s_GreedyPrices_P
  refine ⟨rfl, s_l6Good_pc Size Sets Costs, id, ?_, id, id, ?_, id, rfl, fun _ => rfl, ?_, ?_, ?_⟩
  · intro hg
    refine s_l6All_pc Size Sets Costs ?_
    · simpa only [Bool.not_not] using hg
  · intro hg
    refine s_l6Cover_pc Size Sets Costs (allN Sets.length) ?_ ?_
    · simpa only [Bool.not_not] using hg
    · exact all_rising _
  · intro h; rw [h]; rfl
  · intro b1
    refine ⟨rfl, ?_, ?_⟩
    · have hq : (goodSys Size Sets Costs && coverB Size Sets (allN Sets.length)) = false := by
        revert b1; cases goodSys Size Sets Costs <;> cases coverB Size Sets (allN Sets.length) <;> simp
      unfold gpL; rw [hq]; rfl
    · have hq : (goodSys Size Sets Costs && coverB Size Sets (allN Sets.length)) = false := by
        revert b1; cases goodSys Size Sets Costs <;> cases coverB Size Sets (allN Sets.length) <;> simp
      exact hq.symm
  · intro b2
    refine ⟨?_, ?_, ?_⟩
    · refine s_l6Greedy_pc Size Sets Costs ?_ ?_
      · have hq : goodSys Size Sets Costs = true ∧ coverB Size Sets (allN Sets.length) = true := by
          revert b2; cases goodSys Size Sets Costs <;> cases coverB Size Sets (allN Sets.length) <;> simp
        exact hq.1
      · have hq : goodSys Size Sets Costs = true ∧ coverB Size Sets (allN Sets.length) = true := by
          revert b2; cases goodSys Size Sets Costs <;> cases coverB Size Sets (allN Sets.length) <;> simp
        exact hq.2
    · have hq : goodSys Size Sets Costs = true ∧ coverB Size Sets (allN Sets.length) = true := by
        revert b2; cases goodSys Size Sets Costs <;> cases coverB Size Sets (allN Sets.length) <;> simp
      unfold gpL; rw [if_pos (by rw [hq.1, hq.2]; rfl)]
    · have hq : goodSys Size Sets Costs = true ∧ coverB Size Sets (allN Sets.length) = true := by
        revert b2; cases goodSys Size Sets Costs <;> cases coverB Size Sets (allN Sets.length) <;> simp
      rw [hq.1, hq.2]; rfl
theorem s_GreedyPrices_pc (Size : Int) (Sets : List (List Int)) (Costs : List Int)  : PC Try.prog 80 [.agg [.int .i64 Size, .sl (.rows Sets), .sl (.ints Costs)]] (.tup [.d (.sl (.ints (gpL Size Sets Costs))), .d (.bool (goodSys Size Sets Costs && coverB Size Sets (allN Sets.length)))]) :=
  pc_wf @Try.call80 fun hw => pc_by (by kernel_rfl) Try.func80 @Try.call80 (by kernel_rfl) s_GreedyPrices_C (s_GreedyPrices_A Size Sets Costs) (by kernel_rfl) (s_GreedyPrices_vc Size Sets Costs hw.1.2.1.1 hw.1.2.1.2 hw.1.2.2.1) (by kernel_rfl)
def s_GreedyPrices_orc : List D → Orc := orcN [none] fun ds => match ds with
  | [.agg [.int .i64 Size, .sl (.rows Sets), .sl (.ints Costs)]] => some (.tup [.d (.sl (.ints (gpL Size Sets Costs))), .d (.bool (goodSys Size Sets Costs && coverB Size Sets (allN Sets.length)))])
  | _ => none
abbrev i_GreedyPrices_JJ0 (Size : Int) (Sets : List (List Int)) (Costs : List Int) (out : List Int) (done : Int) (i : Int) : Prop := (goodSys Size Sets Costs = true) ∧ (coverB Size Sets (allN Sets.length) = true) ∧ (0 ≤ i) ∧ (i ≤ ((grO Size Sets Costs).length : Int)) ∧ (out = prL Size Sets Costs (grO Size Sets Costs) i.toNat) ∧ (done = ((covTo Sets (grO Size Sets Costs) i.toNat : Nat) : Int))
abbrev i_GreedyPrices_mJ0 (Size : Int) (Sets : List (List Int)) (Costs : List Int) (out : List Int) (done : Int) (i : Int) : Nat := ((grO Size Sets Costs).length - i).toNat
abbrev i_GreedyPrices_JJ1 (Size : Int) (Sets : List (List Int)) (Costs : List Int) (out : List Int) (done : Int) (i : Int) (out1 : List Int) (m : Int) : Prop := (0 ≤ m) ∧ (m ≤ ((newEl Sets (grO Size Sets Costs) i.toNat).length : Int)) ∧ (out1 = setsTo (fun _ => false) (prV Sets Costs (grO Size Sets Costs) i.toNat) (newEl Sets (grO Size Sets Costs) i.toNat) out m.toNat)
abbrev i_GreedyPrices_mJ1 (Size : Int) (Sets : List (List Int)) (Costs : List Int) (out : List Int) (done : Int) (i : Int) (out1 : List Int) (m : Int) : Nat := ((newEl Sets (grO Size Sets Costs) i.toNat).length - m).toNat
def i_GreedyPrices_C (f : FuncId) (ds : List D) : Orc := bif Nat.beq f 119 then i_IsSystem_orc ds else bif Nat.beq f 150 then i_System_greedy_orc ds else bif Nat.beq f 139 then i_bagOf_orc ds else bif Nat.beq f 151 then i_bag_list_orc ds else .no
def i_GreedyPrices_A (Size : Int) (Sets : List (List Int)) (Costs : List Int) : Ann := .two (.none) (.two (.none) (.two (.none) (.two (.none) (.two (.none) (.two (.two (.none) (.loop (cut3 (fun (out : List Int) (done : Int) (i : Int) => i_GreedyPrices_JJ0 Size Sets Costs out done i) (fun (out : List Int) (done : Int) (i : Int) => [(1, .ptr 1 0), (5, .own 1018 ((freshOf Sets (grO Size Sets Costs)).length)), (7, .own 26 out.length), (8, .d true (.int .u64 done)), (27, .own 18 ((grO Size Sets Costs).length)), (28, .d true (.int .i64 (((grO Size Sets Costs).length) : Int))), (29, .d true (.int .i64 i))]) (fun (out : List Int) (done : Int) (i : Int) => [(26, .arr true 3 (.ints out)), (1, .box 50 [.d false (.int .i64 Size), .d false (.sl (.rows Sets)), .d false (.sl (.ints Costs))]), (1018, .arr true 3 (.ints (freshOf Sets (grO Size Sets Costs)))), (18, .arr true 3 (.ints (grO Size Sets Costs)))])) (fun g => i_GreedyPrices_mJ0 Size Sets Costs g.1 g.2.1 g.2.2) (fun g => (fun (out : List Int) (done : Int) (i : Int) => .two (.none) (.two (.none) (.two (.two (.none) (.two (.two (.none) (.loop (cut2 (fun (out1 : List Int) (m : Int) => i_GreedyPrices_JJ1 Size Sets Costs out done i out1 m) (fun (out1 : List Int) (m : Int) => [(1, .ptr 1 0), (5, .own 1018 ((freshOf Sets (grO Size Sets Costs)).length)), (7, .own 26 out1.length), (8, .d true (.int .u64 done)), (9, .d true (.int .i64 i)), (10, .d true (.int .i64 ((grO Size Sets Costs).getD i.toNat 0))), (27, .own 18 ((grO Size Sets Costs).length)), (28, .d true (.int .i64 (((grO Size Sets Costs).length) : Int))), (29, .d true (.int .i64 i)), (42, .own 42 ((members (fun k => ((((bagN (Sets.getD (((grO Size Sets Costs).getD i.toNat 0).toNat) []) : Nat) : Int).toNat ^^^ (((bagN (Sets.getD (((grO Size Sets Costs).getD i.toNat 0).toNat) []) : Nat) : Int).toNat &&& done.toNat) : Nat) : Int).toNat.testBit k) 62).length)), (43, .d true (.int .i64 (((members (fun k => ((((bagN (Sets.getD (((grO Size Sets Costs).getD i.toNat 0).toNat) []) : Nat) : Int).toNat ^^^ (((bagN (Sets.getD (((grO Size Sets Costs).getD i.toNat 0).toNat) []) : Nat) : Int).toNat &&& done.toNat) : Nat) : Int).toNat.testBit k) 62).length) : Int))), (44, .d true (.int .i64 m))]) (fun (out1 : List Int) (m : Int) => [(26, .arr true 3 (.ints out1)), (1, .box 50 [.d false (.int .i64 Size), .d false (.sl (.rows Sets)), .d false (.sl (.ints Costs))]), (1018, .arr true 3 (.ints (freshOf Sets (grO Size Sets Costs)))), (18, .arr true 3 (.ints (grO Size Sets Costs))), (42, .arr true 3 (.ints (members (fun k => ((((bagN (Sets.getD (((grO Size Sets Costs).getD i.toNat 0).toNat) []) : Nat) : Int).toNat ^^^ (((bagN (Sets.getD (((grO Size Sets Costs).getD i.toNat 0).toNat) []) : Nat) : Int).toNat &&& done.toNat) : Nat) : Int).toNat.testBit k) 62)))])) (fun g => i_GreedyPrices_mJ1 Size Sets Costs out done i g.1 g.2) (fun _ => .none))) (.none))) (.none)))) (g.1) (g.2.1) (g.2.2)))) (.none))))))
def i_GreedyPrices_P (Size : Int) (Sets : List (List Int)) (Costs : List Int) : Prop :=
  (PC Try.prog 119 [.agg [.int .i64 Size, .sl (.rows Sets), .sl (.ints Costs)]] (.one (.d (.bool (goodSys Size Sets Costs))))) ∧ (((!(goodSys Size Sets Costs)) = true → (((gpL Size Sets Costs).length = 0) ∧ (false = (goodSys Size Sets Costs && coverB Size Sets (allN Sets.length))))) ∧ ((!(goodSys Size Sets Costs)) = false → (PC Try.prog 150 [.agg [.int .i64 Size, .sl (.rows Sets), .sl (.ints Costs)]] (.tup [.own 3 (.ints (grO Size Sets Costs)), .own 3 (.ints (freshOf Sets (grO Size Sets Costs))), .d (.bool ((grs Size Sets Costs []).isSome))])) ∧ (((!((grs Size Sets Costs []).isSome)) = true → (((gpL Size Sets Costs).length = 0) ∧ (false = (goodSys Size Sets Costs && coverB Size Sets (allN Sets.length))))) ∧ ((!((grs Size Sets Costs []).isSome)) = false → (Size = Size) ∧ ((0 : Int) ≤ Size) ∧ ((Size : Int) * ((8 : Nat) : Int) ≤ 140737488355328) ∧ ((∃ out' : List Int, ∃ done' : Int, ∃ i' : Int, (i_GreedyPrices_JJ0 Size Sets Costs out' done' i') ∧ ((freshOf Sets (grO Size Sets Costs)).length = (freshOf Sets (grO Size Sets Costs)).length) ∧ (Size.toNat = out'.length) ∧ ((0 : Int) = done') ∧ ((grO Size Sets Costs).length = (grO Size Sets Costs).length) ∧ ((((grO Size Sets Costs).length) : Int) = (((grO Size Sets Costs).length) : Int)) ∧ ((0 : Int) = i') ∧ ((List.replicate Size.toNat (0 : Int)) = out') ∧ (Size = Size) ∧ (Sets = Sets) ∧ (Costs = Costs) ∧ (freshOf Sets (grO Size Sets Costs) = freshOf Sets (grO Size Sets Costs)) ∧ (grO Size Sets Costs = grO Size Sets Costs)) ∧ (∀ out : List Int, ∀ done : Int, ∀ i : Int, (i_GreedyPrices_JJ0 Size Sets Costs out done i) → (((decide (i < (((grO Size Sets Costs).length) : Int))) = true → ((0 : Int) ≤ i) ∧ ((i : Int) < (((grO Size Sets Costs).length) : Int)) ∧ (i.toNat < (grO Size Sets Costs).length) ∧ ((0 : Int) ≤ ((grO Size Sets Costs).getD i.toNat 0)) ∧ ((((grO Size Sets Costs).getD i.toNat 0) : Int) < Sets.length) ∧ (((grO Size Sets Costs).getD i.toNat 0).toNat < Sets.length) ∧ (PC Try.prog 139 [.sl (.ints (Sets.getD (((grO Size Sets Costs).getD i.toNat 0).toNat) []))] (.one (.d (.int .u64 ((bagN (Sets.getD (((grO Size Sets Costs).getD i.toNat 0).toNat) []) : Nat) : Int))))) ∧ ((0 : Int) ≤ ((bagN (Sets.getD (((grO Size Sets Costs).getD i.toNat 0).toNat) []) : Nat) : Int) ∧ (((bagN (Sets.getD (((grO Size Sets Costs).getD i.toNat 0).toNat) []) : Nat) : Int) : Int) ≤ 18446744073709551615) ∧ ((0 : Int) ≤ done ∧ (done : Int) ≤ 18446744073709551615) ∧ (PC Try.prog 151 [.int .u64 ((((bagN (Sets.getD (((grO Size Sets Costs).getD i.toNat 0).toNat) []) : Nat) : Int).toNat ^^^ (((bagN (Sets.getD (((grO Size Sets Costs).getD i.toNat 0).toNat) []) : Nat) : Int).toNat &&& done.toNat) : Nat) : Int)] (.one (.own 3 (.ints (members (fun k => ((((bagN (Sets.getD (((grO Size Sets Costs).getD i.toNat 0).toNat) []) : Nat) : Int).toNat ^^^ (((bagN (Sets.getD (((grO Size Sets Costs).getD i.toNat 0).toNat) []) : Nat) : Int).toNat &&& done.toNat) : Nat) : Int).toNat.testBit k) 62))))) ∧ ((∃ out1' : List Int, ∃ m' : Int, (i_GreedyPrices_JJ1 Size Sets Costs out done i out1' m') ∧ ((freshOf Sets (grO Size Sets Costs)).length = (freshOf Sets (grO Size Sets Costs)).length) ∧ (out.length = out1'.length) ∧ (done = done) ∧ (i = i) ∧ (((grO Size Sets Costs).getD i.toNat 0) = ((grO Size Sets Costs).getD i.toNat 0)) ∧ ((grO Size Sets Costs).length = (grO Size Sets Costs).length) ∧ ((((grO Size Sets Costs).length) : Int) = (((grO Size Sets Costs).length) : Int)) ∧ (i = i) ∧ ((members (fun k => ((((bagN (Sets.getD (((grO Size Sets Costs).getD i.toNat 0).toNat) []) : Nat) : Int).toNat ^^^ (((bagN (Sets.getD (((grO Size Sets Costs).getD i.toNat 0).toNat) []) : Nat) : Int).toNat &&& done.toNat) : Nat) : Int).toNat.testBit k) 62).length = (members (fun k => ((((bagN (Sets.getD (((grO Size Sets Costs).getD i.toNat 0).toNat) []) : Nat) : Int).toNat ^^^ (((bagN (Sets.getD (((grO Size Sets Costs).getD i.toNat 0).toNat) []) : Nat) : Int).toNat &&& done.toNat) : Nat) : Int).toNat.testBit k) 62).length) ∧ ((((members (fun k => ((((bagN (Sets.getD (((grO Size Sets Costs).getD i.toNat 0).toNat) []) : Nat) : Int).toNat ^^^ (((bagN (Sets.getD (((grO Size Sets Costs).getD i.toNat 0).toNat) []) : Nat) : Int).toNat &&& done.toNat) : Nat) : Int).toNat.testBit k) 62).length) : Int) = (((members (fun k => ((((bagN (Sets.getD (((grO Size Sets Costs).getD i.toNat 0).toNat) []) : Nat) : Int).toNat ^^^ (((bagN (Sets.getD (((grO Size Sets Costs).getD i.toNat 0).toNat) []) : Nat) : Int).toNat &&& done.toNat) : Nat) : Int).toNat.testBit k) 62).length) : Int)) ∧ ((0 : Int) = m') ∧ (out = out1') ∧ (Size = Size) ∧ (Sets = Sets) ∧ (Costs = Costs) ∧ (freshOf Sets (grO Size Sets Costs) = freshOf Sets (grO Size Sets Costs)) ∧ (grO Size Sets Costs = grO Size Sets Costs) ∧ (members (fun k => ((((bagN (Sets.getD (((grO Size Sets Costs).getD i.toNat 0).toNat) []) : Nat) : Int).toNat ^^^ (((bagN (Sets.getD (((grO Size Sets Costs).getD i.toNat 0).toNat) []) : Nat) : Int).toNat &&& done.toNat) : Nat) : Int).toNat.testBit k) 62 = members (fun k => ((((bagN (Sets.getD (((grO Size Sets Costs).getD i.toNat 0).toNat) []) : Nat) : Int).toNat ^^^ (((bagN (Sets.getD (((grO Size Sets Costs).getD i.toNat 0).toNat) []) : Nat) : Int).toNat &&& done.toNat) : Nat) : Int).toNat.testBit k) 62)) ∧ (∀ out1 : List Int, ∀ m : Int, (i_GreedyPrices_JJ1 Size Sets Costs out done i out1 m) → (((decide (m < (((members (fun k => ((((bagN (Sets.getD (((grO Size Sets Costs).getD i.toNat 0).toNat) []) : Nat) : Int).toNat ^^^ (((bagN (Sets.getD (((grO Size Sets Costs).getD i.toNat 0).toNat) []) : Nat) : Int).toNat &&& done.toNat) : Nat) : Int).toNat.testBit k) 62).length) : Int))) = true → ((0 : Int) ≤ m) ∧ ((m : Int) < (((members (fun k => ((((bagN (Sets.getD (((grO Size Sets Costs).getD i.toNat 0).toNat) []) : Nat) : Int).toNat ^^^ (((bagN (Sets.getD (((grO Size Sets Costs).getD i.toNat 0).toNat) []) : Nat) : Int).toNat &&& done.toNat) : Nat) : Int).toNat.testBit k) 62).length) : Int)) ∧ (m.toNat < (members (fun k => ((((bagN (Sets.getD (((grO Size Sets Costs).getD i.toNat 0).toNat) []) : Nat) : Int).toNat ^^^ (((bagN (Sets.getD (((grO Size Sets Costs).getD i.toNat 0).toNat) []) : Nat) : Int).toNat &&& done.toNat) : Nat) : Int).toNat.testBit k) 62).length) ∧ (true = true) ∧ ((0 : Int) ≤ ((grO Size Sets Costs).getD i.toNat 0)) ∧ ((((grO Size Sets Costs).getD i.toNat 0) : Int) < Costs.length) ∧ (((grO Size Sets Costs).getD i.toNat 0).toNat < Costs.length) ∧ (-9223372036854775808 ≤ (840 * (Costs.getD (((grO Size Sets Costs).getD i.toNat 0).toNat) 0)) ∧ (840 * (Costs.getD (((grO Size Sets Costs).getD i.toNat 0).toNat) 0)) ≤ 9223372036854775807) ∧ ((0 : Int) ≤ i) ∧ ((i : Int) < (((freshOf Sets (grO Size Sets Costs)).length) : Int)) ∧ (i.toNat < (freshOf Sets (grO Size Sets Costs)).length) ∧ ((0 : Int) ≤ (840 * (Costs.getD (((grO Size Sets Costs).getD i.toNat 0).toNat) 0)) ∧ ((840 * (Costs.getD (((grO Size Sets Costs).getD i.toNat 0).toNat) 0)) : Int) ≤ 9223372036854775807) ∧ ((1 : Int) ≤ ((freshOf Sets (grO Size Sets Costs)).getD i.toNat 0)) ∧ ((0 : Int) ≤ ((members (fun k => ((((bagN (Sets.getD (((grO Size Sets Costs).getD i.toNat 0).toNat) []) : Nat) : Int).toNat ^^^ (((bagN (Sets.getD (((grO Size Sets Costs).getD i.toNat 0).toNat) []) : Nat) : Int).toNat &&& done.toNat) : Nat) : Int).toNat.testBit k) 62).getD m.toNat 0)) ∧ ((((members (fun k => ((((bagN (Sets.getD (((grO Size Sets Costs).getD i.toNat 0).toNat) []) : Nat) : Int).toNat ^^^ (((bagN (Sets.getD (((grO Size Sets Costs).getD i.toNat 0).toNat) []) : Nat) : Int).toNat &&& done.toNat) : Nat) : Int).toNat.testBit k) 62).getD m.toNat 0) : Int) < (out1.length : Int)) ∧ (((members (fun k => ((((bagN (Sets.getD (((grO Size Sets Costs).getD i.toNat 0).toNat) []) : Nat) : Int).toNat ^^^ (((bagN (Sets.getD (((grO Size Sets Costs).getD i.toNat 0).toNat) []) : Nat) : Int).toNat &&& done.toNat) : Nat) : Int).toNat.testBit k) 62).getD m.toNat 0).toNat < out1.length) ∧ (-9223372036854775808 ≤ (m + 1) ∧ (m + 1) ≤ 9223372036854775807) ∧ (∃ out1' : List Int, ∃ m' : Int, (i_GreedyPrices_JJ1 Size Sets Costs out done i out1' m') ∧ (i_GreedyPrices_mJ1 Size Sets Costs out done i out1' m' < i_GreedyPrices_mJ1 Size Sets Costs out done i out1 m) ∧ ((freshOf Sets (grO Size Sets Costs)).length = (freshOf Sets (grO Size Sets Costs)).length) ∧ (out1.length = out1'.length) ∧ (done = done) ∧ (i = i) ∧ (((grO Size Sets Costs).getD i.toNat 0) = ((grO Size Sets Costs).getD i.toNat 0)) ∧ ((grO Size Sets Costs).length = (grO Size Sets Costs).length) ∧ ((((grO Size Sets Costs).length) : Int) = (((grO Size Sets Costs).length) : Int)) ∧ (i = i) ∧ ((members (fun k => ((((bagN (Sets.getD (((grO Size Sets Costs).getD i.toNat 0).toNat) []) : Nat) : Int).toNat ^^^ (((bagN (Sets.getD (((grO Size Sets Costs).getD i.toNat 0).toNat) []) : Nat) : Int).toNat &&& done.toNat) : Nat) : Int).toNat.testBit k) 62).length = (members (fun k => ((((bagN (Sets.getD (((grO Size Sets Costs).getD i.toNat 0).toNat) []) : Nat) : Int).toNat ^^^ (((bagN (Sets.getD (((grO Size Sets Costs).getD i.toNat 0).toNat) []) : Nat) : Int).toNat &&& done.toNat) : Nat) : Int).toNat.testBit k) 62).length) ∧ ((((members (fun k => ((((bagN (Sets.getD (((grO Size Sets Costs).getD i.toNat 0).toNat) []) : Nat) : Int).toNat ^^^ (((bagN (Sets.getD (((grO Size Sets Costs).getD i.toNat 0).toNat) []) : Nat) : Int).toNat &&& done.toNat) : Nat) : Int).toNat.testBit k) 62).length) : Int) = (((members (fun k => ((((bagN (Sets.getD (((grO Size Sets Costs).getD i.toNat 0).toNat) []) : Nat) : Int).toNat ^^^ (((bagN (Sets.getD (((grO Size Sets Costs).getD i.toNat 0).toNat) []) : Nat) : Int).toNat &&& done.toNat) : Nat) : Int).toNat.testBit k) 62).length) : Int)) ∧ ((m + 1) = m') ∧ ((out1.set (((members (fun k => ((((bagN (Sets.getD (((grO Size Sets Costs).getD i.toNat 0).toNat) []) : Nat) : Int).toNat ^^^ (((bagN (Sets.getD (((grO Size Sets Costs).getD i.toNat 0).toNat) []) : Nat) : Int).toNat &&& done.toNat) : Nat) : Int).toNat.testBit k) 62).getD m.toNat 0).toNat) ((840 * (Costs.getD (((grO Size Sets Costs).getD i.toNat 0).toNat) 0)) / ((freshOf Sets (grO Size Sets Costs)).getD i.toNat 0))) = out1') ∧ (Size = Size) ∧ (Sets = Sets) ∧ (Costs = Costs) ∧ (freshOf Sets (grO Size Sets Costs) = freshOf Sets (grO Size Sets Costs)) ∧ (grO Size Sets Costs = grO Size Sets Costs) ∧ (members (fun k => ((((bagN (Sets.getD (((grO Size Sets Costs).getD i.toNat 0).toNat) []) : Nat) : Int).toNat ^^^ (((bagN (Sets.getD (((grO Size Sets Costs).getD i.toNat 0).toNat) []) : Nat) : Int).toNat &&& done.toNat) : Nat) : Int).toNat.testBit k) 62 = members (fun k => ((((bagN (Sets.getD (((grO Size Sets Costs).getD i.toNat 0).toNat) []) : Nat) : Int).toNat ^^^ (((bagN (Sets.getD (((grO Size Sets Costs).getD i.toNat 0).toNat) []) : Nat) : Int).toNat &&& done.toNat) : Nat) : Int).toNat.testBit k) 62))) ∧ ((decide (m < (((members (fun k => ((((bagN (Sets.getD (((grO Size Sets Costs).getD i.toNat 0).toNat) []) : Nat) : Int).toNat ^^^ (((bagN (Sets.getD (((grO Size Sets Costs).getD i.toNat 0).toNat) []) : Nat) : Int).toNat &&& done.toNat) : Nat) : Int).toNat.testBit k) 62).length) : Int))) = false → ((0 : Int) ≤ ((grO Size Sets Costs).getD i.toNat 0)) ∧ ((((grO Size Sets Costs).getD i.toNat 0) : Int) < Sets.length) ∧ (((grO Size Sets Costs).getD i.toNat 0).toNat < Sets.length) ∧ (PC Try.prog 139 [.sl (.ints (Sets.getD (((grO Size Sets Costs).getD i.toNat 0).toNat) []))] (.one (.d (.int .u64 ((bagN (Sets.getD (((grO Size Sets Costs).getD i.toNat 0).toNat) []) : Nat) : Int))))) ∧ ((0 : Int) ≤ done ∧ (done : Int) ≤ 18446744073709551615) ∧ ((0 : Int) ≤ ((bagN (Sets.getD (((grO Size Sets Costs).getD i.toNat 0).toNat) []) : Nat) : Int) ∧ (((bagN (Sets.getD (((grO Size Sets Costs).getD i.toNat 0).toNat) []) : Nat) : Int) : Int) ≤ 18446744073709551615) ∧ (-9223372036854775808 ≤ (i + 1) ∧ (i + 1) ≤ 9223372036854775807) ∧ (∃ out' : List Int, ∃ done' : Int, ∃ i' : Int, (i_GreedyPrices_JJ0 Size Sets Costs out' done' i') ∧ (i_GreedyPrices_mJ0 Size Sets Costs out' done' i' < i_GreedyPrices_mJ0 Size Sets Costs out done i) ∧ ((freshOf Sets (grO Size Sets Costs)).length = (freshOf Sets (grO Size Sets Costs)).length) ∧ (out1.length = out'.length) ∧ (((done.toNat ||| ((bagN (Sets.getD (((grO Size Sets Costs).getD i.toNat 0).toNat) []) : Nat) : Int).toNat : Nat) : Int) = done') ∧ ((grO Size Sets Costs).length = (grO Size Sets Costs).length) ∧ ((((grO Size Sets Costs).length) : Int) = (((grO Size Sets Costs).length) : Int)) ∧ ((i + 1) = i') ∧ (out1 = out') ∧ (Size = Size) ∧ (Sets = Sets) ∧ (Costs = Costs) ∧ (freshOf Sets (grO Size Sets Costs) = freshOf Sets (grO Size Sets Costs)) ∧ (grO Size Sets Costs = grO Size Sets Costs))))))) ∧ ((decide (i < (((grO Size Sets Costs).length) : Int))) = false → ((out.length = out.length) ∧ ((out : List Int) = gpL Size Sets Costs) ∧ (true = (goodSys Size Sets Costs && coverB Size Sets (allN Sets.length))))))))))))
theorem i_GreedyPrices_vc (Size : Int) (Sets : List (List Int)) (Costs : List Int)  (w_Sets : (Sets.length : Int) ≤ 9223372036854775807) (v_Sets : ∀ x9 ∈ Sets, (x9.length : Int) ≤ 9223372036854775807) (w_Costs : (Costs.length : Int) ≤ 9223372036854775807) : i_GreedyPrices_P Size Sets Costs := by
  unfold i_GreedyPrices_P
  refine ⟨i_IsSystem_pc Size Sets Costs, ?_, ?_⟩
  · intro b1
    try simp only [nrmT] at b1
    refine ⟨?_, ?_⟩
    · unfold gpL; rw [b1]; rfl
    · rw [b1]; rfl
  · intro b2
    try simp only [nrmT] at b2
    refine ⟨?_, ?_, ?_⟩
    · refine i_System_greedy_pc Size Sets Costs ?_
      · exact b2
    · intro b3
      try simp only [nrmT] at b3
      refine ⟨?_, ?_⟩
      · have e := grs_some (Costs := Costs) b2
        rw [b3] at e
        unfold gpL; rw [← e, Bool.and_false]; rfl
      · have e := grs_some (Costs := Costs) b2
        rw [b3] at e
        rw [← e, Bool.and_false]
    · intro b4
      try simp only [nrmT] at b4
      refine ⟨rfl, ?_, ?_, ?_, ?_⟩
      · have gf := gs_facts b2
        omega
      · have gf := gs_facts b2
        omega
      · refine ⟨(List.replicate Size.toNat (0 : Int)), 0, 0, ?_⟩
        refine ⟨?_, rfl, ?_, rfl, rfl, rfl, rfl, rfl, rfl, rfl, rfl, rfl, rfl⟩
        · refine ⟨?_, ?_, ?_, ?_, ?_, ?_⟩
          · exact b2
          · rw [← grs_some (Costs := Costs) b2]; exact b4
          · first | omega | rfl | (intro hg; simp only [nrmT] at hg; omega) | (intro g1 g2; simp [g1, g2]; done) | (intro g1; simp at g1 ⊢; simp [g1]; done) | (simp only [nrmT] at *; omega) | (simp at * <;> omega) | (simp_all <;> omega) | (simp_all; done)
          · first | omega | rfl | (intro hg; simp only [nrmT] at hg; omega) | (intro g1 g2; simp [g1, g2]; done) | (intro g1; simp at g1 ⊢; simp [g1]; done) | (simp only [nrmT] at *; omega) | (simp at * <;> omega) | (simp_all <;> omega) | (simp_all; done)
          · exact (prL_zero _ _ _ _).symm
          · first | omega | rfl | (intro hg; simp only [nrmT] at hg; omega) | (intro g1 g2; simp [g1, g2]; done) | (intro g1; simp at g1 ⊢; simp [g1]; done) | (simp only [nrmT] at *; omega) | (simp at * <;> omega) | (simp_all <;> omega) | (simp_all; done)
        · simp
      · intro out done i hJ
        obtain ⟨hg, ha, h1, h2, h3, hc⟩ := hJ
        refine ⟨?_, ?_⟩
        · intro b5
          try simp only [nrmT] at b5
          refine ⟨?_, ?_, ?_, ?_, ?_, ?_, ?_, ?_, ?_, ?_, ?_, ?_⟩
          · first | omega | rfl | (intro hg; simp only [nrmT] at hg; omega) | (intro g1 g2; simp [g1, g2]; done) | (intro g1; simp at g1 ⊢; simp [g1]; done) | (simp only [nrmT] at *; omega) | (simp at * <;> omega) | (simp_all <;> omega) | (simp_all; done)
          · first | omega | rfl | (intro hg; simp only [nrmT] at hg; omega) | (intro g1 g2; simp [g1, g2]; done) | (intro g1; simp at g1 ⊢; simp [g1]; done) | (simp only [nrmT] at *; omega) | (simp at * <;> omega) | (simp_all <;> omega) | (simp_all; done)
          · first | omega | rfl | (intro hg; simp only [nrmT] at hg; omega) | (intro g1 g2; simp [g1, g2]; done) | (intro g1; simp at g1 ⊢; simp [g1]; done) | (simp only [nrmT] at *; omega) | (simp at * <;> omega) | (simp_all <;> omega) | (simp_all; done)
          · have gf := gs_facts hg
            have ok := grO_ok (Costs := Costs) hg
            have hin := ok.inR _ (getD_mem (d := 0) (show i.toNat < (grO Size Sets Costs).length by omega))
            omega
          · have gf := gs_facts hg
            have ok := grO_ok (Costs := Costs) hg
            have hin := ok.inR _ (getD_mem (d := 0) (show i.toNat < (grO Size Sets Costs).length by omega))
            omega
          · have gf := gs_facts hg
            have ok := grO_ok (Costs := Costs) hg
            have hin := ok.inR _ (getD_mem (d := 0) (show i.toNat < (grO Size Sets Costs).length by omega))
            omega
          · refine i_bagOf_pc (Sets.getD (((grO Size Sets Costs).getD i.toNat 0).toNat) []) ?_
            · have gf := gs_facts hg
              have ok := grO_ok (Costs := Costs) hg
              have hin := ok.inR _ (getD_mem (d := 0) (show i.toNat < (grO Size Sets Costs).length by omega))
              intro x hx; have := set_mem hg (k := ((grO Size Sets Costs).getD i.toNat 0).toNat) (by omega) x hx; omega
          · have gf := gs_facts hg
            have ok := grO_ok (Costs := Costs) hg
            have hin := ok.inR _ (getD_mem (d := 0) (show i.toNat < (grO Size Sets Costs).length by omega))
            have := set_bag hg (k := ((grO Size Sets Costs).getD i.toNat 0).toNat) (by omega)
            omega
          · have gf := gs_facts hg
            have ok := grO_ok (Costs := Costs) hg
            have hin := ok.inR _ (getD_mem (d := 0) (show i.toNat < (grO Size Sets Costs).length by omega))
            have h11 := cov_bag hg (inR_take ok.inR i.toNat)
            rw [← covTo_take (by omega)] at h11
            omega
          · refine i_bag_list_pc ((((bagN (Sets.getD (((grO Size Sets Costs).getD i.toNat 0).toNat) []) : Nat) : Int).toNat ^^^ (((bagN (Sets.getD (((grO Size Sets Costs).getD i.toNat 0).toNat) []) : Nat) : Int).toNat &&& done.toNat) : Nat) : Int) ?_
            · have gf := gs_facts hg
              have ok := grO_ok (Costs := Costs) hg
              have hin := ok.inR _ (getD_mem (d := 0) (show i.toNat < (grO Size Sets Costs).length by omega))
              simp only [Int.toNat_natCast]
              have := not_lt256 (d := done.toNat) (set_bag hg (k := ((grO Size Sets Costs).getD i.toNat 0).toNat) (by omega))
              omega
          · refine ⟨out, 0, ?_⟩
            refine ⟨?_, rfl, rfl, rfl, rfl, rfl, rfl, rfl, rfl, rfl, rfl, rfl, rfl, rfl, rfl, rfl, rfl, rfl, rfl⟩
            · refine ⟨?_, ?_, ?_⟩
              · first | omega | rfl | (intro hg; simp only [nrmT] at hg; omega) | (intro g1 g2; simp [g1, g2]; done) | (intro g1; simp at g1 ⊢; simp [g1]; done) | (simp only [nrmT] at *; omega) | (simp at * <;> omega) | (simp_all <;> omega) | (simp_all; done)
              · first | omega | rfl | (intro hg; simp only [nrmT] at hg; omega) | (intro g1 g2; simp [g1, g2]; done) | (intro g1; simp at g1 ⊢; simp [g1]; done) | (simp only [nrmT] at *; omega) | (simp at * <;> omega) | (simp_all <;> omega) | (simp_all; done)
              · rfl
          · intro out1 m hJ
            obtain ⟨k1, k2, k3⟩ := hJ
            refine ⟨?_, ?_⟩
            · intro b6
              try simp only [nrmT] at b6
              refine ⟨?_, ?_, ?_, rfl, ?_, ?_, ?_, ?_, ?_, ?_, ?_, ?_, ?_, ?_, ?_, ?_, ?_, ?_⟩
              · first | omega | rfl | (intro hg; simp only [nrmT] at hg; omega) | (intro g1 g2; simp [g1, g2]; done) | (intro g1; simp at g1 ⊢; simp [g1]; done) | (simp only [nrmT] at *; omega) | (simp at * <;> omega) | (simp_all <;> omega) | (simp_all; done)
              · first | omega | rfl | (intro hg; simp only [nrmT] at hg; omega) | (intro g1 g2; simp [g1, g2]; done) | (intro g1; simp at g1 ⊢; simp [g1]; done) | (simp only [nrmT] at *; omega) | (simp at * <;> omega) | (simp_all <;> omega) | (simp_all; done)
              · first | omega | rfl | (intro hg; simp only [nrmT] at hg; omega) | (intro g1 g2; simp [g1, g2]; done) | (intro g1; simp at g1 ⊢; simp [g1]; done) | (simp only [nrmT] at *; omega) | (simp at * <;> omega) | (simp_all <;> omega) | (simp_all; done)
              · have gf := gs_facts hg
                have ok := grO_ok (Costs := Costs) hg
                have hin := ok.inR _ (getD_mem (d := 0) (show i.toNat < (grO Size Sets Costs).length by omega))
                omega
              · have gf := gs_facts hg
                have ok := grO_ok (Costs := Costs) hg
                have hin := ok.inR _ (getD_mem (d := 0) (show i.toNat < (grO Size Sets Costs).length by omega))
                omega
              · have gf := gs_facts hg
                have ok := grO_ok (Costs := Costs) hg
                have hin := ok.inR _ (getD_mem (d := 0) (show i.toNat < (grO Size Sets Costs).length by omega))
                omega
              · have gf := gs_facts hg
                have ok := grO_ok (Costs := Costs) hg
                have hin := ok.inR _ (getD_mem (d := 0) (show i.toNat < (grO Size Sets Costs).length by omega))
                have := gs_cost hg (k := ((grO Size Sets Costs).getD i.toNat 0).toNat) (by omega)
                omega
              · first | omega | rfl | (intro hg; simp only [nrmT] at hg; omega) | (intro g1 g2; simp [g1, g2]; done) | (intro g1; simp at g1 ⊢; simp [g1]; done) | (simp only [nrmT] at *; omega) | (simp at * <;> omega) | (simp_all <;> omega) | (simp_all; done)
              · rw [fresh_len]; omega
              · rw [fresh_len]; omega
              · have gf := gs_facts hg
                have ok := grO_ok (Costs := Costs) hg
                have hin := ok.inR _ (getD_mem (d := 0) (show i.toNat < (grO Size Sets Costs).length by omega))
                have := gs_cost hg (k := ((grO Size Sets Costs).getD i.toNat 0).toNat) (by omega)
                omega
              · have gf := gs_facts hg
                have ok := grO_ok (Costs := Costs) hg
                have hin := ok.inR _ (getD_mem (d := 0) (show i.toNat < (grO Size Sets Costs).length by omega))
                rw [fresh_get (by omega)]; exact (new_one hg ok (by omega)).1
              · have gf := gs_facts hg
                have ok := grO_ok (Costs := Costs) hg
                have hin := ok.inR _ (getD_mem (d := 0) (show i.toNat < (grO Size Sets Costs).length by omega))
                have eE : (members (fun k => ((((bagN (Sets.getD (((grO Size Sets Costs).getD i.toNat 0).toNat) []) : Nat) : Int).toNat ^^^ (((bagN (Sets.getD (((grO Size Sets Costs).getD i.toNat 0).toNat) []) : Nat) : Int).toNat &&& done.toNat) : Nat) : Int).toNat.testBit k) 62) = newEl Sets (grO Size Sets Costs) i.toNat := by rw [hc]; simp only [Int.toNat_natCast]; rfl
                rw [eE] at b6 ⊢
                have hx := newEl_in hg ok.inR (show i.toNat < (grO Size Sets Costs).length by omega) _ (getD_mem (d := 0) (show m.toNat < (newEl Sets (grO Size Sets Costs) i.toNat).length by omega))
                have pl : out1.length = Size.toNat := by rw [k3, setsTo_len, h3, prL_len]
                omega
              · have gf := gs_facts hg
                have ok := grO_ok (Costs := Costs) hg
                have hin := ok.inR _ (getD_mem (d := 0) (show i.toNat < (grO Size Sets Costs).length by omega))
                have eE : (members (fun k => ((((bagN (Sets.getD (((grO Size Sets Costs).getD i.toNat 0).toNat) []) : Nat) : Int).toNat ^^^ (((bagN (Sets.getD (((grO Size Sets Costs).getD i.toNat 0).toNat) []) : Nat) : Int).toNat &&& done.toNat) : Nat) : Int).toNat.testBit k) 62) = newEl Sets (grO Size Sets Costs) i.toNat := by rw [hc]; simp only [Int.toNat_natCast]; rfl
                rw [eE] at b6 ⊢
                have hx := newEl_in hg ok.inR (show i.toNat < (grO Size Sets Costs).length by omega) _ (getD_mem (d := 0) (show m.toNat < (newEl Sets (grO Size Sets Costs) i.toNat).length by omega))
                have pl : out1.length = Size.toNat := by rw [k3, setsTo_len, h3, prL_len]
                omega
              · have gf := gs_facts hg
                have ok := grO_ok (Costs := Costs) hg
                have hin := ok.inR _ (getD_mem (d := 0) (show i.toNat < (grO Size Sets Costs).length by omega))
                have eE : (members (fun k => ((((bagN (Sets.getD (((grO Size Sets Costs).getD i.toNat 0).toNat) []) : Nat) : Int).toNat ^^^ (((bagN (Sets.getD (((grO Size Sets Costs).getD i.toNat 0).toNat) []) : Nat) : Int).toNat &&& done.toNat) : Nat) : Int).toNat.testBit k) 62) = newEl Sets (grO Size Sets Costs) i.toNat := by rw [hc]; simp only [Int.toNat_natCast]; rfl
                rw [eE] at b6 ⊢
                have hx := newEl_in hg ok.inR (show i.toNat < (grO Size Sets Costs).length by omega) _ (getD_mem (d := 0) (show m.toNat < (newEl Sets (grO Size Sets Costs) i.toNat).length by omega))
                have pl : out1.length = Size.toNat := by rw [k3, setsTo_len, h3, prL_len]
                omega
              · have eE : (members (fun k => ((((bagN (Sets.getD (((grO Size Sets Costs).getD i.toNat 0).toNat) []) : Nat) : Int).toNat ^^^ (((bagN (Sets.getD (((grO Size Sets Costs).getD i.toNat 0).toNat) []) : Nat) : Int).toNat &&& done.toNat) : Nat) : Int).toNat.testBit k) 62) = newEl Sets (grO Size Sets Costs) i.toNat := by rw [hc]; simp only [Int.toNat_natCast]; rfl
                rw [eE] at b6
                have := members_len_le (fun k => (bagN (Sets.getD ((grO Size Sets Costs).getD i.toNat 0).toNat []) ^^^ (bagN (Sets.getD ((grO Size Sets Costs).getD i.toNat 0).toNat []) &&& covTo Sets (grO Size Sets Costs) i.toNat)).testBit k) 62
                unfold newEl at *
                omega
              · refine ⟨(out1.set (((members (fun k => ((((bagN (Sets.getD (((grO Size Sets Costs).getD i.toNat 0).toNat) []) : Nat) : Int).toNat ^^^ (((bagN (Sets.getD (((grO Size Sets Costs).getD i.toNat 0).toNat) []) : Nat) : Int).toNat &&& done.toNat) : Nat) : Int).toNat.testBit k) 62).getD m.toNat 0).toNat) ((840 * (Costs.getD (((grO Size Sets Costs).getD i.toNat 0).toNat) 0)) / ((freshOf Sets (grO Size Sets Costs)).getD i.toNat 0))), (m + 1), ?_⟩
                refine ⟨?_, ?_, rfl, ?_, rfl, rfl, rfl, rfl, rfl, rfl, rfl, rfl, rfl, rfl, rfl, rfl, rfl, rfl, rfl, rfl⟩
                · refine ⟨?_, ?_, ?_⟩
                  · first | omega | rfl | (intro hg; simp only [nrmT] at hg; omega) | (intro g1 g2; simp [g1, g2]; done) | (intro g1; simp at g1 ⊢; simp [g1]; done) | (simp only [nrmT] at *; omega) | (simp at * <;> omega) | (simp_all <;> omega) | (simp_all; done)
                  · have eE : (members (fun k => ((((bagN (Sets.getD (((grO Size Sets Costs).getD i.toNat 0).toNat) []) : Nat) : Int).toNat ^^^ (((bagN (Sets.getD (((grO Size Sets Costs).getD i.toNat 0).toNat) []) : Nat) : Int).toNat &&& done.toNat) : Nat) : Int).toNat.testBit k) 62) = newEl Sets (grO Size Sets Costs) i.toNat := by rw [hc]; simp only [Int.toNat_natCast]; rfl
                    rw [eE] at b6
                    have := members_len_le (fun k => (bagN (Sets.getD ((grO Size Sets Costs).getD i.toNat 0).toNat []) ^^^ (bagN (Sets.getD ((grO Size Sets Costs).getD i.toNat 0).toNat []) &&& covTo Sets (grO Size Sets Costs) i.toNat)).testBit k) 62
                    unfold newEl at *
                    omega
                  · have gf := gs_facts hg
                    have ok := grO_ok (Costs := Costs) hg
                    have hin := ok.inR _ (getD_mem (d := 0) (show i.toNat < (grO Size Sets Costs).length by omega))
                    have eE : (members (fun k => ((((bagN (Sets.getD (((grO Size Sets Costs).getD i.toNat 0).toNat) []) : Nat) : Int).toNat ^^^ (((bagN (Sets.getD (((grO Size Sets Costs).getD i.toNat 0).toNat) []) : Nat) : Int).toNat &&& done.toNat) : Nat) : Int).toNat.testBit k) 62) = newEl Sets (grO Size Sets Costs) i.toNat := by rw [hc]; simp only [Int.toNat_natCast]; rfl
                    rw [eE]
                    rw [show (m + 1).toNat = m.toNat + 1 by omega, setsTo_succ, if_neg (by simp), ← k3, fresh_get (by omega)]
                    unfold prV
                    rw [div840 (new_one hg ok (by omega))]
                · have eE : (members (fun k => ((((bagN (Sets.getD (((grO Size Sets Costs).getD i.toNat 0).toNat) []) : Nat) : Int).toNat ^^^ (((bagN (Sets.getD (((grO Size Sets Costs).getD i.toNat 0).toNat) []) : Nat) : Int).toNat &&& done.toNat) : Nat) : Int).toNat.testBit k) 62) = newEl Sets (grO Size Sets Costs) i.toNat := by rw [hc]; simp only [Int.toNat_natCast]; rfl
                  rw [eE] at b6
                  first | (show _ < _; omega) | (simp only [i_GreedyPrices_mJ1]; omega) | (simp only [i_GreedyPrices_mJ1] at *; simp at *; omega)
                · first | omega | rfl | (intro hg; simp only [nrmT] at hg; omega) | (intro g1 g2; simp [g1, g2]; done) | (intro g1; simp at g1 ⊢; simp [g1]; done) | (simp only [nrmT] at *; omega) | (simp at * <;> omega) | (simp_all <;> omega) | (simp_all; done)
            · intro b7
              try simp only [nrmT] at b7
              refine ⟨?_, ?_, ?_, ?_, ?_, ?_, ?_, ?_⟩
              · have gf := gs_facts hg
                have ok := grO_ok (Costs := Costs) hg
                have hin := ok.inR _ (getD_mem (d := 0) (show i.toNat < (grO Size Sets Costs).length by omega))
                omega
              · have gf := gs_facts hg
                have ok := grO_ok (Costs := Costs) hg
                have hin := ok.inR _ (getD_mem (d := 0) (show i.toNat < (grO Size Sets Costs).length by omega))
                omega
              · have gf := gs_facts hg
                have ok := grO_ok (Costs := Costs) hg
                have hin := ok.inR _ (getD_mem (d := 0) (show i.toNat < (grO Size Sets Costs).length by omega))
                omega
              · refine i_bagOf_pc (Sets.getD (((grO Size Sets Costs).getD i.toNat 0).toNat) []) ?_
                · have gf := gs_facts hg
                  have ok := grO_ok (Costs := Costs) hg
                  have hin := ok.inR _ (getD_mem (d := 0) (show i.toNat < (grO Size Sets Costs).length by omega))
                  intro x hx; have := set_mem hg (k := ((grO Size Sets Costs).getD i.toNat 0).toNat) (by omega) x hx; omega
              · have gf := gs_facts hg
                have ok := grO_ok (Costs := Costs) hg
                have hin := ok.inR _ (getD_mem (d := 0) (show i.toNat < (grO Size Sets Costs).length by omega))
                have h11 := cov_bag hg (inR_take ok.inR i.toNat)
                rw [← covTo_take (by omega)] at h11
                omega
              · have gf := gs_facts hg
                have ok := grO_ok (Costs := Costs) hg
                have hin := ok.inR _ (getD_mem (d := 0) (show i.toNat < (grO Size Sets Costs).length by omega))
                have := set_bag hg (k := ((grO Size Sets Costs).getD i.toNat 0).toNat) (by omega)
                omega
              · have := grO_len (Costs := Costs) hg; omega
              · refine ⟨out1, ((done.toNat ||| ((bagN (Sets.getD (((grO Size Sets Costs).getD i.toNat 0).toNat) []) : Nat) : Int).toNat : Nat) : Int), (i + 1), ?_⟩
                refine ⟨?_, ?_, rfl, rfl, rfl, rfl, rfl, rfl, rfl, rfl, rfl, rfl, rfl, rfl⟩
                · refine ⟨?_, ?_, ?_, ?_, ?_, ?_⟩
                  · exact hg
                  · exact ha
                  · first | omega | rfl | (intro hg; simp only [nrmT] at hg; omega) | (intro g1 g2; simp [g1, g2]; done) | (intro g1; simp at g1 ⊢; simp [g1]; done) | (simp only [nrmT] at *; omega) | (simp at * <;> omega) | (simp_all <;> omega) | (simp_all; done)
                  · first | omega | rfl | (intro hg; simp only [nrmT] at hg; omega) | (intro g1 g2; simp [g1, g2]; done) | (intro g1; simp at g1 ⊢; simp [g1]; done) | (simp only [nrmT] at *; omega) | (simp at * <;> omega) | (simp_all <;> omega) | (simp_all; done)
                  · have gf := gs_facts hg
                    have ok := grO_ok (Costs := Costs) hg
                    have hin := ok.inR _ (getD_mem (d := 0) (show i.toNat < (grO Size Sets Costs).length by omega))
                    have eE : (members (fun k => ((((bagN (Sets.getD (((grO Size Sets Costs).getD i.toNat 0).toNat) []) : Nat) : Int).toNat ^^^ (((bagN (Sets.getD (((grO Size Sets Costs).getD i.toNat 0).toNat) []) : Nat) : Int).toNat &&& done.toNat) : Nat) : Int).toNat.testBit k) 62) = newEl Sets (grO Size Sets Costs) i.toNat := by rw [hc]; simp only [Int.toNat_natCast]; rfl
                    rw [eE] at b7
                    rw [k3, h3, show m.toNat = (newEl Sets (grO Size Sets Costs) i.toNat).length by omega, show (i + 1).toNat = i.toNat + 1 by omega]
                    exact prL_impl hg ok.inR (by omega)
                  · rw [show (i + 1).toNat = i.toNat + 1 by omega, hc]; simp only [Int.toNat_natCast]; rfl
                · first | (show _ < _; omega) | (simp only [i_GreedyPrices_mJ0]; omega) | (simp only [i_GreedyPrices_mJ0] at *; simp at *; omega)
        · intro b8
          try simp only [nrmT] at b8
          refine ⟨rfl, ?_, ?_⟩
          · unfold gpL; rw [if_pos (by rw [hg, ha]; rfl), h3, show i.toNat = (grO Size Sets Costs).length by omega]
          · rw [hg, ha]; rfl
theorem i_GreedyPrices_pc (Size : Int) (Sets : List (List Int)) (Costs : List Int)  : PC Try.prog 81 [.agg [.int .i64 Size, .sl (.rows Sets), .sl (.ints Costs)]] (.tup [.own 3 (.ints (gpL Size Sets Costs)), .d (.bool (goodSys Size Sets Costs && coverB Size Sets (allN Sets.length)))]) :=
  pc_wf @Try.call81 fun hw => pc_by (by kernel_rfl) Try.func81 @Try.call81 (by kernel_rfl) i_GreedyPrices_C (i_GreedyPrices_A Size Sets Costs) (by kernel_rfl) (i_GreedyPrices_vc Size Sets Costs hw.1.2.1.1 hw.1.2.1.2 hw.1.2.2.1) (by kernel_rfl)
def i_GreedyPrices_orc : List D → Orc := orcN [none] fun ds => match ds with
  | [.agg [.int .i64 Size, .sl (.rows Sets), .sl (.ints Costs)]] => some (.tup [.own 3 (.ints (gpL Size Sets Costs)), .d (.bool (goodSys Size Sets Costs && coverB Size Sets (allN Sets.length)))])
  | _ => none
def l_FnExactGreedyPrices_C (f : FuncId) (ds : List D) : Orc := bif Nat.beq f 55 then l_szSystem_orc ds else bif Nat.beq f 57 then l_toSystem_orc ds else bif Nat.beq f 80 then s_GreedyPrices_orc ds else bif Nat.beq f 81 then i_GreedyPrices_orc ds else bif Nat.beq f 32 then l_eqIntS_orc ds else bif Nat.beq f 48 then l_eqSystem_orc ds else bif Nat.beq f 36 then l_heldIntS_orc ds else .no
def l_FnExactGreedyPrices_A (Size : Int) (Sets : List (List Int)) (Costs : List Int) : Ann := .two (.none) (.two (.none) (.two (.none) (.two (.none) (.two (.reg [(1, .g)]) (.two (.reg [(1, .g)]) (.two (.none) (.two (.none) (.two (.two (.reg [(2, .g)]) (.none)) (.two (.none) (.two (.mark [] 2 (.kill (1 + ((Sets.map List.length).sum : Int) + (Costs.length : Int)))) (.two (.none) (.two (.none) (.two (.mark [] 2 (.wr (marks 1 (gpL Size Sets Costs).length) (1 + ((gpL Size Sets Costs).length : Int)))) (.two (.none) (.two (.none) (.two (.none) (.two (.none) (.two (.reg [(1, .g)]) (.none)))))))))))))))))))
def l_FnExactGreedyPrices_P (Size : Int) (Sets : List (List Int)) (Costs : List Int) : Prop :=
  (PC Try.prog 55 [.agg [.int .i64 Size, .sl (.rows Sets), .sl (.ints Costs)], .int .i64 1048576] (.one (.d (.int .i64 (szSys Sets Costs 1048576))))) ∧ (((decide ((szSys Sets Costs 1048576) < 0)) = true → ((true = true))) ∧ ((decide ((szSys Sets Costs 1048576) < 0)) = false → (PC Try.prog 57 [.agg [.int .i64 Size, .sl (.rows Sets), .sl (.ints Costs)]] (.one (.d (.agg [.int .i64 Size, .sl (.rows Sets), .sl (.ints Costs)])))) ∧ (PC Try.prog 80 [.agg [.int .i64 Size, .sl (.rows Sets), .sl (.ints Costs)]] (.tup [.d (.sl (.ints (gpL Size Sets Costs))), .d (.bool (goodSys Size Sets Costs && coverB Size Sets (allN Sets.length)))])) ∧ (PC Try.prog 57 [.agg [.int .i64 Size, .sl (.rows Sets), .sl (.ints Costs)]] (.one (.d (.agg [.int .i64 Size, .sl (.rows Sets), .sl (.ints Costs)])))) ∧ (PC Try.prog 81 [.agg [.int .i64 Size, .sl (.rows Sets), .sl (.ints Costs)]] (.tup [.own 3 (.ints (gpL Size Sets Costs)), .d (.bool (goodSys Size Sets Costs && coverB Size Sets (allN Sets.length)))])) ∧ ((gpL Size Sets Costs).length = (gpL Size Sets Costs).length) ∧ (PC Try.prog 32 [.sl (.ints (gpL Size Sets Costs)), .sl (.ints (gpL Size Sets Costs))] (.one (.d (.bool ((gpL Size Sets Costs) == (gpL Size Sets Costs)))))) ∧ ((!(!((gpL Size Sets Costs) == (gpL Size Sets Costs)))) = true → (!(!((gpL Size Sets Costs) == (gpL Size Sets Costs)))) = true) ∧ ((!(!((gpL Size Sets Costs) == (gpL Size Sets Costs)))) = true → (!(!((gpL Size Sets Costs) == (gpL Size Sets Costs)))) = true) ∧ (true = true) ∧ (((!((gpL Size Sets Costs) == (gpL Size Sets Costs))) = true → true = true)) ∧ (((!((gpL Size Sets Costs) == (gpL Size Sets Costs))) = false → (!(!((gpL Size Sets Costs) == (gpL Size Sets Costs)))) = true)) ∧ (((cond (!((gpL Size Sets Costs) == (gpL Size Sets Costs))) true ((goodSys Size Sets Costs && coverB Size Sets (allN Sets.length)) != (goodSys Size Sets Costs && coverB Size Sets (allN Sets.length)))) = true → ((false = true))) ∧ ((cond (!((gpL Size Sets Costs) == (gpL Size Sets Costs))) true ((goodSys Size Sets Costs && coverB Size Sets (allN Sets.length)) != (goodSys Size Sets Costs && coverB Size Sets (allN Sets.length)))) = false → (true = true) ∧ (PC Try.prog 57 [.agg [.int .i64 Size, .sl (.rows Sets), .sl (.ints Costs)]] (.one (.d (.agg [.int .i64 Size, .sl (.rows Sets), .sl (.ints Costs)])))) ∧ (PC Try.prog 48 [.agg [.int .i64 Size, .sl (.rows Sets), .sl (.ints Costs)], .agg [.int .i64 Size, .sl (.rows Sets), .sl (.ints Costs)]] (.one (.d (.bool ((Size == Size) && (Sets == Sets) && (Costs == Costs)))))) ∧ (((!((Size == Size) && (Sets == Sets) && (Costs == Costs))) = true → ((false = true))) ∧ ((!((Size == Size) && (Sets == Sets) && (Costs == Costs))) = false → (PG Try.prog 49 [.agg [.any, .rows (Sets.map List.length), .ints Costs.length], .int 1] (1 + ((Sets.map List.length).sum : Int) + (Costs.length : Int))) ∧ ((!(decide ((1 + ((Sets.map List.length).sum : Int) + (Costs.length : Int)) < 0))) = true → (!(decide ((1 + ((Sets.map List.length).sum : Int) + (Costs.length : Int)) < 0))) = true) ∧ ((!(decide ((1 + ((Sets.map List.length).sum : Int) + (Costs.length : Int)) < 0))) = true → (!(decide ((1 + ((Sets.map List.length).sum : Int) + (Costs.length : Int)) < 0))) = true) ∧ (((!(decide ((1 + ((Sets.map List.length).sum : Int) + (Costs.length : Int)) < 0))) = true → (gpL Size Sets Costs).length = (gpL Size Sets Costs).length)) ∧ ((!(decide ((1 + ((Sets.map List.length).sum : Int) + (Costs.length : Int)) < 0))) = true → PC Try.prog 32 [.sl (.ints (gpL Size Sets Costs)), .sl (.ints (gpL Size Sets Costs))] (.one (.d (.bool ((gpL Size Sets Costs) == (gpL Size Sets Costs)))))) ∧ ((!(decide ((1 + ((Sets.map List.length).sum : Int) + (Costs.length : Int)) < 0))) = true → (!(decide ((1 + ((Sets.map List.length).sum : Int) + (Costs.length : Int)) < 0))) = true) ∧ (true = true) ∧ (((decide ((1 + ((Sets.map List.length).sum : Int) + (Costs.length : Int)) < 0)) = true → true = true)) ∧ (((decide ((1 + ((Sets.map List.length).sum : Int) + (Costs.length : Int)) < 0)) = false → (!(decide ((1 + ((Sets.map List.length).sum : Int) + (Costs.length : Int)) < 0))) = true)) ∧ ((!(cond (decide ((1 + ((Sets.map List.length).sum : Int) + (Costs.length : Int)) < 0)) true (!((gpL Size Sets Costs) == (gpL Size Sets Costs))))) = true → (!(cond (decide ((1 + ((Sets.map List.length).sum : Int) + (Costs.length : Int)) < 0)) true (!((gpL Size Sets Costs) == (gpL Size Sets Costs))))) = true) ∧ ((!(cond (decide ((1 + ((Sets.map List.length).sum : Int) + (Costs.length : Int)) < 0)) true (!((gpL Size Sets Costs) == (gpL Size Sets Costs))))) = true → (!(cond (decide ((1 + ((Sets.map List.length).sum : Int) + (Costs.length : Int)) < 0)) true (!((gpL Size Sets Costs) == (gpL Size Sets Costs))))) = true) ∧ (true = true) ∧ (((cond (decide ((1 + ((Sets.map List.length).sum : Int) + (Costs.length : Int)) < 0)) true (!((gpL Size Sets Costs) == (gpL Size Sets Costs)))) = true → true = true)) ∧ (((cond (decide ((1 + ((Sets.map List.length).sum : Int) + (Costs.length : Int)) < 0)) true (!((gpL Size Sets Costs) == (gpL Size Sets Costs)))) = false → (!(cond (decide ((1 + ((Sets.map List.length).sum : Int) + (Costs.length : Int)) < 0)) true (!((gpL Size Sets Costs) == (gpL Size Sets Costs))))) = true)) ∧ (((cond (cond (decide ((1 + ((Sets.map List.length).sum : Int) + (Costs.length : Int)) < 0)) true (!((gpL Size Sets Costs) == (gpL Size Sets Costs)))) true ((goodSys Size Sets Costs && coverB Size Sets (allN Sets.length)) != (goodSys Size Sets Costs && coverB Size Sets (allN Sets.length)))) = true → ((false = true))) ∧ ((cond (cond (decide ((1 + ((Sets.map List.length).sum : Int) + (Costs.length : Int)) < 0)) true (!((gpL Size Sets Costs) == (gpL Size Sets Costs)))) true ((goodSys Size Sets Costs && coverB Size Sets (allN Sets.length)) != (goodSys Size Sets Costs && coverB Size Sets (allN Sets.length)))) = false → ((gpL Size Sets Costs).length = (gpL Size Sets Costs).length) ∧ ((marks 1 (gpL Size Sets Costs).length).length = (gpL Size Sets Costs).length) ∧ (PW Try.prog 35 3 (gpL Size Sets Costs) (marks 1 (gpL Size Sets Costs).length) 1 (1 + ((gpL Size Sets Costs).length : Int))) ∧ ((gpL Size Sets Costs).length = (marks 1 (gpL Size Sets Costs).length).length) ∧ (PC Try.prog 36 [.sl (.ints (marks 1 (gpL Size Sets Costs).length)), .int .i64 1] (.one (.d (.int .i64 (1 + ((marks 1 (gpL Size Sets Costs).length).length : Int)))))) ∧ (((decide ((1 + ((marks 1 (gpL Size Sets Costs).length).length : Int)) < 0)) = true → ((false = true))) ∧ ((decide ((1 + ((marks 1 (gpL Size Sets Costs).length).length : Int)) < 0)) = false → ((((1 + ((marks 1 (gpL Size Sets Costs).length).length : Int)) != (1 + ((gpL Size Sets Costs).length : Int))) = true → ((false = true))) ∧ (((1 + ((marks 1 (gpL Size Sets Costs).length).length : Int)) != (1 + ((gpL Size Sets Costs).length : Int))) = false → (PC Try.prog 57 [.agg [.int .i64 Size, .sl (.rows Sets), .sl (.ints Costs)]] (.one (.d (.agg [.int .i64 Size, .sl (.rows Sets), .sl (.ints Costs)])))) ∧ (PC Try.prog 81 [.agg [.int .i64 Size, .sl (.rows Sets), .sl (.ints Costs)]] (.tup [.own 3 (.ints (gpL Size Sets Costs)), .d (.bool (goodSys Size Sets Costs && coverB Size Sets (allN Sets.length)))])) ∧ ((gpL Size Sets Costs).length = (gpL Size Sets Costs).length) ∧ (PC Try.prog 32 [.sl (.ints (gpL Size Sets Costs)), .sl (.ints (gpL Size Sets Costs))] (.one (.d (.bool ((gpL Size Sets Costs) == (gpL Size Sets Costs)))))) ∧ ((!(!((gpL Size Sets Costs) == (gpL Size Sets Costs)))) = true → (!(!((gpL Size Sets Costs) == (gpL Size Sets Costs)))) = true) ∧ ((!(!((gpL Size Sets Costs) == (gpL Size Sets Costs)))) = true → (!(!((gpL Size Sets Costs) == (gpL Size Sets Costs)))) = true) ∧ (true = true) ∧ (((!((gpL Size Sets Costs) == (gpL Size Sets Costs))) = true → true = true)) ∧ (((!((gpL Size Sets Costs) == (gpL Size Sets Costs))) = false → (!(!((gpL Size Sets Costs) == (gpL Size Sets Costs)))) = true)) ∧ (((cond (!((gpL Size Sets Costs) == (gpL Size Sets Costs))) true ((goodSys Size Sets Costs && coverB Size Sets (allN Sets.length)) != (goodSys Size Sets Costs && coverB Size Sets (allN Sets.length)))) = true → ((false = true))) ∧ ((cond (!((gpL Size Sets Costs) == (gpL Size Sets Costs))) true ((goodSys Size Sets Costs && coverB Size Sets (allN Sets.length)) != (goodSys Size Sets Costs && coverB Size Sets (allN Sets.length)))) = false → ((gpL Size Sets Costs).length = (marks 1 (gpL Size Sets Costs).length).length) ∧ (PC Try.prog 36 [.sl (.ints (marks 1 (gpL Size Sets Costs).length)), .int .i64 1] (.one (.d (.int .i64 (1 + ((marks 1 (gpL Size Sets Costs).length).length : Int)))))) ∧ (((decide ((1 + ((marks 1 (gpL Size Sets Costs).length).length : Int)) < 0)) = true → ((false = true))) ∧ ((decide ((1 + ((marks 1 (gpL Size Sets Costs).length).length : Int)) < 0)) = false → ((((1 + ((marks 1 (gpL Size Sets Costs).length).length : Int)) != (1 + ((gpL Size Sets Costs).length : Int))) = true → ((false = true))) ∧ (((1 + ((marks 1 (gpL Size Sets Costs).length).length : Int)) != (1 + ((gpL Size Sets Costs).length : Int))) = false → ((true = true))))))))))))))))))))
theorem l_FnExactGreedyPrices_vc (Size : Int) (Sets : List (List Int)) (Costs : List Int)  (w_Sets : (Sets.length : Int) ≤ 9223372036854775807) (v_Sets : ∀ x9 ∈ Sets, (x9.length : Int) ≤ 9223372036854775807) (w_Costs : (Costs.length : Int) ≤ 9223372036854775807) : l_FnExactGreedyPrices_P Size Sets Costs := by
  unfold l_FnExactGreedyPrices_P
  refine ⟨?_, ?_, ?_⟩
  · refine l_szSystem_pc Size Sets Costs 1048576 ?_
    · first | omega | rfl | (intro hg; simp only [nrmT] at hg; omega) | (intro g1 g2; simp [g1, g2]; done) | (intro g1; simp at g1 ⊢; simp [g1]; done) | (simp only [nrmT] at *; omega) | (simp at * <;> omega) | (simp_all <;> omega) | (simp_all; done)
  · intro b1
    try simp only [nrmT] at b1
    exact rfl
  · intro b2
    try simp only [nrmT] at b2
    refine ⟨?_, s_GreedyPrices_pc Size Sets Costs, ?_, i_GreedyPrices_pc Size Sets Costs, rfl, l_eqIntS_pc (gpL Size Sets Costs) (gpL Size Sets Costs), id, id, rfl, fun _ => rfl, ?_, ?_, ?_⟩
    · refine l_toSystem_pc Size Sets Costs ?_ ?_ ?_
      · have := szSys_bound b2; omega
      · have h := (szSys_bound b2).2.1
        intro xs hx
        have h := h xs hx
        omega
      · have := szSys_bound b2; omega
    · refine l_toSystem_pc Size Sets Costs ?_ ?_ ?_
      · have := szSys_bound b2; omega
      · have h := (szSys_bound b2).2.1
        intro xs hx
        have h := h xs hx
        omega
      · have := szSys_bound b2; omega
    · intro h; rw [h]; rfl
    · intro b3
      first | (exfalso; simp only [marks_len] at b3; omega) | (simp at b3; done) | (exfalso; simp only [marks_len] at b3; simp at b3; done) | omega | rfl | (intro hg; simp only [nrmT] at hg; omega) | (intro g1 g2; simp [g1, g2]; done) | (intro g1; simp at g1 ⊢; simp [g1]; done) | (simp only [nrmT] at *; omega) | (simp at * <;> omega) | (simp_all <;> omega) | (simp_all; done)
    · intro b4
      refine ⟨rfl, ?_, l_eqSystem_pc Size Sets Costs Size Sets Costs, ?_, ?_⟩
      · refine l_toSystem_pc Size Sets Costs ?_ ?_ ?_
        · have := szSys_bound b2; omega
        · have h := (szSys_bound b2).2.1
          intro xs hx
          have h := h xs hx
          omega
        · have := szSys_bound b2; omega
      · intro b5
        try simp only [Bool.not_eq_true', Bool.not_eq_false', Bool.not_not] at b5
        first | (exfalso; simp only [marks_len] at b5; omega) | (simp at b5; done) | (exfalso; simp only [marks_len] at b5; simp at b5; done) | omega | rfl | (intro hg; simp only [nrmT] at hg; omega) | (intro g1 g2; simp [g1, g2]; done) | (intro g1; simp at g1 ⊢; simp [g1]; done) | (simp only [nrmT] at *; omega) | (simp at * <;> omega) | (simp_all <;> omega) | (simp_all; done)
      · intro b6
        try simp only [Bool.not_eq_true', Bool.not_eq_false', Bool.not_not] at b6
        refine ⟨?_, id, id, fun _ => rfl, fun _ => l_eqIntS_pc (gpL Size Sets Costs) (gpL Size Sets Costs), id, rfl, fun _ => rfl, ?_, id, id, rfl, fun _ => rfl, ?_, ?_, ?_⟩
        · refine laws_markSystem_g_pg (Sets.map List.length) Costs.length 1 ?_ ?_ ?_
          · first | omega | rfl | (intro hg; simp only [nrmT] at hg; omega) | (intro g1 g2; simp [g1, g2]; done) | (intro g1; simp at g1 ⊢; simp [g1]; done) | (simp only [nrmT] at *; omega) | (simp at * <;> omega) | (simp_all <;> omega) | (simp_all; done)
          · rw [List.length_map]; have hz := szSys_bound b2; omega
          · have hz := szSys_bound b2
            have hs := sum_lens20 (xss := Sets) (by omega) (fun xs hx => by have := hz.2.1 xs hx; omega)
            omega
        · first | omega | rfl | (intro hg; simp only [nrmT] at hg; omega) | (intro g1 g2; simp [g1, g2]; done) | (intro g1; simp at g1 ⊢; simp [g1]; done) | (simp only [nrmT] at *; omega) | (simp at * <;> omega) | (simp_all <;> omega) | (simp_all; done)
        · intro h; rw [h]; rfl
        · intro b7
          first | (exfalso; simp only [marks_len] at b7; omega) | (simp at b7; done) | (exfalso; simp only [marks_len] at b7; simp at b7; done) | omega | rfl | (intro hg; simp only [nrmT] at hg; omega) | (intro g1 g2; simp [g1, g2]; done) | (intro g1; simp at g1 ⊢; simp [g1]; done) | (simp only [nrmT] at *; omega) | (simp at * <;> omega) | (simp_all <;> omega) | (simp_all; done)
        · intro b8
          refine ⟨rfl, marks_len _ _, ?_, ?_, ?_, ?_, ?_⟩
          · refine laws_markIntS_w_pw (gpL Size Sets Costs) 1 ?_ ?_
            · first | omega | rfl | (intro hg; simp only [nrmT] at hg; omega) | (intro g1 g2; simp [g1, g2]; done) | (intro g1; simp at g1 ⊢; simp [g1]; done) | (simp only [nrmT] at *; omega) | (simp at * <;> omega) | (simp_all <;> omega) | (simp_all; done)
            · have := @gpL_len Size Sets Costs
              omega
          · simp only [marks_len]
          · refine l_heldIntS_pc (marks 1 (gpL Size Sets Costs).length) 1 ?_ ?_ ?_
            · first | omega | rfl | (intro hg; simp only [nrmT] at hg; omega) | (intro g1 g2; simp [g1, g2]; done) | (intro g1; simp at g1 ⊢; simp [g1]; done) | (simp only [nrmT] at *; omega) | (simp at * <;> omega) | (simp_all <;> omega) | (simp_all; done)
            · simp only [marks_len]
            · simp only [marks_len]
              have := @gpL_len Size Sets Costs
              omega
          · intro b9
            try simp only [nrmT] at b9
            first | (exfalso; simp only [marks_len] at b9; omega) | (simp at b9; done) | (exfalso; simp only [marks_len] at b9; simp at b9; done) | omega | rfl | (intro hg; simp only [nrmT] at hg; omega) | (intro g1 g2; simp [g1, g2]; done) | (intro g1; simp at g1 ⊢; simp [g1]; done) | (simp only [nrmT] at *; omega) | (simp at * <;> omega) | (simp_all <;> omega) | (simp_all; done)
          · intro b10
            try simp only [nrmT] at b10
            refine ⟨?_, ?_⟩
            · intro b11
              try simp only [nrmT] at b11
              first | (exfalso; simp only [marks_len] at b11; omega) | (simp at b11; done) | (exfalso; simp only [marks_len] at b11; simp at b11; done) | omega | rfl | (intro hg; simp only [nrmT] at hg; omega) | (intro g1 g2; simp [g1, g2]; done) | (intro g1; simp at g1 ⊢; simp [g1]; done) | (simp only [nrmT] at *; omega) | (simp at * <;> omega) | (simp_all <;> omega) | (simp_all; done)
            · intro b12
              try simp only [nrmT] at b12
              refine ⟨?_, i_GreedyPrices_pc Size Sets Costs, rfl, l_eqIntS_pc (gpL Size Sets Costs) (gpL Size Sets Costs), id, id, rfl, fun _ => rfl, ?_, ?_, ?_⟩
              · refine l_toSystem_pc Size Sets Costs ?_ ?_ ?_
                · have := szSys_bound b2; omega
                · have h := (szSys_bound b2).2.1
                  intro xs hx
                  have h := h xs hx
                  omega
                · have := szSys_bound b2; omega
              · intro h; rw [h]; rfl
              · intro b13
                first | (exfalso; simp only [marks_len] at b13; omega) | (simp at b13; done) | (exfalso; simp only [marks_len] at b13; simp at b13; done) | omega | rfl | (intro hg; simp only [nrmT] at hg; omega) | (intro g1 g2; simp [g1, g2]; done) | (intro g1; simp at g1 ⊢; simp [g1]; done) | (simp only [nrmT] at *; omega) | (simp at * <;> omega) | (simp_all <;> omega) | (simp_all; done)
              · intro b14
                refine ⟨?_, ?_, ?_, ?_⟩
                · simp only [marks_len]
                · refine l_heldIntS_pc (marks 1 (gpL Size Sets Costs).length) 1 ?_ ?_ ?_
                  · first | omega | rfl | (intro hg; simp only [nrmT] at hg; omega) | (intro g1 g2; simp [g1, g2]; done) | (intro g1; simp at g1 ⊢; simp [g1]; done) | (simp only [nrmT] at *; omega) | (simp at * <;> omega) | (simp_all <;> omega) | (simp_all; done)
                  · simp only [marks_len]
                  · simp only [marks_len]
                    have := @gpL_len Size Sets Costs
                    omega
                · intro b15
                  try simp only [nrmT] at b15
                  first | (exfalso; simp only [marks_len] at b15; omega) | (simp at b15; done) | (exfalso; simp only [marks_len] at b15; simp at b15; done) | omega | rfl | (intro hg; simp only [nrmT] at hg; omega) | (intro g1 g2; simp [g1, g2]; done) | (intro g1; simp at g1 ⊢; simp [g1]; done) | (simp only [nrmT] at *; omega) | (simp at * <;> omega) | (simp_all <;> omega) | (simp_all; done)
                · intro b16
                  try simp only [nrmT] at b16
                  refine ⟨?_, ?_⟩
                  · intro b17
                    try simp only [nrmT] at b17
                    first | (exfalso; simp only [marks_len] at b17; omega) | (simp at b17; done) | (exfalso; simp only [marks_len] at b17; simp at b17; done) | omega | rfl | (intro hg; simp only [nrmT] at hg; omega) | (intro g1 g2; simp [g1, g2]; done) | (intro g1; simp at g1 ⊢; simp [g1]; done) | (simp only [nrmT] at *; omega) | (simp at * <;> omega) | (simp_all <;> omega) | (simp_all; done)
                  · intro b18
                    try simp only [nrmT] at b18
                    exact rfl
theorem l_FnExactGreedyPrices_pc (Size : Int) (Sets : List (List Int)) (Costs : List Int)  : PC Try.prog 21 [.agg [.int .i64 Size, .sl (.rows Sets), .sl (.ints Costs)]] (.one (.d (.bool true))) :=
  pc_wf @Try.call21 fun hw => pc_by (by kernel_rfl) Try.func21 @Try.call21 (by kernel_rfl) l_FnExactGreedyPrices_C (l_FnExactGreedyPrices_A Size Sets Costs) (by kernel_rfl) (l_FnExactGreedyPrices_vc Size Sets Costs hw.1.2.1.1 hw.1.2.1.2 hw.1.2.2.1) (by kernel_rfl)
end Go.Proofs.Ytijdbfbeobflnaa
