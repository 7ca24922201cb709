/- Contracts of the functions that the law reaches. -/
import Derived.Test.YtmmoejdglnnmcaaKMedianValue1
import Derived.KernelRfl
set_option linter.unusedVariables false
set_option linter.unusedSimpArgs false
namespace Go.Proofs.Ytmmoejdglnnmcaa
open Go

def s_l4Best_P (Open : List Int) (Dist : List (List Int)) (k : Int) : Prop :=
  (PC Try.prog 98 [.int .i64 (Open.length : Int)] (.one (.d (.sl (.rows (setsL (Open.length : Int).toNat)))))) ∧ ((∃ best' : List Int, ∃ i' : Int, (s_l4Best_JJ0 Open Dist k best' i') ∧ (k = k) ∧ ((setsL (Open.length : Int).toNat) = (setsL (Open.length : Int).toNat)) ∧ ([] = best') ∧ ((0 : Int) = i') ∧ (Open = Open) ∧ (Dist = Dist)) ∧ (∀ best : List Int, ∀ i : Int, (s_l4Best_JJ0 Open Dist k best i) → (((decide (i < (((setsL (Open.length : Int).toNat).length) : Int))) = true → (true = true) ∧ ((0 : Int) ≤ i) ∧ ((i : Int) < (setsL (Open.length : Int).toNat).length) ∧ (i.toNat < (setsL (Open.length : Int).toNat).length) ∧ (((((setsL (Open.length : Int).toNat).getD i.toNat []).length : Int) == k) = true → ((((setsL (Open.length : Int).toNat).getD i.toNat []).length : Int) == k) = true) ∧ (((((setsL (Open.length : Int).toNat).getD i.toNat []).length : Int) == k) = true → ((((setsL (Open.length : Int).toNat).getD i.toNat []).length : Int) == k) = true) ∧ (((((setsL (Open.length : Int).toNat).getD i.toNat []).length : Int) == k) = true → ((((setsL (Open.length : Int).toNat).getD i.toNat []).length : Int) == k) = true) ∧ ((((((setsL (Open.length : Int).toNat).getD i.toNat []).length : Int) == k) && (!((best.length : Int) == 0))) = true → (((((setsL (Open.length : Int).toNat).getD i.toNat []).length : Int) == k) && (!((best.length : Int) == 0))) = true) ∧ ((((((setsL (Open.length : Int).toNat).getD i.toNat []).length : Int) == k) && (!((best.length : Int) == 0))) = true → (((((setsL (Open.length : Int).toNat).getD i.toNat []).length : Int) == k) && (!((best.length : Int) == 0))) = true) ∧ (((((((setsL (Open.length : Int).toNat).getD i.toNat []).length : Int) == k) && (!((best.length : Int) == 0))) = true → (0 : Int) ≤ i)) ∧ (((((((setsL (Open.length : Int).toNat).getD i.toNat []).length : Int) == k) && (!((best.length : Int) == 0))) = true → (i : Int) < (setsL (Open.length : Int).toNat).length)) ∧ ((((((setsL (Open.length : Int).toNat).getD i.toNat []).length : Int) == k) && (!((best.length : Int) == 0))) = true → (((((setsL (Open.length : Int).toNat).getD i.toNat []).length : Int) == k) && (!((best.length : Int) == 0))) = true) ∧ (((((((setsL (Open.length : Int).toNat).getD i.toNat []).length : Int) == k) && (!((best.length : Int) == 0))) = true → i.toNat < (setsL (Open.length : Int).toNat).length)) ∧ ((((((setsL (Open.length : Int).toNat).getD i.toNat []).length : Int) == k) && (!((best.length : Int) == 0))) = true → (((((setsL (Open.length : Int).toNat).getD i.toNat []).length : Int) == k) && (!((best.length : Int) == 0))) = true) ∧ ((((((setsL (Open.length : Int).toNat).getD i.toNat []).length : Int) == k) && (!((best.length : Int) == 0))) = true → (((((setsL (Open.length : Int).toNat).getD i.toNat []).length : Int) == k) && (!((best.length : Int) == 0))) = true) ∧ ((((((setsL (Open.length : Int).toNat).getD i.toNat []).length : Int) == k) && (!((best.length : Int) == 0))) = true → PC Try.prog 93 [.agg [.sl (.ints Open), .sl (.rows Dist)], .sl (.ints ((setsL (Open.length : Int).toNat).getD i.toNat []))] (.one (.d (.int .i64 (servOf Dist ((setsL (Open.length : Int).toNat).getD i.toNat [])))))) ∧ ((((((setsL (Open.length : Int).toNat).getD i.toNat []).length : Int) == k) && (!((best.length : Int) == 0))) = true → (((((setsL (Open.length : Int).toNat).getD i.toNat []).length : Int) == k) && (!((best.length : Int) == 0))) = true) ∧ ((((((setsL (Open.length : Int).toNat).getD i.toNat []).length : Int) == k) && (!((best.length : Int) == 0))) = true → (((((setsL (Open.length : Int).toNat).getD i.toNat []).length : Int) == k) && (!((best.length : Int) == 0))) = true) ∧ ((((((setsL (Open.length : Int).toNat).getD i.toNat []).length : Int) == k) && (!((best.length : Int) == 0))) = true → PC Try.prog 93 [.agg [.sl (.ints Open), .sl (.rows Dist)], .sl (.ints best)] (.one (.d (.int .i64 (servOf Dist best))))) ∧ ((((((setsL (Open.length : Int).toNat).getD i.toNat []).length : Int) == k) && (!((best.length : Int) == 0))) = true → (((((setsL (Open.length : Int).toNat).getD i.toNat []).length : Int) == k) && (!((best.length : Int) == 0))) = true) ∧ ((((((setsL (Open.length : Int).toNat).getD i.toNat []).length : Int) == k) && (!((best.length : Int) == 0))) = true → (((((setsL (Open.length : Int).toNat).getD i.toNat []).length : Int) == k) && (!((best.length : Int) == 0))) = true) ∧ ((((((setsL (Open.length : Int).toNat).getD i.toNat []).length : Int) == k) = true → ((((setsL (Open.length : Int).toNat).getD i.toNat []).length : Int) == k) = true)) ∧ ((((((setsL (Open.length : Int).toNat).getD i.toNat []).length : Int) == k) = true → ((best.length : Int) == 0) = true → true = true)) ∧ ((((((setsL (Open.length : Int).toNat).getD i.toNat []).length : Int) == k) = true → ((best.length : Int) == 0) = false → (((((setsL (Open.length : Int).toNat).getD i.toNat []).length : Int) == k) && (!((best.length : Int) == 0))) = true)) ∧ (true = true) ∧ ((((((setsL (Open.length : Int).toNat).getD i.toNat []).length : Int) == k) = true → ((((setsL (Open.length : Int).toNat).getD i.toNat []).length : Int) == k) = true)) ∧ ((((((setsL (Open.length : Int).toNat).getD i.toNat []).length : Int) == k) = false → true = true)) ∧ (((cond ((((setsL (Open.length : Int).toNat).getD i.toNat []).length : Int) == k) (cond ((best.length : Int) == 0) true (decide ((servOf Dist ((setsL (Open.length : Int).toNat).getD i.toNat [])) < (servOf Dist best)))) false) = true → ((0 : Int) ≤ i) ∧ ((i : Int) < (setsL (Open.length : Int).toNat).length) ∧ (i.toNat < (setsL (Open.length : Int).toNat).length) ∧ (-9223372036854775808 ≤ (i + 1) ∧ (i + 1) ≤ 9223372036854775807) ∧ (∃ best' : List Int, ∃ i' : Int, (s_l4Best_JJ0 Open Dist k best' i') ∧ (s_l4Best_mJ0 Open Dist k best' i' < s_l4Best_mJ0 Open Dist k best i) ∧ (k = k) ∧ ((setsL (Open.length : Int).toNat) = (setsL (Open.length : Int).toNat)) ∧ (((setsL (Open.length : Int).toNat).getD i.toNat []) = best') ∧ ((i + 1) = i') ∧ (Open = Open) ∧ (Dist = Dist))) ∧ ((cond ((((setsL (Open.length : Int).toNat).getD i.toNat []).length : Int) == k) (cond ((best.length : Int) == 0) true (decide ((servOf Dist ((setsL (Open.length : Int).toNat).getD i.toNat [])) < (servOf Dist best)))) false) = false → (-9223372036854775808 ≤ (i + 1) ∧ (i + 1) ≤ 9223372036854775807) ∧ (∃ best' : List Int, ∃ i' : Int, (s_l4Best_JJ0 Open Dist k best' i') ∧ (s_l4Best_mJ0 Open Dist k best' i' < s_l4Best_mJ0 Open Dist k best i) ∧ (k = k) ∧ ((setsL (Open.length : Int).toNat) = (setsL (Open.length : Int).toNat)) ∧ (best = best') ∧ ((i + 1) = i') ∧ (Open = Open) ∧ (Dist = Dist))))) ∧ ((decide (i < (((setsL (Open.length : Int).toNat).length) : Int))) = false → (((best : List Int) = (medS Open Dist k)))))))
theorem s_l4Best_vc (Open : List Int) (Dist : List (List Int)) (k : Int) (hg : goodField Open Dist = true) (hk : 1 ≤ k ∧ k ≤ (Open.length : Int)) (w_Open : (Open.length : Int) ≤ 9223372036854775807) (w_Dist : (Dist.length : Int) ≤ 9223372036854775807) (v_Dist : ∀ x9 ∈ Dist, (x9.length : Int) ≤ 9223372036854775807) : s_l4Best_P Open Dist k := by
  unfold s_l4Best_P
  obtain ⟨g1, g2, g3⟩ := gf_open hg
  have sl := sets_small (n := (Open.length : Int).toNat) (by omega)
  refine ⟨?_, ?_, ?_⟩
  · refine s_l2Sets_pc (Open.length : Int) ?_
    · omega
  · refine ⟨([]), 0, ?_⟩
    refine ⟨?_, rfl, rfl, ?_, rfl, rfl, rfl⟩
    · refine ⟨?_, ?_, ?_, ?_⟩
      · first | omega | rfl | (intro hg; simp only [nrmT] at hg; omega) | (intro g1 g2; simp [g1, g2]; done) | (intro g1; simp at g1 ⊢; simp [g1]; done) | (simp only [nrmT] at *; omega) | (simp at * <;> omega) | (simp_all <;> omega) | (simp_all; done)
      · first | omega | rfl | (intro hg; simp only [nrmT] at hg; omega) | (intro g1 g2; simp [g1, g2]; done) | (intro g1; simp at g1 ⊢; simp [g1]; done) | (simp only [nrmT] at *; omega) | (simp at * <;> omega) | (simp_all <;> omega) | (simp_all; done)
      · rfl
      · exact .inl rfl
    · first | omega | rfl | (intro hg; simp only [nrmT] at hg; omega) | (intro g1 g2; simp [g1, g2]; done) | (intro g1; simp at g1 ⊢; simp [g1]; done) | (simp only [nrmT] at *; omega) | (simp at * <;> omega) | (simp_all <;> omega) | (simp_all; done)
  · intro best i hJ
    obtain ⟨h1, h2, h3, h4⟩ := hJ
    refine ⟨?_, ?_⟩
    · intro b1
      try simp only [nrmT] at b1
      refine ⟨rfl, ?_, ?_, ?_, id, id, id, id, id, ?_, ?_, id, ?_, id, id, ?_, id, id, ?_, id, id, id, fun _ _ => rfl, ?_, rfl, id, fun _ => rfl, ?_, ?_⟩
      · first | omega | rfl | (intro hg; simp only [nrmT] at hg; omega) | (intro g1 g2; simp [g1, g2]; done) | (intro g1; simp at g1 ⊢; simp [g1]; done) | (simp only [nrmT] at *; omega) | (simp at * <;> omega) | (simp_all <;> omega) | (simp_all; done)
      · first | omega | rfl | (intro hg; simp only [nrmT] at hg; omega) | (intro g1 g2; simp [g1, g2]; done) | (intro g1; simp at g1 ⊢; simp [g1]; done) | (simp only [nrmT] at *; omega) | (simp at * <;> omega) | (simp_all <;> omega) | (simp_all; done)
      · first | omega | rfl | (intro hg; simp only [nrmT] at hg; omega) | (intro g1 g2; simp [g1, g2]; done) | (intro g1; simp at g1 ⊢; simp [g1]; done) | (simp only [nrmT] at *; omega) | (simp at * <;> omega) | (simp_all <;> omega) | (simp_all; done)
      · intro _; omega
      · intro _; omega
      · intro _; omega
      · intro hg
        refine s_l2Serve_pc Open Dist ((setsL (Open.length : Int).toNat).getD i.toNat []) ?_
        · exact (set_two (by assumption) (getD_memI (d := []) h1 (by omega : i < ((setsL (Open.length : Int).toNat).length : Int)))).1
      · intro hg
        refine s_l2Serve_pc Open Dist best ?_
        · rcases h4 with h5 | h5
          · exfalso
            rw [h5] at hg
            simp at hg
          · exact (set_two (by assumption) h5).1
      · intro q1 q2; rw [q1, q2]; rfl
      · intro b2
        refine ⟨?_, ?_, ?_, ?_, ?_⟩
        · first | omega | rfl | (intro hg; simp only [nrmT] at hg; omega) | (intro g1 g2; simp [g1, g2]; done) | (intro g1; simp at g1 ⊢; simp [g1]; done) | (simp only [nrmT] at *; omega) | (simp at * <;> omega) | (simp_all <;> omega) | (simp_all; done)
        · first | omega | rfl | (intro hg; simp only [nrmT] at hg; omega) | (intro g1 g2; simp [g1, g2]; done) | (intro g1; simp at g1 ⊢; simp [g1]; done) | (simp only [nrmT] at *; omega) | (simp at * <;> omega) | (simp_all <;> omega) | (simp_all; done)
        · first | omega | rfl | (intro hg; simp only [nrmT] at hg; omega) | (intro g1 g2; simp [g1, g2]; done) | (intro g1; simp at g1 ⊢; simp [g1]; done) | (simp only [nrmT] at *; omega) | (simp at * <;> omega) | (simp_all <;> omega) | (simp_all; done)
        · first | omega | rfl | (intro hg; simp only [nrmT] at hg; omega) | (intro g1 g2; simp [g1, g2]; done) | (intro g1; simp at g1 ⊢; simp [g1]; done) | (simp only [nrmT] at *; omega) | (simp at * <;> omega) | (simp_all <;> omega) | (simp_all; done)
        · refine ⟨((setsL (Open.length : Int).toNat).getD i.toNat []), (i + 1), ?_⟩
          refine ⟨?_, ?_, rfl, rfl, rfl, rfl, rfl, rfl⟩
          · refine ⟨?_, ?_, ?_, ?_⟩
            · first | omega | rfl | (intro hg; simp only [nrmT] at hg; omega) | (intro g1 g2; simp [g1, g2]; done) | (intro g1; simp at g1 ⊢; simp [g1]; done) | (simp only [nrmT] at *; omega) | (simp at * <;> omega) | (simp_all <;> omega) | (simp_all; done)
            · first | omega | rfl | (intro hg; simp only [nrmT] at hg; omega) | (intro g1 g2; simp [g1, g2]; done) | (intro g1; simp at g1 ⊢; simp [g1]; done) | (simp only [nrmT] at *; omega) | (simp at * <;> omega) | (simp_all <;> omega) | (simp_all; done)
            · rw [fold_snoc (d := []) h1 (by omega), ← h3]; unfold bsB; rw [if_pos b2]
            · exact .inr (getD_memI (d := []) h1 (by omega : i < ((setsL (Open.length : Int).toNat).length : Int)))
          · first | (show _ < _; omega) | (simp only [s_l4Best_mJ0]; omega) | (simp only [s_l4Best_mJ0] at *; simp at *; omega)
      · intro b3
        refine ⟨?_, ?_⟩
        · first | omega | rfl | (intro hg; simp only [nrmT] at hg; omega) | (intro g1 g2; simp [g1, g2]; done) | (intro g1; simp at g1 ⊢; simp [g1]; done) | (simp only [nrmT] at *; omega) | (simp at * <;> omega) | (simp_all <;> omega) | (simp_all; done)
        · refine ⟨best, (i + 1), ?_⟩
          refine ⟨?_, ?_, rfl, rfl, rfl, rfl, rfl, rfl⟩
          · refine ⟨?_, ?_, ?_, ?_⟩
            · first | omega | rfl | (intro hg; simp only [nrmT] at hg; omega) | (intro g1 g2; simp [g1, g2]; done) | (intro g1; simp at g1 ⊢; simp [g1]; done) | (simp only [nrmT] at *; omega) | (simp at * <;> omega) | (simp_all <;> omega) | (simp_all; done)
            · first | omega | rfl | (intro hg; simp only [nrmT] at hg; omega) | (intro g1 g2; simp [g1, g2]; done) | (intro g1; simp at g1 ⊢; simp [g1]; done) | (simp only [nrmT] at *; omega) | (simp at * <;> omega) | (simp_all <;> omega) | (simp_all; done)
            · rw [fold_snoc (d := []) h1 (by omega), ← h3]; unfold bsB; rw [if_neg (by rw [b3]; simp)]
            · exact h4
          · first | (show _ < _; omega) | (simp only [s_l4Best_mJ0]; omega) | (simp only [s_l4Best_mJ0] at *; simp at *; omega)
    · intro b4
      try simp only [nrmT] at b4
      rw [h3, take_all (by omega)]
      exact bestL_eq hk.1 _
theorem s_l4Best_pc (Open : List Int) (Dist : List (List Int)) (k : Int) (hg : goodField Open Dist = true) (hk : 1 ≤ k ∧ k ≤ (Open.length : Int)) : PC Try.prog 94 [.agg [.sl (.ints Open), .sl (.rows Dist)], .int .i64 k] (.one (.d (.sl (.ints (medS Open Dist k))))) :=
  pc_wf @Try.call94 fun hw => pc_by (by kernel_rfl) Try.func94 @Try.call94 (by kernel_rfl) s_l4Best_C (s_l4Best_A Open Dist k) (by kernel_rfl) (s_l4Best_vc Open Dist k hg hk hw.1.1 hw.1.2.1.1 hw.1.2.1.2) (by kernel_rfl)
def s_l4Best_orc : List D → Orc := orcN [none, none] fun ds => match ds with
  | [.agg [.sl (.ints Open), .sl (.rows Dist)], .int .i64 k] => some (.one (.d (.sl (.ints (medS Open Dist k)))))
  | _ => none
def medV (Open : List Int) (Dist : List (List Int)) (k : Int) : Int := if (goodField Open Dist && inB k 1 (Open.length : Int)) = true then servOf Dist (medS Open Dist k) else 0
def s_MedianValue_C (f : FuncId) (ds : List D) : Orc := bif Nat.beq f 92 then s_l4K_orc ds else bif Nat.beq f 94 then s_l4Best_orc ds else bif Nat.beq f 93 then s_l2Serve_orc ds else .no
def s_MedianValue_A (Open : List Int) (Dist : List (List Int)) (k : Int) : Ann := .none
def s_MedianValue_P (Open : List Int) (Dist : List (List Int)) (k : Int) : Prop :=
  (PC Try.prog 92 [.agg [.sl (.ints Open), .sl (.rows Dist)], .int .i64 k] (.one (.d (.bool (goodField Open Dist && inB k 1 (Open.length : Int)))))) ∧ (((!(goodField Open Dist && inB k 1 (Open.length : Int))) = true → (((0 : Int) = (medV Open Dist k)) ∧ (false = (goodField Open Dist && inB k 1 (Open.length : Int))))) ∧ ((!(goodField Open Dist && inB k 1 (Open.length : Int))) = false → (true = true) ∧ (PC Try.prog 94 [.agg [.sl (.ints Open), .sl (.rows Dist)], .int .i64 k] (.one (.d (.sl (.ints (medS Open Dist k)))))) ∧ (PC Try.prog 93 [.agg [.sl (.ints Open), .sl (.rows Dist)], .sl (.ints (medS Open Dist k))] (.one (.d (.int .i64 (servOf Dist (medS Open Dist k)))))) ∧ (((servOf Dist (medS Open Dist k)) = (medV Open Dist k)) ∧ (true = (goodField Open Dist && inB k 1 (Open.length : Int))))))
theorem s_MedianValue_vc (Open : List Int) (Dist : List (List Int)) (k : Int)  (w_Open : (Open.length : Int) ≤ 9223372036854775807) (w_Dist : (Dist.length : Int) ≤ 9223372036854775807) (v_Dist : ∀ x9 ∈ Dist, (x9.length : Int) ≤ 9223372036854775807) : s_MedianValue_P Open Dist k := by
  unfold s_MedianValue_P
  refine ⟨s_l4K_pc Open Dist k, ?_, ?_⟩
  · intro b1
    try simp only [Bool.not_eq_true', Bool.not_eq_false', Bool.not_not] at b1
    refine ⟨?_, ?_⟩
    · have hgk : (goodField Open Dist && inB k 1 (Open.length : Int)) = false := by simpa using b1
      unfold medV; rw [hgk]; rfl
    · have hgk : (goodField Open Dist && inB k 1 (Open.length : Int)) = false := by simpa using b1
      exact hgk.symm
  · intro b2
    try simp only [Bool.not_eq_true', Bool.not_eq_false', Bool.not_not] at b2
    refine ⟨rfl, ?_, ?_, ?_, ?_⟩
    · refine s_l4Best_pc Open Dist k ?_ ?_
      · have hgk : (goodField Open Dist && inB k 1 (Open.length : Int)) = true := by simpa using b2
        obtain ⟨hg, hk⟩ := (Bool.and_eq_true _ _ ▸ hgk : _ ∧ _)
        have hk2 := inB_le hk
        exact hg
      · have hgk : (goodField Open Dist && inB k 1 (Open.length : Int)) = true := by simpa using b2
        obtain ⟨hg, hk⟩ := (Bool.and_eq_true _ _ ▸ hgk : _ ∧ _)
        have hk2 := inB_le hk
        exact hk2
    · refine s_l2Serve_pc Open Dist (medS Open Dist k) ?_
      · have hgk : (goodField Open Dist && inB k 1 (Open.length : Int)) = true := by simpa using b2
        obtain ⟨hg, hk⟩ := (Bool.and_eq_true _ _ ▸ hgk : _ ∧ _)
        have hk2 := inB_le hk
        exact (set_two hg (medS_in hk2)).1
    · have hgk : (goodField Open Dist && inB k 1 (Open.length : Int)) = true := by simpa using b2
      obtain ⟨hg, hk⟩ := (Bool.and_eq_true _ _ ▸ hgk : _ ∧ _)
      have hk2 := inB_le hk
      unfold medV; rw [if_pos hgk]
    · have hgk : (goodField Open Dist && inB k 1 (Open.length : Int)) = true := by simpa using b2
      obtain ⟨hg, hk⟩ := (Bool.and_eq_true _ _ ▸ hgk : _ ∧ _)
      have hk2 := inB_le hk
      exact hgk.symm
theorem s_MedianValue_pc (Open : List Int) (Dist : List (List Int)) (k : Int)  : PC Try.prog 42 [.agg [.sl (.ints Open), .sl (.rows Dist)], .int .i64 k] (.tup [.d (.int .i64 (medV Open Dist k)), .d (.bool (goodField Open Dist && inB k 1 (Open.length : Int)))]) :=
  pc_wf @Try.call42 fun hw => pc_by (by kernel_rfl) Try.func42 @Try.call42 (by kernel_rfl) s_MedianValue_C (s_MedianValue_A Open Dist k) (by kernel_rfl) (s_MedianValue_vc Open Dist k hw.1.1 hw.1.2.1.1 hw.1.2.1.2) (by kernel_rfl)
def s_MedianValue_orc : List D → Orc := orcN [none, none] fun ds => match ds with
  | [.agg [.sl (.ints Open), .sl (.rows Dist)], .int .i64 k] => some (.tup [.d (.int .i64 (medV Open Dist k)), .d (.bool (goodField Open Dist && inB k 1 (Open.length : Int)))])
  | _ => none
def i_MedianValue_C (f : FuncId) (ds : List D) : Orc := bif Nat.beq f 95 then i_isMedianCase_orc ds else bif Nat.beq f 97 then i_Field_median_orc ds else bif Nat.beq f 96 then i_Field_service_orc ds else .no
def i_MedianValue_A (Open : List Int) (Dist : List (List Int)) (k : Int) : Ann := .none
def i_MedianValue_P (Open : List Int) (Dist : List (List Int)) (k : Int) : Prop :=
  (PC Try.prog 95 [.agg [.sl (.ints Open), .sl (.rows Dist)], .int .i64 k] (.one (.d (.bool (goodField Open Dist && inB k 1 (Open.length : Int)))))) ∧ (((!(goodField Open Dist && inB k 1 (Open.length : Int))) = true → (((0 : Int) = (medV Open Dist k)) ∧ (false = (goodField Open Dist && inB k 1 (Open.length : Int))))) ∧ ((!(goodField Open Dist && inB k 1 (Open.length : Int))) = false → (true = true) ∧ (PC Try.prog 97 [.agg [.sl (.ints Open), .sl (.rows Dist)], .int .i64 k] (.one (.d (.sl (.ints (medS Open Dist k)))))) ∧ (PC Try.prog 96 [.agg [.sl (.ints Open), .sl (.rows Dist)], .sl (.ints (medS Open Dist k))] (.one (.d (.int .i64 (servOf Dist (medS Open Dist k)))))) ∧ (((servOf Dist (medS Open Dist k)) = (medV Open Dist k)) ∧ (true = (goodField Open Dist && inB k 1 (Open.length : Int))))))
theorem i_MedianValue_vc (Open : List Int) (Dist : List (List Int)) (k : Int)  (w_Open : (Open.length : Int) ≤ 9223372036854775807) (w_Dist : (Dist.length : Int) ≤ 9223372036854775807) (v_Dist : ∀ x9 ∈ Dist, (x9.length : Int) ≤ 9223372036854775807) : i_MedianValue_P Open Dist k := by
  unfold i_MedianValue_P
  refine ⟨i_isMedianCase_pc Open Dist k, ?_, ?_⟩
  · intro b1
    try simp only [Bool.not_eq_true', Bool.not_eq_false', Bool.not_not] at b1
    refine ⟨?_, ?_⟩
    · have hgk : (goodField Open Dist && inB k 1 (Open.length : Int)) = false := by simpa using b1
      unfold medV; rw [hgk]; rfl
    · have hgk : (goodField Open Dist && inB k 1 (Open.length : Int)) = false := by simpa using b1
      exact hgk.symm
  · intro b2
    try simp only [Bool.not_eq_true', Bool.not_eq_false', Bool.not_not] at b2
    refine ⟨rfl, ?_, ?_, ?_, ?_⟩
    · refine i_Field_median_pc Open Dist k ?_ ?_
      · have hgk : (goodField Open Dist && inB k 1 (Open.length : Int)) = true := by simpa using b2
        obtain ⟨hg, hk⟩ := (Bool.and_eq_true _ _ ▸ hgk : _ ∧ _)
        have hk2 := inB_le hk
        exact hg
      · have hgk : (goodField Open Dist && inB k 1 (Open.length : Int)) = true := by simpa using b2
        obtain ⟨hg, hk⟩ := (Bool.and_eq_true _ _ ▸ hgk : _ ∧ _)
        have hk2 := inB_le hk
        exact hk2
    · refine i_Field_service_pc Open Dist (medS Open Dist k) ?_
      · have hgk : (goodField Open Dist && inB k 1 (Open.length : Int)) = true := by simpa using b2
        obtain ⟨hg, hk⟩ := (Bool.and_eq_true _ _ ▸ hgk : _ ∧ _)
        have hk2 := inB_le hk
        exact (set_two hg (medS_in hk2)).1
    · have hgk : (goodField Open Dist && inB k 1 (Open.length : Int)) = true := by simpa using b2
      obtain ⟨hg, hk⟩ := (Bool.and_eq_true _ _ ▸ hgk : _ ∧ _)
      have hk2 := inB_le hk
      unfold medV; rw [if_pos hgk]
    · have hgk : (goodField Open Dist && inB k 1 (Open.length : Int)) = true := by simpa using b2
      obtain ⟨hg, hk⟩ := (Bool.and_eq_true _ _ ▸ hgk : _ ∧ _)
      have hk2 := inB_le hk
      exact hgk.symm
theorem i_MedianValue_pc (Open : List Int) (Dist : List (List Int)) (k : Int)  : PC Try.prog 43 [.agg [.sl (.ints Open), .sl (.rows Dist)], .int .i64 k] (.tup [.d (.int .i64 (medV Open Dist k)), .d (.bool (goodField Open Dist && inB k 1 (Open.length : Int)))]) :=
  pc_wf @Try.call43 fun hw => pc_by (by kernel_rfl) Try.func43 @Try.call43 (by kernel_rfl) i_MedianValue_C (i_MedianValue_A Open Dist k) (by kernel_rfl) (i_MedianValue_vc Open Dist k hw.1.1 hw.1.2.1.1 hw.1.2.1.2) (by kernel_rfl)
def i_MedianValue_orc : List D → Orc := orcN [none, none] fun ds => match ds with
  | [.agg [.sl (.ints Open), .sl (.rows Dist)], .int .i64 k] => some (.tup [.d (.int .i64 (medV Open Dist k)), .d (.bool (goodField Open Dist && inB k 1 (Open.length : Int)))])
  | _ => none
def l_FnExactMedianValue_C (f : FuncId) (ds : List D) : Orc := bif Nat.beq f 27 then l_szField_orc ds else bif Nat.beq f 29 then l_toField_orc ds else bif Nat.beq f 42 then s_MedianValue_orc ds else bif Nat.beq f 43 then i_MedianValue_orc ds else bif Nat.beq f 32 then l_eqField_orc ds else .no
def l_FnExactMedianValue_A (Open : List Int) (Dist : List (List Int)) (k : Int) : Ann := .two (.none) (.two (.none) (.two (.none) (.two (.none) (.two (.reg [(1, .g)]) (.two (.reg [(1, .g)]) (.two (.none) (.two (.none) (.two (.two (.reg [(2, .g)]) (.none)) (.none)))))))))
def l_FnExactMedianValue_P (Open : List Int) (Dist : List (List Int)) (k : Int) : Prop :=
  (PC Try.prog 27 [.agg [.sl (.ints Open), .sl (.rows Dist)], .int .i64 1048576] (.one (.d (.int .i64 (szField Open Dist 1048576))))) ∧ (((decide ((szField Open Dist 1048576) < 0)) = true → ((true = true))) ∧ ((decide ((szField Open Dist 1048576) < 0)) = false → (PC Try.prog 29 [.agg [.sl (.ints Open), .sl (.rows Dist)]] (.one (.d (.agg [.sl (.ints Open), .sl (.rows Dist)])))) ∧ (PC Try.prog 42 [.agg [.sl (.ints Open), .sl (.rows Dist)], .int .i64 k] (.tup [.d (.int .i64 (medV Open Dist k)), .d (.bool (goodField Open Dist && inB k 1 (Open.length : Int)))])) ∧ (PC Try.prog 29 [.agg [.sl (.ints Open), .sl (.rows Dist)]] (.one (.d (.agg [.sl (.ints Open), .sl (.rows Dist)])))) ∧ (PC Try.prog 43 [.agg [.sl (.ints Open), .sl (.rows Dist)], .int .i64 k] (.tup [.d (.int .i64 (medV Open Dist k)), .d (.bool (goodField Open Dist && inB k 1 (Open.length : Int)))])) ∧ ((!((medV Open Dist k) != (medV Open Dist k))) = true → (!((medV Open Dist k) != (medV Open Dist k))) = true) ∧ ((!((medV Open Dist k) != (medV Open Dist k))) = true → (!((medV Open Dist k) != (medV Open Dist k))) = true) ∧ (true = true) ∧ ((((medV Open Dist k) != (medV Open Dist k)) = true → true = true)) ∧ ((((medV Open Dist k) != (medV Open Dist k)) = false → (!((medV Open Dist k) != (medV Open Dist k))) = true)) ∧ (((cond ((medV Open Dist k) != (medV Open Dist k)) true ((goodField Open Dist && inB k 1 (Open.length : Int)) != (goodField Open Dist && inB k 1 (Open.length : Int)))) = true → ((false = true))) ∧ ((cond ((medV Open Dist k) != (medV Open Dist k)) true ((goodField Open Dist && inB k 1 (Open.length : Int)) != (goodField Open Dist && inB k 1 (Open.length : Int)))) = false → (true = true) ∧ (PC Try.prog 29 [.agg [.sl (.ints Open), .sl (.rows Dist)]] (.one (.d (.agg [.sl (.ints Open), .sl (.rows Dist)])))) ∧ (PC Try.prog 32 [.agg [.sl (.ints Open), .sl (.rows Dist)], .agg [.sl (.ints Open), .sl (.rows Dist)]] (.one (.d (.bool ((Open == Open) && (Dist == Dist)))))) ∧ (((!((Open == Open) && (Dist == Dist))) = true → ((false = true))) ∧ ((!((Open == Open) && (Dist == Dist))) = false → ((true = true))))))))
theorem l_FnExactMedianValue_vc (Open : List Int) (Dist : List (List Int)) (k : Int)  (w_Open : (Open.length : Int) ≤ 9223372036854775807) (w_Dist : (Dist.length : Int) ≤ 9223372036854775807) (v_Dist : ∀ x9 ∈ Dist, (x9.length : Int) ≤ 9223372036854775807) : l_FnExactMedianValue_P Open Dist k := by
  unfold l_FnExactMedianValue_P
  refine ⟨?_, ?_, ?_⟩
  · refine l_szField_pc Open Dist 1048576 ?_
    · first | omega | rfl | (intro hg; simp only [nrmT] at hg; omega) | (intro g1 g2; simp [g1, g2]; done) | (intro g1; simp at g1 ⊢; simp [g1]; done) | (simp only [nrmT] at *; omega) | (simp at * <;> omega) | (simp_all <;> omega) | (simp_all; done)
  · intro b1
    try simp only [nrmT] at b1
    exact rfl
  · intro b2
    try simp only [nrmT] at b2
    refine ⟨?_, s_MedianValue_pc Open Dist k, ?_, i_MedianValue_pc Open Dist k, id, id, rfl, fun _ => rfl, ?_, ?_, ?_⟩
    · refine l_toField_pc Open Dist ?_ ?_ ?_
      · have := szField_bound b2; omega
      · have := szField_bound b2; omega
      · have h := (szField_bound b2).2.2
        intro xs hx
        have h := h xs hx
        omega
    · refine l_toField_pc Open Dist ?_ ?_ ?_
      · have := szField_bound b2; omega
      · have := szField_bound b2; omega
      · have h := (szField_bound b2).2.2
        intro xs hx
        have h := h xs hx
        omega
    · intro h; rw [h]; rfl
    · intro b3
      first | (exfalso; simp only [marks_len] at b3; omega) | (simp at b3; done) | (exfalso; simp only [marks_len] at b3; simp at b3; done) | omega | rfl | (intro hg; simp only [nrmT] at hg; omega) | (intro g1 g2; simp [g1, g2]; done) | (intro g1; simp at g1 ⊢; simp [g1]; done) | (simp only [nrmT] at *; omega) | (simp at * <;> omega) | (simp_all <;> omega) | (simp_all; done)
    · intro b4
      refine ⟨rfl, ?_, l_eqField_pc Open Dist Open Dist, ?_, ?_⟩
      · refine l_toField_pc Open Dist ?_ ?_ ?_
        · have := szField_bound b2; omega
        · have := szField_bound b2; omega
        · have h := (szField_bound b2).2.2
          intro xs hx
          have h := h xs hx
          omega
      · intro b5
        try simp only [Bool.not_eq_true', Bool.not_eq_false', Bool.not_not] at b5
        first | (exfalso; simp only [marks_len] at b5; omega) | (simp at b5; done) | (exfalso; simp only [marks_len] at b5; simp at b5; done) | omega | rfl | (intro hg; simp only [nrmT] at hg; omega) | (intro g1 g2; simp [g1, g2]; done) | (intro g1; simp at g1 ⊢; simp [g1]; done) | (simp only [nrmT] at *; omega) | (simp at * <;> omega) | (simp_all <;> omega) | (simp_all; done)
      · intro b6
        try simp only [Bool.not_eq_true', Bool.not_eq_false', Bool.not_not] at b6
        exact rfl
theorem l_FnExactMedianValue_pc (Open : List Int) (Dist : List (List Int)) (k : Int)  : PC Try.prog 7 [.agg [.sl (.ints Open), .sl (.rows Dist)], .int .i64 k] (.one (.d (.bool true))) :=
  pc_wf @Try.call7 fun hw => pc_by (by kernel_rfl) Try.func7 @Try.call7 (by kernel_rfl) l_FnExactMedianValue_C (l_FnExactMedianValue_A Open Dist k) (by kernel_rfl) (l_FnExactMedianValue_vc Open Dist k hw.1.1 hw.1.2.1.1 hw.1.2.1.2) (by kernel_rfl)
end Go.Proofs.Ytmmoejdglnnmcaa
