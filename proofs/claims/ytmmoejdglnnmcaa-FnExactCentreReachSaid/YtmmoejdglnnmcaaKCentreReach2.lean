/- Contracts of the functions that the law reaches. -/
import Derived.Test.YtmmoejdglnnmcaaKCentreReach1
import Derived.KernelRfl
set_option linter.unusedVariables false
set_option linter.unusedSimpArgs false
namespace Go.Proofs.Ytmmoejdglnnmcaa
open Go

def s_l5Sets_P (Open : List Int) (Dist : List (List Int)) (k : Int) : Prop :=
  (PC Try.prog 98 [.int .i64 (Open.length : Int)] (.one (.d (.sl (.rows (setsL (Open.length : Int).toNat)))))) ∧ ((∃ out' : List (List Int), ∃ i' : Int, (s_l5Sets_JJ0 Open Dist k out' i') ∧ (k = k) ∧ ((0 : Nat) = out'.length) ∧ ((setsL (Open.length : Int).toNat) = (setsL (Open.length : Int).toNat)) ∧ ((0 : Int) = i') ∧ ([] = out')) ∧ (∀ out : List (List Int), ∀ i : Int, (s_l5Sets_JJ0 Open Dist k out i) → (((decide (i < (((setsL (Open.length : Int).toNat).length) : Int))) = true → ((0 : Int) ≤ i) ∧ ((i : Int) < (setsL (Open.length : Int).toNat).length) ∧ (i.toNat < (setsL (Open.length : Int).toNat).length) ∧ (((decide ((((setsL (Open.length : Int).toNat).getD i.toNat []).length : Int) ≤ k)) = true → ((0 : Int) ≤ i) ∧ ((i : Int) < (setsL (Open.length : Int).toNat).length) ∧ (i.toNat < (setsL (Open.length : Int).toNat).length) ∧ (out.length = out.length) ∧ ((1 : Nat) = 1) ∧ ((out.length + 1) * 24 ≤ 140737488355328) ∧ (-9223372036854775808 ≤ (i + 1) ∧ (i + 1) ≤ 9223372036854775807) ∧ (∃ out' : List (List Int), ∃ i' : Int, (s_l5Sets_JJ0 Open Dist k out' i') ∧ (s_l5Sets_mJ0 Open Dist k out' i' < s_l5Sets_mJ0 Open Dist k out i) ∧ (k = k) ∧ ((out.length + 1) = out'.length) ∧ ((setsL (Open.length : Int).toNat) = (setsL (Open.length : Int).toNat)) ∧ ((i + 1) = i') ∧ ((out ++ [((setsL (Open.length : Int).toNat).getD i.toNat [])]) = out'))) ∧ ((decide ((((setsL (Open.length : Int).toNat).getD i.toNat []).length : Int) ≤ k)) = false → (-9223372036854775808 ≤ (i + 1) ∧ (i + 1) ≤ 9223372036854775807) ∧ (∃ out' : List (List Int), ∃ i' : Int, (s_l5Sets_JJ0 Open Dist k out' i') ∧ (s_l5Sets_mJ0 Open Dist k out' i' < s_l5Sets_mJ0 Open Dist k out i) ∧ (k = k) ∧ (out.length = out'.length) ∧ ((setsL (Open.length : Int).toNat) = (setsL (Open.length : Int).toNat)) ∧ ((i + 1) = i') ∧ (out = out'))))) ∧ ((decide (i < (((setsL (Open.length : Int).toNat).length) : Int))) = false → ((out.length = out.length) ∧ ((out : List (List Int)) = (upS Open k)))))))
theorem s_l5Sets_vc (Open : List Int) (Dist : List (List Int)) (k : Int) (hg : goodField Open Dist = true) (hk : 1 ≤ k ∧ k ≤ (Open.length : Int)) (w_Open : (Open.length : Int) ≤ 9223372036854775807) (w_Dist : (Dist.length : Int) ≤ 9223372036854775807) (v_Dist : ∀ x9 ∈ Dist, (x9.length : Int) ≤ 9223372036854775807) : s_l5Sets_P Open Dist k := by
  unfold s_l5Sets_P
  obtain ⟨g1, g2, g3⟩ := gf_open hg
  have sl := sets_small (n := (Open.length : Int).toNat) (by omega)
  refine ⟨?_, ?_, ?_⟩
  · refine s_l2Sets_pc (Open.length : Int) ?_
    · omega
  · refine ⟨([]), 0, ?_⟩
    refine ⟨?_, rfl, rfl, rfl, rfl, ?_⟩
    · refine ⟨?_, ?_, ?_⟩
      · first | omega | rfl | (intro hg; simp only [nrmT] at hg; omega) | (intro g1 g2; simp [g1, g2]; done) | (intro g1; simp at g1 ⊢; simp [g1]; done) | (simp only [nrmT] at *; omega) | (simp at * <;> omega) | (simp_all <;> omega) | (simp_all; done)
      · first | omega | rfl | (intro hg; simp only [nrmT] at hg; omega) | (intro g1 g2; simp [g1, g2]; done) | (intro g1; simp at g1 ⊢; simp [g1]; done) | (simp only [nrmT] at *; omega) | (simp at * <;> omega) | (simp_all <;> omega) | (simp_all; done)
      · rfl
    · first | omega | rfl | (intro hg; simp only [nrmT] at hg; omega) | (intro g1 g2; simp [g1, g2]; done) | (intro g1; simp at g1 ⊢; simp [g1]; done) | (simp only [nrmT] at *; omega) | (simp at * <;> omega) | (simp_all <;> omega) | (simp_all; done)
  · intro out i hJ
    obtain ⟨h1, h2, h3⟩ := hJ
    refine ⟨?_, ?_⟩
    · intro b1
      try simp only [nrmT] at b1
      refine ⟨?_, ?_, ?_, ?_, ?_⟩
      · first | omega | rfl | (intro hg; simp only [nrmT] at hg; omega) | (intro g1 g2; simp [g1, g2]; done) | (intro g1; simp at g1 ⊢; simp [g1]; done) | (simp only [nrmT] at *; omega) | (simp at * <;> omega) | (simp_all <;> omega) | (simp_all; done)
      · first | omega | rfl | (intro hg; simp only [nrmT] at hg; omega) | (intro g1 g2; simp [g1, g2]; done) | (intro g1; simp at g1 ⊢; simp [g1]; done) | (simp only [nrmT] at *; omega) | (simp at * <;> omega) | (simp_all <;> omega) | (simp_all; done)
      · first | omega | rfl | (intro hg; simp only [nrmT] at hg; omega) | (intro g1 g2; simp [g1, g2]; done) | (intro g1; simp at g1 ⊢; simp [g1]; done) | (simp only [nrmT] at *; omega) | (simp at * <;> omega) | (simp_all <;> omega) | (simp_all; done)
      · intro b2
        try simp only [nrmT] at b2
        refine ⟨?_, ?_, ?_, rfl, rfl, ?_, ?_, ?_⟩
        · first | omega | rfl | (intro hg; simp only [nrmT] at hg; omega) | (intro g1 g2; simp [g1, g2]; done) | (intro g1; simp at g1 ⊢; simp [g1]; done) | (simp only [nrmT] at *; omega) | (simp at * <;> omega) | (simp_all <;> omega) | (simp_all; done)
        · first | omega | rfl | (intro hg; simp only [nrmT] at hg; omega) | (intro g1 g2; simp [g1, g2]; done) | (intro g1; simp at g1 ⊢; simp [g1]; done) | (simp only [nrmT] at *; omega) | (simp at * <;> omega) | (simp_all <;> omega) | (simp_all; done)
        · first | omega | rfl | (intro hg; simp only [nrmT] at hg; omega) | (intro g1 g2; simp [g1, g2]; done) | (intro g1; simp at g1 ⊢; simp [g1]; done) | (simp only [nrmT] at *; omega) | (simp at * <;> omega) | (simp_all <;> omega) | (simp_all; done)
        · have := List.length_filter_le (fun x9 : List Int => !(decide ((x9.length : Int) > k))) ((setsL (Open.length : Int).toNat).take i.toNat)
          rw [← h3, List.length_take] at this
          omega
        · first | omega | rfl | (intro hg; simp only [nrmT] at hg; omega) | (intro g1 g2; simp [g1, g2]; done) | (intro g1; simp at g1 ⊢; simp [g1]; done) | (simp only [nrmT] at *; omega) | (simp at * <;> omega) | (simp_all <;> omega) | (simp_all; done)
        · refine ⟨(out ++ [((setsL (Open.length : Int).toNat).getD i.toNat [])]), (i + 1), ?_⟩
          refine ⟨?_, ?_, rfl, ?_, rfl, rfl, rfl⟩
          · refine ⟨?_, ?_, ?_⟩
            · first | omega | rfl | (intro hg; simp only [nrmT] at hg; omega) | (intro g1 g2; simp [g1, g2]; done) | (intro g1; simp at g1 ⊢; simp [g1]; done) | (simp only [nrmT] at *; omega) | (simp at * <;> omega) | (simp_all <;> omega) | (simp_all; done)
            · first | omega | rfl | (intro hg; simp only [nrmT] at hg; omega) | (intro g1 g2; simp [g1, g2]; done) | (intro g1; simp at g1 ⊢; simp [g1]; done) | (simp only [nrmT] at *; omega) | (simp at * <;> omega) | (simp_all <;> omega) | (simp_all; done)
            · rw [filter_step h1 (by omega), ← h3, if_pos (by rw [decide_eq_false (by omega)]; rfl)]
          · first | (show _ < _; omega) | (simp only [s_l5Sets_mJ0]; omega) | (simp only [s_l5Sets_mJ0] at *; simp at *; omega)
          · first | omega | rfl | (intro hg; simp only [nrmT] at hg; omega) | (intro g1 g2; simp [g1, g2]; done) | (intro g1; simp at g1 ⊢; simp [g1]; done) | (simp only [nrmT] at *; omega) | (simp at * <;> omega) | (simp_all <;> omega) | (simp_all; done)
      · intro b3
        try simp only [nrmT] at b3
        refine ⟨?_, ?_⟩
        · first | omega | rfl | (intro hg; simp only [nrmT] at hg; omega) | (intro g1 g2; simp [g1, g2]; done) | (intro g1; simp at g1 ⊢; simp [g1]; done) | (simp only [nrmT] at *; omega) | (simp at * <;> omega) | (simp_all <;> omega) | (simp_all; done)
        · refine ⟨out, (i + 1), ?_⟩
          refine ⟨?_, ?_, rfl, rfl, rfl, rfl, rfl⟩
          · refine ⟨?_, ?_, ?_⟩
            · first | omega | rfl | (intro hg; simp only [nrmT] at hg; omega) | (intro g1 g2; simp [g1, g2]; done) | (intro g1; simp at g1 ⊢; simp [g1]; done) | (simp only [nrmT] at *; omega) | (simp at * <;> omega) | (simp_all <;> omega) | (simp_all; done)
            · first | omega | rfl | (intro hg; simp only [nrmT] at hg; omega) | (intro g1 g2; simp [g1, g2]; done) | (intro g1; simp at g1 ⊢; simp [g1]; done) | (simp only [nrmT] at *; omega) | (simp at * <;> omega) | (simp_all <;> omega) | (simp_all; done)
            · rw [filter_step h1 (by omega), ← h3, if_neg (by rw [decide_eq_true (by omega)]; simp)]
          · first | (show _ < _; omega) | (simp only [s_l5Sets_mJ0]; omega) | (simp only [s_l5Sets_mJ0] at *; simp at *; omega)
    · intro b4
      try simp only [nrmT] at b4
      refine ⟨rfl, ?_⟩
      · rw [h3, take_all (by omega)]; rfl
theorem s_l5Sets_pc (Open : List Int) (Dist : List (List Int)) (k : Int) (hg : goodField Open Dist = true) (hk : 1 ≤ k ∧ k ≤ (Open.length : Int)) : PC Try.prog 120 [.agg [.sl (.ints Open), .sl (.rows Dist)], .int .i64 k] (.one (.d (.sl (.rows (upS Open k))))) :=
  pc_wf @Try.call120 fun hw => pc_by (by kernel_rfl) Try.func120 @Try.call120 (by kernel_rfl) s_l5Sets_C (s_l5Sets_A Open Dist k) (by kernel_rfl) (s_l5Sets_vc Open Dist k hg hk hw.1.1 hw.1.2.1.1 hw.1.2.1.2) (by kernel_rfl)
def s_l5Sets_orc : List D → Orc := orcN [none, none] fun ds => match ds with
  | [.agg [.sl (.ints Open), .sl (.rows Dist)], .int .i64 k] => some (.one (.d (.sl (.rows (upS Open k)))))
  | _ => none
abbrev s_l5Best_JJ0 (Open : List Int) (Dist : List (List Int)) (k : Int) (best : List Int) (i : Int) : Prop := (1 ≤ i) ∧ (i ≤ ((upS Open k).length : Int)) ∧ (best ∈ upS Open k) ∧ (best = ((upS Open k).take i.toNat).foldl (lsB (rchOf Dist)) ((upS Open k).getD 0 []))
abbrev s_l5Best_mJ0 (Open : List Int) (Dist : List (List Int)) (k : Int) (best : List Int) (i : Int) : Nat := ((upS Open k).length - i).toNat
def s_l5Best_C (f : FuncId) (ds : List D) : Orc := bif Nat.beq f 120 then s_l5Sets_orc ds else bif Nat.beq f 99 then s_l2Far_orc ds else .no
def s_l5Best_A (Open : List Int) (Dist : List (List Int)) (k : Int) : Ann := .two (.none) (.two (.none) (.two (.none) (.two (.two (.none) (.loop (cut2 (fun (best : List Int) (i : Int) => s_l5Best_JJ0 Open Dist k best i) (fun (best : List Int) (i : Int) => [(2, .ptr 2 0), (5, .d true (.sl (.rows (upS Open k)))), (6, .d true (.sl (.ints best))), (7, .d true (.int .i64 i))]) (fun (best : List Int) (i : Int) => [(2, .box 37 [.d false (.sl (.ints Open)), .d false (.sl (.rows Dist))])])) (fun g => s_l5Best_mJ0 Open Dist k g.1 g.2) (fun _ => .none))) (.none))))
def s_l5Best_P (Open : List Int) (Dist : List (List Int)) (k : Int) : Prop :=
  (PC Try.prog 120 [.agg [.sl (.ints Open), .sl (.rows Dist)], .int .i64 k] (.one (.d (.sl (.rows (upS Open k)))))) ∧ ((0 : Int) ≤ 0) ∧ ((0 : Int) < (upS Open k).length) ∧ (0 < (upS Open k).length) ∧ ((∃ best' : List Int, ∃ i' : Int, (s_l5Best_JJ0 Open Dist k best' i') ∧ ((upS Open k) = (upS Open k)) ∧ (((upS Open k).getD 0 []) = best') ∧ ((1 : Int) = i') ∧ (Open = Open) ∧ (Dist = Dist)) ∧ (∀ best : List Int, ∀ i : Int, (s_l5Best_JJ0 Open Dist k best i) → (((decide (i < (((upS Open k).length) : Int))) = true → (true = true) ∧ ((0 : Int) ≤ i) ∧ ((i : Int) < (upS Open k).length) ∧ (i.toNat < (upS Open k).length) ∧ (PC Try.prog 99 [.agg [.sl (.ints Open), .sl (.rows Dist)], .sl (.ints ((upS Open k).getD i.toNat []))] (.one (.d (.int .i64 (rchOf Dist ((upS Open k).getD i.toNat [])))))) ∧ (PC Try.prog 99 [.agg [.sl (.ints Open), .sl (.rows Dist)], .sl (.ints best)] (.one (.d (.int .i64 (rchOf Dist best))))) ∧ (((decide ((rchOf Dist ((upS Open k).getD i.toNat [])) < (rchOf Dist best))) = true → ((0 : Int) ≤ i) ∧ ((i : Int) < (upS Open k).length) ∧ (i.toNat < (upS Open k).length) ∧ (-9223372036854775808 ≤ (i + 1) ∧ (i + 1) ≤ 9223372036854775807) ∧ (∃ best' : List Int, ∃ i' : Int, (s_l5Best_JJ0 Open Dist k best' i') ∧ (s_l5Best_mJ0 Open Dist k best' i' < s_l5Best_mJ0 Open Dist k best i) ∧ ((upS Open k) = (upS Open k)) ∧ (((upS Open k).getD i.toNat []) = best') ∧ ((i + 1) = i') ∧ (Open = Open) ∧ (Dist = Dist))) ∧ ((decide ((rchOf Dist ((upS Open k).getD i.toNat [])) < (rchOf Dist best))) = false → (-9223372036854775808 ≤ (i + 1) ∧ (i + 1) ≤ 9223372036854775807) ∧ (∃ best' : List Int, ∃ i' : Int, (s_l5Best_JJ0 Open Dist k best' i') ∧ (s_l5Best_mJ0 Open Dist k best' i' < s_l5Best_mJ0 Open Dist k best i) ∧ ((upS Open k) = (upS Open k)) ∧ (best = best') ∧ ((i + 1) = i') ∧ (Open = Open) ∧ (Dist = Dist))))) ∧ ((decide (i < (((upS Open k).length) : Int))) = false → (((best : List Int) = (cenS Open Dist k)))))))
theorem s_l5Best_vc (Open : List Int) (Dist : List (List Int)) (k : Int) (hg : goodField Open Dist = true) (hk : 1 ≤ k ∧ k ≤ (Open.length : Int)) (w_Open : (Open.length : Int) ≤ 9223372036854775807) (w_Dist : (Dist.length : Int) ≤ 9223372036854775807) (v_Dist : ∀ x9 ∈ Dist, (x9.length : Int) ≤ 9223372036854775807) : s_l5Best_P Open Dist k := by
  unfold s_l5Best_P
  obtain ⟨g1, g2, g3⟩ := gf_open hg
  have up := upS_pos (k := k) hk
  have ul := upS_len hg (k := k)
  refine ⟨?_, ?_, ?_, ?_, ?_, ?_⟩
  · refine s_l5Sets_pc Open Dist k ?_ ?_
    · first | omega | rfl | (intro hg; simp only [nrmT] at hg; omega) | (intro g1 g2; simp [g1, g2]; done) | (intro g1; simp at g1 ⊢; simp [g1]; done) | (simp only [nrmT] at *; omega) | (simp at * <;> omega) | (simp_all <;> omega) | (simp_all; done)
    · first | omega | rfl | (intro hg; simp only [nrmT] at hg; omega) | (intro g1 g2; simp [g1, g2]; done) | (intro g1; simp at g1 ⊢; simp [g1]; done) | (simp only [nrmT] at *; omega) | (simp at * <;> omega) | (simp_all <;> omega) | (simp_all; done)
  · first | omega | rfl | (intro hg; simp only [nrmT] at hg; omega) | (intro g1 g2; simp [g1, g2]; done) | (intro g1; simp at g1 ⊢; simp [g1]; done) | (simp only [nrmT] at *; omega) | (simp at * <;> omega) | (simp_all <;> omega) | (simp_all; done)
  · first | omega | rfl | (intro hg; simp only [nrmT] at hg; omega) | (intro g1 g2; simp [g1, g2]; done) | (intro g1; simp at g1 ⊢; simp [g1]; done) | (simp only [nrmT] at *; omega) | (simp at * <;> omega) | (simp_all <;> omega) | (simp_all; done)
  · first | omega | rfl | (intro hg; simp only [nrmT] at hg; omega) | (intro g1 g2; simp [g1, g2]; done) | (intro g1; simp at g1 ⊢; simp [g1]; done) | (simp only [nrmT] at *; omega) | (simp at * <;> omega) | (simp_all <;> omega) | (simp_all; done)
  · refine ⟨((upS Open k).getD 0 []), 1, ?_⟩
    refine ⟨?_, rfl, rfl, rfl, rfl, rfl⟩
    · refine ⟨?_, ?_, ?_, ?_⟩
      · first | omega | rfl | (intro hg; simp only [nrmT] at hg; omega) | (intro g1 g2; simp [g1, g2]; done) | (intro g1; simp at g1 ⊢; simp [g1]; done) | (simp only [nrmT] at *; omega) | (simp at * <;> omega) | (simp_all <;> omega) | (simp_all; done)
      · first | omega | rfl | (intro hg; simp only [nrmT] at hg; omega) | (intro g1 g2; simp [g1, g2]; done) | (intro g1; simp at g1 ⊢; simp [g1]; done) | (simp only [nrmT] at *; omega) | (simp at * <;> omega) | (simp_all <;> omega) | (simp_all; done)
      · exact getD_mem up
      · exact (leastL_one up).symm
  · intro best i hJ
    obtain ⟨h1, h2, h3, h4⟩ := hJ
    refine ⟨?_, ?_⟩
    · intro b1
      try simp only [nrmT] at b1
      refine ⟨rfl, ?_, ?_, ?_, ?_, ?_, ?_, ?_⟩
      · first | omega | rfl | (intro hg; simp only [nrmT] at hg; omega) | (intro g1 g2; simp [g1, g2]; done) | (intro g1; simp at g1 ⊢; simp [g1]; done) | (simp only [nrmT] at *; omega) | (simp at * <;> omega) | (simp_all <;> omega) | (simp_all; done)
      · first | omega | rfl | (intro hg; simp only [nrmT] at hg; omega) | (intro g1 g2; simp [g1, g2]; done) | (intro g1; simp at g1 ⊢; simp [g1]; done) | (simp only [nrmT] at *; omega) | (simp at * <;> omega) | (simp_all <;> omega) | (simp_all; done)
      · first | omega | rfl | (intro hg; simp only [nrmT] at hg; omega) | (intro g1 g2; simp [g1, g2]; done) | (intro g1; simp at g1 ⊢; simp [g1]; done) | (simp only [nrmT] at *; omega) | (simp at * <;> omega) | (simp_all <;> omega) | (simp_all; done)
      · refine s_l2Far_pc Open Dist ((upS Open k).getD i.toNat []) ?_
        · exact (set_two hg (upS_mem (getD_memI (by omega) (by omega)))).1
      · refine s_l2Far_pc Open Dist best ?_
        · exact (set_two hg (upS_mem (h3))).1
      · intro b2
        try simp only [nrmT] at b2
        refine ⟨?_, ?_, ?_, ?_, ?_⟩
        · first | omega | rfl | (intro hg; simp only [nrmT] at hg; omega) | (intro g1 g2; simp [g1, g2]; done) | (intro g1; simp at g1 ⊢; simp [g1]; done) | (simp only [nrmT] at *; omega) | (simp at * <;> omega) | (simp_all <;> omega) | (simp_all; done)
        · first | omega | rfl | (intro hg; simp only [nrmT] at hg; omega) | (intro g1 g2; simp [g1, g2]; done) | (intro g1; simp at g1 ⊢; simp [g1]; done) | (simp only [nrmT] at *; omega) | (simp at * <;> omega) | (simp_all <;> omega) | (simp_all; done)
        · first | omega | rfl | (intro hg; simp only [nrmT] at hg; omega) | (intro g1 g2; simp [g1, g2]; done) | (intro g1; simp at g1 ⊢; simp [g1]; done) | (simp only [nrmT] at *; omega) | (simp at * <;> omega) | (simp_all <;> omega) | (simp_all; done)
        · first | omega | rfl | (intro hg; simp only [nrmT] at hg; omega) | (intro g1 g2; simp [g1, g2]; done) | (intro g1; simp at g1 ⊢; simp [g1]; done) | (simp only [nrmT] at *; omega) | (simp at * <;> omega) | (simp_all <;> omega) | (simp_all; done)
        · refine ⟨((upS Open k).getD i.toNat []), (i + 1), ?_⟩
          refine ⟨?_, ?_, rfl, rfl, rfl, rfl, rfl⟩
          · refine ⟨?_, ?_, ?_, ?_⟩
            · first | omega | rfl | (intro hg; simp only [nrmT] at hg; omega) | (intro g1 g2; simp [g1, g2]; done) | (intro g1; simp at g1 ⊢; simp [g1]; done) | (simp only [nrmT] at *; omega) | (simp at * <;> omega) | (simp_all <;> omega) | (simp_all; done)
            · first | omega | rfl | (intro hg; simp only [nrmT] at hg; omega) | (intro g1 g2; simp [g1, g2]; done) | (intro g1; simp at g1 ⊢; simp [g1]; done) | (simp only [nrmT] at *; omega) | (simp at * <;> omega) | (simp_all <;> omega) | (simp_all; done)
            · exact getD_memI (by omega) (by omega)
            · rw [fold_snoc (d := []) (by omega) (by omega), ← h4]; unfold lsB; rw [if_pos b2]
          · first | (show _ < _; omega) | (simp only [s_l5Best_mJ0]; omega) | (simp only [s_l5Best_mJ0] at *; simp at *; omega)
      · intro b3
        try simp only [nrmT] at b3
        refine ⟨?_, ?_⟩
        · first | omega | rfl | (intro hg; simp only [nrmT] at hg; omega) | (intro g1 g2; simp [g1, g2]; done) | (intro g1; simp at g1 ⊢; simp [g1]; done) | (simp only [nrmT] at *; omega) | (simp at * <;> omega) | (simp_all <;> omega) | (simp_all; done)
        · refine ⟨best, (i + 1), ?_⟩
          refine ⟨?_, ?_, rfl, rfl, rfl, rfl, rfl⟩
          · refine ⟨?_, ?_, ?_, ?_⟩
            · first | omega | rfl | (intro hg; simp only [nrmT] at hg; omega) | (intro g1 g2; simp [g1, g2]; done) | (intro g1; simp at g1 ⊢; simp [g1]; done) | (simp only [nrmT] at *; omega) | (simp at * <;> omega) | (simp_all <;> omega) | (simp_all; done)
            · first | omega | rfl | (intro hg; simp only [nrmT] at hg; omega) | (intro g1 g2; simp [g1, g2]; done) | (intro g1; simp at g1 ⊢; simp [g1]; done) | (simp only [nrmT] at *; omega) | (simp at * <;> omega) | (simp_all <;> omega) | (simp_all; done)
            · exact h3
            · rw [fold_snoc (d := []) (by omega) (by omega), ← h4]; unfold lsB; rw [if_neg (by omega)]
          · first | (show _ < _; omega) | (simp only [s_l5Best_mJ0]; omega) | (simp only [s_l5Best_mJ0] at *; simp at *; omega)
    · intro b4
      try simp only [nrmT] at b4
      rw [h4, take_all (by omega)]; rfl
theorem s_l5Best_pc (Open : List Int) (Dist : List (List Int)) (k : Int) (hg : goodField Open Dist = true) (hk : 1 ≤ k ∧ k ≤ (Open.length : Int)) : PC Try.prog 108 [.agg [.sl (.ints Open), .sl (.rows Dist)], .int .i64 k] (.one (.d (.sl (.ints (cenS Open Dist k))))) :=
  pc_wf @Try.call108 fun hw => pc_by (by kernel_rfl) Try.func108 @Try.call108 (by kernel_rfl) s_l5Best_C (s_l5Best_A Open Dist k) (by kernel_rfl) (s_l5Best_vc Open Dist k hg hk hw.1.1 hw.1.2.1.1 hw.1.2.1.2) (by kernel_rfl)
def s_l5Best_orc : List D → Orc := orcN [none, none] fun ds => match ds with
  | [.agg [.sl (.ints Open), .sl (.rows Dist)], .int .i64 k] => some (.one (.d (.sl (.ints (cenS Open Dist k)))))
  | _ => none
def i_BestCentres_C (f : FuncId) (ds : List D) : Orc := bif Nat.beq f 95 then i_isMedianCase_orc ds else bif Nat.beq f 122 then i_Field_upTo_orc ds else bif Nat.beq f 111 then i_least_rch_orc ds else .no
def i_BestCentres_A (Open : List Int) (Dist : List (List Int)) (k : Int) : Ann := .none
def i_BestCentres_P (Open : List Int) (Dist : List (List Int)) (k : Int) : Prop :=
  (PC Try.prog 95 [.agg [.sl (.ints Open), .sl (.rows Dist)], .int .i64 k] (.one (.d (.bool (goodField Open Dist && inB k 1 (Open.length : Int)))))) ∧ (((!(goodField Open Dist && inB k 1 (Open.length : Int))) = true → (((cenL Open Dist k).length = 0) ∧ (false = (goodField Open Dist && inB k 1 (Open.length : Int))))) ∧ ((!(goodField Open Dist && inB k 1 (Open.length : Int))) = false → (true = true) ∧ (PC Try.prog 122 [.agg [.sl (.ints Open), .sl (.rows Dist)], .int .i64 k] (.one (.d (.sl (.rows (upS Open k)))))) ∧ (PCs Try.prog 111 [.sl (.rows (upS Open k)), .fn 103 1 [.agg [.sl (.ints Open), .sl (.rows Dist)]]] 0 (.sl (.ints (leastL (rchOf Dist) (upS Open k))))) ∧ ((((leastL (rchOf Dist) (upS Open k)) : List Int) = (cenL Open Dist k)) ∧ (true = (goodField Open Dist && inB k 1 (Open.length : Int))))))
theorem i_BestCentres_vc (Open : List Int) (Dist : List (List Int)) (k : Int)  (w_Open : (Open.length : Int) ≤ 9223372036854775807) (w_Dist : (Dist.length : Int) ≤ 9223372036854775807) (v_Dist : ∀ x9 ∈ Dist, (x9.length : Int) ≤ 9223372036854775807) : i_BestCentres_P Open Dist k := by
  unfold i_BestCentres_P
  refine ⟨i_isMedianCase_pc Open Dist k, ?_, ?_⟩
  · intro b1
    try simp only [Bool.not_eq_true', Bool.not_eq_false', Bool.not_not] at b1
    refine ⟨?_, ?_⟩
    · have hgk : (goodField Open Dist && inB k 1 (Open.length : Int)) = false := by simpa using b1
      unfold cenL; rw [hgk]; rfl
    · have hgk : (goodField Open Dist && inB k 1 (Open.length : Int)) = false := by simpa using b1
      exact hgk.symm
  · intro b2
    try simp only [Bool.not_eq_true', Bool.not_eq_false', Bool.not_not] at b2
    refine ⟨rfl, ?_, ?_, ?_, ?_⟩
    · refine i_Field_upTo_pc Open Dist k ?_ ?_
      · have hgk : (goodField Open Dist && inB k 1 (Open.length : Int)) = true := by simpa using b2
        obtain ⟨hg, hk⟩ := (Bool.and_eq_true _ _ ▸ hgk : _ ∧ _)
        have hk2 := inB_le hk
        exact hg
      · have hgk : (goodField Open Dist && inB k 1 (Open.length : Int)) = true := by simpa using b2
        obtain ⟨hg, hk⟩ := (Bool.and_eq_true _ _ ▸ hgk : _ ∧ _)
        have hk2 := inB_le hk
        exact hk2
    · refine i_least_rch_pc (upS Open k) Open Dist ?_ ?_
      · have hgk : (goodField Open Dist && inB k 1 (Open.length : Int)) = true := by simpa using b2
        obtain ⟨hg, hk⟩ := (Bool.and_eq_true _ _ ▸ hgk : _ ∧ _)
        have hk2 := inB_le hk
        exact upS_pos hk2
      · have hgk : (goodField Open Dist && inB k 1 (Open.length : Int)) = true := by simpa using b2
        obtain ⟨hg, hk⟩ := (Bool.and_eq_true _ _ ▸ hgk : _ ∧ _)
        have hk2 := inB_le hk
        intro s hs
        exact (set_two hg (upS_mem (hs))).1
    · have hgk : (goodField Open Dist && inB k 1 (Open.length : Int)) = true := by simpa using b2
      obtain ⟨hg, hk⟩ := (Bool.and_eq_true _ _ ▸ hgk : _ ∧ _)
      have hk2 := inB_le hk
      unfold cenL; rw [if_pos hgk]; try rfl
    · have hgk : (goodField Open Dist && inB k 1 (Open.length : Int)) = true := by simpa using b2
      obtain ⟨hg, hk⟩ := (Bool.and_eq_true _ _ ▸ hgk : _ ∧ _)
      have hk2 := inB_le hk
      exact hgk.symm
theorem i_BestCentres_pc (Open : List Int) (Dist : List (List Int)) (k : Int)  : PC Try.prog 65 [.agg [.sl (.ints Open), .sl (.rows Dist)], .int .i64 k] (.tup [.d (.sl (.ints (cenL Open Dist k))), .d (.bool (goodField Open Dist && inB k 1 (Open.length : Int)))]) :=
  pc_wf @Try.call65 fun hw => pc_by (by kernel_rfl) Try.func65 @Try.call65 (by kernel_rfl) i_BestCentres_C (i_BestCentres_A Open Dist k) (by kernel_rfl) (i_BestCentres_vc Open Dist k hw.1.1 hw.1.2.1.1 hw.1.2.1.2) (by kernel_rfl)
def i_BestCentres_orc : List D → Orc := orcN [none, none] fun ds => match ds with
  | [.agg [.sl (.ints Open), .sl (.rows Dist)], .int .i64 k] => some (.tup [.d (.sl (.ints (cenL Open Dist k))), .d (.bool (goodField Open Dist && inB k 1 (Open.length : Int)))])
  | _ => none
def s_CentreReach_C (f : FuncId) (ds : List D) : Orc := bif Nat.beq f 107 then s_l5Ask_orc ds else bif Nat.beq f 108 then s_l5Best_orc ds else bif Nat.beq f 99 then s_l2Far_orc ds else .no
def s_CentreReach_A (Open : List Int) (Dist : List (List Int)) (k : Int) : Ann := .none
def s_CentreReach_P (Open : List Int) (Dist : List (List Int)) (k : Int) : Prop :=
  (PC Try.prog 107 [.agg [.sl (.ints Open), .sl (.rows Dist)], .int .i64 k] (.one (.d (.bool (goodField Open Dist && inB k 1 (Open.length : Int)))))) ∧ (((!(goodField Open Dist && inB k 1 (Open.length : Int))) = true → (((0 : Int) = (creL Open Dist k)) ∧ (false = (goodField Open Dist && inB k 1 (Open.length : Int))))) ∧ ((!(goodField Open Dist && inB k 1 (Open.length : Int))) = false → (true = true) ∧ (PC Try.prog 108 [.agg [.sl (.ints Open), .sl (.rows Dist)], .int .i64 k] (.one (.d (.sl (.ints (cenS Open Dist k)))))) ∧ (PC Try.prog 99 [.agg [.sl (.ints Open), .sl (.rows Dist)], .sl (.ints (cenS Open Dist k))] (.one (.d (.int .i64 (rchOf Dist (cenS Open Dist k)))))) ∧ (((rchOf Dist (cenS Open Dist k)) = (creL Open Dist k)) ∧ (true = (goodField Open Dist && inB k 1 (Open.length : Int))))))
theorem s_CentreReach_vc (Open : List Int) (Dist : List (List Int)) (k : Int)  (w_Open : (Open.length : Int) ≤ 9223372036854775807) (w_Dist : (Dist.length : Int) ≤ 9223372036854775807) (v_Dist : ∀ x9 ∈ Dist, (x9.length : Int) ≤ 9223372036854775807) : s_CentreReach_P Open Dist k := by
  unfold s_CentreReach_P
  refine ⟨s_l5Ask_pc Open Dist k, ?_, ?_⟩
  · intro b1
    try simp only [Bool.not_eq_true', Bool.not_eq_false', Bool.not_not] at b1
    refine ⟨?_, ?_⟩
    · have hgk : (goodField Open Dist && inB k 1 (Open.length : Int)) = false := by simpa using b1
      unfold creL; rw [hgk]; rfl
    · have hgk : (goodField Open Dist && inB k 1 (Open.length : Int)) = false := by simpa using b1
      exact hgk.symm
  · intro b2
    try simp only [Bool.not_eq_true', Bool.not_eq_false', Bool.not_not] at b2
    refine ⟨rfl, ?_, ?_, ?_, ?_⟩
    · refine s_l5Best_pc Open Dist k ?_ ?_
      · have hgk : (goodField Open Dist && inB k 1 (Open.length : Int)) = true := by simpa using b2
        obtain ⟨hg, hk⟩ := (Bool.and_eq_true _ _ ▸ hgk : _ ∧ _)
        have hk2 := inB_le hk
        exact hg
      · have hgk : (goodField Open Dist && inB k 1 (Open.length : Int)) = true := by simpa using b2
        obtain ⟨hg, hk⟩ := (Bool.and_eq_true _ _ ▸ hgk : _ ∧ _)
        have hk2 := inB_le hk
        exact hk2
    · refine s_l2Far_pc Open Dist (cenS Open Dist k) ?_
      · have hgk : (goodField Open Dist && inB k 1 (Open.length : Int)) = true := by simpa using b2
        obtain ⟨hg, hk⟩ := (Bool.and_eq_true _ _ ▸ hgk : _ ∧ _)
        have hk2 := inB_le hk
        exact (set_two hg (cenS_in hk2)).1
    · have hgk : (goodField Open Dist && inB k 1 (Open.length : Int)) = true := by simpa using b2
      obtain ⟨hg, hk⟩ := (Bool.and_eq_true _ _ ▸ hgk : _ ∧ _)
      have hk2 := inB_le hk
      unfold creL; rw [if_pos hgk]
    · have hgk : (goodField Open Dist && inB k 1 (Open.length : Int)) = true := by simpa using b2
      obtain ⟨hg, hk⟩ := (Bool.and_eq_true _ _ ▸ hgk : _ ∧ _)
      have hk2 := inB_le hk
      exact hgk.symm
theorem s_CentreReach_pc (Open : List Int) (Dist : List (List Int)) (k : Int)  : PC Try.prog 48 [.agg [.sl (.ints Open), .sl (.rows Dist)], .int .i64 k] (.tup [.d (.int .i64 (creL Open Dist k)), .d (.bool (goodField Open Dist && inB k 1 (Open.length : Int)))]) :=
  pc_wf @Try.call48 fun hw => pc_by (by kernel_rfl) Try.func48 @Try.call48 (by kernel_rfl) s_CentreReach_C (s_CentreReach_A Open Dist k) (by kernel_rfl) (s_CentreReach_vc Open Dist k hw.1.1 hw.1.2.1.1 hw.1.2.1.2) (by kernel_rfl)
def s_CentreReach_orc : List D → Orc := orcN [none, none] fun ds => match ds with
  | [.agg [.sl (.ints Open), .sl (.rows Dist)], .int .i64 k] => some (.tup [.d (.int .i64 (creL Open Dist k)), .d (.bool (goodField Open Dist && inB k 1 (Open.length : Int)))])
  | _ => none
def i_CentreReach_C (f : FuncId) (ds : List D) : Orc := bif Nat.beq f 65 then i_BestCentres_orc ds else bif Nat.beq f 103 then i_Field_reach_orc ds else .no
def i_CentreReach_A (Open : List Int) (Dist : List (List Int)) (k : Int) : Ann := .none
def i_CentreReach_P (Open : List Int) (Dist : List (List Int)) (k : Int) : Prop :=
  (PC Try.prog 65 [.agg [.sl (.ints Open), .sl (.rows Dist)], .int .i64 k] (.tup [.d (.sl (.ints (cenL Open Dist k))), .d (.bool (goodField Open Dist && inB k 1 (Open.length : Int)))])) ∧ (((!(goodField Open Dist && inB k 1 (Open.length : Int))) = true → (((0 : Int) = (creL Open Dist k)) ∧ (false = (goodField Open Dist && inB k 1 (Open.length : Int))))) ∧ ((!(goodField Open Dist && inB k 1 (Open.length : Int))) = false → (PC Try.prog 103 [.agg [.sl (.ints Open), .sl (.rows Dist)], .sl (.ints (cenL Open Dist k))] (.one (.d (.int .i64 (rchOf Dist (cenL Open Dist k)))))) ∧ (((rchOf Dist (cenL Open Dist k)) = (creL Open Dist k)) ∧ (true = (goodField Open Dist && inB k 1 (Open.length : Int))))))
theorem i_CentreReach_vc (Open : List Int) (Dist : List (List Int)) (k : Int)  (w_Open : (Open.length : Int) ≤ 9223372036854775807) (w_Dist : (Dist.length : Int) ≤ 9223372036854775807) (v_Dist : ∀ x9 ∈ Dist, (x9.length : Int) ≤ 9223372036854775807) : i_CentreReach_P Open Dist k := by
  unfold i_CentreReach_P
  refine ⟨i_BestCentres_pc Open Dist k, ?_, ?_⟩
  · intro b1
    try simp only [Bool.not_eq_true', Bool.not_eq_false', Bool.not_not] at b1
    refine ⟨?_, ?_⟩
    · have hgk : (goodField Open Dist && inB k 1 (Open.length : Int)) = false := by simpa using b1
      unfold creL; rw [hgk]; rfl
    · have hgk : (goodField Open Dist && inB k 1 (Open.length : Int)) = false := by simpa using b1
      exact hgk.symm
  · intro b2
    try simp only [Bool.not_eq_true', Bool.not_eq_false', Bool.not_not] at b2
    refine ⟨?_, ?_, ?_⟩
    · refine i_Field_reach_pc Open Dist (cenL Open Dist k) ?_
      · have hgk : (goodField Open Dist && inB k 1 (Open.length : Int)) = true := by simpa using b2
        obtain ⟨hg, hk⟩ := (Bool.and_eq_true _ _ ▸ hgk : _ ∧ _)
        have hk2 := inB_le hk
        unfold cenL
        rw [if_pos hgk]
        exact (set_two hg (cenS_in hk2)).1
    · have hgk : (goodField Open Dist && inB k 1 (Open.length : Int)) = true := by simpa using b2
      obtain ⟨hg, hk⟩ := (Bool.and_eq_true _ _ ▸ hgk : _ ∧ _)
      have hk2 := inB_le hk
      unfold creL cenL
      rw [if_pos hgk, if_pos hgk]
    · have hgk : (goodField Open Dist && inB k 1 (Open.length : Int)) = true := by simpa using b2
      obtain ⟨hg, hk⟩ := (Bool.and_eq_true _ _ ▸ hgk : _ ∧ _)
      have hk2 := inB_le hk
      exact hgk.symm
theorem i_CentreReach_pc (Open : List Int) (Dist : List (List Int)) (k : Int)  : PC Try.prog 49 [.agg [.sl (.ints Open), .sl (.rows Dist)], .int .i64 k] (.tup [.d (.int .i64 (creL Open Dist k)), .d (.bool (goodField Open Dist && inB k 1 (Open.length : Int)))]) :=
  pc_wf @Try.call49 fun hw => pc_by (by kernel_rfl) Try.func49 @Try.call49 (by kernel_rfl) i_CentreReach_C (i_CentreReach_A Open Dist k) (by kernel_rfl) (i_CentreReach_vc Open Dist k hw.1.1 hw.1.2.1.1 hw.1.2.1.2) (by kernel_rfl)
def i_CentreReach_orc : List D → Orc := orcN [none, none] fun ds => match ds with
  | [.agg [.sl (.ints Open), .sl (.rows Dist)], .int .i64 k] => some (.tup [.d (.int .i64 (creL Open Dist k)), .d (.bool (goodField Open Dist && inB k 1 (Open.length : Int)))])
  | _ => none
def l_FnExactCentreReach_C (f : FuncId) (ds : List D) : Orc := bif Nat.beq f 27 then l_szField_orc ds else bif Nat.beq f 29 then l_toField_orc ds else bif Nat.beq f 48 then s_CentreReach_orc ds else bif Nat.beq f 49 then i_CentreReach_orc ds else bif Nat.beq f 32 then l_eqField_orc ds else .no
def l_FnExactCentreReach_A (Open : List Int) (Dist : List (List Int)) (k : Int) : Ann := .two (.none) (.two (.none) (.two (.none) (.two (.none) (.two (.reg [(1, .g)]) (.two (.reg [(1, .g)]) (.two (.none) (.two (.none) (.two (.two (.reg [(2, .g)]) (.none)) (.none)))))))))
def l_FnExactCentreReach_P (Open : List Int) (Dist : List (List Int)) (k : Int) : Prop :=
  (PC Try.prog 27 [.agg [.sl (.ints Open), .sl (.rows Dist)], .int .i64 1048576] (.one (.d (.int .i64 (szField Open Dist 1048576))))) ∧ (((decide ((szField Open Dist 1048576) < 0)) = true → ((true = true))) ∧ ((decide ((szField Open Dist 1048576) < 0)) = false → (PC Try.prog 29 [.agg [.sl (.ints Open), .sl (.rows Dist)]] (.one (.d (.agg [.sl (.ints Open), .sl (.rows Dist)])))) ∧ (PC Try.prog 48 [.agg [.sl (.ints Open), .sl (.rows Dist)], .int .i64 k] (.tup [.d (.int .i64 (creL Open Dist k)), .d (.bool (goodField Open Dist && inB k 1 (Open.length : Int)))])) ∧ (PC Try.prog 29 [.agg [.sl (.ints Open), .sl (.rows Dist)]] (.one (.d (.agg [.sl (.ints Open), .sl (.rows Dist)])))) ∧ (PC Try.prog 49 [.agg [.sl (.ints Open), .sl (.rows Dist)], .int .i64 k] (.tup [.d (.int .i64 (creL Open Dist k)), .d (.bool (goodField Open Dist && inB k 1 (Open.length : Int)))])) ∧ ((!((creL Open Dist k) != (creL Open Dist k))) = true → (!((creL Open Dist k) != (creL Open Dist k))) = true) ∧ ((!((creL Open Dist k) != (creL Open Dist k))) = true → (!((creL Open Dist k) != (creL Open Dist k))) = true) ∧ (true = true) ∧ ((((creL Open Dist k) != (creL Open Dist k)) = true → true = true)) ∧ ((((creL Open Dist k) != (creL Open Dist k)) = false → (!((creL Open Dist k) != (creL Open Dist k))) = true)) ∧ (((cond ((creL Open Dist k) != (creL Open Dist k)) true ((goodField Open Dist && inB k 1 (Open.length : Int)) != (goodField Open Dist && inB k 1 (Open.length : Int)))) = true → ((false = true))) ∧ ((cond ((creL Open Dist k) != (creL Open Dist k)) true ((goodField Open Dist && inB k 1 (Open.length : Int)) != (goodField Open Dist && inB k 1 (Open.length : Int)))) = false → (true = true) ∧ (PC Try.prog 29 [.agg [.sl (.ints Open), .sl (.rows Dist)]] (.one (.d (.agg [.sl (.ints Open), .sl (.rows Dist)])))) ∧ (PC Try.prog 32 [.agg [.sl (.ints Open), .sl (.rows Dist)], .agg [.sl (.ints Open), .sl (.rows Dist)]] (.one (.d (.bool ((Open == Open) && (Dist == Dist)))))) ∧ (((!((Open == Open) && (Dist == Dist))) = true → ((false = true))) ∧ ((!((Open == Open) && (Dist == Dist))) = false → ((true = true))))))))
theorem l_FnExactCentreReach_vc (Open : List Int) (Dist : List (List Int)) (k : Int)  (w_Open : (Open.length : Int) ≤ 9223372036854775807) (w_Dist : (Dist.length : Int) ≤ 9223372036854775807) (v_Dist : ∀ x9 ∈ Dist, (x9.length : Int) ≤ 9223372036854775807) : l_FnExactCentreReach_P Open Dist k := by
  unfold l_FnExactCentreReach_P
  refine ⟨?_, ?_, ?_⟩
  · refine l_szField_pc Open Dist 1048576 ?_
    · first | omega | rfl | (intro hg; simp only [nrmT] at hg; omega) | (intro g1 g2; simp [g1, g2]; done) | (intro g1; simp at g1 ⊢; simp [g1]; done) | (simp only [nrmT] at *; omega) | (simp at * <;> omega) | (simp_all <;> omega) | (simp_all; done)
  · intro b1
    try simp only [nrmT] at b1
    exact rfl
  · intro b2
    try simp only [nrmT] at b2
    refine ⟨?_, s_CentreReach_pc Open Dist k, ?_, i_CentreReach_pc Open Dist k, id, id, rfl, fun _ => rfl, ?_, ?_, ?_⟩
    · refine l_toField_pc Open Dist ?_ ?_ ?_
      · have := szField_bound b2; omega
      · have := szField_bound b2; omega
      · have h := (szField_bound b2).2.2
        intro xs hx
        have h := h xs hx
        omega
    · refine l_toField_pc Open Dist ?_ ?_ ?_
      · have := szField_bound b2; omega
      · have := szField_bound b2; omega
      · have h := (szField_bound b2).2.2
        intro xs hx
        have h := h xs hx
        omega
    · intro h; rw [h]; rfl
    · intro b3
      first | (exfalso; simp only [marks_len] at b3; omega) | (simp at b3; done) | (exfalso; simp only [marks_len] at b3; simp at b3; done) | omega | rfl | (intro hg; simp only [nrmT] at hg; omega) | (intro g1 g2; simp [g1, g2]; done) | (intro g1; simp at g1 ⊢; simp [g1]; done) | (simp only [nrmT] at *; omega) | (simp at * <;> omega) | (simp_all <;> omega) | (simp_all; done)
    · intro b4
      refine ⟨rfl, ?_, l_eqField_pc Open Dist Open Dist, ?_, ?_⟩
      · refine l_toField_pc Open Dist ?_ ?_ ?_
        · have := szField_bound b2; omega
        · have := szField_bound b2; omega
        · have h := (szField_bound b2).2.2
          intro xs hx
          have h := h xs hx
          omega
      · intro b5
        try simp only [Bool.not_eq_true', Bool.not_eq_false', Bool.not_not] at b5
        first | (exfalso; simp only [marks_len] at b5; omega) | (simp at b5; done) | (exfalso; simp only [marks_len] at b5; simp at b5; done) | omega | rfl | (intro hg; simp only [nrmT] at hg; omega) | (intro g1 g2; simp [g1, g2]; done) | (intro g1; simp at g1 ⊢; simp [g1]; done) | (simp only [nrmT] at *; omega) | (simp at * <;> omega) | (simp_all <;> omega) | (simp_all; done)
      · intro b6
        try simp only [Bool.not_eq_true', Bool.not_eq_false', Bool.not_not] at b6
        exact rfl
theorem l_FnExactCentreReach_pc (Open : List Int) (Dist : List (List Int)) (k : Int)  : PC Try.prog 10 [.agg [.sl (.ints Open), .sl (.rows Dist)], .int .i64 k] (.one (.d (.bool true))) :=
  pc_wf @Try.call10 fun hw => pc_by (by kernel_rfl) Try.func10 @Try.call10 (by kernel_rfl) l_FnExactCentreReach_C (l_FnExactCentreReach_A Open Dist k) (by kernel_rfl) (l_FnExactCentreReach_vc Open Dist k hw.1.1 hw.1.2.1.1 hw.1.2.1.2) (by kernel_rfl)
end Go.Proofs.Ytmmoejdglnnmcaa
