/- Contracts of the functions that the law reaches. -/
import Derived.Test.YtmmoejdglnnmcaaKCoveringSites1
import Derived.KernelRfl
set_option linter.unusedVariables false
set_option linter.unusedSimpArgs false
namespace Go.Proofs.Ytmmoejdglnnmcaa
open Go

theorem cov_test {Open : List Int} {Dist : List (List Int)} {r : Int} : cond (!(goodField Open Dist)) true (decide (r < 0)) = !(goodField Open Dist && decide (0 ≤ r)) := by
  by_cases h : r < 0
  · rw [decide_eq_true h, decide_eq_false (by omega)]; cases goodField Open Dist <;> rfl
  · rw [decide_eq_false h, decide_eq_true (by omega)]; cases goodField Open Dist <;> rfl
abbrev s_CoveringSites_JJ0 (Open : List Int) (Dist : List (List Int)) (r : Int) (i : Int) : Prop := (0 ≤ i) ∧ (i ≤ ((setsL (Open.length : Int).toNat).length : Int)) ∧ (∀ k, k < i.toNat → (fun s => decide (rchOf Dist s ≤ r)) ((setsL (Open.length : Int).toNat).getD k []) = false)
abbrev s_CoveringSites_mJ0 (Open : List Int) (Dist : List (List Int)) (r : Int) (i : Int) : Nat := ((setsL (Open.length : Int).toNat).length - i).toNat
def s_CoveringSites_C (f : FuncId) (ds : List D) : Orc := bif Nat.beq f 77 then s_l2Good_orc ds else bif Nat.beq f 98 then s_l2Sets_orc ds else bif Nat.beq f 99 then s_l2Far_orc ds else bif Nat.beq f 100 then s_l1Own_orc ds else .no
def s_CoveringSites_A (Open : List Int) (Dist : List (List Int)) (r : Int) : Ann := .two (.none) (.two (.none) (.two (.none) (.two (.two (.none) (.loop (cut1 (fun (i : Int) => s_CoveringSites_JJ0 Open Dist r i) (fun (i : Int) => [(1, .d false (.int .i64 r)), (2, .ptr 2 0), (6, .d true (.sl (.rows (setsL (Open.length : Int).toNat)))), (7, .d true (.int .i64 i))]) (fun (i : Int) => [(2, .box 37 [.d false (.sl (.ints Open)), .d false (.sl (.rows Dist))])])) (fun g => s_CoveringSites_mJ0 Open Dist r g) (fun _ => .none))) (.none))))
def s_CoveringSites_P (Open : List Int) (Dist : List (List Int)) (r : Int) : Prop :=
  (PC Try.prog 77 [.agg [.sl (.ints Open), .sl (.rows Dist)]] (.one (.d (.bool (goodField Open Dist))))) ∧ ((!(!(goodField Open Dist))) = true → (!(!(goodField Open Dist))) = true) ∧ (true = true) ∧ (((!(goodField Open Dist)) = true → true = true)) ∧ (((!(goodField Open Dist)) = false → (!(!(goodField Open Dist))) = true)) ∧ (((cond (!(goodField Open Dist)) true (decide (r < 0))) = true → (((0 : Nat) = 0) ∧ (([] : List Int) = covSites Open Dist r) ∧ (false = (covOk Open Dist r)))) ∧ ((cond (!(goodField Open Dist)) true (decide (r < 0))) = false → (PC Try.prog 98 [.int .i64 (Open.length : Int)] (.one (.d (.sl (.rows (setsL (Open.length : Int).toNat)))))) ∧ ((∃ i' : Int, (s_CoveringSites_JJ0 Open Dist r i') ∧ (r = r) ∧ ((setsL (Open.length : Int).toNat) = (setsL (Open.length : Int).toNat)) ∧ ((0 : Int) = i') ∧ (Open = Open) ∧ (Dist = Dist)) ∧ (∀ i : Int, (s_CoveringSites_JJ0 Open Dist r i) → (((decide (i < (((setsL (Open.length : Int).toNat).length) : Int))) = true → (true = true) ∧ ((0 : Int) ≤ i) ∧ ((i : Int) < (setsL (Open.length : Int).toNat).length) ∧ (i.toNat < (setsL (Open.length : Int).toNat).length) ∧ (PC Try.prog 99 [.agg [.sl (.ints Open), .sl (.rows Dist)], .sl (.ints ((setsL (Open.length : Int).toNat).getD i.toNat []))] (.one (.d (.int .i64 (rchOf Dist ((setsL (Open.length : Int).toNat).getD i.toNat [])))))) ∧ (((decide ((rchOf Dist ((setsL (Open.length : Int).toNat).getD i.toNat [])) ≤ r)) = true → ((0 : Int) ≤ i) ∧ ((i : Int) < (setsL (Open.length : Int).toNat).length) ∧ (i.toNat < (setsL (Open.length : Int).toNat).length) ∧ (PC Try.prog 100 [.sl (.ints ((setsL (Open.length : Int).toNat).getD i.toNat []))] (.one (.own 3 (.ints ((setsL (Open.length : Int).toNat).getD i.toNat []))))) ∧ ((((setsL (Open.length : Int).toNat).getD i.toNat []).length = ((setsL (Open.length : Int).toNat).getD i.toNat []).length) ∧ ((((setsL (Open.length : Int).toNat).getD i.toNat []) : List Int) = covSites Open Dist r) ∧ (true = (covOk Open Dist r)))) ∧ ((decide ((rchOf Dist ((setsL (Open.length : Int).toNat).getD i.toNat [])) ≤ r)) = false → (-9223372036854775808 ≤ (i + 1) ∧ (i + 1) ≤ 9223372036854775807) ∧ (∃ i' : Int, (s_CoveringSites_JJ0 Open Dist r i') ∧ (s_CoveringSites_mJ0 Open Dist r i' < s_CoveringSites_mJ0 Open Dist r i) ∧ (r = r) ∧ ((setsL (Open.length : Int).toNat) = (setsL (Open.length : Int).toNat)) ∧ ((i + 1) = i') ∧ (Open = Open) ∧ (Dist = Dist))))) ∧ ((decide (i < (((setsL (Open.length : Int).toNat).length) : Int))) = false → (((0 : Nat) = 0) ∧ (([] : List Int) = covSites Open Dist r) ∧ (false = (covOk Open Dist r)))))))))
theorem s_CoveringSites_vc (Open : List Int) (Dist : List (List Int)) (r : Int)  (w_Open : (Open.length : Int) ≤ 9223372036854775807) (w_Dist : (Dist.length : Int) ≤ 9223372036854775807) (v_Dist : ∀ x9 ∈ Dist, (x9.length : Int) ≤ 9223372036854775807) : s_CoveringSites_P Open Dist r := by
  unfold s_CoveringSites_P
  refine ⟨s_l2Good_pc Open Dist, id, rfl, fun _ => rfl, ?_, ?_, ?_⟩
  · intro h; rw [h]; rfl
  · intro b1
    refine ⟨rfl, ?_, ?_⟩
    · obtain ⟨c1, c2⟩ := cov_miss (Open := Open) (Dist := Dist) (r := r) (.inl (by have h9 := cov_test (Open := Open) (Dist := Dist) (r := r); rw [b1] at h9; revert h9; cases (goodField Open Dist && decide (0 ≤ r)) <;> simp))
      first | exact c2.symm | (rw [c2]; rfl)
    · obtain ⟨c1, c2⟩ := cov_miss (Open := Open) (Dist := Dist) (r := r) (.inl (by have h9 := cov_test (Open := Open) (Dist := Dist) (r := r); rw [b1] at h9; revert h9; cases (goodField Open Dist && decide (0 ≤ r)) <;> simp))
      exact c1.symm
  · intro b2
    refine ⟨?_, ?_, ?_⟩
    · refine s_l2Sets_pc (Open.length : Int) ?_
      · have hgr : (goodField Open Dist && decide (0 ≤ r)) = true := by
          have h9 := cov_test (Open := Open) (Dist := Dist) (r := r)
          rw [b2] at h9
          simpa using h9.symm
        rw [Bool.and_eq_true] at hgr
        obtain ⟨hg, hr⟩ := hgr
        have hr := of_decide_eq_true hr
        have := gf_open hg
        omega
    · refine ⟨0, ?_⟩
      refine ⟨?_, rfl, rfl, rfl, rfl, rfl⟩
      · refine ⟨?_, ?_, ?_⟩
        · first | omega | rfl | (intro hg; simp only [nrmT] at hg; omega) | (intro g1 g2; simp [g1, g2]; done) | (intro g1; simp at g1 ⊢; simp [g1]; done) | (simp only [nrmT] at *; omega) | (simp at * <;> omega) | (simp_all <;> omega) | (simp_all; done)
        · first | omega | rfl | (intro hg; simp only [nrmT] at hg; omega) | (intro g1 g2; simp [g1, g2]; done) | (intro g1; simp at g1 ⊢; simp [g1]; done) | (simp only [nrmT] at *; omega) | (simp at * <;> omega) | (simp_all <;> omega) | (simp_all; done)
        · intro k hk; exact absurd hk (by simp)
    · intro i hJ
      obtain ⟨h1, h2, h3⟩ := hJ
      refine ⟨?_, ?_⟩
      · intro b3
        try simp only [nrmT] at b3
        refine ⟨rfl, ?_, ?_, ?_, ?_, ?_, ?_⟩
        · first | omega | rfl | (intro hg; simp only [nrmT] at hg; omega) | (intro g1 g2; simp [g1, g2]; done) | (intro g1; simp at g1 ⊢; simp [g1]; done) | (simp only [nrmT] at *; omega) | (simp at * <;> omega) | (simp_all <;> omega) | (simp_all; done)
        · first | omega | rfl | (intro hg; simp only [nrmT] at hg; omega) | (intro g1 g2; simp [g1, g2]; done) | (intro g1; simp at g1 ⊢; simp [g1]; done) | (simp only [nrmT] at *; omega) | (simp at * <;> omega) | (simp_all <;> omega) | (simp_all; done)
        · first | omega | rfl | (intro hg; simp only [nrmT] at hg; omega) | (intro g1 g2; simp [g1, g2]; done) | (intro g1; simp at g1 ⊢; simp [g1]; done) | (simp only [nrmT] at *; omega) | (simp at * <;> omega) | (simp_all <;> omega) | (simp_all; done)
        · refine s_l2Far_pc Open Dist ((setsL (Open.length : Int).toNat).getD i.toNat []) ?_
          · have hgr : (goodField Open Dist && decide (0 ≤ r)) = true := by
              have h9 := cov_test (Open := Open) (Dist := Dist) (r := r)
              rw [b2] at h9
              simpa using h9.symm
            rw [Bool.and_eq_true] at hgr
            obtain ⟨hg, hr⟩ := hgr
            have hr := of_decide_eq_true hr
            have ht2 := (set_two hg (getD_memI (d := []) h1 (by omega : i < ((setsL (Open.length : Int).toNat).length : Int)))).1
            exact ht2
        · intro b4
          try simp only [nrmT] at b4
          refine ⟨?_, ?_, ?_, ?_, rfl, ?_, ?_⟩
          · first | omega | rfl | (intro hg; simp only [nrmT] at hg; omega) | (intro g1 g2; simp [g1, g2]; done) | (intro g1; simp at g1 ⊢; simp [g1]; done) | (simp only [nrmT] at *; omega) | (simp at * <;> omega) | (simp_all <;> omega) | (simp_all; done)
          · first | omega | rfl | (intro hg; simp only [nrmT] at hg; omega) | (intro g1 g2; simp [g1, g2]; done) | (intro g1; simp at g1 ⊢; simp [g1]; done) | (simp only [nrmT] at *; omega) | (simp at * <;> omega) | (simp_all <;> omega) | (simp_all; done)
          · first | omega | rfl | (intro hg; simp only [nrmT] at hg; omega) | (intro g1 g2; simp [g1, g2]; done) | (intro g1; simp at g1 ⊢; simp [g1]; done) | (simp only [nrmT] at *; omega) | (simp at * <;> omega) | (simp_all <;> omega) | (simp_all; done)
          · refine s_l1Own_pc ((setsL (Open.length : Int).toNat).getD i.toNat []) ?_
            · have hgr : (goodField Open Dist && decide (0 ≤ r)) = true := by
                have := cov_test (Open := Open) (Dist := Dist) (r := r)
                rw [b2] at this
                simpa using this.symm
              rw [Bool.and_eq_true] at hgr
              have := (set_two hgr.1 (getD_memI (d := []) h1 (by omega : i < ((setsL (Open.length : Int).toNat).length : Int)))).2
              omega
          · have hgr : (goodField Open Dist && decide (0 ≤ r)) = true := by
              have h9 := cov_test (Open := Open) (Dist := Dist) (r := r)
              rw [b2] at h9
              simpa using h9.symm
            rw [Bool.and_eq_true] at hgr
            obtain ⟨hg, hr⟩ := hgr
            have hr := of_decide_eq_true hr
            have ht2 := (set_two hg (getD_memI (d := []) h1 (by omega : i < ((setsL (Open.length : Int).toNat).length : Int)))).1
            obtain ⟨c1, c2⟩ := cov_hit hg hr h1 (idx_found (p := fun s => decide (rchOf Dist s ≤ r)) (d := []) h1 (by omega) h3 (by simpa using b4)).symm
            exact c2.symm
          · have hgr : (goodField Open Dist && decide (0 ≤ r)) = true := by
              have h9 := cov_test (Open := Open) (Dist := Dist) (r := r)
              rw [b2] at h9
              simpa using h9.symm
            rw [Bool.and_eq_true] at hgr
            obtain ⟨hg, hr⟩ := hgr
            have hr := of_decide_eq_true hr
            have ht2 := (set_two hg (getD_memI (d := []) h1 (by omega : i < ((setsL (Open.length : Int).toNat).length : Int)))).1
            obtain ⟨c1, c2⟩ := cov_hit hg hr h1 (idx_found (p := fun s => decide (rchOf Dist s ≤ r)) (d := []) h1 (by omega) h3 (by simpa using b4)).symm
            exact c1.symm
        · intro b5
          try simp only [nrmT] at b5
          refine ⟨?_, ?_⟩
          · have hgr : (goodField Open Dist && decide (0 ≤ r)) = true := by
              have h9 := cov_test (Open := Open) (Dist := Dist) (r := r)
              rw [b2] at h9
              simpa using h9.symm
            rw [Bool.and_eq_true] at hgr
            obtain ⟨hg, hr⟩ := hgr
            have hr := of_decide_eq_true hr
            have := gf_open hg
            have := sets_small (n := (Open.length : Int).toNat) (by omega)
            omega
          · refine ⟨(i + 1), ?_⟩
            refine ⟨?_, ?_, rfl, rfl, rfl, rfl, rfl⟩
            · refine ⟨?_, ?_, ?_⟩
              · first | omega | rfl | (intro hg; simp only [nrmT] at hg; omega) | (intro g1 g2; simp [g1, g2]; done) | (intro g1; simp at g1 ⊢; simp [g1]; done) | (simp only [nrmT] at *; omega) | (simp at * <;> omega) | (simp_all <;> omega) | (simp_all; done)
              · first | omega | rfl | (intro hg; simp only [nrmT] at hg; omega) | (intro g1 g2; simp [g1, g2]; done) | (intro g1; simp at g1 ⊢; simp [g1]; done) | (simp only [nrmT] at *; omega) | (simp at * <;> omega) | (simp_all <;> omega) | (simp_all; done)
              · exact idx_step (p := fun s => decide (rchOf Dist s ≤ r)) h1 h3 (by simpa using b5)
            · first | (show _ < _; omega) | (simp only [s_CoveringSites_mJ0]; omega) | (simp only [s_CoveringSites_mJ0] at *; simp at *; omega)
      · intro b6
        try simp only [nrmT] at b6
        refine ⟨rfl, ?_, ?_⟩
        · have hgr : (goodField Open Dist && decide (0 ≤ r)) = true := by
            have h9 := cov_test (Open := Open) (Dist := Dist) (r := r)
            rw [b2] at h9
            simpa using h9.symm
          rw [Bool.and_eq_true] at hgr
          obtain ⟨hg, hr⟩ := hgr
          have hr := of_decide_eq_true hr
          obtain ⟨c1, c2⟩ := cov_miss (Open := Open) (Dist := Dist) (r := r) (.inr (idx_none (p := fun s => decide (rchOf Dist s ≤ r)) (d := []) (by omega) h3))
          first | exact c2.symm | (rw [c2]; rfl)
        · have hgr : (goodField Open Dist && decide (0 ≤ r)) = true := by
            have h9 := cov_test (Open := Open) (Dist := Dist) (r := r)
            rw [b2] at h9
            simpa using h9.symm
          rw [Bool.and_eq_true] at hgr
          obtain ⟨hg, hr⟩ := hgr
          have hr := of_decide_eq_true hr
          obtain ⟨c1, c2⟩ := cov_miss (Open := Open) (Dist := Dist) (r := r) (.inr (idx_none (p := fun s => decide (rchOf Dist s ≤ r)) (d := []) (by omega) h3))
          exact c1.symm
theorem s_CoveringSites_pc (Open : List Int) (Dist : List (List Int)) (r : Int)  : PC Try.prog 44 [.agg [.sl (.ints Open), .sl (.rows Dist)], .int .i64 r] (.tup [.own 3 (.ints (covSites Open Dist r)), .d (.bool (covOk Open Dist r))]) :=
  pc_wf @Try.call44 fun hw => pc_by (by kernel_rfl) Try.func44 @Try.call44 (by kernel_rfl) s_CoveringSites_C (s_CoveringSites_A Open Dist r) (by kernel_rfl) (s_CoveringSites_vc Open Dist r hw.1.1 hw.1.2.1.1 hw.1.2.1.2) (by kernel_rfl)
def s_CoveringSites_orc : List D → Orc := orcN [none, none] fun ds => match ds with
  | [.agg [.sl (.ints Open), .sl (.rows Dist)], .int .i64 r] => some (.tup [.own 3 (.ints (covSites Open Dist r)), .d (.bool (covOk Open Dist r))])
  | _ => none
abbrev i_CoveringSites_JJ0 (Open : List Int) (Dist : List (List Int)) (r : Int) (i : Int) : Prop := (0 ≤ i) ∧ (i ≤ ((setsL (Open.length : Int).toNat).length : Int)) ∧ (∀ k, k < i.toNat → (fun s => decide (rchOf Dist s ≤ r)) ((setsL (Open.length : Int).toNat).getD k []) = false)
abbrev i_CoveringSites_mJ0 (Open : List Int) (Dist : List (List Int)) (r : Int) (i : Int) : Nat := ((setsL (Open.length : Int).toNat).length - i).toNat
def i_CoveringSites_C (f : FuncId) (ds : List D) : Orc := bif Nat.beq f 101 then i_isRadius_orc ds else bif Nat.beq f 102 then i_sets_orc ds else bif Nat.beq f 103 then i_Field_reach_orc ds else .no
def i_CoveringSites_A (Open : List Int) (Dist : List (List Int)) (r : Int) : Ann := .two (.none) (.two (.none) (.two (.two (.none) (.loop (cut1 (fun (i : Int) => i_CoveringSites_JJ0 Open Dist r i) (fun (i : Int) => [(1, .d false (.int .i64 r)), (2, .ptr 2 0), (15, .own 15 ((setsL (Open.length : Int).toNat).length)), (16, .d true (.int .i64 (((setsL (Open.length : Int).toNat).length) : Int))), (17, .d true (.int .i64 i))]) (fun (i : Int) => [(2, .box 37 [.d false (.sl (.ints Open)), .d false (.sl (.rows Dist))]), (15, .arr true 22 (.rows (setsL (Open.length : Int).toNat)))])) (fun g => i_CoveringSites_mJ0 Open Dist r g) (fun _ => .none))) (.none)))
def i_CoveringSites_P (Open : List Int) (Dist : List (List Int)) (r : Int) : Prop :=
  (PC Try.prog 101 [.agg [.sl (.ints Open), .sl (.rows Dist)], .int .i64 r] (.one (.d (.bool (goodField Open Dist && decide (0 ≤ r)))))) ∧ (((!(goodField Open Dist && decide (0 ≤ r))) = true → (((covSites Open Dist r).length = 0) ∧ (false = (covOk Open Dist r)))) ∧ ((!(goodField Open Dist && decide (0 ≤ r))) = false → (PC Try.prog 102 [.int .i64 (Open.length : Int)] (.one (.own 22 (.rows (setsL (Open.length : Int).toNat))))) ∧ ((∃ i' : Int, (i_CoveringSites_JJ0 Open Dist r i') ∧ (r = r) ∧ ((setsL (Open.length : Int).toNat).length = (setsL (Open.length : Int).toNat).length) ∧ ((((setsL (Open.length : Int).toNat).length) : Int) = (((setsL (Open.length : Int).toNat).length) : Int)) ∧ ((0 : Int) = i') ∧ (Open = Open) ∧ (Dist = Dist) ∧ (setsL (Open.length : Int).toNat = setsL (Open.length : Int).toNat)) ∧ (∀ i : Int, (i_CoveringSites_JJ0 Open Dist r i) → (((decide (i < (((setsL (Open.length : Int).toNat).length) : Int))) = true → ((0 : Int) ≤ i) ∧ ((i : Int) < (((setsL (Open.length : Int).toNat).length) : Int)) ∧ (i.toNat < (setsL (Open.length : Int).toNat).length) ∧ (PC Try.prog 103 [.agg [.sl (.ints Open), .sl (.rows Dist)], .sl (.ints ((setsL (Open.length : Int).toNat).getD i.toNat []))] (.one (.d (.int .i64 (rchOf Dist ((setsL (Open.length : Int).toNat).getD i.toNat [])))))) ∧ (((decide ((rchOf Dist ((setsL (Open.length : Int).toNat).getD i.toNat [])) ≤ r)) = true → (((((setsL (Open.length : Int).toNat).getD i.toNat []) : List Int) = (covSites Open Dist r)) ∧ (true = (covOk Open Dist r)))) ∧ ((decide ((rchOf Dist ((setsL (Open.length : Int).toNat).getD i.toNat [])) ≤ r)) = false → (-9223372036854775808 ≤ (i + 1) ∧ (i + 1) ≤ 9223372036854775807) ∧ (∃ i' : Int, (i_CoveringSites_JJ0 Open Dist r i') ∧ (i_CoveringSites_mJ0 Open Dist r i' < i_CoveringSites_mJ0 Open Dist r i) ∧ (r = r) ∧ ((setsL (Open.length : Int).toNat).length = (setsL (Open.length : Int).toNat).length) ∧ ((((setsL (Open.length : Int).toNat).length) : Int) = (((setsL (Open.length : Int).toNat).length) : Int)) ∧ ((i + 1) = i') ∧ (Open = Open) ∧ (Dist = Dist) ∧ (setsL (Open.length : Int).toNat = setsL (Open.length : Int).toNat))))) ∧ ((decide (i < (((setsL (Open.length : Int).toNat).length) : Int))) = false → (((covSites Open Dist r).length = 0) ∧ (false = (covOk Open Dist r)))))))))
theorem i_CoveringSites_vc (Open : List Int) (Dist : List (List Int)) (r : Int)  (w_Open : (Open.length : Int) ≤ 9223372036854775807) (w_Dist : (Dist.length : Int) ≤ 9223372036854775807) (v_Dist : ∀ x9 ∈ Dist, (x9.length : Int) ≤ 9223372036854775807) : i_CoveringSites_P Open Dist r := by
  unfold i_CoveringSites_P
  refine ⟨i_isRadius_pc Open Dist r, ?_, ?_⟩
  · intro b1
    try simp only [Bool.not_eq_true', Bool.not_eq_false', Bool.not_not] at b1
    refine ⟨?_, ?_⟩
    · obtain ⟨c1, c2⟩ := cov_miss (Open := Open) (Dist := Dist) (r := r) (.inl (by simpa using b1))
      first | exact c2.symm | (rw [c2]; rfl)
    · obtain ⟨c1, c2⟩ := cov_miss (Open := Open) (Dist := Dist) (r := r) (.inl (by simpa using b1))
      exact c1.symm
  · intro b2
    try simp only [Bool.not_eq_true', Bool.not_eq_false', Bool.not_not] at b2
    refine ⟨?_, ?_, ?_⟩
    · refine i_sets_pc (Open.length : Int) ?_
      · have hgr : (goodField Open Dist && decide (0 ≤ r)) = true := by simpa using b2
        rw [Bool.and_eq_true] at hgr
        obtain ⟨hg, hr⟩ := hgr
        have hr := of_decide_eq_true hr
        have := gf_open hg
        omega
    · refine ⟨0, ?_⟩
      refine ⟨?_, rfl, rfl, rfl, rfl, rfl, rfl, rfl⟩
      · refine ⟨?_, ?_, ?_⟩
        · first | omega | rfl | (intro hg; simp only [nrmT] at hg; omega) | (intro g1 g2; simp [g1, g2]; done) | (intro g1; simp at g1 ⊢; simp [g1]; done) | (simp only [nrmT] at *; omega) | (simp at * <;> omega) | (simp_all <;> omega) | (simp_all; done)
        · first | omega | rfl | (intro hg; simp only [nrmT] at hg; omega) | (intro g1 g2; simp [g1, g2]; done) | (intro g1; simp at g1 ⊢; simp [g1]; done) | (simp only [nrmT] at *; omega) | (simp at * <;> omega) | (simp_all <;> omega) | (simp_all; done)
        · intro k hk; exact absurd hk (by simp)
    · intro i hJ
      obtain ⟨h1, h2, h3⟩ := hJ
      refine ⟨?_, ?_⟩
      · intro b3
        try simp only [nrmT] at b3
        refine ⟨?_, ?_, ?_, ?_, ?_, ?_⟩
        · first | omega | rfl | (intro hg; simp only [nrmT] at hg; omega) | (intro g1 g2; simp [g1, g2]; done) | (intro g1; simp at g1 ⊢; simp [g1]; done) | (simp only [nrmT] at *; omega) | (simp at * <;> omega) | (simp_all <;> omega) | (simp_all; done)
        · first | omega | rfl | (intro hg; simp only [nrmT] at hg; omega) | (intro g1 g2; simp [g1, g2]; done) | (intro g1; simp at g1 ⊢; simp [g1]; done) | (simp only [nrmT] at *; omega) | (simp at * <;> omega) | (simp_all <;> omega) | (simp_all; done)
        · first | omega | rfl | (intro hg; simp only [nrmT] at hg; omega) | (intro g1 g2; simp [g1, g2]; done) | (intro g1; simp at g1 ⊢; simp [g1]; done) | (simp only [nrmT] at *; omega) | (simp at * <;> omega) | (simp_all <;> omega) | (simp_all; done)
        · refine i_Field_reach_pc Open Dist ((setsL (Open.length : Int).toNat).getD i.toNat []) ?_
          · have hgr : (goodField Open Dist && decide (0 ≤ r)) = true := by simpa using b2
            rw [Bool.and_eq_true] at hgr
            obtain ⟨hg, hr⟩ := hgr
            have hr := of_decide_eq_true hr
            have ht2 := (set_two hg (getD_memI (d := []) h1 (by omega : i < ((setsL (Open.length : Int).toNat).length : Int)))).1
            exact ht2
        · intro b4
          try simp only [nrmT] at b4
          refine ⟨?_, ?_⟩
          · have hgr : (goodField Open Dist && decide (0 ≤ r)) = true := by simpa using b2
            rw [Bool.and_eq_true] at hgr
            obtain ⟨hg, hr⟩ := hgr
            have hr := of_decide_eq_true hr
            have ht2 := (set_two hg (getD_memI (d := []) h1 (by omega : i < ((setsL (Open.length : Int).toNat).length : Int)))).1
            obtain ⟨c1, c2⟩ := cov_hit hg hr h1 (idx_found (p := fun s => decide (rchOf Dist s ≤ r)) (d := []) h1 (by omega) h3 (by simpa using b4)).symm
            exact c2.symm
          · have hgr : (goodField Open Dist && decide (0 ≤ r)) = true := by simpa using b2
            rw [Bool.and_eq_true] at hgr
            obtain ⟨hg, hr⟩ := hgr
            have hr := of_decide_eq_true hr
            have ht2 := (set_two hg (getD_memI (d := []) h1 (by omega : i < ((setsL (Open.length : Int).toNat).length : Int)))).1
            obtain ⟨c1, c2⟩ := cov_hit hg hr h1 (idx_found (p := fun s => decide (rchOf Dist s ≤ r)) (d := []) h1 (by omega) h3 (by simpa using b4)).symm
            exact c1.symm
        · intro b5
          try simp only [nrmT] at b5
          refine ⟨?_, ?_⟩
          · have hgr : (goodField Open Dist && decide (0 ≤ r)) = true := by simpa using b2
            rw [Bool.and_eq_true] at hgr
            obtain ⟨hg, hr⟩ := hgr
            have hr := of_decide_eq_true hr
            have := gf_open hg
            have := sets_small (n := (Open.length : Int).toNat) (by omega)
            omega
          · refine ⟨(i + 1), ?_⟩
            refine ⟨?_, ?_, rfl, rfl, rfl, rfl, rfl, rfl, rfl⟩
            · refine ⟨?_, ?_, ?_⟩
              · first | omega | rfl | (intro hg; simp only [nrmT] at hg; omega) | (intro g1 g2; simp [g1, g2]; done) | (intro g1; simp at g1 ⊢; simp [g1]; done) | (simp only [nrmT] at *; omega) | (simp at * <;> omega) | (simp_all <;> omega) | (simp_all; done)
              · first | omega | rfl | (intro hg; simp only [nrmT] at hg; omega) | (intro g1 g2; simp [g1, g2]; done) | (intro g1; simp at g1 ⊢; simp [g1]; done) | (simp only [nrmT] at *; omega) | (simp at * <;> omega) | (simp_all <;> omega) | (simp_all; done)
              · exact idx_step (p := fun s => decide (rchOf Dist s ≤ r)) h1 h3 (by simpa using b5)
            · first | (show _ < _; omega) | (simp only [i_CoveringSites_mJ0]; omega) | (simp only [i_CoveringSites_mJ0] at *; simp at *; omega)
      · intro b6
        try simp only [nrmT] at b6
        refine ⟨?_, ?_⟩
        · have hgr : (goodField Open Dist && decide (0 ≤ r)) = true := by simpa using b2
          rw [Bool.and_eq_true] at hgr
          obtain ⟨hg, hr⟩ := hgr
          have hr := of_decide_eq_true hr
          obtain ⟨c1, c2⟩ := cov_miss (Open := Open) (Dist := Dist) (r := r) (.inr (idx_none (p := fun s => decide (rchOf Dist s ≤ r)) (d := []) (by omega) h3))
          first | exact c2.symm | (rw [c2]; rfl)
        · have hgr : (goodField Open Dist && decide (0 ≤ r)) = true := by simpa using b2
          rw [Bool.and_eq_true] at hgr
          obtain ⟨hg, hr⟩ := hgr
          have hr := of_decide_eq_true hr
          obtain ⟨c1, c2⟩ := cov_miss (Open := Open) (Dist := Dist) (r := r) (.inr (idx_none (p := fun s => decide (rchOf Dist s ≤ r)) (d := []) (by omega) h3))
          exact c1.symm
theorem i_CoveringSites_pc (Open : List Int) (Dist : List (List Int)) (r : Int)  : PC Try.prog 45 [.agg [.sl (.ints Open), .sl (.rows Dist)], .int .i64 r] (.tup [.d (.sl (.ints (covSites Open Dist r))), .d (.bool (covOk Open Dist r))]) :=
  pc_wf @Try.call45 fun hw => pc_by (by kernel_rfl) Try.func45 @Try.call45 (by kernel_rfl) i_CoveringSites_C (i_CoveringSites_A Open Dist r) (by kernel_rfl) (i_CoveringSites_vc Open Dist r hw.1.1 hw.1.2.1.1 hw.1.2.1.2) (by kernel_rfl)
def l_FnExactCoveringSites_C (f : FuncId) (ds : List D) : Orc := bif Nat.beq f 27 then l_szField_orc ds else bif Nat.beq f 29 then l_toField_orc ds else bif Nat.beq f 44 then s_CoveringSites_orc ds else bif Nat.beq f 24 then l_eqIntS_orc ds else bif Nat.beq f 32 then l_eqField_orc ds else bif Nat.beq f 26 then l_heldIntS_orc ds else .no
def l_FnExactCoveringSites_A (Open : List Int) (Dist : List (List Int)) (r : Int) : Ann := .two (.none) (.two (.none) (.two (.none) (.two (.none) (.two (.reg [(1, .g)]) (.two (.reg [(1, .g)]) (.two (.mark [] 2 (.vcall (.tup [.d (.sl (.ints (covSites Open Dist r))), .d (.bool (covOk Open Dist r))]))) (.two (.none) (.two (.two (.reg [(2, .g)]) (.none)) (.two (.none) (.two (.mark [] 2 (.kill (1 + (Open.length : Int) + ((Dist.map List.length).sum : Int)))) (.two (.none) (.two (.none) (.two (.mark [] 2 (.wv (marks 1 (covSites Open Dist r).length) (1 + ((covSites Open Dist r).length : Int)))) (.two (.none) (.two (.none) (.two (.none) (.two (.none) (.two (.mark [(1, .g)] 3 (.vcall (.tup [.d (.sl (.ints (covSites Open Dist r))), .d (.bool (covOk Open Dist r))]))) (.none)))))))))))))))))))
def l_FnExactCoveringSites_P (Open : List Int) (Dist : List (List Int)) (r : Int) : Prop :=
  (PC Try.prog 27 [.agg [.sl (.ints Open), .sl (.rows Dist)], .int .i64 1048576] (.one (.d (.int .i64 (szField Open Dist 1048576))))) ∧ (((decide ((szField Open Dist 1048576) < 0)) = true → ((true = true))) ∧ ((decide ((szField Open Dist 1048576) < 0)) = false → (PC Try.prog 29 [.agg [.sl (.ints Open), .sl (.rows Dist)]] (.one (.d (.agg [.sl (.ints Open), .sl (.rows Dist)])))) ∧ (PC Try.prog 44 [.agg [.sl (.ints Open), .sl (.rows Dist)], .int .i64 r] (.tup [.own 3 (.ints (covSites Open Dist r)), .d (.bool (covOk Open Dist r))])) ∧ (PC Try.prog 29 [.agg [.sl (.ints Open), .sl (.rows Dist)]] (.one (.d (.agg [.sl (.ints Open), .sl (.rows Dist)])))) ∧ (PC Try.prog 45 [.agg [.sl (.ints Open), .sl (.rows Dist)], .int .i64 r] (.tup [.d (.sl (.ints (covSites Open Dist r))), .d (.bool (covOk Open Dist r))])) ∧ ((covSites Open Dist r).length = (covSites Open Dist r).length) ∧ ((covSites Open Dist r).length = (covSites Open Dist r).length) ∧ (PC Try.prog 24 [.sl (.ints (covSites Open Dist r)), .sl (.ints (covSites Open Dist r))] (.one (.d (.bool ((covSites Open Dist r) == (covSites Open Dist r)))))) ∧ ((!(!((covSites Open Dist r) == (covSites Open Dist r)))) = true → (!(!((covSites Open Dist r) == (covSites Open Dist r)))) = true) ∧ ((!(!((covSites Open Dist r) == (covSites Open Dist r)))) = true → (!(!((covSites Open Dist r) == (covSites Open Dist r)))) = true) ∧ (true = true) ∧ (((!((covSites Open Dist r) == (covSites Open Dist r))) = true → true = true)) ∧ (((!((covSites Open Dist r) == (covSites Open Dist r))) = false → (!(!((covSites Open Dist r) == (covSites Open Dist r)))) = true)) ∧ (((cond (!((covSites Open Dist r) == (covSites Open Dist r))) true ((covOk Open Dist r) != (covOk Open Dist r))) = true → ((false = true))) ∧ ((cond (!((covSites Open Dist r) == (covSites Open Dist r))) true ((covOk Open Dist r) != (covOk Open Dist r))) = false → (true = true) ∧ (PC Try.prog 29 [.agg [.sl (.ints Open), .sl (.rows Dist)]] (.one (.d (.agg [.sl (.ints Open), .sl (.rows Dist)])))) ∧ (PC Try.prog 32 [.agg [.sl (.ints Open), .sl (.rows Dist)], .agg [.sl (.ints Open), .sl (.rows Dist)]] (.one (.d (.bool ((Open == Open) && (Dist == Dist)))))) ∧ (((!((Open == Open) && (Dist == Dist))) = true → ((false = true))) ∧ ((!((Open == Open) && (Dist == Dist))) = false → (PG Try.prog 33 [.agg [.ints Open.length, .rows (Dist.map List.length)], .int 1] (1 + (Open.length : Int) + ((Dist.map List.length).sum : Int))) ∧ ((!(decide ((1 + (Open.length : Int) + ((Dist.map List.length).sum : Int)) < 0))) = true → (!(decide ((1 + (Open.length : Int) + ((Dist.map List.length).sum : Int)) < 0))) = true) ∧ ((!(decide ((1 + (Open.length : Int) + ((Dist.map List.length).sum : Int)) < 0))) = true → (!(decide ((1 + (Open.length : Int) + ((Dist.map List.length).sum : Int)) < 0))) = true) ∧ (((!(decide ((1 + (Open.length : Int) + ((Dist.map List.length).sum : Int)) < 0))) = true → (covSites Open Dist r).length = (covSites Open Dist r).length)) ∧ (((!(decide ((1 + (Open.length : Int) + ((Dist.map List.length).sum : Int)) < 0))) = true → (covSites Open Dist r).length = (covSites Open Dist r).length)) ∧ ((!(decide ((1 + (Open.length : Int) + ((Dist.map List.length).sum : Int)) < 0))) = true → PC Try.prog 24 [.sl (.ints (covSites Open Dist r)), .sl (.ints (covSites Open Dist r))] (.one (.d (.bool ((covSites Open Dist r) == (covSites Open Dist r)))))) ∧ ((!(decide ((1 + (Open.length : Int) + ((Dist.map List.length).sum : Int)) < 0))) = true → (!(decide ((1 + (Open.length : Int) + ((Dist.map List.length).sum : Int)) < 0))) = true) ∧ (true = true) ∧ (((decide ((1 + (Open.length : Int) + ((Dist.map List.length).sum : Int)) < 0)) = true → true = true)) ∧ (((decide ((1 + (Open.length : Int) + ((Dist.map List.length).sum : Int)) < 0)) = false → (!(decide ((1 + (Open.length : Int) + ((Dist.map List.length).sum : Int)) < 0))) = true)) ∧ ((!(cond (decide ((1 + (Open.length : Int) + ((Dist.map List.length).sum : Int)) < 0)) true (!((covSites Open Dist r) == (covSites Open Dist r))))) = true → (!(cond (decide ((1 + (Open.length : Int) + ((Dist.map List.length).sum : Int)) < 0)) true (!((covSites Open Dist r) == (covSites Open Dist r))))) = true) ∧ ((!(cond (decide ((1 + (Open.length : Int) + ((Dist.map List.length).sum : Int)) < 0)) true (!((covSites Open Dist r) == (covSites Open Dist r))))) = true → (!(cond (decide ((1 + (Open.length : Int) + ((Dist.map List.length).sum : Int)) < 0)) true (!((covSites Open Dist r) == (covSites Open Dist r))))) = true) ∧ (true = true) ∧ (((cond (decide ((1 + (Open.length : Int) + ((Dist.map List.length).sum : Int)) < 0)) true (!((covSites Open Dist r) == (covSites Open Dist r)))) = true → true = true)) ∧ (((cond (decide ((1 + (Open.length : Int) + ((Dist.map List.length).sum : Int)) < 0)) true (!((covSites Open Dist r) == (covSites Open Dist r)))) = false → (!(cond (decide ((1 + (Open.length : Int) + ((Dist.map List.length).sum : Int)) < 0)) true (!((covSites Open Dist r) == (covSites Open Dist r))))) = true)) ∧ (((cond (cond (decide ((1 + (Open.length : Int) + ((Dist.map List.length).sum : Int)) < 0)) true (!((covSites Open Dist r) == (covSites Open Dist r)))) true ((covOk Open Dist r) != (covOk Open Dist r))) = true → ((false = true))) ∧ ((cond (cond (decide ((1 + (Open.length : Int) + ((Dist.map List.length).sum : Int)) < 0)) true (!((covSites Open Dist r) == (covSites Open Dist r)))) true ((covOk Open Dist r) != (covOk Open Dist r))) = false → ((covSites Open Dist r).length = (covSites Open Dist r).length) ∧ ((marks 1 (covSites Open Dist r).length).length = (covSites Open Dist r).length) ∧ (PX Try.prog 25 (covSites Open Dist r) (marks 1 (covSites Open Dist r).length) 1 (1 + ((covSites Open Dist r).length : Int))) ∧ ((covSites Open Dist r).length = (marks 1 (covSites Open Dist r).length).length) ∧ (PC Try.prog 26 [.sl (.ints (marks 1 (covSites Open Dist r).length)), .int .i64 1] (.one (.d (.int .i64 (1 + ((marks 1 (covSites Open Dist r).length).length : Int)))))) ∧ (((decide ((1 + ((marks 1 (covSites Open Dist r).length).length : Int)) < 0)) = true → ((false = true))) ∧ ((decide ((1 + ((marks 1 (covSites Open Dist r).length).length : Int)) < 0)) = false → ((((1 + ((marks 1 (covSites Open Dist r).length).length : Int)) != (1 + ((covSites Open Dist r).length : Int))) = true → ((false = true))) ∧ (((1 + ((marks 1 (covSites Open Dist r).length).length : Int)) != (1 + ((covSites Open Dist r).length : Int))) = false → (PC Try.prog 29 [.agg [.sl (.ints Open), .sl (.rows Dist)]] (.one (.d (.agg [.sl (.ints Open), .sl (.rows Dist)])))) ∧ (PC Try.prog 45 [.agg [.sl (.ints Open), .sl (.rows Dist)], .int .i64 r] (.tup [.d (.sl (.ints (covSites Open Dist r))), .d (.bool (covOk Open Dist r))])) ∧ ((covSites Open Dist r).length = (covSites Open Dist r).length) ∧ ((covSites Open Dist r).length = (covSites Open Dist r).length) ∧ (PC Try.prog 24 [.sl (.ints (covSites Open Dist r)), .sl (.ints (covSites Open Dist r))] (.one (.d (.bool ((covSites Open Dist r) == (covSites Open Dist r)))))) ∧ ((!(!((covSites Open Dist r) == (covSites Open Dist r)))) = true → (!(!((covSites Open Dist r) == (covSites Open Dist r)))) = true) ∧ ((!(!((covSites Open Dist r) == (covSites Open Dist r)))) = true → (!(!((covSites Open Dist r) == (covSites Open Dist r)))) = true) ∧ (true = true) ∧ (((!((covSites Open Dist r) == (covSites Open Dist r))) = true → true = true)) ∧ (((!((covSites Open Dist r) == (covSites Open Dist r))) = false → (!(!((covSites Open Dist r) == (covSites Open Dist r)))) = true)) ∧ (((cond (!((covSites Open Dist r) == (covSites Open Dist r))) true ((covOk Open Dist r) != (covOk Open Dist r))) = true → ((false = true))) ∧ ((cond (!((covSites Open Dist r) == (covSites Open Dist r))) true ((covOk Open Dist r) != (covOk Open Dist r))) = false → ((covSites Open Dist r).length = (marks 1 (covSites Open Dist r).length).length) ∧ (PC Try.prog 26 [.sl (.ints (marks 1 (covSites Open Dist r).length)), .int .i64 1] (.one (.d (.int .i64 (1 + ((marks 1 (covSites Open Dist r).length).length : Int)))))) ∧ (((decide ((1 + ((marks 1 (covSites Open Dist r).length).length : Int)) < 0)) = true → ((false = true))) ∧ ((decide ((1 + ((marks 1 (covSites Open Dist r).length).length : Int)) < 0)) = false → ((((1 + ((marks 1 (covSites Open Dist r).length).length : Int)) != (1 + ((covSites Open Dist r).length : Int))) = true → ((false = true))) ∧ (((1 + ((marks 1 (covSites Open Dist r).length).length : Int)) != (1 + ((covSites Open Dist r).length : Int))) = false → ((true = true))))))))))))))))))))
theorem l_FnExactCoveringSites_vc (Open : List Int) (Dist : List (List Int)) (r : Int)  (w_Open : (Open.length : Int) ≤ 9223372036854775807) (w_Dist : (Dist.length : Int) ≤ 9223372036854775807) (v_Dist : ∀ x9 ∈ Dist, (x9.length : Int) ≤ 9223372036854775807) : l_FnExactCoveringSites_P Open Dist r := by
  unfold l_FnExactCoveringSites_P
  refine ⟨?_, ?_, ?_⟩
  · refine l_szField_pc Open Dist 1048576 ?_
    · first | omega | rfl | (intro hg; simp only [nrmT] at hg; omega) | (intro g1 g2; simp [g1, g2]; done) | (intro g1; simp at g1 ⊢; simp [g1]; done) | (simp only [nrmT] at *; omega) | (simp at * <;> omega) | (simp_all <;> omega) | (simp_all; done)
  · intro b1
    try simp only [nrmT] at b1
    exact rfl
  · intro b2
    try simp only [nrmT] at b2
    refine ⟨?_, s_CoveringSites_pc Open Dist r, ?_, i_CoveringSites_pc Open Dist r, rfl, rfl, l_eqIntS_pc (covSites Open Dist r) (covSites Open Dist r), id, id, rfl, fun _ => rfl, ?_, ?_, ?_⟩
    · refine l_toField_pc Open Dist ?_ ?_ ?_
      · have := szField_bound b2; omega
      · have := szField_bound b2; omega
      · have h := (szField_bound b2).2.2
        intro xs hx
        have h := h xs hx
        omega
    · refine l_toField_pc Open Dist ?_ ?_ ?_
      · have := szField_bound b2; omega
      · have := szField_bound b2; omega
      · have h := (szField_bound b2).2.2
        intro xs hx
        have h := h xs hx
        omega
    · intro h; rw [h]; rfl
    · intro b3
      first | (exfalso; simp only [marks_len] at b3; omega) | (simp at b3; done) | (exfalso; simp only [marks_len] at b3; simp at b3; done) | omega | rfl | (intro hg; simp only [nrmT] at hg; omega) | (intro g1 g2; simp [g1, g2]; done) | (intro g1; simp at g1 ⊢; simp [g1]; done) | (simp only [nrmT] at *; omega) | (simp at * <;> omega) | (simp_all <;> omega) | (simp_all; done)
    · intro b4
      refine ⟨rfl, ?_, l_eqField_pc Open Dist Open Dist, ?_, ?_⟩
      · refine l_toField_pc Open Dist ?_ ?_ ?_
        · have := szField_bound b2; omega
        · have := szField_bound b2; omega
        · have h := (szField_bound b2).2.2
          intro xs hx
          have h := h xs hx
          omega
      · intro b5
        try simp only [Bool.not_eq_true', Bool.not_eq_false', Bool.not_not] at b5
        first | (exfalso; simp only [marks_len] at b5; omega) | (simp at b5; done) | (exfalso; simp only [marks_len] at b5; simp at b5; done) | omega | rfl | (intro hg; simp only [nrmT] at hg; omega) | (intro g1 g2; simp [g1, g2]; done) | (intro g1; simp at g1 ⊢; simp [g1]; done) | (simp only [nrmT] at *; omega) | (simp at * <;> omega) | (simp_all <;> omega) | (simp_all; done)
      · intro b6
        try simp only [Bool.not_eq_true', Bool.not_eq_false', Bool.not_not] at b6
        refine ⟨?_, id, id, fun _ => rfl, fun _ => rfl, fun _ => l_eqIntS_pc (covSites Open Dist r) (covSites Open Dist r), id, rfl, fun _ => rfl, ?_, id, id, rfl, fun _ => rfl, ?_, ?_, ?_⟩
        · refine laws_markField_g_pg Open.length (Dist.map List.length) 1 ?_ ?_ ?_
          · first | omega | rfl | (intro hg; simp only [nrmT] at hg; omega) | (intro g1 g2; simp [g1, g2]; done) | (intro g1; simp at g1 ⊢; simp [g1]; done) | (simp only [nrmT] at *; omega) | (simp at * <;> omega) | (simp_all <;> omega) | (simp_all; done)
          · rw [List.length_map]; have hz := szField_bound b2; omega
          · have hz := szField_bound b2
            have hs := sum_lens20 (xss := Dist) (by omega) (fun xs hx => by have := hz.2.2 xs hx; omega)
            omega
        · first | omega | rfl | (intro hg; simp only [nrmT] at hg; omega) | (intro g1 g2; simp [g1, g2]; done) | (intro g1; simp at g1 ⊢; simp [g1]; done) | (simp only [nrmT] at *; omega) | (simp at * <;> omega) | (simp_all <;> omega) | (simp_all; done)
        · intro h; rw [h]; rfl
        · intro b7
          first | (exfalso; simp only [marks_len] at b7; omega) | (simp at b7; done) | (exfalso; simp only [marks_len] at b7; simp at b7; done) | omega | rfl | (intro hg; simp only [nrmT] at hg; omega) | (intro g1 g2; simp [g1, g2]; done) | (intro g1; simp at g1 ⊢; simp [g1]; done) | (simp only [nrmT] at *; omega) | (simp at * <;> omega) | (simp_all <;> omega) | (simp_all; done)
        · intro b8
          refine ⟨rfl, marks_len _ _, ?_, ?_, ?_, ?_, ?_⟩
          · refine laws_markIntS_w_px (covSites Open Dist r) 1 ?_ ?_
            · first | omega | rfl | (intro hg; simp only [nrmT] at hg; omega) | (intro g1 g2; simp [g1, g2]; done) | (intro g1; simp at g1 ⊢; simp [g1]; done) | (simp only [nrmT] at *; omega) | (simp at * <;> omega) | (simp_all <;> omega) | (simp_all; done)
            · have := @covSites_len Open Dist r
              omega
          · simp only [marks_len]
          · refine l_heldIntS_pc (marks 1 (covSites Open Dist r).length) 1 ?_ ?_ ?_
            · first | omega | rfl | (intro hg; simp only [nrmT] at hg; omega) | (intro g1 g2; simp [g1, g2]; done) | (intro g1; simp at g1 ⊢; simp [g1]; done) | (simp only [nrmT] at *; omega) | (simp at * <;> omega) | (simp_all <;> omega) | (simp_all; done)
            · simp only [marks_len]
            · simp only [marks_len]
              have := @covSites_len Open Dist r
              omega
          · intro b9
            try simp only [nrmT] at b9
            first | (exfalso; simp only [marks_len] at b9; omega) | (simp at b9; done) | (exfalso; simp only [marks_len] at b9; simp at b9; done) | omega | rfl | (intro hg; simp only [nrmT] at hg; omega) | (intro g1 g2; simp [g1, g2]; done) | (intro g1; simp at g1 ⊢; simp [g1]; done) | (simp only [nrmT] at *; omega) | (simp at * <;> omega) | (simp_all <;> omega) | (simp_all; done)
          · intro b10
            try simp only [nrmT] at b10
            refine ⟨?_, ?_⟩
            · intro b11
              try simp only [nrmT] at b11
              first | (exfalso; simp only [marks_len] at b11; omega) | (simp at b11; done) | (exfalso; simp only [marks_len] at b11; simp at b11; done) | omega | rfl | (intro hg; simp only [nrmT] at hg; omega) | (intro g1 g2; simp [g1, g2]; done) | (intro g1; simp at g1 ⊢; simp [g1]; done) | (simp only [nrmT] at *; omega) | (simp at * <;> omega) | (simp_all <;> omega) | (simp_all; done)
            · intro b12
              try simp only [nrmT] at b12
              refine ⟨?_, i_CoveringSites_pc Open Dist r, rfl, rfl, l_eqIntS_pc (covSites Open Dist r) (covSites Open Dist r), id, id, rfl, fun _ => rfl, ?_, ?_, ?_⟩
              · refine l_toField_pc Open Dist ?_ ?_ ?_
                · have := szField_bound b2; omega
                · have := szField_bound b2; omega
                · have h := (szField_bound b2).2.2
                  intro xs hx
                  have h := h xs hx
                  omega
              · intro h; rw [h]; rfl
              · intro b13
                first | (exfalso; simp only [marks_len] at b13; omega) | (simp at b13; done) | (exfalso; simp only [marks_len] at b13; simp at b13; done) | omega | rfl | (intro hg; simp only [nrmT] at hg; omega) | (intro g1 g2; simp [g1, g2]; done) | (intro g1; simp at g1 ⊢; simp [g1]; done) | (simp only [nrmT] at *; omega) | (simp at * <;> omega) | (simp_all <;> omega) | (simp_all; done)
              · intro b14
                refine ⟨?_, ?_, ?_, ?_⟩
                · simp only [marks_len]
                · refine l_heldIntS_pc (marks 1 (covSites Open Dist r).length) 1 ?_ ?_ ?_
                  · first | omega | rfl | (intro hg; simp only [nrmT] at hg; omega) | (intro g1 g2; simp [g1, g2]; done) | (intro g1; simp at g1 ⊢; simp [g1]; done) | (simp only [nrmT] at *; omega) | (simp at * <;> omega) | (simp_all <;> omega) | (simp_all; done)
                  · simp only [marks_len]
                  · simp only [marks_len]
                    have := @covSites_len Open Dist r
                    omega
                · intro b15
                  try simp only [nrmT] at b15
                  first | (exfalso; simp only [marks_len] at b15; omega) | (simp at b15; done) | (exfalso; simp only [marks_len] at b15; simp at b15; done) | omega | rfl | (intro hg; simp only [nrmT] at hg; omega) | (intro g1 g2; simp [g1, g2]; done) | (intro g1; simp at g1 ⊢; simp [g1]; done) | (simp only [nrmT] at *; omega) | (simp at * <;> omega) | (simp_all <;> omega) | (simp_all; done)
                · intro b16
                  try simp only [nrmT] at b16
                  refine ⟨?_, ?_⟩
                  · intro b17
                    try simp only [nrmT] at b17
                    first | (exfalso; simp only [marks_len] at b17; omega) | (simp at b17; done) | (exfalso; simp only [marks_len] at b17; simp at b17; done) | omega | rfl | (intro hg; simp only [nrmT] at hg; omega) | (intro g1 g2; simp [g1, g2]; done) | (intro g1; simp at g1 ⊢; simp [g1]; done) | (simp only [nrmT] at *; omega) | (simp at * <;> omega) | (simp_all <;> omega) | (simp_all; done)
                  · intro b18
                    try simp only [nrmT] at b18
                    exact rfl
theorem l_FnExactCoveringSites_pc (Open : List Int) (Dist : List (List Int)) (r : Int)  : PC Try.prog 8 [.agg [.sl (.ints Open), .sl (.rows Dist)], .int .i64 r] (.one (.d (.bool true))) :=
  pc_wf @Try.call8 fun hw => pc_by (by kernel_rfl) Try.func8 @Try.call8 (by kernel_rfl) l_FnExactCoveringSites_C (l_FnExactCoveringSites_A Open Dist r) (by kernel_rfl) (l_FnExactCoveringSites_vc Open Dist r hw.1.1 hw.1.2.1.1 hw.1.2.1.2) (by kernel_rfl)
end Go.Proofs.Ytmmoejdglnnmcaa
