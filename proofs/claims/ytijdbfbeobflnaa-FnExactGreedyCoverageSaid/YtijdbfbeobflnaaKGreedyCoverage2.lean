/- Contracts of the functions that the law reaches. -/
import Derived.Test.YtijdbfbeobflnaaKGreedyCoverage1
import Derived.KernelRfl
set_option linter.unusedVariables false
set_option linter.unusedSimpArgs false
namespace Go.Proofs.Ytijdbfbeobflnaa
open Go

theorem l_FnExactGreedyCoverage_vc (Size : Int) (Sets : List (List Int)) (Costs : List Int) (k : Int)  (w_Sets : (Sets.length : Int) ≤ 9223372036854775807) (v_Sets : ∀ x9 ∈ Sets, (x9.length : Int) ≤ 9223372036854775807) (w_Costs : (Costs.length : Int) ≤ 9223372036854775807) : l_FnExactGreedyCoverage_P Size Sets Costs k := by
  unfold l_FnExactGreedyCoverage_P
  refine ⟨?_, ?_, ?_⟩
  · refine l_szSystem_pc Size Sets Costs 1048576 ?_
    · first | omega | rfl | (intro hg; simp only [nrmT] at hg; omega) | (intro g1 g2; simp [g1, g2]; done) | (intro g1; simp at g1 ⊢; simp [g1]; done) | (simp only [nrmT] at *; omega) | (simp at * <;> omega) | (simp_all <;> omega) | (simp_all; done)
  · intro b1
    try simp only [nrmT] at b1
    exact rfl
  · intro b2
    try simp only [nrmT] at b2
    refine ⟨?_, s_GreedyCoverage_pc Size Sets Costs k, ?_, i_GreedyCoverage_pc Size Sets Costs k, rfl, l_eqIntS_pc (gcL Size Sets Costs k) (gcL Size Sets Costs k), id, id, rfl, fun _ => rfl, ?_, ?_, ?_⟩
    · refine l_toSystem_pc Size Sets Costs ?_ ?_ ?_
      · have := szSys_bound b2; omega
      · have h := (szSys_bound b2).2.1
        intro xs hx
        have h := h xs hx
        omega
      · have := szSys_bound b2; omega
    · refine l_toSystem_pc Size Sets Costs ?_ ?_ ?_
      · have := szSys_bound b2; omega
      · have h := (szSys_bound b2).2.1
        intro xs hx
        have h := h xs hx
        omega
      · have := szSys_bound b2; omega
    · intro h; rw [h]; rfl
    · intro b3
      first | (exfalso; simp only [marks_len] at b3; omega) | (simp at b3; done) | (exfalso; simp only [marks_len] at b3; simp at b3; done) | omega | rfl | (intro hg; simp only [nrmT] at hg; omega) | (intro g1 g2; simp [g1, g2]; done) | (intro g1; simp at g1 ⊢; simp [g1]; done) | (simp only [nrmT] at *; omega) | (simp at * <;> omega) | (simp_all <;> omega) | (simp_all; done)
    · intro b4
      refine ⟨rfl, ?_, l_eqSystem_pc Size Sets Costs Size Sets Costs, ?_, ?_⟩
      · refine l_toSystem_pc Size Sets Costs ?_ ?_ ?_
        · have := szSys_bound b2; omega
        · have h := (szSys_bound b2).2.1
          intro xs hx
          have h := h xs hx
          omega
        · have := szSys_bound b2; omega
      · intro b5
        try simp only [Bool.not_eq_true', Bool.not_eq_false', Bool.not_not] at b5
        first | (exfalso; simp only [marks_len] at b5; omega) | (simp at b5; done) | (exfalso; simp only [marks_len] at b5; simp at b5; done) | omega | rfl | (intro hg; simp only [nrmT] at hg; omega) | (intro g1 g2; simp [g1, g2]; done) | (intro g1; simp at g1 ⊢; simp [g1]; done) | (simp only [nrmT] at *; omega) | (simp at * <;> omega) | (simp_all <;> omega) | (simp_all; done)
      · intro b6
        try simp only [Bool.not_eq_true', Bool.not_eq_false', Bool.not_not] at b6
        refine ⟨?_, id, id, fun _ => rfl, fun _ => l_eqIntS_pc (gcL Size Sets Costs k) (gcL Size Sets Costs k), id, rfl, fun _ => rfl, ?_, id, id, rfl, fun _ => rfl, ?_, ?_, ?_⟩
        · refine laws_markSystem_g_pg (Sets.map List.length) Costs.length 1 ?_ ?_ ?_
          · first | omega | rfl | (intro hg; simp only [nrmT] at hg; omega) | (intro g1 g2; simp [g1, g2]; done) | (intro g1; simp at g1 ⊢; simp [g1]; done) | (simp only [nrmT] at *; omega) | (simp at * <;> omega) | (simp_all <;> omega) | (simp_all; done)
          · rw [List.length_map]; have hz := szSys_bound b2; omega
          · have hz := szSys_bound b2
            have hs := sum_lens20 (xss := Sets) (by omega) (fun xs hx => by have := hz.2.1 xs hx; omega)
            omega
        · first | omega | rfl | (intro hg; simp only [nrmT] at hg; omega) | (intro g1 g2; simp [g1, g2]; done) | (intro g1; simp at g1 ⊢; simp [g1]; done) | (simp only [nrmT] at *; omega) | (simp at * <;> omega) | (simp_all <;> omega) | (simp_all; done)
        · intro h; rw [h]; rfl
        · intro b7
          first | (exfalso; simp only [marks_len] at b7; omega) | (simp at b7; done) | (exfalso; simp only [marks_len] at b7; simp at b7; done) | omega | rfl | (intro hg; simp only [nrmT] at hg; omega) | (intro g1 g2; simp [g1, g2]; done) | (intro g1; simp at g1 ⊢; simp [g1]; done) | (simp only [nrmT] at *; omega) | (simp at * <;> omega) | (simp_all <;> omega) | (simp_all; done)
        · intro b8
          refine ⟨rfl, marks_len _ _, ?_, ?_, ?_, ?_, ?_⟩
          · refine laws_markIntS_w_pw (gcL Size Sets Costs k) 1 ?_ ?_
            · first | omega | rfl | (intro hg; simp only [nrmT] at hg; omega) | (intro g1 g2; simp [g1, g2]; done) | (intro g1; simp at g1 ⊢; simp [g1]; done) | (simp only [nrmT] at *; omega) | (simp at * <;> omega) | (simp_all <;> omega) | (simp_all; done)
            · have := @gcL_len Size Sets Costs k
              omega
          · simp only [marks_len]
          · refine l_heldIntS_pc (marks 1 (gcL Size Sets Costs k).length) 1 ?_ ?_ ?_
            · first | omega | rfl | (intro hg; simp only [nrmT] at hg; omega) | (intro g1 g2; simp [g1, g2]; done) | (intro g1; simp at g1 ⊢; simp [g1]; done) | (simp only [nrmT] at *; omega) | (simp at * <;> omega) | (simp_all <;> omega) | (simp_all; done)
            · simp only [marks_len]
            · simp only [marks_len]
              have := @gcL_len Size Sets Costs k
              omega
          · intro b9
            try simp only [nrmT] at b9
            first | (exfalso; simp only [marks_len] at b9; omega) | (simp at b9; done) | (exfalso; simp only [marks_len] at b9; simp at b9; done) | omega | rfl | (intro hg; simp only [nrmT] at hg; omega) | (intro g1 g2; simp [g1, g2]; done) | (intro g1; simp at g1 ⊢; simp [g1]; done) | (simp only [nrmT] at *; omega) | (simp at * <;> omega) | (simp_all <;> omega) | (simp_all; done)
          · intro b10
            try simp only [nrmT] at b10
            refine ⟨?_, ?_⟩
            · intro b11
              try simp only [nrmT] at b11
              first | (exfalso; simp only [marks_len] at b11; omega) | (simp at b11; done) | (exfalso; simp only [marks_len] at b11; simp at b11; done) | omega | rfl | (intro hg; simp only [nrmT] at hg; omega) | (intro g1 g2; simp [g1, g2]; done) | (intro g1; simp at g1 ⊢; simp [g1]; done) | (simp only [nrmT] at *; omega) | (simp at * <;> omega) | (simp_all <;> omega) | (simp_all; done)
            · intro b12
              try simp only [nrmT] at b12
              refine ⟨?_, i_GreedyCoverage_pc Size Sets Costs k, rfl, l_eqIntS_pc (gcL Size Sets Costs k) (gcL Size Sets Costs k), id, id, rfl, fun _ => rfl, ?_, ?_, ?_⟩
              · refine l_toSystem_pc Size Sets Costs ?_ ?_ ?_
                · have := szSys_bound b2; omega
                · have h := (szSys_bound b2).2.1
                  intro xs hx
                  have h := h xs hx
                  omega
                · have := szSys_bound b2; omega
              · intro h; rw [h]; rfl
              · intro b13
                first | (exfalso; simp only [marks_len] at b13; omega) | (simp at b13; done) | (exfalso; simp only [marks_len] at b13; simp at b13; done) | omega | rfl | (intro hg; simp only [nrmT] at hg; omega) | (intro g1 g2; simp [g1, g2]; done) | (intro g1; simp at g1 ⊢; simp [g1]; done) | (simp only [nrmT] at *; omega) | (simp at * <;> omega) | (simp_all <;> omega) | (simp_all; done)
              · intro b14
                refine ⟨?_, ?_, ?_, ?_⟩
                · simp only [marks_len]
                · refine l_heldIntS_pc (marks 1 (gcL Size Sets Costs k).length) 1 ?_ ?_ ?_
                  · first | omega | rfl | (intro hg; simp only [nrmT] at hg; omega) | (intro g1 g2; simp [g1, g2]; done) | (intro g1; simp at g1 ⊢; simp [g1]; done) | (simp only [nrmT] at *; omega) | (simp at * <;> omega) | (simp_all <;> omega) | (simp_all; done)
                  · simp only [marks_len]
                  · simp only [marks_len]
                    have := @gcL_len Size Sets Costs k
                    omega
                · intro b15
                  try simp only [nrmT] at b15
                  first | (exfalso; simp only [marks_len] at b15; omega) | (simp at b15; done) | (exfalso; simp only [marks_len] at b15; simp at b15; done) | omega | rfl | (intro hg; simp only [nrmT] at hg; omega) | (intro g1 g2; simp [g1, g2]; done) | (intro g1; simp at g1 ⊢; simp [g1]; done) | (simp only [nrmT] at *; omega) | (simp at * <;> omega) | (simp_all <;> omega) | (simp_all; done)
                · intro b16
                  try simp only [nrmT] at b16
                  refine ⟨?_, ?_⟩
                  · intro b17
                    try simp only [nrmT] at b17
                    first | (exfalso; simp only [marks_len] at b17; omega) | (simp at b17; done) | (exfalso; simp only [marks_len] at b17; simp at b17; done) | omega | rfl | (intro hg; simp only [nrmT] at hg; omega) | (intro g1 g2; simp [g1, g2]; done) | (intro g1; simp at g1 ⊢; simp [g1]; done) | (simp only [nrmT] at *; omega) | (simp at * <;> omega) | (simp_all <;> omega) | (simp_all; done)
                  · intro b18
                    try simp only [nrmT] at b18
                    exact rfl
theorem l_FnExactGreedyCoverage_pc (Size : Int) (Sets : List (List Int)) (Costs : List Int) (k : Int)  : PC Try.prog 16 [.agg [.int .i64 Size, .sl (.rows Sets), .sl (.ints Costs)], .int .i64 k] (.one (.d (.bool true))) :=
  pc_wf @Try.call16 fun hw => pc_by (by kernel_rfl) Try.func16 @Try.call16 (by kernel_rfl) l_FnExactGreedyCoverage_C (l_FnExactGreedyCoverage_A Size Sets Costs k) (by kernel_rfl) (l_FnExactGreedyCoverage_vc Size Sets Costs k hw.1.2.1.1 hw.1.2.1.2 hw.1.2.2.1) (by kernel_rfl)
end Go.Proofs.Ytijdbfbeobflnaa
