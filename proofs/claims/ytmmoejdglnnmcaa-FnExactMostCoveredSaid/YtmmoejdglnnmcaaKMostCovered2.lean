/- Contracts of the functions that the law reaches. -/
import Derived.Test.YtmmoejdglnnmcaaKMostCovered1
import Derived.KernelRfl
set_option linter.unusedVariables false
set_option linter.unusedSimpArgs false
namespace Go.Proofs.Ytmmoejdglnnmcaa
open Go

theorem i_sets_vc (n : Int) (hn : 0 ≤ n ∧ n ≤ 8)  : i_sets_P n := by
  unfold i_sets_P
  have p7 := pow8 (n := n.toNat) (by omega)
  have pp := Nat.two_pow_pos n.toNat
  have e0 := one_shl n.toNat
  have e1 : ((2 : Int) ^ n.toNat) = ((2 ^ n.toNat : Nat) : Int) := by simp
  refine ⟨?_, ?_⟩
  · refine ⟨?_, ?_⟩
    · refine ⟨([]), 1, ?_⟩
      refine ⟨?_, rfl, rfl, rfl, ?_⟩
      · refine ⟨?_, ?_, ?_⟩
        · first | omega | rfl | (intro hg; simp only [nrmT] at hg; omega) | (intro g1 g2; simp [g1, g2]; done) | (intro g1; simp at g1 ⊢; simp [g1]; done) | (simp only [nrmT] at *; omega) | (simp at * <;> omega) | (simp_all <;> omega) | (simp_all; done)
        · generalize 2 ^ n.toNat = M at *
          omega
        · rfl
      · first | omega | rfl | (intro hg; simp only [nrmT] at hg; omega) | (intro g1 g2; simp [g1, g2]; done) | (intro g1; simp at g1 ⊢; simp [g1]; done) | (simp only [nrmT] at *; omega) | (simp at * <;> omega) | (simp_all <;> omega) | (simp_all; done)
    · intro out b hJ
      obtain ⟨h1, h2, h3⟩ := hJ
      refine ⟨?_, ?_, ?_, ?_, ?_⟩
      · first | omega | rfl | (intro hg; simp only [nrmT] at hg; omega) | (intro g1 g2; simp [g1, g2]; done) | (intro g1; simp at g1 ⊢; simp [g1]; done) | (simp only [nrmT] at *; omega) | (simp at * <;> omega) | (simp_all <;> omega) | (simp_all; done)
      · first | omega | rfl | (intro hg; simp only [nrmT] at hg; omega) | (intro g1 g2; simp [g1, g2]; done) | (intro g1; simp at g1 ⊢; simp [g1]; done) | (simp only [nrmT] at *; omega) | (simp at * <;> omega) | (simp_all <;> omega) | (simp_all; done)
      · rw [Int.one_mul, e1]
        generalize 2 ^ n.toNat = M at *
        omega
      · intro b1
        try simp only [nrmT] at b1
        refine ⟨?_, rfl, rfl, ?_, ?_, ?_⟩
        · refine i_bag_list_d_pc b ?_
          · rw [Int.one_mul, e1] at b1
            generalize 2 ^ n.toNat = M at *
            omega
        · rw [Int.one_mul, e1] at b1
          rw [h3, preS_len]
          generalize 2 ^ n.toNat = M at *
          omega
        · rw [Int.one_mul, e1] at b1
          generalize 2 ^ n.toNat = M at *
          omega
        · refine ⟨(out ++ [(members (fun k => b.toNat.testBit k) 62)]), (b + 1), ?_⟩
          refine ⟨?_, ?_, rfl, ?_, rfl, rfl⟩
          · refine ⟨?_, ?_, ?_⟩
            · first | omega | rfl | (intro hg; simp only [nrmT] at hg; omega) | (intro g1 g2; simp [g1, g2]; done) | (intro g1; simp at g1 ⊢; simp [g1]; done) | (simp only [nrmT] at *; omega) | (simp at * <;> omega) | (simp_all <;> omega) | (simp_all; done)
            · rw [Int.one_mul, e1] at b1
              generalize 2 ^ n.toNat = M at *
              omega
            · rw [Int.one_mul, e1] at b1
              have hb : b.toNat < 2 ^ n.toNat := by
                generalize 2 ^ n.toNat = M at *
                omega
              rw [h3, show (b + 1).toNat - 1 = (b.toNat - 1) + 1 by omega, preS_succ, show b.toNat - 1 + 1 = b.toNat by omega, list62 (n := n.toNat) (by omega) hb]
          · rw [Int.one_mul, e1] at b1
            first | (show _ < _; omega) | (simp only [i_sets_mJ0]; omega) | (simp only [i_sets_mJ0] at *; simp at *; omega)
          · first | omega | rfl | (intro hg; simp only [nrmT] at hg; omega) | (intro g1 g2; simp [g1, g2]; done) | (intro g1; simp at g1 ⊢; simp [g1]; done) | (simp only [nrmT] at *; omega) | (simp at * <;> omega) | (simp_all <;> omega) | (simp_all; done)
      · intro b2
        try simp only [nrmT] at b2
        refine ⟨out, ?_⟩
        refine ⟨?_, rfl, rfl⟩
        · unfold i_sets_JA0
          rw [Int.one_mul, e1] at b2
          have hm : b.toNat - 1 = 2 ^ n.toNat - 1 := by
            generalize 2 ^ n.toNat = M at *
            omega
          rw [h3, hm]
  · intro out2 hJ
    have h8 := hJ
    refine ⟨rfl, ?_, ?_, ?_⟩
    · refine slices_SortFunc_int_int_rows_pu out2 ?_
      · rw [h8, preS_len]
        generalize 2 ^ n.toNat = M at *
        omega
    · simp
    · rw [h8]; rfl
theorem i_sets_pc (n : Int) (hn : 0 ≤ n ∧ n ≤ 8) : PC Try.prog 102 [.int .i64 n] (.one (.own 22 (.rows (setsL n.toNat)))) :=
  pc_wf @Try.call102 fun _ => pc_by (by kernel_rfl) Try.func102 @Try.call102 (by kernel_rfl) i_sets_C (i_sets_A n) (by kernel_rfl) (i_sets_vc n hn) (by kernel_rfl)
def i_sets_orc : List D → Orc := orcN [none] fun ds => match ds with
  | [.int .i64 n] => some (.one (.own 22 (.rows (setsL n.toNat))))
  | _ => none
abbrev s_l2Sets_JJ0 (n : Int) (out : List (List Int)) (code : Int) : Prop := (1 ≤ code) ∧ (code ≤ ((2 ^ n.toNat : Nat) : Int)) ∧ (out.Perm (preS n.toNat (code.toNat - 1))) ∧ (out.Pairwise (fun x9 y9 => ltOf cmpS y9 x9 = false))
abbrev s_l2Sets_mJ0 (n : Int) (out : List (List Int)) (code : Int) : Nat := (((2 ^ n.toNat : Nat) : Int) - code).toNat
abbrev s_l2Sets_JJ1 (n : Int) (out : List (List Int)) (code : Int) (k : Int) : Prop := (0 ≤ k) ∧ (k ≤ (out.length : Int)) ∧ (∀ j, k.toNat ≤ j → j < out.length → cmpS (lst n.toNat code.toNat) (out.getD j []) < 0)
abbrev s_l2Sets_mJ1 (n : Int) (out : List (List Int)) (code : Int) (k : Int) : Nat := k.toNat
def s_l2Sets_C (f : FuncId) (ds : List D) : Orc := bif Nat.beq f 156 then s_l2Bits_orc ds else bif Nat.beq f 157 then s_l2Before_orc ds else .no
def s_l2Sets_A (n : Int) : Ann := .two (.none) (.two (.reg [(0, .frz)]) (.two (.two (.none) (.loop (cut2 (fun (out : List (List Int)) (code : Int) => s_l2Sets_JJ0 n out code) (fun (out : List (List Int)) (code : Int) => [(0, .d false (.int .i64 n)), (3, .d true (.sl (.rows out))), (4, .d true (.int .i64 code))]) (fun (out : List (List Int)) (code : Int) => [])) (fun g => s_l2Sets_mJ0 n g.1 g.2) (fun g => (fun (out : List (List Int)) (code : Int) => .two (.none) (.two (.two (.none) (.two (.loop (cut1 (fun (k : Int) => s_l2Sets_JJ1 n out code k) (fun (k : Int) => [(0, .d false (.int .i64 n)), (3, .d true (.sl (.rows out))), (4, .d true (.int .i64 code)), (5, .d true (.sl (.ints (members (fun k => code.toNat.testBit k) n.toNat)))), (6, .d true (.int .i64 k))]) (fun (k : Int) => [])) (fun g => s_l2Sets_mJ1 n out code g) (fun _ => .none)) (.none))) (.none))) (g.1) (g.2)))) (.none)))
def s_l2Sets_P (n : Int) : Prop :=
  ((∃ out' : List (List Int), ∃ code' : Int, (s_l2Sets_JJ0 n out' code') ∧ (n = n) ∧ ([] = out') ∧ ((1 : Int) = code')) ∧ (∀ out : List (List Int), ∀ code : Int, (s_l2Sets_JJ0 n out code) → ((0 : Int) ≤ 1) ∧ ((0 : Int) ≤ n) ∧ ((0 : Int) ≤ ((1 : Int) * 2 ^ n.toNat) ∧ (((1 : Int) * 2 ^ n.toNat) : Int) ≤ 9223372036854775807) ∧ (((decide (code < ((1 : Int) * 2 ^ n.toNat))) = true → (PC Try.prog 156 [.int .i64 n, .int .i64 code] (.one (.d (.sl (.ints (members (fun k => code.toNat.testBit k) n.toNat)))))) ∧ ((∃ k' : Int, (s_l2Sets_JJ1 n out code k') ∧ (n = n) ∧ (out = out) ∧ (code = code) ∧ ((members (fun k => code.toNat.testBit k) n.toNat) = (members (fun k => code.toNat.testBit k) n.toNat)) ∧ ((out.length : Int) = k')) ∧ (∀ k : Int, (s_l2Sets_JJ1 n out code k) → ((decide (k > 0)) = true → (decide (k > 0)) = true) ∧ (((decide (k > 0)) = true → -9223372036854775808 ≤ (k - 1) ∧ (k - 1) ≤ 9223372036854775807)) ∧ ((decide (k > 0)) = true → (decide (k > 0)) = true) ∧ ((decide (k > 0)) = true → (decide (k > 0)) = true) ∧ (((decide (k > 0)) = true → (0 : Int) ≤ (k - 1))) ∧ (((decide (k > 0)) = true → ((k - 1) : Int) < out.length)) ∧ ((decide (k > 0)) = true → (decide (k > 0)) = true) ∧ (((decide (k > 0)) = true → (k - 1).toNat < out.length)) ∧ ((decide (k > 0)) = true → (decide (k > 0)) = true) ∧ ((decide (k > 0)) = true → (decide (k > 0)) = true) ∧ ((decide (k > 0)) = true → PC Try.prog 157 [.sl (.ints (members (fun k => code.toNat.testBit k) n.toNat)), .sl (.ints (out.getD ((k - 1).toNat) []))] (.one (.d (.bool (decide (cmpS (members (fun k => code.toNat.testBit k) n.toNat) (out.getD ((k - 1).toNat) []) < 0)))))) ∧ (true = true) ∧ (((decide (k > 0)) = true → (decide (k > 0)) = true)) ∧ (((decide (k > 0)) = false → true = true)) ∧ (((cond (decide (k > 0)) (decide (cmpS (members (fun k => code.toNat.testBit k) n.toNat) (out.getD ((k - 1).toNat) []) < 0)) false) = true → (-9223372036854775808 ≤ (k - 1) ∧ (k - 1) ≤ 9223372036854775807) ∧ (∃ k' : Int, (s_l2Sets_JJ1 n out code k') ∧ (s_l2Sets_mJ1 n out code k' < s_l2Sets_mJ1 n out code k) ∧ (n = n) ∧ (out = out) ∧ (code = code) ∧ ((members (fun k => code.toNat.testBit k) n.toNat) = (members (fun k => code.toNat.testBit k) n.toNat)) ∧ ((k - 1) = k'))) ∧ ((cond (decide (k > 0)) (decide (cmpS (members (fun k => code.toNat.testBit k) n.toNat) (out.getD ((k - 1).toNat) []) < 0)) false) = false → (true = true) ∧ ((0 : Int) ≤ k) ∧ ((k : Int) ≤ out.length) ∧ ((0 : Nat) = 0) ∧ (True) ∧ ((0 + ((out.take k.toNat).drop 0).length) * 24 ≤ 140737488355328) ∧ ((0 + ((out.take k.toNat).drop 0).length) = ([] ++ ((out.take k.toNat).drop 0)).length) ∧ ((1 : Nat) = 1) ∧ ((([] ++ ((out.take k.toNat).drop 0)).length + 1) * 24 ≤ 140737488355328) ∧ ((0 : Int) ≤ k) ∧ ((k : Int) ≤ out.length) ∧ (((0 + ((out.take k.toNat).drop 0).length) + 1) = (([] ++ ((out.take k.toNat).drop 0)) ++ [(members (fun k => code.toNat.testBit k) n.toNat)]).length) ∧ (True) ∧ (((([] ++ ((out.take k.toNat).drop 0)) ++ [(members (fun k => code.toNat.testBit k) n.toNat)]).length + ((out.take out.length).drop k.toNat).length) * 24 ≤ 140737488355328) ∧ (-9223372036854775808 ≤ (code + 1) ∧ (code + 1) ≤ 9223372036854775807) ∧ (∃ out' : List (List Int), ∃ code' : Int, (s_l2Sets_JJ0 n out' code') ∧ (s_l2Sets_mJ0 n out' code' < s_l2Sets_mJ0 n out code) ∧ (n = n) ∧ ((((0 + ((out.take k.toNat).drop 0).length) + 1) + ((out.take out.length).drop k.toNat).length) = ((([] ++ ((out.take k.toNat).drop 0)) ++ [(members (fun k => code.toNat.testBit k) n.toNat)]) ++ ((out.take out.length).drop k.toNat)).length) ∧ (((([] ++ ((out.take k.toNat).drop 0)) ++ [(members (fun k => code.toNat.testBit k) n.toNat)]) ++ ((out.take out.length).drop k.toNat)) = out') ∧ ((code + 1) = code'))))))) ∧ ((decide (code < ((1 : Int) * 2 ^ n.toNat))) = false → (((out : List (List Int)) = (setsL n.toNat)))))))
theorem s_l2Sets_vc (n : Int) (hn : 0 ≤ n ∧ n ≤ 8)  : s_l2Sets_P n := by
  unfold s_l2Sets_P
  have p7 := pow8 (n := n.toNat) (by omega)
  have pp := Nat.two_pow_pos n.toNat
  have e0 := one_shl n.toNat
  have e1 : ((2 : Int) ^ n.toNat) = ((2 ^ n.toNat : Nat) : Int) := by simp
  refine ⟨?_, ?_⟩
  · refine ⟨([]), 1, ?_⟩
    refine ⟨?_, rfl, ?_, rfl⟩
    · refine ⟨?_, ?_, ?_, ?_⟩
      · first | omega | rfl | (intro hg; simp only [nrmT] at hg; omega) | (intro g1 g2; simp [g1, g2]; done) | (intro g1; simp at g1 ⊢; simp [g1]; done) | (simp only [nrmT] at *; omega) | (simp at * <;> omega) | (simp_all <;> omega) | (simp_all; done)
      · generalize 2 ^ n.toNat = M at *
        omega
      · exact List.Perm.refl _
      · exact List.Pairwise.nil
    · first | omega | rfl | (intro hg; simp only [nrmT] at hg; omega) | (intro g1 g2; simp [g1, g2]; done) | (intro g1; simp at g1 ⊢; simp [g1]; done) | (simp only [nrmT] at *; omega) | (simp at * <;> omega) | (simp_all <;> omega) | (simp_all; done)
  · intro out code hJ
    obtain ⟨h1, h2, h3, h4⟩ := hJ
    refine ⟨?_, ?_, ?_, ?_, ?_⟩
    · first | omega | rfl | (intro hg; simp only [nrmT] at hg; omega) | (intro g1 g2; simp [g1, g2]; done) | (intro g1; simp at g1 ⊢; simp [g1]; done) | (simp only [nrmT] at *; omega) | (simp at * <;> omega) | (simp_all <;> omega) | (simp_all; done)
    · first | omega | rfl | (intro hg; simp only [nrmT] at hg; omega) | (intro g1 g2; simp [g1, g2]; done) | (intro g1; simp at g1 ⊢; simp [g1]; done) | (simp only [nrmT] at *; omega) | (simp at * <;> omega) | (simp_all <;> omega) | (simp_all; done)
    · rw [Int.one_mul, e1]
      generalize 2 ^ n.toNat = M at *
      omega
    · intro b1
      try simp only [nrmT] at b1
      refine ⟨?_, ?_, ?_⟩
      · refine s_l2Bits_pc n code ?_ ?_
        · omega
        · rw [Int.one_mul, e1] at b1
          generalize 2 ^ n.toNat = M at *
          omega
      · refine ⟨(out.length : Int), ?_⟩
        refine ⟨?_, rfl, rfl, rfl, rfl, rfl⟩
        · refine ⟨?_, ?_, ?_⟩
          · first | omega | rfl | (intro hg; simp only [nrmT] at hg; omega) | (intro g1 g2; simp [g1, g2]; done) | (intro g1; simp at g1 ⊢; simp [g1]; done) | (simp only [nrmT] at *; omega) | (simp at * <;> omega) | (simp_all <;> omega) | (simp_all; done)
          · first | omega | rfl | (intro hg; simp only [nrmT] at hg; omega) | (intro g1 g2; simp [g1, g2]; done) | (intro g1; simp at g1 ⊢; simp [g1]; done) | (simp only [nrmT] at *; omega) | (simp at * <;> omega) | (simp_all <;> omega) | (simp_all; done)
          · intro j h8 h9; omega
      · intro k hJ
        obtain ⟨h5, h6, h7⟩ := hJ
        refine ⟨id, ?_, id, id, ?_, ?_, id, ?_, id, id, fun _ => s_l2Before_pc (members (fun k => code.toNat.testBit k) n.toNat) (out.getD ((k - 1).toNat) []), rfl, id, fun _ => rfl, ?_, ?_⟩
        · have ol := h3.length_eq
          rw [preS_len] at ol
          rw [Int.one_mul, e1] at b1
          intro hg2
          have := of_decide_eq_true hg2
          generalize 2 ^ n.toNat = M at *
          omega
        · first | omega | rfl | (intro hg; simp only [nrmT] at hg; omega) | (intro g1 g2; simp [g1, g2]; done) | (intro g1; simp at g1 ⊢; simp [g1]; done) | (simp only [nrmT] at *; omega) | (simp at * <;> omega) | (simp_all <;> omega) | (simp_all; done)
        · first | omega | rfl | (intro hg; simp only [nrmT] at hg; omega) | (intro g1 g2; simp [g1, g2]; done) | (intro g1; simp at g1 ⊢; simp [g1]; done) | (simp only [nrmT] at *; omega) | (simp at * <;> omega) | (simp_all <;> omega) | (simp_all; done)
        · first | omega | rfl | (intro hg; simp only [nrmT] at hg; omega) | (intro g1 g2; simp [g1, g2]; done) | (intro g1; simp at g1 ⊢; simp [g1]; done) | (simp only [nrmT] at *; omega) | (simp at * <;> omega) | (simp_all <;> omega) | (simp_all; done)
        · intro b2
          refine ⟨?_, ?_⟩
          · have ol := h3.length_eq
            rw [preS_len] at ol
            rw [Int.one_mul, e1] at b1
            have hk : 0 < k := by
              revert b2
              by_cases h : k > 0
              · intro _; exact h
              · rw [decide_eq_false h]; intro g; cases g
            generalize 2 ^ n.toNat = M at *
            omega
          · refine ⟨(k - 1), ?_⟩
            refine ⟨?_, ?_, rfl, rfl, rfl, rfl, rfl⟩
            · refine ⟨?_, ?_, ?_⟩
              · have ol := h3.length_eq
                rw [preS_len] at ol
                rw [Int.one_mul, e1] at b1
                have hk : 0 < k := by
                  revert b2
                  by_cases h : k > 0
                  · intro _; exact h
                  · rw [decide_eq_false h]; intro g; cases g
                generalize 2 ^ n.toNat = M at *
                omega
              · have ol := h3.length_eq
                rw [preS_len] at ol
                rw [Int.one_mul, e1] at b1
                have hk : 0 < k := by
                  revert b2
                  by_cases h : k > 0
                  · intro _; exact h
                  · rw [decide_eq_false h]; intro g; cases g
                generalize 2 ^ n.toNat = M at *
                omega
              · intro j h8 h9
                have hk : 0 < k ∧ cmpS (lst n.toNat code.toNat) (out.getD (k - 1).toNat []) < 0 := by
                  revert b2
                  by_cases h : k > 0
                  · rw [decide_eq_true h]; intro g; exact ⟨h, of_decide_eq_true g⟩
                  · rw [decide_eq_false h]; intro g; cases g
                by_cases e : j = (k - 1).toNat
                · rw [e]; exact hk.2
                · exact h7 j (by omega) h9
            · have hk : 0 < k := by
                revert b2
                by_cases h : k > 0
                · intro _; exact h
                · rw [decide_eq_false h]; intro g; cases g
              first | (show _ < _; omega) | (simp only [s_l2Sets_mJ1]; omega) | (simp only [s_l2Sets_mJ1] at *; simp at *; omega)
        · intro b3
          refine ⟨rfl, ?_, ?_, rfl, trivial, ?_, ?_, rfl, ?_, ?_, ?_, ?_, trivial, ?_, ?_, ?_⟩
          · first | omega | rfl | (intro hg; simp only [nrmT] at hg; omega) | (intro g1 g2; simp [g1, g2]; done) | (intro g1; simp at g1 ⊢; simp [g1]; done) | (simp only [nrmT] at *; omega) | (simp at * <;> omega) | (simp_all <;> omega) | (simp_all; done)
          · first | omega | rfl | (intro hg; simp only [nrmT] at hg; omega) | (intro g1 g2; simp [g1, g2]; done) | (intro g1; simp at g1 ⊢; simp [g1]; done) | (simp only [nrmT] at *; omega) | (simp at * <;> omega) | (simp_all <;> omega) | (simp_all; done)
          · have ol := h3.length_eq
            rw [preS_len] at ol
            rw [Int.one_mul, e1] at b1
            simp only [List.length_append, List.length_drop, List.length_take, List.length_cons, List.length_nil]
            generalize 2 ^ n.toNat = M at *
            omega
          · simp only [List.length_append, List.length_cons, List.length_nil] <;> omega
          · have ol := h3.length_eq
            rw [preS_len] at ol
            rw [Int.one_mul, e1] at b1
            simp only [List.length_append, List.length_drop, List.length_take, List.length_cons, List.length_nil]
            generalize 2 ^ n.toNat = M at *
            omega
          · first | omega | rfl | (intro hg; simp only [nrmT] at hg; omega) | (intro g1 g2; simp [g1, g2]; done) | (intro g1; simp at g1 ⊢; simp [g1]; done) | (simp only [nrmT] at *; omega) | (simp at * <;> omega) | (simp_all <;> omega) | (simp_all; done)
          · first | omega | rfl | (intro hg; simp only [nrmT] at hg; omega) | (intro g1 g2; simp [g1, g2]; done) | (intro g1; simp at g1 ⊢; simp [g1]; done) | (simp only [nrmT] at *; omega) | (simp at * <;> omega) | (simp_all <;> omega) | (simp_all; done)
          · first | omega | rfl | (intro hg; simp only [nrmT] at hg; omega) | (intro g1 g2; simp [g1, g2]; done) | (intro g1; simp at g1 ⊢; simp [g1]; done) | (simp only [nrmT] at *; omega) | (simp at * <;> omega) | (simp_all <;> omega) | (simp_all; done)
          · have ol := h3.length_eq
            rw [preS_len] at ol
            rw [Int.one_mul, e1] at b1
            simp only [List.length_append, List.length_drop, List.length_take, List.length_cons, List.length_nil]
            generalize 2 ^ n.toNat = M at *
            omega
          · rw [Int.one_mul, e1] at b1
            generalize 2 ^ n.toNat = M at *
            omega
          · refine ⟨((([] ++ ((out.take k.toNat).drop 0)) ++ [(members (fun k => code.toNat.testBit k) n.toNat)]) ++ ((out.take out.length).drop k.toNat)), (code + 1), ?_⟩
            refine ⟨?_, ?_, rfl, ?_, rfl, rfl⟩
            · refine ⟨?_, ?_, ?_, ?_⟩
              · first | omega | rfl | (intro hg; simp only [nrmT] at hg; omega) | (intro g1 g2; simp [g1, g2]; done) | (intro g1; simp at g1 ⊢; simp [g1]; done) | (simp only [nrmT] at *; omega) | (simp at * <;> omega) | (simp_all <;> omega) | (simp_all; done)
              · rw [Int.one_mul, e1] at b1
                generalize 2 ^ n.toNat = M at *
                omega
              · have hq : (((([] : List (List Int)) ++ ((out.take k.toNat).drop 0)) ++ [(members (fun k => code.toNat.testBit k) n.toNat)]) ++ ((out.take out.length).drop k.toNat)) = (out.take k.toNat ++ [lst n.toNat code.toNat]) ++ out.drop k.toNat := by
                  rw [List.nil_append, List.drop_zero, List.take_length]; rfl
                rw [hq, show (code + 1).toNat - 1 = (code.toNat - 1) + 1 by omega]
                exact ins_perm h3 (by rw [show code.toNat - 1 + 1 = code.toNat by omega])
              · have hq : (((([] : List (List Int)) ++ ((out.take k.toNat).drop 0)) ++ [(members (fun k => code.toNat.testBit k) n.toNat)]) ++ ((out.take out.length).drop k.toNat)) = (out.take k.toNat ++ [lst n.toNat code.toNat]) ++ out.drop k.toNat := by
                  rw [List.nil_append, List.drop_zero, List.take_length]; rfl
                rw [hq]
                refine ins_sorted h4 (by omega) h7 ?_
                by_cases e : k.toNat = 0
                · exact .inl e
                · refine .inr fun h => ?_
                  rw [decide_eq_true (show k > 0 by omega), decide_eq_true (by rw [show (k - 1).toNat = k.toNat - 1 by omega]; exact h)] at b3
                  cases b3
            · rw [Int.one_mul, e1] at b1
              first | (show _ < _; omega) | (simp only [s_l2Sets_mJ0]; omega) | (simp only [s_l2Sets_mJ0] at *; simp at *; omega)
            · simp only [List.length_append, List.length_cons, List.length_nil] <;> omega
    · intro b4
      try simp only [nrmT] at b4
      rw [Int.one_mul, e1] at b4
      exact sets_done h3 (by
        generalize 2 ^ n.toNat = M at *
        omega) h4
theorem s_l2Sets_pc (n : Int) (hn : 0 ≤ n ∧ n ≤ 8) : PC Try.prog 98 [.int .i64 n] (.one (.d (.sl (.rows (setsL n.toNat))))) :=
  pc_wf @Try.call98 fun _ => pc_by (by kernel_rfl) Try.func98 @Try.call98 (by kernel_rfl) s_l2Sets_C (s_l2Sets_A n) (by kernel_rfl) (s_l2Sets_vc n hn) (by kernel_rfl)
def s_l2Sets_orc : List D → Orc := orcN [none] fun ds => match ds with
  | [.int .i64 n] => some (.one (.d (.sl (.rows (setsL n.toNat)))))
  | _ => none
def lsB (v : List Int → Int) (b s : List Int) : List Int := if v s < v b then s else b
def leastL (v : List Int → Int) (l : List (List Int)) : List Int := l.foldl (lsB v) (l.getD 0 [])
theorem fold_snoc {α β : Type} {f : β → α → β} {b : β} {l : List α} {i : Int} {d : α} (h0 : 0 ≤ i) (h : i < (l.length : Int)) : (l.take (i + 1).toNat).foldl f b = f ((l.take i.toNat).foldl f b) (l.getD i.toNat d) := by
  rw [take_step (d := d) h0 h, List.foldl_append]
  rfl
theorem leastL_mem {v : List Int → Int} {l : List (List Int)} (h : 0 < l.length) : leastL v l ∈ l := by
  have key : ∀ (r : List (List Int)) (b : List Int), b ∈ l → (∀ x ∈ r, x ∈ l) → r.foldl (lsB v) b ∈ l := by
    intro r
    induction r with
    | nil => intro b hb _; exact hb
    | cons x r ih =>
      intro b hb hr
      refine ih _ ?_ fun y hy => hr y (List.mem_cons_of_mem _ hy)
      unfold lsB
      split
      · exact hr x List.mem_cons_self
      · exact hb
  exact key l _ (getD_mem h) fun x hx => hx
theorem filter_step {l : List (List Int)} {p : List Int → Bool} {i : Int} (h0 : 0 ≤ i) (h : i < (l.length : Int)) : (l.take (i + 1).toNat).filter p = if p (l.getD i.toNat []) = true then (l.take i.toNat).filter p ++ [l.getD i.toNat []] else (l.take i.toNat).filter p := by
  rw [take_step (d := []) h0 h, List.filter_append]
  by_cases e : p (l.getD i.toNat []) = true
  · rw [if_pos e, List.filter_cons, if_pos e]; rfl
  · rw [if_neg e, List.filter_cons, if_neg e]; simp
def chs (n : Nat) : List (List Int) := [[]] ++ setsL n
theorem chs_len (n : Nat) : (chs n).length = 2 ^ n := by
  unfold chs
  rw [List.length_append, setsL_len]
  have := Nat.two_pow_pos n
  simp only [List.length_cons, List.length_nil]
  omega
theorem chs_small {n : Nat} (h : n ≤ 8) : (chs n).length ≤ 256 := by rw [chs_len]; exact pow8 h
theorem chs_mem {n : Nat} {s : List Int} : s ∈ chs n ↔ ∃ c, c < 2 ^ n ∧ lst n c = s := by
  unfold chs
  rw [List.mem_append, setsL_mem]
  have h0 : lst n 0 = [] := by
    cases e : lst n 0 with
    | nil => rfl
    | cons x r =>
      have hm : x ∈ lst n 0 := by rw [e]; exact List.mem_cons_self
      have := (mem_members.1 hm).2.2
      rw [Nat.zero_testBit] at this
      cases this
  constructor
  · rintro (h | ⟨c, h1, h2, h3⟩)
    · exact ⟨0, Nat.two_pow_pos n, by rw [List.mem_singleton.1 h, h0]⟩
    · exact ⟨c, h2, h3⟩
  · rintro ⟨c, h1, h2⟩
    by_cases e : c = 0
    · left; rw [← h2, e, h0]; exact List.mem_singleton.2 rfl
    · exact .inr ⟨c, by omega, h1, h2⟩
theorem chs_rising {n : Nat} {s : List Int} (h : s ∈ chs n) : rising s 0 ((n : Int) - 1) = true := by
  obtain ⟨c, _, rfl⟩ := chs_mem.1 h
  exact rising_asc (asc_members _ _) fun x hx => by have := mem_members.1 hx; omega
def s_l6Choices_C (f : FuncId) (ds : List D) : Orc := bif Nat.beq f 98 then s_l2Sets_orc ds else .no
def s_l6Choices_A (n : Int) : Ann := .two (.none) (.two (.reg [(0, .frz)]) (.none))
def s_l6Choices_P (n : Int) : Prop :=
  (PC Try.prog 98 [.int .i64 n] (.one (.d (.sl (.rows (setsL n.toNat)))))) ∧ ((1 : Nat) = 1) ∧ (True) ∧ ((1 + (setsL n.toNat).length) * 24 ≤ 140737488355328) ∧ (((1 + (setsL n.toNat).length) = ([[]] ++ (setsL n.toNat)).length) ∧ ((([[]] ++ (setsL n.toNat)) : List (List Int)) = (chs n.toNat)))
theorem s_l6Choices_vc (n : Int) (hn : 0 ≤ n ∧ n ≤ 8)  : s_l6Choices_P n := by
  unfold s_l6Choices_P
  have cs := chs_small (n := n.toNat) (by omega)
  have ce : (chs n.toNat).length = 1 + (setsL n.toNat).length := by unfold chs; rw [List.length_append]; rfl
  refine ⟨?_, rfl, trivial, ?_, ?_, ?_⟩
  · refine s_l2Sets_pc n ?_
    · first | omega | rfl | (intro hg; simp only [nrmT] at hg; omega) | (intro g1 g2; simp [g1, g2]; done) | (intro g1; simp at g1 ⊢; simp [g1]; done) | (simp only [nrmT] at *; omega) | (simp at * <;> omega) | (simp_all <;> omega) | (simp_all; done)
  · first | omega | rfl | (intro hg; simp only [nrmT] at hg; omega) | (intro g1 g2; simp [g1, g2]; done) | (intro g1; simp at g1 ⊢; simp [g1]; done) | (simp only [nrmT] at *; omega) | (simp at * <;> omega) | (simp_all <;> omega) | (simp_all; done)
  · first | omega | rfl | (intro hg; simp only [nrmT] at hg; omega) | (intro g1 g2; simp [g1, g2]; done) | (intro g1; simp at g1 ⊢; simp [g1]; done) | (simp only [nrmT] at *; omega) | (simp at * <;> omega) | (simp_all <;> omega) | (simp_all; done)
  · first | omega | rfl | (intro hg; simp only [nrmT] at hg; omega) | (intro g1 g2; simp [g1, g2]; done) | (intro g1; simp at g1 ⊢; simp [g1]; done) | (simp only [nrmT] at *; omega) | (simp at * <;> omega) | (simp_all <;> omega) | (simp_all; done)
theorem s_l6Choices_pc (n : Int) (hn : 0 ≤ n ∧ n ≤ 8) : PC Try.prog 109 [.int .i64 n] (.one (.d (.sl (.rows (chs n.toNat))))) :=
  pc_wf @Try.call109 fun _ => pc_by (by kernel_rfl) Try.func109 @Try.call109 (by kernel_rfl) s_l6Choices_C (s_l6Choices_A n) (by kernel_rfl) (s_l6Choices_vc n hn) (by kernel_rfl)
def s_l6Choices_orc : List D → Orc := orcN [none] fun ds => match ds with
  | [.int .i64 n] => some (.one (.d (.sl (.rows (chs n.toNat)))))
  | _ => none
theorem fold_pick {v : List Int → Int} {p : List Int → Bool} {f : List Int → List Int → List Int} (hf : ∀ b x, f b x = if p x = true ∧ v x < v b then x else b) : ∀ (l : List (List Int)) (b : List Int), l.foldl f b = (l.filter p).foldl (lsB v) b
  | [], _ => rfl
  | x :: r, b => by
    rw [List.foldl_cons, hf, fold_pick hf r, List.filter_cons]
    by_cases e : p x = true
    · rw [if_pos e, List.foldl_cons]
      congr 1
      unfold lsB
      by_cases e2 : v x < v b
      · rw [if_pos ⟨e, e2⟩, if_pos e2]
      · rw [if_neg (fun h => e2 h.2), if_neg e2]
    · rw [if_neg e, if_neg (fun h => e h.1)]
theorem cond_and {a b : Bool} : cond a b false = (a && b) := by cases a <;> rfl
theorem pickS_all {v : List Int → Int} {p : List Int → Bool} {n : Nat} (hp : p [] = true) : ((chs n).filter p).foldl (lsB v) [] = leastL v ((chs n).filter p) := by
  unfold leastL chs
  rw [List.filter_append, List.filter_cons, if_pos hp]
  rfl
theorem chs_pos {p : List Int → Bool} {n : Nat} (hp : p [] = true) : 0 < ((chs n).filter p).length := by
  unfold chs
  rw [List.filter_append, List.filter_cons, if_pos hp]
  simp
theorem chs_len8 {n : Nat} {s : List Int} (h : s ∈ chs n) : s.length ≤ n := by
  obtain ⟨c, _, rfl⟩ := chs_mem.1 h
  exact members_len_le _ _
theorem popc_cov {Size : Int} {Sets : List (List Int)} {Costs s : List Int} (h : goodSys Size Sets Costs = true) (hc : rising s 0 ((Sets.length : Int) - 1) = true) : popc (covTo Sets s s.length) = ((covL Sets s s.length).length : Int) := by
  unfold popc
  congr 1
  congr 1
  refine asc_ext (asc_members _ _) (asc_covL _) fun x => ?_
  rw [mem_members, mem_covL]
  constructor
  · rintro ⟨h1, h2, h3⟩
    rw [covTo_bit h hc _ (Nat.le_refl _), show ((x.toNat : Nat) : Int) = x by omega] at h3
    exact h3
  · rintro ⟨j, h1, h2⟩
    have h3 := rising_at hc j h1
    have h4 := set_mem h (k := (s.getD j 0).toNat) (by omega) x h2
    refine ⟨h4.1, by omega, ?_⟩
    rw [covTo_bit h hc _ (Nat.le_refl _), show ((x.toNat : Nat) : Int) = x by omega]
    exact ⟨j, h1, h2⟩
theorem nil_chs (n : Nat) : ([] : List Int) ∈ chs n := List.mem_append_left _ (List.mem_singleton.2 rfl)
def covN (Sets : List (List Int)) (s : List Int) : Int := -((covL Sets s s.length).length : Int)
def mcS (Sets : List (List Int)) (k : Int) : List Int := leastL (covN Sets) ((chs Sets.length).filter (fun s9 => decide ((s9.length : Int) ≤ k)))
def mcL (Size : Int) (Sets : List (List Int)) (Costs : List Int) (k : Int) : List Int := if (goodSys Size Sets Costs && inB k 0 8) = true then mcS Sets k else []
theorem mcL_len {Size : Int} {Sets : List (List Int)} {Costs : List Int} {k : Int} : (mcL Size Sets Costs k).length ≤ 8 := by
  unfold mcL
  split
  · rename_i h
    rw [Bool.and_eq_true] at h
    have hk := inB_le h.2
    have h1 := chs_len8 (List.mem_filter.1 (leastL_mem (v := covN Sets) (chs_pos (n := Sets.length) (p := fun s9 => decide ((s9.length : Int) ≤ k)) (decide_eq_true hk.1)))).1
    have := gs_facts h.1
    unfold mcS
    omega
  · simp
def mcB (Sets : List (List Int)) (k : Int) (b s : List Int) : List Int := if (cond (decide ((s.length : Int) ≤ k)) (decide (((covL Sets s s.length).length : Int) > ((covL Sets b b.length).length : Int))) false) = true then s else b
theorem mc_fold {Sets : List (List Int)} {k : Int} (hk : 0 ≤ k) (n : Nat) : (chs n).foldl (mcB Sets k) [] = leastL (covN Sets) ((chs n).filter (fun s9 => decide ((s9.length : Int) ≤ k))) := by
  rw [fold_pick (v := covN Sets) (p := fun s9 => decide ((s9.length : Int) ≤ k)), pickS_all (decide_eq_true hk)]
  intro b x
  unfold mcB covN
  rw [cond_and]
  by_cases e : (x.length : Int) ≤ k
  · rw [decide_eq_true e, Bool.true_and]
    by_cases e2 : ((covL Sets x x.length).length : Int) > ((covL Sets b b.length).length : Int)
    · rw [if_pos (decide_eq_true e2), if_pos ⟨rfl, by omega⟩]
    · rw [if_neg (by rw [decide_eq_false e2]; decide), if_neg (fun h => by have := h.2; omega)]
  · rw [decide_eq_false e, Bool.false_and, if_neg (by decide), if_neg (fun h => by cases h.1)]
def i_MostCovered_1_C (f : FuncId) (ds : List D) : Orc := .no
def i_MostCovered_1_A (choice : List Int) (k : Int) : Ann := .none
def i_MostCovered_1_P (choice : List Int) (k : Int) : Prop :=
  (((decide ((choice.length : Int) ≤ k)) = (decide ((choice.length : Int) ≤ k))))
theorem i_MostCovered_1_vc (choice : List Int) (k : Int)  (w_choice : (choice.length : Int) ≤ 9223372036854775807) : i_MostCovered_1_P choice k := by
  unfold i_MostCovered_1_P
  exact rfl
theorem i_MostCovered_1_pc (choice : List Int) (k : Int)  : PC Try.prog 130 [.sl (.ints choice), .bx [.int .i64 k] 0] (.one (.d (.bool (decide ((choice.length : Int) ≤ k))))) :=
  pc_wf @Try.call130 fun hw => pc_by (by kernel_rfl) Try.func130 @Try.call130 (by kernel_rfl) i_MostCovered_1_C (i_MostCovered_1_A choice k) (by kernel_rfl) (i_MostCovered_1_vc choice k hw.1) (by kernel_rfl)
def i_MostCovered_1_orc : List D → Orc := orcN [some .ints, none] fun ds => match ds with
  | [.sl (.ints choice), .bx [.int .i64 k] 0] => some (.one (.d (.bool (decide ((choice.length : Int) ≤ k)))))
  | _ => none
abbrev i_lists_upto_JJ0 (below : Int) (k : Int) (out : List (List Int)) (i : Int) : Prop := (0 ≤ i) ∧ (i ≤ ((chs below.toNat).length : Int)) ∧ (out = ((chs below.toNat).take i.toNat).filter (fun s9 => decide ((s9.length : Int) ≤ k)))
abbrev i_lists_upto_mJ0 (below : Int) (k : Int) (out : List (List Int)) (i : Int) : Nat := ((chs below.toNat).length - i).toNat
def i_lists_upto_C (f : FuncId) (ds : List D) : Orc := bif Nat.beq f 102 then i_sets_orc ds else bif Nat.beq f 130 then i_MostCovered_1_orc ds else .no
def i_lists_upto_A (below : Int) (k : Int) : Ann := .two (.none) (.two (.none) (.two (.two (.reg [(0, .frz)]) (.loop (cut2 (fun (out : List (List Int)) (i : Int) => i_lists_upto_JJ0 below k out i) (fun (out : List (List Int)) (i : Int) => [(1, .d false (.fn 130 0 [.bx [.int .i64 k] 0])), (5, .own 1000000 out.length), (13, .own 13 (1 + (setsL below.toNat).length)), (14, .d true (.int .i64 ((1 + (setsL below.toNat).length) : Int))), (15, .d true (.int .i64 i))]) (fun (out : List (List Int)) (i : Int) => [(1000000, .arr true 22 (.rows out)), (13, .arr true 22 (.rows ([[]] ++ setsL below.toNat)))])) (fun g => i_lists_upto_mJ0 below k g.1 g.2) (fun _ => .none))) (.none)))
def i_lists_upto_P (below : Int) (k : Int) : Prop :=
  (PC Try.prog 102 [.int .i64 below] (.one (.own 22 (.rows (setsL below.toNat))))) ∧ ((1 : Nat) = 1) ∧ ((setsL below.toNat).length = (setsL below.toNat).length) ∧ ((1 + (setsL below.toNat).length) * 24 ≤ 140737488355328) ∧ ((∃ out' : List (List Int), ∃ i' : Int, (i_lists_upto_JJ0 below k out' i') ∧ ((.fn 130 0 [.bx [.int .i64 k] 0] : D) = (.fn 130 0 [.bx [.int .i64 k] 0] : D)) ∧ ((0 : Nat) = out'.length) ∧ ((1 + (setsL below.toNat).length) = (1 + (setsL below.toNat).length)) ∧ (((1 + (setsL below.toNat).length) : Int) = ((1 + (setsL below.toNat).length) : Int)) ∧ ((0 : Int) = i') ∧ ([] = out') ∧ ((([[]] ++ setsL below.toNat) : List (List Int)) = ([[]] ++ setsL below.toNat))) ∧ (∀ out : List (List Int), ∀ i : Int, (i_lists_upto_JJ0 below k out i) → (((decide (i < ((1 + (setsL below.toNat).length) : Int))) = true → ((0 : Int) ≤ i) ∧ ((i : Int) < ((1 + (setsL below.toNat).length) : Int)) ∧ (i.toNat < ([[]] ++ setsL below.toNat).length) ∧ (PC Try.prog 130 [.sl (.ints (([[]] ++ setsL below.toNat).getD i.toNat [])), .bx [.int .i64 k] 0] (.one (.d (.bool (decide (((([[]] ++ setsL below.toNat).getD i.toNat []).length : Int) ≤ k)))))) ∧ (((decide (((([[]] ++ setsL below.toNat).getD i.toNat []).length : Int) ≤ k)) = true → (out.length = out.length) ∧ ((1 : Nat) = 1) ∧ ((out.length + 1) * 24 ≤ 140737488355328) ∧ (-9223372036854775808 ≤ (i + 1) ∧ (i + 1) ≤ 9223372036854775807) ∧ (∃ out' : List (List Int), ∃ i' : Int, (i_lists_upto_JJ0 below k out' i') ∧ (i_lists_upto_mJ0 below k out' i' < i_lists_upto_mJ0 below k out i) ∧ ((.fn 130 0 [.bx [.int .i64 k] 0] : D) = (.fn 130 0 [.bx [.int .i64 k] 0] : D)) ∧ ((out.length + 1) = out'.length) ∧ ((1 + (setsL below.toNat).length) = (1 + (setsL below.toNat).length)) ∧ (((1 + (setsL below.toNat).length) : Int) = ((1 + (setsL below.toNat).length) : Int)) ∧ ((i + 1) = i') ∧ ((out ++ [(([[]] ++ setsL below.toNat).getD i.toNat [])]) = out') ∧ ((([[]] ++ setsL below.toNat) : List (List Int)) = ([[]] ++ setsL below.toNat)))) ∧ ((decide (((([[]] ++ setsL below.toNat).getD i.toNat []).length : Int) ≤ k)) = false → (-9223372036854775808 ≤ (i + 1) ∧ (i + 1) ≤ 9223372036854775807) ∧ (∃ out' : List (List Int), ∃ i' : Int, (i_lists_upto_JJ0 below k out' i') ∧ (i_lists_upto_mJ0 below k out' i' < i_lists_upto_mJ0 below k out i) ∧ ((.fn 130 0 [.bx [.int .i64 k] 0] : D) = (.fn 130 0 [.bx [.int .i64 k] 0] : D)) ∧ (out.length = out'.length) ∧ ((1 + (setsL below.toNat).length) = (1 + (setsL below.toNat).length)) ∧ (((1 + (setsL below.toNat).length) : Int) = ((1 + (setsL below.toNat).length) : Int)) ∧ ((i + 1) = i') ∧ (out = out') ∧ ((([[]] ++ setsL below.toNat) : List (List Int)) = ([[]] ++ setsL below.toNat)))))) ∧ ((decide (i < ((1 + (setsL below.toNat).length) : Int))) = false → ((out.length = out.length) ∧ ((out : List (List Int)) = ((chs below.toNat).filter (fun s9 => decide ((s9.length : Int) ≤ k)))))))))
theorem i_lists_upto_vc (below : Int) (k : Int) (hn : 0 ≤ below ∧ below ≤ 8) (hx : ∀ s ∈ chs below.toNat, True)  : i_lists_upto_P below k := by
  unfold i_lists_upto_P
  have cs := chs_small (n := below.toNat) (by omega)
  have ce : (chs below.toNat).length = 1 + (setsL below.toNat).length := by unfold chs; rw [List.length_append]; rfl
  refine ⟨?_, rfl, rfl, ?_, ?_, ?_⟩
  · refine i_sets_pc below ?_
    · first | omega | rfl | (intro hg; simp only [nrmT] at hg; omega) | (intro g1 g2; simp [g1, g2]; done) | (intro g1; simp at g1 ⊢; simp [g1]; done) | (simp only [nrmT] at *; omega) | (simp at * <;> omega) | (simp_all <;> omega) | (simp_all; done)
  · first | omega | rfl | (intro hg; simp only [nrmT] at hg; omega) | (intro g1 g2; simp [g1, g2]; done) | (intro g1; simp at g1 ⊢; simp [g1]; done) | (simp only [nrmT] at *; omega) | (simp at * <;> omega) | (simp_all <;> omega) | (simp_all; done)
  · refine ⟨([]), 0, ?_⟩
    refine ⟨?_, rfl, rfl, rfl, rfl, rfl, ?_, rfl⟩
    · refine ⟨?_, ?_, ?_⟩
      · first | omega | rfl | (intro hg; simp only [nrmT] at hg; omega) | (intro g1 g2; simp [g1, g2]; done) | (intro g1; simp at g1 ⊢; simp [g1]; done) | (simp only [nrmT] at *; omega) | (simp at * <;> omega) | (simp_all <;> omega) | (simp_all; done)
      · first | omega | rfl | (intro hg; simp only [nrmT] at hg; omega) | (intro g1 g2; simp [g1, g2]; done) | (intro g1; simp at g1 ⊢; simp [g1]; done) | (simp only [nrmT] at *; omega) | (simp at * <;> omega) | (simp_all <;> omega) | (simp_all; done)
      · rfl
    · first | omega | rfl | (intro hg; simp only [nrmT] at hg; omega) | (intro g1 g2; simp [g1, g2]; done) | (intro g1; simp at g1 ⊢; simp [g1]; done) | (simp only [nrmT] at *; omega) | (simp at * <;> omega) | (simp_all <;> omega) | (simp_all; done)
  · intro out i hJ
    obtain ⟨h1, h2, h3⟩ := hJ
    refine ⟨?_, ?_⟩
    · intro b1
      try simp only [nrmT] at b1
      refine ⟨?_, ?_, ?_, i_MostCovered_1_pc (([[]] ++ setsL below.toNat).getD i.toNat []) k, ?_, ?_⟩
      · first | omega | rfl | (intro hg; simp only [nrmT] at hg; omega) | (intro g1 g2; simp [g1, g2]; done) | (intro g1; simp at g1 ⊢; simp [g1]; done) | (simp only [nrmT] at *; omega) | (simp at * <;> omega) | (simp_all <;> omega) | (simp_all; done)
      · first | omega | rfl | (intro hg; simp only [nrmT] at hg; omega) | (intro g1 g2; simp [g1, g2]; done) | (intro g1; simp at g1 ⊢; simp [g1]; done) | (simp only [nrmT] at *; omega) | (simp at * <;> omega) | (simp_all <;> omega) | (simp_all; done)
      · show i.toNat < (chs below.toNat).length
        omega
      · intro b2
        try simp only [nrmT] at b2
        refine ⟨rfl, rfl, ?_, ?_, ?_⟩
        · have := List.length_filter_le (fun s9 => decide ((s9.length : Int) ≤ k)) ((chs below.toNat).take i.toNat)
          rw [← h3, List.length_take] at this
          omega
        · first | omega | rfl | (intro hg; simp only [nrmT] at hg; omega) | (intro g1 g2; simp [g1, g2]; done) | (intro g1; simp at g1 ⊢; simp [g1]; done) | (simp only [nrmT] at *; omega) | (simp at * <;> omega) | (simp_all <;> omega) | (simp_all; done)
        · refine ⟨(out ++ [(([[]] ++ setsL below.toNat).getD i.toNat [])]), (i + 1), ?_⟩
          refine ⟨?_, ?_, rfl, ?_, rfl, rfl, rfl, rfl, rfl⟩
          · refine ⟨?_, ?_, ?_⟩
            · first | omega | rfl | (intro hg; simp only [nrmT] at hg; omega) | (intro g1 g2; simp [g1, g2]; done) | (intro g1; simp at g1 ⊢; simp [g1]; done) | (simp only [nrmT] at *; omega) | (simp at * <;> omega) | (simp_all <;> omega) | (simp_all; done)
            · first | omega | rfl | (intro hg; simp only [nrmT] at hg; omega) | (intro g1 g2; simp [g1, g2]; done) | (intro g1; simp at g1 ⊢; simp [g1]; done) | (simp only [nrmT] at *; omega) | (simp at * <;> omega) | (simp_all <;> omega) | (simp_all; done)
            · rw [filter_step h1 (by omega), ← h3, if_pos (by first | exact b2 | exact decide_eq_true b2)]; rfl
          · first | (show _ < _; omega) | (simp only [i_lists_upto_mJ0]; omega) | (simp only [i_lists_upto_mJ0] at *; simp at *; omega)
          · first | omega | rfl | (intro hg; simp only [nrmT] at hg; omega) | (intro g1 g2; simp [g1, g2]; done) | (intro g1; simp at g1 ⊢; simp [g1]; done) | (simp only [nrmT] at *; omega) | (simp at * <;> omega) | (simp_all <;> omega) | (simp_all; done)
      · intro b3
        try simp only [nrmT] at b3
        refine ⟨?_, ?_⟩
        · first | omega | rfl | (intro hg; simp only [nrmT] at hg; omega) | (intro g1 g2; simp [g1, g2]; done) | (intro g1; simp at g1 ⊢; simp [g1]; done) | (simp only [nrmT] at *; omega) | (simp at * <;> omega) | (simp_all <;> omega) | (simp_all; done)
        · refine ⟨out, (i + 1), ?_⟩
          refine ⟨?_, ?_, rfl, rfl, rfl, rfl, rfl, rfl, rfl⟩
          · refine ⟨?_, ?_, ?_⟩
            · first | omega | rfl | (intro hg; simp only [nrmT] at hg; omega) | (intro g1 g2; simp [g1, g2]; done) | (intro g1; simp at g1 ⊢; simp [g1]; done) | (simp only [nrmT] at *; omega) | (simp at * <;> omega) | (simp_all <;> omega) | (simp_all; done)
            · first | omega | rfl | (intro hg; simp only [nrmT] at hg; omega) | (intro g1 g2; simp [g1, g2]; done) | (intro g1; simp at g1 ⊢; simp [g1]; done) | (simp only [nrmT] at *; omega) | (simp at * <;> omega) | (simp_all <;> omega) | (simp_all; done)
            · rw [filter_step h1 (by omega), ← h3]
              exact (if_neg (by first | exact ne_true_of_eq_false b3 | exact fun h => absurd (of_decide_eq_true h) (Int.not_le.2 b3))).symm
          · first | (show _ < _; omega) | (simp only [i_lists_upto_mJ0]; omega) | (simp only [i_lists_upto_mJ0] at *; simp at *; omega)
    · intro b4
      try simp only [nrmT] at b4
      refine ⟨rfl, ?_⟩
      · rw [h3, take_all (by omega)]
theorem i_lists_upto_pc (below : Int) (k : Int) (hn : 0 ≤ below ∧ below ≤ 8) (hx : ∀ s ∈ chs below.toNat, True) : PC Try.prog 112 [.int .i64 below, .fn 130 0 [.bx [.int .i64 k] 0]] (.one (.d (.sl (.rows ((chs below.toNat).filter (fun s9 => decide ((s9.length : Int) ≤ k))))))) :=
  pc_wf @Try.call112 fun _ => pc_by (by kernel_rfl) Try.func112 @Try.call112 (by kernel_rfl) i_lists_upto_C (i_lists_upto_A below k) (by kernel_rfl) (i_lists_upto_vc below k hn hx) (by kernel_rfl)
def i_lists_upto_orc : List D → Orc := orcN [none, none] fun ds => match ds with
  | [.int .i64 below, .fn f0 0 [.bx [.int .i64 k] 0]] => bif Nat.beq f0 130 then some (.one (.d (.sl (.rows ((chs below.toNat).filter (fun s9 => decide ((s9.length : Int) ≤ k))))))) else none
  | _ => none
def i_MostCovered_2_C (f : FuncId) (ds : List D) : Orc := bif Nat.beq f 132 then i_System_covered_orc ds else bif Nat.beq f 133 then i_bag_size_orc ds else .no
def i_MostCovered_2_A (choice : List Int) (Size : Int) (Sets : List (List Int)) (Costs : List Int) : Ann := .none
def i_MostCovered_2_P (choice : List Int) (Size : Int) (Sets : List (List Int)) (Costs : List Int) : Prop :=
  (PC Try.prog 132 [.agg [.int .i64 Size, .sl (.rows Sets), .sl (.ints Costs)], .sl (.ints choice)] (.one (.d (.int .u64 ((covTo Sets choice choice.length : Nat) : Int))))) ∧ (PC Try.prog 133 [.int .u64 ((covTo Sets choice choice.length : Nat) : Int)] (.one (.d (.int .i64 (popc ((covTo Sets choice choice.length : Nat) : Int).toNat))))) ∧ (-9223372036854775808 ≤ (-(popc ((covTo Sets choice choice.length : Nat) : Int).toNat)) ∧ (-(popc ((covTo Sets choice choice.length : Nat) : Int).toNat)) ≤ 9223372036854775807) ∧ (((-(popc ((covTo Sets choice choice.length : Nat) : Int).toNat)) = (covN Sets choice)))
theorem i_MostCovered_2_vc (choice : List Int) (Size : Int) (Sets : List (List Int)) (Costs : List Int) (hh : goodSys Size Sets Costs = true ∧ rising choice 0 ((Sets.length : Int) - 1) = true) (w_choice : (choice.length : Int) ≤ 9223372036854775807) (w_Sets : (Sets.length : Int) ≤ 9223372036854775807) (v_Sets : ∀ x9 ∈ Sets, (x9.length : Int) ≤ 9223372036854775807) (w_Costs : (Costs.length : Int) ≤ 9223372036854775807) : i_MostCovered_2_P choice Size Sets Costs := by
  unfold i_MostCovered_2_P
  refine ⟨?_, ?_, ?_, ?_⟩
  · refine i_System_covered_pc Size Sets Costs choice ?_ ?_
    · exact hh.1
    · exact hh.2
  · refine i_bag_size_pc ((covTo Sets choice choice.length : Nat) : Int) ?_
    · have := covTo_lt hh.1 hh.2 choice.length (Nat.le_refl _)
      have p8 := pow8 (n := Size.toNat) (by have := gs_facts hh.1; omega)
      omega
  · have := popc_bound (covTo Sets choice choice.length)
    simp only [Int.toNat_natCast]
    omega
  · simp only [Int.toNat_natCast]
    unfold covN
    rw [popc_cov hh.1 hh.2]
theorem i_MostCovered_2_pc (choice : List Int) (Size : Int) (Sets : List (List Int)) (Costs : List Int) (hh : goodSys Size Sets Costs = true ∧ rising choice 0 ((Sets.length : Int) - 1) = true) : PC Try.prog 131 [.sl (.ints choice), .bx [.int .i64 Size, .sl (.rows Sets), .sl (.ints Costs)] 0] (.one (.d (.int .i64 (covN Sets choice)))) :=
  pc_wf @Try.call131 fun hw => pc_by (by kernel_rfl) Try.func131 @Try.call131 (by kernel_rfl) i_MostCovered_2_C (i_MostCovered_2_A choice Size Sets Costs) (by kernel_rfl) (i_MostCovered_2_vc choice Size Sets Costs hh hw.1 hw.2.1.2.1.1 hw.2.1.2.1.2 hw.2.1.2.2.1) (by kernel_rfl)
def i_MostCovered_2_orc : List D → Orc := orcN [some .ints, none] fun ds => match ds with
  | [.sl (.ints choice), .bx [.int .i64 Size, .sl (.rows Sets), .sl (.ints Costs)] 0] => some (.one (.d (.int .i64 (covN Sets choice))))
  | _ => none
abbrev i_least_most_JJ0 (xss : List (List Int)) (Size : Int) (Sets : List (List Int)) (Costs : List Int) (best : List Int) (i : Int) : Prop := (0 ≤ i) ∧ (i ≤ (xss.length : Int)) ∧ (best ∈ xss) ∧ (best = (xss.take i.toNat).foldl (lsB (covN Sets)) (xss.getD 0 []))
abbrev i_least_most_mJ0 (xss : List (List Int)) (Size : Int) (Sets : List (List Int)) (Costs : List Int) (best : List Int) (i : Int) : Nat := (xss.length - i).toNat
def i_least_most_C (f : FuncId) (ds : List D) : Orc := bif Nat.beq f 131 then i_MostCovered_2_orc ds else .no
def i_least_most_A (xss : List (List Int)) (Size : Int) (Sets : List (List Int)) (Costs : List Int) : Ann := .two (.none) (.two (.none) (.two (.two (.none) (.loop (cut2 (fun (best : List Int) (i : Int) => i_least_most_JJ0 xss Size Sets Costs best i) (fun (best : List Int) (i : Int) => [(1, .d false (.fn 131 0 [.bx [.int .i64 Size, .sl (.rows Sets), .sl (.ints Costs)] 0])), (5, .d true (.sl (.ints best))), (11, .d true (.sl (.rows xss))), (12, .d true (.int .i64 (xss.length : Int))), (13, .d true (.int .i64 i))]) (fun (best : List Int) (i : Int) => [])) (fun g => i_least_most_mJ0 xss Size Sets Costs g.1 g.2) (fun _ => .none))) (.none)))
def i_least_most_P (xss : List (List Int)) (Size : Int) (Sets : List (List Int)) (Costs : List Int) : Prop :=
  ((0 : Int) ≤ 0) ∧ ((0 : Int) < xss.length) ∧ (0 < xss.length) ∧ ((∃ best' : List Int, ∃ i' : Int, (i_least_most_JJ0 xss Size Sets Costs best' i') ∧ ((.fn 131 0 [.bx [.int .i64 Size, .sl (.rows Sets), .sl (.ints Costs)] 0] : D) = (.fn 131 0 [.bx [.int .i64 Size, .sl (.rows Sets), .sl (.ints Costs)] 0] : D)) ∧ ((xss.getD 0 []) = best') ∧ (xss = xss) ∧ ((xss.length : Int) = (xss.length : Int)) ∧ ((0 : Int) = i')) ∧ (∀ best : List Int, ∀ i : Int, (i_least_most_JJ0 xss Size Sets Costs best i) → (((decide (i < (xss.length : Int))) = true → ((0 : Int) ≤ i) ∧ ((i : Int) < xss.length) ∧ (i.toNat < xss.length) ∧ (PC Try.prog 131 [.sl (.ints (xss.getD i.toNat [])), .bx [.int .i64 Size, .sl (.rows Sets), .sl (.ints Costs)] 0] (.one (.d (.int .i64 (covN Sets (xss.getD i.toNat [])))))) ∧ (PC Try.prog 131 [.sl (.ints best), .bx [.int .i64 Size, .sl (.rows Sets), .sl (.ints Costs)] 0] (.one (.d (.int .i64 (covN Sets best))))) ∧ (((decide ((covN Sets (xss.getD i.toNat [])) < (covN Sets best))) = true → (-9223372036854775808 ≤ (i + 1) ∧ (i + 1) ≤ 9223372036854775807) ∧ (∃ best' : List Int, ∃ i' : Int, (i_least_most_JJ0 xss Size Sets Costs best' i') ∧ (i_least_most_mJ0 xss Size Sets Costs best' i' < i_least_most_mJ0 xss Size Sets Costs best i) ∧ ((.fn 131 0 [.bx [.int .i64 Size, .sl (.rows Sets), .sl (.ints Costs)] 0] : D) = (.fn 131 0 [.bx [.int .i64 Size, .sl (.rows Sets), .sl (.ints Costs)] 0] : D)) ∧ ((xss.getD i.toNat []) = best') ∧ (xss = xss) ∧ ((xss.length : Int) = (xss.length : Int)) ∧ ((i + 1) = i'))) ∧ ((decide ((covN Sets (xss.getD i.toNat [])) < (covN Sets best))) = false → (-9223372036854775808 ≤ (i + 1) ∧ (i + 1) ≤ 9223372036854775807) ∧ (∃ best' : List Int, ∃ i' : Int, (i_least_most_JJ0 xss Size Sets Costs best' i') ∧ (i_least_most_mJ0 xss Size Sets Costs best' i' < i_least_most_mJ0 xss Size Sets Costs best i) ∧ ((.fn 131 0 [.bx [.int .i64 Size, .sl (.rows Sets), .sl (.ints Costs)] 0] : D) = (.fn 131 0 [.bx [.int .i64 Size, .sl (.rows Sets), .sl (.ints Costs)] 0] : D)) ∧ (best = best') ∧ (xss = xss) ∧ ((xss.length : Int) = (xss.length : Int)) ∧ ((i + 1) = i'))))) ∧ ((decide (i < (xss.length : Int))) = false → (((best : List Int) = (leastL (covN Sets) xss)))))))
theorem i_least_most_vc (xss : List (List Int)) (Size : Int) (Sets : List (List Int)) (Costs : List Int) (hp : 0 < xss.length) (hx : ∀ s ∈ xss, goodSys Size Sets Costs = true ∧ rising s 0 ((Sets.length : Int) - 1) = true) (w_xss : (xss.length : Int) ≤ 9223372036854775807) (v_xss : ∀ x9 ∈ xss, (x9.length : Int) ≤ 9223372036854775807) (w_Sets : (Sets.length : Int) ≤ 9223372036854775807) (v_Sets : ∀ x9 ∈ Sets, (x9.length : Int) ≤ 9223372036854775807) (w_Costs : (Costs.length : Int) ≤ 9223372036854775807) : i_least_most_P xss Size Sets Costs := by
  unfold i_least_most_P
  refine ⟨?_, ?_, ?_, ?_, ?_⟩
  · first | omega | rfl | (intro hg; simp only [nrmT] at hg; omega) | (intro g1 g2; simp [g1, g2]; done) | (intro g1; simp at g1 ⊢; simp [g1]; done) | (simp only [nrmT] at *; omega) | (simp at * <;> omega) | (simp_all <;> omega) | (simp_all; done)
  · first | omega | rfl | (intro hg; simp only [nrmT] at hg; omega) | (intro g1 g2; simp [g1, g2]; done) | (intro g1; simp at g1 ⊢; simp [g1]; done) | (simp only [nrmT] at *; omega) | (simp at * <;> omega) | (simp_all <;> omega) | (simp_all; done)
  · first | omega | rfl | (intro hg; simp only [nrmT] at hg; omega) | (intro g1 g2; simp [g1, g2]; done) | (intro g1; simp at g1 ⊢; simp [g1]; done) | (simp only [nrmT] at *; omega) | (simp at * <;> omega) | (simp_all <;> omega) | (simp_all; done)
  · refine ⟨(xss.getD 0 []), 0, ?_⟩
    refine ⟨?_, rfl, rfl, rfl, rfl, rfl⟩
    · refine ⟨?_, ?_, ?_, ?_⟩
      · first | omega | rfl | (intro hg; simp only [nrmT] at hg; omega) | (intro g1 g2; simp [g1, g2]; done) | (intro g1; simp at g1 ⊢; simp [g1]; done) | (simp only [nrmT] at *; omega) | (simp at * <;> omega) | (simp_all <;> omega) | (simp_all; done)
      · first | omega | rfl | (intro hg; simp only [nrmT] at hg; omega) | (intro g1 g2; simp [g1, g2]; done) | (intro g1; simp at g1 ⊢; simp [g1]; done) | (simp only [nrmT] at *; omega) | (simp at * <;> omega) | (simp_all <;> omega) | (simp_all; done)
      · exact getD_mem hp
      · rfl
  · intro best i hJ
    obtain ⟨h1, h2, h3, h4⟩ := hJ
    refine ⟨?_, ?_⟩
    · intro b1
      try simp only [nrmT] at b1
      refine ⟨?_, ?_, ?_, ?_, ?_, ?_, ?_⟩
      · first | omega | rfl | (intro hg; simp only [nrmT] at hg; omega) | (intro g1 g2; simp [g1, g2]; done) | (intro g1; simp at g1 ⊢; simp [g1]; done) | (simp only [nrmT] at *; omega) | (simp at * <;> omega) | (simp_all <;> omega) | (simp_all; done)
      · first | omega | rfl | (intro hg; simp only [nrmT] at hg; omega) | (intro g1 g2; simp [g1, g2]; done) | (intro g1; simp at g1 ⊢; simp [g1]; done) | (simp only [nrmT] at *; omega) | (simp at * <;> omega) | (simp_all <;> omega) | (simp_all; done)
      · first | omega | rfl | (intro hg; simp only [nrmT] at hg; omega) | (intro g1 g2; simp [g1, g2]; done) | (intro g1; simp at g1 ⊢; simp [g1]; done) | (simp only [nrmT] at *; omega) | (simp at * <;> omega) | (simp_all <;> omega) | (simp_all; done)
      · refine i_MostCovered_2_pc (xss.getD i.toNat []) Size Sets Costs ?_
        · exact hx _ (getD_memI (d := []) h1 (by omega))
      · refine i_MostCovered_2_pc best Size Sets Costs ?_
        · exact hx _ h3
      · intro b2
        try simp only [nrmT] at b2
        refine ⟨?_, ?_⟩
        · first | omega | rfl | (intro hg; simp only [nrmT] at hg; omega) | (intro g1 g2; simp [g1, g2]; done) | (intro g1; simp at g1 ⊢; simp [g1]; done) | (simp only [nrmT] at *; omega) | (simp at * <;> omega) | (simp_all <;> omega) | (simp_all; done)
        · refine ⟨(xss.getD i.toNat []), (i + 1), ?_⟩
          refine ⟨?_, ?_, rfl, rfl, rfl, rfl, rfl⟩
          · refine ⟨?_, ?_, ?_, ?_⟩
            · first | omega | rfl | (intro hg; simp only [nrmT] at hg; omega) | (intro g1 g2; simp [g1, g2]; done) | (intro g1; simp at g1 ⊢; simp [g1]; done) | (simp only [nrmT] at *; omega) | (simp at * <;> omega) | (simp_all <;> omega) | (simp_all; done)
            · first | omega | rfl | (intro hg; simp only [nrmT] at hg; omega) | (intro g1 g2; simp [g1, g2]; done) | (intro g1; simp at g1 ⊢; simp [g1]; done) | (simp only [nrmT] at *; omega) | (simp at * <;> omega) | (simp_all <;> omega) | (simp_all; done)
            · exact getD_memI h1 (by omega)
            · rw [fold_snoc (d := []) h1 (by omega), ← h4]; unfold lsB; rw [if_pos b2]
          · first | (show _ < _; omega) | (simp only [i_least_most_mJ0]; omega) | (simp only [i_least_most_mJ0] at *; simp at *; omega)
      · intro b3
        try simp only [nrmT] at b3
        refine ⟨?_, ?_⟩
        · first | omega | rfl | (intro hg; simp only [nrmT] at hg; omega) | (intro g1 g2; simp [g1, g2]; done) | (intro g1; simp at g1 ⊢; simp [g1]; done) | (simp only [nrmT] at *; omega) | (simp at * <;> omega) | (simp_all <;> omega) | (simp_all; done)
        · refine ⟨best, (i + 1), ?_⟩
          refine ⟨?_, ?_, rfl, rfl, rfl, rfl, rfl⟩
          · refine ⟨?_, ?_, ?_, ?_⟩
            · first | omega | rfl | (intro hg; simp only [nrmT] at hg; omega) | (intro g1 g2; simp [g1, g2]; done) | (intro g1; simp at g1 ⊢; simp [g1]; done) | (simp only [nrmT] at *; omega) | (simp at * <;> omega) | (simp_all <;> omega) | (simp_all; done)
            · first | omega | rfl | (intro hg; simp only [nrmT] at hg; omega) | (intro g1 g2; simp [g1, g2]; done) | (intro g1; simp at g1 ⊢; simp [g1]; done) | (simp only [nrmT] at *; omega) | (simp at * <;> omega) | (simp_all <;> omega) | (simp_all; done)
            · exact h3
            · rw [fold_snoc (d := []) h1 (by omega), ← h4]; unfold lsB; (try dsimp only); rw [if_neg (by omega)]
          · first | (show _ < _; omega) | (simp only [i_least_most_mJ0]; omega) | (simp only [i_least_most_mJ0] at *; simp at *; omega)
    · intro b4
      try simp only [nrmT] at b4
      rw [h4, take_all (by omega)]; rfl
theorem i_least_most_pc (xss : List (List Int)) (Size : Int) (Sets : List (List Int)) (Costs : List Int) (hp : 0 < xss.length) (hx : ∀ s ∈ xss, goodSys Size Sets Costs = true ∧ rising s 0 ((Sets.length : Int) - 1) = true) : PCs Try.prog 111 [.sl (.rows xss), .fn 131 0 [.bx [.int .i64 Size, .sl (.rows Sets), .sl (.ints Costs)] 0]] 0 (.sl (.ints (leastL (covN Sets) xss))) :=
  pcs_wf @Try.call111 fun hw => pcs_by (by kernel_rfl) Try.func111 @Try.call111 (by kernel_rfl) i_least_most_C (i_least_most_A xss Size Sets Costs) (by kernel_rfl) (i_least_most_vc xss Size Sets Costs hp hx hw.1.1 hw.1.2 hw.2.1.1.2.1.1 hw.2.1.1.2.1.2 hw.2.1.1.2.2.1) (by kernel_rfl)
def i_least_most_orc : List D → Orc := orcS 0 fun ds => match ds with
  | [.sl (.rows xss), .fn f0 0 [.bx [.int .i64 Size, .sl (.rows Sets), .sl (.ints Costs)] 0]] => some (.sl (.ints (leastL (covN Sets) xss)))
  | _ => none
abbrev s_MostCovered_JJ0 (Size : Int) (Sets : List (List Int)) (Costs : List Int) (k : Int) (best : List Int) (i : Int) : Prop := (0 ≤ i) ∧ (i ≤ ((chs Sets.length).length : Int)) ∧ (goodSys Size Sets Costs = true) ∧ (inB k 0 8 = true) ∧ (best ∈ chs Sets.length) ∧ (best = ((chs Sets.length).take i.toNat).foldl (mcB Sets k) [])
abbrev s_MostCovered_mJ0 (Size : Int) (Sets : List (List Int)) (Costs : List Int) (k : Int) (best : List Int) (i : Int) : Nat := ((chs Sets.length).length - i).toNat
def s_MostCovered_C (f : FuncId) (ds : List D) : Orc := bif Nat.beq f 86 then s_l6Good_orc ds else bif Nat.beq f 78 then s_l1In_orc ds else bif Nat.beq f 109 then s_l6Choices_orc ds else bif Nat.beq f 129 then s_l6Covered_orc ds else .no
def s_MostCovered_A (Size : Int) (Sets : List (List Int)) (Costs : List Int) (k : Int) : Ann := .two (.none) (.two (.reg [(0, .frz)]) (.two (.none) (.two (.none) (.two (.two (.none) (.loop (cut2 (fun (best : List Int) (i : Int) => s_MostCovered_JJ0 Size Sets Costs k best i) (fun (best : List Int) (i : Int) => [(1, .d false (.int .i64 k)), (2, .ptr 2 0), (6, .d true (.sl (.ints best))), (7, .d true (.sl (.rows (chs (Sets.length : Int).toNat)))), (8, .d true (.int .i64 i))]) (fun (best : List Int) (i : Int) => [(2, .box 34 [.d false (.int .i64 Size), .d false (.sl (.rows Sets)), .d false (.sl (.ints Costs))])])) (fun g => s_MostCovered_mJ0 Size Sets Costs k g.1 g.2) (fun _ => .none))) (.none)))))
def s_MostCovered_P (Size : Int) (Sets : List (List Int)) (Costs : List Int) (k : Int) : Prop :=
  (PC Try.prog 86 [.agg [.int .i64 Size, .sl (.rows Sets), .sl (.ints Costs)]] (.one (.d (.bool (goodSys Size Sets Costs))))) ∧ ((!(!(goodSys Size Sets Costs))) = true → (!(!(goodSys Size Sets Costs))) = true) ∧ ((!(!(goodSys Size Sets Costs))) = true → PC Try.prog 78 [.int .i64 k, .int .i64 0, .int .i64 8] (.one (.d (.bool (inB k 0 8))))) ∧ ((!(!(goodSys Size Sets Costs))) = true → (!(!(goodSys Size Sets Costs))) = true) ∧ (true = true) ∧ (((!(goodSys Size Sets Costs)) = true → true = true)) ∧ (((!(goodSys Size Sets Costs)) = false → (!(!(goodSys Size Sets Costs))) = true)) ∧ (((cond (!(goodSys Size Sets Costs)) true (!(inB k 0 8))) = true → ((([] : List Int) = (mcL Size Sets Costs k)) ∧ (false = (goodSys Size Sets Costs && inB k 0 8)))) ∧ ((cond (!(goodSys Size Sets Costs)) true (!(inB k 0 8))) = false → (PC Try.prog 109 [.int .i64 (Sets.length : Int)] (.one (.d (.sl (.rows (chs (Sets.length : Int).toNat)))))) ∧ ((∃ best' : List Int, ∃ i' : Int, (s_MostCovered_JJ0 Size Sets Costs k best' i') ∧ (k = k) ∧ ([] = best') ∧ ((chs (Sets.length : Int).toNat) = (chs (Sets.length : Int).toNat)) ∧ ((0 : Int) = i') ∧ (Size = Size) ∧ (Sets = Sets) ∧ (Costs = Costs)) ∧ (∀ best : List Int, ∀ i : Int, (s_MostCovered_JJ0 Size Sets Costs k best i) → (((decide (i < (((chs (Sets.length : Int).toNat).length) : Int))) = true → (true = true) ∧ ((0 : Int) ≤ i) ∧ ((i : Int) < (chs (Sets.length : Int).toNat).length) ∧ (i.toNat < (chs (Sets.length : Int).toNat).length) ∧ ((decide ((((chs (Sets.length : Int).toNat).getD i.toNat []).length : Int) ≤ k)) = true → (decide ((((chs (Sets.length : Int).toNat).getD i.toNat []).length : Int) ≤ k)) = true) ∧ ((decide ((((chs (Sets.length : Int).toNat).getD i.toNat []).length : Int) ≤ k)) = true → (decide ((((chs (Sets.length : Int).toNat).getD i.toNat []).length : Int) ≤ k)) = true) ∧ (((decide ((((chs (Sets.length : Int).toNat).getD i.toNat []).length : Int) ≤ k)) = true → (0 : Int) ≤ i)) ∧ (((decide ((((chs (Sets.length : Int).toNat).getD i.toNat []).length : Int) ≤ k)) = true → (i : Int) < (chs (Sets.length : Int).toNat).length)) ∧ ((decide ((((chs (Sets.length : Int).toNat).getD i.toNat []).length : Int) ≤ k)) = true → (decide ((((chs (Sets.length : Int).toNat).getD i.toNat []).length : Int) ≤ k)) = true) ∧ (((decide ((((chs (Sets.length : Int).toNat).getD i.toNat []).length : Int) ≤ k)) = true → i.toNat < (chs (Sets.length : Int).toNat).length)) ∧ ((decide ((((chs (Sets.length : Int).toNat).getD i.toNat []).length : Int) ≤ k)) = true → (decide ((((chs (Sets.length : Int).toNat).getD i.toNat []).length : Int) ≤ k)) = true) ∧ ((decide ((((chs (Sets.length : Int).toNat).getD i.toNat []).length : Int) ≤ k)) = true → (decide ((((chs (Sets.length : Int).toNat).getD i.toNat []).length : Int) ≤ k)) = true) ∧ ((decide ((((chs (Sets.length : Int).toNat).getD i.toNat []).length : Int) ≤ k)) = true → PC Try.prog 129 [.agg [.int .i64 Size, .sl (.rows Sets), .sl (.ints Costs)], .sl (.ints ((chs (Sets.length : Int).toNat).getD i.toNat []))] (.one (.d (.sl (.ints (covL Sets ((chs (Sets.length : Int).toNat).getD i.toNat []) ((chs (Sets.length : Int).toNat).getD i.toNat []).length)))))) ∧ ((decide ((((chs (Sets.length : Int).toNat).getD i.toNat []).length : Int) ≤ k)) = true → (decide ((((chs (Sets.length : Int).toNat).getD i.toNat []).length : Int) ≤ k)) = true) ∧ ((decide ((((chs (Sets.length : Int).toNat).getD i.toNat []).length : Int) ≤ k)) = true → (decide ((((chs (Sets.length : Int).toNat).getD i.toNat []).length : Int) ≤ k)) = true) ∧ ((decide ((((chs (Sets.length : Int).toNat).getD i.toNat []).length : Int) ≤ k)) = true → (decide ((((chs (Sets.length : Int).toNat).getD i.toNat []).length : Int) ≤ k)) = true) ∧ ((decide ((((chs (Sets.length : Int).toNat).getD i.toNat []).length : Int) ≤ k)) = true → PC Try.prog 129 [.agg [.int .i64 Size, .sl (.rows Sets), .sl (.ints Costs)], .sl (.ints best)] (.one (.d (.sl (.ints (covL Sets best best.length)))))) ∧ ((decide ((((chs (Sets.length : Int).toNat).getD i.toNat []).length : Int) ≤ k)) = true → (decide ((((chs (Sets.length : Int).toNat).getD i.toNat []).length : Int) ≤ k)) = true) ∧ ((decide ((((chs (Sets.length : Int).toNat).getD i.toNat []).length : Int) ≤ k)) = true → (decide ((((chs (Sets.length : Int).toNat).getD i.toNat []).length : Int) ≤ k)) = true) ∧ ((decide ((((chs (Sets.length : Int).toNat).getD i.toNat []).length : Int) ≤ k)) = true → (decide ((((chs (Sets.length : Int).toNat).getD i.toNat []).length : Int) ≤ k)) = true) ∧ (true = true) ∧ (((decide ((((chs (Sets.length : Int).toNat).getD i.toNat []).length : Int) ≤ k)) = true → (decide ((((chs (Sets.length : Int).toNat).getD i.toNat []).length : Int) ≤ k)) = true)) ∧ (((decide ((((chs (Sets.length : Int).toNat).getD i.toNat []).length : Int) ≤ k)) = false → true = true)) ∧ (((cond (decide ((((chs (Sets.length : Int).toNat).getD i.toNat []).length : Int) ≤ k)) (decide ((((covL Sets ((chs (Sets.length : Int).toNat).getD i.toNat []) ((chs (Sets.length : Int).toNat).getD i.toNat []).length).length) : Int) > (((covL Sets best best.length).length) : Int))) false) = true → ((0 : Int) ≤ i) ∧ ((i : Int) < (chs (Sets.length : Int).toNat).length) ∧ (i.toNat < (chs (Sets.length : Int).toNat).length) ∧ (-9223372036854775808 ≤ (i + 1) ∧ (i + 1) ≤ 9223372036854775807) ∧ (∃ best' : List Int, ∃ i' : Int, (s_MostCovered_JJ0 Size Sets Costs k best' i') ∧ (s_MostCovered_mJ0 Size Sets Costs k best' i' < s_MostCovered_mJ0 Size Sets Costs k best i) ∧ (k = k) ∧ (((chs (Sets.length : Int).toNat).getD i.toNat []) = best') ∧ ((chs (Sets.length : Int).toNat) = (chs (Sets.length : Int).toNat)) ∧ ((i + 1) = i') ∧ (Size = Size) ∧ (Sets = Sets) ∧ (Costs = Costs))) ∧ ((cond (decide ((((chs (Sets.length : Int).toNat).getD i.toNat []).length : Int) ≤ k)) (decide ((((covL Sets ((chs (Sets.length : Int).toNat).getD i.toNat []) ((chs (Sets.length : Int).toNat).getD i.toNat []).length).length) : Int) > (((covL Sets best best.length).length) : Int))) false) = false → (-9223372036854775808 ≤ (i + 1) ∧ (i + 1) ≤ 9223372036854775807) ∧ (∃ best' : List Int, ∃ i' : Int, (s_MostCovered_JJ0 Size Sets Costs k best' i') ∧ (s_MostCovered_mJ0 Size Sets Costs k best' i' < s_MostCovered_mJ0 Size Sets Costs k best i) ∧ (k = k) ∧ (best = best') ∧ ((chs (Sets.length : Int).toNat) = (chs (Sets.length : Int).toNat)) ∧ ((i + 1) = i') ∧ (Size = Size) ∧ (Sets = Sets) ∧ (Costs = Costs))))) ∧ ((decide (i < (((chs (Sets.length : Int).toNat).length) : Int))) = false → (((best : List Int) = (mcL Size Sets Costs k)) ∧ (true = (goodSys Size Sets Costs && inB k 0 8)))))))))
theorem s_MostCovered_vc (Size : Int) (Sets : List (List Int)) (Costs : List Int) (k : Int)  (w_Sets : (Sets.length : Int) ≤ 9223372036854775807) (v_Sets : ∀ x9 ∈ Sets, (x9.length : Int) ≤ 9223372036854775807) (w_Costs : (Costs.length : Int) ≤ 9223372036854775807) : s_MostCovered_P Size Sets Costs k := by
  unfold s_MostCovered_P
  have cs : goodSys Size Sets Costs = true → (chs Sets.length).length ≤ 256 := fun hg => chs_small (by have := gs_facts hg; omega)
  have ct : (chs (Sets.length : Int).toNat).length = (chs Sets.length).length := rfl
  refine ⟨s_l6Good_pc Size Sets Costs, id, fun _ => s_l1In_pc k 0 8, id, rfl, fun _ => rfl, ?_, ?_, ?_⟩
  · intro h; rw [h]; rfl
  · intro b1
    refine ⟨?_, ?_⟩
    · have hq : (goodSys Size Sets Costs && inB k 0 8) = false := by
        revert b1; cases goodSys Size Sets Costs <;> cases inB k 0 8 <;> simp
      unfold mcL; rw [hq]; rfl
    · have hq : (goodSys Size Sets Costs && inB k 0 8) = false := by
        revert b1; cases goodSys Size Sets Costs <;> cases inB k 0 8 <;> simp
      exact hq.symm
  · intro b2
    refine ⟨?_, ?_, ?_⟩
    · refine s_l6Choices_pc (Sets.length : Int) ?_
      · have hq : goodSys Size Sets Costs = true ∧ inB k 0 8 = true := by
          revert b2; cases goodSys Size Sets Costs <;> cases inB k 0 8 <;> simp
        have := gs_facts hq.1
        omega
    · refine ⟨([]), 0, ?_⟩
      refine ⟨?_, rfl, ?_, rfl, rfl, rfl, rfl, rfl⟩
      · refine ⟨?_, ?_, ?_, ?_, ?_, ?_⟩
        · first | omega | rfl | (intro hg; simp only [nrmT] at hg; omega) | (intro g1 g2; simp [g1, g2]; done) | (intro g1; simp at g1 ⊢; simp [g1]; done) | (simp only [nrmT] at *; omega) | (simp at * <;> omega) | (simp_all <;> omega) | (simp_all; done)
        · first | omega | rfl | (intro hg; simp only [nrmT] at hg; omega) | (intro g1 g2; simp [g1, g2]; done) | (intro g1; simp at g1 ⊢; simp [g1]; done) | (simp only [nrmT] at *; omega) | (simp at * <;> omega) | (simp_all <;> omega) | (simp_all; done)
        · first | exact hf | exact (show goodSys Size Sets Costs = true by
            have hq : goodSys Size Sets Costs = true ∧ inB k 0 8 = true := by
              revert b2; cases goodSys Size Sets Costs <;> cases inB k 0 8 <;> simp
            exact hq.1)
        · have hq : goodSys Size Sets Costs = true ∧ inB k 0 8 = true := by
            revert b2; cases goodSys Size Sets Costs <;> cases inB k 0 8 <;> simp
          exact hq.2
        · exact nil_chs _
        · rfl
      · first | omega | rfl | (intro hg; simp only [nrmT] at hg; omega) | (intro g1 g2; simp [g1, g2]; done) | (intro g1; simp at g1 ⊢; simp [g1]; done) | (simp only [nrmT] at *; omega) | (simp at * <;> omega) | (simp_all <;> omega) | (simp_all; done)
    · intro best i hJ
      obtain ⟨h1, h2, hf, hk, h3, h4⟩ := hJ
      refine ⟨?_, ?_⟩
      · intro b3
        try simp only [nrmT] at b3
        refine ⟨rfl, ?_, ?_, ?_, id, id, ?_, ?_, id, ?_, id, id, ?_, id, id, id, ?_, id, id, id, rfl, id, fun _ => rfl, ?_, ?_⟩
        · first | omega | rfl | (intro hg; simp only [nrmT] at hg; omega) | (intro g1 g2; simp [g1, g2]; done) | (intro g1; simp at g1 ⊢; simp [g1]; done) | (simp only [nrmT] at *; omega) | (simp at * <;> omega) | (simp_all <;> omega) | (simp_all; done)
        · first | omega | rfl | (intro hg; simp only [nrmT] at hg; omega) | (intro g1 g2; simp [g1, g2]; done) | (intro g1; simp at g1 ⊢; simp [g1]; done) | (simp only [nrmT] at *; omega) | (simp at * <;> omega) | (simp_all <;> omega) | (simp_all; done)
        · first | omega | rfl | (intro hg; simp only [nrmT] at hg; omega) | (intro g1 g2; simp [g1, g2]; done) | (intro g1; simp at g1 ⊢; simp [g1]; done) | (simp only [nrmT] at *; omega) | (simp at * <;> omega) | (simp_all <;> omega) | (simp_all; done)
        · first | omega | rfl | (intro hg; simp only [nrmT] at hg; omega) | (intro g1 g2; simp [g1, g2]; done) | (intro g1; simp at g1 ⊢; simp [g1]; done) | (simp only [nrmT] at *; omega) | (simp at * <;> omega) | (simp_all <;> omega) | (simp_all; done)
        · first | omega | rfl | (intro hg; simp only [nrmT] at hg; omega) | (intro g1 g2; simp [g1, g2]; done) | (intro g1; simp at g1 ⊢; simp [g1]; done) | (simp only [nrmT] at *; omega) | (simp at * <;> omega) | (simp_all <;> omega) | (simp_all; done)
        · first | omega | rfl | (intro hg; simp only [nrmT] at hg; omega) | (intro g1 g2; simp [g1, g2]; done) | (intro g1; simp at g1 ⊢; simp [g1]; done) | (simp only [nrmT] at *; omega) | (simp at * <;> omega) | (simp_all <;> omega) | (simp_all; done)
        · intro hg
          refine s_l6Covered_pc Size Sets Costs ((chs (Sets.length : Int).toNat).getD i.toNat []) ?_ ?_
          · first | exact hf | exact (show goodSys Size Sets Costs = true by
              have hq : goodSys Size Sets Costs = true ∧ inB k 0 8 = true := by
                revert b3; cases goodSys Size Sets Costs <;> cases inB k 0 8 <;> simp
              exact hq.1)
          · exact chs_rising (getD_memI (by omega) (by omega))
        · intro hg
          refine s_l6Covered_pc Size Sets Costs best ?_ ?_
          · first | exact hf | exact (show goodSys Size Sets Costs = true by
              have hq : goodSys Size Sets Costs = true ∧ inB k 0 8 = true := by
                revert b3; cases goodSys Size Sets Costs <;> cases inB k 0 8 <;> simp
              exact hq.1)
          · exact chs_rising h3
        · intro b4
          refine ⟨?_, ?_, ?_, ?_, ?_⟩
          · first | omega | rfl | (intro hg; simp only [nrmT] at hg; omega) | (intro g1 g2; simp [g1, g2]; done) | (intro g1; simp at g1 ⊢; simp [g1]; done) | (simp only [nrmT] at *; omega) | (simp at * <;> omega) | (simp_all <;> omega) | (simp_all; done)
          · first | omega | rfl | (intro hg; simp only [nrmT] at hg; omega) | (intro g1 g2; simp [g1, g2]; done) | (intro g1; simp at g1 ⊢; simp [g1]; done) | (simp only [nrmT] at *; omega) | (simp at * <;> omega) | (simp_all <;> omega) | (simp_all; done)
          · first | omega | rfl | (intro hg; simp only [nrmT] at hg; omega) | (intro g1 g2; simp [g1, g2]; done) | (intro g1; simp at g1 ⊢; simp [g1]; done) | (simp only [nrmT] at *; omega) | (simp at * <;> omega) | (simp_all <;> omega) | (simp_all; done)
          · have := cs hf
            omega
          · refine ⟨((chs (Sets.length : Int).toNat).getD i.toNat []), (i + 1), ?_⟩
            refine ⟨?_, ?_, rfl, rfl, rfl, rfl, rfl, rfl, rfl⟩
            · refine ⟨?_, ?_, ?_, ?_, ?_, ?_⟩
              · first | omega | rfl | (intro hg; simp only [nrmT] at hg; omega) | (intro g1 g2; simp [g1, g2]; done) | (intro g1; simp at g1 ⊢; simp [g1]; done) | (simp only [nrmT] at *; omega) | (simp at * <;> omega) | (simp_all <;> omega) | (simp_all; done)
              · first | omega | rfl | (intro hg; simp only [nrmT] at hg; omega) | (intro g1 g2; simp [g1, g2]; done) | (intro g1; simp at g1 ⊢; simp [g1]; done) | (simp only [nrmT] at *; omega) | (simp at * <;> omega) | (simp_all <;> omega) | (simp_all; done)
              · first | exact hf | exact (show goodSys Size Sets Costs = true by
                  have hq : goodSys Size Sets Costs = true ∧ inB k 0 8 = true := by
                    revert b4; cases goodSys Size Sets Costs <;> cases inB k 0 8 <;> simp
                  exact hq.1)
              · exact hk
              · exact getD_memI (by omega) (by omega)
              · rw [Int.toNat_natCast] at b4 ⊢
                rw [fold_snoc (d := []) (by omega) (by omega), ← h4]; unfold mcB; rw [if_pos b4]
            · first | (show _ < _; omega) | (simp only [s_MostCovered_mJ0]; omega) | (simp only [s_MostCovered_mJ0] at *; simp at *; omega)
        · intro b5
          refine ⟨?_, ?_⟩
          · have := cs hf
            omega
          · refine ⟨best, (i + 1), ?_⟩
            refine ⟨?_, ?_, rfl, rfl, rfl, rfl, rfl, rfl, rfl⟩
            · refine ⟨?_, ?_, ?_, ?_, ?_, ?_⟩
              · first | omega | rfl | (intro hg; simp only [nrmT] at hg; omega) | (intro g1 g2; simp [g1, g2]; done) | (intro g1; simp at g1 ⊢; simp [g1]; done) | (simp only [nrmT] at *; omega) | (simp at * <;> omega) | (simp_all <;> omega) | (simp_all; done)
              · first | omega | rfl | (intro hg; simp only [nrmT] at hg; omega) | (intro g1 g2; simp [g1, g2]; done) | (intro g1; simp at g1 ⊢; simp [g1]; done) | (simp only [nrmT] at *; omega) | (simp at * <;> omega) | (simp_all <;> omega) | (simp_all; done)
              · first | exact hf | exact (show goodSys Size Sets Costs = true by
                  have hq : goodSys Size Sets Costs = true ∧ inB k 0 8 = true := by
                    revert b5; cases goodSys Size Sets Costs <;> cases inB k 0 8 <;> simp
                  exact hq.1)
              · exact hk
              · exact h3
              · rw [Int.toNat_natCast] at b5
                rw [fold_snoc (d := []) (by omega) (by omega), ← h4]; unfold mcB; rw [if_neg (ne_true_of_eq_false b5)]
            · first | (show _ < _; omega) | (simp only [s_MostCovered_mJ0]; omega) | (simp only [s_MostCovered_mJ0] at *; simp at *; omega)
      · intro b6
        try simp only [nrmT] at b6
        refine ⟨?_, ?_⟩
        · rw [h4, take_all (by omega)]; unfold mcL mcS; rw [if_pos (by rw [hf, hk]; rfl)]; exact mc_fold (inB_le hk).1 _
        · rw [hf, hk]; rfl
theorem s_MostCovered_pc (Size : Int) (Sets : List (List Int)) (Costs : List Int) (k : Int)  : PC Try.prog 66 [.agg [.int .i64 Size, .sl (.rows Sets), .sl (.ints Costs)], .int .i64 k] (.tup [.d (.sl (.ints (mcL Size Sets Costs k))), .d (.bool (goodSys Size Sets Costs && inB k 0 8))]) :=
  pc_wf @Try.call66 fun hw => pc_by (by kernel_rfl) Try.func66 @Try.call66 (by kernel_rfl) s_MostCovered_C (s_MostCovered_A Size Sets Costs k) (by kernel_rfl) (s_MostCovered_vc Size Sets Costs k hw.1.2.1.1 hw.1.2.1.2 hw.1.2.2.1) (by kernel_rfl)
def s_MostCovered_orc : List D → Orc := orcN [none, none] fun ds => match ds with
  | [.agg [.int .i64 Size, .sl (.rows Sets), .sl (.ints Costs)], .int .i64 k] => some (.tup [.d (.sl (.ints (mcL Size Sets Costs k))), .d (.bool (goodSys Size Sets Costs && inB k 0 8))])
  | _ => none
def i_MostCovered_C (f : FuncId) (ds : List D) : Orc := bif Nat.beq f 88 then i_IsSystem_orc ds else bif Nat.beq f 82 then i_between_orc ds else bif Nat.beq f 112 then i_lists_upto_orc ds else bif Nat.beq f 111 then i_least_most_orc ds else .no
def i_MostCovered_A (Size : Int) (Sets : List (List Int)) (Costs : List Int) (k : Int) : Ann := .none
def i_MostCovered_P (Size : Int) (Sets : List (List Int)) (Costs : List Int) (k : Int) : Prop :=
  (PC Try.prog 88 [.agg [.int .i64 Size, .sl (.rows Sets), .sl (.ints Costs)]] (.one (.d (.bool (goodSys Size Sets Costs))))) ∧ ((!(!(goodSys Size Sets Costs))) = true → (!(!(goodSys Size Sets Costs))) = true) ∧ ((!(!(goodSys Size Sets Costs))) = true → PC Try.prog 82 [.int .i64 k, .int .i64 0, .int .i64 8] (.one (.d (.bool (inB k 0 8))))) ∧ ((!(!(goodSys Size Sets Costs))) = true → (!(!(goodSys Size Sets Costs))) = true) ∧ (true = true) ∧ (((!(goodSys Size Sets Costs)) = true → true = true)) ∧ (((!(goodSys Size Sets Costs)) = false → (!(!(goodSys Size Sets Costs))) = true)) ∧ (((cond (!(goodSys Size Sets Costs)) true (!(inB k 0 8))) = true → (((mcL Size Sets Costs k).length = 0) ∧ (false = (goodSys Size Sets Costs && inB k 0 8)))) ∧ ((cond (!(goodSys Size Sets Costs)) true (!(inB k 0 8))) = false → (PC Try.prog 112 [.int .i64 (Sets.length : Int), .fn 130 0 [.bx [.int .i64 k] 0]] (.one (.d (.sl (.rows ((chs (Sets.length : Int).toNat).filter (fun s9 => decide ((s9.length : Int) ≤ k)))))))) ∧ (PCs Try.prog 111 [.sl (.rows ((chs (Sets.length : Int).toNat).filter (fun s9 => decide ((s9.length : Int) ≤ k)))), .fn 131 0 [.bx [.int .i64 Size, .sl (.rows Sets), .sl (.ints Costs)] 0]] 0 (.sl (.ints (leastL (covN Sets) ((chs (Sets.length : Int).toNat).filter (fun s9 => decide ((s9.length : Int) ≤ k))))))) ∧ ((((leastL (covN Sets) ((chs (Sets.length : Int).toNat).filter (fun s9 => decide ((s9.length : Int) ≤ k)))) : List Int) = (mcL Size Sets Costs k)) ∧ (true = (goodSys Size Sets Costs && inB k 0 8)))))
theorem i_MostCovered_vc (Size : Int) (Sets : List (List Int)) (Costs : List Int) (k : Int)  (w_Sets : (Sets.length : Int) ≤ 9223372036854775807) (v_Sets : ∀ x9 ∈ Sets, (x9.length : Int) ≤ 9223372036854775807) (w_Costs : (Costs.length : Int) ≤ 9223372036854775807) : i_MostCovered_P Size Sets Costs k := by
  unfold i_MostCovered_P
  have cs : goodSys Size Sets Costs = true → (chs Sets.length).length ≤ 256 := fun hg => chs_small (by have := gs_facts hg; omega)
  have ct : (chs (Sets.length : Int).toNat).length = (chs Sets.length).length := rfl
  refine ⟨i_IsSystem_pc Size Sets Costs, id, fun _ => i_between_pc k 0 8, id, rfl, fun _ => rfl, ?_, ?_, ?_⟩
  · intro h; rw [h]; rfl
  · intro b1
    refine ⟨?_, ?_⟩
    · have hq : (goodSys Size Sets Costs && inB k 0 8) = false := by
        revert b1; cases goodSys Size Sets Costs <;> cases inB k 0 8 <;> simp
      unfold mcL; rw [hq]; rfl
    · have hq : (goodSys Size Sets Costs && inB k 0 8) = false := by
        revert b1; cases goodSys Size Sets Costs <;> cases inB k 0 8 <;> simp
      exact hq.symm
  · intro b2
    refine ⟨?_, ?_, ?_, ?_⟩
    · refine i_lists_upto_pc (Sets.length : Int) k ?_ ?_
      · have hq : goodSys Size Sets Costs = true ∧ inB k 0 8 = true := by
          revert b2; cases goodSys Size Sets Costs <;> cases inB k 0 8 <;> simp
        have := gs_facts hq.1
        omega
      · have hq : goodSys Size Sets Costs = true ∧ inB k 0 8 = true := by
          revert b2; cases goodSys Size Sets Costs <;> cases inB k 0 8 <;> simp
        intro s hs; trivial
    · refine i_least_most_pc ((chs (Sets.length : Int).toNat).filter (fun s9 => decide ((s9.length : Int) ≤ k))) Size Sets Costs ?_ ?_
      · have hq : goodSys Size Sets Costs = true ∧ inB k 0 8 = true := by
          revert b2; cases goodSys Size Sets Costs <;> cases inB k 0 8 <;> simp
        exact chs_pos (p := fun s9 => decide ((s9.length : Int) ≤ k)) (decide_eq_true (inB_le hq.2).1)
      · have hq : goodSys Size Sets Costs = true ∧ inB k 0 8 = true := by
          revert b2; cases goodSys Size Sets Costs <;> cases inB k 0 8 <;> simp
        intro s hs
        rw [Int.toNat_natCast] at hs
        exact ⟨hq.1, chs_rising (List.mem_filter.1 hs).1⟩
    · have hq : goodSys Size Sets Costs = true ∧ inB k 0 8 = true := by
        revert b2; cases goodSys Size Sets Costs <;> cases inB k 0 8 <;> simp
      unfold mcL; rw [if_pos (by rw [hq.1, hq.2]; rfl)]; rfl
    · have hq : goodSys Size Sets Costs = true ∧ inB k 0 8 = true := by
        revert b2; cases goodSys Size Sets Costs <;> cases inB k 0 8 <;> simp
      rw [hq.1, hq.2]; rfl
theorem i_MostCovered_pc (Size : Int) (Sets : List (List Int)) (Costs : List Int) (k : Int)  : PC Try.prog 67 [.agg [.int .i64 Size, .sl (.rows Sets), .sl (.ints Costs)], .int .i64 k] (.tup [.d (.sl (.ints (mcL Size Sets Costs k))), .d (.bool (goodSys Size Sets Costs && inB k 0 8))]) :=
  pc_wf @Try.call67 fun hw => pc_by (by kernel_rfl) Try.func67 @Try.call67 (by kernel_rfl) i_MostCovered_C (i_MostCovered_A Size Sets Costs k) (by kernel_rfl) (i_MostCovered_vc Size Sets Costs k hw.1.2.1.1 hw.1.2.1.2 hw.1.2.2.1) (by kernel_rfl)
def l_FnExactMostCovered_C (f : FuncId) (ds : List D) : Orc := bif Nat.beq f 36 then l_szSystem_orc ds else bif Nat.beq f 38 then l_toSystem_orc ds else bif Nat.beq f 66 then s_MostCovered_orc ds else bif Nat.beq f 24 then l_eqIntS_orc ds else bif Nat.beq f 31 then l_eqSystem_orc ds else bif Nat.beq f 26 then l_heldIntS_orc ds else .no
def l_FnExactMostCovered_A (Size : Int) (Sets : List (List Int)) (Costs : List Int) (k : Int) : Ann := .two (.none) (.two (.none) (.two (.none) (.two (.none) (.two (.reg [(1, .g)]) (.two (.reg [(1, .g)]) (.two (.mark [] 2 (.vcall (.tup [.d (.sl (.ints (mcL Size Sets Costs k))), .d (.bool (goodSys Size Sets Costs && inB k 0 8))]))) (.two (.none) (.two (.two (.reg [(2, .g)]) (.none)) (.two (.none) (.two (.mark [] 2 (.kill (1 + ((Sets.map List.length).sum : Int) + (Costs.length : Int)))) (.two (.none) (.two (.none) (.two (.mark [] 2 (.wv (marks 1 (mcL Size Sets Costs k).length) (1 + ((mcL Size Sets Costs k).length : Int)))) (.two (.none) (.two (.none) (.two (.none) (.two (.none) (.two (.mark [(1, .g)] 3 (.vcall (.tup [.d (.sl (.ints (mcL Size Sets Costs k))), .d (.bool (goodSys Size Sets Costs && inB k 0 8))]))) (.none)))))))))))))))))))
def l_FnExactMostCovered_P (Size : Int) (Sets : List (List Int)) (Costs : List Int) (k : Int) : Prop :=
  (PC Try.prog 36 [.agg [.int .i64 Size, .sl (.rows Sets), .sl (.ints Costs)], .int .i64 1048576] (.one (.d (.int .i64 (szSys Sets Costs 1048576))))) ∧ (((decide ((szSys Sets Costs 1048576) < 0)) = true → ((true = true))) ∧ ((decide ((szSys Sets Costs 1048576) < 0)) = false → (PC Try.prog 38 [.agg [.int .i64 Size, .sl (.rows Sets), .sl (.ints Costs)]] (.one (.d (.agg [.int .i64 Size, .sl (.rows Sets), .sl (.ints Costs)])))) ∧ (PC Try.prog 66 [.agg [.int .i64 Size, .sl (.rows Sets), .sl (.ints Costs)], .int .i64 k] (.tup [.d (.sl (.ints (mcL Size Sets Costs k))), .d (.bool (goodSys Size Sets Costs && inB k 0 8))])) ∧ (PC Try.prog 38 [.agg [.int .i64 Size, .sl (.rows Sets), .sl (.ints Costs)]] (.one (.d (.agg [.int .i64 Size, .sl (.rows Sets), .sl (.ints Costs)])))) ∧ (PC Try.prog 67 [.agg [.int .i64 Size, .sl (.rows Sets), .sl (.ints Costs)], .int .i64 k] (.tup [.d (.sl (.ints (mcL Size Sets Costs k))), .d (.bool (goodSys Size Sets Costs && inB k 0 8))])) ∧ ((mcL Size Sets Costs k).length = (mcL Size Sets Costs k).length) ∧ (PC Try.prog 24 [.sl (.ints (mcL Size Sets Costs k)), .sl (.ints (mcL Size Sets Costs k))] (.one (.d (.bool ((mcL Size Sets Costs k) == (mcL Size Sets Costs k)))))) ∧ ((!(!((mcL Size Sets Costs k) == (mcL Size Sets Costs k)))) = true → (!(!((mcL Size Sets Costs k) == (mcL Size Sets Costs k)))) = true) ∧ ((!(!((mcL Size Sets Costs k) == (mcL Size Sets Costs k)))) = true → (!(!((mcL Size Sets Costs k) == (mcL Size Sets Costs k)))) = true) ∧ (true = true) ∧ (((!((mcL Size Sets Costs k) == (mcL Size Sets Costs k))) = true → true = true)) ∧ (((!((mcL Size Sets Costs k) == (mcL Size Sets Costs k))) = false → (!(!((mcL Size Sets Costs k) == (mcL Size Sets Costs k)))) = true)) ∧ (((cond (!((mcL Size Sets Costs k) == (mcL Size Sets Costs k))) true ((goodSys Size Sets Costs && inB k 0 8) != (goodSys Size Sets Costs && inB k 0 8))) = true → ((false = true))) ∧ ((cond (!((mcL Size Sets Costs k) == (mcL Size Sets Costs k))) true ((goodSys Size Sets Costs && inB k 0 8) != (goodSys Size Sets Costs && inB k 0 8))) = false → (true = true) ∧ (PC Try.prog 38 [.agg [.int .i64 Size, .sl (.rows Sets), .sl (.ints Costs)]] (.one (.d (.agg [.int .i64 Size, .sl (.rows Sets), .sl (.ints Costs)])))) ∧ (PC Try.prog 31 [.agg [.int .i64 Size, .sl (.rows Sets), .sl (.ints Costs)], .agg [.int .i64 Size, .sl (.rows Sets), .sl (.ints Costs)]] (.one (.d (.bool ((Size == Size) && (Sets == Sets) && (Costs == Costs)))))) ∧ (((!((Size == Size) && (Sets == Sets) && (Costs == Costs))) = true → ((false = true))) ∧ ((!((Size == Size) && (Sets == Sets) && (Costs == Costs))) = false → (PG Try.prog 34 [.agg [.any, .rows (Sets.map List.length), .ints Costs.length], .int 1] (1 + ((Sets.map List.length).sum : Int) + (Costs.length : Int))) ∧ ((!(decide ((1 + ((Sets.map List.length).sum : Int) + (Costs.length : Int)) < 0))) = true → (!(decide ((1 + ((Sets.map List.length).sum : Int) + (Costs.length : Int)) < 0))) = true) ∧ ((!(decide ((1 + ((Sets.map List.length).sum : Int) + (Costs.length : Int)) < 0))) = true → (!(decide ((1 + ((Sets.map List.length).sum : Int) + (Costs.length : Int)) < 0))) = true) ∧ (((!(decide ((1 + ((Sets.map List.length).sum : Int) + (Costs.length : Int)) < 0))) = true → (mcL Size Sets Costs k).length = (mcL Size Sets Costs k).length)) ∧ ((!(decide ((1 + ((Sets.map List.length).sum : Int) + (Costs.length : Int)) < 0))) = true → PC Try.prog 24 [.sl (.ints (mcL Size Sets Costs k)), .sl (.ints (mcL Size Sets Costs k))] (.one (.d (.bool ((mcL Size Sets Costs k) == (mcL Size Sets Costs k)))))) ∧ ((!(decide ((1 + ((Sets.map List.length).sum : Int) + (Costs.length : Int)) < 0))) = true → (!(decide ((1 + ((Sets.map List.length).sum : Int) + (Costs.length : Int)) < 0))) = true) ∧ (true = true) ∧ (((decide ((1 + ((Sets.map List.length).sum : Int) + (Costs.length : Int)) < 0)) = true → true = true)) ∧ (((decide ((1 + ((Sets.map List.length).sum : Int) + (Costs.length : Int)) < 0)) = false → (!(decide ((1 + ((Sets.map List.length).sum : Int) + (Costs.length : Int)) < 0))) = true)) ∧ ((!(cond (decide ((1 + ((Sets.map List.length).sum : Int) + (Costs.length : Int)) < 0)) true (!((mcL Size Sets Costs k) == (mcL Size Sets Costs k))))) = true → (!(cond (decide ((1 + ((Sets.map List.length).sum : Int) + (Costs.length : Int)) < 0)) true (!((mcL Size Sets Costs k) == (mcL Size Sets Costs k))))) = true) ∧ ((!(cond (decide ((1 + ((Sets.map List.length).sum : Int) + (Costs.length : Int)) < 0)) true (!((mcL Size Sets Costs k) == (mcL Size Sets Costs k))))) = true → (!(cond (decide ((1 + ((Sets.map List.length).sum : Int) + (Costs.length : Int)) < 0)) true (!((mcL Size Sets Costs k) == (mcL Size Sets Costs k))))) = true) ∧ (true = true) ∧ (((cond (decide ((1 + ((Sets.map List.length).sum : Int) + (Costs.length : Int)) < 0)) true (!((mcL Size Sets Costs k) == (mcL Size Sets Costs k)))) = true → true = true)) ∧ (((cond (decide ((1 + ((Sets.map List.length).sum : Int) + (Costs.length : Int)) < 0)) true (!((mcL Size Sets Costs k) == (mcL Size Sets Costs k)))) = false → (!(cond (decide ((1 + ((Sets.map List.length).sum : Int) + (Costs.length : Int)) < 0)) true (!((mcL Size Sets Costs k) == (mcL Size Sets Costs k))))) = true)) ∧ (((cond (cond (decide ((1 + ((Sets.map List.length).sum : Int) + (Costs.length : Int)) < 0)) true (!((mcL Size Sets Costs k) == (mcL Size Sets Costs k)))) true ((goodSys Size Sets Costs && inB k 0 8) != (goodSys Size Sets Costs && inB k 0 8))) = true → ((false = true))) ∧ ((cond (cond (decide ((1 + ((Sets.map List.length).sum : Int) + (Costs.length : Int)) < 0)) true (!((mcL Size Sets Costs k) == (mcL Size Sets Costs k)))) true ((goodSys Size Sets Costs && inB k 0 8) != (goodSys Size Sets Costs && inB k 0 8))) = false → ((mcL Size Sets Costs k).length = (mcL Size Sets Costs k).length) ∧ ((marks 1 (mcL Size Sets Costs k).length).length = (mcL Size Sets Costs k).length) ∧ (PX Try.prog 25 (mcL Size Sets Costs k) (marks 1 (mcL Size Sets Costs k).length) 1 (1 + ((mcL Size Sets Costs k).length : Int))) ∧ ((mcL Size Sets Costs k).length = (marks 1 (mcL Size Sets Costs k).length).length) ∧ (PC Try.prog 26 [.sl (.ints (marks 1 (mcL Size Sets Costs k).length)), .int .i64 1] (.one (.d (.int .i64 (1 + ((marks 1 (mcL Size Sets Costs k).length).length : Int)))))) ∧ (((decide ((1 + ((marks 1 (mcL Size Sets Costs k).length).length : Int)) < 0)) = true → ((false = true))) ∧ ((decide ((1 + ((marks 1 (mcL Size Sets Costs k).length).length : Int)) < 0)) = false → ((((1 + ((marks 1 (mcL Size Sets Costs k).length).length : Int)) != (1 + ((mcL Size Sets Costs k).length : Int))) = true → ((false = true))) ∧ (((1 + ((marks 1 (mcL Size Sets Costs k).length).length : Int)) != (1 + ((mcL Size Sets Costs k).length : Int))) = false → (PC Try.prog 38 [.agg [.int .i64 Size, .sl (.rows Sets), .sl (.ints Costs)]] (.one (.d (.agg [.int .i64 Size, .sl (.rows Sets), .sl (.ints Costs)])))) ∧ (PC Try.prog 67 [.agg [.int .i64 Size, .sl (.rows Sets), .sl (.ints Costs)], .int .i64 k] (.tup [.d (.sl (.ints (mcL Size Sets Costs k))), .d (.bool (goodSys Size Sets Costs && inB k 0 8))])) ∧ ((mcL Size Sets Costs k).length = (mcL Size Sets Costs k).length) ∧ (PC Try.prog 24 [.sl (.ints (mcL Size Sets Costs k)), .sl (.ints (mcL Size Sets Costs k))] (.one (.d (.bool ((mcL Size Sets Costs k) == (mcL Size Sets Costs k)))))) ∧ ((!(!((mcL Size Sets Costs k) == (mcL Size Sets Costs k)))) = true → (!(!((mcL Size Sets Costs k) == (mcL Size Sets Costs k)))) = true) ∧ ((!(!((mcL Size Sets Costs k) == (mcL Size Sets Costs k)))) = true → (!(!((mcL Size Sets Costs k) == (mcL Size Sets Costs k)))) = true) ∧ (true = true) ∧ (((!((mcL Size Sets Costs k) == (mcL Size Sets Costs k))) = true → true = true)) ∧ (((!((mcL Size Sets Costs k) == (mcL Size Sets Costs k))) = false → (!(!((mcL Size Sets Costs k) == (mcL Size Sets Costs k)))) = true)) ∧ (((cond (!((mcL Size Sets Costs k) == (mcL Size Sets Costs k))) true ((goodSys Size Sets Costs && inB k 0 8) != (goodSys Size Sets Costs && inB k 0 8))) = true → ((false = true))) ∧ ((cond (!((mcL Size Sets Costs k) == (mcL Size Sets Costs k))) true ((goodSys Size Sets Costs && inB k 0 8) != (goodSys Size Sets Costs && inB k 0 8))) = false → ((mcL Size Sets Costs k).length = (marks 1 (mcL Size Sets Costs k).length).length) ∧ (PC Try.prog 26 [.sl (.ints (marks 1 (mcL Size Sets Costs k).length)), .int .i64 1] (.one (.d (.int .i64 (1 + ((marks 1 (mcL Size Sets Costs k).length).length : Int)))))) ∧ (((decide ((1 + ((marks 1 (mcL Size Sets Costs k).length).length : Int)) < 0)) = true → ((false = true))) ∧ ((decide ((1 + ((marks 1 (mcL Size Sets Costs k).length).length : Int)) < 0)) = false → ((((1 + ((marks 1 (mcL Size Sets Costs k).length).length : Int)) != (1 + ((mcL Size Sets Costs k).length : Int))) = true → ((false = true))) ∧ (((1 + ((marks 1 (mcL Size Sets Costs k).length).length : Int)) != (1 + ((mcL Size Sets Costs k).length : Int))) = false → ((true = true))))))))))))))))))))
theorem l_FnExactMostCovered_vc (Size : Int) (Sets : List (List Int)) (Costs : List Int) (k : Int)  (w_Sets : (Sets.length : Int) ≤ 9223372036854775807) (v_Sets : ∀ x9 ∈ Sets, (x9.length : Int) ≤ 9223372036854775807) (w_Costs : (Costs.length : Int) ≤ 9223372036854775807) : l_FnExactMostCovered_P Size Sets Costs k := by
  unfold l_FnExactMostCovered_P
  refine ⟨?_, ?_, ?_⟩
  · refine l_szSystem_pc Size Sets Costs 1048576 ?_
    · first | omega | rfl | (intro hg; simp only [nrmT] at hg; omega) | (intro g1 g2; simp [g1, g2]; done) | (intro g1; simp at g1 ⊢; simp [g1]; done) | (simp only [nrmT] at *; omega) | (simp at * <;> omega) | (simp_all <;> omega) | (simp_all; done)
  · intro b1
    try simp only [nrmT] at b1
    exact rfl
  · intro b2
    try simp only [nrmT] at b2
    refine ⟨?_, s_MostCovered_pc Size Sets Costs k, ?_, i_MostCovered_pc Size Sets Costs k, rfl, l_eqIntS_pc (mcL Size Sets Costs k) (mcL Size Sets Costs k), id, id, rfl, fun _ => rfl, ?_, ?_, ?_⟩
    · refine l_toSystem_pc Size Sets Costs ?_ ?_ ?_
      · have := szSys_bound b2; omega
      · have h := (szSys_bound b2).2.1
        intro xs hx
        have h := h xs hx
        omega
      · have := szSys_bound b2; omega
    · refine l_toSystem_pc Size Sets Costs ?_ ?_ ?_
      · have := szSys_bound b2; omega
      · have h := (szSys_bound b2).2.1
        intro xs hx
        have h := h xs hx
        omega
      · have := szSys_bound b2; omega
    · intro h; rw [h]; rfl
    · intro b3
      first | (exfalso; simp only [marks_len] at b3; omega) | (simp at b3; done) | (exfalso; simp only [marks_len] at b3; simp at b3; done) | omega | rfl | (intro hg; simp only [nrmT] at hg; omega) | (intro g1 g2; simp [g1, g2]; done) | (intro g1; simp at g1 ⊢; simp [g1]; done) | (simp only [nrmT] at *; omega) | (simp at * <;> omega) | (simp_all <;> omega) | (simp_all; done)
    · intro b4
      refine ⟨rfl, ?_, l_eqSystem_pc Size Sets Costs Size Sets Costs, ?_, ?_⟩
      · refine l_toSystem_pc Size Sets Costs ?_ ?_ ?_
        · have := szSys_bound b2; omega
        · have h := (szSys_bound b2).2.1
          intro xs hx
          have h := h xs hx
          omega
        · have := szSys_bound b2; omega
      · intro b5
        try simp only [Bool.not_eq_true', Bool.not_eq_false', Bool.not_not] at b5
        first | (exfalso; simp only [marks_len] at b5; omega) | (simp at b5; done) | (exfalso; simp only [marks_len] at b5; simp at b5; done) | omega | rfl | (intro hg; simp only [nrmT] at hg; omega) | (intro g1 g2; simp [g1, g2]; done) | (intro g1; simp at g1 ⊢; simp [g1]; done) | (simp only [nrmT] at *; omega) | (simp at * <;> omega) | (simp_all <;> omega) | (simp_all; done)
      · intro b6
        try simp only [Bool.not_eq_true', Bool.not_eq_false', Bool.not_not] at b6
        refine ⟨?_, id, id, fun _ => rfl, fun _ => l_eqIntS_pc (mcL Size Sets Costs k) (mcL Size Sets Costs k), id, rfl, fun _ => rfl, ?_, id, id, rfl, fun _ => rfl, ?_, ?_, ?_⟩
        · refine laws_markSystem_g_pg (Sets.map List.length) Costs.length 1 ?_ ?_ ?_
          · first | omega | rfl | (intro hg; simp only [nrmT] at hg; omega) | (intro g1 g2; simp [g1, g2]; done) | (intro g1; simp at g1 ⊢; simp [g1]; done) | (simp only [nrmT] at *; omega) | (simp at * <;> omega) | (simp_all <;> omega) | (simp_all; done)
          · rw [List.length_map]; have hz := szSys_bound b2; omega
          · have hz := szSys_bound b2
            have hs := sum_lens20 (xss := Sets) (by omega) (fun xs hx => by have := hz.2.1 xs hx; omega)
            omega
        · first | omega | rfl | (intro hg; simp only [nrmT] at hg; omega) | (intro g1 g2; simp [g1, g2]; done) | (intro g1; simp at g1 ⊢; simp [g1]; done) | (simp only [nrmT] at *; omega) | (simp at * <;> omega) | (simp_all <;> omega) | (simp_all; done)
        · intro h; rw [h]; rfl
        · intro b7
          first | (exfalso; simp only [marks_len] at b7; omega) | (simp at b7; done) | (exfalso; simp only [marks_len] at b7; simp at b7; done) | omega | rfl | (intro hg; simp only [nrmT] at hg; omega) | (intro g1 g2; simp [g1, g2]; done) | (intro g1; simp at g1 ⊢; simp [g1]; done) | (simp only [nrmT] at *; omega) | (simp at * <;> omega) | (simp_all <;> omega) | (simp_all; done)
        · intro b8
          refine ⟨rfl, marks_len _ _, ?_, ?_, ?_, ?_, ?_⟩
          · refine laws_markIntS_w_px (mcL Size Sets Costs k) 1 ?_ ?_
            · first | omega | rfl | (intro hg; simp only [nrmT] at hg; omega) | (intro g1 g2; simp [g1, g2]; done) | (intro g1; simp at g1 ⊢; simp [g1]; done) | (simp only [nrmT] at *; omega) | (simp at * <;> omega) | (simp_all <;> omega) | (simp_all; done)
            · have := @mcL_len Size Sets Costs k
              omega
          · simp only [marks_len]
          · refine l_heldIntS_pc (marks 1 (mcL Size Sets Costs k).length) 1 ?_ ?_ ?_
            · first | omega | rfl | (intro hg; simp only [nrmT] at hg; omega) | (intro g1 g2; simp [g1, g2]; done) | (intro g1; simp at g1 ⊢; simp [g1]; done) | (simp only [nrmT] at *; omega) | (simp at * <;> omega) | (simp_all <;> omega) | (simp_all; done)
            · simp only [marks_len]
            · simp only [marks_len]
              have := @mcL_len Size Sets Costs k
              omega
          · intro b9
            try simp only [nrmT] at b9
            first | (exfalso; simp only [marks_len] at b9; omega) | (simp at b9; done) | (exfalso; simp only [marks_len] at b9; simp at b9; done) | omega | rfl | (intro hg; simp only [nrmT] at hg; omega) | (intro g1 g2; simp [g1, g2]; done) | (intro g1; simp at g1 ⊢; simp [g1]; done) | (simp only [nrmT] at *; omega) | (simp at * <;> omega) | (simp_all <;> omega) | (simp_all; done)
          · intro b10
            try simp only [nrmT] at b10
            refine ⟨?_, ?_⟩
            · intro b11
              try simp only [nrmT] at b11
              first | (exfalso; simp only [marks_len] at b11; omega) | (simp at b11; done) | (exfalso; simp only [marks_len] at b11; simp at b11; done) | omega | rfl | (intro hg; simp only [nrmT] at hg; omega) | (intro g1 g2; simp [g1, g2]; done) | (intro g1; simp at g1 ⊢; simp [g1]; done) | (simp only [nrmT] at *; omega) | (simp at * <;> omega) | (simp_all <;> omega) | (simp_all; done)
            · intro b12
              try simp only [nrmT] at b12
              refine ⟨?_, i_MostCovered_pc Size Sets Costs k, rfl, l_eqIntS_pc (mcL Size Sets Costs k) (mcL Size Sets Costs k), id, id, rfl, fun _ => rfl, ?_, ?_, ?_⟩
              · refine l_toSystem_pc Size Sets Costs ?_ ?_ ?_
                · have := szSys_bound b2; omega
                · have h := (szSys_bound b2).2.1
                  intro xs hx
                  have h := h xs hx
                  omega
                · have := szSys_bound b2; omega
              · intro h; rw [h]; rfl
              · intro b13
                first | (exfalso; simp only [marks_len] at b13; omega) | (simp at b13; done) | (exfalso; simp only [marks_len] at b13; simp at b13; done) | omega | rfl | (intro hg; simp only [nrmT] at hg; omega) | (intro g1 g2; simp [g1, g2]; done) | (intro g1; simp at g1 ⊢; simp [g1]; done) | (simp only [nrmT] at *; omega) | (simp at * <;> omega) | (simp_all <;> omega) | (simp_all; done)
              · intro b14
                refine ⟨?_, ?_, ?_, ?_⟩
                · simp only [marks_len]
                · refine l_heldIntS_pc (marks 1 (mcL Size Sets Costs k).length) 1 ?_ ?_ ?_
                  · first | omega | rfl | (intro hg; simp only [nrmT] at hg; omega) | (intro g1 g2; simp [g1, g2]; done) | (intro g1; simp at g1 ⊢; simp [g1]; done) | (simp only [nrmT] at *; omega) | (simp at * <;> omega) | (simp_all <;> omega) | (simp_all; done)
                  · simp only [marks_len]
                  · simp only [marks_len]
                    have := @mcL_len Size Sets Costs k
                    omega
                · intro b15
                  try simp only [nrmT] at b15
                  first | (exfalso; simp only [marks_len] at b15; omega) | (simp at b15; done) | (exfalso; simp only [marks_len] at b15; simp at b15; done) | omega | rfl | (intro hg; simp only [nrmT] at hg; omega) | (intro g1 g2; simp [g1, g2]; done) | (intro g1; simp at g1 ⊢; simp [g1]; done) | (simp only [nrmT] at *; omega) | (simp at * <;> omega) | (simp_all <;> omega) | (simp_all; done)
                · intro b16
                  try simp only [nrmT] at b16
                  refine ⟨?_, ?_⟩
                  · intro b17
                    try simp only [nrmT] at b17
                    first | (exfalso; simp only [marks_len] at b17; omega) | (simp at b17; done) | (exfalso; simp only [marks_len] at b17; simp at b17; done) | omega | rfl | (intro hg; simp only [nrmT] at hg; omega) | (intro g1 g2; simp [g1, g2]; done) | (intro g1; simp at g1 ⊢; simp [g1]; done) | (simp only [nrmT] at *; omega) | (simp at * <;> omega) | (simp_all <;> omega) | (simp_all; done)
                  · intro b18
                    try simp only [nrmT] at b18
                    exact rfl
theorem l_FnExactMostCovered_pc (Size : Int) (Sets : List (List Int)) (Costs : List Int) (k : Int)  : PC Try.prog 19 [.agg [.int .i64 Size, .sl (.rows Sets), .sl (.ints Costs)], .int .i64 k] (.one (.d (.bool true))) :=
  pc_wf @Try.call19 fun hw => pc_by (by kernel_rfl) Try.func19 @Try.call19 (by kernel_rfl) l_FnExactMostCovered_C (l_FnExactMostCovered_A Size Sets Costs k) (by kernel_rfl) (l_FnExactMostCovered_vc Size Sets Costs k hw.1.2.1.1 hw.1.2.1.2 hw.1.2.2.1) (by kernel_rfl)
end Go.Proofs.Ytmmoejdglnnmcaa
