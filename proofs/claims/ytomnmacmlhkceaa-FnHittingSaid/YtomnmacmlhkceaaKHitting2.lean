/- Contracts of the functions that the law reaches. -/
import Derived.Test.YtomnmacmlhkceaaKHitting1
import Derived.KernelRfl
set_option linter.unusedVariables false
set_option linter.unusedSimpArgs false
namespace Go.Proofs.Ytomnmacmlhkceaa
open Go

theorem s_l6Least_vc (Size : Int) (Sets : List (List Int)) (Costs : List Int) (hg : goodSys Size Sets Costs = true) (w_Sets : (Sets.length : Int) ≤ 9223372036854775807) (v_Sets : ∀ x9 ∈ Sets, (x9.length : Int) ≤ 9223372036854775807) (w_Costs : (Costs.length : Int) ≤ 9223372036854775807) : s_l6Least_P Size Sets Costs := by
  unfold s_l6Least_P
  have gf := gs_facts hg
  have cs := chs_small (n := Sets.length) (by omega)
  have ar := all_rising Sets.length
  refine ⟨rfl, ?_, ?_, ?_, ?_⟩
  · refine s_l6All_pc Size Sets Costs ?_
    · omega
  · refine s_l6Cover_pc Size Sets Costs (allN Sets.length) ?_ ?_
    · omega
    · omega
  · intro b1
    try simp only [nrmT] at b1
    refine ⟨rfl, ?_, ?_⟩
    · first | omega | rfl | (intro hg; simp only [nrmT] at hg; omega) | (intro g1 g2; simp [g1, g2]; done) | (intro g1; simp at g1 ⊢; simp [g1]; done) | (simp only [nrmT] at *; omega) | (simp at * <;> omega) | (simp_all <;> omega) | (simp_all; done)
    · first | omega | rfl | (intro hg; simp only [nrmT] at hg; omega) | (intro g1 g2; simp [g1, g2]; done) | (intro g1; simp at g1 ⊢; simp [g1]; done) | (simp only [nrmT] at *; omega) | (simp at * <;> omega) | (simp_all <;> omega) | (simp_all; done)
  · intro b2
    try simp only [nrmT] at b2
    refine ⟨rfl, ?_, ?_, ?_, ?_, ?_⟩
    · refine s_l6All_pc Size Sets Costs ?_
      · omega
    · refine s_l6Choices_pc (Sets.length : Int) ?_
      · omega
    · first | omega | rfl | (intro hg; simp only [nrmT] at hg; omega) | (intro g1 g2; simp [g1, g2]; done) | (intro g1; simp at g1 ⊢; simp [g1]; done) | (simp only [nrmT] at *; omega) | (simp at * <;> omega) | (simp_all <;> omega) | (simp_all; done)
    · refine ⟨(allN Sets.length), ((((chs (Sets.length : Int).toNat).length) : Int) - 1), ?_⟩
      refine ⟨?_, rfl, rfl, rfl, rfl, rfl, rfl⟩
      · refine ⟨?_, ?_, ?_, ?_, ?_⟩
        · omega
        · first | omega | rfl | (intro hg; simp only [nrmT] at hg; omega) | (intro g1 g2; simp [g1, g2]; done) | (intro g1; simp at g1 ⊢; simp [g1]; done) | (simp only [nrmT] at *; omega) | (simp at * <;> omega) | (simp_all <;> omega) | (simp_all; done)
        · omega
        · exact chs_all _
        · rw [Int.toNat_natCast, show (((chs Sets.length).length : Int) - 1 + 1).toNat = (chs Sets.length).length by omega, List.drop_length]; rfl
    · intro best i hJ
      obtain ⟨h1, h2, hcv, h3, h4⟩ := hJ
      refine ⟨?_, ?_⟩
      · intro b3
        try simp only [nrmT] at b3
        refine ⟨rfl, ?_, ?_, ?_, ?_, id, id, ?_, ?_, id, ?_, id, id, ?_, id, id, ?_, id, id, rfl, id, fun _ => rfl, ?_, ?_⟩
        · omega
        · first | omega | rfl | (intro hg; simp only [nrmT] at hg; omega) | (intro g1 g2; simp [g1, g2]; done) | (intro g1; simp at g1 ⊢; simp [g1]; done) | (simp only [nrmT] at *; omega) | (simp at * <;> omega) | (simp_all <;> omega) | (simp_all; done)
        · first | omega | rfl | (intro hg; simp only [nrmT] at hg; omega) | (intro g1 g2; simp [g1, g2]; done) | (intro g1; simp at g1 ⊢; simp [g1]; done) | (simp only [nrmT] at *; omega) | (simp at * <;> omega) | (simp_all <;> omega) | (simp_all; done)
        · refine s_l6Cover_pc Size Sets Costs ((chs (Sets.length : Int).toNat).getD i.toNat []) ?_ ?_
          · omega
          · exact chs_rising (getD_memI (by omega) h2)
        · omega
        · first | omega | rfl | (intro hg; simp only [nrmT] at hg; omega) | (intro g1 g2; simp [g1, g2]; done) | (intro g1; simp at g1 ⊢; simp [g1]; done) | (simp only [nrmT] at *; omega) | (simp at * <;> omega) | (simp_all <;> omega) | (simp_all; done)
        · first | omega | rfl | (intro hg; simp only [nrmT] at hg; omega) | (intro g1 g2; simp [g1, g2]; done) | (intro g1; simp at g1 ⊢; simp [g1]; done) | (simp only [nrmT] at *; omega) | (simp at * <;> omega) | (simp_all <;> omega) | (simp_all; done)
        · intro hg
          refine s_l6Cost_pc Size Sets Costs ((chs (Sets.length : Int).toNat).getD i.toNat []) ?_ ?_
          · omega
          · exact chs_rising (getD_memI (by omega) h2)
        · intro hg
          refine s_l6Cost_pc Size Sets Costs best ?_ ?_
          · omega
          · exact chs_rising h3
        · intro b4
          refine ⟨?_, ?_, ?_, ?_, ?_⟩
          · omega
          · first | omega | rfl | (intro hg; simp only [nrmT] at hg; omega) | (intro g1 g2; simp [g1, g2]; done) | (intro g1; simp at g1 ⊢; simp [g1]; done) | (simp only [nrmT] at *; omega) | (simp at * <;> omega) | (simp_all <;> omega) | (simp_all; done)
          · first | omega | rfl | (intro hg; simp only [nrmT] at hg; omega) | (intro g1 g2; simp [g1, g2]; done) | (intro g1; simp at g1 ⊢; simp [g1]; done) | (simp only [nrmT] at *; omega) | (simp at * <;> omega) | (simp_all <;> omega) | (simp_all; done)
          · omega
          · refine ⟨((chs (Sets.length : Int).toNat).getD i.toNat []), (i - 1), ?_⟩
            refine ⟨?_, ?_, rfl, rfl, rfl, rfl, rfl, rfl⟩
            · refine ⟨?_, ?_, ?_, ?_, ?_⟩
              · omega
              · omega
              · omega
              · exact getD_memI (by omega) h2
              · rw [Int.toNat_natCast] at b4 ⊢
                rw [cond_and, Bool.and_eq_true, decide_eq_true_eq] at b4
                rw [foldr_at (by omega) h2, ← h4]; unfold leB; rw [if_pos b4]
            · first | (show _ < _; omega) | (simp only [s_l6Least_mJ0]; omega) | (simp only [s_l6Least_mJ0] at *; simp at *; omega)
        · intro b5
          refine ⟨?_, ?_⟩
          · omega
          · refine ⟨best, (i - 1), ?_⟩
            refine ⟨?_, ?_, rfl, rfl, rfl, rfl, rfl, rfl⟩
            · refine ⟨?_, ?_, ?_, ?_, ?_⟩
              · omega
              · omega
              · omega
              · exact h3
              · rw [Int.toNat_natCast] at b5
                rw [cond_and, Bool.eq_false_iff, Ne, Bool.and_eq_true, decide_eq_true_eq] at b5
                rw [foldr_at (by omega) h2, ← h4]; unfold leB; rw [if_neg b5]
            · first | (show _ < _; omega) | (simp only [s_l6Least_mJ0]; omega) | (simp only [s_l6Least_mJ0] at *; simp at *; omega)
      · intro b6
        try simp only [nrmT] at b6
        refine ⟨?_, ?_⟩
        · rw [if_pos hcv, h4, show (i + 1).toNat = 0 by omega, List.drop_zero]; exact foldr_all (chs_all _) hcv
        · first | omega | rfl | (intro hg; simp only [nrmT] at hg; omega) | (intro g1 g2; simp [g1, g2]; done) | (intro g1; simp at g1 ⊢; simp [g1]; done) | (simp only [nrmT] at *; omega) | (simp at * <;> omega) | (simp_all <;> omega) | (simp_all; done)
theorem s_l6Least_pc (Size : Int) (Sets : List (List Int)) (Costs : List Int) (hg : goodSys Size Sets Costs = true) : PC Try.prog 171 [.agg [.int .i64 Size, .sl (.rows Sets), .sl (.ints Costs)]] (.tup [.d (.sl (.ints (if coverB Size Sets (allN Sets.length) = true then lcS Size Sets Costs else []))), .d (.bool (coverB Size Sets (allN Sets.length)))]) :=
  pc_wf @Try.call171 fun hw => pc_by (by kernel_rfl) Try.func171 @Try.call171 (by kernel_rfl) s_l6Least_C (s_l6Least_A Size Sets Costs) (by kernel_rfl) (s_l6Least_vc Size Sets Costs hg hw.1.2.1.1 hw.1.2.1.2 hw.1.2.2.1) (by kernel_rfl)
def s_l6Least_orc : List D → Orc := orcN [none] fun ds => match ds with
  | [.agg [.int .i64 Size, .sl (.rows Sets), .sl (.ints Costs)]] => some (.tup [.d (.sl (.ints (if coverB Size Sets (allN Sets.length) = true then lcS Size Sets Costs else []))), .d (.bool (coverB Size Sets (allN Sets.length)))])
  | _ => none
def i_LeastCover_C (f : FuncId) (ds : List D) : Orc := bif Nat.beq f 76 then i_IsSystem_orc ds else bif Nat.beq f 173 then i_lists_cover_orc ds else bif Nat.beq f 172 then i_least_cost_orc ds else .no
def i_LeastCover_A (Size : Int) (Sets : List (List Int)) (Costs : List Int) : Ann := .none
def i_LeastCover_P (Size : Int) (Sets : List (List Int)) (Costs : List Int) : Prop :=
  (PC Try.prog 76 [.agg [.int .i64 Size, .sl (.rows Sets), .sl (.ints Costs)]] (.one (.d (.bool (goodSys Size Sets Costs))))) ∧ (((!(goodSys Size Sets Costs)) = true → (((lcL Size Sets Costs).length = 0) ∧ (false = (lcOk Size Sets Costs)))) ∧ ((!(goodSys Size Sets Costs)) = false → (PC Try.prog 173 [.int .i64 (Sets.length : Int), .fn 166 1 [.agg [.int .i64 Size, .sl (.rows Sets), .sl (.ints Costs)]]] (.one (.d (.sl (.rows ((chs (Sets.length : Int).toNat).filter (coverB Size Sets))))))) ∧ ((((((chs (Sets.length : Int).toNat).filter (coverB Size Sets)).length : Int) == 0) = true → (((lcL Size Sets Costs).length = 0) ∧ (false = (lcOk Size Sets Costs)))) ∧ (((((chs (Sets.length : Int).toNat).filter (coverB Size Sets)).length : Int) == 0) = false → (PCs Try.prog 172 [.sl (.rows ((chs (Sets.length : Int).toNat).filter (coverB Size Sets))), .fn 178 1 [.agg [.int .i64 Size, .sl (.rows Sets), .sl (.ints Costs)]]] 0 (.sl (.ints (leastL (costOf Costs) ((chs (Sets.length : Int).toNat).filter (coverB Size Sets)))))) ∧ ((((leastL (costOf Costs) ((chs (Sets.length : Int).toNat).filter (coverB Size Sets))) : List Int) = (lcL Size Sets Costs)) ∧ (true = (lcOk Size Sets Costs)))))))
theorem i_LeastCover_vc (Size : Int) (Sets : List (List Int)) (Costs : List Int)  (w_Sets : (Sets.length : Int) ≤ 9223372036854775807) (v_Sets : ∀ x9 ∈ Sets, (x9.length : Int) ≤ 9223372036854775807) (w_Costs : (Costs.length : Int) ≤ 9223372036854775807) : i_LeastCover_P Size Sets Costs := by
  unfold i_LeastCover_P
  refine ⟨i_IsSystem_pc Size Sets Costs, ?_, ?_⟩
  · intro b1
    try simp only [nrmT] at b1
    refine ⟨?_, ?_⟩
    · have hq : goodSys Size Sets Costs = false := by simpa using b1
      unfold lcL lcOk; rw [hq]; rfl
    · have hq : goodSys Size Sets Costs = false := by simpa using b1
      unfold lcOk; rw [hq]; rfl
  · intro b2
    try simp only [nrmT] at b2
    refine ⟨?_, ?_, ?_⟩
    · refine i_lists_cover_pc (Sets.length : Int) Size Sets Costs ?_ ?_
      · have hq : goodSys Size Sets Costs = true := by simpa using b2
        have := gs_facts hq
        omega
      · have hq : goodSys Size Sets Costs = true := by simpa using b2
        intro s hs
        rw [Int.toNat_natCast] at hs
        exact ⟨hq, chs_rising hs⟩
    · intro b3
      try simp only [nrmT] at b3
      refine ⟨?_, ?_⟩
      · rw [Int.toNat_natCast] at b3
        unfold lcL lcOk; rw [lc_none (by omega), Bool.and_false]; rfl
      · rw [Int.toNat_natCast] at b3
        unfold lcOk; rw [lc_none (by omega), Bool.and_false]
    · intro b4
      try simp only [nrmT] at b4
      refine ⟨?_, ?_, ?_⟩
      · refine i_least_cost_pc ((chs (Sets.length : Int).toNat).filter (coverB Size Sets)) Size Sets Costs ?_ ?_
        · rw [Int.toNat_natCast] at *; omega
        · have hq : goodSys Size Sets Costs = true := by simpa using b2
          intro s hs
          rw [Int.toNat_natCast] at hs
          exact ⟨hq, chs_rising (List.mem_filter.1 hs).1⟩
      · have hq : goodSys Size Sets Costs = true := by simpa using b2
        rw [Int.toNat_natCast] at *
        unfold lcL lcOk; rw [hq, lc_some (by omega)]; rfl
      · have hq : goodSys Size Sets Costs = true := by simpa using b2
        rw [Int.toNat_natCast] at *
        unfold lcOk; rw [hq, lc_some (by omega)]; rfl
theorem i_LeastCover_pc (Size : Int) (Sets : List (List Int)) (Costs : List Int)  : PC Try.prog 82 [.agg [.int .i64 Size, .sl (.rows Sets), .sl (.ints Costs)]] (.tup [.d (.sl (.ints (lcL Size Sets Costs))), .d (.bool (lcOk Size Sets Costs))]) :=
  pc_wf @Try.call82 fun hw => pc_by (by kernel_rfl) Try.func82 @Try.call82 (by kernel_rfl) i_LeastCover_C (i_LeastCover_A Size Sets Costs) (by kernel_rfl) (i_LeastCover_vc Size Sets Costs hw.1.2.1.1 hw.1.2.1.2 hw.1.2.2.1) (by kernel_rfl)
def i_LeastCover_orc : List D → Orc := orcN [none] fun ds => match ds with
  | [.agg [.int .i64 Size, .sl (.rows Sets), .sl (.ints Costs)]] => some (.tup [.d (.sl (.ints (lcL Size Sets Costs))), .d (.bool (lcOk Size Sets Costs))])
  | _ => none
abbrev s_l6Turned_JJ0 (Size : Int) (Sets : List (List Int)) (Costs : List Int) (i : Int) (sz : Int) (rs : List (List Int)) (cs : List Int) : Prop := (sz = (Sets.length : Int)) ∧ (0 ≤ i) ∧ (i ≤ Size) ∧ (rs = tabTo (turnAt Sets) i.toNat) ∧ (cs = List.replicate i.toNat 1)
abbrev s_l6Turned_mJ0 (Size : Int) (Sets : List (List Int)) (Costs : List Int) (i : Int) (sz : Int) (rs : List (List Int)) (cs : List Int) : Nat := (Size - i).toNat
abbrev s_l6Turned_JJ1 (Size : Int) (Sets : List (List Int)) (Costs : List Int) (i : Int) (sz : Int) (rs : List (List Int)) (cs : List Int) (own : List Int) (k : Int) : Prop := (0 ≤ k) ∧ (k ≤ (Sets.length : Int)) ∧ (own = members (fun k => (Sets.getD k []).contains i) k.toNat)
abbrev s_l6Turned_mJ1 (Size : Int) (Sets : List (List Int)) (Costs : List Int) (i : Int) (sz : Int) (rs : List (List Int)) (cs : List Int) (own : List Int) (k : Int) : Nat := (Sets.length - k).toNat
abbrev s_l6Turned_JA1 (Size : Int) (Sets : List (List Int)) (Costs : List Int) (i : Int) (sz : Int) (rs : List (List Int)) (cs : List Int) (row : List Int) : Prop := (row = turnAt Sets i.toNat)
def s_l6Turned_C (f : FuncId) (ds : List D) : Orc := bif Nat.beq f 182 then s_l1Has_orc ds else .no
def s_l6Turned_A (Size : Int) (Sets : List (List Int)) (Costs : List Int) : Ann := .two (.none) (.two (.none) (.two (.two (.none) (.loop (cut4 (fun (i : Int) (sz : Int) (rs : List (List Int)) (cs : List Int) => s_l6Turned_JJ0 Size Sets Costs i sz rs cs) (fun (i : Int) (sz : Int) (rs : List (List Int)) (cs : List Int) => [(1, .ptr 1 0), (2, .ptr 2 0), (3, .ptr 3 0), (4, .d true (.int .i64 i))]) (fun (i : Int) (sz : Int) (rs : List (List Int)) (cs : List Int) => [(1, .box 36 [.d false (.int .i64 Size), .d false (.sl (.rows Sets)), .d false (.sl (.ints Costs))]), (2, .box 36 [.d true (.int .i64 0), .d true (.nil), .d true (.nil)]), (1000002, .arr true 26 (.rows rs)), (1000003, .arr true 3 (.ints cs)), (3, .box 36 [.d true (.int .i64 sz), .own 1000002 rs.length, .own 1000003 cs.length])])) (fun g => s_l6Turned_mJ0 Size Sets Costs g.1 g.2.1 g.2.2.1 g.2.2.2) (fun g => (fun (i : Int) (sz : Int) (rs : List (List Int)) (cs : List Int) => .two (.none) (.two (.two (.none) (.cut (.two (.none) (.loop (cut2 (fun (own : List Int) (k : Int) => s_l6Turned_JJ1 Size Sets Costs i sz rs cs own k) (fun (own : List Int) (k : Int) => [(1, .ptr 1 0), (2, .ptr 2 0), (3, .ptr 3 0), (4, .d true (.int .i64 i)), (5, .own 1000100 own.length), (6, .d true (.int .i64 k))]) (fun (own : List Int) (k : Int) => [(1000100, .arr true 3 (.ints own)), (1, .box 36 [.d false (.int .i64 Size), .d false (.sl (.rows Sets)), .d false (.sl (.ints Costs))]), (2, .box 36 [.d true (.int .i64 0), .d true (.nil), .d true (.nil)]), (3, .box 36 [.d true (.int .i64 sz), .own 1000002 rs.length, .own 1000003 cs.length]), (1000002, .arr true 26 (.rows rs)), (1000003, .arr true 3 (.ints cs))])) (fun g => s_l6Turned_mJ1 Size Sets Costs i sz rs cs g.1 g.2) (fun _ => .none))) (cut1 (fun (row : List Int) => s_l6Turned_JA1 Size Sets Costs i sz rs cs row) (fun (row : List Int) => [(1, .ptr 1 0), (2, .ptr 2 0), (3, .ptr 3 0), (4, .d true (.int .i64 i)), (5, .d true (.sl (.ints row)))]) (fun (row : List Int) => [(1, .box 36 [.d false (.int .i64 Size), .d false (.sl (.rows Sets)), .d false (.sl (.ints Costs))]), (2, .box 36 [.d true (.int .i64 0), .d true (.nil), .d true (.nil)]), (3, .box 36 [.d true (.int .i64 sz), .own 1000002 rs.length, .own 1000003 cs.length]), (1000002, .arr true 26 (.rows rs)), (1000003, .arr true 3 (.ints cs))])) (fun _ => .none))) (.none))) (g.1) (g.2.1) (g.2.2.1) (g.2.2.2)))) (.none)))
def s_l6Turned_P (Size : Int) (Sets : List (List Int)) (Costs : List Int) : Prop :=
  ((∃ i' : Int, ∃ sz' : Int, ∃ rs' : List (List Int), ∃ cs' : List Int, (s_l6Turned_JJ0 Size Sets Costs i' sz' rs' cs') ∧ ((0 : Int) = i') ∧ (Size = Size) ∧ (Sets = Sets) ∧ (Costs = Costs) ∧ ((0 : Int) = 0) ∧ ([] = rs') ∧ ([] = cs') ∧ ((Sets.length : Int) = sz') ∧ ((0 : Nat) = rs'.length) ∧ ((0 : Nat) = cs'.length)) ∧ (∀ i : Int, ∀ sz : Int, ∀ rs : List (List Int), ∀ cs : List Int, (s_l6Turned_JJ0 Size Sets Costs i sz rs cs) → (((decide (i < Size)) = true → ((((∃ own' : List Int, ∃ k' : Int, (s_l6Turned_JJ1 Size Sets Costs i sz rs cs own' k') ∧ (i = i) ∧ ((0 : Nat) = own'.length) ∧ ((0 : Int) = k') ∧ ([] = own') ∧ (Size = Size) ∧ (Sets = Sets) ∧ (Costs = Costs) ∧ ((0 : Int) = 0) ∧ (sz = sz) ∧ (rs.length = rs.length) ∧ (cs.length = cs.length) ∧ (rs = rs) ∧ (cs = cs)) ∧ (∀ own : List Int, ∀ k : Int, (s_l6Turned_JJ1 Size Sets Costs i sz rs cs own k) → (((decide (k < (Sets.length : Int))) = true → ((0 : Int) ≤ k) ∧ ((k : Int) < Sets.length) ∧ (k.toNat < Sets.length) ∧ (PC Try.prog 182 [.sl (.ints (Sets.getD k.toNat [])), .int .i64 i] (.one (.d (.bool ((Sets.getD k.toNat []).contains i))))) ∧ ((((Sets.getD k.toNat []).contains i) = true → (own.length = own.length) ∧ ((1 : Nat) = 1) ∧ ((own.length + 1) * 8 ≤ 140737488355328) ∧ (-9223372036854775808 ≤ (k + 1) ∧ (k + 1) ≤ 9223372036854775807) ∧ (∃ own' : List Int, ∃ k' : Int, (s_l6Turned_JJ1 Size Sets Costs i sz rs cs own' k') ∧ (s_l6Turned_mJ1 Size Sets Costs i sz rs cs own' k' < s_l6Turned_mJ1 Size Sets Costs i sz rs cs own k) ∧ (i = i) ∧ ((own.length + 1) = own'.length) ∧ ((k + 1) = k') ∧ ((own ++ [k]) = own') ∧ (Size = Size) ∧ (Sets = Sets) ∧ (Costs = Costs) ∧ ((0 : Int) = 0) ∧ (sz = sz) ∧ (rs.length = rs.length) ∧ (cs.length = cs.length) ∧ (rs = rs) ∧ (cs = cs))) ∧ (((Sets.getD k.toNat []).contains i) = false → (-9223372036854775808 ≤ (k + 1) ∧ (k + 1) ≤ 9223372036854775807) ∧ (∃ own' : List Int, ∃ k' : Int, (s_l6Turned_JJ1 Size Sets Costs i sz rs cs own' k') ∧ (s_l6Turned_mJ1 Size Sets Costs i sz rs cs own' k' < s_l6Turned_mJ1 Size Sets Costs i sz rs cs own k) ∧ (i = i) ∧ (own.length = own'.length) ∧ ((k + 1) = k') ∧ (own = own') ∧ (Size = Size) ∧ (Sets = Sets) ∧ (Costs = Costs) ∧ ((0 : Int) = 0) ∧ (sz = sz) ∧ (rs.length = rs.length) ∧ (cs.length = cs.length) ∧ (rs = rs) ∧ (cs = cs))))) ∧ ((decide (k < (Sets.length : Int))) = false → (∃ row' : List Int, (s_l6Turned_JA1 Size Sets Costs i sz rs cs row') ∧ (i = i) ∧ (own.length = own.length) ∧ (own = row') ∧ (Size = Size) ∧ (Sets = Sets) ∧ (Costs = Costs) ∧ ((0 : Int) = 0) ∧ (sz = sz) ∧ (rs.length = rs.length) ∧ (cs.length = cs.length) ∧ (rs = rs) ∧ (cs = cs))))))) ∧ (∀ row : List Int, (s_l6Turned_JA1 Size Sets Costs i sz rs cs row) → (rs.length = rs.length) ∧ ((1 : Nat) = 1) ∧ ((rs.length + 1) * 24 ≤ 140737488355328) ∧ (cs.length = cs.length) ∧ ((1 : Nat) = 1) ∧ ((cs.length + 1) * 8 ≤ 140737488355328) ∧ (-9223372036854775808 ≤ (i + 1) ∧ (i + 1) ≤ 9223372036854775807) ∧ (∃ i' : Int, ∃ sz' : Int, ∃ rs' : List (List Int), ∃ cs' : List Int, (s_l6Turned_JJ0 Size Sets Costs i' sz' rs' cs') ∧ (s_l6Turned_mJ0 Size Sets Costs i' sz' rs' cs' < s_l6Turned_mJ0 Size Sets Costs i sz rs cs) ∧ ((i + 1) = i') ∧ (Size = Size) ∧ (Sets = Sets) ∧ (Costs = Costs) ∧ ((0 : Int) = 0) ∧ ((rs ++ [row]) = rs') ∧ ((cs ++ [1]) = cs') ∧ (sz = sz') ∧ ((rs.length + 1) = rs'.length) ∧ ((cs.length + 1) = cs'.length))))) ∧ ((decide (i < Size)) = false → ((rs.length = rs.length) ∧ (cs.length = cs.length) ∧ ((.agg [.int .i64 sz, .sl (.rows rs), .sl (.ints cs)] : D) = .agg [.int .i64 (Sets.length : Int), .sl (.rows (turnR Sets Size.toNat)), .sl (.ints (List.replicate Size.toNat 1))]))))))
theorem s_l6Turned_vc (Size : Int) (Sets : List (List Int)) (Costs : List Int) (hg : goodSys Size Sets Costs = true) (w_Sets : (Sets.length : Int) ≤ 9223372036854775807) (v_Sets : ∀ x9 ∈ Sets, (x9.length : Int) ≤ 9223372036854775807) (w_Costs : (Costs.length : Int) ≤ 9223372036854775807) : s_l6Turned_P Size Sets Costs := by
  unfold s_l6Turned_P
  have gf := gs_facts hg
  refine ⟨?_, ?_⟩
  · refine ⟨0, (Sets.length : Int), ([]), ([]), ?_⟩
    refine ⟨?_, rfl, rfl, rfl, rfl, rfl, ?_, ?_, rfl, rfl, rfl⟩
    · refine ⟨?_, ?_, ?_, ?_, ?_⟩
      · rfl
      · omega
      · omega
      · rfl
      · rfl
    · first | omega | rfl | (intro hg; simp only [nrmT] at hg; omega) | (intro g1 g2; simp [g1, g2]; done) | (intro g1; simp at g1 ⊢; simp [g1]; done) | (simp only [nrmT] at *; omega) | (simp at * <;> omega) | (simp_all <;> omega) | (simp_all; done)
    · first | omega | rfl | (intro hg; simp only [nrmT] at hg; omega) | (intro g1 g2; simp [g1, g2]; done) | (intro g1; simp at g1 ⊢; simp [g1]; done) | (simp only [nrmT] at *; omega) | (simp at * <;> omega) | (simp_all <;> omega) | (simp_all; done)
  · intro i sz rs cs hJ
    obtain ⟨h0, h1, h2, h3, h4⟩ := hJ
    refine ⟨?_, ?_⟩
    · intro b1
      try simp only [nrmT] at b1
      refine ⟨?_, ?_⟩
      · refine ⟨?_, ?_⟩
        · refine ⟨([]), 0, ?_⟩
          refine ⟨?_, rfl, rfl, rfl, ?_, rfl, rfl, rfl, rfl, rfl, rfl, rfl, rfl, rfl⟩
          · refine ⟨?_, ?_, ?_⟩
            · omega
            · omega
            · rfl
          · rfl
        · intro own k hJ
          obtain ⟨h5, h6, h7⟩ := hJ
          refine ⟨?_, ?_⟩
          · intro b2
            try simp only [nrmT] at b2
            refine ⟨?_, ?_, ?_, s_l1Has_pc (Sets.getD k.toNat []) i, ?_, ?_⟩
            · omega
            · omega
            · omega
            · intro b3
              try simp only [nrmT] at b3
              refine ⟨rfl, rfl, ?_, ?_, ?_⟩
              · rw [h7]; have := members_len_le (fun k => (Sets.getD k []).contains i) k.toNat; omega
              · omega
              · refine ⟨(own ++ [k]), (k + 1), ?_⟩
                refine ⟨?_, ?_, rfl, ?_, rfl, rfl, rfl, rfl, rfl, rfl, rfl, rfl, rfl, rfl, rfl⟩
                · refine ⟨?_, ?_, ?_⟩
                  · omega
                  · omega
                  · rw [h7, show (k + 1).toNat = k.toNat + 1 by omega, members_succ, if_pos b3, show ((k.toNat : Nat) : Int) = k by omega]
                · first | (show _ < _; omega) | (simp only [s_l6Turned_mJ1]; omega) | (simp only [s_l6Turned_mJ1] at *; simp at *; omega)
                · simp
            · intro b4
              try simp only [nrmT] at b4
              refine ⟨?_, ?_⟩
              · omega
              · refine ⟨own, (k + 1), ?_⟩
                refine ⟨?_, ?_, rfl, rfl, rfl, rfl, rfl, rfl, rfl, rfl, rfl, rfl, rfl, rfl, rfl⟩
                · refine ⟨?_, ?_, ?_⟩
                  · omega
                  · omega
                  · rw [h7, show (k + 1).toNat = k.toNat + 1 by omega, members_succ, if_neg (by rw [b4]; decide), List.append_nil]
                · first | (show _ < _; omega) | (simp only [s_l6Turned_mJ1]; omega) | (simp only [s_l6Turned_mJ1] at *; simp at *; omega)
          · intro b5
            try simp only [nrmT] at b5
            refine ⟨own, ?_⟩
            refine ⟨?_, rfl, rfl, rfl, rfl, rfl, rfl, rfl, rfl, rfl, rfl, rfl, rfl⟩
            · unfold s_l6Turned_JA1
              rw [h7]
              unfold turnAt
              rw [show k.toNat = Sets.length by omega, show ((i.toNat : Nat) : Int) = i by omega]
      · intro row hJ
        have h8 := hJ
        refine ⟨rfl, rfl, ?_, rfl, rfl, ?_, ?_, ?_⟩
        · rw [h3, tabTo_len]; omega
        · rw [h4, List.length_replicate]; omega
        · omega
        · refine ⟨(i + 1), sz, (rs ++ [row]), (cs ++ [1]), ?_⟩
          refine ⟨?_, ?_, rfl, rfl, rfl, rfl, rfl, rfl, rfl, rfl, ?_, ?_⟩
          · refine ⟨?_, ?_, ?_, ?_, ?_⟩
            · assumption
            · omega
            · omega
            · rw [h3, h8, show (i + 1).toNat = i.toNat + 1 by omega, tabTo_succ]
            · rw [h4, show (i + 1).toNat = i.toNat + 1 by omega, List.replicate_succ']
          · first | (show _ < _; omega) | (simp only [s_l6Turned_mJ0]; omega) | (simp only [s_l6Turned_mJ0] at *; simp at *; omega)
          · simp
          · simp
    · intro b6
      try simp only [nrmT] at b6
      refine ⟨rfl, rfl, ?_⟩
      · rw [h0, h3, h4, show i.toNat = Size.toNat by omega]; rfl
theorem s_l6Turned_pc (Size : Int) (Sets : List (List Int)) (Costs : List Int) (hg : goodSys Size Sets Costs = true) : PC Try.prog 123 [.agg [.int .i64 Size, .sl (.rows Sets), .sl (.ints Costs)]] (.one (.d (.agg [.int .i64 (Sets.length : Int), .sl (.rows (turnR Sets Size.toNat)), .sl (.ints (List.replicate Size.toNat 1))]))) :=
  pc_wf @Try.call123 fun hw => pc_by (by kernel_rfl) Try.func123 @Try.call123 (by kernel_rfl) s_l6Turned_C (s_l6Turned_A Size Sets Costs) (by kernel_rfl) (s_l6Turned_vc Size Sets Costs hg hw.1.2.1.1 hw.1.2.1.2 hw.1.2.2.1) (by kernel_rfl)
def s_l6Turned_orc : List D → Orc := orcN [none] fun ds => match ds with
  | [.agg [.int .i64 Size, .sl (.rows Sets), .sl (.ints Costs)]] => some (.one (.d (.agg [.int .i64 (Sets.length : Int), .sl (.rows (turnR Sets Size.toNat)), .sl (.ints (List.replicate Size.toNat 1))])))
  | _ => none
def lhL (Size : Int) (Sets : List (List Int)) (Costs : List Int) : List Int := if goodSys Size Sets Costs = true then lcL (Sets.length : Int) (turnR Sets Size.toNat) (List.replicate Size.toNat 1) else []
def lhOk (Size : Int) (Sets : List (List Int)) (Costs : List Int) : Bool := goodSys Size Sets Costs && lcOk (Sets.length : Int) (turnR Sets Size.toNat) (List.replicate Size.toNat 1)
theorem lh_same {Size : Int} {Sets : List (List Int)} {Costs : List Int} (h : goodSys Size Sets Costs = true) : lcL (Sets.length : Int) (turnR Sets Size.toNat) (List.replicate Size.toNat 1) = (if coverB (Sets.length : Int) (turnR Sets Size.toNat) (allN (turnR Sets Size.toNat).length) = true then lcS (Sets.length : Int) (turnR Sets Size.toNat) (List.replicate Size.toNat 1) else []) ∧ lcOk (Sets.length : Int) (turnR Sets Size.toNat) (List.replicate Size.toNat 1) = coverB (Sets.length : Int) (turnR Sets Size.toNat) (allN (turnR Sets Size.toNat).length) := by
  unfold lcL lcOk
  rw [turn_good h, Bool.true_and]
  exact ⟨rfl, rfl⟩
def s_LeastHitting_C (f : FuncId) (ds : List D) : Orc := bif Nat.beq f 122 then s_l6Good_orc ds else bif Nat.beq f 123 then s_l6Turned_orc ds else bif Nat.beq f 171 then s_l6Least_orc ds else .no
def s_LeastHitting_A (Size : Int) (Sets : List (List Int)) (Costs : List Int) : Ann := .none
def s_LeastHitting_P (Size : Int) (Sets : List (List Int)) (Costs : List Int) : Prop :=
  (PC Try.prog 122 [.agg [.int .i64 Size, .sl (.rows Sets), .sl (.ints Costs)]] (.one (.d (.bool (goodSys Size Sets Costs))))) ∧ (((!(goodSys Size Sets Costs)) = true → (((0 : Nat) = 0) ∧ (([] : List Int) = (lhL Size Sets Costs)) ∧ (false = (lhOk Size Sets Costs)))) ∧ ((!(goodSys Size Sets Costs)) = false → (PC Try.prog 123 [.agg [.int .i64 Size, .sl (.rows Sets), .sl (.ints Costs)]] (.one (.d (.agg [.int .i64 (Sets.length : Int), .sl (.rows (turnR Sets Size.toNat)), .sl (.ints (List.replicate Size.toNat 1))])))) ∧ (PC Try.prog 171 [.agg [.int .i64 (Sets.length : Int), .sl (.rows (turnR Sets Size.toNat)), .sl (.ints (List.replicate Size.toNat 1))]] (.tup [.d (.sl (.ints (if coverB (Sets.length : Int) (turnR Sets Size.toNat) (allN (turnR Sets Size.toNat).length) = true then lcS (Sets.length : Int) (turnR Sets Size.toNat) (List.replicate Size.toNat 1) else []))), .d (.bool (coverB (Sets.length : Int) (turnR Sets Size.toNat) (allN (turnR Sets Size.toNat).length)))])) ∧ ((((if coverB (Sets.length : Int) (turnR Sets Size.toNat) (allN (turnR Sets Size.toNat).length) = true then lcS (Sets.length : Int) (turnR Sets Size.toNat) (List.replicate Size.toNat 1) else []) : List Int) = (lhL Size Sets Costs)) ∧ ((coverB (Sets.length : Int) (turnR Sets Size.toNat) (allN (turnR Sets Size.toNat).length)) = (lhOk Size Sets Costs)))))
theorem s_LeastHitting_vc (Size : Int) (Sets : List (List Int)) (Costs : List Int)  (w_Sets : (Sets.length : Int) ≤ 9223372036854775807) (v_Sets : ∀ x9 ∈ Sets, (x9.length : Int) ≤ 9223372036854775807) (w_Costs : (Costs.length : Int) ≤ 9223372036854775807) : s_LeastHitting_P Size Sets Costs := by
  unfold s_LeastHitting_P
  refine ⟨s_l6Good_pc Size Sets Costs, ?_, ?_⟩
  · intro b1
    try simp only [nrmT] at b1
    refine ⟨rfl, ?_, ?_⟩
    · have hq : goodSys Size Sets Costs = false := by simpa using b1
      unfold lhL; rw [hq]; rfl
    · have hq : goodSys Size Sets Costs = false := by simpa using b1
      unfold lhOk; rw [hq]; rfl
  · intro b2
    try simp only [nrmT] at b2
    refine ⟨?_, ?_, ?_, ?_⟩
    · refine s_l6Turned_pc Size Sets Costs ?_
      · have hq : goodSys Size Sets Costs = true := by simpa using b2
        exact hq
    · refine s_l6Least_pc (Sets.length : Int) (turnR Sets Size.toNat) (List.replicate Size.toNat 1) ?_
      · have hq : goodSys Size Sets Costs = true := by simpa using b2
        exact turn_good hq
    · have hq : goodSys Size Sets Costs = true := by simpa using b2
      unfold lhL; rw [if_pos hq, (lh_same hq).1]
    · have hq : goodSys Size Sets Costs = true := by simpa using b2
      unfold lhOk; rw [hq, Bool.true_and, (lh_same hq).2]
theorem s_LeastHitting_pc (Size : Int) (Sets : List (List Int)) (Costs : List Int)  : PC Try.prog 79 [.agg [.int .i64 Size, .sl (.rows Sets), .sl (.ints Costs)]] (.tup [.d (.sl (.ints (lhL Size Sets Costs))), .d (.bool (lhOk Size Sets Costs))]) :=
  pc_wf @Try.call79 fun hw => pc_by (by kernel_rfl) Try.func79 @Try.call79 (by kernel_rfl) s_LeastHitting_C (s_LeastHitting_A Size Sets Costs) (by kernel_rfl) (s_LeastHitting_vc Size Sets Costs hw.1.2.1.1 hw.1.2.1.2 hw.1.2.2.1) (by kernel_rfl)
def s_LeastHitting_orc : List D → Orc := orcN [none] fun ds => match ds with
  | [.agg [.int .i64 Size, .sl (.rows Sets), .sl (.ints Costs)]] => some (.tup [.d (.sl (.ints (lhL Size Sets Costs))), .d (.bool (lhOk Size Sets Costs))])
  | _ => none
def i_LeastHitting_C (f : FuncId) (ds : List D) : Orc := bif Nat.beq f 76 then i_IsSystem_orc ds else bif Nat.beq f 124 then i_System_turned_orc ds else bif Nat.beq f 82 then i_LeastCover_orc ds else .no
def i_LeastHitting_A (Size : Int) (Sets : List (List Int)) (Costs : List Int) : Ann := .none
def i_LeastHitting_P (Size : Int) (Sets : List (List Int)) (Costs : List Int) : Prop :=
  (PC Try.prog 76 [.agg [.int .i64 Size, .sl (.rows Sets), .sl (.ints Costs)]] (.one (.d (.bool (goodSys Size Sets Costs))))) ∧ (((!(goodSys Size Sets Costs)) = true → (((lhL Size Sets Costs).length = 0) ∧ (false = (lhOk Size Sets Costs)))) ∧ ((!(goodSys Size Sets Costs)) = false → (PC Try.prog 124 [.agg [.int .i64 Size, .sl (.rows Sets), .sl (.ints Costs)]] (.one (.d (.agg [.int .i64 (Sets.length : Int), .sl (.rows (turnR Sets Size.toNat)), .sl (.ints (List.replicate Size.toNat 1))])))) ∧ (PC Try.prog 82 [.agg [.int .i64 (Sets.length : Int), .sl (.rows (turnR Sets Size.toNat)), .sl (.ints (List.replicate Size.toNat 1))]] (.tup [.d (.sl (.ints (lcL (Sets.length : Int) (turnR Sets Size.toNat) (List.replicate Size.toNat 1)))), .d (.bool (lcOk (Sets.length : Int) (turnR Sets Size.toNat) (List.replicate Size.toNat 1)))])) ∧ ((((lcL (Sets.length : Int) (turnR Sets Size.toNat) (List.replicate Size.toNat 1)) : List Int) = (lhL Size Sets Costs)) ∧ ((lcOk (Sets.length : Int) (turnR Sets Size.toNat) (List.replicate Size.toNat 1)) = (lhOk Size Sets Costs)))))
theorem i_LeastHitting_vc (Size : Int) (Sets : List (List Int)) (Costs : List Int)  (w_Sets : (Sets.length : Int) ≤ 9223372036854775807) (v_Sets : ∀ x9 ∈ Sets, (x9.length : Int) ≤ 9223372036854775807) (w_Costs : (Costs.length : Int) ≤ 9223372036854775807) : i_LeastHitting_P Size Sets Costs := by
  unfold i_LeastHitting_P
  refine ⟨i_IsSystem_pc Size Sets Costs, ?_, ?_⟩
  · intro b1
    try simp only [nrmT] at b1
    refine ⟨?_, ?_⟩
    · have hq : goodSys Size Sets Costs = false := by simpa using b1
      unfold lhL; rw [hq]; rfl
    · have hq : goodSys Size Sets Costs = false := by simpa using b1
      unfold lhOk; rw [hq]; rfl
  · intro b2
    try simp only [nrmT] at b2
    refine ⟨?_, i_LeastCover_pc (Sets.length : Int) (turnR Sets Size.toNat) (List.replicate Size.toNat 1), ?_, ?_⟩
    · refine i_System_turned_pc Size Sets Costs ?_
      · have hq : goodSys Size Sets Costs = true := by simpa using b2
        exact hq
    · have hq : goodSys Size Sets Costs = true := by simpa using b2
      unfold lhL; rw [if_pos hq]
    · have hq : goodSys Size Sets Costs = true := by simpa using b2
      unfold lhOk; rw [hq, Bool.true_and]
theorem i_LeastHitting_pc (Size : Int) (Sets : List (List Int)) (Costs : List Int)  : PC Try.prog 78 [.agg [.int .i64 Size, .sl (.rows Sets), .sl (.ints Costs)]] (.tup [.d (.sl (.ints (lhL Size Sets Costs))), .d (.bool (lhOk Size Sets Costs))]) :=
  pc_wf @Try.call78 fun hw => pc_by (by kernel_rfl) Try.func78 @Try.call78 (by kernel_rfl) i_LeastHitting_C (i_LeastHitting_A Size Sets Costs) (by kernel_rfl) (i_LeastHitting_vc Size Sets Costs hw.1.2.1.1 hw.1.2.1.2 hw.1.2.2.1) (by kernel_rfl)
def i_LeastHitting_orc : List D → Orc := orcN [none] fun ds => match ds with
  | [.agg [.int .i64 Size, .sl (.rows Sets), .sl (.ints Costs)]] => some (.tup [.d (.sl (.ints (lhL Size Sets Costs))), .d (.bool (lhOk Size Sets Costs))])
  | _ => none
def pkAt (Sets : List (List Int)) (choice : List Int) (i : Nat) : Bool := !(decide ((Sets.getD (choice.getD i 0).toNat []).length = 0) || decide (newOf (Sets.getD (choice.getD i 0).toNat []) (covL Sets choice i) < ((Sets.getD (choice.getD i 0).toNat []).length : Int)))
def packB (Sets : List (List Int)) (choice : List Int) : Bool := allTo (pkAt Sets choice) choice.length
theorem packB_nil (Sets : List (List Int)) : packB Sets [] = true := rfl
theorem bagN_zero {S : List Int} (h : ∀ x ∈ S, 0 ≤ x) : bagN S = 0 ↔ S.length = 0 := by
  constructor
  · intro h0
    cases S with
    | nil => rfl
    | cons x r =>
      have h1 := bagN_bit h (x := x.toNat)
      rw [h0, Nat.zero_testBit, show ((x.toNat : Nat) : Int) = x by have := h x List.mem_cons_self; omega] at h1
      have h2 : (x :: r).contains x = true := by rw [List.contains_iff_mem]; exact List.mem_cons_self
      rw [h2] at h1
      cases h1
  · intro h0
    rw [List.eq_nil_of_length_eq_zero h0]
    rfl
theorem bag_meet {Size : Int} {Sets : List (List Int)} {Costs choice : List Int} (h : goodSys Size Sets Costs = true) (hc : rising choice 0 ((Sets.length : Int) - 1) = true) {k : Nat} (hk : k < choice.length) :
    (bagN (Sets.getD (choice.getD k 0).toNat []) &&& covTo Sets choice k) = 0 ↔ ¬ newOf (Sets.getD (choice.getD k 0).toNat []) (covL Sets choice k) < ((Sets.getD (choice.getD k 0).toNat []).length : Int) := by
  have h1 := rising_at hc k hk
  have hs := set_mem h (k := (choice.getD k 0).toNat) (by omega)
  have hb := fun n : Nat => bagN_bit (list := Sets.getD (choice.getD k 0).toNat []) (fun y hy => (hs y hy).1) (x := n)
  have hn := newOf_bound (Sets.getD (choice.getD k 0).toNat []) (covL Sets choice k)
  generalize Sets.getD (choice.getD k 0).toNat [] = S at hs hb hn ⊢
  have he : ¬ newOf S (covL Sets choice k) < (S.length : Int) ↔ newOf S (covL Sets choice k) = (S.length : Int) := by omega
  rw [he]
  unfold newOf
  rw [newTo_all]
  constructor
  · intro h0 j hj
    cases hx : (covL Sets choice k).contains (S.getD j 0) with
    | false => rfl
    | true =>
      have hm := getD_mem (d := 0) hj
      have h3 := hs _ hm
      have e : (((S.getD j 0).toNat : Nat) : Int) = S.getD j 0 := by omega
      have h4 : (covTo Sets choice k).testBit (S.getD j 0).toNat = true := by
        rw [covTo_bit h hc k (by omega), e]
        exact (mem_covL k).1 (List.contains_iff_mem.1 hx)
      have h5 : (bagN S &&& covTo Sets choice k).testBit (S.getD j 0).toNat = true := by
        rw [Nat.testBit_and, h4, hb, e, Bool.and_true, List.contains_iff_mem]
        exact hm
      rw [h0, Nat.zero_testBit] at h5
      cases h5
  · intro h0
    refine Nat.eq_of_testBit_eq fun n => ?_
    rw [Nat.zero_testBit, Nat.testBit_and, hb]
    cases h6 : S.contains (n : Int) with
    | false => rfl
    | true =>
      obtain ⟨j, hj, e⟩ := List.mem_iff_getElem.1 (List.contains_iff_mem.1 h6)
      have h7 := h0 j hj
      rw [getD_get hj, e] at h7
      cases h8 : (covTo Sets choice k).testBit n with
      | false => rfl
      | true =>
        rw [covTo_bit h hc k (by omega)] at h8
        have h9 := List.contains_iff_mem.2 ((mem_covL (choice := choice) (Sets := Sets) k).2 h8)
        rw [h7] at h9
        cases h9
theorem pk_test {Size : Int} {Sets : List (List Int)} {Costs choice : List Int} (h : goodSys Size Sets Costs = true) (hc : rising choice 0 ((Sets.length : Int) - 1) = true) {k : Nat} (hk : k < choice.length) {d : Int} (hd : d = ((covTo Sets choice k : Nat) : Int)) :
    (cond (((bagN (Sets.getD (choice.getD k 0).toNat []) : Nat) : Int) == 0) true (((((bagN (Sets.getD (choice.getD k 0).toNat []) : Nat) : Int).toNat &&& d.toNat : Nat) : Int) != 0)) = !(pkAt Sets choice k) := by
  have h1 := rising_at hc k hk
  have h2 := bagN_zero fun y hy => (set_mem h (k := (choice.getD k 0).toNat) (by omega) y hy).1
  have h3 := bag_meet h hc hk
  subst hd
  simp only [Int.toNat_natCast]
  unfold pkAt
  rw [Bool.not_not]
  generalize Sets.getD (choice.getD k 0).toNat [] = S at h2 h3 ⊢
  by_cases e : S.length = 0
  · rw [decide_eq_true e, Bool.true_or, beq_iff_eq.2 (show ((bagN S : Nat) : Int) = 0 by have := h2.2 e; omega)]; rfl
  · rw [decide_eq_false e, Bool.false_or, beq_eq_false_iff_ne.2 (show ((bagN S : Nat) : Int) ≠ 0 from fun h0 => e (h2.1 (by omega)))]
    show (_ != _) = _
    by_cases e2 : newOf S (covL Sets choice k) < (S.length : Int)
    · rw [decide_eq_true e2]
      exact bne_iff_ne.2 fun h0 => h3.1 (by omega) e2
    · rw [decide_eq_false e2, h3.2 e2]; rfl
theorem pk_test2 {Sets : List (List Int)} {choice out : List Int} {k : Nat} (hd : out = covL Sets choice k) :
    (cond ((((Sets.getD (choice.getD k 0).toNat []).length : Nat) : Int) == 0) true (decide (newOf (Sets.getD (choice.getD k 0).toNat []) out < ((Sets.getD (choice.getD k 0).toNat []).length : Int)))) = !(pkAt Sets choice k) := by
  subst hd
  unfold pkAt
  rw [Bool.not_not]
  generalize Sets.getD (choice.getD k 0).toNat [] = S
  by_cases e : S.length = 0
  · rw [decide_eq_true e, Bool.true_or, beq_iff_eq.2 (show (S.length : Int) = 0 by omega)]; rfl
  · rw [decide_eq_false e, Bool.false_or, beq_eq_false_iff_ne.2 (show (S.length : Int) ≠ 0 by omega)]; rfl
theorem nil_chs (n : Nat) : ([] : List Int) ∈ chs n := List.mem_append_left _ (List.mem_singleton.2 rfl)
def lpS (Sets : List (List Int)) : List Int := leastL (fun s9 => -(s9.length : Int)) ((chs Sets.length).filter (packB Sets))
def lpL (Size : Int) (Sets : List (List Int)) (Costs : List Int) : List Int := if goodSys Size Sets Costs = true then lpS Sets else []
def lpB (Sets : List (List Int)) (b s : List Int) : List Int := if (cond (decide ((s.length : Int) > (b.length : Int))) (packB Sets s) false) = true then s else b
theorem lp_fold {Sets : List (List Int)} (n : Nat) : (chs n).foldl (lpB Sets) [] = leastL (fun s9 => -(s9.length : Int)) ((chs n).filter (packB Sets)) := by
  rw [fold_pick (v := fun s9 => -(s9.length : Int)) (p := packB Sets), pickS_all (packB_nil Sets)]
  intro b x
  unfold lpB
  rw [cond_and]
  by_cases e : packB Sets x = true
  · rw [e, Bool.and_true]
    by_cases e2 : (x.length : Int) > (b.length : Int)
    · rw [if_pos (decide_eq_true e2), if_pos ⟨rfl, by omega⟩]
    · rw [if_neg (by rw [decide_eq_false e2]; decide), if_neg (fun h => by have := h.2; omega)]
  · rw [Bool.not_eq_true] at e
    rw [e, Bool.and_false, if_neg (by decide), if_neg (fun h => by cases h.1)]
abbrev i_System_isPacking_JJ0 (Size : Int) (Sets : List (List Int)) (Costs : List Int) (choice : List Int) (done : Int) (i : Int) : Prop := (0 ≤ i) ∧ (i ≤ (choice.length : Int)) ∧ (done = ((covTo Sets choice i.toNat : Nat) : Int)) ∧ (allTo (pkAt Sets choice) i.toNat = true)
abbrev i_System_isPacking_mJ0 (Size : Int) (Sets : List (List Int)) (Costs : List Int) (choice : List Int) (done : Int) (i : Int) : Nat := (choice.length - i).toNat
def i_System_isPacking_C (f : FuncId) (ds : List D) : Orc := bif Nat.beq f 194 then i_bagOf_orc ds else .no
def i_System_isPacking_A (Size : Int) (Sets : List (List Int)) (Costs : List Int) (choice : List Int) : Ann := .two (.none) (.two (.none) (.two (.two (.none) (.loop (cut2 (fun (done : Int) (i : Int) => i_System_isPacking_JJ0 Size Sets Costs choice done i) (fun (done : Int) (i : Int) => [(2, .ptr 2 0), (5, .d true (.int .u64 done)), (9, .d false (.sl (.ints choice))), (10, .d true (.int .i64 (choice.length : Int))), (11, .d true (.int .i64 i))]) (fun (done : Int) (i : Int) => [(2, .box 36 [.d false (.int .i64 Size), .d false (.sl (.rows Sets)), .d false (.sl (.ints Costs))])])) (fun g => i_System_isPacking_mJ0 Size Sets Costs choice g.1 g.2) (fun _ => .none))) (.none)))
def i_System_isPacking_P (Size : Int) (Sets : List (List Int)) (Costs : List Int) (choice : List Int) : Prop :=
  ((∃ done' : Int, ∃ i' : Int, (i_System_isPacking_JJ0 Size Sets Costs choice done' i') ∧ ((0 : Int) = done') ∧ (choice = choice) ∧ ((choice.length : Int) = (choice.length : Int)) ∧ ((0 : Int) = i') ∧ (Size = Size) ∧ (Sets = Sets) ∧ (Costs = Costs)) ∧ (∀ done : Int, ∀ i : Int, (i_System_isPacking_JJ0 Size Sets Costs choice done i) → (((decide (i < (choice.length : Int))) = true → ((0 : Int) ≤ i) ∧ ((i : Int) < choice.length) ∧ (i.toNat < choice.length) ∧ ((0 : Int) ≤ (choice.getD i.toNat 0)) ∧ (((choice.getD i.toNat 0) : Int) < Sets.length) ∧ ((choice.getD i.toNat 0).toNat < Sets.length) ∧ (PC Try.prog 194 [.sl (.ints (Sets.getD ((choice.getD i.toNat 0).toNat) []))] (.one (.d (.int .u64 ((bagN (Sets.getD ((choice.getD i.toNat 0).toNat) []) : Nat) : Int))))) ∧ ((!(((bagN (Sets.getD ((choice.getD i.toNat 0).toNat) []) : Nat) : Int) == 0)) = true → (!(((bagN (Sets.getD ((choice.getD i.toNat 0).toNat) []) : Nat) : Int) == 0)) = true) ∧ ((!(((bagN (Sets.getD ((choice.getD i.toNat 0).toNat) []) : Nat) : Int) == 0)) = true → (!(((bagN (Sets.getD ((choice.getD i.toNat 0).toNat) []) : Nat) : Int) == 0)) = true) ∧ (((!(((bagN (Sets.getD ((choice.getD i.toNat 0).toNat) []) : Nat) : Int) == 0)) = true → (0 : Int) ≤ ((bagN (Sets.getD ((choice.getD i.toNat 0).toNat) []) : Nat) : Int) ∧ (((bagN (Sets.getD ((choice.getD i.toNat 0).toNat) []) : Nat) : Int) : Int) ≤ 18446744073709551615)) ∧ (((!(((bagN (Sets.getD ((choice.getD i.toNat 0).toNat) []) : Nat) : Int) == 0)) = true → (0 : Int) ≤ done ∧ (done : Int) ≤ 18446744073709551615)) ∧ ((!(((bagN (Sets.getD ((choice.getD i.toNat 0).toNat) []) : Nat) : Int) == 0)) = true → (!(((bagN (Sets.getD ((choice.getD i.toNat 0).toNat) []) : Nat) : Int) == 0)) = true) ∧ (true = true) ∧ (((((bagN (Sets.getD ((choice.getD i.toNat 0).toNat) []) : Nat) : Int) == 0) = true → true = true)) ∧ (((((bagN (Sets.getD ((choice.getD i.toNat 0).toNat) []) : Nat) : Int) == 0) = false → (!(((bagN (Sets.getD ((choice.getD i.toNat 0).toNat) []) : Nat) : Int) == 0)) = true)) ∧ (((cond (((bagN (Sets.getD ((choice.getD i.toNat 0).toNat) []) : Nat) : Int) == 0) true (((((bagN (Sets.getD ((choice.getD i.toNat 0).toNat) []) : Nat) : Int).toNat &&& done.toNat : Nat) : Int) != 0)) = true → ((false = (packB Sets choice)))) ∧ ((cond (((bagN (Sets.getD ((choice.getD i.toNat 0).toNat) []) : Nat) : Int) == 0) true (((((bagN (Sets.getD ((choice.getD i.toNat 0).toNat) []) : Nat) : Int).toNat &&& done.toNat : Nat) : Int) != 0)) = false → ((0 : Int) ≤ done ∧ (done : Int) ≤ 18446744073709551615) ∧ ((0 : Int) ≤ ((bagN (Sets.getD ((choice.getD i.toNat 0).toNat) []) : Nat) : Int) ∧ (((bagN (Sets.getD ((choice.getD i.toNat 0).toNat) []) : Nat) : Int) : Int) ≤ 18446744073709551615) ∧ (-9223372036854775808 ≤ (i + 1) ∧ (i + 1) ≤ 9223372036854775807) ∧ (∃ done' : Int, ∃ i' : Int, (i_System_isPacking_JJ0 Size Sets Costs choice done' i') ∧ (i_System_isPacking_mJ0 Size Sets Costs choice done' i' < i_System_isPacking_mJ0 Size Sets Costs choice done i) ∧ (((done.toNat ||| ((bagN (Sets.getD ((choice.getD i.toNat 0).toNat) []) : Nat) : Int).toNat : Nat) : Int) = done') ∧ (choice = choice) ∧ ((choice.length : Int) = (choice.length : Int)) ∧ ((i + 1) = i') ∧ (Size = Size) ∧ (Sets = Sets) ∧ (Costs = Costs))))) ∧ ((decide (i < (choice.length : Int))) = false → ((true = (packB Sets choice)))))))
theorem i_System_isPacking_vc (Size : Int) (Sets : List (List Int)) (Costs : List Int) (choice : List Int) (hg : goodSys Size Sets Costs = true) (hc : rising choice 0 ((Sets.length : Int) - 1) = true) (w_Sets : (Sets.length : Int) ≤ 9223372036854775807) (v_Sets : ∀ x9 ∈ Sets, (x9.length : Int) ≤ 9223372036854775807) (w_Costs : (Costs.length : Int) ≤ 9223372036854775807) (w_choice : (choice.length : Int) ≤ 9223372036854775807) : i_System_isPacking_P Size Sets Costs choice := by
  unfold i_System_isPacking_P
  have gf := gs_facts hg
  have cl := rising_len hc (by omega)
  have ca := fun k => rising_at hc k
  have lt := covTo_lt hg hc
  have p8 := pow8 (n := Size.toNat) (by omega)
  have sl := fun (k : Nat) (hk : k < Sets.length) => rising_len (gs_set hg hk) (by omega)
  refine ⟨?_, ?_⟩
  · refine ⟨0, 0, ?_⟩
    refine ⟨?_, rfl, rfl, rfl, rfl, rfl, rfl, rfl⟩
    · refine ⟨?_, ?_, ?_, ?_⟩
      · omega
      · omega
      · first | omega | rfl | (intro hg; simp only [nrmT] at hg; omega) | (intro g1 g2; simp [g1, g2]; done) | (intro g1; simp at g1 ⊢; simp [g1]; done) | (simp only [nrmT] at *; omega) | (simp at * <;> omega) | (simp_all <;> omega) | (simp_all; done)
      · first | omega | rfl | (intro hg; simp only [nrmT] at hg; omega) | (intro g1 g2; simp [g1, g2]; done) | (intro g1; simp at g1 ⊢; simp [g1]; done) | (simp only [nrmT] at *; omega) | (simp at * <;> omega) | (simp_all <;> omega) | (simp_all; done)
  · intro done i hJ
    obtain ⟨h1, h2, h3, h4⟩ := hJ
    refine ⟨?_, ?_⟩
    · intro b1
      try simp only [nrmT] at b1
      refine ⟨?_, ?_, ?_, ?_, ?_, ?_, ?_, id, id, ?_, ?_, id, rfl, fun _ => rfl, ?_, ?_, ?_⟩
      · omega
      · omega
      · omega
      · have h7 := ca i.toNat (by omega)
        omega
      · have h7 := ca i.toNat (by omega)
        omega
      · have h7 := ca i.toNat (by omega)
        omega
      · refine i_bagOf_pc (Sets.getD ((choice.getD i.toNat 0).toNat) []) ?_
        · have h7 := ca i.toNat (by omega)
          intro x hx
          have := set_mem hg (k := (choice.getD i.toNat 0).toNat) (by omega) x hx
          omega
      · intro _
        have h7 := ca i.toNat (by omega)
        have h8 := set_bag hg (k := (choice.getD i.toNat 0).toNat) (by omega)
        omega
      · intro _
        have := lt i.toNat (by omega)
        omega
      · first | omega | rfl | (intro hg; simp only [nrmT] at hg; omega) | (intro g1 g2; simp [g1, g2]; done) | (intro g1; simp at g1 ⊢; simp [g1]; done) | (simp only [nrmT] at *; omega) | (simp at * <;> omega) | (simp_all <;> omega) | (simp_all; done)
      · intro b2
        have hq := pk_test hg hc (k := i.toNat) (by omega) h3
        rw [b2] at hq
        have hp : pkAt Sets choice i.toNat = false := by
          revert hq; cases pkAt Sets choice i.toNat <;> simp
        exact (allTo_falseI h1 (by omega) hp).symm
      · intro b3
        refine ⟨?_, ?_, ?_, ?_⟩
        · have := lt i.toNat (by omega)
          omega
        · have h7 := ca i.toNat (by omega)
          have h8 := set_bag hg (k := (choice.getD i.toNat 0).toNat) (by omega)
          omega
        · omega
        · refine ⟨((done.toNat ||| ((bagN (Sets.getD ((choice.getD i.toNat 0).toNat) []) : Nat) : Int).toNat : Nat) : Int), (i + 1), ?_⟩
          refine ⟨?_, ?_, rfl, rfl, rfl, rfl, rfl, rfl, rfl⟩
          · refine ⟨?_, ?_, ?_, ?_⟩
            · omega
            · omega
            · rw [h3, show (i + 1).toNat = i.toNat + 1 by omega]
              simp only [Int.toNat_natCast]
              rfl
            · have hq := pk_test hg hc (k := i.toNat) (by omega) h3
              rw [b3] at hq
              have hp : pkAt Sets choice i.toNat = true := by
                revert hq; cases pkAt Sets choice i.toNat <;> simp
              exact allTo_step h1 h4 hp
          · first | (show _ < _; omega) | (simp only [i_System_isPacking_mJ0]; omega) | (simp only [i_System_isPacking_mJ0] at *; simp at *; omega)
    · intro b4
      try simp only [nrmT] at b4
      unfold packB
      rw [← h4]; congr 1; omega
theorem i_System_isPacking_pc (Size : Int) (Sets : List (List Int)) (Costs : List Int) (choice : List Int) (hg : goodSys Size Sets Costs = true) (hc : rising choice 0 ((Sets.length : Int) - 1) = true) : PC Try.prog 174 [.agg [.int .i64 Size, .sl (.rows Sets), .sl (.ints Costs)], .sl (.ints choice)] (.one (.d (.bool (packB Sets choice)))) :=
  pc_wf @Try.call174 fun hw => pc_by (by kernel_rfl) Try.func174 @Try.call174 (by kernel_rfl) i_System_isPacking_C (i_System_isPacking_A Size Sets Costs choice) (by kernel_rfl) (i_System_isPacking_vc Size Sets Costs choice hg hc hw.1.2.1.1 hw.1.2.1.2 hw.1.2.2.1 hw.2.1) (by kernel_rfl)
def i_System_isPacking_orc : List D → Orc := orcN [none, some .ints] fun ds => match ds with
  | [.agg [.int .i64 Size, .sl (.rows Sets), .sl (.ints Costs)], .sl (.ints choice)] => some (.one (.d (.bool (packB Sets choice))))
  | _ => none
abbrev s_l6Packs_JJ0 (Size : Int) (Sets : List (List Int)) (Costs : List Int) (choice : List Int) (out : List Int) (i : Int) : Prop := (0 ≤ i) ∧ (i ≤ (choice.length : Int)) ∧ (out = covL Sets choice i.toNat) ∧ ((out.length : Int) ≤ 8 * i) ∧ (allTo (pkAt Sets choice) i.toNat = true)
abbrev s_l6Packs_mJ0 (Size : Int) (Sets : List (List Int)) (Costs : List Int) (choice : List Int) (out : List Int) (i : Int) : Nat := (choice.length - i).toNat
abbrev s_l6Packs_JJ1 (Size : Int) (Sets : List (List Int)) (Costs : List Int) (choice : List Int) (out : List Int) (i : Int) (out1 : List Int) (k : Int) : Prop := (0 ≤ k) ∧ (k ≤ ((Sets.getD (choice.getD i.toNat 0).toNat []).length : Int)) ∧ (out1 = putAll out (Sets.getD (choice.getD i.toNat 0).toNat []) k.toNat) ∧ ((out1.length : Int) ≤ 8 * i + k)
abbrev s_l6Packs_mJ1 (Size : Int) (Sets : List (List Int)) (Costs : List Int) (choice : List Int) (out : List Int) (i : Int) (out1 : List Int) (k : Int) : Nat := ((Sets.getD (choice.getD i.toNat 0).toNat []).length - k).toNat
def s_l6Packs_C (f : FuncId) (ds : List D) : Orc := bif Nat.beq f 223 then s_l6New_orc ds else bif Nat.beq f 202 then s_l1Put_orc ds else .no
def s_l6Packs_A (Size : Int) (Sets : List (List Int)) (Costs : List Int) (choice : List Int) : Ann := .two (.none) (.two (.reg [(0, .frz)]) (.two (.two (.none) (.loop (cut2 (fun (out : List Int) (i : Int) => s_l6Packs_JJ0 Size Sets Costs choice out i) (fun (out : List Int) (i : Int) => [(1, .d false (.sl (.ints choice))), (2, .ptr 2 0), (5, .d true (.sl (.ints out))), (6, .d true (.int .i64 i))]) (fun (out : List Int) (i : Int) => [(2, .box 36 [.d false (.int .i64 Size), .d false (.sl (.rows Sets)), .d false (.sl (.ints Costs))])])) (fun g => s_l6Packs_mJ0 Size Sets Costs choice g.1 g.2) (fun g => (fun (out : List Int) (i : Int) => .two (.none) (.two (.two (.none) (.two (.none) (.two (.none) (.loop (cut2 (fun (out1 : List Int) (k : Int) => s_l6Packs_JJ1 Size Sets Costs choice out i out1 k) (fun (out1 : List Int) (k : Int) => [(1, .d false (.sl (.ints choice))), (2, .ptr 2 0), (5, .d true (.sl (.ints out1))), (6, .d true (.int .i64 i)), (7, .d false (.sl (.ints (Sets.getD ((choice.getD i.toNat 0).toNat) [])))), (8, .d true (.int .i64 k))]) (fun (out1 : List Int) (k : Int) => [(2, .box 36 [.d false (.int .i64 Size), .d false (.sl (.rows Sets)), .d false (.sl (.ints Costs))])])) (fun g => s_l6Packs_mJ1 Size Sets Costs choice out i g.1 g.2) (fun _ => .none))))) (.none))) (g.1) (g.2)))) (.none)))
def s_l6Packs_P (Size : Int) (Sets : List (List Int)) (Costs : List Int) (choice : List Int) : Prop :=
  ((∃ out' : List Int, ∃ i' : Int, (s_l6Packs_JJ0 Size Sets Costs choice out' i') ∧ (choice = choice) ∧ ([] = out') ∧ ((0 : Int) = i') ∧ (Size = Size) ∧ (Sets = Sets) ∧ (Costs = Costs)) ∧ (∀ out : List Int, ∀ i : Int, (s_l6Packs_JJ0 Size Sets Costs choice out i) → (((decide (i < (choice.length : Int))) = true → (true = true) ∧ ((0 : Int) ≤ i) ∧ ((i : Int) < choice.length) ∧ (i.toNat < choice.length) ∧ ((0 : Int) ≤ (choice.getD i.toNat 0)) ∧ (((choice.getD i.toNat 0) : Int) < Sets.length) ∧ ((choice.getD i.toNat 0).toNat < Sets.length) ∧ ((!((((Sets.getD ((choice.getD i.toNat 0).toNat) []).length) : Int) == 0)) = true → (!((((Sets.getD ((choice.getD i.toNat 0).toNat) []).length) : Int) == 0)) = true) ∧ ((!((((Sets.getD ((choice.getD i.toNat 0).toNat) []).length) : Int) == 0)) = true → (!((((Sets.getD ((choice.getD i.toNat 0).toNat) []).length) : Int) == 0)) = true) ∧ ((!((((Sets.getD ((choice.getD i.toNat 0).toNat) []).length) : Int) == 0)) = true → PC Try.prog 223 [.sl (.ints (Sets.getD ((choice.getD i.toNat 0).toNat) [])), .sl (.ints out)] (.one (.d (.int .i64 (newOf (Sets.getD ((choice.getD i.toNat 0).toNat) []) out))))) ∧ ((!((((Sets.getD ((choice.getD i.toNat 0).toNat) []).length) : Int) == 0)) = true → (!((((Sets.getD ((choice.getD i.toNat 0).toNat) []).length) : Int) == 0)) = true) ∧ ((!((((Sets.getD ((choice.getD i.toNat 0).toNat) []).length) : Int) == 0)) = true → (!((((Sets.getD ((choice.getD i.toNat 0).toNat) []).length) : Int) == 0)) = true) ∧ ((!((((Sets.getD ((choice.getD i.toNat 0).toNat) []).length) : Int) == 0)) = true → (!((((Sets.getD ((choice.getD i.toNat 0).toNat) []).length) : Int) == 0)) = true) ∧ (true = true) ∧ ((((((Sets.getD ((choice.getD i.toNat 0).toNat) []).length) : Int) == 0) = true → true = true)) ∧ ((((((Sets.getD ((choice.getD i.toNat 0).toNat) []).length) : Int) == 0) = false → (!((((Sets.getD ((choice.getD i.toNat 0).toNat) []).length) : Int) == 0)) = true)) ∧ (((cond ((((Sets.getD ((choice.getD i.toNat 0).toNat) []).length) : Int) == 0) true (decide ((newOf (Sets.getD ((choice.getD i.toNat 0).toNat) []) out) < (((Sets.getD ((choice.getD i.toNat 0).toNat) []).length) : Int)))) = true → ((false = (packB Sets choice)))) ∧ ((cond ((((Sets.getD ((choice.getD i.toNat 0).toNat) []).length) : Int) == 0) true (decide ((newOf (Sets.getD ((choice.getD i.toNat 0).toNat) []) out) < (((Sets.getD ((choice.getD i.toNat 0).toNat) []).length) : Int)))) = false → ((∃ out1' : List Int, ∃ k' : Int, (s_l6Packs_JJ1 Size Sets Costs choice out i out1' k') ∧ (choice = choice) ∧ (out = out1') ∧ (i = i) ∧ ((Sets.getD ((choice.getD i.toNat 0).toNat) []) = (Sets.getD ((choice.getD i.toNat 0).toNat) [])) ∧ ((0 : Int) = k') ∧ (Size = Size) ∧ (Sets = Sets) ∧ (Costs = Costs)) ∧ (∀ out1 : List Int, ∀ k : Int, (s_l6Packs_JJ1 Size Sets Costs choice out i out1 k) → (((decide (k < (((Sets.getD ((choice.getD i.toNat 0).toNat) []).length) : Int))) = true → ((0 : Int) ≤ k) ∧ ((k : Int) < (Sets.getD ((choice.getD i.toNat 0).toNat) []).length) ∧ (k.toNat < (Sets.getD ((choice.getD i.toNat 0).toNat) []).length) ∧ (PCs Try.prog 202 [.sl (.ints out1), .int .i64 ((Sets.getD ((choice.getD i.toNat 0).toNat) []).getD k.toNat 0)] 0 (.sl (.ints (putL out1 ((Sets.getD ((choice.getD i.toNat 0).toNat) []).getD k.toNat 0))))) ∧ (-9223372036854775808 ≤ (k + 1) ∧ (k + 1) ≤ 9223372036854775807) ∧ (∃ out1' : List Int, ∃ k' : Int, (s_l6Packs_JJ1 Size Sets Costs choice out i out1' k') ∧ (s_l6Packs_mJ1 Size Sets Costs choice out i out1' k' < s_l6Packs_mJ1 Size Sets Costs choice out i out1 k) ∧ (choice = choice) ∧ ((putL out1 ((Sets.getD ((choice.getD i.toNat 0).toNat) []).getD k.toNat 0)) = out1') ∧ (i = i) ∧ ((Sets.getD ((choice.getD i.toNat 0).toNat) []) = (Sets.getD ((choice.getD i.toNat 0).toNat) [])) ∧ ((k + 1) = k') ∧ (Size = Size) ∧ (Sets = Sets) ∧ (Costs = Costs))) ∧ ((decide (k < (((Sets.getD ((choice.getD i.toNat 0).toNat) []).length) : Int))) = false → (-9223372036854775808 ≤ (i + 1) ∧ (i + 1) ≤ 9223372036854775807) ∧ (∃ out' : List Int, ∃ i' : Int, (s_l6Packs_JJ0 Size Sets Costs choice out' i') ∧ (s_l6Packs_mJ0 Size Sets Costs choice out' i' < s_l6Packs_mJ0 Size Sets Costs choice out i) ∧ (choice = choice) ∧ (out1 = out') ∧ ((i + 1) = i') ∧ (Size = Size) ∧ (Sets = Sets) ∧ (Costs = Costs))))))))) ∧ ((decide (i < (choice.length : Int))) = false → ((true = (packB Sets choice)))))))
theorem s_l6Packs_vc (Size : Int) (Sets : List (List Int)) (Costs : List Int) (choice : List Int) (hg : goodSys Size Sets Costs = true) (hc : rising choice 0 ((Sets.length : Int) - 1) = true) (w_Sets : (Sets.length : Int) ≤ 9223372036854775807) (v_Sets : ∀ x9 ∈ Sets, (x9.length : Int) ≤ 9223372036854775807) (w_Costs : (Costs.length : Int) ≤ 9223372036854775807) (w_choice : (choice.length : Int) ≤ 9223372036854775807) : s_l6Packs_P Size Sets Costs choice := by
  unfold s_l6Packs_P
  have gf := gs_facts hg
  have cl := rising_len hc (by omega)
  have ca := fun k => rising_at hc k
  have lt := covTo_lt hg hc
  have p8 := pow8 (n := Size.toNat) (by omega)
  have sl := fun (k : Nat) (hk : k < Sets.length) => rising_len (gs_set hg hk) (by omega)
  refine ⟨?_, ?_⟩
  · refine ⟨([]), 0, ?_⟩
    refine ⟨?_, rfl, ?_, rfl, rfl, rfl, rfl⟩
    · refine ⟨?_, ?_, ?_, ?_, ?_⟩
      · omega
      · omega
      · first | omega | rfl | (intro hg; simp only [nrmT] at hg; omega) | (intro g1 g2; simp [g1, g2]; done) | (intro g1; simp at g1 ⊢; simp [g1]; done) | (simp only [nrmT] at *; omega) | (simp at * <;> omega) | (simp_all <;> omega) | (simp_all; done)
      · first | omega | rfl | (intro hg; simp only [nrmT] at hg; omega) | (intro g1 g2; simp [g1, g2]; done) | (intro g1; simp at g1 ⊢; simp [g1]; done) | (simp only [nrmT] at *; omega) | (simp at * <;> omega) | (simp_all <;> omega) | (simp_all; done)
      · first | omega | rfl | (intro hg; simp only [nrmT] at hg; omega) | (intro g1 g2; simp [g1, g2]; done) | (intro g1; simp at g1 ⊢; simp [g1]; done) | (simp only [nrmT] at *; omega) | (simp at * <;> omega) | (simp_all <;> omega) | (simp_all; done)
    · first | omega | rfl | (intro hg; simp only [nrmT] at hg; omega) | (intro g1 g2; simp [g1, g2]; done) | (intro g1; simp at g1 ⊢; simp [g1]; done) | (simp only [nrmT] at *; omega) | (simp at * <;> omega) | (simp_all <;> omega) | (simp_all; done)
  · intro out i hJ
    obtain ⟨h1, h2, h3, h3l, h4⟩ := hJ
    refine ⟨?_, ?_⟩
    · intro b1
      try simp only [nrmT] at b1
      refine ⟨rfl, ?_, ?_, ?_, ?_, ?_, ?_, id, id, fun _ => s_l6New_pc (Sets.getD ((choice.getD i.toNat 0).toNat) []) out, id, id, id, rfl, fun _ => rfl, ?_, ?_, ?_⟩
      · omega
      · omega
      · omega
      · have h9a := ca i.toNat (by omega)
        omega
      · have h9a := ca i.toNat (by omega)
        omega
      · have h9a := ca i.toNat (by omega)
        omega
      · first | omega | rfl | (intro hg; simp only [nrmT] at hg; omega) | (intro g1 g2; simp [g1, g2]; done) | (intro g1; simp at g1 ⊢; simp [g1]; done) | (simp only [nrmT] at *; omega) | (simp at * <;> omega) | (simp_all <;> omega) | (simp_all; done)
      · intro b2
        have hq := pk_test2 (Sets := Sets) (choice := choice) (k := i.toNat) h3
        rw [b2] at hq
        have hp : pkAt Sets choice i.toNat = false := by
          revert hq; cases pkAt Sets choice i.toNat <;> simp
        exact (allTo_falseI h1 (by omega) hp).symm
      · intro b3
        refine ⟨?_, ?_⟩
        · refine ⟨out, 0, ?_⟩
          refine ⟨?_, rfl, rfl, rfl, rfl, rfl, rfl, rfl, rfl⟩
          · refine ⟨?_, ?_, ?_, ?_⟩
            · omega
            · omega
            · first | omega | rfl | (intro hg; simp only [nrmT] at hg; omega) | (intro g1 g2; simp [g1, g2]; done) | (intro g1; simp at g1 ⊢; simp [g1]; done) | (simp only [nrmT] at *; omega) | (simp at * <;> omega) | (simp_all <;> omega) | (simp_all; done)
            · omega
        · intro out1 k hJ
          obtain ⟨h5, h6, h7, h7l⟩ := hJ
          refine ⟨?_, ?_⟩
          · intro b4
            try simp only [nrmT] at b4
            refine ⟨?_, ?_, ?_, ?_, ?_, ?_⟩
            · omega
            · omega
            · omega
            · refine s_l1Put_pc out1 ((Sets.getD ((choice.getD i.toNat 0).toNat) []).getD k.toNat 0) ?_
              · have h9a := ca i.toNat (by omega)
                have h8 := sl (choice.getD i.toNat 0).toNat (by omega)
                have h9 := putL_len out1 ((Sets.getD (choice.getD i.toNat 0).toNat []).getD k.toNat 0)
                omega
            · have h9a := ca i.toNat (by omega)
              have h8 := sl (choice.getD i.toNat 0).toNat (by omega)
              omega
            · refine ⟨(putL out1 ((Sets.getD ((choice.getD i.toNat 0).toNat) []).getD k.toNat 0)), (k + 1), ?_⟩
              refine ⟨?_, ?_, rfl, rfl, rfl, rfl, rfl, rfl, rfl, rfl⟩
              · refine ⟨?_, ?_, ?_, ?_⟩
                · omega
                · omega
                · rw [h7, show (k + 1).toNat = k.toNat + 1 by omega]; rfl
                · have h9a := ca i.toNat (by omega)
                  have h8 := sl (choice.getD i.toNat 0).toNat (by omega)
                  have h9 := putL_len out1 ((Sets.getD (choice.getD i.toNat 0).toNat []).getD k.toNat 0)
                  omega
              · first | (show _ < _; omega) | (simp only [s_l6Packs_mJ1]; omega) | (simp only [s_l6Packs_mJ1] at *; simp at *; omega)
          · intro b5
            try simp only [nrmT] at b5
            refine ⟨?_, ?_⟩
            · omega
            · refine ⟨out1, (i + 1), ?_⟩
              refine ⟨?_, ?_, rfl, rfl, rfl, rfl, rfl, rfl⟩
              · refine ⟨?_, ?_, ?_, ?_, ?_⟩
                · omega
                · omega
                · rw [h7, h3, show (i + 1).toNat = i.toNat + 1 by omega, show k.toNat = (Sets.getD (choice.getD i.toNat 0).toNat []).length by omega]; rfl
                · have h9 := ca i.toNat (by omega)
                  have h8 := sl (choice.getD i.toNat 0).toNat (by omega)
                  omega
                · have hq := pk_test2 (Sets := Sets) (choice := choice) (k := i.toNat) h3
                  rw [b3] at hq
                  have hp : pkAt Sets choice i.toNat = true := by
                    revert hq; cases pkAt Sets choice i.toNat <;> simp
                  exact allTo_step h1 h4 hp
              · first | (show _ < _; omega) | (simp only [s_l6Packs_mJ0]; omega) | (simp only [s_l6Packs_mJ0] at *; simp at *; omega)
    · intro b6
      try simp only [nrmT] at b6
      unfold packB
      rw [← h4]; congr 1; omega
theorem s_l6Packs_pc (Size : Int) (Sets : List (List Int)) (Costs : List Int) (choice : List Int) (hg : goodSys Size Sets Costs = true) (hc : rising choice 0 ((Sets.length : Int) - 1) = true) : PC Try.prog 177 [.agg [.int .i64 Size, .sl (.rows Sets), .sl (.ints Costs)], .sl (.ints choice)] (.one (.d (.bool (packB Sets choice)))) :=
  pc_wf @Try.call177 fun hw => pc_by (by kernel_rfl) Try.func177 @Try.call177 (by kernel_rfl) s_l6Packs_C (s_l6Packs_A Size Sets Costs choice) (by kernel_rfl) (s_l6Packs_vc Size Sets Costs choice hg hc hw.1.2.1.1 hw.1.2.1.2 hw.1.2.2.1 hw.2.1) (by kernel_rfl)
def s_l6Packs_orc : List D → Orc := orcN [none, some .ints] fun ds => match ds with
  | [.agg [.int .i64 Size, .sl (.rows Sets), .sl (.ints Costs)], .sl (.ints choice)] => some (.one (.d (.bool (packB Sets choice))))
  | _ => none
abbrev i_lists_pack_JJ0 (below : Int) (Size : Int) (Sets : List (List Int)) (Costs : List Int) (out : List (List Int)) (i : Int) : Prop := (0 ≤ i) ∧ (i ≤ ((chs below.toNat).length : Int)) ∧ (out = ((chs below.toNat).take i.toNat).filter (packB Sets))
abbrev i_lists_pack_mJ0 (below : Int) (Size : Int) (Sets : List (List Int)) (Costs : List Int) (out : List (List Int)) (i : Int) : Nat := ((chs below.toNat).length - i).toNat
def i_lists_pack_C (f : FuncId) (ds : List D) : Orc := bif Nat.beq f 134 then i_sets_orc ds else bif Nat.beq f 174 then i_System_isPacking_orc ds else .no
def i_lists_pack_A (below : Int) (Size : Int) (Sets : List (List Int)) (Costs : List Int) : Ann := .two (.none) (.two (.none) (.two (.two (.reg [(0, .frz)]) (.loop (cut2 (fun (out : List (List Int)) (i : Int) => i_lists_pack_JJ0 below Size Sets Costs out i) (fun (out : List (List Int)) (i : Int) => [(1, .d false (.fn 174 1 [.agg [.int .i64 Size, .sl (.rows Sets), .sl (.ints Costs)]])), (5, .own 1000000 out.length), (13, .own 13 (1 + (setsL below.toNat).length)), (14, .d true (.int .i64 ((1 + (setsL below.toNat).length) : Int))), (15, .d true (.int .i64 i))]) (fun (out : List (List Int)) (i : Int) => [(1000000, .arr true 26 (.rows out)), (13, .arr true 26 (.rows ([[]] ++ setsL below.toNat)))])) (fun g => i_lists_pack_mJ0 below Size Sets Costs g.1 g.2) (fun _ => .none))) (.none)))
def i_lists_pack_P (below : Int) (Size : Int) (Sets : List (List Int)) (Costs : List Int) : Prop :=
  (PC Try.prog 134 [.int .i64 below] (.one (.own 26 (.rows (setsL below.toNat))))) ∧ ((1 : Nat) = 1) ∧ ((setsL below.toNat).length = (setsL below.toNat).length) ∧ ((1 + (setsL below.toNat).length) * 24 ≤ 140737488355328) ∧ ((∃ out' : List (List Int), ∃ i' : Int, (i_lists_pack_JJ0 below Size Sets Costs out' i') ∧ ((.fn 174 1 [.agg [.int .i64 Size, .sl (.rows Sets), .sl (.ints Costs)]] : D) = (.fn 174 1 [.agg [.int .i64 Size, .sl (.rows Sets), .sl (.ints Costs)]] : D)) ∧ ((0 : Nat) = out'.length) ∧ ((1 + (setsL below.toNat).length) = (1 + (setsL below.toNat).length)) ∧ (((1 + (setsL below.toNat).length) : Int) = ((1 + (setsL below.toNat).length) : Int)) ∧ ((0 : Int) = i') ∧ ([] = out') ∧ ((([[]] ++ setsL below.toNat) : List (List Int)) = ([[]] ++ setsL below.toNat))) ∧ (∀ out : List (List Int), ∀ i : Int, (i_lists_pack_JJ0 below Size Sets Costs out i) → (((decide (i < ((1 + (setsL below.toNat).length) : Int))) = true → ((0 : Int) ≤ i) ∧ ((i : Int) < ((1 + (setsL below.toNat).length) : Int)) ∧ (i.toNat < ([[]] ++ setsL below.toNat).length) ∧ (PC Try.prog 174 [.agg [.int .i64 Size, .sl (.rows Sets), .sl (.ints Costs)], .sl (.ints (([[]] ++ setsL below.toNat).getD i.toNat []))] (.one (.d (.bool (packB Sets (([[]] ++ setsL below.toNat).getD i.toNat [])))))) ∧ (((packB Sets (([[]] ++ setsL below.toNat).getD i.toNat [])) = true → (out.length = out.length) ∧ ((1 : Nat) = 1) ∧ ((out.length + 1) * 24 ≤ 140737488355328) ∧ (-9223372036854775808 ≤ (i + 1) ∧ (i + 1) ≤ 9223372036854775807) ∧ (∃ out' : List (List Int), ∃ i' : Int, (i_lists_pack_JJ0 below Size Sets Costs out' i') ∧ (i_lists_pack_mJ0 below Size Sets Costs out' i' < i_lists_pack_mJ0 below Size Sets Costs out i) ∧ ((.fn 174 1 [.agg [.int .i64 Size, .sl (.rows Sets), .sl (.ints Costs)]] : D) = (.fn 174 1 [.agg [.int .i64 Size, .sl (.rows Sets), .sl (.ints Costs)]] : D)) ∧ ((out.length + 1) = out'.length) ∧ ((1 + (setsL below.toNat).length) = (1 + (setsL below.toNat).length)) ∧ (((1 + (setsL below.toNat).length) : Int) = ((1 + (setsL below.toNat).length) : Int)) ∧ ((i + 1) = i') ∧ ((out ++ [(([[]] ++ setsL below.toNat).getD i.toNat [])]) = out') ∧ ((([[]] ++ setsL below.toNat) : List (List Int)) = ([[]] ++ setsL below.toNat)))) ∧ ((packB Sets (([[]] ++ setsL below.toNat).getD i.toNat [])) = false → (-9223372036854775808 ≤ (i + 1) ∧ (i + 1) ≤ 9223372036854775807) ∧ (∃ out' : List (List Int), ∃ i' : Int, (i_lists_pack_JJ0 below Size Sets Costs out' i') ∧ (i_lists_pack_mJ0 below Size Sets Costs out' i' < i_lists_pack_mJ0 below Size Sets Costs out i) ∧ ((.fn 174 1 [.agg [.int .i64 Size, .sl (.rows Sets), .sl (.ints Costs)]] : D) = (.fn 174 1 [.agg [.int .i64 Size, .sl (.rows Sets), .sl (.ints Costs)]] : D)) ∧ (out.length = out'.length) ∧ ((1 + (setsL below.toNat).length) = (1 + (setsL below.toNat).length)) ∧ (((1 + (setsL below.toNat).length) : Int) = ((1 + (setsL below.toNat).length) : Int)) ∧ ((i + 1) = i') ∧ (out = out') ∧ ((([[]] ++ setsL below.toNat) : List (List Int)) = ([[]] ++ setsL below.toNat)))))) ∧ ((decide (i < ((1 + (setsL below.toNat).length) : Int))) = false → ((out.length = out.length) ∧ ((out : List (List Int)) = ((chs below.toNat).filter (packB Sets))))))))
theorem i_lists_pack_vc (below : Int) (Size : Int) (Sets : List (List Int)) (Costs : List Int) (hn : 0 ≤ below ∧ below ≤ 8) (hx : ∀ s ∈ chs below.toNat, goodSys Size Sets Costs = true ∧ rising s 0 ((Sets.length : Int) - 1) = true) (w_Sets : (Sets.length : Int) ≤ 9223372036854775807) (v_Sets : ∀ x9 ∈ Sets, (x9.length : Int) ≤ 9223372036854775807) (w_Costs : (Costs.length : Int) ≤ 9223372036854775807) : i_lists_pack_P below Size Sets Costs := by
  unfold i_lists_pack_P
  have cs := chs_small (n := below.toNat) (by omega)
  have ce : (chs below.toNat).length = 1 + (setsL below.toNat).length := by unfold chs; rw [List.length_append]; rfl
  refine ⟨?_, rfl, rfl, ?_, ?_, ?_⟩
  · refine i_sets_pc below ?_
    · omega
  · omega
  · refine ⟨([]), 0, ?_⟩
    refine ⟨?_, rfl, rfl, rfl, rfl, rfl, ?_, rfl⟩
    · refine ⟨?_, ?_, ?_⟩
      · omega
      · omega
      · rfl
    · first | omega | rfl | (intro hg; simp only [nrmT] at hg; omega) | (intro g1 g2; simp [g1, g2]; done) | (intro g1; simp at g1 ⊢; simp [g1]; done) | (simp only [nrmT] at *; omega) | (simp at * <;> omega) | (simp_all <;> omega) | (simp_all; done)
  · intro out i hJ
    obtain ⟨h1, h2, h3⟩ := hJ
    refine ⟨?_, ?_⟩
    · intro b1
      try simp only [nrmT] at b1
      refine ⟨?_, ?_, ?_, ?_, ?_, ?_⟩
      · omega
      · omega
      · show i.toNat < (chs below.toNat).length
        omega
      · refine i_System_isPacking_pc Size Sets Costs (([[]] ++ setsL below.toNat).getD i.toNat []) ?_ ?_
        · have hm : ([[]] ++ setsL below.toNat).getD i.toNat [] ∈ chs below.toNat := getD_memI (xs := chs below.toNat) h1 (by omega)
          exact (hx _ hm).1
        · have hm : ([[]] ++ setsL below.toNat).getD i.toNat [] ∈ chs below.toNat := getD_memI (xs := chs below.toNat) h1 (by omega)
          exact (hx _ hm).2
      · intro b2
        try simp only [nrmT] at b2
        refine ⟨rfl, rfl, ?_, ?_, ?_⟩
        · have := List.length_filter_le (packB Sets) ((chs below.toNat).take i.toNat)
          rw [← h3, List.length_take] at this
          omega
        · omega
        · refine ⟨(out ++ [(([[]] ++ setsL below.toNat).getD i.toNat [])]), (i + 1), ?_⟩
          refine ⟨?_, ?_, rfl, ?_, rfl, rfl, rfl, rfl, rfl⟩
          · refine ⟨?_, ?_, ?_⟩
            · omega
            · omega
            · rw [filter_step h1 (by omega), ← h3, if_pos (by first | exact b2 | exact decide_eq_true b2)]; rfl
          · first | (show _ < _; omega) | (simp only [i_lists_pack_mJ0]; omega) | (simp only [i_lists_pack_mJ0] at *; simp at *; omega)
          · first | omega | rfl | (intro hg; simp only [nrmT] at hg; omega) | (intro g1 g2; simp [g1, g2]; done) | (intro g1; simp at g1 ⊢; simp [g1]; done) | (simp only [nrmT] at *; omega) | (simp at * <;> omega) | (simp_all <;> omega) | (simp_all; done)
      · intro b3
        try simp only [nrmT] at b3
        refine ⟨?_, ?_⟩
        · omega
        · refine ⟨out, (i + 1), ?_⟩
          refine ⟨?_, ?_, rfl, rfl, rfl, rfl, rfl, rfl, rfl⟩
          · refine ⟨?_, ?_, ?_⟩
            · omega
            · omega
            · rw [filter_step h1 (by omega), ← h3]
              exact (if_neg (by first | exact ne_true_of_eq_false b3 | exact fun h => absurd (of_decide_eq_true h) (Int.not_le.2 b3))).symm
          · first | (show _ < _; omega) | (simp only [i_lists_pack_mJ0]; omega) | (simp only [i_lists_pack_mJ0] at *; simp at *; omega)
    · intro b4
      try simp only [nrmT] at b4
      refine ⟨rfl, ?_⟩
      · rw [h3, take_all (by omega)]
theorem i_lists_pack_pc (below : Int) (Size : Int) (Sets : List (List Int)) (Costs : List Int) (hn : 0 ≤ below ∧ below ≤ 8) (hx : ∀ s ∈ chs below.toNat, goodSys Size Sets Costs = true ∧ rising s 0 ((Sets.length : Int) - 1) = true) : PC Try.prog 173 [.int .i64 below, .fn 174 1 [.agg [.int .i64 Size, .sl (.rows Sets), .sl (.ints Costs)]]] (.one (.d (.sl (.rows ((chs below.toNat).filter (packB Sets)))))) :=
  pc_wf @Try.call173 fun hw => pc_by (by kernel_rfl) Try.func173 @Try.call173 (by kernel_rfl) i_lists_pack_C (i_lists_pack_A below Size Sets Costs) (by kernel_rfl) (i_lists_pack_vc below Size Sets Costs hn hx hw.2.1.1.2.1.1 hw.2.1.1.2.1.2 hw.2.1.1.2.2.1) (by kernel_rfl)
def i_lists_pack_orc : List D → Orc := orcN [none, none] fun ds => match ds with
  | [.int .i64 below, .fn f0 1 [.agg [.int .i64 Size, .sl (.rows Sets), .sl (.ints Costs)]]] => bif Nat.beq f0 174 then some (.one (.d (.sl (.rows ((chs below.toNat).filter (packB Sets)))))) else none
  | _ => none
def i_LargestPacking_1_C (f : FuncId) (ds : List D) : Orc := .no
def i_LargestPacking_1_A (choice : List Int) : Ann := .none
def i_LargestPacking_1_P (choice : List Int) : Prop :=
  (-9223372036854775808 ≤ (-(choice.length : Int)) ∧ (-(choice.length : Int)) ≤ 9223372036854775807) ∧ (((-(choice.length : Int)) = (-(choice.length : Int))))
theorem i_LargestPacking_1_vc (choice : List Int)  (w_choice : (choice.length : Int) ≤ 9223372036854775807) : i_LargestPacking_1_P choice := by
  unfold i_LargestPacking_1_P
  refine ⟨?_, rfl⟩
  · omega
theorem i_LargestPacking_1_pc (choice : List Int)  : PC Try.prog 175 [.sl (.ints choice)] (.one (.d (.int .i64 (-(choice.length : Int))))) :=
  pc_wf @Try.call175 fun hw => pc_by (by kernel_rfl) Try.func175 @Try.call175 (by kernel_rfl) i_LargestPacking_1_C (i_LargestPacking_1_A choice) (by kernel_rfl) (i_LargestPacking_1_vc choice hw.1) (by kernel_rfl)
def i_LargestPacking_1_orc : List D → Orc := orcN [some .ints] fun ds => match ds with
  | [.sl (.ints choice)] => some (.one (.d (.int .i64 (-(choice.length : Int)))))
  | _ => none
abbrev i_least_len_JJ0 (xss : List (List Int)) (best : List Int) (i : Int) : Prop := (0 ≤ i) ∧ (i ≤ (xss.length : Int)) ∧ (best ∈ xss) ∧ (best = (xss.take i.toNat).foldl (lsB (fun s9 => -(s9.length : Int))) (xss.getD 0 []))
abbrev i_least_len_mJ0 (xss : List (List Int)) (best : List Int) (i : Int) : Nat := (xss.length - i).toNat
def i_least_len_C (f : FuncId) (ds : List D) : Orc := bif Nat.beq f 175 then i_LargestPacking_1_orc ds else .no
def i_least_len_A (xss : List (List Int)) : Ann := .two (.none) (.two (.none) (.two (.two (.none) (.loop (cut2 (fun (best : List Int) (i : Int) => i_least_len_JJ0 xss best i) (fun (best : List Int) (i : Int) => [(1, .d false (.fn 175 0 [])), (5, .d true (.sl (.ints best))), (11, .d true (.sl (.rows xss))), (12, .d true (.int .i64 (xss.length : Int))), (13, .d true (.int .i64 i))]) (fun (best : List Int) (i : Int) => [])) (fun g => i_least_len_mJ0 xss g.1 g.2) (fun _ => .none))) (.none)))
def i_least_len_P (xss : List (List Int)) : Prop :=
  ((0 : Int) ≤ 0) ∧ ((0 : Int) < xss.length) ∧ (0 < xss.length) ∧ ((∃ best' : List Int, ∃ i' : Int, (i_least_len_JJ0 xss best' i') ∧ ((.fn 175 0 [] : D) = (.fn 175 0 [] : D)) ∧ ((xss.getD 0 []) = best') ∧ (xss = xss) ∧ ((xss.length : Int) = (xss.length : Int)) ∧ ((0 : Int) = i')) ∧ (∀ best : List Int, ∀ i : Int, (i_least_len_JJ0 xss best i) → (((decide (i < (xss.length : Int))) = true → ((0 : Int) ≤ i) ∧ ((i : Int) < xss.length) ∧ (i.toNat < xss.length) ∧ (PC Try.prog 175 [.sl (.ints (xss.getD i.toNat []))] (.one (.d (.int .i64 (-((xss.getD i.toNat []).length : Int)))))) ∧ (PC Try.prog 175 [.sl (.ints best)] (.one (.d (.int .i64 (-(best.length : Int)))))) ∧ (((decide ((-((xss.getD i.toNat []).length : Int)) < (-(best.length : Int)))) = true → (-9223372036854775808 ≤ (i + 1) ∧ (i + 1) ≤ 9223372036854775807) ∧ (∃ best' : List Int, ∃ i' : Int, (i_least_len_JJ0 xss best' i') ∧ (i_least_len_mJ0 xss best' i' < i_least_len_mJ0 xss best i) ∧ ((.fn 175 0 [] : D) = (.fn 175 0 [] : D)) ∧ ((xss.getD i.toNat []) = best') ∧ (xss = xss) ∧ ((xss.length : Int) = (xss.length : Int)) ∧ ((i + 1) = i'))) ∧ ((decide ((-((xss.getD i.toNat []).length : Int)) < (-(best.length : Int)))) = false → (-9223372036854775808 ≤ (i + 1) ∧ (i + 1) ≤ 9223372036854775807) ∧ (∃ best' : List Int, ∃ i' : Int, (i_least_len_JJ0 xss best' i') ∧ (i_least_len_mJ0 xss best' i' < i_least_len_mJ0 xss best i) ∧ ((.fn 175 0 [] : D) = (.fn 175 0 [] : D)) ∧ (best = best') ∧ (xss = xss) ∧ ((xss.length : Int) = (xss.length : Int)) ∧ ((i + 1) = i'))))) ∧ ((decide (i < (xss.length : Int))) = false → (((best : List Int) = (leastL (fun s9 => -(s9.length : Int)) xss)))))))
theorem i_least_len_vc (xss : List (List Int)) (hp : 0 < xss.length) (hx : ∀ s ∈ xss, True) (w_xss : (xss.length : Int) ≤ 9223372036854775807) (v_xss : ∀ x9 ∈ xss, (x9.length : Int) ≤ 9223372036854775807) : i_least_len_P xss := by
  unfold i_least_len_P
  refine ⟨?_, ?_, ?_, ?_, ?_⟩
  · omega
  · omega
  · omega
  · refine ⟨(xss.getD 0 []), 0, ?_⟩
    refine ⟨?_, rfl, rfl, rfl, rfl, rfl⟩
    · refine ⟨?_, ?_, ?_, ?_⟩
      · omega
      · omega
      · exact getD_mem hp
      · rfl
  · intro best i hJ
    obtain ⟨h1, h2, h3, h4⟩ := hJ
    refine ⟨?_, ?_⟩
    · intro b1
      try simp only [nrmT] at b1
      refine ⟨?_, ?_, ?_, i_LargestPacking_1_pc (xss.getD i.toNat []), i_LargestPacking_1_pc best, ?_, ?_⟩
      · omega
      · omega
      · omega
      · intro b2
        try simp only [nrmT] at b2
        refine ⟨?_, ?_⟩
        · omega
        · refine ⟨(xss.getD i.toNat []), (i + 1), ?_⟩
          refine ⟨?_, ?_, rfl, rfl, rfl, rfl, rfl⟩
          · refine ⟨?_, ?_, ?_, ?_⟩
            · omega
            · omega
            · exact getD_memI h1 (by omega)
            · rw [fold_snoc (d := []) h1 (by omega), ← h4]; unfold lsB; rw [if_pos b2]
          · first | (show _ < _; omega) | (simp only [i_least_len_mJ0]; omega) | (simp only [i_least_len_mJ0] at *; simp at *; omega)
      · intro b3
        try simp only [nrmT] at b3
        refine ⟨?_, ?_⟩
        · omega
        · refine ⟨best, (i + 1), ?_⟩
          refine ⟨?_, ?_, rfl, rfl, rfl, rfl, rfl⟩
          · refine ⟨?_, ?_, ?_, ?_⟩
            · omega
            · omega
            · exact h3
            · rw [fold_snoc (d := []) h1 (by omega), ← h4]; unfold lsB; (try dsimp only); rw [if_neg (by omega)]
          · first | (show _ < _; omega) | (simp only [i_least_len_mJ0]; omega) | (simp only [i_least_len_mJ0] at *; simp at *; omega)
    · intro b4
      try simp only [nrmT] at b4
      rw [h4, take_all (by omega)]; rfl
theorem i_least_len_pc (xss : List (List Int)) (hp : 0 < xss.length) (hx : ∀ s ∈ xss, True) : PCs Try.prog 172 [.sl (.rows xss), .fn 175 0 []] 0 (.sl (.ints (leastL (fun s9 => -(s9.length : Int)) xss))) :=
  pcs_wf @Try.call172 fun hw => pcs_by (by kernel_rfl) Try.func172 @Try.call172 (by kernel_rfl) i_least_len_C (i_least_len_A xss) (by kernel_rfl) (i_least_len_vc xss hp hx hw.1.1 hw.1.2) (by kernel_rfl)
def i_least_len_orc : List D → Orc := orcS 0 fun ds => match ds with
  | [.sl (.rows xss), .fn f0 0 []] => some (.sl (.ints (leastL (fun s9 => -(s9.length : Int)) xss)))
  | _ => none
abbrev s_LargestPacking_JJ0 (Size : Int) (Sets : List (List Int)) (Costs : List Int) (best : List Int) (i : Int) : Prop := (0 ≤ i) ∧ (i ≤ ((chs Sets.length).length : Int)) ∧ (goodSys Size Sets Costs = true) ∧ (best ∈ chs Sets.length) ∧ (best = ((chs Sets.length).take i.toNat).foldl (lpB Sets) [])
abbrev s_LargestPacking_mJ0 (Size : Int) (Sets : List (List Int)) (Costs : List Int) (best : List Int) (i : Int) : Nat := ((chs Sets.length).length - i).toNat
def s_LargestPacking_C (f : FuncId) (ds : List D) : Orc := bif Nat.beq f 122 then s_l6Good_orc ds else bif Nat.beq f 176 then s_l6Choices_orc ds else bif Nat.beq f 177 then s_l6Packs_orc ds else .no
def s_LargestPacking_A (Size : Int) (Sets : List (List Int)) (Costs : List Int) : Ann := .two (.none) (.two (.reg [(0, .frz)]) (.two (.none) (.two (.none) (.two (.two (.none) (.loop (cut2 (fun (best : List Int) (i : Int) => s_LargestPacking_JJ0 Size Sets Costs best i) (fun (best : List Int) (i : Int) => [(1, .ptr 1 0), (4, .d true (.sl (.ints best))), (5, .d true (.sl (.rows (chs (Sets.length : Int).toNat)))), (6, .d true (.int .i64 i))]) (fun (best : List Int) (i : Int) => [(1, .box 36 [.d false (.int .i64 Size), .d false (.sl (.rows Sets)), .d false (.sl (.ints Costs))])])) (fun g => s_LargestPacking_mJ0 Size Sets Costs g.1 g.2) (fun _ => .none))) (.none)))))
def s_LargestPacking_P (Size : Int) (Sets : List (List Int)) (Costs : List Int) : Prop :=
  (PC Try.prog 122 [.agg [.int .i64 Size, .sl (.rows Sets), .sl (.ints Costs)]] (.one (.d (.bool (goodSys Size Sets Costs))))) ∧ (((!(goodSys Size Sets Costs)) = true → ((([] : List Int) = (lpL Size Sets Costs)) ∧ (false = (goodSys Size Sets Costs)))) ∧ ((!(goodSys Size Sets Costs)) = false → (PC Try.prog 176 [.int .i64 (Sets.length : Int)] (.one (.d (.sl (.rows (chs (Sets.length : Int).toNat)))))) ∧ ((∃ best' : List Int, ∃ i' : Int, (s_LargestPacking_JJ0 Size Sets Costs best' i') ∧ ([] = best') ∧ ((chs (Sets.length : Int).toNat) = (chs (Sets.length : Int).toNat)) ∧ ((0 : Int) = i') ∧ (Size = Size) ∧ (Sets = Sets) ∧ (Costs = Costs)) ∧ (∀ best : List Int, ∀ i : Int, (s_LargestPacking_JJ0 Size Sets Costs best i) → (((decide (i < (((chs (Sets.length : Int).toNat).length) : Int))) = true → (true = true) ∧ ((0 : Int) ≤ i) ∧ ((i : Int) < (chs (Sets.length : Int).toNat).length) ∧ (i.toNat < (chs (Sets.length : Int).toNat).length) ∧ ((decide ((((chs (Sets.length : Int).toNat).getD i.toNat []).length : Int) > (best.length : Int))) = true → (decide ((((chs (Sets.length : Int).toNat).getD i.toNat []).length : Int) > (best.length : Int))) = true) ∧ ((decide ((((chs (Sets.length : Int).toNat).getD i.toNat []).length : Int) > (best.length : Int))) = true → (decide ((((chs (Sets.length : Int).toNat).getD i.toNat []).length : Int) > (best.length : Int))) = true) ∧ (((decide ((((chs (Sets.length : Int).toNat).getD i.toNat []).length : Int) > (best.length : Int))) = true → (0 : Int) ≤ i)) ∧ (((decide ((((chs (Sets.length : Int).toNat).getD i.toNat []).length : Int) > (best.length : Int))) = true → (i : Int) < (chs (Sets.length : Int).toNat).length)) ∧ ((decide ((((chs (Sets.length : Int).toNat).getD i.toNat []).length : Int) > (best.length : Int))) = true → (decide ((((chs (Sets.length : Int).toNat).getD i.toNat []).length : Int) > (best.length : Int))) = true) ∧ (((decide ((((chs (Sets.length : Int).toNat).getD i.toNat []).length : Int) > (best.length : Int))) = true → i.toNat < (chs (Sets.length : Int).toNat).length)) ∧ ((decide ((((chs (Sets.length : Int).toNat).getD i.toNat []).length : Int) > (best.length : Int))) = true → (decide ((((chs (Sets.length : Int).toNat).getD i.toNat []).length : Int) > (best.length : Int))) = true) ∧ ((decide ((((chs (Sets.length : Int).toNat).getD i.toNat []).length : Int) > (best.length : Int))) = true → (decide ((((chs (Sets.length : Int).toNat).getD i.toNat []).length : Int) > (best.length : Int))) = true) ∧ ((decide ((((chs (Sets.length : Int).toNat).getD i.toNat []).length : Int) > (best.length : Int))) = true → PC Try.prog 177 [.agg [.int .i64 Size, .sl (.rows Sets), .sl (.ints Costs)], .sl (.ints ((chs (Sets.length : Int).toNat).getD i.toNat []))] (.one (.d (.bool (packB Sets ((chs (Sets.length : Int).toNat).getD i.toNat [])))))) ∧ (true = true) ∧ (((decide ((((chs (Sets.length : Int).toNat).getD i.toNat []).length : Int) > (best.length : Int))) = true → (decide ((((chs (Sets.length : Int).toNat).getD i.toNat []).length : Int) > (best.length : Int))) = true)) ∧ (((decide ((((chs (Sets.length : Int).toNat).getD i.toNat []).length : Int) > (best.length : Int))) = false → true = true)) ∧ (((cond (decide ((((chs (Sets.length : Int).toNat).getD i.toNat []).length : Int) > (best.length : Int))) (packB Sets ((chs (Sets.length : Int).toNat).getD i.toNat [])) false) = true → ((0 : Int) ≤ i) ∧ ((i : Int) < (chs (Sets.length : Int).toNat).length) ∧ (i.toNat < (chs (Sets.length : Int).toNat).length) ∧ (-9223372036854775808 ≤ (i + 1) ∧ (i + 1) ≤ 9223372036854775807) ∧ (∃ best' : List Int, ∃ i' : Int, (s_LargestPacking_JJ0 Size Sets Costs best' i') ∧ (s_LargestPacking_mJ0 Size Sets Costs best' i' < s_LargestPacking_mJ0 Size Sets Costs best i) ∧ (((chs (Sets.length : Int).toNat).getD i.toNat []) = best') ∧ ((chs (Sets.length : Int).toNat) = (chs (Sets.length : Int).toNat)) ∧ ((i + 1) = i') ∧ (Size = Size) ∧ (Sets = Sets) ∧ (Costs = Costs))) ∧ ((cond (decide ((((chs (Sets.length : Int).toNat).getD i.toNat []).length : Int) > (best.length : Int))) (packB Sets ((chs (Sets.length : Int).toNat).getD i.toNat [])) false) = false → (-9223372036854775808 ≤ (i + 1) ∧ (i + 1) ≤ 9223372036854775807) ∧ (∃ best' : List Int, ∃ i' : Int, (s_LargestPacking_JJ0 Size Sets Costs best' i') ∧ (s_LargestPacking_mJ0 Size Sets Costs best' i' < s_LargestPacking_mJ0 Size Sets Costs best i) ∧ (best = best') ∧ ((chs (Sets.length : Int).toNat) = (chs (Sets.length : Int).toNat)) ∧ ((i + 1) = i') ∧ (Size = Size) ∧ (Sets = Sets) ∧ (Costs = Costs))))) ∧ ((decide (i < (((chs (Sets.length : Int).toNat).length) : Int))) = false → (((best : List Int) = (lpL Size Sets Costs)) ∧ (true = (goodSys Size Sets Costs)))))))))
theorem s_LargestPacking_vc (Size : Int) (Sets : List (List Int)) (Costs : List Int)  (w_Sets : (Sets.length : Int) ≤ 9223372036854775807) (v_Sets : ∀ x9 ∈ Sets, (x9.length : Int) ≤ 9223372036854775807) (w_Costs : (Costs.length : Int) ≤ 9223372036854775807) : s_LargestPacking_P Size Sets Costs := by
  unfold s_LargestPacking_P
  have cs : goodSys Size Sets Costs = true → (chs Sets.length).length ≤ 256 := fun hg => chs_small (by have := gs_facts hg; omega)
  have ct : (chs (Sets.length : Int).toNat).length = (chs Sets.length).length := rfl
  refine ⟨s_l6Good_pc Size Sets Costs, ?_, ?_⟩
  · intro b1
    try simp only [nrmT] at b1
    refine ⟨?_, ?_⟩
    · have hq : goodSys Size Sets Costs = false := by simpa using b1
      unfold lpL; rw [hq]; rfl
    · have hq : goodSys Size Sets Costs = false := by simpa using b1
      exact hq.symm
  · intro b2
    try simp only [nrmT] at b2
    refine ⟨?_, ?_, ?_⟩
    · refine s_l6Choices_pc (Sets.length : Int) ?_
      · have hq : goodSys Size Sets Costs = true := by simpa using b2
        have := gs_facts hq
        omega
    · refine ⟨([]), 0, ?_⟩
      refine ⟨?_, ?_, rfl, rfl, rfl, rfl, rfl⟩
      · refine ⟨?_, ?_, ?_, ?_, ?_⟩
        · omega
        · omega
        · first | exact hf | exact (show goodSys Size Sets Costs = true by
            have hq : goodSys Size Sets Costs = true := by simpa using b2
            exact hq)
        · exact nil_chs _
        · rfl
      · first | omega | rfl | (intro hg; simp only [nrmT] at hg; omega) | (intro g1 g2; simp [g1, g2]; done) | (intro g1; simp at g1 ⊢; simp [g1]; done) | (simp only [nrmT] at *; omega) | (simp at * <;> omega) | (simp_all <;> omega) | (simp_all; done)
    · intro best i hJ
      obtain ⟨h1, h2, hf, h3, h4⟩ := hJ
      refine ⟨?_, ?_⟩
      · intro b3
        try simp only [nrmT] at b3
        refine ⟨rfl, ?_, ?_, ?_, id, id, ?_, ?_, id, ?_, id, id, ?_, rfl, id, fun _ => rfl, ?_, ?_⟩
        · omega
        · omega
        · omega
        · omega
        · omega
        · omega
        · intro hg
          refine s_l6Packs_pc Size Sets Costs ((chs (Sets.length : Int).toNat).getD i.toNat []) ?_ ?_
          · first | exact hf | exact (show goodSys Size Sets Costs = true by
              have hq : goodSys Size Sets Costs = true := by simpa using b2
              exact hq)
          · exact chs_rising (getD_memI (by omega) (by omega))
        · intro b4
          refine ⟨?_, ?_, ?_, ?_, ?_⟩
          · omega
          · omega
          · omega
          · have := cs hf
            omega
          · refine ⟨((chs (Sets.length : Int).toNat).getD i.toNat []), (i + 1), ?_⟩
            refine ⟨?_, ?_, rfl, rfl, rfl, rfl, rfl, rfl⟩
            · refine ⟨?_, ?_, ?_, ?_, ?_⟩
              · omega
              · omega
              · first | exact hf | exact (show goodSys Size Sets Costs = true by
                  have hq : goodSys Size Sets Costs = true := by simpa using b2
                  exact hq)
              · exact getD_memI (by omega) (by omega)
              · rw [Int.toNat_natCast] at b4 ⊢
                rw [fold_snoc (d := []) (by omega) (by omega), ← h4]; unfold lpB; rw [if_pos b4]
            · first | (show _ < _; omega) | (simp only [s_LargestPacking_mJ0]; omega) | (simp only [s_LargestPacking_mJ0] at *; simp at *; omega)
        · intro b5
          refine ⟨?_, ?_⟩
          · have := cs hf
            omega
          · refine ⟨best, (i + 1), ?_⟩
            refine ⟨?_, ?_, rfl, rfl, rfl, rfl, rfl, rfl⟩
            · refine ⟨?_, ?_, ?_, ?_, ?_⟩
              · omega
              · omega
              · first | exact hf | exact (show goodSys Size Sets Costs = true by
                  have hq : goodSys Size Sets Costs = true := by simpa using b2
                  exact hq)
              · exact h3
              · rw [Int.toNat_natCast] at b5
                rw [fold_snoc (d := []) (by omega) (by omega), ← h4]; unfold lpB; rw [if_neg (ne_true_of_eq_false b5)]
            · first | (show _ < _; omega) | (simp only [s_LargestPacking_mJ0]; omega) | (simp only [s_LargestPacking_mJ0] at *; simp at *; omega)
      · intro b6
        try simp only [nrmT] at b6
        refine ⟨?_, ?_⟩
        · rw [h4, take_all (by omega)]; unfold lpL lpS; rw [if_pos hf]; exact lp_fold _
        · first | exact hf.symm | exact (show goodSys Size Sets Costs = true by simpa using b2).symm
theorem s_LargestPacking_pc (Size : Int) (Sets : List (List Int)) (Costs : List Int)  : PC Try.prog 81 [.agg [.int .i64 Size, .sl (.rows Sets), .sl (.ints Costs)]] (.tup [.d (.sl (.ints (lpL Size Sets Costs))), .d (.bool (goodSys Size Sets Costs))]) :=
  pc_wf @Try.call81 fun hw => pc_by (by kernel_rfl) Try.func81 @Try.call81 (by kernel_rfl) s_LargestPacking_C (s_LargestPacking_A Size Sets Costs) (by kernel_rfl) (s_LargestPacking_vc Size Sets Costs hw.1.2.1.1 hw.1.2.1.2 hw.1.2.2.1) (by kernel_rfl)
def s_LargestPacking_orc : List D → Orc := orcN [none] fun ds => match ds with
  | [.agg [.int .i64 Size, .sl (.rows Sets), .sl (.ints Costs)]] => some (.tup [.d (.sl (.ints (lpL Size Sets Costs))), .d (.bool (goodSys Size Sets Costs))])
  | _ => none
def i_LargestPacking_C (f : FuncId) (ds : List D) : Orc := bif Nat.beq f 76 then i_IsSystem_orc ds else bif Nat.beq f 173 then i_lists_pack_orc ds else bif Nat.beq f 172 then i_least_len_orc ds else .no
def i_LargestPacking_A (Size : Int) (Sets : List (List Int)) (Costs : List Int) : Ann := .none
def i_LargestPacking_P (Size : Int) (Sets : List (List Int)) (Costs : List Int) : Prop :=
  (PC Try.prog 76 [.agg [.int .i64 Size, .sl (.rows Sets), .sl (.ints Costs)]] (.one (.d (.bool (goodSys Size Sets Costs))))) ∧ (((!(goodSys Size Sets Costs)) = true → (((lpL Size Sets Costs).length = 0) ∧ (false = (goodSys Size Sets Costs)))) ∧ ((!(goodSys Size Sets Costs)) = false → (PC Try.prog 173 [.int .i64 (Sets.length : Int), .fn 174 1 [.agg [.int .i64 Size, .sl (.rows Sets), .sl (.ints Costs)]]] (.one (.d (.sl (.rows ((chs (Sets.length : Int).toNat).filter (packB Sets))))))) ∧ (PCs Try.prog 172 [.sl (.rows ((chs (Sets.length : Int).toNat).filter (packB Sets))), .fn 175 0 []] 0 (.sl (.ints (leastL (fun s9 => -(s9.length : Int)) ((chs (Sets.length : Int).toNat).filter (packB Sets)))))) ∧ ((((leastL (fun s9 => -(s9.length : Int)) ((chs (Sets.length : Int).toNat).filter (packB Sets))) : List Int) = (lpL Size Sets Costs)) ∧ (true = (goodSys Size Sets Costs)))))
theorem i_LargestPacking_vc (Size : Int) (Sets : List (List Int)) (Costs : List Int)  (w_Sets : (Sets.length : Int) ≤ 9223372036854775807) (v_Sets : ∀ x9 ∈ Sets, (x9.length : Int) ≤ 9223372036854775807) (w_Costs : (Costs.length : Int) ≤ 9223372036854775807) : i_LargestPacking_P Size Sets Costs := by
  unfold i_LargestPacking_P
  have cs : goodSys Size Sets Costs = true → (chs Sets.length).length ≤ 256 := fun hg => chs_small (by have := gs_facts hg; omega)
  have ct : (chs (Sets.length : Int).toNat).length = (chs Sets.length).length := rfl
  refine ⟨i_IsSystem_pc Size Sets Costs, ?_, ?_⟩
  · intro b1
    try simp only [nrmT] at b1
    refine ⟨?_, ?_⟩
    · have hq : goodSys Size Sets Costs = false := by simpa using b1
      unfold lpL; rw [hq]; rfl
    · have hq : goodSys Size Sets Costs = false := by simpa using b1
      exact hq.symm
  · intro b2
    try simp only [nrmT] at b2
    refine ⟨?_, ?_, ?_, ?_⟩
    · refine i_lists_pack_pc (Sets.length : Int) Size Sets Costs ?_ ?_
      · have hq : goodSys Size Sets Costs = true := by simpa using b2
        have := gs_facts hq
        omega
      · have hq : goodSys Size Sets Costs = true := by simpa using b2
        intro s hs
        rw [Int.toNat_natCast] at hs
        exact ⟨hq, chs_rising hs⟩
    · refine i_least_len_pc ((chs (Sets.length : Int).toNat).filter (packB Sets)) ?_ ?_
      · exact chs_pos (packB_nil Sets)
      · have hq : goodSys Size Sets Costs = true := by simpa using b2
        intro s hs; trivial
    · have hq : goodSys Size Sets Costs = true := by simpa using b2
      unfold lpL; rw [if_pos hq]; rfl
    · first | exact hf.symm | exact (show goodSys Size Sets Costs = true by simpa using b2).symm
theorem i_LargestPacking_pc (Size : Int) (Sets : List (List Int)) (Costs : List Int)  : PC Try.prog 80 [.agg [.int .i64 Size, .sl (.rows Sets), .sl (.ints Costs)]] (.tup [.d (.sl (.ints (lpL Size Sets Costs))), .d (.bool (goodSys Size Sets Costs))]) :=
  pc_wf @Try.call80 fun hw => pc_by (by kernel_rfl) Try.func80 @Try.call80 (by kernel_rfl) i_LargestPacking_C (i_LargestPacking_A Size Sets Costs) (by kernel_rfl) (i_LargestPacking_vc Size Sets Costs hw.1.2.1.1 hw.1.2.1.2 hw.1.2.2.1) (by kernel_rfl)
def i_LargestPacking_orc : List D → Orc := orcN [none] fun ds => match ds with
  | [.agg [.int .i64 Size, .sl (.rows Sets), .sl (.ints Costs)]] => some (.tup [.d (.sl (.ints (lpL Size Sets Costs))), .d (.bool (goodSys Size Sets Costs))])
  | _ => none
/-- How far a cursor has read, and its seed. -/
structure Cur where
  pos : Int
  seed : Int
abbrev cur0 : Cur := ⟨0, 0⟩
def okC (c : Cur) (b : Int) : Prop := 0 ≤ c.pos ∧ c.pos ≤ b ∧ 0 ≤ c.seed ∧ c.seed ≤ 18446744073709551615
def nxB (code : List Nat) (c : Cur) : Int := if c.pos < (code.length : Int) then ((code.getD c.pos.toNat 0 : Nat) : Int) else 0
def nextC (code : List Nat) (c : Cur) : Cur := ⟨c.pos + 1, IntKind.u64.wrap (IntKind.u64.wrap (IntKind.u64.wrap (c.seed * 6364136223846793005) + nxB code c) + 462197)⟩
def nextV (code : List Nat) (c : Cur) : Int := if c.pos + 1 ≤ (code.length : Int) then nxB code c else ((((nextC code c).seed / 2 ^ 40).toNat &&& 255 : Nat) : Int)
theorem wrap_u64 (n : Int) : 0 ≤ IntKind.u64.wrap n ∧ IntKind.u64.wrap n ≤ 18446744073709551615 := by
  have h : IntKind.u64.wrap n = n % 18446744073709551616 := rfl
  omega
theorem nxB_in {code : List Nat} (hb : ∀ x9 ∈ code, x9 < 256) (c : Cur) (h0 : 0 ≤ c.pos) : 0 ≤ nxB code c ∧ nxB code c ≤ 255 := by
  unfold nxB
  split
  · have := hb _ (getD_mem (d := 0) (show c.pos.toNat < code.length by omega))
    omega
  · omega
theorem and255 (n : Nat) : n &&& 255 ≤ 255 := Nat.and_le_right
theorem nextV_in {code : List Nat} (hb : ∀ x9 ∈ code, x9 < 256) {c : Cur} (h0 : 0 ≤ c.pos) : 0 ≤ nextV code c ∧ nextV code c ≤ 255 := by
  unfold nextV
  split
  · exact nxB_in hb c h0
  · have := and255 ((nextC code c).seed / 2 ^ 40).toNat
    omega
theorem ok_next {code : List Nat} {c : Cur} {b : Int} (h : okC c b) : okC (nextC code c) (b + 1) := by
  obtain ⟨h1, h2, _, _⟩ := h
  exact ⟨by show 0 ≤ c.pos + 1; omega, by show c.pos + 1 ≤ b + 1; omega, (wrap_u64 _).1, (wrap_u64 _).2⟩
theorem okC_le {c : Cur} {b b' : Int} (h : okC c b) (hb : b ≤ b') : okC c b' := ⟨h.1, Int.le_trans h.2.1 hb, h.2.2⟩
def s_l1Cur_next_C (f : FuncId) (ds : List D) : Orc := .no
def s_l1Cur_next_A (u : Value) (code : List Nat) (c : Cur) : Ann := .two (.none) (.two (.none) (.two (.none) (.two (.none) (.two (.reg [(5, .wrap), (8, .wrap), (9, .wrap)]) (.none)))))
def s_l1Cur_next_P (u : Value) (code : List Nat) (c : Cur) : Prop :=
  (true = true) ∧ (((decide (c.pos < (code.length : Int))) = true → (true = true) ∧ ((0 : Int) ≤ c.pos) ∧ ((c.pos : Int) < code.length) ∧ (c.pos.toNat < code.length) ∧ (-9223372036854775808 ≤ ((code.getD c.pos.toNat 0 : Nat) : Int) ∧ ((code.getD c.pos.toNat 0 : Nat) : Int) ≤ 9223372036854775807) ∧ (-9223372036854775808 ≤ (c.pos + 1) ∧ (c.pos + 1) ≤ 9223372036854775807) ∧ (0 ≤ ((code.getD c.pos.toNat 0 : Nat) : Int) ∧ ((code.getD c.pos.toNat 0 : Nat) : Int) ≤ 18446744073709551615) ∧ (true = true) ∧ (((decide ((c.pos + 1) ≤ (code.length : Int))) = true → (((.lit u (.sl (.bytes code)) : D) = .lit u (.sl (.bytes code))) ∧ ((c.pos + 1) = (nextC code c).pos) ∧ ((IntKind.u64.wrap ((IntKind.u64.wrap ((IntKind.u64.wrap (c.seed * 6364136223846793005)) + ((code.getD c.pos.toNat 0 : Nat) : Int))) + 462197)) = (nextC code c).seed) ∧ (((code.getD c.pos.toNat 0 : Nat) : Int) = (nextV code c)))) ∧ ((decide ((c.pos + 1) ≤ (code.length : Int))) = false → ((0 : Int) ≤ (IntKind.u64.wrap ((IntKind.u64.wrap ((IntKind.u64.wrap (c.seed * 6364136223846793005)) + ((code.getD c.pos.toNat 0 : Nat) : Int))) + 462197)) ∧ ((IntKind.u64.wrap ((IntKind.u64.wrap ((IntKind.u64.wrap (c.seed * 6364136223846793005)) + ((code.getD c.pos.toNat 0 : Nat) : Int))) + 462197)) : Int) ≤ 18446744073709551615) ∧ ((0 : Int) ≤ 40) ∧ ((0 : Int) ≤ ((IntKind.u64.wrap ((IntKind.u64.wrap ((IntKind.u64.wrap (c.seed * 6364136223846793005)) + ((code.getD c.pos.toNat 0 : Nat) : Int))) + 462197)) / 2 ^ 40) ∧ (((IntKind.u64.wrap ((IntKind.u64.wrap ((IntKind.u64.wrap (c.seed * 6364136223846793005)) + ((code.getD c.pos.toNat 0 : Nat) : Int))) + 462197)) / 2 ^ 40) : Int) ≤ 18446744073709551615) ∧ ((0 : Int) ≤ 255 ∧ (255 : Int) ≤ 18446744073709551615) ∧ (-9223372036854775808 ≤ ((((IntKind.u64.wrap ((IntKind.u64.wrap ((IntKind.u64.wrap (c.seed * 6364136223846793005)) + ((code.getD c.pos.toNat 0 : Nat) : Int))) + 462197)) / 2 ^ 40).toNat &&& 255 : Nat) : Int) ∧ ((((IntKind.u64.wrap ((IntKind.u64.wrap ((IntKind.u64.wrap (c.seed * 6364136223846793005)) + ((code.getD c.pos.toNat 0 : Nat) : Int))) + 462197)) / 2 ^ 40).toNat &&& 255 : Nat) : Int) ≤ 9223372036854775807) ∧ (((.lit u (.sl (.bytes code)) : D) = .lit u (.sl (.bytes code))) ∧ ((c.pos + 1) = (nextC code c).pos) ∧ ((IntKind.u64.wrap ((IntKind.u64.wrap ((IntKind.u64.wrap (c.seed * 6364136223846793005)) + ((code.getD c.pos.toNat 0 : Nat) : Int))) + 462197)) = (nextC code c).seed) ∧ (((((IntKind.u64.wrap ((IntKind.u64.wrap ((IntKind.u64.wrap (c.seed * 6364136223846793005)) + ((code.getD c.pos.toNat 0 : Nat) : Int))) + 462197)) / 2 ^ 40).toNat &&& 255 : Nat) : Int) = (nextV code c)))))) ∧ ((decide (c.pos < (code.length : Int))) = false → (-9223372036854775808 ≤ (c.pos + 1) ∧ (c.pos + 1) ≤ 9223372036854775807) ∧ (0 ≤ (0 : Int) ∧ (0 : Int) ≤ 18446744073709551615) ∧ (true = true) ∧ (((decide ((c.pos + 1) ≤ (code.length : Int))) = true → (((.lit u (.sl (.bytes code)) : D) = .lit u (.sl (.bytes code))) ∧ ((c.pos + 1) = (nextC code c).pos) ∧ ((IntKind.u64.wrap ((IntKind.u64.wrap ((IntKind.u64.wrap (c.seed * 6364136223846793005)) + 0)) + 462197)) = (nextC code c).seed) ∧ ((0 : Int) = (nextV code c)))) ∧ ((decide ((c.pos + 1) ≤ (code.length : Int))) = false → ((0 : Int) ≤ (IntKind.u64.wrap ((IntKind.u64.wrap ((IntKind.u64.wrap (c.seed * 6364136223846793005)) + 0)) + 462197)) ∧ ((IntKind.u64.wrap ((IntKind.u64.wrap ((IntKind.u64.wrap (c.seed * 6364136223846793005)) + 0)) + 462197)) : Int) ≤ 18446744073709551615) ∧ ((0 : Int) ≤ 40) ∧ ((0 : Int) ≤ ((IntKind.u64.wrap ((IntKind.u64.wrap ((IntKind.u64.wrap (c.seed * 6364136223846793005)) + 0)) + 462197)) / 2 ^ 40) ∧ (((IntKind.u64.wrap ((IntKind.u64.wrap ((IntKind.u64.wrap (c.seed * 6364136223846793005)) + 0)) + 462197)) / 2 ^ 40) : Int) ≤ 18446744073709551615) ∧ ((0 : Int) ≤ 255 ∧ (255 : Int) ≤ 18446744073709551615) ∧ (-9223372036854775808 ≤ ((((IntKind.u64.wrap ((IntKind.u64.wrap ((IntKind.u64.wrap (c.seed * 6364136223846793005)) + 0)) + 462197)) / 2 ^ 40).toNat &&& 255 : Nat) : Int) ∧ ((((IntKind.u64.wrap ((IntKind.u64.wrap ((IntKind.u64.wrap (c.seed * 6364136223846793005)) + 0)) + 462197)) / 2 ^ 40).toNat &&& 255 : Nat) : Int) ≤ 9223372036854775807) ∧ (((.lit u (.sl (.bytes code)) : D) = .lit u (.sl (.bytes code))) ∧ ((c.pos + 1) = (nextC code c).pos) ∧ ((IntKind.u64.wrap ((IntKind.u64.wrap ((IntKind.u64.wrap (c.seed * 6364136223846793005)) + 0)) + 462197)) = (nextC code c).seed) ∧ (((((IntKind.u64.wrap ((IntKind.u64.wrap ((IntKind.u64.wrap (c.seed * 6364136223846793005)) + 0)) + 462197)) / 2 ^ 40).toNat &&& 255 : Nat) : Int) = (nextV code c)))))))
theorem s_l1Cur_next_vc (u : Value) (code : List Nat) (c : Cur) (hb : ∀ x9 ∈ code, x9 < 256) (hc : okC c 1000000000000)  : s_l1Cur_next_P u code c := by
  unfold s_l1Cur_next_P
  obtain ⟨c1, c2, c3, c4⟩ := hc
  have nb := nxB_in hb c c1
  have w64 := wrap_u64
  refine ⟨rfl, ?_, ?_⟩
  · intro b1
    try simp only [nrmT] at b1
    refine ⟨rfl, ?_, ?_, ?_, ?_, ?_, ?_, rfl, ?_, ?_⟩
    · omega
    · omega
    · omega
    · have := hb _ (getD_mem (d := 0) (show c.pos.toNat < code.length by omega))
      omega
    · omega
    · have := hb _ (getD_mem (d := 0) (show c.pos.toNat < code.length by omega))
      omega
    · intro b2
      try simp only [nrmT] at b2
      refine ⟨rfl, ?_, ?_, ?_⟩
      · first | omega | rfl | (intro hg; simp only [nrmT] at hg; omega) | (intro g1 g2; simp [g1, g2]; done) | (intro g1; simp at g1 ⊢; simp [g1]; done) | (simp only [nrmT] at *; omega) | (simp at * <;> omega) | (simp_all <;> omega) | (simp_all; done)
      · have hs : (nextC code c).seed = IntKind.u64.wrap (IntKind.u64.wrap (IntKind.u64.wrap (c.seed * 6364136223846793005) + nxB code c) + 462197) := rfl
        first | rw [show nxB code c = ((code.getD c.pos.toNat 0 : Nat) : Int) from if_pos (by omega)] at hs | rw [show nxB code c = 0 from if_neg (by omega)] at hs
        first | exact hs.symm | (exfalso; omega)
      · unfold nextV nxB; rw [if_pos (by omega), if_pos (by omega)]
    · intro b3
      try simp only [nrmT] at b3
      refine ⟨?_, ?_, ?_, ?_, ?_, rfl, ?_, ?_, ?_⟩
      · have := hb _ (getD_mem (d := 0) (show c.pos.toNat < code.length by omega))
        omega
      · omega
      · have := hb _ (getD_mem (d := 0) (show c.pos.toNat < code.length by omega))
        omega
      · omega
      · have := hb _ (getD_mem (d := 0) (show c.pos.toNat < code.length by omega))
        omega
      · omega
      · have hs : (nextC code c).seed = IntKind.u64.wrap (IntKind.u64.wrap (IntKind.u64.wrap (c.seed * 6364136223846793005) + nxB code c) + 462197) := rfl
        first | rw [show nxB code c = ((code.getD c.pos.toNat 0 : Nat) : Int) from if_pos (by omega)] at hs | rw [show nxB code c = 0 from if_neg (by omega)] at hs
        first | exact hs.symm | (exfalso; omega)
      · have hs : (nextC code c).seed = IntKind.u64.wrap (IntKind.u64.wrap (IntKind.u64.wrap (c.seed * 6364136223846793005) + nxB code c) + 462197) := rfl
        first | rw [show nxB code c = ((code.getD c.pos.toNat 0 : Nat) : Int) from if_pos (by omega)] at hs | rw [show nxB code c = 0 from if_neg (by omega)] at hs
        unfold nextV
        rw [if_neg (by omega), hs]
  · intro b4
    try simp only [nrmT] at b4
    refine ⟨?_, ?_, rfl, ?_, ?_⟩
    · omega
    · omega
    · intro b5
      try simp only [nrmT] at b5
      refine ⟨rfl, ?_, ?_, ?_⟩
      · omega
      · have hs : (nextC code c).seed = IntKind.u64.wrap (IntKind.u64.wrap (IntKind.u64.wrap (c.seed * 6364136223846793005) + nxB code c) + 462197) := rfl
        first | rw [show nxB code c = ((code.getD c.pos.toNat 0 : Nat) : Int) from if_pos (by omega)] at hs | rw [show nxB code c = 0 from if_neg (by omega)] at hs
        first | exact hs.symm | (exfalso; omega)
      · omega
    · intro b6
      try simp only [nrmT] at b6
      refine ⟨?_, ?_, ?_, ?_, ?_, rfl, ?_, ?_, ?_⟩
      · exact w64 _
      · omega
      · have := w64 (IntKind.u64.wrap (IntKind.u64.wrap (c.seed * 6364136223846793005) + 0) + 462197)
        generalize IntKind.u64.wrap (IntKind.u64.wrap (IntKind.u64.wrap (c.seed * 6364136223846793005) + 0) + 462197) = z at *
        omega
      · omega
      · have := and255 ((IntKind.u64.wrap (IntKind.u64.wrap (IntKind.u64.wrap (c.seed * 6364136223846793005) + 0) + 462197)) / 2 ^ 40).toNat
        omega
      · first | omega | rfl | (intro hg; simp only [nrmT] at hg; omega) | (intro g1 g2; simp [g1, g2]; done) | (intro g1; simp at g1 ⊢; simp [g1]; done) | (simp only [nrmT] at *; omega) | (simp at * <;> omega) | (simp_all <;> omega) | (simp_all; done)
      · have hs : (nextC code c).seed = IntKind.u64.wrap (IntKind.u64.wrap (IntKind.u64.wrap (c.seed * 6364136223846793005) + nxB code c) + 462197) := rfl
        first | rw [show nxB code c = ((code.getD c.pos.toNat 0 : Nat) : Int) from if_pos (by omega)] at hs | rw [show nxB code c = 0 from if_neg (by omega)] at hs
        first | exact hs.symm | (exfalso; omega)
      · have hs : (nextC code c).seed = IntKind.u64.wrap (IntKind.u64.wrap (IntKind.u64.wrap (c.seed * 6364136223846793005) + nxB code c) + 462197) := rfl
        first | rw [show nxB code c = ((code.getD c.pos.toNat 0 : Nat) : Int) from if_pos (by omega)] at hs | rw [show nxB code c = 0 from if_neg (by omega)] at hs
        unfold nextV
        rw [if_neg (by omega), hs]
theorem s_l1Cur_next_pk (code : List Nat) (c : Cur) (hb : ∀ x9 ∈ code, x9 < 256) (hc : okC c 1000000000000) : PK Try.prog 195 98 (.sl (.bytes code)) [.int .i64 c.pos, .int .u64 c.seed] [.int .i64 (nextC code c).pos, .int .u64 (nextC code c).seed] [] (.one (.d (.int .i64 (nextV code c)))) :=
  pk_by (Q := fun u => s_l1Cur_next_P u code c) (by kernel_rfl) Try.func195 @Try.call195 (by kernel_rfl) s_l1Cur_next_C (fun u => s_l1Cur_next_A u code c) (by kernel_rfl) (fun u => s_l1Cur_next_vc u code c hb hc) (fun u => by kernel_rfl)
def pickC (code : List Nat) (c : Cur) (n : Int) : Cur := if n ≤ 1 then c else if n > 200 then nextC code (nextC code c) else nextC code c
def pickV (code : List Nat) (c : Cur) (n : Int) : Int := if n ≤ 1 then 0 else (if n > 200 then nextV code c * 256 + nextV code (nextC code c) else nextV code c) % n
theorem ok_pick {code : List Nat} {c : Cur} {n b : Int} (h : okC c b) : okC (pickC code c n) (b + 2) := by
  unfold pickC
  split
  · exact okC_le h (by omega)
  · split
    · have := ok_next (code := code) (ok_next (code := code) h)
      exact okC_le this (by omega)
    · exact okC_le (ok_next h) (by omega)
theorem pickV_in (code : List Nat) (c : Cur) {n : Int} (hn : 1 ≤ n) : 0 ≤ pickV code c n ∧ pickV code c n < n := by
  unfold pickV
  split
  · omega
  · exact ⟨Int.emod_nonneg _ (by omega), Int.emod_lt_of_pos _ (by omega)⟩
theorem pickV_le (code : List Nat) (c : Cur) (n : Int) : 0 ≤ pickV code c n := by
  by_cases h : 1 ≤ n
  · exact (pickV_in code c h).1
  · unfold pickV; rw [if_pos (by omega)]; omega
def s_l1Cur_pick_C (f : FuncId) (ds : List D) : Orc := .no
def s_l1Cur_pick_A (u : Value) (code : List Nat) (c : Cur) (n : Int) : Ann := .two (.none) (.two (.none) (.two (.mark [] [(1, .cell [.int .i64 ((nextC code c).pos), .int .u64 ((nextC code c).seed)] (.one (.d (.int .i64 (nextV code c)))))]) (.two (.two (.none) (.two (.mark [] [(3, .cell [.int .i64 ((nextC code (nextC code c)).pos), .int .u64 ((nextC code (nextC code c)).seed)] (.one (.d (.int .i64 (nextV code (nextC code c))))))]) (.none))) (.none))))
def s_l1Cur_pick_P (u : Value) (code : List Nat) (c : Cur) (n : Int) : Prop :=
  (((decide (n ≤ 1)) = true → (((.lit u (.sl (.bytes code)) : D) = .lit u (.sl (.bytes code))) ∧ (c.pos = (pickC code c n).pos) ∧ (c.seed = (pickC code c n).seed) ∧ ((0 : Int) = (pickV code c n)))) ∧ ((decide (n ≤ 1)) = false → (PK Try.prog 195 98 (.sl (.bytes code)) [.int .i64 c.pos, .int .u64 c.seed] [.int .i64 ((nextC code c).pos), .int .u64 ((nextC code c).seed)] [] (.one (.d (.int .i64 (nextV code c))))) ∧ (((decide (n > 200)) = true → (-9223372036854775808 ≤ ((nextV code c) * 256) ∧ ((nextV code c) * 256) ≤ 9223372036854775807) ∧ (PK Try.prog 195 98 (.sl (.bytes code)) [.int .i64 ((nextC code c).pos), .int .u64 ((nextC code c).seed)] [.int .i64 ((nextC code (nextC code c)).pos), .int .u64 ((nextC code (nextC code c)).seed)] [] (.one (.d (.int .i64 (nextV code (nextC code c)))))) ∧ (-9223372036854775808 ≤ (((nextV code c) * 256) + (nextV code (nextC code c))) ∧ (((nextV code c) * 256) + (nextV code (nextC code c))) ≤ 9223372036854775807) ∧ ((0 : Int) ≤ (((nextV code c) * 256) + (nextV code (nextC code c)))) ∧ ((1 : Int) ≤ n) ∧ (((.lit u (.sl (.bytes code)) : D) = .lit u (.sl (.bytes code))) ∧ ((nextC code (nextC code c)).pos = (pickC code c n).pos) ∧ ((nextC code (nextC code c)).seed = (pickC code c n).seed) ∧ (((((nextV code c) * 256) + (nextV code (nextC code c))) % n) = (pickV code c n)))) ∧ ((decide (n > 200)) = false → ((0 : Int) ≤ (nextV code c)) ∧ ((1 : Int) ≤ n) ∧ (((.lit u (.sl (.bytes code)) : D) = .lit u (.sl (.bytes code))) ∧ ((nextC code c).pos = (pickC code c n).pos) ∧ ((nextC code c).seed = (pickC code c n).seed) ∧ (((nextV code c) % n) = (pickV code c n)))))))
theorem s_l1Cur_pick_vc (u : Value) (code : List Nat) (c : Cur) (n : Int) (hb : ∀ x9 ∈ code, x9 < 256) (hc : okC c 900000000000)  : s_l1Cur_pick_P u code c n := by
  unfold s_l1Cur_pick_P
  refine ⟨?_, ?_⟩
  · intro b1
    try simp only [nrmT] at b1
    refine ⟨rfl, ?_, ?_, ?_⟩
    · unfold pickC; first | rw [if_pos (by omega)] | rw [if_neg (by omega), if_pos (by omega)] | rw [if_neg (by omega), if_neg (by omega)]
    · unfold pickC; first | rw [if_pos (by omega)] | rw [if_neg (by omega), if_pos (by omega)] | rw [if_neg (by omega), if_neg (by omega)]
    · unfold pickV; first | rw [if_pos (by omega)] | rw [if_neg (by omega), if_pos (by omega)] | rw [if_neg (by omega), if_neg (by omega)]
  · intro b2
    try simp only [nrmT] at b2
    refine ⟨?_, ?_, ?_⟩
    · refine s_l1Cur_next_pk code c ?_ ?_
      · exact hb
      · exact okC_le (by repeat (first | assumption | apply ok_pick | apply ok_next)) (by omega)
    · intro b3
      try simp only [nrmT] at b3
      refine ⟨?_, ?_, ?_, ?_, ?_, rfl, ?_, ?_, ?_⟩
      · have q0 := nextV_in hb (c := c) hc.1
        have q1 := nextV_in hb (c := nextC code c) (ok_next hc).1
        omega
      · refine s_l1Cur_next_pk code (nextC code c) ?_ ?_
        · exact hb
        · exact okC_le (by repeat (first | assumption | apply ok_pick | apply ok_next)) (by omega)
      · have q0 := nextV_in hb (c := c) hc.1
        have q1 := nextV_in hb (c := nextC code c) (ok_next hc).1
        omega
      · have q0 := nextV_in hb (c := c) hc.1
        have q1 := nextV_in hb (c := nextC code c) (ok_next hc).1
        omega
      · omega
      · unfold pickC; first | rw [if_pos (by omega)] | rw [if_neg (by omega), if_pos (by omega)] | rw [if_neg (by omega), if_neg (by omega)]
      · unfold pickC; first | rw [if_pos (by omega)] | rw [if_neg (by omega), if_pos (by omega)] | rw [if_neg (by omega), if_neg (by omega)]
      · unfold pickV; first | rw [if_pos (by omega)] | rw [if_neg (by omega), if_pos (by omega)] | rw [if_neg (by omega), if_neg (by omega)]
    · intro b4
      try simp only [nrmT] at b4
      refine ⟨?_, ?_, rfl, ?_, ?_, ?_⟩
      · have q0 := nextV_in hb (c := c) hc.1
        have q1 := nextV_in hb (c := nextC code c) (ok_next hc).1
        omega
      · omega
      · unfold pickC; first | rw [if_pos (by omega)] | rw [if_neg (by omega), if_pos (by omega)] | rw [if_neg (by omega), if_neg (by omega)]
      · unfold pickC; first | rw [if_pos (by omega)] | rw [if_neg (by omega), if_pos (by omega)] | rw [if_neg (by omega), if_neg (by omega)]
      · unfold pickV; first | rw [if_pos (by omega)] | rw [if_neg (by omega), if_pos (by omega)] | rw [if_neg (by omega), if_neg (by omega)]
theorem s_l1Cur_pick_pk (code : List Nat) (c : Cur) (n : Int) (hb : ∀ x9 ∈ code, x9 < 256) (hc : okC c 900000000000) : PK Try.prog 107 98 (.sl (.bytes code)) [.int .i64 c.pos, .int .u64 c.seed] [.int .i64 (pickC code c n).pos, .int .u64 (pickC code c n).seed] [.int .i64 n] (.one (.d (.int .i64 (pickV code c n)))) :=
  pk_by (Q := fun u => s_l1Cur_pick_P u code c n) (by kernel_rfl) Try.func107 @Try.call107 (by kernel_rfl) s_l1Cur_pick_C (fun u => s_l1Cur_pick_A u code c n) (by kernel_rfl) (fun u => s_l1Cur_pick_vc u code c n hb hc) (fun u => by kernel_rfl)
def s_l1Cur_among_C (f : FuncId) (ds : List D) : Orc := .no
def s_l1Cur_among_A (u : Value) (code : List Nat) (c : Cur) (list : List Int) : Ann := .two (.none) (.two (.mark [] [(4, .cell [.int .i64 ((pickC code c (list.length : Int)).pos), .int .u64 ((pickC code c (list.length : Int)).seed)] (.one (.d (.int .i64 (pickV code c (list.length : Int))))))]) (.none))
def s_l1Cur_among_P (u : Value) (code : List Nat) (c : Cur) (list : List Int) : Prop :=
  (PK Try.prog 107 98 (.sl (.bytes code)) [.int .i64 c.pos, .int .u64 c.seed] [.int .i64 ((pickC code c (list.length : Int)).pos), .int .u64 ((pickC code c (list.length : Int)).seed)] [.int .i64 (list.length : Int)] (.one (.d (.int .i64 (pickV code c (list.length : Int)))))) ∧ ((0 : Int) ≤ (pickV code c (list.length : Int))) ∧ (((pickV code c (list.length : Int)) : Int) < list.length) ∧ ((pickV code c (list.length : Int)).toNat < list.length) ∧ (((.lit u (.sl (.bytes code)) : D) = .lit u (.sl (.bytes code))) ∧ ((pickC code c (list.length : Int)).pos = (pickC code c (list.length : Int)).pos) ∧ ((pickC code c (list.length : Int)).seed = (pickC code c (list.length : Int)).seed) ∧ ((list.getD ((pickV code c (list.length : Int)).toNat) 0) = (list.getD (pickV code c (list.length : Int)).toNat 0)))
theorem s_l1Cur_among_vc (u : Value) (code : List Nat) (c : Cur) (list : List Int) (hb : ∀ x9 ∈ code, x9 < 256) (hc : okC c 800000000000) (hl : 0 < list.length)  : s_l1Cur_among_P u code c list := by
  unfold s_l1Cur_among_P
  refine ⟨?_, ?_, ?_, ?_, rfl, rfl, rfl, ?_⟩
  · refine s_l1Cur_pick_pk code c (list.length : Int) ?_ ?_
    · exact hb
    · exact okC_le (by repeat (first | assumption | apply ok_pick | apply ok_next)) (by omega)
  · have := pickV_in code c (n := (list.length : Int)) (by omega)
    omega
  · have := pickV_in code c (n := (list.length : Int)) (by omega)
    omega
  · have := pickV_in code c (n := (list.length : Int)) (by omega)
    omega
  · have := pickV_in code c (n := (list.length : Int)) (by omega)
    omega
theorem s_l1Cur_among_pk (code : List Nat) (c : Cur) (list : List Int) (hb : ∀ x9 ∈ code, x9 < 256) (hc : okC c 800000000000) (hl : 0 < list.length) : PK Try.prog 106 98 (.sl (.bytes code)) [.int .i64 c.pos, .int .u64 c.seed] [.int .i64 (pickC code c (list.length : Int)).pos, .int .u64 (pickC code c (list.length : Int)).seed] [.sl (.ints list)] (.one (.d (.int .i64 (list.getD (pickV code c (list.length : Int)).toNat 0)))) :=
  pk_by (Q := fun u => s_l1Cur_among_P u code c list) (by kernel_rfl) Try.func106 @Try.call106 (by kernel_rfl) s_l1Cur_among_C (fun u => s_l1Cur_among_A u code c list) (by kernel_rfl) (fun u => s_l1Cur_among_vc u code c list hb hc hl) (fun u => by kernel_rfl)
def s_l1Cur_one_C (f : FuncId) (ds : List D) : Orc := .no
def s_l1Cur_one_A (u : Value) (code : List Nat) (c : Cur) (n : Int) : Ann := .two (.none) (.two (.mark [] [(2, .cell [.int .i64 ((pickC code c n).pos), .int .u64 ((pickC code c n).seed)] (.one (.d (.int .i64 (pickV code c n)))))]) (.none))
def s_l1Cur_one_P (u : Value) (code : List Nat) (c : Cur) (n : Int) : Prop :=
  (PK Try.prog 107 98 (.sl (.bytes code)) [.int .i64 c.pos, .int .u64 c.seed] [.int .i64 ((pickC code c n).pos), .int .u64 ((pickC code c n).seed)] [.int .i64 n] (.one (.d (.int .i64 (pickV code c n))))) ∧ (((.lit u (.sl (.bytes code)) : D) = .lit u (.sl (.bytes code))) ∧ ((pickC code c n).pos = (pickC code c n).pos) ∧ ((pickC code c n).seed = (pickC code c n).seed) ∧ (((pickV code c n) == 0) = (pickV code c n == 0)))
theorem s_l1Cur_one_vc (u : Value) (code : List Nat) (c : Cur) (n : Int) (hb : ∀ x9 ∈ code, x9 < 256) (hc : okC c 800000000000)  : s_l1Cur_one_P u code c n := by
  unfold s_l1Cur_one_P
  refine ⟨?_, rfl, rfl, rfl, ?_⟩
  · refine s_l1Cur_pick_pk code c n ?_ ?_
    · exact hb
    · exact okC_le (by repeat (first | assumption | apply ok_pick | apply ok_next)) (by omega)
  · first | omega | rfl | (intro hg; simp only [nrmT] at hg; omega) | (intro g1 g2; simp [g1, g2]; done) | (intro g1; simp at g1 ⊢; simp [g1]; done) | (simp only [nrmT] at *; omega) | (simp at * <;> omega) | (simp_all <;> omega) | (simp_all; done)
theorem s_l1Cur_one_pk (code : List Nat) (c : Cur) (n : Int) (hb : ∀ x9 ∈ code, x9 < 256) (hc : okC c 800000000000) : PK Try.prog 108 98 (.sl (.bytes code)) [.int .i64 c.pos, .int .u64 c.seed] [.int .i64 (pickC code c n).pos, .int .u64 (pickC code c n).seed] [.int .i64 n] (.one (.d (.bool (pickV code c n == 0)))) :=
  pk_by (Q := fun u => s_l1Cur_one_P u code c n) (by kernel_rfl) Try.func108 @Try.call108 (by kernel_rfl) s_l1Cur_one_C (fun u => s_l1Cur_one_A u code c n) (by kernel_rfl) (fun u => s_l1Cur_one_vc u code c n hb hc) (fun u => by kernel_rfl)
theorem okC0 : okC cur0 0 := by unfold okC; decide
theorem pick_mem (l : List Int) (code : List Nat) (c : Cur) (h : 0 < l.length) : l.getD (pickV code c (l.length : Int)).toNat 0 ∈ l := by
  have := pickV_in code c (n := (l.length : Int)) (by omega)
  exact getD_mem (by omega)
def l_rBig_C (f : FuncId) (ds : List D) : Orc := .no
def l_rBig_A (code : List Nat) : Ann := .none
def l_rBig_P (code : List Nat) : Prop :=
  (((decide ((code.length : Int) > 65536)) = (decide ((code.length : Int) > 65536))))
theorem l_rBig_vc (code : List Nat)  (w_code : (code.length : Int) ≤ 9223372036854775807) : l_rBig_P code := by
  unfold l_rBig_P
  exact rfl
theorem l_rBig_pc (code : List Nat)  : PC Try.prog 14 [.sl (.bytes code)] (.one (.d (.bool (decide ((code.length : Int) > 65536))))) :=
  pc_wf @Try.call14 fun hw => pc_by (by kernel_rfl) Try.func14 @Try.call14 (by kernel_rfl) l_rBig_C (l_rBig_A code) (by kernel_rfl) (l_rBig_vc code hw.1) (by kernel_rfl)
def l_rBig_orc : List D → Orc := orcN [some .bytes] fun ds => match ds with
  | [.sl (.bytes code)] => some (.one (.d (.bool (decide ((code.length : Int) > 65536)))))
  | _ => none
abbrev l_rInts_JJ0 (xs : List Int) (ys : List Int) (i : Int) : Prop := (0 ≤ i) ∧ (i ≤ (xs.length : Int)) ∧ (allTo (fun k => xs.getD k 0 == ys.getD k 0) i.toNat = true) ∧ (xs.length = ys.length)
abbrev l_rInts_mJ0 (xs : List Int) (ys : List Int) (i : Int) : Nat := (xs.length - i).toNat
def l_rInts_C (f : FuncId) (ds : List D) : Orc := .no
def l_rInts_A (xs : List Int) (ys : List Int) : Ann := .two (.none) (.two (.none) (.two (.two (.none) (.loop (cut1 (fun (i : Int) => l_rInts_JJ0 xs ys i) (fun (i : Int) => [(0, .d false (.sl (.ints xs))), (1, .d false (.sl (.ints ys))), (5, .d true (.int .i64 i))]) (fun (i : Int) => [])) (fun g => l_rInts_mJ0 xs ys g) (fun _ => .none))) (.none)))
def l_rInts_P (xs : List Int) (ys : List Int) : Prop :=
  ((((xs.length : Int) != (ys.length : Int)) = true → ((false = (xs == ys)))) ∧ (((xs.length : Int) != (ys.length : Int)) = false → ((∃ i' : Int, (l_rInts_JJ0 xs ys i') ∧ (xs = xs) ∧ (ys = ys) ∧ ((0 : Int) = i')) ∧ (∀ i : Int, (l_rInts_JJ0 xs ys i) → (((decide (i < (xs.length : Int))) = true → (true = true) ∧ ((0 : Int) ≤ i) ∧ ((i : Int) < xs.length) ∧ (i.toNat < xs.length) ∧ ((0 : Int) ≤ i) ∧ ((i : Int) < ys.length) ∧ (i.toNat < ys.length) ∧ ((((xs.getD i.toNat 0) != (ys.getD i.toNat 0)) = true → ((false = (xs == ys)))) ∧ (((xs.getD i.toNat 0) != (ys.getD i.toNat 0)) = false → (-9223372036854775808 ≤ (i + 1) ∧ (i + 1) ≤ 9223372036854775807) ∧ (∃ i' : Int, (l_rInts_JJ0 xs ys i') ∧ (l_rInts_mJ0 xs ys i' < l_rInts_mJ0 xs ys i) ∧ (xs = xs) ∧ (ys = ys) ∧ ((i + 1) = i'))))) ∧ ((decide (i < (xs.length : Int))) = false → ((true = (xs == ys)))))))))
theorem l_rInts_vc (xs : List Int) (ys : List Int)  (w_xs : (xs.length : Int) ≤ 9223372036854775807) (w_ys : (ys.length : Int) ≤ 9223372036854775807) : l_rInts_P xs ys := by
  unfold l_rInts_P
  refine ⟨?_, ?_⟩
  · intro b1
    try simp only [nrmT] at b1
    exact (len_ne (by omega)).symm
  · intro b2
    try simp only [nrmT] at b2
    refine ⟨?_, ?_⟩
    · refine ⟨0, ?_⟩
      refine ⟨?_, rfl, rfl, rfl⟩
      · refine ⟨?_, ?_, ?_, ?_⟩
        · omega
        · omega
        · first | omega | rfl | (intro hg; simp only [nrmT] at hg; omega) | (intro g1 g2; simp [g1, g2]; done) | (intro g1; simp at g1 ⊢; simp [g1]; done) | (simp only [nrmT] at *; omega) | (simp at * <;> omega) | (simp_all <;> omega) | (simp_all; done)
        · omega
    · intro i hJ
      obtain ⟨h1, h2, h3, h4⟩ := hJ
      refine ⟨?_, ?_⟩
      · intro b3
        try simp only [nrmT] at b3
        refine ⟨rfl, ?_, ?_, ?_, ?_, ?_, ?_, ?_, ?_⟩
        · omega
        · omega
        · omega
        · omega
        · omega
        · omega
        · intro b4
          try simp only [nrmT] at b4
          rw [← beq_of_all (d := 0) h4]; exact (allTo_falseI h1 (by omega) (by simpa using b4)).symm
        · intro b5
          try simp only [nrmT] at b5
          refine ⟨?_, ?_⟩
          · omega
          · refine ⟨(i + 1), ?_⟩
            refine ⟨?_, ?_, rfl, rfl, rfl⟩
            · refine ⟨?_, ?_, ?_, ?_⟩
              · omega
              · omega
              · exact allTo_step h1 h3 (by simpa using b5)
              · omega
            · first | (show _ < _; omega) | (simp only [l_rInts_mJ0]; omega) | (simp only [l_rInts_mJ0] at *; simp at *; omega)
      · intro b6
        try simp only [nrmT] at b6
        rw [← beq_of_all (d := 0) h4, ← h3]; congr 1; omega
theorem l_rInts_pc (xs : List Int) (ys : List Int)  : PC Try.prog 18 [.sl (.ints xs), .sl (.ints ys)] (.one (.d (.bool (xs == ys)))) :=
  pc_wf @Try.call18 fun hw => pc_by (by kernel_rfl) Try.func18 @Try.call18 (by kernel_rfl) l_rInts_C (l_rInts_A xs ys) (by kernel_rfl) (l_rInts_vc xs ys hw.1 hw.2.1) (by kernel_rfl)
def l_rInts_orc : List D → Orc := orcN [some .ints, some .ints] fun ds => match ds with
  | [.sl (.ints xs), .sl (.ints ys)] => some (.one (.d (.bool (xs == ys))))
  | _ => none
abbrev s_l2Bits_own_JJ0 (n : Int) (code : Int) (out : List Int) (x : Int) : Prop := (0 ≤ x) ∧ (x ≤ n) ∧ (out = members (fun k => code.toNat.testBit k) x.toNat)
abbrev s_l2Bits_own_mJ0 (n : Int) (code : Int) (out : List Int) (x : Int) : Nat := (n - x).toNat
def s_l2Bits_own_C (f : FuncId) (ds : List D) : Orc := .no
def s_l2Bits_own_A (n : Int) (code : Int) : Ann := .two (.none) (.two (.none) (.two (.two (.none) (.loop (cut2 (fun (out : List Int) (x : Int) => s_l2Bits_own_JJ0 n code out x) (fun (out : List Int) (x : Int) => [(0, .d false (.int .i64 n)), (1, .d false (.int .i64 code)), (5, .own 1000000 out.length), (6, .d true (.int .i64 x))]) (fun (out : List Int) (x : Int) => [(1000000, .arr true 3 (.ints out))])) (fun g => s_l2Bits_own_mJ0 n code g.1 g.2) (fun _ => .none))) (.none)))
def s_l2Bits_own_P (n : Int) (code : Int) : Prop :=
  ((∃ out' : List Int, ∃ x' : Int, (s_l2Bits_own_JJ0 n code out' x') ∧ (n = n) ∧ (code = code) ∧ ((0 : Nat) = out'.length) ∧ ((0 : Int) = x') ∧ ([] = out')) ∧ (∀ out : List Int, ∀ x : Int, (s_l2Bits_own_JJ0 n code out x) → (((decide (x < n)) = true → ((0 : Int) ≤ code ∧ (code : Int) ≤ 9223372036854775807) ∧ ((0 : Int) ≤ x) ∧ ((0 : Int) ≤ (code / 2 ^ x.toNat) ∧ ((code / 2 ^ x.toNat) : Int) ≤ 9223372036854775807) ∧ ((0 : Int) ≤ 1 ∧ (1 : Int) ≤ 9223372036854775807) ∧ ((((((code / 2 ^ x.toNat).toNat &&& 1 : Nat) : Int) == 1) = true → (out.length = out.length) ∧ ((1 : Nat) = 1) ∧ ((out.length + 1) * 8 ≤ 140737488355328) ∧ (-9223372036854775808 ≤ (x + 1) ∧ (x + 1) ≤ 9223372036854775807) ∧ (∃ out' : List Int, ∃ x' : Int, (s_l2Bits_own_JJ0 n code out' x') ∧ (s_l2Bits_own_mJ0 n code out' x' < s_l2Bits_own_mJ0 n code out x) ∧ (n = n) ∧ (code = code) ∧ ((out.length + 1) = out'.length) ∧ ((x + 1) = x') ∧ ((out ++ [x]) = out'))) ∧ (((((code / 2 ^ x.toNat).toNat &&& 1 : Nat) : Int) == 1) = false → (-9223372036854775808 ≤ (x + 1) ∧ (x + 1) ≤ 9223372036854775807) ∧ (∃ out' : List Int, ∃ x' : Int, (s_l2Bits_own_JJ0 n code out' x') ∧ (s_l2Bits_own_mJ0 n code out' x' < s_l2Bits_own_mJ0 n code out x) ∧ (n = n) ∧ (code = code) ∧ (out.length = out'.length) ∧ ((x + 1) = x') ∧ (out = out'))))) ∧ ((decide (x < n)) = false → ((out.length = out.length) ∧ ((out : List Int) = members (fun k => code.toNat.testBit k) n.toNat))))))
theorem s_l2Bits_own_vc (n : Int) (code : Int) (hn : 0 ≤ n ∧ n ≤ 62) (hc : 0 ≤ code ∧ code ≤ 4611686018427387903)  : s_l2Bits_own_P n code := by
  unfold s_l2Bits_own_P
  refine ⟨?_, ?_⟩
  · refine ⟨([]), 0, ?_⟩
    refine ⟨?_, rfl, rfl, rfl, rfl, ?_⟩
    · refine ⟨?_, ?_, ?_⟩
      · omega
      · omega
      · first | omega | rfl | (intro hg; simp only [nrmT] at hg; omega) | (intro g1 g2; simp [g1, g2]; done) | (intro g1; simp at g1 ⊢; simp [g1]; done) | (simp only [nrmT] at *; omega) | (simp at * <;> omega) | (simp_all <;> omega) | (simp_all; done)
    · first | omega | rfl | (intro hg; simp only [nrmT] at hg; omega) | (intro g1 g2; simp [g1, g2]; done) | (intro g1; simp at g1 ⊢; simp [g1]; done) | (simp only [nrmT] at *; omega) | (simp at * <;> omega) | (simp_all <;> omega) | (simp_all; done)
  · intro out x hJ
    obtain ⟨h1, h2, h3⟩ := hJ
    refine ⟨?_, ?_⟩
    · intro b1
      try simp only [nrmT] at b1
      refine ⟨?_, ?_, ?_, ?_, ?_, ?_⟩
      · omega
      · omega
      · have h5 : 0 ≤ code / 2 ^ x.toNat := Int.ediv_nonneg hc.1 (Int.le_of_lt (Int.pow_pos (by omega)))
        have h6 : code / 2 ^ x.toNat ≤ code := Int.ediv_le_self _ hc.1
        omega
      · omega
      · intro b2
        try simp only [nrmT] at b2
        refine ⟨rfl, rfl, ?_, ?_, ?_⟩
        · rw [h3]; have := members_len_le (fun k => code.toNat.testBit k) x.toNat; omega
        · omega
        · refine ⟨(out ++ [x]), (x + 1), ?_⟩
          refine ⟨?_, ?_, rfl, rfl, ?_, rfl, rfl⟩
          · refine ⟨?_, ?_, ?_⟩
            · omega
            · omega
            · have hb := shr_bit (n := code.toNat) (k := x.toNat)
              rw [show ((code.toNat : Nat) : Int) = code by omega] at hb
              have ht : code.toNat.testBit x.toNat = true := by
                cases h : code.toNat.testBit x.toNat with
                | true => rfl
                | false => rw [h] at hb; simp at hb; simp at b2; omega
              rw [h3, show (x + 1).toNat = x.toNat + 1 by omega, members_succ, if_pos ht, show ((x.toNat : Nat) : Int) = x by omega]
          · first | (show _ < _; omega) | (simp only [s_l2Bits_own_mJ0]; omega) | (simp only [s_l2Bits_own_mJ0] at *; simp at *; omega)
          · simp
      · intro b3
        try simp only [nrmT] at b3
        refine ⟨?_, ?_⟩
        · omega
        · refine ⟨out, (x + 1), ?_⟩
          refine ⟨?_, ?_, rfl, rfl, rfl, rfl, rfl⟩
          · refine ⟨?_, ?_, ?_⟩
            · omega
            · omega
            · have hb := shr_bit (n := code.toNat) (k := x.toNat)
              rw [show ((code.toNat : Nat) : Int) = code by omega] at hb
              have ht : code.toNat.testBit x.toNat = false := by
                cases h : code.toNat.testBit x.toNat with
                | false => rfl
                | true => rw [h] at hb; simp at hb; simp at b3; omega
              rw [h3, show (x + 1).toNat = x.toNat + 1 by omega, members_succ, ht]; simp
          · first | (show _ < _; omega) | (simp only [s_l2Bits_own_mJ0]; omega) | (simp only [s_l2Bits_own_mJ0] at *; simp at *; omega)
    · intro b4
      try simp only [nrmT] at b4
      refine ⟨rfl, ?_⟩
      · rw [h3, show x.toNat = n.toNat by omega]
theorem s_l2Bits_own_pc (n : Int) (code : Int) (hn : 0 ≤ n ∧ n ≤ 62) (hc : 0 ≤ code ∧ code ≤ 4611686018427387903) : PC Try.prog 164 [.int .i64 n, .int .i64 code] (.one (.own 3 (.ints (members (fun k => code.toNat.testBit k) n.toNat)))) :=
  pc_wf @Try.call164 fun _ => pc_by (by kernel_rfl) Try.func164 @Try.call164 (by kernel_rfl) s_l2Bits_own_C (s_l2Bits_own_A n code) (by kernel_rfl) (s_l2Bits_own_vc n code hn hc) (by kernel_rfl)
def sySz (code : List Nat) (c : Cur) : Int := ([5, 4, 6, 3, 8, 2, 1, 0] : List Int).getD (pickV code c 8).toNat 0
def syN (code : List Nat) (c : Cur) : Int := ([4, 5, 3, 6, 8, 2, 1, 0] : List Int).getD (pickV code (pickC code c 8) 8).toNat 0
def syBit (code : List Nat) (c : Cur) : Int := (((pickV code c 256).toNat &&& ((((pickV code (pickC code c 256) 256).toNat ||| (([0, 255] : List Int).getD (pickV code (pickC code (pickC code c 256) 256) 2).toNat 0).toNat : Nat) : Int)).toNat : Nat) : Int)
def syC3 (code : List Nat) (c : Cur) : Cur := pickC code (pickC code (pickC code c 256) 256) 2
def syF (code : List Nat) (sz : Int) (s : List (List Int) × List Int × Cur) (_ : Nat) : List (List Int) × List Int × Cur :=
  (s.1 ++ [members (fun k => (syBit code s.2.2).toNat.testBit k) sz.toNat], s.2.1 ++ [([1, 1, 2, 3, 5, 8] : List Int).getD (pickV code (syC3 code s.2.2) 6).toNat 0], pickC code (syC3 code s.2.2) 6)
def syTo (code : List Nat) (c : Cur) (k : Nat) : List (List Int) × List Int × Cur := foldTo (syF code (sySz code c)) ([], [], pickC code (pickC code c 8) 8) k
theorem syTo_succ (code : List Nat) (c : Cur) (k : Nat) : syTo code c (k + 1) = syF code (sySz code c) (syTo code c k) k := rfl
def syE (code : List Nat) (c : Cur) : List (List Int) × List Int × Cur := syTo code c (syN code c).toNat
theorem sySz_in (code : List Nat) (c : Cur) : 0 ≤ sySz code c ∧ sySz code c ≤ 8 := by
  have h := pick_mem [5, 4, 6, 3, 8, 2, 1, 0] code c (by simp)
  unfold sySz
  simp only [List.length_cons, List.length_nil] at h
  revert h
  generalize ([5, 4, 6, 3, 8, 2, 1, 0] : List Int).getD _ 0 = z
  intro h
  simp at h
  omega
theorem syN_in (code : List Nat) (c : Cur) : 0 ≤ syN code c ∧ syN code c ≤ 8 := by
  have h := pick_mem [4, 5, 3, 6, 8, 2, 1, 0] code (pickC code c 8) (by simp)
  unfold syN
  simp only [List.length_cons, List.length_nil] at h
  revert h
  generalize ([4, 5, 3, 6, 8, 2, 1, 0] : List Int).getD _ 0 = z
  intro h
  simp at h
  omega
theorem syTo_ok (code : List Nat) {c : Cur} {b : Int} (h : okC c b) : ∀ k, okC (syTo code c k).2.2 (b + 4 + 8 * k) ∧ (syTo code c k).1.length = k ∧ (syTo code c k).2.1.length = k
  | 0 => ⟨okC_le (ok_pick (ok_pick h)) (by omega), rfl, rfl⟩
  | k + 1 => by
    obtain ⟨h1, h2, h3⟩ := syTo_ok code h k
    rw [syTo_succ]
    refine ⟨okC_le (ok_pick (ok_pick (ok_pick (ok_pick h1)))) (by omega), ?_, ?_⟩
    · unfold syF; simp [h2]
    · unfold syF; simp [h3]
def syI (code : List Nat) (c : Cur) : Int := pickV code (syE code c).2.2 (syN code c)
def syC1 (code : List Nat) (c : Cur) : Cur := pickC code (syE code c).2.2 (syN code c)
def syW (code : List Nat) (c : Cur) : Int := pickV code (syC1 code c) 40
def syC2 (code : List Nat) (c : Cur) : Cur := pickC code (syC1 code c) 40
def sysZ (code : List Nat) (c : Cur) : Int := if 0 < syN code c ∧ syW code c = 0 then ([-1, 8, 9, 4611686018427387904] : List Int).getD (pickV code (syC2 code c) 4).toNat 0 else sySz code c
def sysS (code : List Nat) (c : Cur) : List (List Int) := if 0 < syN code c ∧ syW code c = 1 then (syE code c).1.set (syI code c).toNat ((syE code c).1.getD (syI code c).toNat [] ++ [([-1, 0, sySz code c] : List Int).getD (pickV code (syC2 code c) 3).toNat 0])
  else if 0 < syN code c ∧ syW code c = 4 then (syE code c).1 ++ List.replicate (9 - (syN code c).toNat) [] else (syE code c).1
def sysK (code : List Nat) (c : Cur) : List Int := if 0 < syN code c ∧ syW code c = 2 then (syE code c).2.1.set (syI code c).toNat (([0, -1, 99, 100] : List Int).getD (pickV code (syC2 code c) 4).toNat 0)
  else if 0 < syN code c ∧ syW code c = 3 then (syE code c).2.1 ++ [1] else if 0 < syN code c ∧ syW code c = 4 then (syE code c).2.1 ++ List.replicate (9 - (syN code c).toNat) 1 else (syE code c).2.1
def sysC (code : List Nat) (c : Cur) : Cur := if syN code c ≤ 0 then (syE code c).2.2 else if syW code c = 0 ∨ syW code c = 2 then pickC code (syC2 code c) 4 else if syW code c = 1 then pickC code (syC2 code c) 3 else syC2 code c
theorem ok_sys {code : List Nat} {c : Cur} {b : Int} (h : okC c b) : okC (sysC code c) (b + 90) := by
  have h1 := (syTo_ok code h (syN code c).toNat).1
  have h2 := syN_in code c
  have h3 : okC (syE code c).2.2 (b + 68) := okC_le h1 (by omega)
  have h4 : okC (syC2 code c) (b + 72) := okC_le (ok_pick (ok_pick h3)) (by omega)
  unfold sysC
  split
  · exact okC_le h3 (by omega)
  · split
    · exact okC_le (ok_pick h4) (by omega)
    · split
      · exact okC_le (ok_pick h4) (by omega)
      · exact okC_le h4 (by omega)
theorem syE_len (code : List Nat) {c : Cur} {b : Int} (h : okC c b) : (syE code c).1.length = (syN code c).toNat ∧ (syE code c).2.1.length = (syN code c).toNat := (syTo_ok code h _).2
theorem syTo_row (code : List Nat) (c : Cur) : ∀ k, ∀ s ∈ (syTo code c k).1, s.length ≤ 8
  | 0 => fun s hs => by cases hs
  | k + 1 => fun s hs => by
    rw [syTo_succ] at hs
    rcases List.mem_append.1 hs with hs | hs
    · exact syTo_row code c k s hs
    · rw [List.mem_singleton.1 hs]
      have h1 := members_len_le (fun j => (syBit code (syTo code c k).2.2).toNat.testBit j) (sySz code c).toNat
      have h2 := sySz_in code c
      omega
theorem pick255 (code : List Nat) (c : Cur) : 0 ≤ ([0, 255] : List Int).getD (pickV code c (([0, 255] : List Int).length : Int)).toNat 0 ∧ ([0, 255] : List Int).getD (pickV code c (([0, 255] : List Int).length : Int)).toNat 0 ≤ 255 := by
  have h := pick_mem [0, 255] code c (by simp)
  revert h
  generalize ([0, 255] : List Int).getD _ 0 = z
  intro h
  simp at h
  omega
theorem or256 {a b : Int} (ha : 0 ≤ a ∧ a < 256) (hb : 0 ≤ b ∧ b ≤ 255) : ((a.toNat ||| b.toNat : Nat) : Int) < 256 := by
  have h := Nat.or_lt_two_pow (n := 8) (x := a.toNat) (y := b.toNat) (by omega) (by omega)
  have he : (2 : Nat) ^ 8 = 256 := by decide
  omega
theorem and256 {a : Int} {n : Nat} (ha : 0 ≤ a ∧ a < 256) : ((a.toNat &&& n : Nat) : Int) < 256 := by
  have h := Nat.and_le_left (n := a.toNat) (m := n)
  omega
theorem agg3 {a a' : Int} {b b' : List (List Int)} {c c' : List Int} (h1 : a = a') (h2 : b = b') (h3 : c = c') : (D.agg [.int .i64 a, .sl (.rows b), .sl (.ints c)] : D) = .agg [.int .i64 a', .sl (.rows b'), .sl (.ints c')] := by rw [h1, h2, h3]
theorem rep_app {α : Type} {l : List α} {k : Nat} {x : α} : l ++ List.replicate k x ++ [x] = l ++ List.replicate (k + 1) x := by
  rw [List.append_assoc, ← List.replicate_succ']
abbrev s_l1Cur_system_JJ0 (u : Value) (code : List Nat) (c : Cur) (n : Int) (c0 : Cur) (sz0 : Int) (se0 : List (List Int)) (co0 : List Int) (i : Int) (c1 : Cur) (sz : Int) (sets : List (List Int)) (costs : List Int) : Prop := (sz = sySz code c) ∧ (0 ≤ i) ∧ (i ≤ n) ∧ (sets = (syTo code c (i).toNat).1) ∧ (costs = (syTo code c (i).toNat).2.1) ∧ (c1 = (syTo code c (i).toNat).2.2)
abbrev s_l1Cur_system_mJ0 (u : Value) (code : List Nat) (c : Cur) (n : Int) (c0 : Cur) (sz0 : Int) (se0 : List (List Int)) (co0 : List Int) (i : Int) (c1 : Cur) (sz : Int) (sets : List (List Int)) (costs : List Int) : Nat := (n - i).toNat
abbrev s_l1Cur_system_JA0 (u : Value) (code : List Nat) (c : Cur) (n : Int) (c0 : Cur) (sz0 : Int) (se0 : List (List Int)) (co0 : List Int) (c2 : Cur) (sz1 : Int) (set1 : List (List Int)) (cost1 : List Int) : Prop := (sz1 = sySz code c) ∧ (set1 = (syE code c).1) ∧ (cost1 = (syE code c).2.1) ∧ (c2 = (syE code c).2.2)
abbrev s_l1Cur_system_JJ1 (u : Value) (code : List Nat) (c : Cur) (n : Int) (c0 : Cur) (sz0 : Int) (se0 : List (List Int)) (co0 : List Int) (c2 : Cur) (sz1 : Int) (set1 : List (List Int)) (cost1 : List Int) (sz2 : Int) (se : List (List Int)) (co : List Int) : Prop := (sz2 = sySz code c) ∧ (∃ k : Nat, se = (syE code c).1 ++ List.replicate k [] ∧ co = (syE code c).2.1 ++ List.replicate k 1 ∧ se.length ≤ 9)
abbrev s_l1Cur_system_mJ1 (u : Value) (code : List Nat) (c : Cur) (n : Int) (c0 : Cur) (sz0 : Int) (se0 : List (List Int)) (co0 : List Int) (c2 : Cur) (sz1 : Int) (set1 : List (List Int)) (cost1 : List Int) (sz2 : Int) (se : List (List Int)) (co : List Int) : Nat := 9 - se.length
abbrev s_l1Cur_system_JR1 (u : Value) (code : List Nat) (c : Cur) (n : Int) (c0 : Cur) (sz0 : Int) (se0 : List (List Int)) (co0 : List Int) : Prop := (n = syN code c) ∧ (c0 = pickC code (pickC code c 8) 8) ∧ (sz0 = sySz code c) ∧ (se0 = []) ∧ (co0 = [])
def s_l1Cur_system_C (f : FuncId) (ds : List D) : Orc := .no
def s_l1Cur_system_A (u : Value) (code : List Nat) (c : Cur) : Ann := .two (.none) (.cut (.mark [] [(2, .cell [.int .i64 ((pickC code c (([5, 4, 6, 3, 8, 2, 1, 0]).length : Int)).pos), .int .u64 ((pickC code c (([5, 4, 6, 3, 8, 2, 1, 0]).length : Int)).seed)] (.one (.d (.int .i64 (([5, 4, 6, 3, 8, 2, 1, 0]).getD (pickV code c (([5, 4, 6, 3, 8, 2, 1, 0]).length : Int)).toNat 0))))), (6, .cell [.int .i64 ((pickC code (pickC code c (([5, 4, 6, 3, 8, 2, 1, 0]).length : Int)) (([4, 5, 3, 6, 8, 2, 1, 0]).length : Int)).pos), .int .u64 ((pickC code (pickC code c (([5, 4, 6, 3, 8, 2, 1, 0]).length : Int)) (([4, 5, 3, 6, 8, 2, 1, 0]).length : Int)).seed)] (.one (.d (.int .i64 (([4, 5, 3, 6, 8, 2, 1, 0]).getD (pickV code (pickC code c (([5, 4, 6, 3, 8, 2, 1, 0]).length : Int)) (([4, 5, 3, 6, 8, 2, 1, 0]).length : Int)).toNat 0)))))]) (cut5 (fun (n : Int) (c0 : Cur) (sz0 : Int) (se0 : List (List Int)) (co0 : List Int) => s_l1Cur_system_JR1 u code c n c0 sz0 se0 co0) (fun (n : Int) (c0 : Cur) (sz0 : Int) (se0 : List (List Int)) (co0 : List Int) => [(0, .ptr 0 0), (2, .ptr 2 0), (3, .ptr 3 0), (4, .d true (.int .i64 n))]) (fun (n : Int) (c0 : Cur) (sz0 : Int) (se0 : List (List Int)) (co0 : List Int) => [(0, .box 98 [.d false (.lit u (.sl (.bytes code))), .d true (.int .i64 c0.pos), .d true (.int .u64 c0.seed)]), (2, .box 36 [.d true (.int .i64 0), .d true (.nil), .d true (.nil)]), (1500103, .mat 3 26 se0 none), (1500104, .arr true 3 (.ints co0)), (3, .box 36 [.d true (.int .i64 sz0), .own 1500103 se0.length, .own 1500104 co0.length])])) (fun g => (fun (n : Int) (c0 : Cur) (sz0 : Int) (se0 : List (List Int)) (co0 : List Int) => .cut (.two (.none) (.loop (cut5 (fun (i : Int) (c1 : Cur) (sz : Int) (sets : List (List Int)) (costs : List Int) => s_l1Cur_system_JJ0 u code c n c0 sz0 se0 co0 i c1 sz sets costs) (fun (i : Int) (c1 : Cur) (sz : Int) (sets : List (List Int)) (costs : List Int) => [(0, .ptr 0 0), (2, .ptr 2 0), (3, .ptr 3 0), (4, .d true (.int .i64 n)), (5, .d true (.int .i64 i))]) (fun (i : Int) (c1 : Cur) (sz : Int) (sets : List (List Int)) (costs : List Int) => [(0, .box 98 [.d false (.lit u (.sl (.bytes code))), .d true (.int .i64 c1.pos), .d true (.int .u64 c1.seed)]), (2, .box 36 [.d true (.int .i64 0), .d true (.nil), .d true (.nil)]), (1000003, .mat 3 26 sets none), (1000004, .arr true 3 (.ints costs)), (3, .box 36 [.d true (.int .i64 sz), .own 1000003 sets.length, .own 1000004 costs.length])])) (fun g => s_l1Cur_system_mJ0 u code c n c0 sz0 se0 co0 g.1 g.2.1 g.2.2.1 g.2.2.2.1 g.2.2.2.2) (fun g => (fun (i : Int) (c1 : Cur) (sz : Int) (sets : List (List Int)) (costs : List Int) => .two (.none) (.two (.two (.reg [(13, .call none (.one (.own 3 (.ints (members (fun k => (((pickV code c1 256).toNat &&& (((pickV code (pickC code c1 256) 256).toNat ||| ((([0, 255]).getD (pickV code (pickC code (pickC code c1 256) 256) (([0, 255]).length : Int)).toNat 0) : Int).toNat : Nat) : Int).toNat : Nat) : Int).toNat.testBit k) sz.toNat))))), (5, .cell [.int .i64 ((pickC code c1 256).pos), .int .u64 ((pickC code c1 256).seed)] (.one (.d (.int .i64 (pickV code c1 256))))), (7, .cell [.int .i64 ((pickC code (pickC code c1 256) 256).pos), .int .u64 ((pickC code (pickC code c1 256) 256).seed)] (.one (.d (.int .i64 (pickV code (pickC code c1 256) 256))))), (10, .cell [.int .i64 ((pickC code (pickC code (pickC code c1 256) 256) (([0, 255]).length : Int)).pos), .int .u64 ((pickC code (pickC code (pickC code c1 256) 256) (([0, 255]).length : Int)).seed)] (.one (.d (.int .i64 (([0, 255]).getD (pickV code (pickC code (pickC code c1 256) 256) (([0, 255]).length : Int)).toNat 0)))))]) (.reg [(4, .cell [.int .i64 ((pickC code (pickC code (pickC code (pickC code c1 256) 256) (([0, 255]).length : Int)) (([1, 1, 2, 3, 5, 8]).length : Int)).pos), .int .u64 ((pickC code (pickC code (pickC code (pickC code c1 256) 256) (([0, 255]).length : Int)) (([1, 1, 2, 3, 5, 8]).length : Int)).seed)] (.one (.d (.int .i64 (([1, 1, 2, 3, 5, 8]).getD (pickV code (pickC code (pickC code (pickC code c1 256) 256) (([0, 255]).length : Int)) (([1, 1, 2, 3, 5, 8]).length : Int)).toNat 0)))))])) (.none))) (g.1) (g.2.1) (g.2.2.1) (g.2.2.2.1) (g.2.2.2.2)))) (cut4 (fun (c2 : Cur) (sz1 : Int) (set1 : List (List Int)) (cost1 : List Int) => s_l1Cur_system_JA0 u code c n c0 sz0 se0 co0 c2 sz1 set1 cost1) (fun (c2 : Cur) (sz1 : Int) (set1 : List (List Int)) (cost1 : List Int) => [(0, .ptr 0 0), (2, .ptr 2 0), (3, .ptr 3 0), (4, .d true (.int .i64 n))]) (fun (c2 : Cur) (sz1 : Int) (set1 : List (List Int)) (cost1 : List Int) => [(0, .box 98 [.d false (.lit u (.sl (.bytes code))), .d true (.int .i64 c2.pos), .d true (.int .u64 c2.seed)]), (2, .box 36 [.d true (.int .i64 0), .d true (.nil), .d true (.nil)]), (1000052, .mat 3 26 set1 none), (1000053, .arr true 3 (.ints cost1)), (3, .box 36 [.d true (.int .i64 sz1), .own 1000052 set1.length, .own 1000053 cost1.length])])) (fun g => (fun (c2 : Cur) (sz1 : Int) (set1 : List (List Int)) (cost1 : List Int) => .two (.two (.none) (.two (.two (.mark [] [(2, .cell [.int .i64 ((pickC code c2 n).pos), .int .u64 ((pickC code c2 n).seed)] (.one (.d (.int .i64 (pickV code c2 n)))))]) (.two (.mark [] [(1, .cell [.int .i64 ((pickC code (pickC code c2 n) 40).pos), .int .u64 ((pickC code (pickC code c2 n) 40).seed)] (.one (.d (.int .i64 (pickV code (pickC code c2 n) 40)))))]) (.two (.none) (.two (.mark [] [(2, .cell [.int .i64 ((pickC code (pickC code (pickC code c2 n) 40) (([(-1), 8, 9, 4611686018427387904]).length : Int)).pos), .int .u64 ((pickC code (pickC code (pickC code c2 n) 40) (([(-1), 8, 9, 4611686018427387904]).length : Int)).seed)] (.one (.d (.int .i64 (([(-1), 8, 9, 4611686018427387904]).getD (pickV code (pickC code (pickC code c2 n) 40) (([(-1), 8, 9, 4611686018427387904]).length : Int)).toNat 0)))))]) (.two (.none) (.two (.reg [(7, .take), (12, .cell [.int .i64 ((pickC code (pickC code (pickC code c2 n) 40) (([(-1), 0, sz1]).length : Int)).pos), .int .u64 ((pickC code (pickC code (pickC code c2 n) 40) (([(-1), 0, sz1]).length : Int)).seed)] (.one (.d (.int .i64 (([(-1), 0, sz1]).getD (pickV code (pickC code (pickC code c2 n) 40) (([(-1), 0, sz1]).length : Int)).toNat 0)))))]) (.two (.none) (.two (.reg [(5, .cell [.int .i64 ((pickC code (pickC code (pickC code c2 n) 40) (([0, (-1), 99, 100]).length : Int)).pos), .int .u64 ((pickC code (pickC code (pickC code c2 n) 40) (([0, (-1), 99, 100]).length : Int)).seed)] (.one (.d (.int .i64 (([0, (-1), 99, 100]).getD (pickV code (pickC code (pickC code c2 n) 40) (([0, (-1), 99, 100]).length : Int)).toNat 0)))))]) (.two (.none) (.two (.none) (.two (.none) (.two (.loop (cut3 (fun (sz2 : Int) (se : List (List Int)) (co : List Int) => s_l1Cur_system_JJ1 u code c n c0 sz0 se0 co0 c2 sz1 set1 cost1 sz2 se co) (fun (sz2 : Int) (se : List (List Int)) (co : List Int) => [(0, .ptr 0 0), (2, .ptr 2 0), (3, .ptr 3 0)]) (fun (sz2 : Int) (se : List (List Int)) (co : List Int) => [(0, .box 98 [.d false (.lit u (.sl (.bytes code))), .d true (.int .i64 ((pickC code (pickC code c2 n) 40).pos)), .d true (.int .u64 ((pickC code (pickC code c2 n) 40).seed))]), (2, .box 36 [.d true (.int .i64 0), .d true (.nil), .d true (.nil)]), (1000101, .mat 3 26 se none), (1000102, .arr true 3 (.ints co)), (3, .box 36 [.d true (.int .i64 sz2), .own 1000101 se.length, .own 1000102 co.length])])) (fun g => s_l1Cur_system_mJ1 u code c n c0 sz0 se0 co0 c2 sz1 set1 cost1 g.1 g.2.1 g.2.2) (fun _ => .none)) (.none))))))))))))) (.none))) (.none)) (g.1) (g.2.1) (g.2.2.1) (g.2.2.2))) (g.1) (g.2.1) (g.2.2.1) (g.2.2.2.1) (g.2.2.2.2)))
def s_l1Cur_system_P (u : Value) (code : List Nat) (c : Cur) : Prop :=
  ((((8 : Nat) = 8) ∧ (PK Try.prog 106 98 (.sl (.bytes code)) [.int .i64 c.pos, .int .u64 c.seed] [.int .i64 ((pickC code c (([5, 4, 6, 3, 8, 2, 1, 0]).length : Int)).pos), .int .u64 ((pickC code c (([5, 4, 6, 3, 8, 2, 1, 0]).length : Int)).seed)] [.sl (.ints ([5, 4, 6, 3, 8, 2, 1, 0]))] (.one (.d (.int .i64 (([5, 4, 6, 3, 8, 2, 1, 0]).getD (pickV code c (([5, 4, 6, 3, 8, 2, 1, 0]).length : Int)).toNat 0))))) ∧ ((8 : Nat) = 8) ∧ (PK Try.prog 106 98 (.sl (.bytes code)) [.int .i64 ((pickC code c (([5, 4, 6, 3, 8, 2, 1, 0]).length : Int)).pos), .int .u64 ((pickC code c (([5, 4, 6, 3, 8, 2, 1, 0]).length : Int)).seed)] [.int .i64 ((pickC code (pickC code c (([5, 4, 6, 3, 8, 2, 1, 0]).length : Int)) (([4, 5, 3, 6, 8, 2, 1, 0]).length : Int)).pos), .int .u64 ((pickC code (pickC code c (([5, 4, 6, 3, 8, 2, 1, 0]).length : Int)) (([4, 5, 3, 6, 8, 2, 1, 0]).length : Int)).seed)] [.sl (.ints ([4, 5, 3, 6, 8, 2, 1, 0]))] (.one (.d (.int .i64 (([4, 5, 3, 6, 8, 2, 1, 0]).getD (pickV code (pickC code c (([5, 4, 6, 3, 8, 2, 1, 0]).length : Int)) (([4, 5, 3, 6, 8, 2, 1, 0]).length : Int)).toNat 0))))) ∧ (∃ n' : Int, ∃ c0' : Cur, ∃ sz0' : Int, ∃ se0' : List (List Int), ∃ co0' : List Int, (s_l1Cur_system_JR1 u code c n' c0' sz0' se0' co0') ∧ ((([4, 5, 3, 6, 8, 2, 1, 0]).getD (pickV code (pickC code c (([5, 4, 6, 3, 8, 2, 1, 0]).length : Int)) (([4, 5, 3, 6, 8, 2, 1, 0]).length : Int)).toNat 0) = n') ∧ ((.lit u (.sl (.bytes code)) : D) = .lit u (.sl (.bytes code))) ∧ ((pickC code (pickC code c (([5, 4, 6, 3, 8, 2, 1, 0]).length : Int)) (([4, 5, 3, 6, 8, 2, 1, 0]).length : Int)).pos = c0'.pos) ∧ ((pickC code (pickC code c (([5, 4, 6, 3, 8, 2, 1, 0]).length : Int)) (([4, 5, 3, 6, 8, 2, 1, 0]).length : Int)).seed = c0'.seed) ∧ ((0 : Int) = 0) ∧ ((se0').length = 0) ∧ ((co0').length = 0) ∧ ((([5, 4, 6, 3, 8, 2, 1, 0]).getD (pickV code c (([5, 4, 6, 3, 8, 2, 1, 0]).length : Int)).toNat 0) = sz0') ∧ ((0 : Nat) = se0'.length) ∧ ((0 : Nat) = co0'.length))) ∧ (∀ n : Int, ∀ c0 : Cur, ∀ sz0 : Int, ∀ se0 : List (List Int), ∀ co0 : List Int, (s_l1Cur_system_JR1 u code c n c0 sz0 se0 co0) → ((((∃ i' : Int, ∃ c1' : Cur, ∃ sz' : Int, ∃ sets' : List (List Int), ∃ costs' : List Int, (s_l1Cur_system_JJ0 u code c n c0 sz0 se0 co0 i' c1' sz' sets' costs') ∧ (n = n) ∧ ((0 : Int) = i') ∧ ((.lit u (.sl (.bytes code)) : D) = .lit u (.sl (.bytes code))) ∧ (c0.pos = c1'.pos) ∧ (c0.seed = c1'.seed) ∧ ((0 : Int) = 0) ∧ (se0 = sets') ∧ (co0 = costs') ∧ (sz0 = sz') ∧ (se0.length = sets'.length) ∧ (co0.length = costs'.length)) ∧ (∀ i : Int, ∀ c1 : Cur, ∀ sz : Int, ∀ sets : List (List Int), ∀ costs : List Int, (s_l1Cur_system_JJ0 u code c n c0 sz0 se0 co0 i c1 sz sets costs) → (((decide (i < n)) = true → (true = true) ∧ (PK Try.prog 107 98 (.sl (.bytes code)) [.int .i64 c1.pos, .int .u64 c1.seed] [.int .i64 ((pickC code c1 256).pos), .int .u64 ((pickC code c1 256).seed)] [.int .i64 256] (.one (.d (.int .i64 (pickV code c1 256))))) ∧ (PK Try.prog 107 98 (.sl (.bytes code)) [.int .i64 ((pickC code c1 256).pos), .int .u64 ((pickC code c1 256).seed)] [.int .i64 ((pickC code (pickC code c1 256) 256).pos), .int .u64 ((pickC code (pickC code c1 256) 256).seed)] [.int .i64 256] (.one (.d (.int .i64 (pickV code (pickC code c1 256) 256))))) ∧ ((2 : Nat) = 2) ∧ (PK Try.prog 106 98 (.sl (.bytes code)) [.int .i64 ((pickC code (pickC code c1 256) 256).pos), .int .u64 ((pickC code (pickC code c1 256) 256).seed)] [.int .i64 ((pickC code (pickC code (pickC code c1 256) 256) (([0, 255]).length : Int)).pos), .int .u64 ((pickC code (pickC code (pickC code c1 256) 256) (([0, 255]).length : Int)).seed)] [.sl (.ints ([0, 255]))] (.one (.d (.int .i64 (([0, 255]).getD (pickV code (pickC code (pickC code c1 256) 256) (([0, 255]).length : Int)).toNat 0))))) ∧ ((0 : Int) ≤ (pickV code (pickC code c1 256) 256) ∧ ((pickV code (pickC code c1 256) 256) : Int) ≤ 9223372036854775807) ∧ ((0 : Int) ≤ (([0, 255]).getD (pickV code (pickC code (pickC code c1 256) 256) (([0, 255]).length : Int)).toNat 0) ∧ ((([0, 255]).getD (pickV code (pickC code (pickC code c1 256) 256) (([0, 255]).length : Int)).toNat 0) : Int) ≤ 9223372036854775807) ∧ ((0 : Int) ≤ (pickV code c1 256) ∧ ((pickV code c1 256) : Int) ≤ 9223372036854775807) ∧ ((0 : Int) ≤ (((pickV code (pickC code c1 256) 256).toNat ||| ((([0, 255]).getD (pickV code (pickC code (pickC code c1 256) 256) (([0, 255]).length : Int)).toNat 0) : Int).toNat : Nat) : Int) ∧ ((((pickV code (pickC code c1 256) 256).toNat ||| ((([0, 255]).getD (pickV code (pickC code (pickC code c1 256) 256) (([0, 255]).length : Int)).toNat 0) : Int).toNat : Nat) : Int) : Int) ≤ 9223372036854775807) ∧ (PC Try.prog 164 [.int .i64 sz, .int .i64 (((pickV code c1 256).toNat &&& (((pickV code (pickC code c1 256) 256).toNat ||| ((([0, 255]).getD (pickV code (pickC code (pickC code c1 256) 256) (([0, 255]).length : Int)).toNat 0) : Int).toNat : Nat) : Int).toNat : Nat) : Int)] (.one (.own 3 (.ints (members (fun k => (((pickV code c1 256).toNat &&& (((pickV code (pickC code c1 256) 256).toNat ||| ((([0, 255]).getD (pickV code (pickC code (pickC code c1 256) 256) (([0, 255]).length : Int)).toNat 0) : Int).toNat : Nat) : Int).toNat : Nat) : Int).toNat.testBit k) sz.toNat))))) ∧ ((members (fun k => (((pickV code c1 256).toNat &&& (((pickV code (pickC code c1 256) 256).toNat ||| ((([0, 255]).getD (pickV code (pickC code (pickC code c1 256) 256) (([0, 255]).length : Int)).toNat 0) : Int).toNat : Nat) : Int).toNat : Nat) : Int).toNat.testBit k) sz.toNat).length = (members (fun k => (((pickV code c1 256).toNat &&& (((pickV code (pickC code c1 256) 256).toNat ||| ((([0, 255]).getD (pickV code (pickC code (pickC code c1 256) 256) (([0, 255]).length : Int)).toNat 0) : Int).toNat : Nat) : Int).toNat : Nat) : Int).toNat.testBit k) sz.toNat).length) ∧ (sets.length = sets.length) ∧ ((1 : Nat) = 1) ∧ (0 < 1) ∧ ((sets.length + 1) * 24 ≤ 140737488355328) ∧ (true = true) ∧ ((6 : Nat) = 6) ∧ (PK Try.prog 106 98 (.sl (.bytes code)) [.int .i64 ((pickC code (pickC code (pickC code c1 256) 256) (([0, 255]).length : Int)).pos), .int .u64 ((pickC code (pickC code (pickC code c1 256) 256) (([0, 255]).length : Int)).seed)] [.int .i64 ((pickC code (pickC code (pickC code (pickC code c1 256) 256) (([0, 255]).length : Int)) (([1, 1, 2, 3, 5, 8]).length : Int)).pos), .int .u64 ((pickC code (pickC code (pickC code (pickC code c1 256) 256) (([0, 255]).length : Int)) (([1, 1, 2, 3, 5, 8]).length : Int)).seed)] [.sl (.ints ([1, 1, 2, 3, 5, 8]))] (.one (.d (.int .i64 (([1, 1, 2, 3, 5, 8]).getD (pickV code (pickC code (pickC code (pickC code c1 256) 256) (([0, 255]).length : Int)) (([1, 1, 2, 3, 5, 8]).length : Int)).toNat 0))))) ∧ (costs.length = costs.length) ∧ ((1 : Nat) = 1) ∧ ((costs.length + 1) * 8 ≤ 140737488355328) ∧ (-9223372036854775808 ≤ (i + 1) ∧ (i + 1) ≤ 9223372036854775807) ∧ (∃ i' : Int, ∃ c1' : Cur, ∃ sz' : Int, ∃ sets' : List (List Int), ∃ costs' : List Int, (s_l1Cur_system_JJ0 u code c n c0 sz0 se0 co0 i' c1' sz' sets' costs') ∧ (s_l1Cur_system_mJ0 u code c n c0 sz0 se0 co0 i' c1' sz' sets' costs' < s_l1Cur_system_mJ0 u code c n c0 sz0 se0 co0 i c1 sz sets costs) ∧ (n = n) ∧ ((i + 1) = i') ∧ ((.lit u (.sl (.bytes code)) : D) = .lit u (.sl (.bytes code))) ∧ ((pickC code (pickC code (pickC code (pickC code c1 256) 256) (([0, 255]).length : Int)) (([1, 1, 2, 3, 5, 8]).length : Int)).pos = c1'.pos) ∧ ((pickC code (pickC code (pickC code (pickC code c1 256) 256) (([0, 255]).length : Int)) (([1, 1, 2, 3, 5, 8]).length : Int)).seed = c1'.seed) ∧ ((0 : Int) = 0) ∧ ((sets ++ [members (fun k => (((pickV code c1 256).toNat &&& (((pickV code (pickC code c1 256) 256).toNat ||| ((([0, 255]).getD (pickV code (pickC code (pickC code c1 256) 256) (([0, 255]).length : Int)).toNat 0) : Int).toNat : Nat) : Int).toNat : Nat) : Int).toNat.testBit k) sz.toNat]) = sets') ∧ ((costs ++ [(([1, 1, 2, 3, 5, 8]).getD (pickV code (pickC code (pickC code (pickC code c1 256) 256) (([0, 255]).length : Int)) (([1, 1, 2, 3, 5, 8]).length : Int)).toNat 0)]) = costs') ∧ (sz = sz') ∧ ((sets.length + 1) = sets'.length) ∧ ((costs.length + 1) = costs'.length))) ∧ ((decide (i < n)) = false → (∃ c2' : Cur, ∃ sz1' : Int, ∃ set1' : List (List Int), ∃ cost1' : List Int, (s_l1Cur_system_JA0 u code c n c0 sz0 se0 co0 c2' sz1' set1' cost1') ∧ (n = n) ∧ ((.lit u (.sl (.bytes code)) : D) = .lit u (.sl (.bytes code))) ∧ (c1.pos = c2'.pos) ∧ (c1.seed = c2'.seed) ∧ ((0 : Int) = 0) ∧ (sets = set1') ∧ (costs = cost1') ∧ (sz = sz1') ∧ (sets.length = set1'.length) ∧ (costs.length = cost1'.length))))))) ∧ (∀ c2 : Cur, ∀ sz1 : Int, ∀ set1 : List (List Int), ∀ cost1 : List Int, (s_l1Cur_system_JA0 u code c n c0 sz0 se0 co0 c2 sz1 set1 cost1) → (((decide (n > 0)) = true → (PK Try.prog 107 98 (.sl (.bytes code)) [.int .i64 c2.pos, .int .u64 c2.seed] [.int .i64 ((pickC code c2 n).pos), .int .u64 ((pickC code c2 n).seed)] [.int .i64 n] (.one (.d (.int .i64 (pickV code c2 n))))) ∧ (PK Try.prog 107 98 (.sl (.bytes code)) [.int .i64 ((pickC code c2 n).pos), .int .u64 ((pickC code c2 n).seed)] [.int .i64 ((pickC code (pickC code c2 n) 40).pos), .int .u64 ((pickC code (pickC code c2 n) 40).seed)] [.int .i64 40] (.one (.d (.int .i64 (pickV code (pickC code c2 n) 40))))) ∧ ((((pickV code (pickC code c2 n) 40) == 0) = true → ((4 : Nat) = 4) ∧ (PK Try.prog 106 98 (.sl (.bytes code)) [.int .i64 ((pickC code (pickC code c2 n) 40).pos), .int .u64 ((pickC code (pickC code c2 n) 40).seed)] [.int .i64 ((pickC code (pickC code (pickC code c2 n) 40) (([(-1), 8, 9, 4611686018427387904]).length : Int)).pos), .int .u64 ((pickC code (pickC code (pickC code c2 n) 40) (([(-1), 8, 9, 4611686018427387904]).length : Int)).seed)] [.sl (.ints ([(-1), 8, 9, 4611686018427387904]))] (.one (.d (.int .i64 (([(-1), 8, 9, 4611686018427387904]).getD (pickV code (pickC code (pickC code c2 n) 40) (([(-1), 8, 9, 4611686018427387904]).length : Int)).toNat 0))))) ∧ (((.lit u (.sl (.bytes code)) : D) = .lit u (.sl (.bytes code))) ∧ ((pickC code (pickC code (pickC code c2 n) 40) (([(-1), 8, 9, 4611686018427387904]).length : Int)).pos = (sysC code c).pos) ∧ ((pickC code (pickC code (pickC code c2 n) 40) (([(-1), 8, 9, 4611686018427387904]).length : Int)).seed = (sysC code c).seed) ∧ (set1.length = set1.length) ∧ (cost1.length = cost1.length) ∧ ((.agg [.int .i64 (([(-1), 8, 9, 4611686018427387904]).getD (pickV code (pickC code (pickC code c2 n) 40) (([(-1), 8, 9, 4611686018427387904]).length : Int)).toNat 0), .sl (.rows set1), .sl (.ints cost1)] : D) = .agg [.int .i64 (sysZ code c), .sl (.rows (sysS code c)), .sl (.ints (sysK code c))]))) ∧ (((pickV code (pickC code c2 n) 40) == 0) = false → ((((pickV code (pickC code c2 n) 40) == 1) = true → (true = true) ∧ ((0 : Int) ≤ (pickV code c2 n)) ∧ (((pickV code c2 n) : Int) < (set1.length : Int)) ∧ ((pickV code c2 n).toNat < set1.length) ∧ ((3 : Nat) = 3) ∧ (PK Try.prog 106 98 (.sl (.bytes code)) [.int .i64 ((pickC code (pickC code c2 n) 40).pos), .int .u64 ((pickC code (pickC code c2 n) 40).seed)] [.int .i64 ((pickC code (pickC code (pickC code c2 n) 40) (([(-1), 0, sz1]).length : Int)).pos), .int .u64 ((pickC code (pickC code (pickC code c2 n) 40) (([(-1), 0, sz1]).length : Int)).seed)] [.sl (.ints ([(-1), 0, sz1]))] (.one (.d (.int .i64 (([(-1), 0, sz1]).getD (pickV code (pickC code (pickC code c2 n) 40) (([(-1), 0, sz1]).length : Int)).toNat 0))))) ∧ ((set1.getD ((pickV code c2 n).toNat) []).length = (set1.getD ((pickV code c2 n).toNat) []).length) ∧ ((1 : Nat) = 1) ∧ (((set1.getD ((pickV code c2 n).toNat) []).length + 1) * 8 ≤ 140737488355328) ∧ ((0 : Int) ≤ (pickV code c2 n)) ∧ (((pickV code c2 n) : Int) < (set1.length : Int)) ∧ ((pickV code c2 n).toNat = (pickV code c2 n).toNat) ∧ ((pickV code c2 n).toNat < set1.length) ∧ (((set1.getD ((pickV code c2 n).toNat) []).length + 1) = ((set1.getD ((pickV code c2 n).toNat) []) ++ [(([(-1), 0, sz1]).getD (pickV code (pickC code (pickC code c2 n) 40) (([(-1), 0, sz1]).length : Int)).toNat 0)]).length) ∧ (((.lit u (.sl (.bytes code)) : D) = .lit u (.sl (.bytes code))) ∧ ((pickC code (pickC code (pickC code c2 n) 40) (([(-1), 0, sz1]).length : Int)).pos = (sysC code c).pos) ∧ ((pickC code (pickC code (pickC code c2 n) 40) (([(-1), 0, sz1]).length : Int)).seed = (sysC code c).seed) ∧ (set1.length = (set1.set ((pickV code c2 n).toNat) ((set1.getD ((pickV code c2 n).toNat) []) ++ [(([(-1), 0, sz1]).getD (pickV code (pickC code (pickC code c2 n) 40) (([(-1), 0, sz1]).length : Int)).toNat 0)])).length) ∧ (cost1.length = cost1.length) ∧ ((.agg [.int .i64 sz1, .sl (.rows (set1.set ((pickV code c2 n).toNat) ((set1.getD ((pickV code c2 n).toNat) []) ++ [(([(-1), 0, sz1]).getD (pickV code (pickC code (pickC code c2 n) 40) (([(-1), 0, sz1]).length : Int)).toNat 0)]))), .sl (.ints cost1)] : D) = .agg [.int .i64 (sysZ code c), .sl (.rows (sysS code c)), .sl (.ints (sysK code c))]))) ∧ (((pickV code (pickC code c2 n) 40) == 1) = false → ((((pickV code (pickC code c2 n) 40) == 2) = true → (true = true) ∧ ((4 : Nat) = 4) ∧ (PK Try.prog 106 98 (.sl (.bytes code)) [.int .i64 ((pickC code (pickC code c2 n) 40).pos), .int .u64 ((pickC code (pickC code c2 n) 40).seed)] [.int .i64 ((pickC code (pickC code (pickC code c2 n) 40) (([0, (-1), 99, 100]).length : Int)).pos), .int .u64 ((pickC code (pickC code (pickC code c2 n) 40) (([0, (-1), 99, 100]).length : Int)).seed)] [.sl (.ints ([0, (-1), 99, 100]))] (.one (.d (.int .i64 (([0, (-1), 99, 100]).getD (pickV code (pickC code (pickC code c2 n) 40) (([0, (-1), 99, 100]).length : Int)).toNat 0))))) ∧ ((0 : Int) ≤ (pickV code c2 n)) ∧ (((pickV code c2 n) : Int) < (cost1.length : Int)) ∧ ((pickV code c2 n).toNat < cost1.length) ∧ (((.lit u (.sl (.bytes code)) : D) = .lit u (.sl (.bytes code))) ∧ ((pickC code (pickC code (pickC code c2 n) 40) (([0, (-1), 99, 100]).length : Int)).pos = (sysC code c).pos) ∧ ((pickC code (pickC code (pickC code c2 n) 40) (([0, (-1), 99, 100]).length : Int)).seed = (sysC code c).seed) ∧ (set1.length = set1.length) ∧ (cost1.length = (cost1.set ((pickV code c2 n).toNat) (([0, (-1), 99, 100]).getD (pickV code (pickC code (pickC code c2 n) 40) (([0, (-1), 99, 100]).length : Int)).toNat 0)).length) ∧ ((.agg [.int .i64 sz1, .sl (.rows set1), .sl (.ints (cost1.set ((pickV code c2 n).toNat) (([0, (-1), 99, 100]).getD (pickV code (pickC code (pickC code c2 n) 40) (([0, (-1), 99, 100]).length : Int)).toNat 0)))] : D) = .agg [.int .i64 (sysZ code c), .sl (.rows (sysS code c)), .sl (.ints (sysK code c))]))) ∧ (((pickV code (pickC code c2 n) 40) == 2) = false → ((((pickV code (pickC code c2 n) 40) == 3) = true → (cost1.length = cost1.length) ∧ ((1 : Nat) = 1) ∧ ((cost1.length + 1) * 8 ≤ 140737488355328) ∧ (((.lit u (.sl (.bytes code)) : D) = .lit u (.sl (.bytes code))) ∧ ((pickC code (pickC code c2 n) 40).pos = (sysC code c).pos) ∧ ((pickC code (pickC code c2 n) 40).seed = (sysC code c).seed) ∧ (set1.length = set1.length) ∧ ((cost1.length + 1) = (cost1 ++ [1]).length) ∧ ((.agg [.int .i64 sz1, .sl (.rows set1), .sl (.ints (cost1 ++ [1]))] : D) = .agg [.int .i64 (sysZ code c), .sl (.rows (sysS code c)), .sl (.ints (sysK code c))]))) ∧ (((pickV code (pickC code c2 n) 40) == 3) = false → ((((pickV code (pickC code c2 n) 40) == 4) = true → ((∃ sz2' : Int, ∃ se' : List (List Int), ∃ co' : List Int, (s_l1Cur_system_JJ1 u code c n c0 sz0 se0 co0 c2 sz1 set1 cost1 sz2' se' co') ∧ ((.lit u (.sl (.bytes code)) : D) = .lit u (.sl (.bytes code))) ∧ ((pickC code (pickC code c2 n) 40).pos = (pickC code (pickC code c2 n) 40).pos) ∧ ((pickC code (pickC code c2 n) 40).seed = (pickC code (pickC code c2 n) 40).seed) ∧ ((0 : Int) = 0) ∧ (set1 = se') ∧ (cost1 = co') ∧ (sz1 = sz2') ∧ (set1.length = se'.length) ∧ (cost1.length = co'.length)) ∧ (∀ sz2 : Int, ∀ se : List (List Int), ∀ co : List Int, (s_l1Cur_system_JJ1 u code c n c0 sz0 se0 co0 c2 sz1 set1 cost1 sz2 se co) → (((decide ((se.length : Int) < 9)) = true → ((0 : Nat) = 0) ∧ (se.length = se.length) ∧ ((1 : Nat) = 1) ∧ (0 < 1) ∧ ((se.length + 1) * 24 ≤ 140737488355328) ∧ (co.length = co.length) ∧ ((1 : Nat) = 1) ∧ ((co.length + 1) * 8 ≤ 140737488355328) ∧ (∃ sz2' : Int, ∃ se' : List (List Int), ∃ co' : List Int, (s_l1Cur_system_JJ1 u code c n c0 sz0 se0 co0 c2 sz1 set1 cost1 sz2' se' co') ∧ (s_l1Cur_system_mJ1 u code c n c0 sz0 se0 co0 c2 sz1 set1 cost1 sz2' se' co' < s_l1Cur_system_mJ1 u code c n c0 sz0 se0 co0 c2 sz1 set1 cost1 sz2 se co) ∧ ((.lit u (.sl (.bytes code)) : D) = .lit u (.sl (.bytes code))) ∧ ((pickC code (pickC code c2 n) 40).pos = (pickC code (pickC code c2 n) 40).pos) ∧ ((pickC code (pickC code c2 n) 40).seed = (pickC code (pickC code c2 n) 40).seed) ∧ ((0 : Int) = 0) ∧ ((se ++ [[]]) = se') ∧ ((co ++ [1]) = co') ∧ (sz2 = sz2') ∧ ((se.length + 1) = se'.length) ∧ ((co.length + 1) = co'.length))) ∧ ((decide ((se.length : Int) < 9)) = false → (((.lit u (.sl (.bytes code)) : D) = .lit u (.sl (.bytes code))) ∧ ((pickC code (pickC code c2 n) 40).pos = (sysC code c).pos) ∧ ((pickC code (pickC code c2 n) 40).seed = (sysC code c).seed) ∧ (se.length = se.length) ∧ (co.length = co.length) ∧ ((.agg [.int .i64 sz2, .sl (.rows se), .sl (.ints co)] : D) = .agg [.int .i64 (sysZ code c), .sl (.rows (sysS code c)), .sl (.ints (sysK code c))]))))))) ∧ (((pickV code (pickC code c2 n) 40) == 4) = false → (((.lit u (.sl (.bytes code)) : D) = .lit u (.sl (.bytes code))) ∧ ((pickC code (pickC code c2 n) 40).pos = (sysC code c).pos) ∧ ((pickC code (pickC code c2 n) 40).seed = (sysC code c).seed) ∧ (set1.length = set1.length) ∧ (cost1.length = cost1.length) ∧ ((.agg [.int .i64 sz1, .sl (.rows set1), .sl (.ints cost1)] : D) = .agg [.int .i64 (sysZ code c), .sl (.rows (sysS code c)), .sl (.ints (sysK code c))]))))))))))))) ∧ ((decide (n > 0)) = false → (((.lit u (.sl (.bytes code)) : D) = .lit u (.sl (.bytes code))) ∧ (c2.pos = (sysC code c).pos) ∧ (c2.seed = (sysC code c).seed) ∧ (set1.length = set1.length) ∧ (cost1.length = cost1.length) ∧ ((.agg [.int .i64 sz1, .sl (.rows set1), .sl (.ints cost1)] : D) = .agg [.int .i64 (sysZ code c), .sl (.rows (sysS code c)), .sl (.ints (sysK code c))]))))))))
theorem s_l1Cur_system_vc (u : Value) (code : List Nat) (c : Cur) (hb : ∀ x9 ∈ code, x9 < 256) (hc : okC c 1000000)  : s_l1Cur_system_P u code c := by
  unfold s_l1Cur_system_P
  have nn := syN_in code c
  have zz := sySz_in code c
  have so := syTo_ok code hc
  refine ⟨?_, ?_⟩
  · refine ⟨rfl, ?_, rfl, ?_, ?_⟩
    · refine s_l1Cur_among_pk code c ([5, 4, 6, 3, 8, 2, 1, 0]) ?_ ?_ ?_
      · exact hb
      · exact okC_le hc (by omega)
      · first | omega | rfl | (intro hg; simp only [nrmT] at hg; omega) | (intro g1 g2; simp [g1, g2]; done) | (intro g1; simp at g1 ⊢; simp [g1]; done) | (simp only [nrmT] at *; omega) | (simp at * <;> omega) | (simp_all <;> omega) | (simp_all; done)
    · refine s_l1Cur_among_pk code (pickC code c (([5, 4, 6, 3, 8, 2, 1, 0]).length : Int)) ([4, 5, 3, 6, 8, 2, 1, 0]) ?_ ?_ ?_
      · exact hb
      · exact okC_le (by repeat (first | assumption | apply ok_pick | apply ok_next)) (by omega)
      · first | omega | rfl | (intro hg; simp only [nrmT] at hg; omega) | (intro g1 g2; simp [g1, g2]; done) | (intro g1; simp at g1 ⊢; simp [g1]; done) | (simp only [nrmT] at *; omega) | (simp at * <;> omega) | (simp_all <;> omega) | (simp_all; done)
    · refine ⟨(([4, 5, 3, 6, 8, 2, 1, 0]).getD (pickV code (pickC code c (([5, 4, 6, 3, 8, 2, 1, 0]).length : Int)) (([4, 5, 3, 6, 8, 2, 1, 0]).length : Int)).toNat 0), (pickC code (pickC code c (([5, 4, 6, 3, 8, 2, 1, 0]).length : Int)) (([4, 5, 3, 6, 8, 2, 1, 0]).length : Int)), (([5, 4, 6, 3, 8, 2, 1, 0]).getD (pickV code c (([5, 4, 6, 3, 8, 2, 1, 0]).length : Int)).toNat 0), ([]), ([]), ?_⟩
      refine ⟨?_, rfl, rfl, rfl, rfl, rfl, ?_, ?_, rfl, rfl, rfl⟩
      · refine ⟨?_, ?_, ?_, ?_, ?_⟩
        · rfl
        · rfl
        · first | assumption | rfl
        · rfl
        · rfl
      · rfl
      · rfl
  · intro n c0 sz0 se0 co0 hJ
    obtain ⟨n0, n1, n2, n3, n4⟩ := hJ
    refine ⟨?_, ?_⟩
    · refine ⟨?_, ?_⟩
      · refine ⟨0, c0, sz0, se0, co0, ?_⟩
        refine ⟨?_, rfl, rfl, rfl, rfl, rfl, rfl, rfl, rfl, rfl, rfl, rfl⟩
        · refine ⟨?_, ?_, ?_, ?_, ?_, ?_⟩
          · first | assumption | rfl
          · omega
          · omega
          · rw [n3]; rfl
          · rw [n4]; rfl
          · rw [n1]; rfl
      · intro i c1 sz sets costs hJ
        obtain ⟨h0, h1, h2, h3, h4, h5⟩ := hJ
        refine ⟨?_, ?_⟩
        · intro b1
          try simp only [nrmT] at b1
          refine ⟨rfl, ?_, ?_, rfl, ?_, ?_, ?_, ?_, ?_, ?_, rfl, rfl, rfl, by decide, ?_, rfl, rfl, ?_, rfl, rfl, ?_, ?_, ?_⟩
          · refine s_l1Cur_pick_pk code c1 256 ?_ ?_
            · exact hb
            · have ho := (so i.toNat).1
              rw [← h5] at ho
              exact okC_le (by repeat (first | assumption | apply ok_pick | apply ok_next)) (by omega)
          · refine s_l1Cur_pick_pk code (pickC code c1 256) 256 ?_ ?_
            · exact hb
            · have ho := (so i.toNat).1
              rw [← h5] at ho
              exact okC_le (by repeat (first | assumption | apply ok_pick | apply ok_next)) (by omega)
          · refine s_l1Cur_among_pk code (pickC code (pickC code c1 256) 256) ([0, 255]) ?_ ?_ ?_
            · exact hb
            · have ho := (so i.toNat).1
              rw [← h5] at ho
              exact okC_le (by repeat (first | assumption | apply ok_pick | apply ok_next)) (by omega)
            · first | omega | rfl | (intro hg; simp only [nrmT] at hg; omega) | (intro g1 g2; simp [g1, g2]; done) | (intro g1; simp at g1 ⊢; simp [g1]; done) | (simp only [nrmT] at *; omega) | (simp at * <;> omega) | (simp_all <;> omega) | (simp_all; done)
          · have v1 := pickV_in code c1 (n := 256) (by omega)
            have v2 := pickV_in code (pickC code c1 256) (n := 256) (by omega)
            have v3 := pick255 code (pickC code (pickC code c1 256) 256)
            omega
          · have v1 := pickV_in code c1 (n := 256) (by omega)
            have v2 := pickV_in code (pickC code c1 256) (n := 256) (by omega)
            have v3 := pick255 code (pickC code (pickC code c1 256) 256)
            omega
          · have v1 := pickV_in code c1 (n := 256) (by omega)
            have v2 := pickV_in code (pickC code c1 256) (n := 256) (by omega)
            have v3 := pick255 code (pickC code (pickC code c1 256) 256)
            omega
          · have v1 := pickV_in code c1 (n := 256) (by omega)
            have v2 := pickV_in code (pickC code c1 256) (n := 256) (by omega)
            have v3 := pick255 code (pickC code (pickC code c1 256) 256)
            have v4 := or256 v2 v3
            omega
          · refine s_l2Bits_own_pc sz (((pickV code c1 256).toNat &&& (((pickV code (pickC code c1 256) 256).toNat ||| ((([0, 255]).getD (pickV code (pickC code (pickC code c1 256) 256) (([0, 255]).length : Int)).toNat 0) : Int).toNat : Nat) : Int).toNat : Nat) : Int) ?_ ?_
            · rw [h0]; omega
            · have v1 := pickV_in code c1 (n := 256) (by omega)
              have v2 := pickV_in code (pickC code c1 256) (n := 256) (by omega)
              have v3 := pick255 code (pickC code (pickC code c1 256) 256)
              have v4 := and256 (n := (((pickV code (pickC code c1 256) 256).toNat ||| (([0, 255] : List Int).getD (pickV code (pickC code (pickC code c1 256) 256) (([0, 255] : List Int).length : Int)).toNat 0).toNat : Nat) : Int).toNat) v1
              omega
          · have q := (so i.toNat).2.1
            rw [h3, q]; omega
          · refine s_l1Cur_among_pk code (pickC code (pickC code (pickC code c1 256) 256) (([0, 255]).length : Int)) ([1, 1, 2, 3, 5, 8]) ?_ ?_ ?_
            · exact hb
            · have ho := (so i.toNat).1
              rw [← h5] at ho
              exact okC_le (by repeat (first | assumption | apply ok_pick | apply ok_next)) (by omega)
            · first | omega | rfl | (intro hg; simp only [nrmT] at hg; omega) | (intro g1 g2; simp [g1, g2]; done) | (intro g1; simp at g1 ⊢; simp [g1]; done) | (simp only [nrmT] at *; omega) | (simp at * <;> omega) | (simp_all <;> omega) | (simp_all; done)
          · have q := (so i.toNat).2.2
            rw [h4, q]; omega
          · omega
          · refine ⟨(i + 1), (pickC code (pickC code (pickC code (pickC code c1 256) 256) (([0, 255]).length : Int)) (([1, 1, 2, 3, 5, 8]).length : Int)), sz, (sets ++ [members (fun k => (((pickV code c1 256).toNat &&& (((pickV code (pickC code c1 256) 256).toNat ||| ((([0, 255]).getD (pickV code (pickC code (pickC code c1 256) 256) (([0, 255]).length : Int)).toNat 0) : Int).toNat : Nat) : Int).toNat : Nat) : Int).toNat.testBit k) sz.toNat]), (costs ++ [(([1, 1, 2, 3, 5, 8]).getD (pickV code (pickC code (pickC code (pickC code c1 256) 256) (([0, 255]).length : Int)) (([1, 1, 2, 3, 5, 8]).length : Int)).toNat 0)]), ?_⟩
            refine ⟨?_, ?_, rfl, rfl, rfl, rfl, rfl, rfl, rfl, rfl, rfl, ?_, ?_⟩
            · refine ⟨?_, ?_, ?_, ?_, ?_, ?_⟩
              · first | assumption | rfl
              · omega
              · omega
              · rw [show (i + 1).toNat = i.toNat + 1 by omega, syTo_succ]
                show _ = (syTo code c i.toNat).1 ++ [members (fun k => (syBit code (syTo code c i.toNat).2.2).toNat.testBit k) (sySz code c).toNat]
                rw [← h3, ← h5, ← h0]; rfl
              · rw [show (i + 1).toNat = i.toNat + 1 by omega, syTo_succ]
                show _ = (syTo code c i.toNat).2.1 ++ [([1, 1, 2, 3, 5, 8] : List Int).getD (pickV code (syC3 code (syTo code c i.toNat).2.2) 6).toNat 0]
                rw [← h4, ← h5]; rfl
              · rw [show (i + 1).toNat = i.toNat + 1 by omega, syTo_succ]
                show _ = pickC code (syC3 code (syTo code c i.toNat).2.2) 6
                rw [← h5]; rfl
            · first | (show _ < _; omega) | (simp only [s_l1Cur_system_mJ0]; omega) | (simp only [s_l1Cur_system_mJ0] at *; simp at *; omega)
            · first | omega | rfl | (intro hg; simp only [nrmT] at hg; omega) | (intro g1 g2; simp [g1, g2]; done) | (intro g1; simp at g1 ⊢; simp [g1]; done) | (simp only [nrmT] at *; omega) | (simp at * <;> omega) | (simp_all <;> omega) | (simp_all; done)
            · first | omega | rfl | (intro hg; simp only [nrmT] at hg; omega) | (intro g1 g2; simp [g1, g2]; done) | (intro g1; simp at g1 ⊢; simp [g1]; done) | (simp only [nrmT] at *; omega) | (simp at * <;> omega) | (simp_all <;> omega) | (simp_all; done)
        · intro b2
          try simp only [nrmT] at b2
          refine ⟨c1, sz, sets, costs, ?_⟩
          refine ⟨?_, rfl, rfl, rfl, rfl, rfl, rfl, rfl, rfl, rfl, rfl⟩
          · refine ⟨?_, ?_, ?_, ?_⟩
            · first | assumption | rfl
            · rw [h3]; unfold syE; rw [show i = syN code c by omega]
            · rw [h4]; unfold syE; rw [show i = syN code c by omega]
            · rw [h5]; unfold syE; rw [show i = syN code c by omega]
    · intro c2 sz1 set1 cost1 hJ
      obtain ⟨k0, k1, k2, k3⟩ := hJ
      refine ⟨?_, ?_⟩
      · intro b3
        try simp only [nrmT] at b3
        refine ⟨?_, ?_, ?_, ?_⟩
        · refine s_l1Cur_pick_pk code c2 n ?_ ?_
          · exact hb
          · have ho := (so (syN code c).toNat).1
            rw [show (syTo code c (syN code c).toNat).2.2 = c2 from k3.symm] at ho
            exact okC_le (by repeat (first | assumption | apply ok_pick | apply ok_next)) (by omega)
        · refine s_l1Cur_pick_pk code (pickC code c2 n) 40 ?_ ?_
          · exact hb
          · have ho := (so (syN code c).toNat).1
            rw [show (syTo code c (syN code c).toNat).2.2 = c2 from k3.symm] at ho
            exact okC_le (by repeat (first | assumption | apply ok_pick | apply ok_next)) (by omega)
        · intro b4
          try simp only [nrmT] at b4
          refine ⟨rfl, ?_, rfl, ?_, ?_, rfl, rfl, ?_⟩
          · refine s_l1Cur_among_pk code (pickC code (pickC code c2 n) 40) ([(-1), 8, 9, 4611686018427387904]) ?_ ?_ ?_
            · exact hb
            · have ho := (so (syN code c).toNat).1
              rw [show (syTo code c (syN code c).toNat).2.2 = c2 from k3.symm] at ho
              exact okC_le (by repeat (first | assumption | apply ok_pick | apply ok_next)) (by omega)
            · first | omega | rfl | (intro hg; simp only [nrmT] at hg; omega) | (intro g1 g2; simp [g1, g2]; done) | (intro g1; simp at g1 ⊢; simp [g1]; done) | (simp only [nrmT] at *; omega) | (simp at * <;> omega) | (simp_all <;> omega) | (simp_all; done)
          · have hw : syW code c = pickV code (pickC code c2 n) 40 := by rw [k3, n0]; rfl
            have hi : syI code c = pickV code c2 n := by rw [k3, n0]; rfl
            have hk : syC2 code c = pickC code (pickC code c2 n) 40 := by rw [k3, n0]; rfl
            have el := syE_len code hc
            unfold sysC
            first | (rw [if_pos (by omega), k3]) | (rw [if_neg (by omega), if_pos (by omega), hk]; try rfl) | (rw [if_neg (by omega), if_neg (by omega), if_pos (by omega), hk]; try rfl) | (rw [if_neg (by omega), if_neg (by omega), if_neg (by omega), hk])
          · have hw : syW code c = pickV code (pickC code c2 n) 40 := by rw [k3, n0]; rfl
            have hi : syI code c = pickV code c2 n := by rw [k3, n0]; rfl
            have hk : syC2 code c = pickC code (pickC code c2 n) 40 := by rw [k3, n0]; rfl
            have el := syE_len code hc
            unfold sysC
            first | (rw [if_pos (by omega), k3]) | (rw [if_neg (by omega), if_pos (by omega), hk]; try rfl) | (rw [if_neg (by omega), if_neg (by omega), if_pos (by omega), hk]; try rfl) | (rw [if_neg (by omega), if_neg (by omega), if_neg (by omega), hk])
          · have hw : syW code c = pickV code (pickC code c2 n) 40 := by rw [k3, n0]; rfl
            have hi : syI code c = pickV code c2 n := by rw [k3, n0]; rfl
            have hk : syC2 code c = pickC code (pickC code c2 n) 40 := by rw [k3, n0]; rfl
            have el := syE_len code hc
            refine agg3 ?_ ?_ ?_
            · unfold sysZ
              first | (rw [if_pos (by omega), hk]; try rfl) | (rw [if_neg (by omega)]; assumption)
            · unfold sysS
              first | (rw [if_pos (by omega), hi, hk, ← k1, ← k0]; try rfl) | (rw [if_neg (by omega), if_pos (by omega)]; obtain ⟨k, j2, j3, j4⟩ := j1; have e := congrArg List.length j2; rw [List.length_append, List.length_replicate] at e; rw [j2, show k = 9 - (syN code c).toNat by omega]) | (rw [if_neg (by omega), if_neg (by omega)]; assumption)
            · unfold sysK
              first | (rw [if_pos (by omega), hi, hk, ← k2]; try rfl) | (rw [if_neg (by omega), if_pos (by omega), ← k2]; try rfl) | (rw [if_neg (by omega), if_neg (by omega), if_pos (by omega)]; obtain ⟨k, j2, j3, j4⟩ := j1; have e := congrArg List.length j2; rw [List.length_append, List.length_replicate] at e; rw [j3, show k = 9 - (syN code c).toNat by omega]) | (rw [if_neg (by omega), if_neg (by omega), if_neg (by omega)]; assumption)
        · intro b5
          try simp only [nrmT] at b5
          refine ⟨?_, ?_⟩
          · intro b6
            try simp only [nrmT] at b6
            refine ⟨rfl, ?_, ?_, ?_, rfl, ?_, rfl, rfl, ?_, ?_, ?_, rfl, ?_, ?_, rfl, ?_, ?_, ?_, rfl, ?_⟩
            · exact pickV_le _ _ _
            · have ix := pickV_in code c2 (n := n) (by omega)
              have el := syE_len code hc
              rw [k1]; omega
            · have ix := pickV_in code c2 (n := n) (by omega)
              have el := syE_len code hc
              rw [k1]; omega
            · refine s_l1Cur_among_pk code (pickC code (pickC code c2 n) 40) ([(-1), 0, sz1]) ?_ ?_ ?_
              · exact hb
              · have ho := (so (syN code c).toNat).1
                rw [show (syTo code c (syN code c).toNat).2.2 = c2 from k3.symm] at ho
                exact okC_le (by repeat (first | assumption | apply ok_pick | apply ok_next)) (by omega)
              · first | omega | rfl | (intro hg; simp only [nrmT] at hg; omega) | (intro g1 g2; simp [g1, g2]; done) | (intro g1; simp at g1 ⊢; simp [g1]; done) | (simp only [nrmT] at *; omega) | (simp at * <;> omega) | (simp_all <;> omega) | (simp_all; done)
            · have ix := pickV_in code c2 (n := n) (by omega)
              have el := syE_len code hc
              have q := syTo_row code c (syN code c).toNat _ (getD_mem (d := []) (show (pickV code c2 n).toNat < (syE code c).1.length by omega))
              rw [show (syTo code c (syN code c).toNat).1 = (syE code c).1 from rfl, ← k1] at q
              omega
            · exact pickV_le _ _ _
            · have ix := pickV_in code c2 (n := n) (by omega)
              have el := syE_len code hc
              rw [k1]; omega
            · have ix := pickV_in code c2 (n := n) (by omega)
              have el := syE_len code hc
              rw [k1]; omega
            · simp
            · have hw : syW code c = pickV code (pickC code c2 n) 40 := by rw [k3, n0]; rfl
              have hi : syI code c = pickV code c2 n := by rw [k3, n0]; rfl
              have hk : syC2 code c = pickC code (pickC code c2 n) 40 := by rw [k3, n0]; rfl
              have el := syE_len code hc
              unfold sysC
              first | (rw [if_pos (by omega), k3]) | (rw [if_neg (by omega), if_pos (by omega), hk]; try rfl) | (rw [if_neg (by omega), if_neg (by omega), if_pos (by omega), hk]; try rfl) | (rw [if_neg (by omega), if_neg (by omega), if_neg (by omega), hk])
            · have hw : syW code c = pickV code (pickC code c2 n) 40 := by rw [k3, n0]; rfl
              have hi : syI code c = pickV code c2 n := by rw [k3, n0]; rfl
              have hk : syC2 code c = pickC code (pickC code c2 n) 40 := by rw [k3, n0]; rfl
              have el := syE_len code hc
              unfold sysC
              first | (rw [if_pos (by omega), k3]) | (rw [if_neg (by omega), if_pos (by omega), hk]; try rfl) | (rw [if_neg (by omega), if_neg (by omega), if_pos (by omega), hk]; try rfl) | (rw [if_neg (by omega), if_neg (by omega), if_neg (by omega), hk])
            · simp
            · have hw : syW code c = pickV code (pickC code c2 n) 40 := by rw [k3, n0]; rfl
              have hi : syI code c = pickV code c2 n := by rw [k3, n0]; rfl
              have hk : syC2 code c = pickC code (pickC code c2 n) 40 := by rw [k3, n0]; rfl
              have el := syE_len code hc
              refine agg3 ?_ ?_ ?_
              · unfold sysZ
                first | (rw [if_pos (by omega), hk]; try rfl) | (rw [if_neg (by omega)]; assumption)
              · unfold sysS
                first | (rw [if_pos (by omega), hi, hk, ← k1, ← k0]; try rfl) | (rw [if_neg (by omega), if_pos (by omega)]; obtain ⟨k, j2, j3, j4⟩ := j1; have e := congrArg List.length j2; rw [List.length_append, List.length_replicate] at e; rw [j2, show k = 9 - (syN code c).toNat by omega]) | (rw [if_neg (by omega), if_neg (by omega)]; assumption)
              · unfold sysK
                first | (rw [if_pos (by omega), hi, hk, ← k2]; try rfl) | (rw [if_neg (by omega), if_pos (by omega), ← k2]; try rfl) | (rw [if_neg (by omega), if_neg (by omega), if_pos (by omega)]; obtain ⟨k, j2, j3, j4⟩ := j1; have e := congrArg List.length j2; rw [List.length_append, List.length_replicate] at e; rw [j3, show k = 9 - (syN code c).toNat by omega]) | (rw [if_neg (by omega), if_neg (by omega), if_neg (by omega)]; assumption)
          · intro b7
            try simp only [nrmT] at b7
            refine ⟨?_, ?_⟩
            · intro b8
              try simp only [nrmT] at b8
              refine ⟨rfl, rfl, ?_, ?_, ?_, ?_, rfl, ?_, ?_, rfl, ?_, ?_⟩
              · refine s_l1Cur_among_pk code (pickC code (pickC code c2 n) 40) ([0, (-1), 99, 100]) ?_ ?_ ?_
                · exact hb
                · have ho := (so (syN code c).toNat).1
                  rw [show (syTo code c (syN code c).toNat).2.2 = c2 from k3.symm] at ho
                  exact okC_le (by repeat (first | assumption | apply ok_pick | apply ok_next)) (by omega)
                · first | omega | rfl | (intro hg; simp only [nrmT] at hg; omega) | (intro g1 g2; simp [g1, g2]; done) | (intro g1; simp at g1 ⊢; simp [g1]; done) | (simp only [nrmT] at *; omega) | (simp at * <;> omega) | (simp_all <;> omega) | (simp_all; done)
              · exact pickV_le _ _ _
              · have ix := pickV_in code c2 (n := n) (by omega)
                have el := syE_len code hc
                rw [k2]; omega
              · have ix := pickV_in code c2 (n := n) (by omega)
                have el := syE_len code hc
                rw [k2]; omega
              · have hw : syW code c = pickV code (pickC code c2 n) 40 := by rw [k3, n0]; rfl
                have hi : syI code c = pickV code c2 n := by rw [k3, n0]; rfl
                have hk : syC2 code c = pickC code (pickC code c2 n) 40 := by rw [k3, n0]; rfl
                have el := syE_len code hc
                unfold sysC
                first | (rw [if_pos (by omega), k3]) | (rw [if_neg (by omega), if_pos (by omega), hk]; try rfl) | (rw [if_neg (by omega), if_neg (by omega), if_pos (by omega), hk]; try rfl) | (rw [if_neg (by omega), if_neg (by omega), if_neg (by omega), hk])
              · have hw : syW code c = pickV code (pickC code c2 n) 40 := by rw [k3, n0]; rfl
                have hi : syI code c = pickV code c2 n := by rw [k3, n0]; rfl
                have hk : syC2 code c = pickC code (pickC code c2 n) 40 := by rw [k3, n0]; rfl
                have el := syE_len code hc
                unfold sysC
                first | (rw [if_pos (by omega), k3]) | (rw [if_neg (by omega), if_pos (by omega), hk]; try rfl) | (rw [if_neg (by omega), if_neg (by omega), if_pos (by omega), hk]; try rfl) | (rw [if_neg (by omega), if_neg (by omega), if_neg (by omega), hk])
              · simp
              · have hw : syW code c = pickV code (pickC code c2 n) 40 := by rw [k3, n0]; rfl
                have hi : syI code c = pickV code c2 n := by rw [k3, n0]; rfl
                have hk : syC2 code c = pickC code (pickC code c2 n) 40 := by rw [k3, n0]; rfl
                have el := syE_len code hc
                refine agg3 ?_ ?_ ?_
                · unfold sysZ
                  first | (rw [if_pos (by omega), hk]; try rfl) | (rw [if_neg (by omega)]; assumption)
                · unfold sysS
                  first | (rw [if_pos (by omega), hi, hk, ← k1, ← k0]; try rfl) | (rw [if_neg (by omega), if_pos (by omega)]; obtain ⟨k, j2, j3, j4⟩ := j1; have e := congrArg List.length j2; rw [List.length_append, List.length_replicate] at e; rw [j2, show k = 9 - (syN code c).toNat by omega]) | (rw [if_neg (by omega), if_neg (by omega)]; assumption)
                · unfold sysK
                  first | (rw [if_pos (by omega), hi, hk, ← k2]; try rfl) | (rw [if_neg (by omega), if_pos (by omega), ← k2]; try rfl) | (rw [if_neg (by omega), if_neg (by omega), if_pos (by omega)]; obtain ⟨k, j2, j3, j4⟩ := j1; have e := congrArg List.length j2; rw [List.length_append, List.length_replicate] at e; rw [j3, show k = 9 - (syN code c).toNat by omega]) | (rw [if_neg (by omega), if_neg (by omega), if_neg (by omega)]; assumption)
            · intro b9
              try simp only [nrmT] at b9
              refine ⟨?_, ?_⟩
              · intro b10
                try simp only [nrmT] at b10
                refine ⟨rfl, rfl, ?_, rfl, ?_, ?_, rfl, ?_, ?_⟩
                · have hw : syW code c = pickV code (pickC code c2 n) 40 := by rw [k3, n0]; rfl
                  have hi : syI code c = pickV code c2 n := by rw [k3, n0]; rfl
                  have hk : syC2 code c = pickC code (pickC code c2 n) 40 := by rw [k3, n0]; rfl
                  have el := syE_len code hc
                  rw [k2]; omega
                · have hw : syW code c = pickV code (pickC code c2 n) 40 := by rw [k3, n0]; rfl
                  have hi : syI code c = pickV code c2 n := by rw [k3, n0]; rfl
                  have hk : syC2 code c = pickC code (pickC code c2 n) 40 := by rw [k3, n0]; rfl
                  have el := syE_len code hc
                  unfold sysC
                  first | (rw [if_pos (by omega), k3]) | (rw [if_neg (by omega), if_pos (by omega), hk]; try rfl) | (rw [if_neg (by omega), if_neg (by omega), if_pos (by omega), hk]; try rfl) | (rw [if_neg (by omega), if_neg (by omega), if_neg (by omega), hk])
                · have hw : syW code c = pickV code (pickC code c2 n) 40 := by rw [k3, n0]; rfl
                  have hi : syI code c = pickV code c2 n := by rw [k3, n0]; rfl
                  have hk : syC2 code c = pickC code (pickC code c2 n) 40 := by rw [k3, n0]; rfl
                  have el := syE_len code hc
                  unfold sysC
                  first | (rw [if_pos (by omega), k3]) | (rw [if_neg (by omega), if_pos (by omega), hk]; try rfl) | (rw [if_neg (by omega), if_neg (by omega), if_pos (by omega), hk]; try rfl) | (rw [if_neg (by omega), if_neg (by omega), if_neg (by omega), hk])
                · simp
                · have hw : syW code c = pickV code (pickC code c2 n) 40 := by rw [k3, n0]; rfl
                  have hi : syI code c = pickV code c2 n := by rw [k3, n0]; rfl
                  have hk : syC2 code c = pickC code (pickC code c2 n) 40 := by rw [k3, n0]; rfl
                  have el := syE_len code hc
                  refine agg3 ?_ ?_ ?_
                  · unfold sysZ
                    first | (rw [if_pos (by omega), hk]; try rfl) | (rw [if_neg (by omega)]; assumption)
                  · unfold sysS
                    first | (rw [if_pos (by omega), hi, hk, ← k1, ← k0]; try rfl) | (rw [if_neg (by omega), if_pos (by omega)]; obtain ⟨k, j2, j3, j4⟩ := j1; have e := congrArg List.length j2; rw [List.length_append, List.length_replicate] at e; rw [j2, show k = 9 - (syN code c).toNat by omega]) | (rw [if_neg (by omega), if_neg (by omega)]; assumption)
                  · unfold sysK
                    first | (rw [if_pos (by omega), hi, hk, ← k2]; try rfl) | (rw [if_neg (by omega), if_pos (by omega), ← k2]; try rfl) | (rw [if_neg (by omega), if_neg (by omega), if_pos (by omega)]; obtain ⟨k, j2, j3, j4⟩ := j1; have e := congrArg List.length j2; rw [List.length_append, List.length_replicate] at e; rw [j3, show k = 9 - (syN code c).toNat by omega]) | (rw [if_neg (by omega), if_neg (by omega), if_neg (by omega)]; assumption)
              · intro b11
                try simp only [nrmT] at b11
                refine ⟨?_, ?_⟩
                · intro b12
                  try simp only [nrmT] at b12
                  refine ⟨?_, ?_⟩
                  · refine ⟨sz1, set1, cost1, ?_⟩
                    refine ⟨?_, rfl, rfl, rfl, rfl, rfl, rfl, rfl, rfl, rfl⟩
                    · refine ⟨?_, ?_⟩
                      · first | assumption | rfl
                      · have el := syE_len code hc
                        refine ⟨0, by rw [k1]; simp, by rw [k2]; simp, ?_⟩
                        rw [k1]; omega
                  · intro sz2 se co hJ
                    obtain ⟨j0, j1⟩ := hJ
                    refine ⟨?_, ?_⟩
                    · intro b13
                      try simp only [nrmT] at b13
                      refine ⟨rfl, rfl, rfl, by decide, ?_, rfl, rfl, ?_, ?_⟩
                      · obtain ⟨k, j2, j3, j4⟩ := j1
                        omega
                      · obtain ⟨k, j2, j3, j4⟩ := j1
                        have el := syE_len code hc
                        have e := congrArg List.length j2
                        have e2 := congrArg List.length j3
                        rw [List.length_append, List.length_replicate] at e e2
                        omega
                      · refine ⟨sz2, (se ++ [[]]), (co ++ [1]), ?_⟩
                        refine ⟨?_, ?_, rfl, rfl, rfl, rfl, rfl, rfl, rfl, ?_, ?_⟩
                        · refine ⟨?_, ?_⟩
                          · first | assumption | rfl
                          · obtain ⟨k, j2, j3, j4⟩ := j1
                            refine ⟨k + 1, by rw [j2, rep_app], by rw [j3, rep_app], ?_⟩
                            simp; omega
                        · first | (show _ < _; omega) | (simp only [s_l1Cur_system_mJ1]; omega) | (simp only [s_l1Cur_system_mJ1] at *; simp at *; omega)
                        · simp
                        · simp
                    · intro b14
                      try simp only [nrmT] at b14
                      refine ⟨rfl, ?_, ?_, rfl, rfl, ?_⟩
                      · have hw : syW code c = pickV code (pickC code c2 n) 40 := by rw [k3, n0]; rfl
                        have hi : syI code c = pickV code c2 n := by rw [k3, n0]; rfl
                        have hk : syC2 code c = pickC code (pickC code c2 n) 40 := by rw [k3, n0]; rfl
                        have el := syE_len code hc
                        unfold sysC
                        first | (rw [if_pos (by omega), k3]) | (rw [if_neg (by omega), if_pos (by omega), hk]; try rfl) | (rw [if_neg (by omega), if_neg (by omega), if_pos (by omega), hk]; try rfl) | (rw [if_neg (by omega), if_neg (by omega), if_neg (by omega), hk])
                      · have hw : syW code c = pickV code (pickC code c2 n) 40 := by rw [k3, n0]; rfl
                        have hi : syI code c = pickV code c2 n := by rw [k3, n0]; rfl
                        have hk : syC2 code c = pickC code (pickC code c2 n) 40 := by rw [k3, n0]; rfl
                        have el := syE_len code hc
                        unfold sysC
                        first | (rw [if_pos (by omega), k3]) | (rw [if_neg (by omega), if_pos (by omega), hk]; try rfl) | (rw [if_neg (by omega), if_neg (by omega), if_pos (by omega), hk]; try rfl) | (rw [if_neg (by omega), if_neg (by omega), if_neg (by omega), hk])
                      · have hw : syW code c = pickV code (pickC code c2 n) 40 := by rw [k3, n0]; rfl
                        have hi : syI code c = pickV code c2 n := by rw [k3, n0]; rfl
                        have hk : syC2 code c = pickC code (pickC code c2 n) 40 := by rw [k3, n0]; rfl
                        have el := syE_len code hc
                        refine agg3 ?_ ?_ ?_
                        · unfold sysZ
                          first | (rw [if_pos (by omega), hk]; try rfl) | (rw [if_neg (by omega)]; assumption)
                        · unfold sysS
                          first | (rw [if_pos (by omega), hi, hk, ← k1, ← k0]; try rfl) | (rw [if_neg (by omega), if_pos (by omega)]; obtain ⟨k, j2, j3, j4⟩ := j1; have e := congrArg List.length j2; rw [List.length_append, List.length_replicate] at e; rw [j2, show k = 9 - (syN code c).toNat by omega]) | (rw [if_neg (by omega), if_neg (by omega)]; assumption)
                        · unfold sysK
                          first | (rw [if_pos (by omega), hi, hk, ← k2]; try rfl) | (rw [if_neg (by omega), if_pos (by omega), ← k2]; try rfl) | (rw [if_neg (by omega), if_neg (by omega), if_pos (by omega)]; obtain ⟨k, j2, j3, j4⟩ := j1; have e := congrArg List.length j2; rw [List.length_append, List.length_replicate] at e; rw [j3, show k = 9 - (syN code c).toNat by omega]) | (rw [if_neg (by omega), if_neg (by omega), if_neg (by omega)]; assumption)
                · intro b15
                  try simp only [nrmT] at b15
                  refine ⟨rfl, ?_, ?_, rfl, rfl, ?_⟩
                  · have hw : syW code c = pickV code (pickC code c2 n) 40 := by rw [k3, n0]; rfl
                    have hi : syI code c = pickV code c2 n := by rw [k3, n0]; rfl
                    have hk : syC2 code c = pickC code (pickC code c2 n) 40 := by rw [k3, n0]; rfl
                    have el := syE_len code hc
                    unfold sysC
                    first | (rw [if_pos (by omega), k3]) | (rw [if_neg (by omega), if_pos (by omega), hk]; try rfl) | (rw [if_neg (by omega), if_neg (by omega), if_pos (by omega), hk]; try rfl) | (rw [if_neg (by omega), if_neg (by omega), if_neg (by omega), hk])
                  · have hw : syW code c = pickV code (pickC code c2 n) 40 := by rw [k3, n0]; rfl
                    have hi : syI code c = pickV code c2 n := by rw [k3, n0]; rfl
                    have hk : syC2 code c = pickC code (pickC code c2 n) 40 := by rw [k3, n0]; rfl
                    have el := syE_len code hc
                    unfold sysC
                    first | (rw [if_pos (by omega), k3]) | (rw [if_neg (by omega), if_pos (by omega), hk]; try rfl) | (rw [if_neg (by omega), if_neg (by omega), if_pos (by omega), hk]; try rfl) | (rw [if_neg (by omega), if_neg (by omega), if_neg (by omega), hk])
                  · have hw : syW code c = pickV code (pickC code c2 n) 40 := by rw [k3, n0]; rfl
                    have hi : syI code c = pickV code c2 n := by rw [k3, n0]; rfl
                    have hk : syC2 code c = pickC code (pickC code c2 n) 40 := by rw [k3, n0]; rfl
                    have el := syE_len code hc
                    refine agg3 ?_ ?_ ?_
                    · unfold sysZ
                      first | (rw [if_pos (by omega), hk]; try rfl) | (rw [if_neg (by omega)]; assumption)
                    · unfold sysS
                      first | (rw [if_pos (by omega), hi, hk, ← k1, ← k0]; try rfl) | (rw [if_neg (by omega), if_pos (by omega)]; obtain ⟨k, j2, j3, j4⟩ := j1; have e := congrArg List.length j2; rw [List.length_append, List.length_replicate] at e; rw [j2, show k = 9 - (syN code c).toNat by omega]) | (rw [if_neg (by omega), if_neg (by omega)]; assumption)
                    · unfold sysK
                      first | (rw [if_pos (by omega), hi, hk, ← k2]; try rfl) | (rw [if_neg (by omega), if_pos (by omega), ← k2]; try rfl) | (rw [if_neg (by omega), if_neg (by omega), if_pos (by omega)]; obtain ⟨k, j2, j3, j4⟩ := j1; have e := congrArg List.length j2; rw [List.length_append, List.length_replicate] at e; rw [j3, show k = 9 - (syN code c).toNat by omega]) | (rw [if_neg (by omega), if_neg (by omega), if_neg (by omega)]; assumption)
      · intro b16
        try simp only [nrmT] at b16
        refine ⟨rfl, ?_, ?_, rfl, rfl, ?_⟩
        · have hw : syW code c = pickV code (pickC code c2 n) 40 := by rw [k3, n0]; rfl
          have hi : syI code c = pickV code c2 n := by rw [k3, n0]; rfl
          have hk : syC2 code c = pickC code (pickC code c2 n) 40 := by rw [k3, n0]; rfl
          have el := syE_len code hc
          unfold sysC
          first | (rw [if_pos (by omega), k3]) | (rw [if_neg (by omega), if_pos (by omega), hk]; try rfl) | (rw [if_neg (by omega), if_neg (by omega), if_pos (by omega), hk]; try rfl) | (rw [if_neg (by omega), if_neg (by omega), if_neg (by omega), hk])
        · have hw : syW code c = pickV code (pickC code c2 n) 40 := by rw [k3, n0]; rfl
          have hi : syI code c = pickV code c2 n := by rw [k3, n0]; rfl
          have hk : syC2 code c = pickC code (pickC code c2 n) 40 := by rw [k3, n0]; rfl
          have el := syE_len code hc
          unfold sysC
          first | (rw [if_pos (by omega), k3]) | (rw [if_neg (by omega), if_pos (by omega), hk]; try rfl) | (rw [if_neg (by omega), if_neg (by omega), if_pos (by omega), hk]; try rfl) | (rw [if_neg (by omega), if_neg (by omega), if_neg (by omega), hk])
        · have hw : syW code c = pickV code (pickC code c2 n) 40 := by rw [k3, n0]; rfl
          have hi : syI code c = pickV code c2 n := by rw [k3, n0]; rfl
          have hk : syC2 code c = pickC code (pickC code c2 n) 40 := by rw [k3, n0]; rfl
          have el := syE_len code hc
          refine agg3 ?_ ?_ ?_
          · unfold sysZ
            first | (rw [if_pos (by omega), hk]; try rfl) | (rw [if_neg (by omega)]; assumption)
          · unfold sysS
            first | (rw [if_pos (by omega), hi, hk, ← k1, ← k0]; try rfl) | (rw [if_neg (by omega), if_pos (by omega)]; obtain ⟨k, j2, j3, j4⟩ := j1; have e := congrArg List.length j2; rw [List.length_append, List.length_replicate] at e; rw [j2, show k = 9 - (syN code c).toNat by omega]) | (rw [if_neg (by omega), if_neg (by omega)]; assumption)
          · unfold sysK
            first | (rw [if_pos (by omega), hi, hk, ← k2]; try rfl) | (rw [if_neg (by omega), if_pos (by omega), ← k2]; try rfl) | (rw [if_neg (by omega), if_neg (by omega), if_pos (by omega)]; obtain ⟨k, j2, j3, j4⟩ := j1; have e := congrArg List.length j2; rw [List.length_append, List.length_replicate] at e; rw [j3, show k = 9 - (syN code c).toNat by omega]) | (rw [if_neg (by omega), if_neg (by omega), if_neg (by omega)]; assumption)
theorem s_l1Cur_system_pk (code : List Nat) (c : Cur) (hb : ∀ x9 ∈ code, x9 < 256) (hc : okC c 1000000) : PK Try.prog 163 98 (.sl (.bytes code)) [.int .i64 c.pos, .int .u64 c.seed] [.int .i64 (sysC code c).pos, .int .u64 (sysC code c).seed] [] (.one (.d (.agg [.int .i64 (sysZ code c), .sl (.rows (sysS code c)), .sl (.ints (sysK code c))]))) :=
  pk_by (Q := fun u => s_l1Cur_system_P u code c) (by kernel_rfl) Try.func163 @Try.call163 (by kernel_rfl) s_l1Cur_system_C (fun u => s_l1Cur_system_A u code c) (by kernel_rfl) (fun u => s_l1Cur_system_vc u code c hb hc) (fun u => by kernel_rfl)
def hdN (code : List Nat) : Int := max (min (sysZ code cur0) 8) 0
def hdC (code : List Nat) : Cur := pickC code (sysC code cur0) 256
def hdO (code : List Nat) : List Int := members (fun k => (pickV code (sysC code cur0) 256).toNat.testBit k) (hdN code).toNat
def hdE (code : List Nat) : List Int := if pickV code (hdC code) 20 = 0 then hdO code ++ [([-1, 0, 8] : List Int).getD (pickV code (pickC code (hdC code) 20) 3).toNat 0] else hdO code
theorem hdO_len (code : List Nat) : (hdO code).length ≤ 8 := by
  have h := members_len_le (fun k => (pickV code (sysC code cur0) 256).toNat.testBit k) (hdN code).toNat
  have h2 : hdN code ≤ 8 := by unfold hdN; omega
  unfold hdO
  omega
def s_DrawIsHitting_C (f : FuncId) (ds : List D) : Orc := bif Nat.beq f 165 then s_l1Least_orc ds else bif Nat.beq f 152 then s_l1Most_orc ds else .no
def s_DrawIsHitting_A (code : List Nat) : Ann := .two (.none) (.two (.none) (.two (.mark [] [(1, .cell [.int .i64 ((sysC code cur0).pos), .int .u64 ((sysC code cur0).seed)] (.one (.d (.agg [.int .i64 (sysZ code cur0), .sl (.rows (sysS code cur0)), .sl (.ints (sysK code cur0))]))))]) (.two (.mark [(6, .call none (.one (.own 3 (.ints (members (fun k => (pickV code (sysC code cur0) 256).toNat.testBit k) (max (min (sysZ code cur0) 8) 0).toNat)))))] [(5, .cell [.int .i64 ((pickC code (sysC code cur0) 256).pos), .int .u64 ((pickC code (sysC code cur0) 256).seed)] (.one (.d (.int .i64 (pickV code (sysC code cur0) 256)))))]) (.two (.two (.mark [] [(1, .cell [.int .i64 ((pickC code (pickC code (sysC code cur0) 256) 20).pos), .int .u64 ((pickC code (pickC code (sysC code cur0) 256) 20).seed)] (.one (.d (.bool (pickV code (pickC code (sysC code cur0) 256) 20 == 0)))))]) (.two (.mark [] [(3, .cell [.int .i64 ((pickC code (pickC code (pickC code (sysC code cur0) 256) 20) (([(-1), 0, 8]).length : Int)).pos), .int .u64 ((pickC code (pickC code (pickC code (sysC code cur0) 256) 20) (([(-1), 0, 8]).length : Int)).seed)] (.one (.d (.int .i64 (([(-1), 0, 8]).getD (pickV code (pickC code (pickC code (sysC code cur0) 256) 20) (([(-1), 0, 8]).length : Int)).toNat 0)))))]) (.none))) (.none)))))
def s_DrawIsHitting_P (code : List Nat) : Prop :=
  (PK Try.prog 163 98 (.sl (.bytes code)) [.int .i64 0, .int .u64 0] [.int .i64 ((sysC code cur0).pos), .int .u64 ((sysC code cur0).seed)] [] (.one (.d (.agg [.int .i64 (sysZ code cur0), .sl (.rows (sysS code cur0)), .sl (.ints (sysK code cur0))])))) ∧ (PC Try.prog 165 [.int .i64 (sysZ code cur0), .int .i64 8] (.one (.d (.int .i64 (min (sysZ code cur0) 8))))) ∧ (PC Try.prog 152 [.int .i64 (min (sysZ code cur0) 8), .int .i64 0] (.one (.d (.int .i64 (max (min (sysZ code cur0) 8) 0))))) ∧ (PK Try.prog 107 98 (.sl (.bytes code)) [.int .i64 ((sysC code cur0).pos), .int .u64 ((sysC code cur0).seed)] [.int .i64 ((pickC code (sysC code cur0) 256).pos), .int .u64 ((pickC code (sysC code cur0) 256).seed)] [.int .i64 256] (.one (.d (.int .i64 (pickV code (sysC code cur0) 256))))) ∧ (PC Try.prog 164 [.int .i64 (max (min (sysZ code cur0) 8) 0), .int .i64 (pickV code (sysC code cur0) 256)] (.one (.own 3 (.ints (members (fun k => (pickV code (sysC code cur0) 256).toNat.testBit k) (max (min (sysZ code cur0) 8) 0).toNat))))) ∧ (PK Try.prog 108 98 (.sl (.bytes code)) [.int .i64 ((pickC code (sysC code cur0) 256).pos), .int .u64 ((pickC code (sysC code cur0) 256).seed)] [.int .i64 ((pickC code (pickC code (sysC code cur0) 256) 20).pos), .int .u64 ((pickC code (pickC code (sysC code cur0) 256) 20).seed)] [.int .i64 20] (.one (.d (.bool (pickV code (pickC code (sysC code cur0) 256) 20 == 0))))) ∧ (((pickV code (pickC code (sysC code cur0) 256) 20 == 0) = true → ((3 : Nat) = 3) ∧ (PK Try.prog 106 98 (.sl (.bytes code)) [.int .i64 ((pickC code (pickC code (sysC code cur0) 256) 20).pos), .int .u64 ((pickC code (pickC code (sysC code cur0) 256) 20).seed)] [.int .i64 ((pickC code (pickC code (pickC code (sysC code cur0) 256) 20) (([(-1), 0, 8]).length : Int)).pos), .int .u64 ((pickC code (pickC code (pickC code (sysC code cur0) 256) 20) (([(-1), 0, 8]).length : Int)).seed)] [.sl (.ints ([(-1), 0, 8]))] (.one (.d (.int .i64 (([(-1), 0, 8]).getD (pickV code (pickC code (pickC code (sysC code cur0) 256) 20) (([(-1), 0, 8]).length : Int)).toNat 0))))) ∧ ((members (fun k => (pickV code (sysC code cur0) 256).toNat.testBit k) (max (min (sysZ code cur0) 8) 0).toNat).length = (members (fun k => (pickV code (sysC code cur0) 256).toNat.testBit k) (max (min (sysZ code cur0) 8) 0).toNat).length) ∧ ((1 : Nat) = 1) ∧ (((members (fun k => (pickV code (sysC code cur0) 256).toNat.testBit k) (max (min (sysZ code cur0) 8) 0).toNat).length + 1) * 8 ≤ 140737488355328) ∧ (((.agg [.int .i64 (sysZ code cur0), .sl (.rows (sysS code cur0)), .sl (.ints (sysK code cur0))] : D) = .agg [.int .i64 (sysZ code cur0), .sl (.rows (sysS code cur0)), .sl (.ints (sysK code cur0))]) ∧ (((members (fun k => (pickV code (sysC code cur0) 256).toNat.testBit k) (max (min (sysZ code cur0) 8) 0).toNat).length + 1) = (members (fun k => (pickV code (sysC code cur0) 256).toNat.testBit k) (max (min (sysZ code cur0) 8) 0).toNat ++ [(([(-1), 0, 8]).getD (pickV code (pickC code (pickC code (sysC code cur0) 256) 20) (([(-1), 0, 8]).length : Int)).toNat 0)]).length) ∧ (((members (fun k => (pickV code (sysC code cur0) 256).toNat.testBit k) (max (min (sysZ code cur0) 8) 0).toNat ++ [(([(-1), 0, 8]).getD (pickV code (pickC code (pickC code (sysC code cur0) 256) 20) (([(-1), 0, 8]).length : Int)).toNat 0)]) : List Int) = hdE code))) ∧ ((pickV code (pickC code (sysC code cur0) 256) 20 == 0) = false → (((.agg [.int .i64 (sysZ code cur0), .sl (.rows (sysS code cur0)), .sl (.ints (sysK code cur0))] : D) = .agg [.int .i64 (sysZ code cur0), .sl (.rows (sysS code cur0)), .sl (.ints (sysK code cur0))]) ∧ ((members (fun k => (pickV code (sysC code cur0) 256).toNat.testBit k) (max (min (sysZ code cur0) 8) 0).toNat).length = (members (fun k => (pickV code (sysC code cur0) 256).toNat.testBit k) (max (min (sysZ code cur0) 8) 0).toNat).length) ∧ ((members (fun k => (pickV code (sysC code cur0) 256).toNat.testBit k) (max (min (sysZ code cur0) 8) 0).toNat : List Int) = hdE code))))
theorem s_DrawIsHitting_vc (code : List Nat) (hb : ∀ x9 ∈ code, x9 < 256) (w_code : (code.length : Int) ≤ 9223372036854775807) : s_DrawIsHitting_P code := by
  unfold s_DrawIsHitting_P
  refine ⟨?_, s_l1Least_pc (sysZ code cur0) 8, s_l1Most_pc (min (sysZ code cur0) 8) 0, ?_, ?_, ?_, ?_, ?_⟩
  · refine s_l1Cur_system_pk code cur0 ?_ ?_
    · exact hb
    · exact okC_le (by repeat (first | assumption | apply ok_pick | apply ok_next | apply ok_sys | exact okC0)) (by omega)
  · refine s_l1Cur_pick_pk code (sysC code cur0) 256 ?_ ?_
    · exact hb
    · exact okC_le (by repeat (first | assumption | apply ok_pick | apply ok_next | apply ok_sys | exact okC0)) (by omega)
  · refine s_l2Bits_own_pc (max (min (sysZ code cur0) 8) 0) (pickV code (sysC code cur0) 256) ?_ ?_
    · omega
    · have v := pickV_in code (sysC code cur0) (n := 256) (by omega)
      omega
  · refine s_l1Cur_one_pk code (pickC code (sysC code cur0) 256) 20 ?_ ?_
    · exact hb
    · exact okC_le (by repeat (first | assumption | apply ok_pick | apply ok_next | apply ok_sys | exact okC0)) (by omega)
  · intro b1
    try simp only [nrmT] at b1
    refine ⟨rfl, ?_, rfl, rfl, ?_, rfl, ?_, ?_⟩
    · refine s_l1Cur_among_pk code (pickC code (pickC code (sysC code cur0) 256) 20) ([(-1), 0, 8]) ?_ ?_ ?_
      · exact hb
      · exact okC_le (by repeat (first | assumption | apply ok_pick | apply ok_next | apply ok_sys | exact okC0)) (by omega)
      · first | omega | rfl | (intro hg; simp only [nrmT] at hg; omega) | (intro g1 g2; simp [g1, g2]; done) | (intro g1; simp at g1 ⊢; simp [g1]; done) | (simp only [nrmT] at *; omega) | (simp at * <;> omega) | (simp_all <;> omega) | (simp_all; done)
    · have h := hdO_len code
      show ((hdO code).length + 1) * 8 ≤ _
      omega
    · first | omega | rfl | (intro hg; simp only [nrmT] at hg; omega) | (intro g1 g2; simp [g1, g2]; done) | (intro g1; simp at g1 ⊢; simp [g1]; done) | (simp only [nrmT] at *; omega) | (simp at * <;> omega) | (simp_all <;> omega) | (simp_all; done)
    · have hc : hdC code = pickC code (sysC code cur0) 256 := rfl
      unfold hdE
      first | (rw [hc, if_pos b1]; rfl) | (rw [hc, if_neg b1]; rfl)
  · intro b2
    try simp only [nrmT] at b2
    refine ⟨rfl, rfl, ?_⟩
    · have hc : hdC code = pickC code (sysC code cur0) 256 := rfl
      unfold hdE
      first | (rw [hc, if_pos b2]; rfl) | (rw [hc, if_neg b2]; rfl)
theorem s_DrawIsHitting_pc (code : List Nat) (hb : ∀ x9 ∈ code, x9 < 256) : PC Try.prog 73 [.sl (.bytes code)] (.tup [.d (.agg [.int .i64 (sysZ code cur0), .sl (.rows (sysS code cur0)), .sl (.ints (sysK code cur0))]), .own 3 (.ints (hdE code))]) :=
  pc_wf @Try.call73 fun hw => pc_by (by kernel_rfl) Try.func73 @Try.call73 (by kernel_rfl) s_DrawIsHitting_C (s_DrawIsHitting_A code) (by kernel_rfl) (s_DrawIsHitting_vc code hb hw.1) (by kernel_rfl)
def s_DrawIsHitting_orc : List D → Orc := orcN [some .bytes] fun ds => match ds with
  | [.sl (.bytes code)] => some (.tup [.d (.agg [.int .i64 (sysZ code cur0), .sl (.rows (sysS code cur0)), .sl (.ints (sysK code cur0))]), .own 3 (.ints (hdE code))])
  | _ => none
theorem nodup_sub : ∀ {l m : List Int}, l.Nodup → (∀ x ∈ l, x ∈ m) → l.length ≤ m.length
  | [], _, _, _ => Nat.zero_le _
  | x :: r, m, hn, hs => by
    rw [List.nodup_cons] at hn
    have hx := hs x List.mem_cons_self
    have h1 := nodup_sub (l := r) (m := m.erase x) hn.2 fun y hy => by
      have hne : y ≠ x := fun e => hn.1 (e ▸ hy)
      exact (List.mem_erase_of_ne hne).2 (hs y (List.mem_cons_of_mem _ hy))
    have h2 := List.length_erase_of_mem hx
    have h3 := List.length_pos_of_mem hx
    simp only [List.length_cons]
    omega
theorem rising_chs {n : Nat} {s : List Int} (h : rising s 0 ((n : Int) - 1) = true) : s ∈ chs n := by
  have ha := asc_rising h
  have hr := rising_mem h
  have hp : ∀ x ∈ s, 0 ≤ x ∧ x < (n : Int) := fun x hx => by have := hr x hx; omega
  refine chs_mem.2 ⟨bagN s, bagN_lt (m := n) hp, ?_⟩
  unfold lst
  refine asc_ext (asc_members _ _) ha fun x => ?_
  rw [mem_members]
  constructor
  · rintro ⟨h1, h2, h3⟩
    rw [bagN_bit fun y hy => (hp y hy).1, List.contains_iff_mem, show ((x.toNat : Nat) : Int) = x by omega] at h3
    exact h3
  · intro hx
    have h1 := hp x hx
    refine ⟨h1.1, h1.2, ?_⟩
    rw [bagN_bit fun y hy => (hp y hy).1, List.contains_iff_mem, show ((x.toNat : Nat) : Int) = x by omega]
    exact hx
theorem cost_ones {n : Nat} {s : List Int} (h : rising s 0 ((n : Int) - 1) = true) : costOf (List.replicate n 1) s = (s.length : Int) := by
  unfold costOf
  have key : ∀ k, k ≤ s.length → sumTo (costAt (List.replicate n 1) s) k = (k : Int) := by
    intro k
    induction k with
    | zero => intro _; rfl
    | succ k ih =>
      intro hk
      have e : sumTo (costAt (List.replicate n 1) s) (k + 1) = sumTo (costAt (List.replicate n 1) s) k + costAt (List.replicate n 1) s k := rfl
      have h1 := rising_at h k (by omega)
      have h2 : costAt (List.replicate n 1) s k = 1 := by
        unfold costAt
        rw [getD_get (by rw [List.length_replicate]; omega), List.getElem_replicate]
      rw [e, ih (by omega), h2]
      omega
  exact key _ (Nat.le_refl _)
theorem hits_has {Sets : List (List Int)} {els : List Int} (h : hitsB Sets els = true) {i : Nat} (hi : i < Sets.length) : ∃ x, x ∈ Sets.getD i [] ∧ x ∈ els := by
  have h1 := allTo_iff.1 h i hi
  rw [Bool.not_eq_true', beq_eq_false_iff_ne] at h1
  have h2 : ¬ ∀ j, j < (Sets.getD i []).length → els.contains ((Sets.getD i []).getD j 0) = false := fun h3 => h1 (newTo_all _ |>.2 h3)
  apply Classical.byContradiction
  intro h3
  refine h2 fun j hj => ?_
  cases hc : els.contains ((Sets.getD i []).getD j 0) with
  | false => rfl
  | true => exact (h3 ⟨_, getD_mem hj, List.contains_iff_mem.1 hc⟩).elim
theorem pack_apart {Sets : List (List Int)} {p : List Int} (h : packB Sets p = true) {i k : Nat} (hk : k < i) (hi : i < p.length) {x : Int} (hx : x ∈ Sets.getD (p.getD i 0).toNat []) : x ∉ Sets.getD (p.getD k 0).toNat [] := by
  intro hy
  have h1 := allTo_iff.1 h i hi
  unfold pkAt at h1
  rw [Bool.not_eq_true', Bool.or_eq_false_iff] at h1
  have h2 := of_decide_eq_false h1.2
  have h3 := newOf_bound (Sets.getD (p.getD i 0).toNat []) (covL Sets p i)
  have h4 := (newTo_all _).1 (show sumTo (newAt (Sets.getD (p.getD i 0).toNat []) (covL Sets p i)) (Sets.getD (p.getD i 0).toNat []).length = ((Sets.getD (p.getD i 0).toNat []).length : Int) by unfold newOf at h2 h3; omega)
  obtain ⟨j, hj, e⟩ := List.mem_iff_getElem.1 hx
  have h5 := h4 j hj
  rw [getD_get hj, e] at h5
  have h6 := List.contains_iff_mem.2 ((mem_covL (choice := p) (Sets := Sets) i).2 ⟨k, hk, hy⟩)
  rw [h5] at h6
  cases h6
theorem pack_le {Size : Int} {Sets : List (List Int)} {Costs p els : List Int} (h : packB Sets p = true) (hr : rising p 0 ((Sets.length : Int) - 1) = true) (hh : hitsB Sets els = true) : p.length ≤ els.length := by
  have hx : ∀ i, i < p.length → ∃ x, x ∈ Sets.getD (p.getD i 0).toNat [] ∧ x ∈ els := fun i hi => by
    have := rising_at hr i hi
    exact hits_has hh (by omega)
  let f : Nat → Int := fun i => if hi : i < p.length then Classical.choose (hx i hi) else 0
  have hf : ∀ i, i < p.length → f i ∈ Sets.getD (p.getD i 0).toNat [] ∧ f i ∈ els := fun i hi => by
    have := Classical.choose_spec (hx i hi)
    simp only [f, dif_pos hi]
    exact this
  have hn : ((List.range p.length).map f).Nodup := by
    rw [List.nodup_iff_pairwise_ne, List.pairwise_map]
    refine List.Pairwise.imp_of_mem ?_ List.pairwise_lt_range
    intro a b ha hb hab e
    have h1 := hf a (List.mem_range.1 ha)
    have h2 := hf b (List.mem_range.1 hb)
    exact pack_apart h hab (List.mem_range.1 hb) h2.1 (e ▸ h1.1)
  have := nodup_sub hn fun x hx => by
    obtain ⟨i, hi, rfl⟩ := List.mem_map.1 hx
    exact (hf i (List.mem_range.1 hi)).2
  simpa using this
def tsZ (Size : Int) (Sets : List (List Int)) (Costs : List Int) : Int := if goodSys Size Sets Costs = true then (Sets.length : Int) else 0
def tsR (Size : Int) (Sets : List (List Int)) (Costs : List Int) : List (List Int) := if goodSys Size Sets Costs = true then turnR Sets Size.toNat else []
def tsC (Size : Int) (Sets : List (List Int)) (Costs : List Int) : List Int := if goodSys Size Sets Costs = true then List.replicate Size.toNat 1 else []
theorem turnR_len (Sets : List (List Int)) (n : Nat) : (turnR Sets n).length = n := by unfold turnR; rw [tabTo_len]
theorem lh_cover {Size : Int} {Sets : List (List Int)} {Costs : List Int} (h : goodSys Size Sets Costs = true) : lcL (tsZ Size Sets Costs) (tsR Size Sets Costs) (tsC Size Sets Costs) = lhL Size Sets Costs ∧ lcOk (tsZ Size Sets Costs) (tsR Size Sets Costs) (tsC Size Sets Costs) = lhOk Size Sets Costs := by
  unfold tsZ tsR tsC lhL lhOk
  rw [if_pos h, if_pos h, if_pos h, if_pos h, h, Bool.true_and]
  exact ⟨rfl, rfl⟩
theorem lh_hits {Size : Int} {Sets : List (List Int)} {Costs : List Int} (h : lhOk Size Sets Costs = true) : goodSys Size Sets Costs = true ∧ rising (lhL Size Sets Costs) 0 (Size - 1) = true ∧ hitsB Sets (lhL Size Sets Costs) = true := by
  unfold lhOk at h
  rw [Bool.and_eq_true] at h
  obtain ⟨hg, hl⟩ := h
  have gf := gs_facts hg
  have hl2 := hl
  unfold lcOk at hl
  rw [Bool.and_eq_true] at hl
  have hm := leastL_mem (v := costOf (List.replicate Size.toNat 1)) (lc_pos hl.2)
  have e : lhL Size Sets Costs = lcS (Sets.length : Int) (turnR Sets Size.toNat) (List.replicate Size.toNat 1) := by
    unfold lhL lcL
    rw [if_pos hg, if_pos hl2]
  obtain ⟨h1, h2⟩ := List.mem_filter.1 hm
  have h3 : rising (lhL Size Sets Costs) 0 (Size - 1) = true := by
    have e0 : ((turnR Sets Size.toNat).length : Int) - 1 = Size - 1 := by rw [turnR_len]; omega
    rw [e, ← e0]; exact chs_rising h1
  refine ⟨hg, h3, ?_⟩
  rw [← hits_turn h3, e]
  exact h2
theorem lh_least {Size : Int} {Sets : List (List Int)} {Costs els : List Int} (hg : goodSys Size Sets Costs = true) (hr : rising els 0 (Size - 1) = true) (hh : hitsB Sets els = true) : lhOk Size Sets Costs = true ∧ (lhL Size Sets Costs).length ≤ els.length := by
  have gf := gs_facts hg
  rw [← hits_turn hr] at hh
  have hr2 : rising els 0 (((turnR Sets Size.toNat).length : Int) - 1) = true := by rw [turnR_len, show ((Size.toNat : Nat) : Int) = Size by omega]; exact hr
  have hm := rising_chs hr2
  have hc := cover_all (chs_inR hm) hh
  have hk : lcOk (Sets.length : Int) (turnR Sets Size.toNat) (List.replicate Size.toNat 1) = true := by unfold lcOk; rw [turn_good hg, hc]; rfl
  have ho : lhOk Size Sets Costs = true := by unfold lhOk; rw [hg, hk]; rfl
  refine ⟨ho, ?_⟩
  have e : lhL Size Sets Costs = lcS (Sets.length : Int) (turnR Sets Size.toNat) (List.replicate Size.toNat 1) := by
    unfold lhL lcL
    rw [if_pos hg, if_pos hk]
  have h1 := leastL_min (v := costOf (List.replicate Size.toNat 1)) (List.mem_filter.2 ⟨hm, hh⟩)
  have h2 := (lh_hits ho).2.1
  have hs : (Size.toNat : Int) - 1 = Size - 1 := by omega
  have h4 : costOf (List.replicate Size.toNat 1) els = (els.length : Int) := cost_ones (n := Size.toNat) (by rw [hs]; exact hr)
  rw [h4] at h1
  have h3 : costOf (List.replicate Size.toNat 1) (lhL Size Sets Costs) = ((lhL Size Sets Costs).length : Int) := cost_ones (n := Size.toNat) (by rw [hs]; exact h2)
  rw [e] at h3 ⊢
  unfold lcS at h3 ⊢
  omega
theorem lp_pack {Size : Int} {Sets : List (List Int)} {Costs : List Int} (h : goodSys Size Sets Costs = true) : packB Sets (lpL Size Sets Costs) = true ∧ rising (lpL Size Sets Costs) 0 ((Sets.length : Int) - 1) = true := by
  have e : lpL Size Sets Costs = lpS Sets := by unfold lpL; rw [if_pos h]
  have hm := leastL_mem (v := fun s9 => -(s9.length : Int)) (chs_pos (n := Sets.length) (packB_nil Sets))
  obtain ⟨h1, h2⟩ := List.mem_filter.1 hm
  rw [e]
  exact ⟨h2, chs_rising h1⟩
def s_TurnSystem_C (f : FuncId) (ds : List D) : Orc := bif Nat.beq f 122 then s_l6Good_orc ds else bif Nat.beq f 123 then s_l6Turned_orc ds else .no
def s_TurnSystem_A (Size : Int) (Sets : List (List Int)) (Costs : List Int) : Ann := .none
def s_TurnSystem_P (Size : Int) (Sets : List (List Int)) (Costs : List Int) : Prop :=
  (PC Try.prog 122 [.agg [.int .i64 Size, .sl (.rows Sets), .sl (.ints Costs)]] (.one (.d (.bool (goodSys Size Sets Costs))))) ∧ (((!(goodSys Size Sets Costs)) = true → (((0 : Int) = (tsZ Size Sets Costs)) ∧ ((tsR Size Sets Costs).length = 0) ∧ ((tsC Size Sets Costs).length = 0) ∧ (false = (goodSys Size Sets Costs)))) ∧ ((!(goodSys Size Sets Costs)) = false → (PC Try.prog 123 [.agg [.int .i64 Size, .sl (.rows Sets), .sl (.ints Costs)]] (.one (.d (.agg [.int .i64 (Sets.length : Int), .sl (.rows (turnR Sets Size.toNat)), .sl (.ints (List.replicate Size.toNat 1))])))) ∧ (((.agg [.int .i64 (Sets.length : Int), .sl (.rows (turnR Sets Size.toNat)), .sl (.ints (List.replicate Size.toNat 1))] : D) = .agg [.int .i64 (tsZ Size Sets Costs), .sl (.rows (tsR Size Sets Costs)), .sl (.ints (tsC Size Sets Costs))]) ∧ (true = (goodSys Size Sets Costs)))))
theorem s_TurnSystem_vc (Size : Int) (Sets : List (List Int)) (Costs : List Int)  (w_Sets : (Sets.length : Int) ≤ 9223372036854775807) (v_Sets : ∀ x9 ∈ Sets, (x9.length : Int) ≤ 9223372036854775807) (w_Costs : (Costs.length : Int) ≤ 9223372036854775807) : s_TurnSystem_P Size Sets Costs := by
  unfold s_TurnSystem_P
  refine ⟨s_l6Good_pc Size Sets Costs, ?_, ?_⟩
  · intro b1
    try simp only [nrmT] at b1
    refine ⟨?_, ?_, ?_, ?_⟩
    · have hq : goodSys Size Sets Costs = false := by simpa using b1
      unfold tsZ; rw [hq]; rfl
    · have hq : goodSys Size Sets Costs = false := by simpa using b1
      unfold tsR; rw [hq]; rfl
    · have hq : goodSys Size Sets Costs = false := by simpa using b1
      unfold tsC; rw [hq]; rfl
    · have hq : goodSys Size Sets Costs = false := by simpa using b1
      exact hq.symm
  · intro b2
    try simp only [nrmT] at b2
    refine ⟨?_, ?_, ?_⟩
    · refine s_l6Turned_pc Size Sets Costs ?_
      · have hq : goodSys Size Sets Costs = true := by simpa using b2
        exact hq
    · have hq : goodSys Size Sets Costs = true := by simpa using b2
      unfold tsZ tsR tsC; rw [if_pos hq, if_pos hq, if_pos hq]
    · have hq : goodSys Size Sets Costs = true := by simpa using b2
      exact hq.symm
theorem s_TurnSystem_pc (Size : Int) (Sets : List (List Int)) (Costs : List Int)  : PC Try.prog 31 [.agg [.int .i64 Size, .sl (.rows Sets), .sl (.ints Costs)]] (.tup [.d (.agg [.int .i64 (tsZ Size Sets Costs), .sl (.rows (tsR Size Sets Costs)), .sl (.ints (tsC Size Sets Costs))]), .d (.bool (goodSys Size Sets Costs))]) :=
  pc_wf @Try.call31 fun hw => pc_by (by kernel_rfl) Try.func31 @Try.call31 (by kernel_rfl) s_TurnSystem_C (s_TurnSystem_A Size Sets Costs) (by kernel_rfl) (s_TurnSystem_vc Size Sets Costs hw.1.2.1.1 hw.1.2.1.2 hw.1.2.2.1) (by kernel_rfl)
def s_TurnSystem_orc : List D → Orc := orcN [none] fun ds => match ds with
  | [.agg [.int .i64 Size, .sl (.rows Sets), .sl (.ints Costs)]] => some (.tup [.d (.agg [.int .i64 (tsZ Size Sets Costs), .sl (.rows (tsR Size Sets Costs)), .sl (.ints (tsC Size Sets Costs))]), .d (.bool (goodSys Size Sets Costs))])
  | _ => none
def i_TurnSystem_C (f : FuncId) (ds : List D) : Orc := bif Nat.beq f 76 then i_IsSystem_orc ds else bif Nat.beq f 124 then i_System_turned_orc ds else .no
def i_TurnSystem_A (Size : Int) (Sets : List (List Int)) (Costs : List Int) : Ann := .none
def i_TurnSystem_P (Size : Int) (Sets : List (List Int)) (Costs : List Int) : Prop :=
  (PC Try.prog 76 [.agg [.int .i64 Size, .sl (.rows Sets), .sl (.ints Costs)]] (.one (.d (.bool (goodSys Size Sets Costs))))) ∧ (((!(goodSys Size Sets Costs)) = true → (((0 : Int) = (tsZ Size Sets Costs)) ∧ ((tsR Size Sets Costs).length = 0) ∧ ((tsC Size Sets Costs).length = 0) ∧ (false = (goodSys Size Sets Costs)))) ∧ ((!(goodSys Size Sets Costs)) = false → (PC Try.prog 124 [.agg [.int .i64 Size, .sl (.rows Sets), .sl (.ints Costs)]] (.one (.d (.agg [.int .i64 (Sets.length : Int), .sl (.rows (turnR Sets Size.toNat)), .sl (.ints (List.replicate Size.toNat 1))])))) ∧ (((.agg [.int .i64 (Sets.length : Int), .sl (.rows (turnR Sets Size.toNat)), .sl (.ints (List.replicate Size.toNat 1))] : D) = .agg [.int .i64 (tsZ Size Sets Costs), .sl (.rows (tsR Size Sets Costs)), .sl (.ints (tsC Size Sets Costs))]) ∧ (true = (goodSys Size Sets Costs)))))
theorem i_TurnSystem_vc (Size : Int) (Sets : List (List Int)) (Costs : List Int)  (w_Sets : (Sets.length : Int) ≤ 9223372036854775807) (v_Sets : ∀ x9 ∈ Sets, (x9.length : Int) ≤ 9223372036854775807) (w_Costs : (Costs.length : Int) ≤ 9223372036854775807) : i_TurnSystem_P Size Sets Costs := by
  unfold i_TurnSystem_P
  refine ⟨i_IsSystem_pc Size Sets Costs, ?_, ?_⟩
  · intro b1
    try simp only [nrmT] at b1
    refine ⟨?_, ?_, ?_, ?_⟩
    · have hq : goodSys Size Sets Costs = false := by simpa using b1
      unfold tsZ; rw [hq]; rfl
    · have hq : goodSys Size Sets Costs = false := by simpa using b1
      unfold tsR; rw [hq]; rfl
    · have hq : goodSys Size Sets Costs = false := by simpa using b1
      unfold tsC; rw [hq]; rfl
    · have hq : goodSys Size Sets Costs = false := by simpa using b1
      exact hq.symm
  · intro b2
    try simp only [nrmT] at b2
    refine ⟨?_, ?_, ?_⟩
    · refine i_System_turned_pc Size Sets Costs ?_
      · have hq : goodSys Size Sets Costs = true := by simpa using b2
        exact hq
    · have hq : goodSys Size Sets Costs = true := by simpa using b2
      unfold tsZ tsR tsC; rw [if_pos hq, if_pos hq, if_pos hq]
    · have hq : goodSys Size Sets Costs = true := by simpa using b2
      exact hq.symm
theorem i_TurnSystem_pc (Size : Int) (Sets : List (List Int)) (Costs : List Int)  : PC Try.prog 33 [.agg [.int .i64 Size, .sl (.rows Sets), .sl (.ints Costs)]] (.tup [.d (.agg [.int .i64 (tsZ Size Sets Costs), .sl (.rows (tsR Size Sets Costs)), .sl (.ints (tsC Size Sets Costs))]), .d (.bool (goodSys Size Sets Costs))]) :=
  pc_wf @Try.call33 fun hw => pc_by (by kernel_rfl) Try.func33 @Try.call33 (by kernel_rfl) i_TurnSystem_C (i_TurnSystem_A Size Sets Costs) (by kernel_rfl) (i_TurnSystem_vc Size Sets Costs hw.1.2.1.1 hw.1.2.1.2 hw.1.2.2.1) (by kernel_rfl)
def i_TurnSystem_orc : List D → Orc := orcN [none] fun ds => match ds with
  | [.agg [.int .i64 Size, .sl (.rows Sets), .sl (.ints Costs)]] => some (.tup [.d (.agg [.int .i64 (tsZ Size Sets Costs), .sl (.rows (tsR Size Sets Costs)), .sl (.ints (tsC Size Sets Costs))]), .d (.bool (goodSys Size Sets Costs))])
  | _ => none
abbrev l_rHas_JJ0 (list : List Int) (x : Int) (i : Int) : Prop := (0 ≤ i) ∧ (i ≤ (list.length : Int)) ∧ (∀ j, j < i.toNat → list.getD j 0 ≠ x)
abbrev l_rHas_mJ0 (list : List Int) (x : Int) (i : Int) : Nat := (list.length - i).toNat
def l_rHas_C (f : FuncId) (ds : List D) : Orc := .no
def l_rHas_A (list : List Int) (x : Int) : Ann := .two (.none) (.two (.two (.none) (.loop (cut1 (fun (i : Int) => l_rHas_JJ0 list x i) (fun (i : Int) => [(0, .d false (.sl (.ints list))), (1, .d false (.int .i64 x)), (5, .d true (.int .i64 i))]) (fun (i : Int) => [])) (fun g => l_rHas_mJ0 list x g) (fun _ => .none))) (.none))
def l_rHas_P (list : List Int) (x : Int) : Prop :=
  ((∃ i' : Int, (l_rHas_JJ0 list x i') ∧ (list = list) ∧ (x = x) ∧ ((0 : Int) = i')) ∧ (∀ i : Int, (l_rHas_JJ0 list x i) → (((decide (i < (list.length : Int))) = true → ((0 : Int) ≤ i) ∧ ((i : Int) < list.length) ∧ (i.toNat < list.length) ∧ ((((list.getD i.toNat 0) == x) = true → ((true = (list.contains x)))) ∧ (((list.getD i.toNat 0) == x) = false → (-9223372036854775808 ≤ (i + 1) ∧ (i + 1) ≤ 9223372036854775807) ∧ (∃ i' : Int, (l_rHas_JJ0 list x i') ∧ (l_rHas_mJ0 list x i' < l_rHas_mJ0 list x i) ∧ (list = list) ∧ (x = x) ∧ ((i + 1) = i'))))) ∧ ((decide (i < (list.length : Int))) = false → ((false = (list.contains x)))))))
theorem l_rHas_vc (list : List Int) (x : Int)  (w_list : (list.length : Int) ≤ 9223372036854775807) : l_rHas_P list x := by
  unfold l_rHas_P
  refine ⟨?_, ?_⟩
  · refine ⟨0, ?_⟩
    refine ⟨?_, rfl, rfl, rfl⟩
    · refine ⟨?_, ?_, ?_⟩
      · omega
      · omega
      · intro j hj; exact absurd hj (by omega)
  · intro i hJ
    obtain ⟨h1, h2, h3⟩ := hJ
    refine ⟨?_, ?_⟩
    · intro b1
      try simp only [nrmT] at b1
      refine ⟨?_, ?_, ?_, ?_, ?_⟩
      · omega
      · omega
      · omega
      · intro b2
        try simp only [nrmT] at b2
        symm
        rw [List.contains_iff_mem]
        have e : list.getD i.toNat 0 = x := by simpa using b2
        rw [← e]; exact getD_memI h1 (by omega)
      · intro b3
        try simp only [nrmT] at b3
        refine ⟨?_, ?_⟩
        · omega
        · refine ⟨(i + 1), ?_⟩
          refine ⟨?_, ?_, rfl, rfl, rfl⟩
          · refine ⟨?_, ?_, ?_⟩
            · omega
            · omega
            · intro j hj
              by_cases e : j = i.toNat
              · rw [e]; simpa using b3
              · exact h3 j (by omega)
          · first | (show _ < _; omega) | (simp only [l_rHas_mJ0]; omega) | (simp only [l_rHas_mJ0] at *; simp at *; omega)
    · intro b4
      try simp only [nrmT] at b4
      symm
      rw [Bool.eq_false_iff, Ne, List.contains_iff_mem]
      intro hm
      obtain ⟨j, hj, e⟩ := List.mem_iff_getElem.1 hm
      exact h3 j (by omega) (by rw [getD_get hj]; exact e)
theorem l_rHas_pc (list : List Int) (x : Int)  : PC Try.prog 83 [.sl (.ints list), .int .i64 x] (.one (.d (.bool (list.contains x)))) :=
  pc_wf @Try.call83 fun hw => pc_by (by kernel_rfl) Try.func83 @Try.call83 (by kernel_rfl) l_rHas_C (l_rHas_A list x) (by kernel_rfl) (l_rHas_vc list x hw.1) (by kernel_rfl)
def l_rHas_orc : List D → Orc := orcN [some .ints, none] fun ds => match ds with
  | [.sl (.ints list), .int .i64 x] => some (.one (.d (.bool (list.contains x))))
  | _ => none
abbrev l_rTable_JJ0 (xs : List (List Int)) (ys : List (List Int)) (i : Int) : Prop := (0 ≤ i) ∧ (i ≤ (xs.length : Int)) ∧ (allTo (fun k => xs.getD k [] == ys.getD k []) i.toNat = true) ∧ (xs.length = ys.length)
abbrev l_rTable_mJ0 (xs : List (List Int)) (ys : List (List Int)) (i : Int) : Nat := (xs.length - i).toNat
def l_rTable_C (f : FuncId) (ds : List D) : Orc := bif Nat.beq f 18 then l_rInts_orc ds else .no
def l_rTable_A (xs : List (List Int)) (ys : List (List Int)) : Ann := .two (.none) (.two (.none) (.two (.two (.none) (.loop (cut1 (fun (i : Int) => l_rTable_JJ0 xs ys i) (fun (i : Int) => [(0, .d false (.sl (.rows xs))), (1, .d false (.sl (.rows ys))), (5, .d true (.int .i64 i))]) (fun (i : Int) => [])) (fun g => l_rTable_mJ0 xs ys g) (fun _ => .none))) (.none)))
def l_rTable_P (xs : List (List Int)) (ys : List (List Int)) : Prop :=
  ((((xs.length : Int) != (ys.length : Int)) = true → ((false = (xs == ys)))) ∧ (((xs.length : Int) != (ys.length : Int)) = false → ((∃ i' : Int, (l_rTable_JJ0 xs ys i') ∧ (xs = xs) ∧ (ys = ys) ∧ ((0 : Int) = i')) ∧ (∀ i : Int, (l_rTable_JJ0 xs ys i) → (((decide (i < (xs.length : Int))) = true → (true = true) ∧ ((0 : Int) ≤ i) ∧ ((i : Int) < xs.length) ∧ (i.toNat < xs.length) ∧ ((0 : Int) ≤ i) ∧ ((i : Int) < ys.length) ∧ (i.toNat < ys.length) ∧ (PC Try.prog 18 [.sl (.ints (xs.getD i.toNat [])), .sl (.ints (ys.getD i.toNat []))] (.one (.d (.bool ((xs.getD i.toNat []) == (ys.getD i.toNat [])))))) ∧ (((!((xs.getD i.toNat []) == (ys.getD i.toNat []))) = true → ((false = (xs == ys)))) ∧ ((!((xs.getD i.toNat []) == (ys.getD i.toNat []))) = false → (-9223372036854775808 ≤ (i + 1) ∧ (i + 1) ≤ 9223372036854775807) ∧ (∃ i' : Int, (l_rTable_JJ0 xs ys i') ∧ (l_rTable_mJ0 xs ys i' < l_rTable_mJ0 xs ys i) ∧ (xs = xs) ∧ (ys = ys) ∧ ((i + 1) = i'))))) ∧ ((decide (i < (xs.length : Int))) = false → ((true = (xs == ys)))))))))
theorem l_rTable_vc (xs : List (List Int)) (ys : List (List Int))  (w_xs : (xs.length : Int) ≤ 9223372036854775807) (v_xs : ∀ x9 ∈ xs, (x9.length : Int) ≤ 9223372036854775807) (w_ys : (ys.length : Int) ≤ 9223372036854775807) (v_ys : ∀ x9 ∈ ys, (x9.length : Int) ≤ 9223372036854775807) : l_rTable_P xs ys := by
  unfold l_rTable_P
  refine ⟨?_, ?_⟩
  · intro b1
    try simp only [nrmT] at b1
    exact (len_ne (by omega)).symm
  · intro b2
    try simp only [nrmT] at b2
    refine ⟨?_, ?_⟩
    · refine ⟨0, ?_⟩
      refine ⟨?_, rfl, rfl, rfl⟩
      · refine ⟨?_, ?_, ?_, ?_⟩
        · omega
        · omega
        · first | omega | rfl | (intro hg; simp only [nrmT] at hg; omega) | (intro g1 g2; simp [g1, g2]; done) | (intro g1; simp at g1 ⊢; simp [g1]; done) | (simp only [nrmT] at *; omega) | (simp at * <;> omega) | (simp_all <;> omega) | (simp_all; done)
        · omega
    · intro i hJ
      obtain ⟨h1, h2, h3, h4⟩ := hJ
      refine ⟨?_, ?_⟩
      · intro b3
        try simp only [nrmT] at b3
        refine ⟨rfl, ?_, ?_, ?_, ?_, ?_, ?_, l_rInts_pc (xs.getD i.toNat []) (ys.getD i.toNat []), ?_, ?_⟩
        · omega
        · omega
        · omega
        · omega
        · omega
        · omega
        · intro b4
          try simp only [nrmT] at b4
          rw [← beq_of_all (d := []) h4]; exact (allTo_falseI h1 (by omega) (by simpa using b4)).symm
        · intro b5
          try simp only [nrmT] at b5
          refine ⟨?_, ?_⟩
          · omega
          · refine ⟨(i + 1), ?_⟩
            refine ⟨?_, ?_, rfl, rfl, rfl⟩
            · refine ⟨?_, ?_, ?_, ?_⟩
              · omega
              · omega
              · exact allTo_step h1 h3 (by simpa using b5)
              · omega
            · first | (show _ < _; omega) | (simp only [l_rTable_mJ0]; omega) | (simp only [l_rTable_mJ0] at *; simp at *; omega)
      · intro b6
        try simp only [nrmT] at b6
        rw [← beq_of_all (d := []) h4, ← h3]; congr 1; omega
theorem l_rTable_pc (xs : List (List Int)) (ys : List (List Int))  : PC Try.prog 71 [.sl (.rows xs), .sl (.rows ys)] (.one (.d (.bool (xs == ys)))) :=
  pc_wf @Try.call71 fun hw => pc_by (by kernel_rfl) Try.func71 @Try.call71 (by kernel_rfl) l_rTable_C (l_rTable_A xs ys) (by kernel_rfl) (l_rTable_vc xs ys hw.1.1 hw.1.2 hw.2.1.1 hw.2.1.2) (by kernel_rfl)
def l_rTable_orc : List D → Orc := orcN [some .rows, some .rows] fun ds => match ds with
  | [.sl (.rows xs), .sl (.rows ys)] => some (.one (.d (.bool (xs == ys))))
  | _ => none
def l_rSystem_C (f : FuncId) (ds : List D) : Orc := bif Nat.beq f 71 then l_rTable_orc ds else bif Nat.beq f 18 then l_rInts_orc ds else .no
def l_rSystem_A (Size : Int) (Sets : List (List Int)) (Costs : List Int) (Size2 : Int) (Sets2 : List (List Int)) (Costs2 : List Int) : Ann := .none
def l_rSystem_P (Size : Int) (Sets : List (List Int)) (Costs : List Int) (Size2 : Int) (Sets2 : List (List Int)) (Costs2 : List Int) : Prop :=
  ((Size == Size2) = true → (Size == Size2) = true) ∧ ((Size == Size2) = true → (Size == Size2) = true) ∧ ((Size == Size2) = true → (Size == Size2) = true) ∧ ((Size == Size2) = true → (Size == Size2) = true) ∧ ((Size == Size2) = true → PC Try.prog 71 [.sl (.rows Sets), .sl (.rows Sets2)] (.one (.d (.bool (Sets == Sets2))))) ∧ (true = true) ∧ (((Size == Size2) = true → (Size == Size2) = true)) ∧ (((Size == Size2) = false → true = true)) ∧ ((cond (Size == Size2) (Sets == Sets2) false) = true → (cond (Size == Size2) (Sets == Sets2) false) = true) ∧ ((cond (Size == Size2) (Sets == Sets2) false) = true → (cond (Size == Size2) (Sets == Sets2) false) = true) ∧ ((cond (Size == Size2) (Sets == Sets2) false) = true → (cond (Size == Size2) (Sets == Sets2) false) = true) ∧ ((cond (Size == Size2) (Sets == Sets2) false) = true → (cond (Size == Size2) (Sets == Sets2) false) = true) ∧ ((cond (Size == Size2) (Sets == Sets2) false) = true → PC Try.prog 18 [.sl (.ints Costs), .sl (.ints Costs2)] (.one (.d (.bool (Costs == Costs2))))) ∧ (true = true) ∧ (((cond (Size == Size2) (Sets == Sets2) false) = true → (cond (Size == Size2) (Sets == Sets2) false) = true)) ∧ (((cond (Size == Size2) (Sets == Sets2) false) = false → true = true)) ∧ (((cond (cond (Size == Size2) (Sets == Sets2) false) (Costs == Costs2) false) = ((Size == Size2) && (Sets == Sets2) && (Costs == Costs2))))
theorem l_rSystem_vc (Size : Int) (Sets : List (List Int)) (Costs : List Int) (Size2 : Int) (Sets2 : List (List Int)) (Costs2 : List Int)  (w_Sets : (Sets.length : Int) ≤ 9223372036854775807) (v_Sets : ∀ x9 ∈ Sets, (x9.length : Int) ≤ 9223372036854775807) (w_Costs : (Costs.length : Int) ≤ 9223372036854775807) (w_Sets2 : (Sets2.length : Int) ≤ 9223372036854775807) (v_Sets2 : ∀ x9 ∈ Sets2, (x9.length : Int) ≤ 9223372036854775807) (w_Costs2 : (Costs2.length : Int) ≤ 9223372036854775807) : l_rSystem_P Size Sets Costs Size2 Sets2 Costs2 := by
  unfold l_rSystem_P
  refine ⟨id, id, id, id, fun _ => l_rTable_pc Sets Sets2, rfl, id, fun _ => rfl, id, id, id, id, fun _ => l_rInts_pc Costs Costs2, rfl, id, fun _ => rfl, ?_⟩
  · first | omega | rfl | (intro hg; simp only [nrmT] at hg; omega) | (intro g1 g2; simp [g1, g2]; done) | (intro g1; simp at g1 ⊢; simp [g1]; done) | (simp only [nrmT] at *; omega) | (simp at * <;> omega) | (simp_all <;> omega) | (simp_all; done)
theorem l_rSystem_pc (Size : Int) (Sets : List (List Int)) (Costs : List Int) (Size2 : Int) (Sets2 : List (List Int)) (Costs2 : List Int)  : PC Try.prog 77 [.agg [.int .i64 Size, .sl (.rows Sets), .sl (.ints Costs)], .agg [.int .i64 Size2, .sl (.rows Sets2), .sl (.ints Costs2)]] (.one (.d (.bool ((Size == Size2) && (Sets == Sets2) && (Costs == Costs2))))) :=
  pc_wf @Try.call77 fun hw => pc_by (by kernel_rfl) Try.func77 @Try.call77 (by kernel_rfl) l_rSystem_C (l_rSystem_A Size Sets Costs Size2 Sets2 Costs2) (by kernel_rfl) (l_rSystem_vc Size Sets Costs Size2 Sets2 Costs2 hw.1.2.1.1 hw.1.2.1.2 hw.1.2.2.1 hw.2.1.2.1.1 hw.2.1.2.1.2 hw.2.1.2.2.1) (by kernel_rfl)
def l_rSystem_orc : List D → Orc := orcN [none, none] fun ds => match ds with
  | [.agg [.int .i64 Size, .sl (.rows Sets), .sl (.ints Costs)], .agg [.int .i64 Size2, .sl (.rows Sets2), .sl (.ints Costs2)]] => some (.one (.d (.bool ((Size == Size2) && (Sets == Sets2) && (Costs == Costs2)))))
  | _ => none
abbrev l_FnHitting_JJ0 (code : List Nat) (E : List Int) (Z : Int) (S : List (List Int)) (K : List Int) (i : Int) : Prop := (goodSys Z S K = true) ∧ (0 ≤ i) ∧ (i ≤ ((lpL Z S K).length : Int))
abbrev l_FnHitting_mJ0 (code : List Nat) (E : List Int) (Z : Int) (S : List (List Int)) (K : List Int) (i : Int) : Nat := ((lpL Z S K).length - i).toNat
abbrev l_FnHitting_JJ1 (code : List Nat) (E : List Int) (Z : Int) (S : List (List Int)) (K : List Int) (i : Int) (k : Int) : Prop := (0 ≤ k) ∧ (k ≤ i)
abbrev l_FnHitting_mJ1 (code : List Nat) (E : List Int) (Z : Int) (S : List (List Int)) (K : List Int) (i : Int) (k : Int) : Nat := (i - k).toNat
abbrev l_FnHitting_JJ2 (code : List Nat) (E : List Int) (Z : Int) (S : List (List Int)) (K : List Int) (i : Int) (k : Int) (j : Int) : Prop := (0 ≤ j) ∧ (j ≤ ((S.getD ((lpL Z S K).getD i.toNat 0).toNat []).length : Int))
abbrev l_FnHitting_mJ2 (code : List Nat) (E : List Int) (Z : Int) (S : List (List Int)) (K : List Int) (i : Int) (k : Int) (j : Int) : Nat := ((S.getD ((lpL Z S K).getD i.toNat 0).toNat []).length - j).toNat
abbrev l_FnHitting_JR3 (code : List Nat) (E : List Int) (Z : Int) (S : List (List Int)) (K : List Int) : Prop := True
def l_FnHitting_C (f : FuncId) (ds : List D) : Orc := bif Nat.beq f 14 then l_rBig_orc ds else bif Nat.beq f 73 then s_DrawIsHitting_orc ds else bif Nat.beq f 74 then i_IsHitting_orc ds else bif Nat.beq f 75 then s_IsHitting_orc ds else bif Nat.beq f 33 then i_TurnSystem_orc ds else bif Nat.beq f 31 then s_TurnSystem_orc ds else bif Nat.beq f 76 then i_IsSystem_orc ds else bif Nat.beq f 77 then l_rSystem_orc ds else bif Nat.beq f 78 then i_LeastHitting_orc ds else bif Nat.beq f 79 then s_LeastHitting_orc ds else bif Nat.beq f 18 then l_rInts_orc ds else bif Nat.beq f 80 then i_LargestPacking_orc ds else bif Nat.beq f 81 then s_LargestPacking_orc ds else bif Nat.beq f 82 then i_LeastCover_orc ds else bif Nat.beq f 83 then l_rHas_orc ds else .no
def l_FnHitting_A (code : List Nat) : Ann := .two (.none) (.two (.none) (.cut (.none) (cut4 (fun (E : List Int) (Z : Int) (S : List (List Int)) (K : List Int) => l_FnHitting_JR3 code E Z S K) (fun (E : List Int) (Z : Int) (S : List (List Int)) (K : List Int) => [(3, .ptr 3 0), (4, .own 1500300 E.length)]) (fun (E : List Int) (Z : Int) (S : List (List Int)) (K : List Int) => [(1500300, .arr true 3 (.ints E)), (3, .box 36 [.d true (.int .i64 Z), .d true (.sl (.rows S)), .d true (.sl (.ints K))])])) (fun g => (fun (E : List Int) (Z : Int) (S : List (List Int)) (K : List Int) => .two (.none) (.two (.none) (.two (.none) (.two (.none) (.two (.none) (.two (.none) (.two (.none) (.two (.none) (.two (.none) (.two (.none) (.two (.none) (.two (.two (.none) (.loop (cut1 (fun (i : Int) => l_FnHitting_JJ0 code E Z S K i) (fun (i : Int) => [(3, .ptr 3 0), (13, .d true (.sl (.ints (lhL Z S K)))), (14, .d true (.bool (lhOk Z S K))), (17, .d true (.sl (.ints (lpL Z S K)))), (23, .d true (.int .i64 i))]) (fun (i : Int) => [(3, .box 36 [.d true (.int .i64 Z), .d true (.sl (.rows S)), .d true (.sl (.ints K))])])) (fun g => l_FnHitting_mJ0 code E Z S K g) (fun g => (fun (i : Int) => .two (.none) (.two (.two (.none) (.loop (cut1 (fun (k : Int) => l_FnHitting_JJ1 code E Z S K i k) (fun (k : Int) => [(3, .ptr 3 0), (13, .d true (.sl (.ints (lhL Z S K)))), (14, .d true (.bool (lhOk Z S K))), (17, .d true (.sl (.ints (lpL Z S K)))), (23, .d true (.int .i64 i)), (24, .d true (.int .i64 k))]) (fun (k : Int) => [(3, .box 36 [.d true (.int .i64 Z), .d true (.sl (.rows S)), .d true (.sl (.ints K))])])) (fun g => l_FnHitting_mJ1 code E Z S K i g) (fun g => (fun (k : Int) => .two (.none) (.two (.two (.none) (.loop (cut1 (fun (j : Int) => l_FnHitting_JJ2 code E Z S K i k j) (fun (j : Int) => [(3, .ptr 3 0), (13, .d true (.sl (.ints (lhL Z S K)))), (14, .d true (.bool (lhOk Z S K))), (17, .d true (.sl (.ints (lpL Z S K)))), (23, .d true (.int .i64 i)), (24, .d true (.int .i64 k)), (25, .d true (.int .i64 j))]) (fun (j : Int) => [(3, .box 36 [.d true (.int .i64 Z), .d true (.sl (.rows S)), .d true (.sl (.ints K))])])) (fun g => l_FnHitting_mJ2 code E Z S K i k g) (fun _ => .none))) (.none))) g))) (.none))) g))) (.none))))))))))))) (g.1) (g.2.1) (g.2.2.1) (g.2.2.2))))
def l_FnHitting_P (code : List Nat) : Prop :=
  (PC Try.prog 14 [.sl (.bytes code)] (.one (.d (.bool (decide ((code.length : Int) > 65536)))))) ∧ (((decide ((code.length : Int) > 65536)) = true → ((true = true))) ∧ ((decide ((code.length : Int) > 65536)) = false → (((PC Try.prog 73 [.sl (.bytes code)] (.tup [.d (.agg [.int .i64 (sysZ code cur0), .sl (.rows (sysS code cur0)), .sl (.ints (sysK code cur0))]), .own 3 (.ints (hdE code))])) ∧ (∃ E' : List Int, ∃ Z' : Int, ∃ S' : List (List Int), ∃ K' : List Int, (l_FnHitting_JR3 code E' Z' S' K') ∧ ((hdE code).length = E'.length) ∧ (hdE code = E') ∧ ((sysZ code cur0) = Z') ∧ ((sysS code cur0) = S') ∧ ((sysK code cur0) = K'))) ∧ (∀ E : List Int, ∀ Z : Int, ∀ S : List (List Int), ∀ K : List Int, (l_FnHitting_JR3 code E Z S K) → (E.length = E.length) ∧ (PC Try.prog 74 [.agg [.int .i64 Z, .sl (.rows S), .sl (.ints K)], .sl (.ints E)] (.tup [.d (.bool ((goodSys Z S K && rising E 0 (Z - 1)) && hitsB S E)), .d (.bool (goodSys Z S K && rising E 0 (Z - 1)))])) ∧ (E.length = E.length) ∧ (PC Try.prog 75 [.agg [.int .i64 Z, .sl (.rows S), .sl (.ints K)], .sl (.ints E)] (.tup [.d (.bool ((goodSys Z S K && rising E 0 (Z - 1)) && hitsB S E)), .d (.bool (goodSys Z S K && rising E 0 (Z - 1)))])) ∧ ((!(((goodSys Z S K && rising E 0 (Z - 1)) && hitsB S E) != ((goodSys Z S K && rising E 0 (Z - 1)) && hitsB S E))) = true → (!(((goodSys Z S K && rising E 0 (Z - 1)) && hitsB S E) != ((goodSys Z S K && rising E 0 (Z - 1)) && hitsB S E))) = true) ∧ ((!(((goodSys Z S K && rising E 0 (Z - 1)) && hitsB S E) != ((goodSys Z S K && rising E 0 (Z - 1)) && hitsB S E))) = true → (!(((goodSys Z S K && rising E 0 (Z - 1)) && hitsB S E) != ((goodSys Z S K && rising E 0 (Z - 1)) && hitsB S E))) = true) ∧ (true = true) ∧ (((((goodSys Z S K && rising E 0 (Z - 1)) && hitsB S E) != ((goodSys Z S K && rising E 0 (Z - 1)) && hitsB S E)) = true → true = true)) ∧ (((((goodSys Z S K && rising E 0 (Z - 1)) && hitsB S E) != ((goodSys Z S K && rising E 0 (Z - 1)) && hitsB S E)) = false → (!(((goodSys Z S K && rising E 0 (Z - 1)) && hitsB S E) != ((goodSys Z S K && rising E 0 (Z - 1)) && hitsB S E))) = true)) ∧ (((cond (((goodSys Z S K && rising E 0 (Z - 1)) && hitsB S E) != ((goodSys Z S K && rising E 0 (Z - 1)) && hitsB S E)) true ((goodSys Z S K && rising E 0 (Z - 1)) != (goodSys Z S K && rising E 0 (Z - 1)))) = true → ((false = true))) ∧ ((cond (((goodSys Z S K && rising E 0 (Z - 1)) && hitsB S E) != ((goodSys Z S K && rising E 0 (Z - 1)) && hitsB S E)) true ((goodSys Z S K && rising E 0 (Z - 1)) != (goodSys Z S K && rising E 0 (Z - 1)))) = false → (PC Try.prog 33 [.agg [.int .i64 Z, .sl (.rows S), .sl (.ints K)]] (.tup [.d (.agg [.int .i64 (tsZ Z S K), .sl (.rows (tsR Z S K)), .sl (.ints (tsC Z S K))]), .d (.bool (goodSys Z S K))])) ∧ (PC Try.prog 31 [.agg [.int .i64 Z, .sl (.rows S), .sl (.ints K)]] (.tup [.d (.agg [.int .i64 (tsZ Z S K), .sl (.rows (tsR Z S K)), .sl (.ints (tsC Z S K))]), .d (.bool (goodSys Z S K))])) ∧ ((!((goodSys Z S K) != (goodSys Z S K))) = true → (!((goodSys Z S K) != (goodSys Z S K))) = true) ∧ ((!((goodSys Z S K) != (goodSys Z S K))) = true → PC Try.prog 76 [.agg [.int .i64 Z, .sl (.rows S), .sl (.ints K)]] (.one (.d (.bool (goodSys Z S K))))) ∧ ((!((goodSys Z S K) != (goodSys Z S K))) = true → (!((goodSys Z S K) != (goodSys Z S K))) = true) ∧ ((!((goodSys Z S K) != (goodSys Z S K))) = true → (!((goodSys Z S K) != (goodSys Z S K))) = true) ∧ (true = true) ∧ ((((goodSys Z S K) != (goodSys Z S K)) = true → true = true)) ∧ ((((goodSys Z S K) != (goodSys Z S K)) = false → (!((goodSys Z S K) != (goodSys Z S K))) = true)) ∧ ((!(cond ((goodSys Z S K) != (goodSys Z S K)) true ((goodSys Z S K) != (goodSys Z S K)))) = true → (!(cond ((goodSys Z S K) != (goodSys Z S K)) true ((goodSys Z S K) != (goodSys Z S K)))) = true) ∧ ((!(cond ((goodSys Z S K) != (goodSys Z S K)) true ((goodSys Z S K) != (goodSys Z S K)))) = true → (!(cond ((goodSys Z S K) != (goodSys Z S K)) true ((goodSys Z S K) != (goodSys Z S K)))) = true) ∧ ((!(cond ((goodSys Z S K) != (goodSys Z S K)) true ((goodSys Z S K) != (goodSys Z S K)))) = true → PC Try.prog 77 [.agg [.int .i64 (tsZ Z S K), .sl (.rows (tsR Z S K)), .sl (.ints (tsC Z S K))], .agg [.int .i64 (tsZ Z S K), .sl (.rows (tsR Z S K)), .sl (.ints (tsC Z S K))]] (.one (.d (.bool (((tsZ Z S K) == (tsZ Z S K)) && ((tsR Z S K) == (tsR Z S K)) && ((tsC Z S K) == (tsC Z S K))))))) ∧ ((!(cond ((goodSys Z S K) != (goodSys Z S K)) true ((goodSys Z S K) != (goodSys Z S K)))) = true → (!(cond ((goodSys Z S K) != (goodSys Z S K)) true ((goodSys Z S K) != (goodSys Z S K)))) = true) ∧ (true = true) ∧ (((cond ((goodSys Z S K) != (goodSys Z S K)) true ((goodSys Z S K) != (goodSys Z S K))) = true → true = true)) ∧ (((cond ((goodSys Z S K) != (goodSys Z S K)) true ((goodSys Z S K) != (goodSys Z S K))) = false → (!(cond ((goodSys Z S K) != (goodSys Z S K)) true ((goodSys Z S K) != (goodSys Z S K)))) = true)) ∧ (((cond (cond ((goodSys Z S K) != (goodSys Z S K)) true ((goodSys Z S K) != (goodSys Z S K))) true (!(((tsZ Z S K) == (tsZ Z S K)) && ((tsR Z S K) == (tsR Z S K)) && ((tsC Z S K) == (tsC Z S K))))) = true → ((false = true))) ∧ ((cond (cond ((goodSys Z S K) != (goodSys Z S K)) true ((goodSys Z S K) != (goodSys Z S K))) true (!(((tsZ Z S K) == (tsZ Z S K)) && ((tsR Z S K) == (tsR Z S K)) && ((tsC Z S K) == (tsC Z S K))))) = false → (PC Try.prog 78 [.agg [.int .i64 Z, .sl (.rows S), .sl (.ints K)]] (.tup [.d (.sl (.ints (lhL Z S K))), .d (.bool (lhOk Z S K))])) ∧ (PC Try.prog 79 [.agg [.int .i64 Z, .sl (.rows S), .sl (.ints K)]] (.tup [.d (.sl (.ints (lhL Z S K))), .d (.bool (lhOk Z S K))])) ∧ ((!((lhOk Z S K) != (lhOk Z S K))) = true → (!((lhOk Z S K) != (lhOk Z S K))) = true) ∧ ((!((lhOk Z S K) != (lhOk Z S K))) = true → (!((lhOk Z S K) != (lhOk Z S K))) = true) ∧ ((!((lhOk Z S K) != (lhOk Z S K))) = true → PC Try.prog 18 [.sl (.ints (lhL Z S K)), .sl (.ints (lhL Z S K))] (.one (.d (.bool ((lhL Z S K) == (lhL Z S K)))))) ∧ ((!((lhOk Z S K) != (lhOk Z S K))) = true → (!((lhOk Z S K) != (lhOk Z S K))) = true) ∧ (true = true) ∧ ((((lhOk Z S K) != (lhOk Z S K)) = true → true = true)) ∧ ((((lhOk Z S K) != (lhOk Z S K)) = false → (!((lhOk Z S K) != (lhOk Z S K))) = true)) ∧ (((cond ((lhOk Z S K) != (lhOk Z S K)) true (!((lhL Z S K) == (lhL Z S K)))) = true → ((false = true))) ∧ ((cond ((lhOk Z S K) != (lhOk Z S K)) true (!((lhL Z S K) == (lhL Z S K)))) = false → (PC Try.prog 80 [.agg [.int .i64 Z, .sl (.rows S), .sl (.ints K)]] (.tup [.d (.sl (.ints (lpL Z S K))), .d (.bool (goodSys Z S K))])) ∧ (PC Try.prog 81 [.agg [.int .i64 Z, .sl (.rows S), .sl (.ints K)]] (.tup [.d (.sl (.ints (lpL Z S K))), .d (.bool (goodSys Z S K))])) ∧ ((!((goodSys Z S K) != (goodSys Z S K))) = true → (!((goodSys Z S K) != (goodSys Z S K))) = true) ∧ ((!((goodSys Z S K) != (goodSys Z S K))) = true → (!((goodSys Z S K) != (goodSys Z S K))) = true) ∧ (true = true) ∧ ((((goodSys Z S K) != (goodSys Z S K)) = true → true = true)) ∧ ((((goodSys Z S K) != (goodSys Z S K)) = false → (!((goodSys Z S K) != (goodSys Z S K))) = true)) ∧ ((!(cond ((goodSys Z S K) != (goodSys Z S K)) true ((goodSys Z S K) != (goodSys Z S K)))) = true → (!(cond ((goodSys Z S K) != (goodSys Z S K)) true ((goodSys Z S K) != (goodSys Z S K)))) = true) ∧ ((!(cond ((goodSys Z S K) != (goodSys Z S K)) true ((goodSys Z S K) != (goodSys Z S K)))) = true → (!(cond ((goodSys Z S K) != (goodSys Z S K)) true ((goodSys Z S K) != (goodSys Z S K)))) = true) ∧ ((!(cond ((goodSys Z S K) != (goodSys Z S K)) true ((goodSys Z S K) != (goodSys Z S K)))) = true → PC Try.prog 18 [.sl (.ints (lpL Z S K)), .sl (.ints (lpL Z S K))] (.one (.d (.bool ((lpL Z S K) == (lpL Z S K)))))) ∧ ((!(cond ((goodSys Z S K) != (goodSys Z S K)) true ((goodSys Z S K) != (goodSys Z S K)))) = true → (!(cond ((goodSys Z S K) != (goodSys Z S K)) true ((goodSys Z S K) != (goodSys Z S K)))) = true) ∧ (true = true) ∧ (((cond ((goodSys Z S K) != (goodSys Z S K)) true ((goodSys Z S K) != (goodSys Z S K))) = true → true = true)) ∧ (((cond ((goodSys Z S K) != (goodSys Z S K)) true ((goodSys Z S K) != (goodSys Z S K))) = false → (!(cond ((goodSys Z S K) != (goodSys Z S K)) true ((goodSys Z S K) != (goodSys Z S K)))) = true)) ∧ (((cond (cond ((goodSys Z S K) != (goodSys Z S K)) true ((goodSys Z S K) != (goodSys Z S K))) true (!((lpL Z S K) == (lpL Z S K)))) = true → ((false = true))) ∧ ((cond (cond ((goodSys Z S K) != (goodSys Z S K)) true ((goodSys Z S K) != (goodSys Z S K))) true (!((lpL Z S K) == (lpL Z S K)))) = false → (((!(goodSys Z S K)) = true → ((true = true))) ∧ ((!(goodSys Z S K)) = false → (PC Try.prog 82 [.agg [.int .i64 (tsZ Z S K), .sl (.rows (tsR Z S K)), .sl (.ints (tsC Z S K))]] (.tup [.d (.sl (.ints (lcL (tsZ Z S K) (tsR Z S K) (tsC Z S K)))), .d (.bool (lcOk (tsZ Z S K) (tsR Z S K) (tsC Z S K)))])) ∧ ((!((lcOk (tsZ Z S K) (tsR Z S K) (tsC Z S K)) != (lhOk Z S K))) = true → (!((lcOk (tsZ Z S K) (tsR Z S K) (tsC Z S K)) != (lhOk Z S K))) = true) ∧ ((!((lcOk (tsZ Z S K) (tsR Z S K) (tsC Z S K)) != (lhOk Z S K))) = true → (!((lcOk (tsZ Z S K) (tsR Z S K) (tsC Z S K)) != (lhOk Z S K))) = true) ∧ ((!((lcOk (tsZ Z S K) (tsR Z S K) (tsC Z S K)) != (lhOk Z S K))) = true → PC Try.prog 18 [.sl (.ints (lcL (tsZ Z S K) (tsR Z S K) (tsC Z S K))), .sl (.ints (lhL Z S K))] (.one (.d (.bool ((lcL (tsZ Z S K) (tsR Z S K) (tsC Z S K)) == (lhL Z S K)))))) ∧ ((!((lcOk (tsZ Z S K) (tsR Z S K) (tsC Z S K)) != (lhOk Z S K))) = true → (!((lcOk (tsZ Z S K) (tsR Z S K) (tsC Z S K)) != (lhOk Z S K))) = true) ∧ (true = true) ∧ ((((lcOk (tsZ Z S K) (tsR Z S K) (tsC Z S K)) != (lhOk Z S K)) = true → true = true)) ∧ ((((lcOk (tsZ Z S K) (tsR Z S K) (tsC Z S K)) != (lhOk Z S K)) = false → (!((lcOk (tsZ Z S K) (tsR Z S K) (tsC Z S K)) != (lhOk Z S K))) = true)) ∧ ((!(cond ((lcOk (tsZ Z S K) (tsR Z S K) (tsC Z S K)) != (lhOk Z S K)) true (!((lcL (tsZ Z S K) (tsR Z S K) (tsC Z S K)) == (lhL Z S K))))) = true → (!(cond ((lcOk (tsZ Z S K) (tsR Z S K) (tsC Z S K)) != (lhOk Z S K)) true (!((lcL (tsZ Z S K) (tsR Z S K) (tsC Z S K)) == (lhL Z S K))))) = true) ∧ (((!(cond ((lcOk (tsZ Z S K) (tsR Z S K) (tsC Z S K)) != (lhOk Z S K)) true (!((lcL (tsZ Z S K) (tsR Z S K) (tsC Z S K)) == (lhL Z S K))))) && ((goodSys Z S K && rising E 0 (Z - 1)) && hitsB S E)) = true → ((!(cond ((lcOk (tsZ Z S K) (tsR Z S K) (tsC Z S K)) != (lhOk Z S K)) true (!((lcL (tsZ Z S K) (tsR Z S K) (tsC Z S K)) == (lhL Z S K))))) && ((goodSys Z S K && rising E 0 (Z - 1)) && hitsB S E)) = true) ∧ (((!(cond ((lcOk (tsZ Z S K) (tsR Z S K) (tsC Z S K)) != (lhOk Z S K)) true (!((lcL (tsZ Z S K) (tsR Z S K) (tsC Z S K)) == (lhL Z S K))))) && ((goodSys Z S K && rising E 0 (Z - 1)) && hitsB S E)) = true → ((!(cond ((lcOk (tsZ Z S K) (tsR Z S K) (tsC Z S K)) != (lhOk Z S K)) true (!((lcL (tsZ Z S K) (tsR Z S K) (tsC Z S K)) == (lhL Z S K))))) && ((goodSys Z S K && rising E 0 (Z - 1)) && hitsB S E)) = true) ∧ ((((!(cond ((lcOk (tsZ Z S K) (tsR Z S K) (tsC Z S K)) != (lhOk Z S K)) true (!((lcL (tsZ Z S K) (tsR Z S K) (tsC Z S K)) == (lhL Z S K))))) && ((goodSys Z S K && rising E 0 (Z - 1)) && hitsB S E)) && (!(!(lhOk Z S K)))) = true → (((!(cond ((lcOk (tsZ Z S K) (tsR Z S K) (tsC Z S K)) != (lhOk Z S K)) true (!((lcL (tsZ Z S K) (tsR Z S K) (tsC Z S K)) == (lhL Z S K))))) && ((goodSys Z S K && rising E 0 (Z - 1)) && hitsB S E)) && (!(!(lhOk Z S K)))) = true) ∧ ((((!(cond ((lcOk (tsZ Z S K) (tsR Z S K) (tsC Z S K)) != (lhOk Z S K)) true (!((lcL (tsZ Z S K) (tsR Z S K) (tsC Z S K)) == (lhL Z S K))))) && ((goodSys Z S K && rising E 0 (Z - 1)) && hitsB S E)) && (!(!(lhOk Z S K)))) = true → (((!(cond ((lcOk (tsZ Z S K) (tsR Z S K) (tsC Z S K)) != (lhOk Z S K)) true (!((lcL (tsZ Z S K) (tsR Z S K) (tsC Z S K)) == (lhL Z S K))))) && ((goodSys Z S K && rising E 0 (Z - 1)) && hitsB S E)) && (!(!(lhOk Z S K)))) = true) ∧ ((((!(cond ((lcOk (tsZ Z S K) (tsR Z S K) (tsC Z S K)) != (lhOk Z S K)) true (!((lcL (tsZ Z S K) (tsR Z S K) (tsC Z S K)) == (lhL Z S K))))) && ((goodSys Z S K && rising E 0 (Z - 1)) && hitsB S E)) && (!(!(lhOk Z S K)))) = true → (((!(cond ((lcOk (tsZ Z S K) (tsR Z S K) (tsC Z S K)) != (lhOk Z S K)) true (!((lcL (tsZ Z S K) (tsR Z S K) (tsC Z S K)) == (lhL Z S K))))) && ((goodSys Z S K && rising E 0 (Z - 1)) && hitsB S E)) && (!(!(lhOk Z S K)))) = true) ∧ ((((!(cond ((lcOk (tsZ Z S K) (tsR Z S K) (tsC Z S K)) != (lhOk Z S K)) true (!((lcL (tsZ Z S K) (tsR Z S K) (tsC Z S K)) == (lhL Z S K))))) && ((goodSys Z S K && rising E 0 (Z - 1)) && hitsB S E)) && (!(!(lhOk Z S K)))) = true → (((!(cond ((lcOk (tsZ Z S K) (tsR Z S K) (tsC Z S K)) != (lhOk Z S K)) true (!((lcL (tsZ Z S K) (tsR Z S K) (tsC Z S K)) == (lhL Z S K))))) && ((goodSys Z S K && rising E 0 (Z - 1)) && hitsB S E)) && (!(!(lhOk Z S K)))) = true) ∧ ((((!(cond ((lcOk (tsZ Z S K) (tsR Z S K) (tsC Z S K)) != (lhOk Z S K)) true (!((lcL (tsZ Z S K) (tsR Z S K) (tsC Z S K)) == (lhL Z S K))))) && ((goodSys Z S K && rising E 0 (Z - 1)) && hitsB S E)) = true → ((!(cond ((lcOk (tsZ Z S K) (tsR Z S K) (tsC Z S K)) != (lhOk Z S K)) true (!((lcL (tsZ Z S K) (tsR Z S K) (tsC Z S K)) == (lhL Z S K))))) && ((goodSys Z S K && rising E 0 (Z - 1)) && hitsB S E)) = true)) ∧ ((((!(cond ((lcOk (tsZ Z S K) (tsR Z S K) (tsC Z S K)) != (lhOk Z S K)) true (!((lcL (tsZ Z S K) (tsR Z S K) (tsC Z S K)) == (lhL Z S K))))) && ((goodSys Z S K && rising E 0 (Z - 1)) && hitsB S E)) = true → (!(lhOk Z S K)) = true → true = true)) ∧ ((((!(cond ((lcOk (tsZ Z S K) (tsR Z S K) (tsC Z S K)) != (lhOk Z S K)) true (!((lcL (tsZ Z S K) (tsR Z S K) (tsC Z S K)) == (lhL Z S K))))) && ((goodSys Z S K && rising E 0 (Z - 1)) && hitsB S E)) = true → (!(lhOk Z S K)) = false → (((!(cond ((lcOk (tsZ Z S K) (tsR Z S K) (tsC Z S K)) != (lhOk Z S K)) true (!((lcL (tsZ Z S K) (tsR Z S K) (tsC Z S K)) == (lhL Z S K))))) && ((goodSys Z S K && rising E 0 (Z - 1)) && hitsB S E)) && (!(!(lhOk Z S K)))) = true)) ∧ (((!(cond ((lcOk (tsZ Z S K) (tsR Z S K) (tsC Z S K)) != (lhOk Z S K)) true (!((lcL (tsZ Z S K) (tsR Z S K) (tsC Z S K)) == (lhL Z S K))))) = true → (!(cond ((lcOk (tsZ Z S K) (tsR Z S K) (tsC Z S K)) != (lhOk Z S K)) true (!((lcL (tsZ Z S K) (tsR Z S K) (tsC Z S K)) == (lhL Z S K))))) = true)) ∧ (((!(cond ((lcOk (tsZ Z S K) (tsR Z S K) (tsC Z S K)) != (lhOk Z S K)) true (!((lcL (tsZ Z S K) (tsR Z S K) (tsC Z S K)) == (lhL Z S K))))) = true → ((goodSys Z S K && rising E 0 (Z - 1)) && hitsB S E) = true → ((!(cond ((lcOk (tsZ Z S K) (tsR Z S K) (tsC Z S K)) != (lhOk Z S K)) true (!((lcL (tsZ Z S K) (tsR Z S K) (tsC Z S K)) == (lhL Z S K))))) && ((goodSys Z S K && rising E 0 (Z - 1)) && hitsB S E)) = true)) ∧ (((!(cond ((lcOk (tsZ Z S K) (tsR Z S K) (tsC Z S K)) != (lhOk Z S K)) true (!((lcL (tsZ Z S K) (tsR Z S K) (tsC Z S K)) == (lhL Z S K))))) = true → ((goodSys Z S K && rising E 0 (Z - 1)) && hitsB S E) = false → true = true)) ∧ (true = true) ∧ (((cond ((lcOk (tsZ Z S K) (tsR Z S K) (tsC Z S K)) != (lhOk Z S K)) true (!((lcL (tsZ Z S K) (tsR Z S K) (tsC Z S K)) == (lhL Z S K)))) = true → true = true)) ∧ (((cond ((lcOk (tsZ Z S K) (tsR Z S K) (tsC Z S K)) != (lhOk Z S K)) true (!((lcL (tsZ Z S K) (tsR Z S K) (tsC Z S K)) == (lhL Z S K)))) = false → (!(cond ((lcOk (tsZ Z S K) (tsR Z S K) (tsC Z S K)) != (lhOk Z S K)) true (!((lcL (tsZ Z S K) (tsR Z S K) (tsC Z S K)) == (lhL Z S K))))) = true)) ∧ (((cond (cond ((lcOk (tsZ Z S K) (tsR Z S K) (tsC Z S K)) != (lhOk Z S K)) true (!((lcL (tsZ Z S K) (tsR Z S K) (tsC Z S K)) == (lhL Z S K)))) true (cond ((goodSys Z S K && rising E 0 (Z - 1)) && hitsB S E) (cond (!(lhOk Z S K)) true (decide ((((lhL Z S K).length) : Int) > (E.length : Int)))) false)) = true → ((false = true))) ∧ ((cond (cond ((lcOk (tsZ Z S K) (tsR Z S K) (tsC Z S K)) != (lhOk Z S K)) true (!((lcL (tsZ Z S K) (tsR Z S K) (tsC Z S K)) == (lhL Z S K)))) true (cond ((goodSys Z S K && rising E 0 (Z - 1)) && hitsB S E) (cond (!(lhOk Z S K)) true (decide ((((lhL Z S K).length) : Int) > (E.length : Int)))) false)) = false → ((∃ i' : Int, (l_FnHitting_JJ0 code E Z S K i') ∧ ((lhL Z S K) = (lhL Z S K)) ∧ ((lhOk Z S K) = (lhOk Z S K)) ∧ ((lpL Z S K) = (lpL Z S K)) ∧ ((0 : Int) = i') ∧ (Z = Z) ∧ (S = S) ∧ (K = K)) ∧ (∀ i : Int, (l_FnHitting_JJ0 code E Z S K i) → (((decide (i < (((lpL Z S K).length) : Int))) = true → ((∃ k' : Int, (l_FnHitting_JJ1 code E Z S K i k') ∧ ((lhL Z S K) = (lhL Z S K)) ∧ ((lhOk Z S K) = (lhOk Z S K)) ∧ ((lpL Z S K) = (lpL Z S K)) ∧ (i = i) ∧ ((0 : Int) = k') ∧ (Z = Z) ∧ (S = S) ∧ (K = K)) ∧ (∀ k : Int, (l_FnHitting_JJ1 code E Z S K i k) → (((decide (k < i)) = true → ((∃ j' : Int, (l_FnHitting_JJ2 code E Z S K i k j') ∧ ((lhL Z S K) = (lhL Z S K)) ∧ ((lhOk Z S K) = (lhOk Z S K)) ∧ ((lpL Z S K) = (lpL Z S K)) ∧ (i = i) ∧ (k = k) ∧ ((0 : Int) = j') ∧ (Z = Z) ∧ (S = S) ∧ (K = K)) ∧ (∀ j : Int, (l_FnHitting_JJ2 code E Z S K i k j) → (true = true) ∧ ((0 : Int) ≤ i) ∧ ((i : Int) < (lpL Z S K).length) ∧ (i.toNat < (lpL Z S K).length) ∧ ((0 : Int) ≤ ((lpL Z S K).getD i.toNat 0)) ∧ ((((lpL Z S K).getD i.toNat 0) : Int) < S.length) ∧ (((lpL Z S K).getD i.toNat 0).toNat < S.length) ∧ (((decide (j < (((S.getD (((lpL Z S K).getD i.toNat 0).toNat) []).length) : Int))) = true → (true = true) ∧ ((0 : Int) ≤ k) ∧ ((k : Int) < (lpL Z S K).length) ∧ (k.toNat < (lpL Z S K).length) ∧ ((0 : Int) ≤ ((lpL Z S K).getD k.toNat 0)) ∧ ((((lpL Z S K).getD k.toNat 0) : Int) < S.length) ∧ (((lpL Z S K).getD k.toNat 0).toNat < S.length) ∧ ((0 : Int) ≤ i) ∧ ((i : Int) < (lpL Z S K).length) ∧ (i.toNat < (lpL Z S K).length) ∧ ((0 : Int) ≤ ((lpL Z S K).getD i.toNat 0)) ∧ ((((lpL Z S K).getD i.toNat 0) : Int) < S.length) ∧ (((lpL Z S K).getD i.toNat 0).toNat < S.length) ∧ ((0 : Int) ≤ j) ∧ ((j : Int) < (S.getD (((lpL Z S K).getD i.toNat 0).toNat) []).length) ∧ (j.toNat < (S.getD (((lpL Z S K).getD i.toNat 0).toNat) []).length) ∧ (PC Try.prog 83 [.sl (.ints (S.getD (((lpL Z S K).getD k.toNat 0).toNat) [])), .int .i64 ((S.getD (((lpL Z S K).getD i.toNat 0).toNat) []).getD j.toNat 0)] (.one (.d (.bool ((S.getD (((lpL Z S K).getD k.toNat 0).toNat) []).contains ((S.getD (((lpL Z S K).getD i.toNat 0).toNat) []).getD j.toNat 0)))))) ∧ ((((S.getD (((lpL Z S K).getD k.toNat 0).toNat) []).contains ((S.getD (((lpL Z S K).getD i.toNat 0).toNat) []).getD j.toNat 0)) = true → ((false = true))) ∧ (((S.getD (((lpL Z S K).getD k.toNat 0).toNat) []).contains ((S.getD (((lpL Z S K).getD i.toNat 0).toNat) []).getD j.toNat 0)) = false → (-9223372036854775808 ≤ (j + 1) ∧ (j + 1) ≤ 9223372036854775807) ∧ (∃ j' : Int, (l_FnHitting_JJ2 code E Z S K i k j') ∧ (l_FnHitting_mJ2 code E Z S K i k j' < l_FnHitting_mJ2 code E Z S K i k j) ∧ ((lhL Z S K) = (lhL Z S K)) ∧ ((lhOk Z S K) = (lhOk Z S K)) ∧ ((lpL Z S K) = (lpL Z S K)) ∧ (i = i) ∧ (k = k) ∧ ((j + 1) = j') ∧ (Z = Z) ∧ (S = S) ∧ (K = K))))) ∧ ((decide (j < (((S.getD (((lpL Z S K).getD i.toNat 0).toNat) []).length) : Int))) = false → (-9223372036854775808 ≤ (k + 1) ∧ (k + 1) ≤ 9223372036854775807) ∧ (∃ k' : Int, (l_FnHitting_JJ1 code E Z S K i k') ∧ (l_FnHitting_mJ1 code E Z S K i k' < l_FnHitting_mJ1 code E Z S K i k) ∧ ((lhL Z S K) = (lhL Z S K)) ∧ ((lhOk Z S K) = (lhOk Z S K)) ∧ ((lpL Z S K) = (lpL Z S K)) ∧ (i = i) ∧ ((k + 1) = k') ∧ (Z = Z) ∧ (S = S) ∧ (K = K))))))) ∧ ((decide (k < i)) = false → (-9223372036854775808 ≤ (i + 1) ∧ (i + 1) ≤ 9223372036854775807) ∧ (∃ i' : Int, (l_FnHitting_JJ0 code E Z S K i') ∧ (l_FnHitting_mJ0 code E Z S K i' < l_FnHitting_mJ0 code E Z S K i) ∧ ((lhL Z S K) = (lhL Z S K)) ∧ ((lhOk Z S K) = (lhOk Z S K)) ∧ ((lpL Z S K) = (lpL Z S K)) ∧ ((i + 1) = i') ∧ (Z = Z) ∧ (S = S) ∧ (K = K))))))) ∧ ((decide (i < (((lpL Z S K).length) : Int))) = false → (((!(lhOk Z S K)) = true → ((true = true))) ∧ ((!(lhOk Z S K)) = false → (PC Try.prog 74 [.agg [.int .i64 Z, .sl (.rows S), .sl (.ints K)], .sl (.ints (lhL Z S K))] (.tup [.d (.bool ((goodSys Z S K && rising (lhL Z S K) 0 (Z - 1)) && hitsB S (lhL Z S K))), .d (.bool (goodSys Z S K && rising (lhL Z S K) 0 (Z - 1)))])) ∧ (true = true) ∧ (((goodSys Z S K && rising (lhL Z S K) 0 (Z - 1)) = true → (goodSys Z S K && rising (lhL Z S K) 0 (Z - 1)) = true)) ∧ (((goodSys Z S K && rising (lhL Z S K) 0 (Z - 1)) = false → true = true)) ∧ ((cond (goodSys Z S K && rising (lhL Z S K) 0 (Z - 1)) ((goodSys Z S K && rising (lhL Z S K) 0 (Z - 1)) && hitsB S (lhL Z S K)) false) = true → (cond (goodSys Z S K && rising (lhL Z S K) 0 (Z - 1)) ((goodSys Z S K && rising (lhL Z S K) 0 (Z - 1)) && hitsB S (lhL Z S K)) false) = true) ∧ ((cond (goodSys Z S K && rising (lhL Z S K) 0 (Z - 1)) ((goodSys Z S K && rising (lhL Z S K) 0 (Z - 1)) && hitsB S (lhL Z S K)) false) = true → (cond (goodSys Z S K && rising (lhL Z S K) 0 (Z - 1)) ((goodSys Z S K && rising (lhL Z S K) 0 (Z - 1)) && hitsB S (lhL Z S K)) false) = true) ∧ ((cond (goodSys Z S K && rising (lhL Z S K) 0 (Z - 1)) ((goodSys Z S K && rising (lhL Z S K) 0 (Z - 1)) && hitsB S (lhL Z S K)) false) = true → (cond (goodSys Z S K && rising (lhL Z S K) 0 (Z - 1)) ((goodSys Z S K && rising (lhL Z S K) 0 (Z - 1)) && hitsB S (lhL Z S K)) false) = true) ∧ ((cond (goodSys Z S K && rising (lhL Z S K) 0 (Z - 1)) ((goodSys Z S K && rising (lhL Z S K) 0 (Z - 1)) && hitsB S (lhL Z S K)) false) = true → (cond (goodSys Z S K && rising (lhL Z S K) 0 (Z - 1)) ((goodSys Z S K && rising (lhL Z S K) 0 (Z - 1)) && hitsB S (lhL Z S K)) false) = true) ∧ (true = true) ∧ (((cond (goodSys Z S K && rising (lhL Z S K) 0 (Z - 1)) ((goodSys Z S K && rising (lhL Z S K) 0 (Z - 1)) && hitsB S (lhL Z S K)) false) = true → (cond (goodSys Z S K && rising (lhL Z S K) 0 (Z - 1)) ((goodSys Z S K && rising (lhL Z S K) 0 (Z - 1)) && hitsB S (lhL Z S K)) false) = true)) ∧ (((cond (goodSys Z S K && rising (lhL Z S K) 0 (Z - 1)) ((goodSys Z S K && rising (lhL Z S K) 0 (Z - 1)) && hitsB S (lhL Z S K)) false) = false → true = true)) ∧ (((cond (cond (goodSys Z S K && rising (lhL Z S K) 0 (Z - 1)) ((goodSys Z S K && rising (lhL Z S K) 0 (Z - 1)) && hitsB S (lhL Z S K)) false) (decide ((((lpL Z S K).length) : Int) ≤ (((lhL Z S K).length) : Int))) false) = true))))))))))))))))))))))))
theorem l_FnHitting_vc (code : List Nat) (hb : ∀ x9 ∈ code, x9 < 256) (w_code : (code.length : Int) ≤ 9223372036854775807) : l_FnHitting_P code := by
  unfold l_FnHitting_P
  refine ⟨l_rBig_pc code, ?_, ?_⟩
  · intro b1
    try simp only [nrmT] at b1
    exact rfl
  · intro b2
    try simp only [nrmT] at b2
    refine ⟨?_, ?_⟩
    · refine ⟨?_, ?_⟩
      · refine s_DrawIsHitting_pc code ?_
        · exact hb
      · refine ⟨(hdE code), (sysZ code cur0), (sysS code cur0), (sysK code cur0), ?_⟩
        refine ⟨?_, rfl, ?_, rfl, rfl, rfl⟩
        · trivial
        · first | omega | rfl | (intro hg; simp only [nrmT] at hg; omega) | (intro g1 g2; simp [g1, g2]; done) | (intro g1; simp at g1 ⊢; simp [g1]; done) | (simp only [nrmT] at *; omega) | (simp at * <;> omega) | (simp_all <;> omega) | (simp_all; done)
    · intro E Z S K hJ
      refine ⟨rfl, i_IsHitting_pc Z S K E, rfl, s_IsHitting_pc Z S K E, id, id, rfl, fun _ => rfl, ?_, ?_, ?_⟩
      · intro h; rw [h]; rfl
      · intro b3
        simp at b3
      · intro b4
        refine ⟨i_TurnSystem_pc Z S K, s_TurnSystem_pc Z S K, id, fun _ => i_IsSystem_pc Z S K, id, id, rfl, fun _ => rfl, ?_, id, id, fun _ => l_rSystem_pc (tsZ Z S K) (tsR Z S K) (tsC Z S K) (tsZ Z S K) (tsR Z S K) (tsC Z S K), id, rfl, fun _ => rfl, ?_, ?_, ?_⟩
        · intro h; rw [h]; rfl
        · intro h; rw [h]; rfl
        · intro b5
          simp at b5
        · intro b6
          refine ⟨i_LeastHitting_pc Z S K, s_LeastHitting_pc Z S K, id, id, fun _ => l_rInts_pc (lhL Z S K) (lhL Z S K), id, rfl, fun _ => rfl, ?_, ?_, ?_⟩
          · intro h; rw [h]; rfl
          · intro b7
            simp at b7
          · intro b8
            refine ⟨i_LargestPacking_pc Z S K, s_LargestPacking_pc Z S K, id, id, rfl, fun _ => rfl, ?_, id, id, fun _ => l_rInts_pc (lpL Z S K) (lpL Z S K), id, rfl, fun _ => rfl, ?_, ?_, ?_⟩
            · intro h; rw [h]; rfl
            · intro h; rw [h]; rfl
            · intro b9
              simp at b9
            · intro b10
              refine ⟨?_, ?_⟩
              · intro b11
                try simp only [nrmT] at b11
                exact rfl
              · intro b12
                try simp only [nrmT] at b12
                refine ⟨i_LeastCover_pc (tsZ Z S K) (tsR Z S K) (tsC Z S K), id, id, fun _ => l_rInts_pc (lcL (tsZ Z S K) (tsR Z S K) (tsC Z S K)) (lhL Z S K), id, rfl, fun _ => rfl, ?_, id, id, id, id, id, id, id, id, fun _ _ => rfl, ?_, id, ?_, fun _ _ => rfl, rfl, fun _ => rfl, ?_, ?_, ?_⟩
                · intro h; rw [h]; rfl
                · intro h1 h2; rw [h1, h2]; rfl
                · intro h1 h2; rw [h1, h2]; rfl
                · intro h; rw [h]; rfl
                · intro b13
                  exfalso
                  have hg : goodSys Z S K = true := by simpa using b12
                  obtain ⟨c1, c2⟩ := lh_cover hg
                  rw [c1, c2] at b13
                  cases hi : (goodSys Z S K && rising E 0 (Z - 1)) && hitsB S E with
                  | false => rw [hi] at b13; simp at b13
                  | true =>
                    rw [hi] at b13
                    simp only [Bool.and_eq_true] at hi
                    obtain ⟨l1, l2⟩ := lh_least hg hi.1.2 hi.2
                    rw [l1] at b13
                    simp at b13
                    omega
                · intro b14
                  refine ⟨?_, ?_⟩
                  · refine ⟨0, ?_⟩
                    refine ⟨?_, rfl, rfl, rfl, rfl, rfl, rfl, rfl⟩
                    · refine ⟨?_, ?_, ?_⟩
                      · first | assumption | simpa using b12
                      · omega
                      · omega
                  · intro i hJ
                    obtain ⟨hg, h1, h2⟩ := hJ
                    refine ⟨?_, ?_⟩
                    · intro b15
                      try simp only [nrmT] at b15
                      refine ⟨?_, ?_⟩
                      · refine ⟨0, ?_⟩
                        refine ⟨?_, rfl, rfl, rfl, rfl, rfl, rfl, rfl, rfl⟩
                        · refine ⟨?_, ?_⟩
                          · omega
                          · omega
                      · intro k hJ
                        obtain ⟨h3, h4⟩ := hJ
                        refine ⟨?_, ?_⟩
                        · intro b16
                          try simp only [nrmT] at b16
                          refine ⟨?_, ?_⟩
                          · refine ⟨0, ?_⟩
                            refine ⟨?_, rfl, rfl, rfl, rfl, rfl, rfl, rfl, rfl, rfl⟩
                            · refine ⟨?_, ?_⟩
                              · omega
                              · omega
                          · intro j hJ
                            obtain ⟨h5, h6⟩ := hJ
                            refine ⟨rfl, ?_, ?_, ?_, ?_, ?_, ?_, ?_, ?_⟩
                            · omega
                            · omega
                            · omega
                            · have pf := (lp_pack hg).2
                              have pi := fun (n : Nat) (hn : n < (lpL Z S K).length) => rising_at pf n hn
                              first | (have p1 := pi i.toNat (by omega); omega) | (have p1 := pi k.toNat (by omega); omega)
                            · have pf := (lp_pack hg).2
                              have pi := fun (n : Nat) (hn : n < (lpL Z S K).length) => rising_at pf n hn
                              first | (have p1 := pi i.toNat (by omega); omega) | (have p1 := pi k.toNat (by omega); omega)
                            · have pf := (lp_pack hg).2
                              have pi := fun (n : Nat) (hn : n < (lpL Z S K).length) => rising_at pf n hn
                              first | (have p1 := pi i.toNat (by omega); omega) | (have p1 := pi k.toNat (by omega); omega)
                            · intro b17
                              try simp only [nrmT] at b17
                              refine ⟨rfl, ?_, ?_, ?_, ?_, ?_, ?_, ?_, ?_, ?_, ?_, ?_, ?_, ?_, ?_, ?_, l_rHas_pc (S.getD (((lpL Z S K).getD k.toNat 0).toNat) []) ((S.getD (((lpL Z S K).getD i.toNat 0).toNat) []).getD j.toNat 0), ?_, ?_⟩
                              · omega
                              · omega
                              · omega
                              · have pf := (lp_pack hg).2
                                have pi := fun (n : Nat) (hn : n < (lpL Z S K).length) => rising_at pf n hn
                                first | (have p1 := pi i.toNat (by omega); omega) | (have p1 := pi k.toNat (by omega); omega)
                              · have pf := (lp_pack hg).2
                                have pi := fun (n : Nat) (hn : n < (lpL Z S K).length) => rising_at pf n hn
                                first | (have p1 := pi i.toNat (by omega); omega) | (have p1 := pi k.toNat (by omega); omega)
                              · have pf := (lp_pack hg).2
                                have pi := fun (n : Nat) (hn : n < (lpL Z S K).length) => rising_at pf n hn
                                first | (have p1 := pi i.toNat (by omega); omega) | (have p1 := pi k.toNat (by omega); omega)
                              · omega
                              · omega
                              · omega
                              · have pf := (lp_pack hg).2
                                have pi := fun (n : Nat) (hn : n < (lpL Z S K).length) => rising_at pf n hn
                                first | (have p1 := pi i.toNat (by omega); omega) | (have p1 := pi k.toNat (by omega); omega)
                              · have pf := (lp_pack hg).2
                                have pi := fun (n : Nat) (hn : n < (lpL Z S K).length) => rising_at pf n hn
                                first | (have p1 := pi i.toNat (by omega); omega) | (have p1 := pi k.toNat (by omega); omega)
                              · have pf := (lp_pack hg).2
                                have pi := fun (n : Nat) (hn : n < (lpL Z S K).length) => rising_at pf n hn
                                first | (have p1 := pi i.toNat (by omega); omega) | (have p1 := pi k.toNat (by omega); omega)
                              · omega
                              · omega
                              · omega
                              · intro b18
                                try simp only [nrmT] at b18
                                exfalso
                                have pf := (lp_pack hg).2
                                have pi := fun (n : Nat) (hn : n < (lpL Z S K).length) => rising_at pf n hn
                                have hx := pack_apart (lp_pack hg).1 (k := k.toNat) (i := i.toNat) (by omega) (by omega) (getD_mem (d := 0) (show j.toNat < (S.getD ((lpL Z S K).getD i.toNat 0).toNat []).length by omega))
                                exact hx (List.contains_iff_mem.1 b18)
                              · intro b19
                                try simp only [nrmT] at b19
                                refine ⟨?_, ?_⟩
                                · have pf := (lp_pack hg).2
                                  have pi := fun (n : Nat) (hn : n < (lpL Z S K).length) => rising_at pf n hn
                                  have gf := gs_facts hg
                                  have pl := rising_len pf (by omega)
                                  first | omega | (have p1 := pi i.toNat (by omega); have r1 := rising_len (gs_set hg (k := ((lpL Z S K).getD i.toNat 0).toNat) (by omega)) (by omega); omega)
                                · refine ⟨(j + 1), ?_⟩
                                  refine ⟨?_, ?_, rfl, rfl, rfl, rfl, rfl, rfl, rfl, rfl, rfl⟩
                                  · refine ⟨?_, ?_⟩
                                    · omega
                                    · omega
                                  · first | (show _ < _; omega) | (simp only [l_FnHitting_mJ2]; omega) | (simp only [l_FnHitting_mJ2] at *; simp at *; omega)
                            · intro b20
                              try simp only [nrmT] at b20
                              refine ⟨?_, ?_⟩
                              · have pf := (lp_pack hg).2
                                have pi := fun (n : Nat) (hn : n < (lpL Z S K).length) => rising_at pf n hn
                                have gf := gs_facts hg
                                have pl := rising_len pf (by omega)
                                first | omega | (have p1 := pi i.toNat (by omega); have r1 := rising_len (gs_set hg (k := ((lpL Z S K).getD i.toNat 0).toNat) (by omega)) (by omega); omega)
                              · refine ⟨(k + 1), ?_⟩
                                refine ⟨?_, ?_, rfl, rfl, rfl, rfl, rfl, rfl, rfl, rfl⟩
                                · refine ⟨?_, ?_⟩
                                  · omega
                                  · omega
                                · first | (show _ < _; omega) | (simp only [l_FnHitting_mJ1]; omega) | (simp only [l_FnHitting_mJ1] at *; simp at *; omega)
                        · intro b21
                          try simp only [nrmT] at b21
                          refine ⟨?_, ?_⟩
                          · have pf := (lp_pack hg).2
                            have pi := fun (n : Nat) (hn : n < (lpL Z S K).length) => rising_at pf n hn
                            have gf := gs_facts hg
                            have pl := rising_len pf (by omega)
                            first | omega | (have p1 := pi i.toNat (by omega); have r1 := rising_len (gs_set hg (k := ((lpL Z S K).getD i.toNat 0).toNat) (by omega)) (by omega); omega)
                          · refine ⟨(i + 1), ?_⟩
                            refine ⟨?_, ?_, rfl, rfl, rfl, rfl, rfl, rfl, rfl⟩
                            · refine ⟨?_, ?_, ?_⟩
                              · first | assumption | simpa using b12
                              · omega
                              · omega
                            · first | (show _ < _; omega) | (simp only [l_FnHitting_mJ0]; omega) | (simp only [l_FnHitting_mJ0] at *; simp at *; omega)
                    · intro b22
                      try simp only [nrmT] at b22
                      refine ⟨?_, ?_⟩
                      · intro b23
                        try simp only [nrmT] at b23
                        exact rfl
                      · intro b24
                        try simp only [nrmT] at b24
                        refine ⟨i_IsHitting_pc Z S K (lhL Z S K), rfl, id, fun _ => rfl, id, id, id, id, rfl, id, fun _ => rfl, ?_⟩
                        · cases hl : lhOk Z S K with
                          | false => rw [hl] at b24; simp at b24
                          | true =>
                            obtain ⟨q1, q2, q3⟩ := lh_hits hl
                            have q4 := pack_le (Size := Z) (Costs := K) (lp_pack hg).1 (lp_pack hg).2 q3
                            rw [q1, q2, q3]
                            simp
                            omega
theorem l_FnHitting_pc (code : List Nat) (hb : ∀ x9 ∈ code, x9 < 256) : PC Try.prog 11 [.sl (.bytes code)] (.one (.d (.bool true))) :=
  pc_wf @Try.call11 fun hw => pc_by (by kernel_rfl) Try.func11 @Try.call11 (by kernel_rfl) l_FnHitting_C (l_FnHitting_A code) (by kernel_rfl) (l_FnHitting_vc code hb hw.1) (by kernel_rfl)
end Go.Proofs.Ytomnmacmlhkceaa
