/- Contracts of the functions that the law reaches. -/
import Derived.Test.YtmmoejdglnnmcaaKFarReach1
import Derived.KernelRfl
set_option linter.unusedVariables false
set_option linter.unusedSimpArgs false
namespace Go.Proofs.Ytmmoejdglnnmcaa
open Go

def slices_Concat_int_int__P (xss : List (List Int)) : Prop :=
  ((((∃ size' : Int, ∃ i' : Int, (slices_Concat_int_int__JJ0 xss size' i') ∧ (xss = xss) ∧ ((0 : Int) = size') ∧ (xss = xss) ∧ ((xss.length : Int) = (xss.length : Int)) ∧ ((0 : Int) = i')) ∧ (∀ size : Int, ∀ i : Int, (slices_Concat_int_int__JJ0 xss size i) → (((decide (i < (xss.length : Int))) = true → ((0 : Int) ≤ i) ∧ ((i : Int) < xss.length) ∧ (i.toNat < xss.length) ∧ (-9223372036854775808 ≤ (size + (((xss.getD i.toNat []).length) : Int)) ∧ (size + (((xss.getD i.toNat []).length) : Int)) ≤ 9223372036854775807) ∧ ((decide ((size + (((xss.getD i.toNat []).length) : Int)) < 0)) = false) ∧ (-9223372036854775808 ≤ (i + 1) ∧ (i + 1) ≤ 9223372036854775807) ∧ (∃ size' : Int, ∃ i' : Int, (slices_Concat_int_int__JJ0 xss size' i') ∧ (slices_Concat_int_int__mJ0 xss size' i' < slices_Concat_int_int__mJ0 xss size i) ∧ (xss = xss) ∧ ((size + (((xss.getD i.toNat []).length) : Int)) = size') ∧ (xss = xss) ∧ ((xss.length : Int) = (xss.length : Int)) ∧ ((i + 1) = i'))) ∧ ((decide (i < (xss.length : Int))) = false → (∃ size2' : Int, (slices_Concat_int_int__JA0 xss size2') ∧ (xss = xss) ∧ (size = size2'))))))) ∧ (∀ size2 : Int, (slices_Concat_int_int__JA0 xss size2) → (PC Try.prog 186 [.nil, .int .i64 size2] (.one (.own 3 (.ints ([] : List Int))))) ∧ ((∃ out' : List Int, ∃ i' : Int, (slices_Concat_int_int__JJ1 xss size2 out' i') ∧ (([] : List Int).length = out'.length) ∧ (xss = xss) ∧ ((xss.length : Int) = (xss.length : Int)) ∧ ((0 : Int) = i') ∧ (([] : List Int) = out')) ∧ (∀ out : List Int, ∀ i : Int, (slices_Concat_int_int__JJ1 xss size2 out i) → (((decide (i < (xss.length : Int))) = true → ((0 : Int) ≤ i) ∧ ((i : Int) < xss.length) ∧ (i.toNat < xss.length) ∧ (out.length = out.length) ∧ (True) ∧ ((out.length + (xss.getD i.toNat []).length) * 8 ≤ 140737488355328) ∧ (-9223372036854775808 ≤ (i + 1) ∧ (i + 1) ≤ 9223372036854775807) ∧ (∃ out' : List Int, ∃ i' : Int, (slices_Concat_int_int__JJ1 xss size2 out' i') ∧ (slices_Concat_int_int__mJ1 xss size2 out' i' < slices_Concat_int_int__mJ1 xss size2 out i) ∧ ((out.length + (xss.getD i.toNat []).length) = out'.length) ∧ (xss = xss) ∧ ((xss.length : Int) = (xss.length : Int)) ∧ ((i + 1) = i') ∧ ((out ++ (xss.getD i.toNat [])) = out'))) ∧ ((decide (i < (xss.length : Int))) = false → ((out.length = out.length) ∧ ((out : List Int) = xss.flatten))))))))
theorem slices_Concat_int_int__vc (xss : List (List Int)) (hs : ∀ l ∈ xss, l.length ≤ 7) (hl : xss.length ≤ 7) (w_xss : (xss.length : Int) ≤ 9223372036854775807) (v_xss : ∀ x9 ∈ xss, (x9.length : Int) ≤ 9223372036854775807) : slices_Concat_int_int__P xss := by
  unfold slices_Concat_int_int__P
  refine ⟨?_, ?_⟩
  · refine ⟨?_, ?_⟩
    · refine ⟨0, 0, ?_⟩
      refine ⟨?_, rfl, rfl, rfl, rfl, rfl⟩
      · refine ⟨?_, ?_, ?_⟩
        · first | omega | rfl | (intro hg; simp only [nrmT] at hg; omega) | (intro g1 g2; simp [g1, g2]; done) | (intro g1; simp at g1 ⊢; simp [g1]; done) | (simp only [nrmT] at *; omega) | (simp at * <;> omega) | (simp_all <;> omega) | (simp_all; done)
        · first | omega | rfl | (intro hg; simp only [nrmT] at hg; omega) | (intro g1 g2; simp [g1, g2]; done) | (intro g1; simp at g1 ⊢; simp [g1]; done) | (simp only [nrmT] at *; omega) | (simp at * <;> omega) | (simp_all <;> omega) | (simp_all; done)
        · first | omega | rfl | (intro hg; simp only [nrmT] at hg; omega) | (intro g1 g2; simp [g1, g2]; done) | (intro g1; simp at g1 ⊢; simp [g1]; done) | (simp only [nrmT] at *; omega) | (simp at * <;> omega) | (simp_all <;> omega) | (simp_all; done)
    · intro size i hJ
      obtain ⟨h1, h2, h3⟩ := hJ
      refine ⟨?_, ?_⟩
      · intro b1
        try simp only [nrmT] at b1
        refine ⟨?_, ?_, ?_, ?_, ?_, ?_, ?_⟩
        · first | omega | rfl | (intro hg; simp only [nrmT] at hg; omega) | (intro g1 g2; simp [g1, g2]; done) | (intro g1; simp at g1 ⊢; simp [g1]; done) | (simp only [nrmT] at *; omega) | (simp at * <;> omega) | (simp_all <;> omega) | (simp_all; done)
        · first | omega | rfl | (intro hg; simp only [nrmT] at hg; omega) | (intro g1 g2; simp [g1, g2]; done) | (intro g1; simp at g1 ⊢; simp [g1]; done) | (simp only [nrmT] at *; omega) | (simp at * <;> omega) | (simp_all <;> omega) | (simp_all; done)
        · first | omega | rfl | (intro hg; simp only [nrmT] at hg; omega) | (intro g1 g2; simp [g1, g2]; done) | (intro g1; simp at g1 ⊢; simp [g1]; done) | (simp only [nrmT] at *; omega) | (simp at * <;> omega) | (simp_all <;> omega) | (simp_all; done)
        · have hb := flat_len (Dist := xss.take i.toNat) (m := 7) (fun l hl => hs l (List.mem_of_mem_take hl))
          have hb2 : (xss.take i.toNat).length ≤ 7 := by rw [List.length_take]; omega
          have hb3 := hs _ (getD_memI (d := []) h1 (by omega))
          omega
        · have hb := flat_len (Dist := xss.take i.toNat) (m := 7) (fun l hl => hs l (List.mem_of_mem_take hl))
          have hb2 : (xss.take i.toNat).length ≤ 7 := by rw [List.length_take]; omega
          rw [h3]
          exact decide_eq_false (by omega)
        · first | omega | rfl | (intro hg; simp only [nrmT] at hg; omega) | (intro g1 g2; simp [g1, g2]; done) | (intro g1; simp at g1 ⊢; simp [g1]; done) | (simp only [nrmT] at *; omega) | (simp at * <;> omega) | (simp_all <;> omega) | (simp_all; done)
        · refine ⟨(size + (((xss.getD i.toNat []).length) : Int)), (i + 1), ?_⟩
          refine ⟨?_, ?_, rfl, rfl, rfl, rfl, rfl⟩
          · refine ⟨?_, ?_, ?_⟩
            · first | omega | rfl | (intro hg; simp only [nrmT] at hg; omega) | (intro g1 g2; simp [g1, g2]; done) | (intro g1; simp at g1 ⊢; simp [g1]; done) | (simp only [nrmT] at *; omega) | (simp at * <;> omega) | (simp_all <;> omega) | (simp_all; done)
            · first | omega | rfl | (intro hg; simp only [nrmT] at hg; omega) | (intro g1 g2; simp [g1, g2]; done) | (intro g1; simp at g1 ⊢; simp [g1]; done) | (simp only [nrmT] at *; omega) | (simp at * <;> omega) | (simp_all <;> omega) | (simp_all; done)
            · rw [flat_step h1 (by omega), List.length_append, h3]; omega
          · first | (show _ < _; omega) | (simp only [slices_Concat_int_int__mJ0]; omega) | (simp only [slices_Concat_int_int__mJ0] at *; simp at *; omega)
      · intro b2
        try simp only [nrmT] at b2
        refine ⟨size, ?_⟩
        refine ⟨?_, rfl, rfl⟩
        · unfold slices_Concat_int_int__JA0
          rw [h3, take_all (by omega)]
  · intro size2 hJ
    have k3 := hJ
    refine ⟨?_, ?_, ?_⟩
    · refine slices_Grow_int_int__pc size2 ?_
      · have hb := flat_len hs
        omega
    · refine ⟨([] : List Int), 0, ?_⟩
      refine ⟨?_, rfl, rfl, rfl, rfl, rfl⟩
      · refine ⟨?_, ?_, ?_⟩
        · first | omega | rfl | (intro hg; simp only [nrmT] at hg; omega) | (intro g1 g2; simp [g1, g2]; done) | (intro g1; simp at g1 ⊢; simp [g1]; done) | (simp only [nrmT] at *; omega) | (simp at * <;> omega) | (simp_all <;> omega) | (simp_all; done)
        · first | omega | rfl | (intro hg; simp only [nrmT] at hg; omega) | (intro g1 g2; simp [g1, g2]; done) | (intro g1; simp at g1 ⊢; simp [g1]; done) | (simp only [nrmT] at *; omega) | (simp at * <;> omega) | (simp_all <;> omega) | (simp_all; done)
        · first | omega | rfl | (intro hg; simp only [nrmT] at hg; omega) | (intro g1 g2; simp [g1, g2]; done) | (intro g1; simp at g1 ⊢; simp [g1]; done) | (simp only [nrmT] at *; omega) | (simp at * <;> omega) | (simp_all <;> omega) | (simp_all; done)
    · intro out i hJ
      obtain ⟨h1, h2, h3⟩ := hJ
      refine ⟨?_, ?_⟩
      · intro b3
        try simp only [nrmT] at b3
        refine ⟨?_, ?_, ?_, rfl, trivial, ?_, ?_, ?_⟩
        · first | omega | rfl | (intro hg; simp only [nrmT] at hg; omega) | (intro g1 g2; simp [g1, g2]; done) | (intro g1; simp at g1 ⊢; simp [g1]; done) | (simp only [nrmT] at *; omega) | (simp at * <;> omega) | (simp_all <;> omega) | (simp_all; done)
        · first | omega | rfl | (intro hg; simp only [nrmT] at hg; omega) | (intro g1 g2; simp [g1, g2]; done) | (intro g1; simp at g1 ⊢; simp [g1]; done) | (simp only [nrmT] at *; omega) | (simp at * <;> omega) | (simp_all <;> omega) | (simp_all; done)
        · first | omega | rfl | (intro hg; simp only [nrmT] at hg; omega) | (intro g1 g2; simp [g1, g2]; done) | (intro g1; simp at g1 ⊢; simp [g1]; done) | (simp only [nrmT] at *; omega) | (simp at * <;> omega) | (simp_all <;> omega) | (simp_all; done)
        · have hb := flat_len (Dist := xss.take i.toNat) (m := 7) (fun l hl => hs l (List.mem_of_mem_take hl))
          have hb2 : (xss.take i.toNat).length ≤ 7 := by rw [List.length_take]; omega
          have hb3 := hs _ (getD_memI (d := []) h1 (by omega))
          rw [h3]
          omega
        · first | omega | rfl | (intro hg; simp only [nrmT] at hg; omega) | (intro g1 g2; simp [g1, g2]; done) | (intro g1; simp at g1 ⊢; simp [g1]; done) | (simp only [nrmT] at *; omega) | (simp at * <;> omega) | (simp_all <;> omega) | (simp_all; done)
        · refine ⟨(out ++ (xss.getD i.toNat [])), (i + 1), ?_⟩
          refine ⟨?_, ?_, ?_, rfl, rfl, rfl, rfl⟩
          · refine ⟨?_, ?_, ?_⟩
            · first | omega | rfl | (intro hg; simp only [nrmT] at hg; omega) | (intro g1 g2; simp [g1, g2]; done) | (intro g1; simp at g1 ⊢; simp [g1]; done) | (simp only [nrmT] at *; omega) | (simp at * <;> omega) | (simp_all <;> omega) | (simp_all; done)
            · first | omega | rfl | (intro hg; simp only [nrmT] at hg; omega) | (intro g1 g2; simp [g1, g2]; done) | (intro g1; simp at g1 ⊢; simp [g1]; done) | (simp only [nrmT] at *; omega) | (simp at * <;> omega) | (simp_all <;> omega) | (simp_all; done)
            · rw [flat_step h1 (by omega), h3]
          · first | (show _ < _; omega) | (simp only [slices_Concat_int_int__mJ1]; omega) | (simp only [slices_Concat_int_int__mJ1] at *; simp at *; omega)
          · first | omega | rfl | (intro hg; simp only [nrmT] at hg; omega) | (intro g1 g2; simp [g1, g2]; done) | (intro g1; simp at g1 ⊢; simp [g1]; done) | (simp only [nrmT] at *; omega) | (simp at * <;> omega) | (simp_all <;> omega) | (simp_all; done)
      · intro b4
        try simp only [nrmT] at b4
        refine ⟨rfl, ?_⟩
        · rw [h3, take_all (by omega)]
theorem slices_Concat_int_int__pc (xss : List (List Int)) (hs : ∀ l ∈ xss, l.length ≤ 7) (hl : xss.length ≤ 7) : PC Try.prog 148 [.sl (.rows xss)] (.one (.own 3 (.ints xss.flatten))) :=
  pc_wf @Try.call148 fun hw => pc_by (by kernel_rfl) Try.func148 @Try.call148 (by kernel_rfl) slices_Concat_int_int__C (slices_Concat_int_int__A xss) (by kernel_rfl) (slices_Concat_int_int__vc xss hs hl hw.1.1 hw.1.2) (by kernel_rfl)
def slices_Concat_int_int__orc : List D → Orc := orcN [some .rows] fun ds => match ds with
  | [.sl (.rows xss)] => some (.one (.own 3 (.ints xss.flatten)))
  | _ => none
abbrev s_l5Lengths_JJ0 (Open : List Int) (Dist : List (List Int)) (out : List Int) (j : Int) : Prop := (0 ≤ j) ∧ (j ≤ (Dist.length : Int)) ∧ (out = putFl [] (Dist.take j.toNat).flatten)
abbrev s_l5Lengths_mJ0 (Open : List Int) (Dist : List (List Int)) (out : List Int) (j : Int) : Nat := (Dist.length - j).toNat
abbrev s_l5Lengths_JJ1 (Open : List Int) (Dist : List (List Int)) (out : List Int) (j : Int) (out2 : List Int) (a : Int) : Prop := (0 ≤ a) ∧ (a ≤ ((Dist.getD j.toNat []).length : Int)) ∧ (out2 = putFl [] ((Dist.take j.toNat).flatten ++ (Dist.getD j.toNat []).take a.toNat))
abbrev s_l5Lengths_mJ1 (Open : List Int) (Dist : List (List Int)) (out : List Int) (j : Int) (out2 : List Int) (a : Int) : Nat := ((Dist.getD j.toNat []).length - a).toNat
def s_l5Lengths_C (f : FuncId) (ds : List D) : Orc := bif Nat.beq f 147 then s_l1Put_orc ds else .no
def s_l5Lengths_A (Open : List Int) (Dist : List (List Int)) : Ann := .two (.none) (.two (.reg [(0, .frz)]) (.two (.two (.none) (.loop (cut2 (fun (out : List Int) (j : Int) => s_l5Lengths_JJ0 Open Dist out j) (fun (out : List Int) (j : Int) => [(1, .ptr 1 0), (3, .d true (.sl (.ints out))), (4, .d true (.int .i64 j))]) (fun (out : List Int) (j : Int) => [(1, .box 37 [.d false (.sl (.ints Open)), .d false (.sl (.rows Dist))])])) (fun g => s_l5Lengths_mJ0 Open Dist g.1 g.2) (fun g => (fun (out : List Int) (j : Int) => .two (.none) (.two (.two (.none) (.loop (cut2 (fun (out2 : List Int) (a : Int) => s_l5Lengths_JJ1 Open Dist out j out2 a) (fun (out2 : List Int) (a : Int) => [(1, .ptr 1 0), (3, .d true (.sl (.ints out2))), (4, .d true (.int .i64 j)), (5, .d true (.int .i64 a))]) (fun (out2 : List Int) (a : Int) => [(1, .box 37 [.d false (.sl (.ints Open)), .d false (.sl (.rows Dist))])])) (fun g => s_l5Lengths_mJ1 Open Dist out j g.1 g.2) (fun _ => .none))) (.none))) (g.1) (g.2)))) (.none)))
def s_l5Lengths_P (Open : List Int) (Dist : List (List Int)) : Prop :=
  ((∃ out' : List Int, ∃ j' : Int, (s_l5Lengths_JJ0 Open Dist out' j') ∧ ([] = out') ∧ ((0 : Int) = j') ∧ (Open = Open) ∧ (Dist = Dist)) ∧ (∀ out : List Int, ∀ j : Int, (s_l5Lengths_JJ0 Open Dist out j) → (((decide (j < (Dist.length : Int))) = true → ((∃ out2' : List Int, ∃ a' : Int, (s_l5Lengths_JJ1 Open Dist out j out2' a') ∧ (out = out2') ∧ (j = j) ∧ ((0 : Int) = a') ∧ (Open = Open) ∧ (Dist = Dist)) ∧ (∀ out2 : List Int, ∀ a : Int, (s_l5Lengths_JJ1 Open Dist out j out2 a) → ((0 : Int) ≤ j) ∧ ((j : Int) < Dist.length) ∧ (j.toNat < Dist.length) ∧ (((decide (a < (((Dist.getD j.toNat []).length) : Int))) = true → ((0 : Int) ≤ j) ∧ ((j : Int) < Dist.length) ∧ (j.toNat < Dist.length) ∧ ((0 : Int) ≤ a) ∧ ((a : Int) < (Dist.getD j.toNat []).length) ∧ (a.toNat < (Dist.getD j.toNat []).length) ∧ (PCs Try.prog 147 [.sl (.ints out2), .int .i64 ((Dist.getD j.toNat []).getD a.toNat 0)] 0 (.sl (.ints (putL out2 ((Dist.getD j.toNat []).getD a.toNat 0))))) ∧ (-9223372036854775808 ≤ (a + 1) ∧ (a + 1) ≤ 9223372036854775807) ∧ (∃ out2' : List Int, ∃ a' : Int, (s_l5Lengths_JJ1 Open Dist out j out2' a') ∧ (s_l5Lengths_mJ1 Open Dist out j out2' a' < s_l5Lengths_mJ1 Open Dist out j out2 a) ∧ ((putL out2 ((Dist.getD j.toNat []).getD a.toNat 0)) = out2') ∧ (j = j) ∧ ((a + 1) = a') ∧ (Open = Open) ∧ (Dist = Dist))) ∧ ((decide (a < (((Dist.getD j.toNat []).length) : Int))) = false → (-9223372036854775808 ≤ (j + 1) ∧ (j + 1) ≤ 9223372036854775807) ∧ (∃ out' : List Int, ∃ j' : Int, (s_l5Lengths_JJ0 Open Dist out' j') ∧ (s_l5Lengths_mJ0 Open Dist out' j' < s_l5Lengths_mJ0 Open Dist out j) ∧ (out2 = out') ∧ ((j + 1) = j') ∧ (Open = Open) ∧ (Dist = Dist))))))) ∧ ((decide (j < (Dist.length : Int))) = false → (((out : List Int) = (lnsD Dist)))))))
theorem s_l5Lengths_vc (Open : List Int) (Dist : List (List Int)) (hg : goodField Open Dist = true) (w_Open : (Open.length : Int) ≤ 9223372036854775807) (w_Dist : (Dist.length : Int) ≤ 9223372036854775807) (v_Dist : ∀ x9 ∈ Dist, (x9.length : Int) ≤ 9223372036854775807) : s_l5Lengths_P Open Dist := by
  unfold s_l5Lengths_P
  obtain ⟨g1, g2, g3⟩ := gf_open hg
  refine ⟨?_, ?_⟩
  · refine ⟨([]), 0, ?_⟩
    refine ⟨?_, ?_, rfl, rfl, rfl⟩
    · refine ⟨?_, ?_, ?_⟩
      · first | omega | rfl | (intro hg; simp only [nrmT] at hg; omega) | (intro g1 g2; simp [g1, g2]; done) | (intro g1; simp at g1 ⊢; simp [g1]; done) | (simp only [nrmT] at *; omega) | (simp at * <;> omega) | (simp_all <;> omega) | (simp_all; done)
      · first | omega | rfl | (intro hg; simp only [nrmT] at hg; omega) | (intro g1 g2; simp [g1, g2]; done) | (intro g1; simp at g1 ⊢; simp [g1]; done) | (simp only [nrmT] at *; omega) | (simp at * <;> omega) | (simp_all <;> omega) | (simp_all; done)
      · first | omega | rfl | (intro hg; simp only [nrmT] at hg; omega) | (intro g1 g2; simp [g1, g2]; done) | (intro g1; simp at g1 ⊢; simp [g1]; done) | (simp only [nrmT] at *; omega) | (simp at * <;> omega) | (simp_all <;> omega) | (simp_all; done)
    · first | omega | rfl | (intro hg; simp only [nrmT] at hg; omega) | (intro g1 g2; simp [g1, g2]; done) | (intro g1; simp at g1 ⊢; simp [g1]; done) | (simp only [nrmT] at *; omega) | (simp at * <;> omega) | (simp_all <;> omega) | (simp_all; done)
  · intro out j hJ
    obtain ⟨h1, h2, h3⟩ := hJ
    refine ⟨?_, ?_⟩
    · intro b1
      try simp only [nrmT] at b1
      refine ⟨?_, ?_⟩
      · refine ⟨out, 0, ?_⟩
        refine ⟨?_, rfl, rfl, rfl, rfl, rfl⟩
        · refine ⟨?_, ?_, ?_⟩
          · first | omega | rfl | (intro hg; simp only [nrmT] at hg; omega) | (intro g1 g2; simp [g1, g2]; done) | (intro g1; simp at g1 ⊢; simp [g1]; done) | (simp only [nrmT] at *; omega) | (simp at * <;> omega) | (simp_all <;> omega) | (simp_all; done)
          · first | omega | rfl | (intro hg; simp only [nrmT] at hg; omega) | (intro g1 g2; simp [g1, g2]; done) | (intro g1; simp at g1 ⊢; simp [g1]; done) | (simp only [nrmT] at *; omega) | (simp at * <;> omega) | (simp_all <;> omega) | (simp_all; done)
          · rw [h3]; simp
      · intro out2 a hJ
        obtain ⟨h5, h6, h7⟩ := hJ
        refine ⟨?_, ?_, ?_, ?_, ?_⟩
        · first | omega | rfl | (intro hg; simp only [nrmT] at hg; omega) | (intro g1 g2; simp [g1, g2]; done) | (intro g1; simp at g1 ⊢; simp [g1]; done) | (simp only [nrmT] at *; omega) | (simp at * <;> omega) | (simp_all <;> omega) | (simp_all; done)
        · first | omega | rfl | (intro hg; simp only [nrmT] at hg; omega) | (intro g1 g2; simp [g1, g2]; done) | (intro g1; simp at g1 ⊢; simp [g1]; done) | (simp only [nrmT] at *; omega) | (simp at * <;> omega) | (simp_all <;> omega) | (simp_all; done)
        · first | omega | rfl | (intro hg; simp only [nrmT] at hg; omega) | (intro g1 g2; simp [g1, g2]; done) | (intro g1; simp at g1 ⊢; simp [g1]; done) | (simp only [nrmT] at *; omega) | (simp at * <;> omega) | (simp_all <;> omega) | (simp_all; done)
        · intro b2
          try simp only [nrmT] at b2
          refine ⟨?_, ?_, ?_, ?_, ?_, ?_, ?_, ?_, ?_⟩
          · first | omega | rfl | (intro hg; simp only [nrmT] at hg; omega) | (intro g1 g2; simp [g1, g2]; done) | (intro g1; simp at g1 ⊢; simp [g1]; done) | (simp only [nrmT] at *; omega) | (simp at * <;> omega) | (simp_all <;> omega) | (simp_all; done)
          · first | omega | rfl | (intro hg; simp only [nrmT] at hg; omega) | (intro g1 g2; simp [g1, g2]; done) | (intro g1; simp at g1 ⊢; simp [g1]; done) | (simp only [nrmT] at *; omega) | (simp at * <;> omega) | (simp_all <;> omega) | (simp_all; done)
          · first | omega | rfl | (intro hg; simp only [nrmT] at hg; omega) | (intro g1 g2; simp [g1, g2]; done) | (intro g1; simp at g1 ⊢; simp [g1]; done) | (simp only [nrmT] at *; omega) | (simp at * <;> omega) | (simp_all <;> omega) | (simp_all; done)
          · first | omega | rfl | (intro hg; simp only [nrmT] at hg; omega) | (intro g1 g2; simp [g1, g2]; done) | (intro g1; simp at g1 ⊢; simp [g1]; done) | (simp only [nrmT] at *; omega) | (simp at * <;> omega) | (simp_all <;> omega) | (simp_all; done)
          · first | omega | rfl | (intro hg; simp only [nrmT] at hg; omega) | (intro g1 g2; simp [g1, g2]; done) | (intro g1; simp at g1 ⊢; simp [g1]; done) | (simp only [nrmT] at *; omega) | (simp at * <;> omega) | (simp_all <;> omega) | (simp_all; done)
          · first | omega | rfl | (intro hg; simp only [nrmT] at hg; omega) | (intro g1 g2; simp [g1, g2]; done) | (intro g1; simp at g1 ⊢; simp [g1]; done) | (simp only [nrmT] at *; omega) | (simp at * <;> omega) | (simp_all <;> omega) | (simp_all; done)
          · refine s_l1Put_pc out2 ((Dist.getD j.toNat []).getD a.toNat 0) ?_
            · have rl := (gf_row hg (i := j.toNat) (by omega)).1
              have hb := flat_len (Dist := Dist.take j.toNat) (m := 7) (fun l hl => by rw [gf_mem hg l (List.mem_of_mem_take hl)]; exact g2)
              have hb2 : (Dist.take j.toNat).length ≤ 7 := by rw [List.length_take]; omega
              have hb3 := putFl_len ((Dist.take j.toNat).flatten ++ (Dist.getD j.toNat []).take a.toNat) []
              rw [← h7, List.length_append, List.length_take] at hb3
              simp only [List.length_nil] at hb3
              omega
          · have rl := (gf_row hg (i := j.toNat) (by omega)).1
            omega
          · refine ⟨(putL out2 ((Dist.getD j.toNat []).getD a.toNat 0)), (a + 1), ?_⟩
            refine ⟨?_, ?_, rfl, rfl, rfl, rfl, rfl⟩
            · refine ⟨?_, ?_, ?_⟩
              · first | omega | rfl | (intro hg; simp only [nrmT] at hg; omega) | (intro g1 g2; simp [g1, g2]; done) | (intro g1; simp at g1 ⊢; simp [g1]; done) | (simp only [nrmT] at *; omega) | (simp at * <;> omega) | (simp_all <;> omega) | (simp_all; done)
              · first | omega | rfl | (intro hg; simp only [nrmT] at hg; omega) | (intro g1 g2; simp [g1, g2]; done) | (intro g1; simp at g1 ⊢; simp [g1]; done) | (simp only [nrmT] at *; omega) | (simp at * <;> omega) | (simp_all <;> omega) | (simp_all; done)
              · rw [take_step (d := 0) h5 (by omega), ← List.append_assoc, putFl_snoc, h7]
            · first | (show _ < _; omega) | (simp only [s_l5Lengths_mJ1]; omega) | (simp only [s_l5Lengths_mJ1] at *; simp at *; omega)
        · intro b3
          try simp only [nrmT] at b3
          refine ⟨?_, ?_⟩
          · first | omega | rfl | (intro hg; simp only [nrmT] at hg; omega) | (intro g1 g2; simp [g1, g2]; done) | (intro g1; simp at g1 ⊢; simp [g1]; done) | (simp only [nrmT] at *; omega) | (simp at * <;> omega) | (simp_all <;> omega) | (simp_all; done)
          · refine ⟨out2, (j + 1), ?_⟩
            refine ⟨?_, ?_, rfl, rfl, rfl, rfl⟩
            · refine ⟨?_, ?_, ?_⟩
              · first | omega | rfl | (intro hg; simp only [nrmT] at hg; omega) | (intro g1 g2; simp [g1, g2]; done) | (intro g1; simp at g1 ⊢; simp [g1]; done) | (simp only [nrmT] at *; omega) | (simp at * <;> omega) | (simp_all <;> omega) | (simp_all; done)
              · first | omega | rfl | (intro hg; simp only [nrmT] at hg; omega) | (intro g1 g2; simp [g1, g2]; done) | (intro g1; simp at g1 ⊢; simp [g1]; done) | (simp only [nrmT] at *; omega) | (simp at * <;> omega) | (simp_all <;> omega) | (simp_all; done)
              · rw [flat_step h1 (by omega), h7, take_all (xs := Dist.getD j.toNat []) (by omega)]
            · first | (show _ < _; omega) | (simp only [s_l5Lengths_mJ0]; omega) | (simp only [s_l5Lengths_mJ0] at *; simp at *; omega)
    · intro b4
      try simp only [nrmT] at b4
      rw [h3, take_all (by omega)]; rfl
theorem s_l5Lengths_pc (Open : List Int) (Dist : List (List Int)) (hg : goodField Open Dist = true) : PC Try.prog 90 [.agg [.sl (.ints Open), .sl (.rows Dist)]] (.one (.d (.sl (.ints (lnsD Dist))))) :=
  pc_wf @Try.call90 fun hw => pc_by (by kernel_rfl) Try.func90 @Try.call90 (by kernel_rfl) s_l5Lengths_C (s_l5Lengths_A Open Dist) (by kernel_rfl) (s_l5Lengths_vc Open Dist hg hw.1.1 hw.1.2.1.1 hw.1.2.1.2) (by kernel_rfl)
def s_l5Lengths_orc : List D → Orc := orcN [none] fun ds => match ds with
  | [.agg [.sl (.ints Open), .sl (.rows Dist)]] => some (.one (.d (.sl (.ints (lnsD Dist)))))
  | _ => none
def i_Field_allLengths_C (f : FuncId) (ds : List D) : Orc := bif Nat.beq f 148 then slices_Concat_int_int__orc ds else .no
def i_Field_allLengths_A (Open : List Int) (Dist : List (List Int)) : Ann := .two (.none) (.two (.none) (.two (.mark [] 1 (.up (.ints (Dist.flatten.mergeSort (fun x9 y9 => decide (x9 ≤ y9)))) false)) (.two (.mark [] 1 (.up (.ints (Lib.compact (Dist.flatten.mergeSort (fun x9 y9 => decide (x9 ≤ y9))))) true)) (.none))))
def i_Field_allLengths_P (Open : List Int) (Dist : List (List Int)) : Prop :=
  (PC Try.prog 148 [.sl (.rows Dist)] (.one (.own 3 (.ints Dist.flatten)))) ∧ (Dist.flatten.length = Dist.flatten.length) ∧ (PU Try.prog 149 3 (.ints Dist.flatten) (.ints (Dist.flatten.mergeSort (fun x9 y9 => decide (x9 ≤ y9)))) [] false) ∧ (Dist.flatten.length = (Dist.flatten.mergeSort (fun x9 y9 => decide (x9 ≤ y9))).length) ∧ (PU Try.prog 150 3 (.ints (Dist.flatten.mergeSort (fun x9 y9 => decide (x9 ≤ y9)))) (.ints (Lib.compact (Dist.flatten.mergeSort (fun x9 y9 => decide (x9 ≤ y9))))) [] true) ∧ (((Lib.compact (Dist.flatten.mergeSort (fun x9 y9 => decide (x9 ≤ y9)))).length = (Lib.compact (Dist.flatten.mergeSort (fun x9 y9 => decide (x9 ≤ y9)))).length) ∧ (((Lib.compact (Dist.flatten.mergeSort (fun x9 y9 => decide (x9 ≤ y9)))) : List Int) = lnsD Dist))
theorem i_Field_allLengths_vc (Open : List Int) (Dist : List (List Int)) (hg : goodField Open Dist = true) (w_Open : (Open.length : Int) ≤ 9223372036854775807) (w_Dist : (Dist.length : Int) ≤ 9223372036854775807) (v_Dist : ∀ x9 ∈ Dist, (x9.length : Int) ≤ 9223372036854775807) : i_Field_allLengths_P Open Dist := by
  unfold i_Field_allLengths_P
  obtain ⟨g1, g2, g3⟩ := gf_open hg
  refine ⟨?_, rfl, ?_, ?_, slices_Compact_int_int__pu (Dist.flatten.mergeSort (fun x9 y9 => decide (x9 ≤ y9))), rfl, ?_⟩
  · refine slices_Concat_int_int__pc Dist ?_ ?_
    · intro l hl
      rw [gf_mem hg l hl]; exact g2
    · exact g3
  · refine slices_Sort_int_int__pu Dist.flatten ?_
    · have := gf_flat hg; omega
  · first | omega | rfl | (intro hg; simp only [nrmT] at hg; omega) | (intro g1 g2; simp [g1, g2]; done) | (intro g1; simp at g1 ⊢; simp [g1]; done) | (simp only [nrmT] at *; omega) | (simp at * <;> omega) | (simp_all <;> omega) | (simp_all; done)
  · exact lnsD_compact Dist
theorem i_Field_allLengths_pc (Open : List Int) (Dist : List (List Int)) (hg : goodField Open Dist = true) : PC Try.prog 91 [.agg [.sl (.ints Open), .sl (.rows Dist)]] (.one (.own 3 (.ints (lnsD Dist)))) :=
  pc_wf @Try.call91 fun hw => pc_by (by kernel_rfl) Try.func91 @Try.call91 (by kernel_rfl) i_Field_allLengths_C (i_Field_allLengths_A Open Dist) (by kernel_rfl) (i_Field_allLengths_vc Open Dist hg hw.1.1 hw.1.2.1.1 hw.1.2.1.2) (by kernel_rfl)
def i_Field_allLengths_orc : List D → Orc := orcN [none] fun ds => match ds with
  | [.agg [.sl (.ints Open), .sl (.rows Dist)]] => some (.one (.own 3 (.ints (lnsD Dist))))
  | _ => none
def frP (Open : List Int) (Dist : List (List Int)) (k : Int) (r9 : Int) : Bool := nearAll Dist r9 && decide (((lfTo Open.length Dist r9 (2 ^ Dist.length)).length : Int) ≤ k)
def frAt (Open : List Int) (Dist : List (List Int)) (k : Int) : Int := (lnsD Dist).getD (idxI (frP Open Dist k) (lnsD Dist)).toNat 0
def frL (Open : List Int) (Dist : List (List Int)) (k : Int) : Int := if (goodField Open Dist && inB k 1 (Open.length : Int)) = true then (if idxI (frP Open Dist k) (lnsD Dist) < 0 then 0 else frAt Open Dist k) else 0
theorem fr_no {Open : List Int} {Dist : List (List Int)} {k : Int} (h : (goodField Open Dist && inB k 1 (Open.length : Int)) = false) : frL Open Dist k = 0 := by rw [frL, h]; rfl
theorem fr_hit {Open : List Int} {Dist : List (List Int)} {k i : Int} (h : (goodField Open Dist && inB k 1 (Open.length : Int)) = true) (h0 : 0 ≤ i) (hi : idxI (frP Open Dist k) (lnsD Dist) = i) : frL Open Dist k = (lnsD Dist).getD i.toNat 0 := by
  rw [frL, if_pos h, if_neg (by omega), frAt, hi]
theorem fr_miss {Open : List Int} {Dist : List (List Int)} {k : Int} (hi : idxI (frP Open Dist k) (lnsD Dist) = -1) : frL Open Dist k = 0 := by
  rw [frL]
  split
  · rw [if_pos (by omega)]
  · rfl
abbrev s_FarReach_JJ0 (Open : List Int) (Dist : List (List Int)) (k : Int) (i : Int) : Prop := (0 ≤ i) ∧ (i ≤ ((lnsD Dist).length : Int)) ∧ (∀ j, j < i.toNat → frP Open Dist k ((lnsD Dist).getD j 0) = false)
abbrev s_FarReach_mJ0 (Open : List Int) (Dist : List (List Int)) (k : Int) (i : Int) : Nat := ((lnsD Dist).length - i).toNat
def s_FarReach_C (f : FuncId) (ds : List D) : Orc := bif Nat.beq f 107 then s_l5Ask_orc ds else bif Nat.beq f 90 then s_l5Lengths_orc ds else bif Nat.beq f 116 then s_l5Near_orc ds else bif Nat.beq f 117 then s_l5Most_orc ds else .no
def s_FarReach_A (Open : List Int) (Dist : List (List Int)) (k : Int) : Ann := .two (.none) (.two (.none) (.two (.none) (.two (.two (.none) (.loop (cut1 (fun (i : Int) => s_FarReach_JJ0 Open Dist k i) (fun (i : Int) => [(1, .d false (.int .i64 k)), (2, .ptr 2 0), (6, .d true (.sl (.ints (lnsD Dist)))), (7, .d true (.int .i64 i))]) (fun (i : Int) => [(2, .box 37 [.d false (.sl (.ints Open)), .d false (.sl (.rows Dist))])])) (fun g => s_FarReach_mJ0 Open Dist k g) (fun _ => .none))) (.none))))
def s_FarReach_P (Open : List Int) (Dist : List (List Int)) (k : Int) : Prop :=
  (PC Try.prog 107 [.agg [.sl (.ints Open), .sl (.rows Dist)], .int .i64 k] (.one (.d (.bool (goodField Open Dist && inB k 1 (Open.length : Int)))))) ∧ (((!(goodField Open Dist && inB k 1 (Open.length : Int))) = true → (((0 : Int) = (frL Open Dist k)) ∧ (false = (goodField Open Dist && inB k 1 (Open.length : Int))))) ∧ ((!(goodField Open Dist && inB k 1 (Open.length : Int))) = false → (PC Try.prog 90 [.agg [.sl (.ints Open), .sl (.rows Dist)]] (.one (.d (.sl (.ints (lnsD Dist)))))) ∧ ((∃ i' : Int, (s_FarReach_JJ0 Open Dist k i') ∧ (k = k) ∧ ((lnsD Dist) = (lnsD Dist)) ∧ ((0 : Int) = i') ∧ (Open = Open) ∧ (Dist = Dist)) ∧ (∀ i : Int, (s_FarReach_JJ0 Open Dist k i) → (((decide (i < (((lnsD Dist).length) : Int))) = true → (true = true) ∧ ((0 : Int) ≤ i) ∧ ((i : Int) < (lnsD Dist).length) ∧ (i.toNat < (lnsD Dist).length) ∧ (PC Try.prog 116 [.agg [.sl (.ints Open), .sl (.rows Dist)], .int .i64 ((lnsD Dist).getD i.toNat 0)] (.one (.d (.bool (nearAll Dist ((lnsD Dist).getD i.toNat 0)))))) ∧ ((nearAll Dist ((lnsD Dist).getD i.toNat 0)) = true → (nearAll Dist ((lnsD Dist).getD i.toNat 0)) = true) ∧ ((nearAll Dist ((lnsD Dist).getD i.toNat 0)) = true → (nearAll Dist ((lnsD Dist).getD i.toNat 0)) = true) ∧ (((nearAll Dist ((lnsD Dist).getD i.toNat 0)) = true → (0 : Int) ≤ i)) ∧ (((nearAll Dist ((lnsD Dist).getD i.toNat 0)) = true → (i : Int) < (lnsD Dist).length)) ∧ ((nearAll Dist ((lnsD Dist).getD i.toNat 0)) = true → (nearAll Dist ((lnsD Dist).getD i.toNat 0)) = true) ∧ (((nearAll Dist ((lnsD Dist).getD i.toNat 0)) = true → i.toNat < (lnsD Dist).length)) ∧ ((nearAll Dist ((lnsD Dist).getD i.toNat 0)) = true → (nearAll Dist ((lnsD Dist).getD i.toNat 0)) = true) ∧ ((nearAll Dist ((lnsD Dist).getD i.toNat 0)) = true → (nearAll Dist ((lnsD Dist).getD i.toNat 0)) = true) ∧ ((nearAll Dist ((lnsD Dist).getD i.toNat 0)) = true → PC Try.prog 117 [.agg [.sl (.ints Open), .sl (.rows Dist)], .int .i64 ((lnsD Dist).getD i.toNat 0)] (.one (.d (.sl (.ints (lfTo Open.length Dist ((lnsD Dist).getD i.toNat 0) (2 ^ Dist.length))))))) ∧ ((nearAll Dist ((lnsD Dist).getD i.toNat 0)) = true → (nearAll Dist ((lnsD Dist).getD i.toNat 0)) = true) ∧ ((nearAll Dist ((lnsD Dist).getD i.toNat 0)) = true → (nearAll Dist ((lnsD Dist).getD i.toNat 0)) = true) ∧ ((nearAll Dist ((lnsD Dist).getD i.toNat 0)) = true → (nearAll Dist ((lnsD Dist).getD i.toNat 0)) = true) ∧ (true = true) ∧ (((nearAll Dist ((lnsD Dist).getD i.toNat 0)) = true → (nearAll Dist ((lnsD Dist).getD i.toNat 0)) = true)) ∧ (((nearAll Dist ((lnsD Dist).getD i.toNat 0)) = false → true = true)) ∧ (((cond (nearAll Dist ((lnsD Dist).getD i.toNat 0)) (decide ((((lfTo Open.length Dist ((lnsD Dist).getD i.toNat 0) (2 ^ Dist.length)).length) : Int) ≤ k)) false) = true → ((0 : Int) ≤ i) ∧ ((i : Int) < (lnsD Dist).length) ∧ (i.toNat < (lnsD Dist).length) ∧ ((((lnsD Dist).getD i.toNat 0) = (frL Open Dist k)) ∧ (true = (goodField Open Dist && inB k 1 (Open.length : Int))))) ∧ ((cond (nearAll Dist ((lnsD Dist).getD i.toNat 0)) (decide ((((lfTo Open.length Dist ((lnsD Dist).getD i.toNat 0) (2 ^ Dist.length)).length) : Int) ≤ k)) false) = false → (-9223372036854775808 ≤ (i + 1) ∧ (i + 1) ≤ 9223372036854775807) ∧ (∃ i' : Int, (s_FarReach_JJ0 Open Dist k i') ∧ (s_FarReach_mJ0 Open Dist k i' < s_FarReach_mJ0 Open Dist k i) ∧ (k = k) ∧ ((lnsD Dist) = (lnsD Dist)) ∧ ((i + 1) = i') ∧ (Open = Open) ∧ (Dist = Dist))))) ∧ ((decide (i < (((lnsD Dist).length) : Int))) = false → (((0 : Int) = (frL Open Dist k)) ∧ (true = (goodField Open Dist && inB k 1 (Open.length : Int))))))))))
theorem s_FarReach_vc (Open : List Int) (Dist : List (List Int)) (k : Int)  (w_Open : (Open.length : Int) ≤ 9223372036854775807) (w_Dist : (Dist.length : Int) ≤ 9223372036854775807) (v_Dist : ∀ x9 ∈ Dist, (x9.length : Int) ≤ 9223372036854775807) : s_FarReach_P Open Dist k := by
  unfold s_FarReach_P
  refine ⟨s_l5Ask_pc Open Dist k, ?_, ?_⟩
  · intro b1
    try simp only [Bool.not_eq_true', Bool.not_eq_false', Bool.not_not] at b1
    refine ⟨?_, ?_⟩
    · have hgk : (goodField Open Dist && inB k 1 (Open.length : Int)) = false := by simpa using b1
      exact (fr_no hgk).symm
    · have hgk : (goodField Open Dist && inB k 1 (Open.length : Int)) = false := by simpa using b1
      exact hgk.symm
  · intro b2
    try simp only [Bool.not_eq_true', Bool.not_eq_false', Bool.not_not] at b2
    refine ⟨?_, ?_, ?_⟩
    · refine s_l5Lengths_pc Open Dist ?_
      · have hgk : (goodField Open Dist && inB k 1 (Open.length : Int)) = true := by simpa using b2
        obtain ⟨hg, hk⟩ := (Bool.and_eq_true _ _ ▸ hgk : _ ∧ _)
        have lb := lnsD_len Dist
        have gl := gf_flat hg
        exact hg
    · refine ⟨0, ?_⟩
      refine ⟨?_, rfl, rfl, rfl, rfl, rfl⟩
      · refine ⟨?_, ?_, ?_⟩
        · first | omega | rfl | (intro hg; simp only [nrmT] at hg; omega) | (intro g1 g2; simp [g1, g2]; done) | (intro g1; simp at g1 ⊢; simp [g1]; done) | (simp only [nrmT] at *; omega) | (simp at * <;> omega) | (simp_all <;> omega) | (simp_all; done)
        · first | omega | rfl | (intro hg; simp only [nrmT] at hg; omega) | (intro g1 g2; simp [g1, g2]; done) | (intro g1; simp at g1 ⊢; simp [g1]; done) | (simp only [nrmT] at *; omega) | (simp at * <;> omega) | (simp_all <;> omega) | (simp_all; done)
        · intro j hj; exact absurd hj (by simp)
    · intro i hJ
      obtain ⟨h1, h2, h3⟩ := hJ
      refine ⟨?_, ?_⟩
      · intro b3
        try simp only [nrmT] at b3
        refine ⟨rfl, ?_, ?_, ?_, ?_, id, id, ?_, ?_, id, ?_, id, id, ?_, id, id, id, rfl, id, fun _ => rfl, ?_, ?_⟩
        · first | omega | rfl | (intro hg; simp only [nrmT] at hg; omega) | (intro g1 g2; simp [g1, g2]; done) | (intro g1; simp at g1 ⊢; simp [g1]; done) | (simp only [nrmT] at *; omega) | (simp at * <;> omega) | (simp_all <;> omega) | (simp_all; done)
        · first | omega | rfl | (intro hg; simp only [nrmT] at hg; omega) | (intro g1 g2; simp [g1, g2]; done) | (intro g1; simp at g1 ⊢; simp [g1]; done) | (simp only [nrmT] at *; omega) | (simp at * <;> omega) | (simp_all <;> omega) | (simp_all; done)
        · first | omega | rfl | (intro hg; simp only [nrmT] at hg; omega) | (intro g1 g2; simp [g1, g2]; done) | (intro g1; simp at g1 ⊢; simp [g1]; done) | (simp only [nrmT] at *; omega) | (simp at * <;> omega) | (simp_all <;> omega) | (simp_all; done)
        · refine s_l5Near_pc Open Dist ((lnsD Dist).getD i.toNat 0) ?_
          · have hgk : (goodField Open Dist && inB k 1 (Open.length : Int)) = true := by simpa using b2
            obtain ⟨hg, hk⟩ := (Bool.and_eq_true _ _ ▸ hgk : _ ∧ _)
            have lb := lnsD_len Dist
            have gl := gf_flat hg
            exact hg
        · first | omega | rfl | (intro hg; simp only [nrmT] at hg; omega) | (intro g1 g2; simp [g1, g2]; done) | (intro g1; simp at g1 ⊢; simp [g1]; done) | (simp only [nrmT] at *; omega) | (simp at * <;> omega) | (simp_all <;> omega) | (simp_all; done)
        · first | omega | rfl | (intro hg; simp only [nrmT] at hg; omega) | (intro g1 g2; simp [g1, g2]; done) | (intro g1; simp at g1 ⊢; simp [g1]; done) | (simp only [nrmT] at *; omega) | (simp at * <;> omega) | (simp_all <;> omega) | (simp_all; done)
        · first | omega | rfl | (intro hg; simp only [nrmT] at hg; omega) | (intro g1 g2; simp [g1, g2]; done) | (intro g1; simp at g1 ⊢; simp [g1]; done) | (simp only [nrmT] at *; omega) | (simp at * <;> omega) | (simp_all <;> omega) | (simp_all; done)
        · intro hg
          refine s_l5Most_pc Open Dist ((lnsD Dist).getD i.toNat 0) ?_
          · have hgk : (goodField Open Dist && inB k 1 (Open.length : Int)) = true := by simpa using b2
            obtain ⟨hg, hk⟩ := (Bool.and_eq_true _ _ ▸ hgk : _ ∧ _)
            have lb := lnsD_len Dist
            have gl := gf_flat hg
            exact hg
        · intro b4
          refine ⟨?_, ?_, ?_, ?_, ?_⟩
          · first | omega | rfl | (intro hg; simp only [nrmT] at hg; omega) | (intro g1 g2; simp [g1, g2]; done) | (intro g1; simp at g1 ⊢; simp [g1]; done) | (simp only [nrmT] at *; omega) | (simp at * <;> omega) | (simp_all <;> omega) | (simp_all; done)
          · first | omega | rfl | (intro hg; simp only [nrmT] at hg; omega) | (intro g1 g2; simp [g1, g2]; done) | (intro g1; simp at g1 ⊢; simp [g1]; done) | (simp only [nrmT] at *; omega) | (simp at * <;> omega) | (simp_all <;> omega) | (simp_all; done)
          · first | omega | rfl | (intro hg; simp only [nrmT] at hg; omega) | (intro g1 g2; simp [g1, g2]; done) | (intro g1; simp at g1 ⊢; simp [g1]; done) | (simp only [nrmT] at *; omega) | (simp at * <;> omega) | (simp_all <;> omega) | (simp_all; done)
          · have hgk : (goodField Open Dist && inB k 1 (Open.length : Int)) = true := by simpa using b2
            obtain ⟨hg, hk⟩ := (Bool.and_eq_true _ _ ▸ hgk : _ ∧ _)
            have lb := lnsD_len Dist
            have gl := gf_flat hg
            exact (fr_hit hgk h1 (idx_found (p := frP Open Dist k) (d := 0) h1 (by omega) h3 (by revert b4; unfold frP; cases nearAll Dist ((lnsD Dist).getD i.toNat 0) <;> simp)).symm).symm
          · have hgk : (goodField Open Dist && inB k 1 (Open.length : Int)) = true := by simpa using b2
            obtain ⟨hg, hk⟩ := (Bool.and_eq_true _ _ ▸ hgk : _ ∧ _)
            have lb := lnsD_len Dist
            have gl := gf_flat hg
            exact hgk.symm
        · intro b5
          refine ⟨?_, ?_⟩
          · have hgk : (goodField Open Dist && inB k 1 (Open.length : Int)) = true := by simpa using b2
            obtain ⟨hg, hk⟩ := (Bool.and_eq_true _ _ ▸ hgk : _ ∧ _)
            have lb := lnsD_len Dist
            have gl := gf_flat hg
            omega
          · refine ⟨(i + 1), ?_⟩
            refine ⟨?_, ?_, rfl, rfl, rfl, rfl, rfl⟩
            · refine ⟨?_, ?_, ?_⟩
              · first | omega | rfl | (intro hg; simp only [nrmT] at hg; omega) | (intro g1 g2; simp [g1, g2]; done) | (intro g1; simp at g1 ⊢; simp [g1]; done) | (simp only [nrmT] at *; omega) | (simp at * <;> omega) | (simp_all <;> omega) | (simp_all; done)
              · first | omega | rfl | (intro hg; simp only [nrmT] at hg; omega) | (intro g1 g2; simp [g1, g2]; done) | (intro g1; simp at g1 ⊢; simp [g1]; done) | (simp only [nrmT] at *; omega) | (simp at * <;> omega) | (simp_all <;> omega) | (simp_all; done)
              · have hgk : (goodField Open Dist && inB k 1 (Open.length : Int)) = true := by simpa using b2
                obtain ⟨hg, hk⟩ := (Bool.and_eq_true _ _ ▸ hgk : _ ∧ _)
                have lb := lnsD_len Dist
                have gl := gf_flat hg
                exact idx_step (p := frP Open Dist k) h1 h3 (by revert b5; unfold frP; cases nearAll Dist ((lnsD Dist).getD i.toNat 0) <;> simp)
            · first | (show _ < _; omega) | (simp only [s_FarReach_mJ0]; omega) | (simp only [s_FarReach_mJ0] at *; simp at *; omega)
      · intro b6
        try simp only [nrmT] at b6
        refine ⟨?_, ?_⟩
        · exact (fr_miss (idx_none (p := frP Open Dist k) (d := 0) (by omega) h3)).symm
        · have hgk : (goodField Open Dist && inB k 1 (Open.length : Int)) = true := by simpa using b2
          obtain ⟨hg, hk⟩ := (Bool.and_eq_true _ _ ▸ hgk : _ ∧ _)
          have lb := lnsD_len Dist
          have gl := gf_flat hg
          exact hgk.symm
theorem s_FarReach_pc (Open : List Int) (Dist : List (List Int)) (k : Int)  : PC Try.prog 56 [.agg [.sl (.ints Open), .sl (.rows Dist)], .int .i64 k] (.tup [.d (.int .i64 (frL Open Dist k)), .d (.bool (goodField Open Dist && inB k 1 (Open.length : Int)))]) :=
  pc_wf @Try.call56 fun hw => pc_by (by kernel_rfl) Try.func56 @Try.call56 (by kernel_rfl) s_FarReach_C (s_FarReach_A Open Dist k) (by kernel_rfl) (s_FarReach_vc Open Dist k hw.1.1 hw.1.2.1.1 hw.1.2.1.2) (by kernel_rfl)
def s_FarReach_orc : List D → Orc := orcN [none, none] fun ds => match ds with
  | [.agg [.sl (.ints Open), .sl (.rows Dist)], .int .i64 k] => some (.tup [.d (.int .i64 (frL Open Dist k)), .d (.bool (goodField Open Dist && inB k 1 (Open.length : Int)))])
  | _ => none
abbrev i_FarReach_JJ0 (Open : List Int) (Dist : List (List Int)) (k : Int) (i : Int) : Prop := (0 ≤ i) ∧ (i ≤ ((lnsD Dist).length : Int)) ∧ (∀ j, j < i.toNat → frP Open Dist k ((lnsD Dist).getD j 0) = false)
abbrev i_FarReach_mJ0 (Open : List Int) (Dist : List (List Int)) (k : Int) (i : Int) : Nat := ((lnsD Dist).length - i).toNat
def i_FarReach_C (f : FuncId) (ds : List D) : Orc := bif Nat.beq f 95 then i_isMedianCase_orc ds else bif Nat.beq f 91 then i_Field_allLengths_orc ds else bif Nat.beq f 118 then i_Field_areReached_orc ds else .no
def i_FarReach_A (Open : List Int) (Dist : List (List Int)) (k : Int) : Ann := .two (.none) (.two (.none) (.two (.two (.none) (.loop (cut1 (fun (i : Int) => i_FarReach_JJ0 Open Dist k i) (fun (i : Int) => [(1, .d false (.int .i64 k)), (2, .ptr 2 0), (13, .own 13 ((lnsD Dist).length)), (14, .d true (.int .i64 (((lnsD Dist).length) : Int))), (15, .d true (.int .i64 i))]) (fun (i : Int) => [(2, .box 37 [.d false (.sl (.ints Open)), .d false (.sl (.rows Dist))]), (13, .arr true 3 (.ints (lnsD Dist)))])) (fun g => i_FarReach_mJ0 Open Dist k g) (fun g => (fun (i : Int) => .two (.none) (.two (.none) (.two (.two (.none) (.two (.reg [(6, .call none (.one (.d (.sl (.ints (lfTo Open.length Dist ((lnsD Dist).getD i.toNat 0) (2 ^ Dist.length)))))))]) (.none))) (.none)))) g))) (.none)))
def i_FarReach_P (Open : List Int) (Dist : List (List Int)) (k : Int) : Prop :=
  (PC Try.prog 95 [.agg [.sl (.ints Open), .sl (.rows Dist)], .int .i64 k] (.one (.d (.bool (goodField Open Dist && inB k 1 (Open.length : Int)))))) ∧ (((!(goodField Open Dist && inB k 1 (Open.length : Int))) = true → (((0 : Int) = (frL Open Dist k)) ∧ (false = (goodField Open Dist && inB k 1 (Open.length : Int))))) ∧ ((!(goodField Open Dist && inB k 1 (Open.length : Int))) = false → (PC Try.prog 91 [.agg [.sl (.ints Open), .sl (.rows Dist)]] (.one (.own 3 (.ints (lnsD Dist))))) ∧ ((∃ i' : Int, (i_FarReach_JJ0 Open Dist k i') ∧ (k = k) ∧ ((lnsD Dist).length = (lnsD Dist).length) ∧ ((((lnsD Dist).length) : Int) = (((lnsD Dist).length) : Int)) ∧ ((0 : Int) = i') ∧ (Open = Open) ∧ (Dist = Dist) ∧ (lnsD Dist = lnsD Dist)) ∧ (∀ i : Int, (i_FarReach_JJ0 Open Dist k i) → (((decide (i < (((lnsD Dist).length) : Int))) = true → ((0 : Int) ≤ i) ∧ ((i : Int) < (((lnsD Dist).length) : Int)) ∧ (i.toNat < (lnsD Dist).length) ∧ (PC Try.prog 118 [.agg [.sl (.ints Open), .sl (.rows Dist)], .int .i64 ((lnsD Dist).getD i.toNat 0)] (.one (.d (.bool (nearAll Dist ((lnsD Dist).getD i.toNat 0)))))) ∧ ((nearAll Dist ((lnsD Dist).getD i.toNat 0)) = true → (nearAll Dist ((lnsD Dist).getD i.toNat 0)) = true) ∧ ((nearAll Dist ((lnsD Dist).getD i.toNat 0)) = true → (nearAll Dist ((lnsD Dist).getD i.toNat 0)) = true) ∧ ((nearAll Dist ((lnsD Dist).getD i.toNat 0)) = true → PC Try.prog 119 [.agg [.sl (.ints Open), .sl (.rows Dist)], .int .i64 ((lnsD Dist).getD i.toNat 0)] (.one (.d (.sl (.ints (lfTo Open.length Dist ((lnsD Dist).getD i.toNat 0) (2 ^ Dist.length))))))) ∧ ((nearAll Dist ((lnsD Dist).getD i.toNat 0)) = true → (nearAll Dist ((lnsD Dist).getD i.toNat 0)) = true) ∧ ((nearAll Dist ((lnsD Dist).getD i.toNat 0)) = true → (nearAll Dist ((lnsD Dist).getD i.toNat 0)) = true) ∧ ((nearAll Dist ((lnsD Dist).getD i.toNat 0)) = true → (nearAll Dist ((lnsD Dist).getD i.toNat 0)) = true) ∧ (true = true) ∧ (((nearAll Dist ((lnsD Dist).getD i.toNat 0)) = true → (nearAll Dist ((lnsD Dist).getD i.toNat 0)) = true)) ∧ (((nearAll Dist ((lnsD Dist).getD i.toNat 0)) = false → true = true)) ∧ (((cond (nearAll Dist ((lnsD Dist).getD i.toNat 0)) (decide ((((lfTo Open.length Dist ((lnsD Dist).getD i.toNat 0) (2 ^ Dist.length)).length) : Int) ≤ k)) false) = true → ((((lnsD Dist).getD i.toNat 0) = (frL Open Dist k)) ∧ (true = (goodField Open Dist && inB k 1 (Open.length : Int))))) ∧ ((cond (nearAll Dist ((lnsD Dist).getD i.toNat 0)) (decide ((((lfTo Open.length Dist ((lnsD Dist).getD i.toNat 0) (2 ^ Dist.length)).length) : Int) ≤ k)) false) = false → (-9223372036854775808 ≤ (i + 1) ∧ (i + 1) ≤ 9223372036854775807) ∧ (∃ i' : Int, (i_FarReach_JJ0 Open Dist k i') ∧ (i_FarReach_mJ0 Open Dist k i' < i_FarReach_mJ0 Open Dist k i) ∧ (k = k) ∧ ((lnsD Dist).length = (lnsD Dist).length) ∧ ((((lnsD Dist).length) : Int) = (((lnsD Dist).length) : Int)) ∧ ((i + 1) = i') ∧ (Open = Open) ∧ (Dist = Dist) ∧ (lnsD Dist = lnsD Dist))))) ∧ ((decide (i < (((lnsD Dist).length) : Int))) = false → (((0 : Int) = (frL Open Dist k)) ∧ (true = (goodField Open Dist && inB k 1 (Open.length : Int))))))))))
theorem i_FarReach_vc (Open : List Int) (Dist : List (List Int)) (k : Int)  (w_Open : (Open.length : Int) ≤ 9223372036854775807) (w_Dist : (Dist.length : Int) ≤ 9223372036854775807) (v_Dist : ∀ x9 ∈ Dist, (x9.length : Int) ≤ 9223372036854775807) : i_FarReach_P Open Dist k := by
  unfold i_FarReach_P
  refine ⟨i_isMedianCase_pc Open Dist k, ?_, ?_⟩
  · intro b1
    try simp only [Bool.not_eq_true', Bool.not_eq_false', Bool.not_not] at b1
    refine ⟨?_, ?_⟩
    · have hgk : (goodField Open Dist && inB k 1 (Open.length : Int)) = false := by simpa using b1
      exact (fr_no hgk).symm
    · have hgk : (goodField Open Dist && inB k 1 (Open.length : Int)) = false := by simpa using b1
      exact hgk.symm
  · intro b2
    try simp only [Bool.not_eq_true', Bool.not_eq_false', Bool.not_not] at b2
    refine ⟨?_, ?_, ?_⟩
    · refine i_Field_allLengths_pc Open Dist ?_
      · have hgk : (goodField Open Dist && inB k 1 (Open.length : Int)) = true := by simpa using b2
        obtain ⟨hg, hk⟩ := (Bool.and_eq_true _ _ ▸ hgk : _ ∧ _)
        have lb := lnsD_len Dist
        have gl := gf_flat hg
        exact hg
    · refine ⟨0, ?_⟩
      refine ⟨?_, rfl, rfl, rfl, rfl, rfl, rfl, rfl⟩
      · refine ⟨?_, ?_, ?_⟩
        · first | omega | rfl | (intro hg; simp only [nrmT] at hg; omega) | (intro g1 g2; simp [g1, g2]; done) | (intro g1; simp at g1 ⊢; simp [g1]; done) | (simp only [nrmT] at *; omega) | (simp at * <;> omega) | (simp_all <;> omega) | (simp_all; done)
        · first | omega | rfl | (intro hg; simp only [nrmT] at hg; omega) | (intro g1 g2; simp [g1, g2]; done) | (intro g1; simp at g1 ⊢; simp [g1]; done) | (simp only [nrmT] at *; omega) | (simp at * <;> omega) | (simp_all <;> omega) | (simp_all; done)
        · intro j hj; exact absurd hj (by simp)
    · intro i hJ
      obtain ⟨h1, h2, h3⟩ := hJ
      refine ⟨?_, ?_⟩
      · intro b3
        try simp only [nrmT] at b3
        refine ⟨?_, ?_, ?_, ?_, id, id, ?_, id, id, id, rfl, id, fun _ => rfl, ?_, ?_⟩
        · first | omega | rfl | (intro hg; simp only [nrmT] at hg; omega) | (intro g1 g2; simp [g1, g2]; done) | (intro g1; simp at g1 ⊢; simp [g1]; done) | (simp only [nrmT] at *; omega) | (simp at * <;> omega) | (simp_all <;> omega) | (simp_all; done)
        · first | omega | rfl | (intro hg; simp only [nrmT] at hg; omega) | (intro g1 g2; simp [g1, g2]; done) | (intro g1; simp at g1 ⊢; simp [g1]; done) | (simp only [nrmT] at *; omega) | (simp at * <;> omega) | (simp_all <;> omega) | (simp_all; done)
        · first | omega | rfl | (intro hg; simp only [nrmT] at hg; omega) | (intro g1 g2; simp [g1, g2]; done) | (intro g1; simp at g1 ⊢; simp [g1]; done) | (simp only [nrmT] at *; omega) | (simp at * <;> omega) | (simp_all <;> omega) | (simp_all; done)
        · refine i_Field_areReached_pc Open Dist ((lnsD Dist).getD i.toNat 0) ?_
          · have hgk : (goodField Open Dist && inB k 1 (Open.length : Int)) = true := by simpa using b2
            obtain ⟨hg, hk⟩ := (Bool.and_eq_true _ _ ▸ hgk : _ ∧ _)
            have lb := lnsD_len Dist
            have gl := gf_flat hg
            exact hg
        · intro hg
          refine i_Field_largestFar_d_pc Open Dist ((lnsD Dist).getD i.toNat 0) ?_
          · have hgk : (goodField Open Dist && inB k 1 (Open.length : Int)) = true := by simpa using b2
            obtain ⟨hg, hk⟩ := (Bool.and_eq_true _ _ ▸ hgk : _ ∧ _)
            have lb := lnsD_len Dist
            have gl := gf_flat hg
            exact hg
        · intro b4
          refine ⟨?_, ?_⟩
          · have hgk : (goodField Open Dist && inB k 1 (Open.length : Int)) = true := by simpa using b2
            obtain ⟨hg, hk⟩ := (Bool.and_eq_true _ _ ▸ hgk : _ ∧ _)
            have lb := lnsD_len Dist
            have gl := gf_flat hg
            exact (fr_hit hgk h1 (idx_found (p := frP Open Dist k) (d := 0) h1 (by omega) h3 (by revert b4; unfold frP; cases nearAll Dist ((lnsD Dist).getD i.toNat 0) <;> simp)).symm).symm
          · have hgk : (goodField Open Dist && inB k 1 (Open.length : Int)) = true := by simpa using b2
            obtain ⟨hg, hk⟩ := (Bool.and_eq_true _ _ ▸ hgk : _ ∧ _)
            have lb := lnsD_len Dist
            have gl := gf_flat hg
            exact hgk.symm
        · intro b5
          refine ⟨?_, ?_⟩
          · have hgk : (goodField Open Dist && inB k 1 (Open.length : Int)) = true := by simpa using b2
            obtain ⟨hg, hk⟩ := (Bool.and_eq_true _ _ ▸ hgk : _ ∧ _)
            have lb := lnsD_len Dist
            have gl := gf_flat hg
            omega
          · refine ⟨(i + 1), ?_⟩
            refine ⟨?_, ?_, rfl, rfl, rfl, rfl, rfl, rfl, rfl⟩
            · refine ⟨?_, ?_, ?_⟩
              · first | omega | rfl | (intro hg; simp only [nrmT] at hg; omega) | (intro g1 g2; simp [g1, g2]; done) | (intro g1; simp at g1 ⊢; simp [g1]; done) | (simp only [nrmT] at *; omega) | (simp at * <;> omega) | (simp_all <;> omega) | (simp_all; done)
              · first | omega | rfl | (intro hg; simp only [nrmT] at hg; omega) | (intro g1 g2; simp [g1, g2]; done) | (intro g1; simp at g1 ⊢; simp [g1]; done) | (simp only [nrmT] at *; omega) | (simp at * <;> omega) | (simp_all <;> omega) | (simp_all; done)
              · have hgk : (goodField Open Dist && inB k 1 (Open.length : Int)) = true := by simpa using b2
                obtain ⟨hg, hk⟩ := (Bool.and_eq_true _ _ ▸ hgk : _ ∧ _)
                have lb := lnsD_len Dist
                have gl := gf_flat hg
                exact idx_step (p := frP Open Dist k) h1 h3 (by revert b5; unfold frP; cases nearAll Dist ((lnsD Dist).getD i.toNat 0) <;> simp)
            · first | (show _ < _; omega) | (simp only [i_FarReach_mJ0]; omega) | (simp only [i_FarReach_mJ0] at *; simp at *; omega)
      · intro b6
        try simp only [nrmT] at b6
        refine ⟨?_, ?_⟩
        · exact (fr_miss (idx_none (p := frP Open Dist k) (d := 0) (by omega) h3)).symm
        · have hgk : (goodField Open Dist && inB k 1 (Open.length : Int)) = true := by simpa using b2
          obtain ⟨hg, hk⟩ := (Bool.and_eq_true _ _ ▸ hgk : _ ∧ _)
          have lb := lnsD_len Dist
          have gl := gf_flat hg
          exact hgk.symm
theorem i_FarReach_pc (Open : List Int) (Dist : List (List Int)) (k : Int)  : PC Try.prog 57 [.agg [.sl (.ints Open), .sl (.rows Dist)], .int .i64 k] (.tup [.d (.int .i64 (frL Open Dist k)), .d (.bool (goodField Open Dist && inB k 1 (Open.length : Int)))]) :=
  pc_wf @Try.call57 fun hw => pc_by (by kernel_rfl) Try.func57 @Try.call57 (by kernel_rfl) i_FarReach_C (i_FarReach_A Open Dist k) (by kernel_rfl) (i_FarReach_vc Open Dist k hw.1.1 hw.1.2.1.1 hw.1.2.1.2) (by kernel_rfl)
def i_FarReach_orc : List D → Orc := orcN [none, none] fun ds => match ds with
  | [.agg [.sl (.ints Open), .sl (.rows Dist)], .int .i64 k] => some (.tup [.d (.int .i64 (frL Open Dist k)), .d (.bool (goodField Open Dist && inB k 1 (Open.length : Int)))])
  | _ => none
def l_FnExactFarReach_C (f : FuncId) (ds : List D) : Orc := bif Nat.beq f 27 then l_szField_orc ds else bif Nat.beq f 29 then l_toField_orc ds else bif Nat.beq f 56 then s_FarReach_orc ds else bif Nat.beq f 57 then i_FarReach_orc ds else bif Nat.beq f 32 then l_eqField_orc ds else .no
def l_FnExactFarReach_A (Open : List Int) (Dist : List (List Int)) (k : Int) : Ann := .two (.none) (.two (.none) (.two (.none) (.two (.none) (.two (.reg [(1, .g)]) (.two (.reg [(1, .g)]) (.two (.none) (.two (.none) (.two (.two (.reg [(2, .g)]) (.none)) (.none)))))))))
def l_FnExactFarReach_P (Open : List Int) (Dist : List (List Int)) (k : Int) : Prop :=
  (PC Try.prog 27 [.agg [.sl (.ints Open), .sl (.rows Dist)], .int .i64 1048576] (.one (.d (.int .i64 (szField Open Dist 1048576))))) ∧ (((decide ((szField Open Dist 1048576) < 0)) = true → ((true = true))) ∧ ((decide ((szField Open Dist 1048576) < 0)) = false → (PC Try.prog 29 [.agg [.sl (.ints Open), .sl (.rows Dist)]] (.one (.d (.agg [.sl (.ints Open), .sl (.rows Dist)])))) ∧ (PC Try.prog 56 [.agg [.sl (.ints Open), .sl (.rows Dist)], .int .i64 k] (.tup [.d (.int .i64 (frL Open Dist k)), .d (.bool (goodField Open Dist && inB k 1 (Open.length : Int)))])) ∧ (PC Try.prog 29 [.agg [.sl (.ints Open), .sl (.rows Dist)]] (.one (.d (.agg [.sl (.ints Open), .sl (.rows Dist)])))) ∧ (PC Try.prog 57 [.agg [.sl (.ints Open), .sl (.rows Dist)], .int .i64 k] (.tup [.d (.int .i64 (frL Open Dist k)), .d (.bool (goodField Open Dist && inB k 1 (Open.length : Int)))])) ∧ ((!((frL Open Dist k) != (frL Open Dist k))) = true → (!((frL Open Dist k) != (frL Open Dist k))) = true) ∧ ((!((frL Open Dist k) != (frL Open Dist k))) = true → (!((frL Open Dist k) != (frL Open Dist k))) = true) ∧ (true = true) ∧ ((((frL Open Dist k) != (frL Open Dist k)) = true → true = true)) ∧ ((((frL Open Dist k) != (frL Open Dist k)) = false → (!((frL Open Dist k) != (frL Open Dist k))) = true)) ∧ (((cond ((frL Open Dist k) != (frL Open Dist k)) true ((goodField Open Dist && inB k 1 (Open.length : Int)) != (goodField Open Dist && inB k 1 (Open.length : Int)))) = true → ((false = true))) ∧ ((cond ((frL Open Dist k) != (frL Open Dist k)) true ((goodField Open Dist && inB k 1 (Open.length : Int)) != (goodField Open Dist && inB k 1 (Open.length : Int)))) = false → (true = true) ∧ (PC Try.prog 29 [.agg [.sl (.ints Open), .sl (.rows Dist)]] (.one (.d (.agg [.sl (.ints Open), .sl (.rows Dist)])))) ∧ (PC Try.prog 32 [.agg [.sl (.ints Open), .sl (.rows Dist)], .agg [.sl (.ints Open), .sl (.rows Dist)]] (.one (.d (.bool ((Open == Open) && (Dist == Dist)))))) ∧ (((!((Open == Open) && (Dist == Dist))) = true → ((false = true))) ∧ ((!((Open == Open) && (Dist == Dist))) = false → ((true = true))))))))
theorem l_FnExactFarReach_vc (Open : List Int) (Dist : List (List Int)) (k : Int)  (w_Open : (Open.length : Int) ≤ 9223372036854775807) (w_Dist : (Dist.length : Int) ≤ 9223372036854775807) (v_Dist : ∀ x9 ∈ Dist, (x9.length : Int) ≤ 9223372036854775807) : l_FnExactFarReach_P Open Dist k := by
  unfold l_FnExactFarReach_P
  refine ⟨?_, ?_, ?_⟩
  · refine l_szField_pc Open Dist 1048576 ?_
    · first | omega | rfl | (intro hg; simp only [nrmT] at hg; omega) | (intro g1 g2; simp [g1, g2]; done) | (intro g1; simp at g1 ⊢; simp [g1]; done) | (simp only [nrmT] at *; omega) | (simp at * <;> omega) | (simp_all <;> omega) | (simp_all; done)
  · intro b1
    try simp only [nrmT] at b1
    exact rfl
  · intro b2
    try simp only [nrmT] at b2
    refine ⟨?_, s_FarReach_pc Open Dist k, ?_, i_FarReach_pc Open Dist k, id, id, rfl, fun _ => rfl, ?_, ?_, ?_⟩
    · refine l_toField_pc Open Dist ?_ ?_ ?_
      · have := szField_bound b2; omega
      · have := szField_bound b2; omega
      · have h := (szField_bound b2).2.2
        intro xs hx
        have h := h xs hx
        omega
    · refine l_toField_pc Open Dist ?_ ?_ ?_
      · have := szField_bound b2; omega
      · have := szField_bound b2; omega
      · have h := (szField_bound b2).2.2
        intro xs hx
        have h := h xs hx
        omega
    · intro h; rw [h]; rfl
    · intro b3
      first | (exfalso; simp only [marks_len] at b3; omega) | (simp at b3; done) | (exfalso; simp only [marks_len] at b3; simp at b3; done) | omega | rfl | (intro hg; simp only [nrmT] at hg; omega) | (intro g1 g2; simp [g1, g2]; done) | (intro g1; simp at g1 ⊢; simp [g1]; done) | (simp only [nrmT] at *; omega) | (simp at * <;> omega) | (simp_all <;> omega) | (simp_all; done)
    · intro b4
      refine ⟨rfl, ?_, l_eqField_pc Open Dist Open Dist, ?_, ?_⟩
      · refine l_toField_pc Open Dist ?_ ?_ ?_
        · have := szField_bound b2; omega
        · have := szField_bound b2; omega
        · have h := (szField_bound b2).2.2
          intro xs hx
          have h := h xs hx
          omega
      · intro b5
        try simp only [Bool.not_eq_true', Bool.not_eq_false', Bool.not_not] at b5
        first | (exfalso; simp only [marks_len] at b5; omega) | (simp at b5; done) | (exfalso; simp only [marks_len] at b5; simp at b5; done) | omega | rfl | (intro hg; simp only [nrmT] at hg; omega) | (intro g1 g2; simp [g1, g2]; done) | (intro g1; simp at g1 ⊢; simp [g1]; done) | (simp only [nrmT] at *; omega) | (simp at * <;> omega) | (simp_all <;> omega) | (simp_all; done)
      · intro b6
        try simp only [Bool.not_eq_true', Bool.not_eq_false', Bool.not_not] at b6
        exact rfl
theorem l_FnExactFarReach_pc (Open : List Int) (Dist : List (List Int)) (k : Int)  : PC Try.prog 14 [.agg [.sl (.ints Open), .sl (.rows Dist)], .int .i64 k] (.one (.d (.bool true))) :=
  pc_wf @Try.call14 fun hw => pc_by (by kernel_rfl) Try.func14 @Try.call14 (by kernel_rfl) l_FnExactFarReach_C (l_FnExactFarReach_A Open Dist k) (by kernel_rfl) (l_FnExactFarReach_vc Open Dist k hw.1.1 hw.1.2.1.1 hw.1.2.1.2) (by kernel_rfl)
end Go.Proofs.Ytmmoejdglnnmcaa
