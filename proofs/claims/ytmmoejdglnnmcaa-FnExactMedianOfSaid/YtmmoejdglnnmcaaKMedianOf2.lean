/- Contracts of the functions that the law reaches. -/
import Derived.Test.YtmmoejdglnnmcaaKMedianOf1
import Derived.KernelRfl
set_option linter.unusedVariables false
set_option linter.unusedSimpArgs false
namespace Go.Proofs.Ytmmoejdglnnmcaa
open Go

theorem i_Field_service_vc (Open : List Int) (Dist : List (List Int)) (set : List Int) (ht : (goodField Open Dist && rising set 0 ((Open.length : Int) - 1) && decide (0 < set.length)) = true) (w_Open : (Open.length : Int) ≤ 9223372036854775807) (w_Dist : (Dist.length : Int) ≤ 9223372036854775807) (v_Dist : ∀ x9 ∈ Dist, (x9.length : Int) ≤ 9223372036854775807) (w_set : (set.length : Int) ≤ 9223372036854775807) : i_Field_service_P Open Dist set := by
  unfold i_Field_service_P
  obtain ⟨hg, hs, hp⟩ := two_facts ht
  obtain ⟨g1, g2, g3⟩ := gf_open hg
  refine ⟨?_, rfl, ?_, ?_⟩
  · refine i_Field_lengths_pc Open Dist set ?_
    · exact ht
  · refine i_sum_pc (lensL Dist set Dist.length) ?_ ?_
    · exact lensL_in ht
    · rw [lensL_len]; exact g3
  · rw [lensL_len]; rfl
theorem i_Field_service_pc (Open : List Int) (Dist : List (List Int)) (set : List Int) (ht : (goodField Open Dist && rising set 0 ((Open.length : Int) - 1) && decide (0 < set.length)) = true) : PC Try.prog 96 [.agg [.sl (.ints Open), .sl (.rows Dist)], .sl (.ints set)] (.one (.d (.int .i64 (servOf Dist set)))) :=
  pc_wf @Try.call96 fun hw => pc_by (by kernel_rfl) Try.func96 @Try.call96 (by kernel_rfl) i_Field_service_C (i_Field_service_A Open Dist set) (by kernel_rfl) (i_Field_service_vc Open Dist set ht hw.1.1 hw.1.2.1.1 hw.1.2.1.2 hw.2.1) (by kernel_rfl)
def i_Field_service_orc : List D → Orc := orcN [none, some .ints] fun ds => match ds with
  | [.agg [.sl (.ints Open), .sl (.rows Dist)], .sl (.ints set)] => some (.one (.d (.int .i64 (servOf Dist set))))
  | _ => none
abbrev i_least_serv_JJ0 (xss : List (List Int)) (Open : List Int) (Dist : List (List Int)) (best : List Int) (i : Int) : Prop := (0 ≤ i) ∧ (i ≤ (xss.length : Int)) ∧ (best ∈ xss) ∧ (best = (xss.take i.toNat).foldl (lsB (servOf Dist)) (xss.getD 0 []))
abbrev i_least_serv_mJ0 (xss : List (List Int)) (Open : List Int) (Dist : List (List Int)) (best : List Int) (i : Int) : Nat := (xss.length - i).toNat
def i_least_serv_C (f : FuncId) (ds : List D) : Orc := bif Nat.beq f 96 then i_Field_service_orc ds else .no
def i_least_serv_A (xss : List (List Int)) (Open : List Int) (Dist : List (List Int)) : Ann := .two (.none) (.two (.none) (.two (.two (.none) (.loop (cut2 (fun (best : List Int) (i : Int) => i_least_serv_JJ0 xss Open Dist best i) (fun (best : List Int) (i : Int) => [(1, .d false (.fn 96 1 [.agg [.sl (.ints Open), .sl (.rows Dist)]])), (5, .d true (.sl (.ints best))), (11, .d true (.sl (.rows xss))), (12, .d true (.int .i64 (xss.length : Int))), (13, .d true (.int .i64 i))]) (fun (best : List Int) (i : Int) => [])) (fun g => i_least_serv_mJ0 xss Open Dist g.1 g.2) (fun _ => .none))) (.none)))
def i_least_serv_P (xss : List (List Int)) (Open : List Int) (Dist : List (List Int)) : Prop :=
  ((0 : Int) ≤ 0) ∧ ((0 : Int) < xss.length) ∧ (0 < xss.length) ∧ ((∃ best' : List Int, ∃ i' : Int, (i_least_serv_JJ0 xss Open Dist best' i') ∧ ((.fn 96 1 [.agg [.sl (.ints Open), .sl (.rows Dist)]] : D) = (.fn 96 1 [.agg [.sl (.ints Open), .sl (.rows Dist)]] : D)) ∧ ((xss.getD 0 []) = best') ∧ (xss = xss) ∧ ((xss.length : Int) = (xss.length : Int)) ∧ ((0 : Int) = i')) ∧ (∀ best : List Int, ∀ i : Int, (i_least_serv_JJ0 xss Open Dist best i) → (((decide (i < (xss.length : Int))) = true → ((0 : Int) ≤ i) ∧ ((i : Int) < xss.length) ∧ (i.toNat < xss.length) ∧ (PC Try.prog 96 [.agg [.sl (.ints Open), .sl (.rows Dist)], .sl (.ints (xss.getD i.toNat []))] (.one (.d (.int .i64 (servOf Dist (xss.getD i.toNat [])))))) ∧ (PC Try.prog 96 [.agg [.sl (.ints Open), .sl (.rows Dist)], .sl (.ints best)] (.one (.d (.int .i64 (servOf Dist best))))) ∧ (((decide ((servOf Dist (xss.getD i.toNat [])) < (servOf Dist best))) = true → (-9223372036854775808 ≤ (i + 1) ∧ (i + 1) ≤ 9223372036854775807) ∧ (∃ best' : List Int, ∃ i' : Int, (i_least_serv_JJ0 xss Open Dist best' i') ∧ (i_least_serv_mJ0 xss Open Dist best' i' < i_least_serv_mJ0 xss Open Dist best i) ∧ ((.fn 96 1 [.agg [.sl (.ints Open), .sl (.rows Dist)]] : D) = (.fn 96 1 [.agg [.sl (.ints Open), .sl (.rows Dist)]] : D)) ∧ ((xss.getD i.toNat []) = best') ∧ (xss = xss) ∧ ((xss.length : Int) = (xss.length : Int)) ∧ ((i + 1) = i'))) ∧ ((decide ((servOf Dist (xss.getD i.toNat [])) < (servOf Dist best))) = false → (-9223372036854775808 ≤ (i + 1) ∧ (i + 1) ≤ 9223372036854775807) ∧ (∃ best' : List Int, ∃ i' : Int, (i_least_serv_JJ0 xss Open Dist best' i') ∧ (i_least_serv_mJ0 xss Open Dist best' i' < i_least_serv_mJ0 xss Open Dist best i) ∧ ((.fn 96 1 [.agg [.sl (.ints Open), .sl (.rows Dist)]] : D) = (.fn 96 1 [.agg [.sl (.ints Open), .sl (.rows Dist)]] : D)) ∧ (best = best') ∧ (xss = xss) ∧ ((xss.length : Int) = (xss.length : Int)) ∧ ((i + 1) = i'))))) ∧ ((decide (i < (xss.length : Int))) = false → (((best : List Int) = (leastL (servOf Dist) xss)))))))
theorem i_least_serv_vc (xss : List (List Int)) (Open : List Int) (Dist : List (List Int)) (hp : 0 < xss.length) (hx : ∀ s ∈ xss, goodField Open Dist && rising s 0 ((Open.length : Int) - 1) && decide (0 < s.length)) (w_xss : (xss.length : Int) ≤ 9223372036854775807) (v_xss : ∀ x9 ∈ xss, (x9.length : Int) ≤ 9223372036854775807) (w_Open : (Open.length : Int) ≤ 9223372036854775807) (w_Dist : (Dist.length : Int) ≤ 9223372036854775807) (v_Dist : ∀ x9 ∈ Dist, (x9.length : Int) ≤ 9223372036854775807) : i_least_serv_P xss Open Dist := by
  unfold i_least_serv_P
  refine ⟨?_, ?_, ?_, ?_, ?_⟩
  · first | omega | rfl | (intro hg; simp only [nrmT] at hg; omega) | (intro g1 g2; simp [g1, g2]; done) | (intro g1; simp at g1 ⊢; simp [g1]; done) | (simp only [nrmT] at *; omega) | (simp at * <;> omega) | (simp_all <;> omega) | (simp_all; done)
  · first | omega | rfl | (intro hg; simp only [nrmT] at hg; omega) | (intro g1 g2; simp [g1, g2]; done) | (intro g1; simp at g1 ⊢; simp [g1]; done) | (simp only [nrmT] at *; omega) | (simp at * <;> omega) | (simp_all <;> omega) | (simp_all; done)
  · first | omega | rfl | (intro hg; simp only [nrmT] at hg; omega) | (intro g1 g2; simp [g1, g2]; done) | (intro g1; simp at g1 ⊢; simp [g1]; done) | (simp only [nrmT] at *; omega) | (simp at * <;> omega) | (simp_all <;> omega) | (simp_all; done)
  · refine ⟨(xss.getD 0 []), 0, ?_⟩
    refine ⟨?_, rfl, rfl, rfl, rfl, rfl⟩
    · refine ⟨?_, ?_, ?_, ?_⟩
      · first | omega | rfl | (intro hg; simp only [nrmT] at hg; omega) | (intro g1 g2; simp [g1, g2]; done) | (intro g1; simp at g1 ⊢; simp [g1]; done) | (simp only [nrmT] at *; omega) | (simp at * <;> omega) | (simp_all <;> omega) | (simp_all; done)
      · first | omega | rfl | (intro hg; simp only [nrmT] at hg; omega) | (intro g1 g2; simp [g1, g2]; done) | (intro g1; simp at g1 ⊢; simp [g1]; done) | (simp only [nrmT] at *; omega) | (simp at * <;> omega) | (simp_all <;> omega) | (simp_all; done)
      · exact getD_mem hp
      · rfl
  · intro best i hJ
    obtain ⟨h1, h2, h3, h4⟩ := hJ
    refine ⟨?_, ?_⟩
    · intro b1
      try simp only [nrmT] at b1
      refine ⟨?_, ?_, ?_, ?_, ?_, ?_, ?_⟩
      · first | omega | rfl | (intro hg; simp only [nrmT] at hg; omega) | (intro g1 g2; simp [g1, g2]; done) | (intro g1; simp at g1 ⊢; simp [g1]; done) | (simp only [nrmT] at *; omega) | (simp at * <;> omega) | (simp_all <;> omega) | (simp_all; done)
      · first | omega | rfl | (intro hg; simp only [nrmT] at hg; omega) | (intro g1 g2; simp [g1, g2]; done) | (intro g1; simp at g1 ⊢; simp [g1]; done) | (simp only [nrmT] at *; omega) | (simp at * <;> omega) | (simp_all <;> omega) | (simp_all; done)
      · first | omega | rfl | (intro hg; simp only [nrmT] at hg; omega) | (intro g1 g2; simp [g1, g2]; done) | (intro g1; simp at g1 ⊢; simp [g1]; done) | (simp only [nrmT] at *; omega) | (simp at * <;> omega) | (simp_all <;> omega) | (simp_all; done)
      · refine i_Field_service_pc Open Dist (xss.getD i.toNat []) ?_
        · exact hx _ (getD_memI h1 (by omega))
      · refine i_Field_service_pc Open Dist best ?_
        · exact hx _ h3
      · intro b2
        try simp only [nrmT] at b2
        refine ⟨?_, ?_⟩
        · first | omega | rfl | (intro hg; simp only [nrmT] at hg; omega) | (intro g1 g2; simp [g1, g2]; done) | (intro g1; simp at g1 ⊢; simp [g1]; done) | (simp only [nrmT] at *; omega) | (simp at * <;> omega) | (simp_all <;> omega) | (simp_all; done)
        · refine ⟨(xss.getD i.toNat []), (i + 1), ?_⟩
          refine ⟨?_, ?_, rfl, rfl, rfl, rfl, rfl⟩
          · refine ⟨?_, ?_, ?_, ?_⟩
            · first | omega | rfl | (intro hg; simp only [nrmT] at hg; omega) | (intro g1 g2; simp [g1, g2]; done) | (intro g1; simp at g1 ⊢; simp [g1]; done) | (simp only [nrmT] at *; omega) | (simp at * <;> omega) | (simp_all <;> omega) | (simp_all; done)
            · first | omega | rfl | (intro hg; simp only [nrmT] at hg; omega) | (intro g1 g2; simp [g1, g2]; done) | (intro g1; simp at g1 ⊢; simp [g1]; done) | (simp only [nrmT] at *; omega) | (simp at * <;> omega) | (simp_all <;> omega) | (simp_all; done)
            · exact getD_memI h1 (by omega)
            · rw [fold_snoc (d := []) h1 (by omega), ← h4]; unfold lsB; rw [if_pos b2]
          · first | (show _ < _; omega) | (simp only [i_least_serv_mJ0]; omega) | (simp only [i_least_serv_mJ0] at *; simp at *; omega)
      · intro b3
        try simp only [nrmT] at b3
        refine ⟨?_, ?_⟩
        · first | omega | rfl | (intro hg; simp only [nrmT] at hg; omega) | (intro g1 g2; simp [g1, g2]; done) | (intro g1; simp at g1 ⊢; simp [g1]; done) | (simp only [nrmT] at *; omega) | (simp at * <;> omega) | (simp_all <;> omega) | (simp_all; done)
        · refine ⟨best, (i + 1), ?_⟩
          refine ⟨?_, ?_, rfl, rfl, rfl, rfl, rfl⟩
          · refine ⟨?_, ?_, ?_, ?_⟩
            · first | omega | rfl | (intro hg; simp only [nrmT] at hg; omega) | (intro g1 g2; simp [g1, g2]; done) | (intro g1; simp at g1 ⊢; simp [g1]; done) | (simp only [nrmT] at *; omega) | (simp at * <;> omega) | (simp_all <;> omega) | (simp_all; done)
            · first | omega | rfl | (intro hg; simp only [nrmT] at hg; omega) | (intro g1 g2; simp [g1, g2]; done) | (intro g1; simp at g1 ⊢; simp [g1]; done) | (simp only [nrmT] at *; omega) | (simp at * <;> omega) | (simp_all <;> omega) | (simp_all; done)
            · exact h3
            · rw [fold_snoc (d := []) h1 (by omega), ← h4]; unfold lsB; rw [if_neg (by omega)]
          · first | (show _ < _; omega) | (simp only [i_least_serv_mJ0]; omega) | (simp only [i_least_serv_mJ0] at *; simp at *; omega)
    · intro b4
      try simp only [nrmT] at b4
      rw [h4, take_all (by omega)]; rfl
theorem i_least_serv_pc (xss : List (List Int)) (Open : List Int) (Dist : List (List Int)) (hp : 0 < xss.length) (hx : ∀ s ∈ xss, goodField Open Dist && rising s 0 ((Open.length : Int) - 1) && decide (0 < s.length)) : PCs Try.prog 111 [.sl (.rows xss), .fn 96 1 [.agg [.sl (.ints Open), .sl (.rows Dist)]]] 0 (.sl (.ints (leastL (servOf Dist) xss))) :=
  pcs_wf @Try.call111 fun hw => pcs_by (by kernel_rfl) Try.func111 @Try.call111 (by kernel_rfl) i_least_serv_C (i_least_serv_A xss Open Dist) (by kernel_rfl) (i_least_serv_vc xss Open Dist hp hx hw.1.1 hw.1.2 hw.2.1.1.1 hw.2.1.1.2.1.1 hw.2.1.1.2.1.2) (by kernel_rfl)
def i_least_serv_orc : List D → Orc := orcS 0 fun ds => match ds with
  | [.sl (.rows xss), .fn f0 1 [.agg [.sl (.ints Open), .sl (.rows Dist)]]] => some (.sl (.ints (leastL (servOf Dist) xss)))
  | _ => none
theorem i_median_1_pb (x : List Int) (k : Int) : PB Try.prog 155 [.sl (.ints x), .bx [.int .i64 k] 0] (decide ((x.length : Int) ≠ k)) := by
  refine ⟨@Try.call155, fun w vs hall => ?_⟩
  obtain ⟨v1, v2, rfl⟩ : ∃ v1 v2, vs = [v1, v2] := by
    match vs, hall.1 with
    | [a, b], _ => exact ⟨a, b, rfl⟩
  obtain ⟨ad, cap, rfl⟩ := slice_form (hall.2 0 v1 _ rfl rfl)
  obtain ⟨b, rfl, hc⟩ := box_form (hall.2 1 v2 _ rfl rfl)
  show Calls Try.prog 155 #[.slice ad x.length cap, .pointer (some b)] w _
  clear hall
  go_enter Try.func155, Try.ntmps155
  go_wp2
  all_goals (go_ret; exact ⟨by first | (simp_all; done) | (simp_all; rfl), 0, rfl⟩)
theorem slices_DeleteFunc_int_int_med_pu (xss : List (List Int)) (k : Int) (hp : 0 < xss.length) : PU Try.prog 154 22 (.rows xss) (.rows (xss.filter (fun x9 => !(decide ((x9.length : Int) ≠ k))))) [.fn 155 0 [.bx [.int .i64 k] 0]] true :=
  pu_deleteFunc Try.layDelete Try.zeroValue22 22 xss (fun x9 => decide ((x9.length : Int) ≠ k)) 155 [.bx [.int .i64 k] 0] (fun x => i_median_1_pb x k) hp
abbrev i_Field_median_JR1 (Open : List Int) (Dist : List (List Int)) (k : Int) (list2 : List (List Int)) : Prop := (list2 = (setsL (Open.length : Int).toNat).filter (fun x9 => !(decide ((x9.length : Int) ≠ k))))
def i_Field_median_C (f : FuncId) (ds : List D) : Orc := bif Nat.beq f 102 then i_sets_orc ds else bif Nat.beq f 111 then i_least_serv_orc ds else .no
def i_Field_median_A (Open : List Int) (Dist : List (List Int)) (k : Int) : Ann := .two (.none) (.cut (.mark [] 5 (.up (.rows ((setsL (Open.length : Int).toNat).filter (fun x9 => !(decide ((x9.length : Int) ≠ k))))) true)) (cut1 (fun (list2 : List (List Int)) => i_Field_median_JR1 Open Dist k list2) (fun (list2 : List (List Int)) => [(2, .ptr 2 0), (5, .d true (.sl (.rows list2)))]) (fun (list2 : List (List Int)) => [(2, .box 37 [.d false (.sl (.ints Open)), .d false (.sl (.rows Dist))])])) (fun _ => .none))
def i_Field_median_P (Open : List Int) (Dist : List (List Int)) (k : Int) : Prop :=
  (((PC Try.prog 102 [.int .i64 (Open.length : Int)] (.one (.own 22 (.rows (setsL (Open.length : Int).toNat))))) ∧ ((setsL (Open.length : Int).toNat).length = (setsL (Open.length : Int).toNat).length) ∧ (PU Try.prog 154 22 (.rows (setsL (Open.length : Int).toNat)) (.rows ((setsL (Open.length : Int).toNat).filter (fun x9 => !(decide ((x9.length : Int) ≠ k))))) [.fn 155 0 [.bx [.int .i64 k] 0]] true) ∧ (∃ list2' : List (List Int), (i_Field_median_JR1 Open Dist k list2') ∧ (((setsL (Open.length : Int).toNat).filter (fun x9 => !(decide ((x9.length : Int) ≠ k)))).length = ((setsL (Open.length : Int).toNat).filter (fun x9 => !(decide ((x9.length : Int) ≠ k)))).length) ∧ (((setsL (Open.length : Int).toNat).filter (fun x9 => !(decide ((x9.length : Int) ≠ k)))) = list2') ∧ (Open = Open) ∧ (Dist = Dist))) ∧ (∀ list2 : List (List Int), (i_Field_median_JR1 Open Dist k list2) → (PCs Try.prog 111 [.sl (.rows list2), .fn 96 1 [.agg [.sl (.ints Open), .sl (.rows Dist)]]] 0 (.sl (.ints (leastL (servOf Dist) list2)))) ∧ ((((leastL (servOf Dist) list2) : List Int) = (medS Open Dist k)))))
theorem i_Field_median_vc (Open : List Int) (Dist : List (List Int)) (k : Int) (hg : goodField Open Dist = true) (hk : 1 ≤ k ∧ k ≤ (Open.length : Int)) (w_Open : (Open.length : Int) ≤ 9223372036854775807) (w_Dist : (Dist.length : Int) ≤ 9223372036854775807) (v_Dist : ∀ x9 ∈ Dist, (x9.length : Int) ≤ 9223372036854775807) : i_Field_median_P Open Dist k := by
  unfold i_Field_median_P
  obtain ⟨g1, g2, g3⟩ := gf_open hg
  refine ⟨?_, ?_⟩
  · refine ⟨?_, rfl, ?_, ?_⟩
    · refine i_sets_pc (Open.length : Int) ?_
      · omega
    · refine slices_DeleteFunc_int_int_med_pu (setsL (Open.length : Int).toNat) k ?_
      · first | (rw [h8]; exact med_pos hk) | exact sets_big (by omega)
    · refine ⟨((setsL (Open.length : Int).toNat).filter (fun x9 => !(decide ((x9.length : Int) ≠ k)))), ?_⟩
      refine ⟨?_, rfl, rfl, rfl, rfl⟩
      · unfold i_Field_median_JR1
        first | omega | rfl | (intro hg; simp only [nrmT] at hg; omega) | (intro g1 g2; simp [g1, g2]; done) | (intro g1; simp at g1 ⊢; simp [g1]; done) | (simp only [nrmT] at *; omega) | (simp at * <;> omega) | (simp_all <;> omega) | (simp_all; done)
  · intro list2 hJ
    have h8 := hJ
    refine ⟨?_, ?_⟩
    · refine i_least_serv_pc list2 Open Dist ?_ ?_
      · rw [h8]; exact med_pos hk
      · rw [h8]
        intro s hs
        exact (set_two hg (List.mem_filter.1 hs).1).1
    · rw [h8]; rfl
theorem i_Field_median_pc (Open : List Int) (Dist : List (List Int)) (k : Int) (hg : goodField Open Dist = true) (hk : 1 ≤ k ∧ k ≤ (Open.length : Int)) : PC Try.prog 97 [.agg [.sl (.ints Open), .sl (.rows Dist)], .int .i64 k] (.one (.d (.sl (.ints (medS Open Dist k))))) :=
  pc_wf @Try.call97 fun hw => pc_by (by kernel_rfl) Try.func97 @Try.call97 (by kernel_rfl) i_Field_median_C (i_Field_median_A Open Dist k) (by kernel_rfl) (i_Field_median_vc Open Dist k hg hk hw.1.1 hw.1.2.1.1 hw.1.2.1.2) (by kernel_rfl)
def i_Field_median_orc : List D → Orc := orcN [none, none] fun ds => match ds with
  | [.agg [.sl (.ints Open), .sl (.rows Dist)], .int .i64 k] => some (.one (.d (.sl (.ints (medS Open Dist k)))))
  | _ => none
abbrev s_l4Best_JJ0 (Open : List Int) (Dist : List (List Int)) (k : Int) (best : List Int) (i : Int) : Prop := (0 ≤ i) ∧ (i ≤ ((setsL (Open.length : Int).toNat).length : Int)) ∧ (best = ((setsL (Open.length : Int).toNat).take i.toNat).foldl (bsB (servOf Dist) k) []) ∧ (best = [] ∨ best ∈ (setsL (Open.length : Int).toNat))
abbrev s_l4Best_mJ0 (Open : List Int) (Dist : List (List Int)) (k : Int) (best : List Int) (i : Int) : Nat := ((setsL (Open.length : Int).toNat).length - i).toNat
def s_l4Best_C (f : FuncId) (ds : List D) : Orc := bif Nat.beq f 98 then s_l2Sets_orc ds else bif Nat.beq f 93 then s_l2Serve_orc ds else .no
def s_l4Best_A (Open : List Int) (Dist : List (List Int)) (k : Int) : Ann := .two (.none) (.two (.reg [(4, .frz)]) (.two (.two (.none) (.loop (cut2 (fun (best : List Int) (i : Int) => s_l4Best_JJ0 Open Dist k best i) (fun (best : List Int) (i : Int) => [(1, .d false (.int .i64 k)), (2, .ptr 2 0), (5, .d true (.sl (.rows (setsL (Open.length : Int).toNat)))), (6, .d true (.sl (.ints best))), (7, .d true (.int .i64 i))]) (fun (best : List Int) (i : Int) => [(2, .box 37 [.d false (.sl (.ints Open)), .d false (.sl (.rows Dist))])])) (fun g => s_l4Best_mJ0 Open Dist k g.1 g.2) (fun _ => .none))) (.none)))
def s_l4Best_P (Open : List Int) (Dist : List (List Int)) (k : Int) : Prop :=
  (PC Try.prog 98 [.int .i64 (Open.length : Int)] (.one (.d (.sl (.rows (setsL (Open.length : Int).toNat)))))) ∧ ((∃ best' : List Int, ∃ i' : Int, (s_l4Best_JJ0 Open Dist k best' i') ∧ (k = k) ∧ ((setsL (Open.length : Int).toNat) = (setsL (Open.length : Int).toNat)) ∧ ([] = best') ∧ ((0 : Int) = i') ∧ (Open = Open) ∧ (Dist = Dist)) ∧ (∀ best : List Int, ∀ i : Int, (s_l4Best_JJ0 Open Dist k best i) → (((decide (i < (((setsL (Open.length : Int).toNat).length) : Int))) = true → (true = true) ∧ ((0 : Int) ≤ i) ∧ ((i : Int) < (setsL (Open.length : Int).toNat).length) ∧ (i.toNat < (setsL (Open.length : Int).toNat).length) ∧ (((((setsL (Open.length : Int).toNat).getD i.toNat []).length : Int) == k) = true → ((((setsL (Open.length : Int).toNat).getD i.toNat []).length : Int) == k) = true) ∧ (((((setsL (Open.length : Int).toNat).getD i.toNat []).length : Int) == k) = true → ((((setsL (Open.length : Int).toNat).getD i.toNat []).length : Int) == k) = true) ∧ (((((setsL (Open.length : Int).toNat).getD i.toNat []).length : Int) == k) = true → ((((setsL (Open.length : Int).toNat).getD i.toNat []).length : Int) == k) = true) ∧ ((((((setsL (Open.length : Int).toNat).getD i.toNat []).length : Int) == k) && (!((best.length : Int) == 0))) = true → (((((setsL (Open.length : Int).toNat).getD i.toNat []).length : Int) == k) && (!((best.length : Int) == 0))) = true) ∧ ((((((setsL (Open.length : Int).toNat).getD i.toNat []).length : Int) == k) && (!((best.length : Int) == 0))) = true → (((((setsL (Open.length : Int).toNat).getD i.toNat []).length : Int) == k) && (!((best.length : Int) == 0))) = true) ∧ (((((((setsL (Open.length : Int).toNat).getD i.toNat []).length : Int) == k) && (!((best.length : Int) == 0))) = true → (0 : Int) ≤ i)) ∧ (((((((setsL (Open.length : Int).toNat).getD i.toNat []).length : Int) == k) && (!((best.length : Int) == 0))) = true → (i : Int) < (setsL (Open.length : Int).toNat).length)) ∧ ((((((setsL (Open.length : Int).toNat).getD i.toNat []).length : Int) == k) && (!((best.length : Int) == 0))) = true → (((((setsL (Open.length : Int).toNat).getD i.toNat []).length : Int) == k) && (!((best.length : Int) == 0))) = true) ∧ (((((((setsL (Open.length : Int).toNat).getD i.toNat []).length : Int) == k) && (!((best.length : Int) == 0))) = true → i.toNat < (setsL (Open.length : Int).toNat).length)) ∧ ((((((setsL (Open.length : Int).toNat).getD i.toNat []).length : Int) == k) && (!((best.length : Int) == 0))) = true → (((((setsL (Open.length : Int).toNat).getD i.toNat []).length : Int) == k) && (!((best.length : Int) == 0))) = true) ∧ ((((((setsL (Open.length : Int).toNat).getD i.toNat []).length : Int) == k) && (!((best.length : Int) == 0))) = true → (((((setsL (Open.length : Int).toNat).getD i.toNat []).length : Int) == k) && (!((best.length : Int) == 0))) = true) ∧ ((((((setsL (Open.length : Int).toNat).getD i.toNat []).length : Int) == k) && (!((best.length : Int) == 0))) = true → PC Try.prog 93 [.agg [.sl (.ints Open), .sl (.rows Dist)], .sl (.ints ((setsL (Open.length : Int).toNat).getD i.toNat []))] (.one (.d (.int .i64 (servOf Dist ((setsL (Open.length : Int).toNat).getD i.toNat [])))))) ∧ ((((((setsL (Open.length : Int).toNat).getD i.toNat []).length : Int) == k) && (!((best.length : Int) == 0))) = true → (((((setsL (Open.length : Int).toNat).getD i.toNat []).length : Int) == k) && (!((best.length : Int) == 0))) = true) ∧ ((((((setsL (Open.length : Int).toNat).getD i.toNat []).length : Int) == k) && (!((best.length : Int) == 0))) = true → (((((setsL (Open.length : Int).toNat).getD i.toNat []).length : Int) == k) && (!((best.length : Int) == 0))) = true) ∧ ((((((setsL (Open.length : Int).toNat).getD i.toNat []).length : Int) == k) && (!((best.length : Int) == 0))) = true → PC Try.prog 93 [.agg [.sl (.ints Open), .sl (.rows Dist)], .sl (.ints best)] (.one (.d (.int .i64 (servOf Dist best))))) ∧ ((((((setsL (Open.length : Int).toNat).getD i.toNat []).length : Int) == k) && (!((best.length : Int) == 0))) = true → (((((setsL (Open.length : Int).toNat).getD i.toNat []).length : Int) == k) && (!((best.length : Int) == 0))) = true) ∧ ((((((setsL (Open.length : Int).toNat).getD i.toNat []).length : Int) == k) && (!((best.length : Int) == 0))) = true → (((((setsL (Open.length : Int).toNat).getD i.toNat []).length : Int) == k) && (!((best.length : Int) == 0))) = true) ∧ ((((((setsL (Open.length : Int).toNat).getD i.toNat []).length : Int) == k) = true → ((((setsL (Open.length : Int).toNat).getD i.toNat []).length : Int) == k) = true)) ∧ ((((((setsL (Open.length : Int).toNat).getD i.toNat []).length : Int) == k) = true → ((best.length : Int) == 0) = true → true = true)) ∧ ((((((setsL (Open.length : Int).toNat).getD i.toNat []).length : Int) == k) = true → ((best.length : Int) == 0) = false → (((((setsL (Open.length : Int).toNat).getD i.toNat []).length : Int) == k) && (!((best.length : Int) == 0))) = true)) ∧ (true = true) ∧ ((((((setsL (Open.length : Int).toNat).getD i.toNat []).length : Int) == k) = true → ((((setsL (Open.length : Int).toNat).getD i.toNat []).length : Int) == k) = true)) ∧ ((((((setsL (Open.length : Int).toNat).getD i.toNat []).length : Int) == k) = false → true = true)) ∧ (((cond ((((setsL (Open.length : Int).toNat).getD i.toNat []).length : Int) == k) (cond ((best.length : Int) == 0) true (decide ((servOf Dist ((setsL (Open.length : Int).toNat).getD i.toNat [])) < (servOf Dist best)))) false) = true → ((0 : Int) ≤ i) ∧ ((i : Int) < (setsL (Open.length : Int).toNat).length) ∧ (i.toNat < (setsL (Open.length : Int).toNat).length) ∧ (-9223372036854775808 ≤ (i + 1) ∧ (i + 1) ≤ 9223372036854775807) ∧ (∃ best' : List Int, ∃ i' : Int, (s_l4Best_JJ0 Open Dist k best' i') ∧ (s_l4Best_mJ0 Open Dist k best' i' < s_l4Best_mJ0 Open Dist k best i) ∧ (k = k) ∧ ((setsL (Open.length : Int).toNat) = (setsL (Open.length : Int).toNat)) ∧ (((setsL (Open.length : Int).toNat).getD i.toNat []) = best') ∧ ((i + 1) = i') ∧ (Open = Open) ∧ (Dist = Dist))) ∧ ((cond ((((setsL (Open.length : Int).toNat).getD i.toNat []).length : Int) == k) (cond ((best.length : Int) == 0) true (decide ((servOf Dist ((setsL (Open.length : Int).toNat).getD i.toNat [])) < (servOf Dist best)))) false) = false → (-9223372036854775808 ≤ (i + 1) ∧ (i + 1) ≤ 9223372036854775807) ∧ (∃ best' : List Int, ∃ i' : Int, (s_l4Best_JJ0 Open Dist k best' i') ∧ (s_l4Best_mJ0 Open Dist k best' i' < s_l4Best_mJ0 Open Dist k best i) ∧ (k = k) ∧ ((setsL (Open.length : Int).toNat) = (setsL (Open.length : Int).toNat)) ∧ (best = best') ∧ ((i + 1) = i') ∧ (Open = Open) ∧ (Dist = Dist))))) ∧ ((decide (i < (((setsL (Open.length : Int).toNat).length) : Int))) = false → (((best : List Int) = (medS Open Dist k)))))))
theorem s_l4Best_vc (Open : List Int) (Dist : List (List Int)) (k : Int) (hg : goodField Open Dist = true) (hk : 1 ≤ k ∧ k ≤ (Open.length : Int)) (w_Open : (Open.length : Int) ≤ 9223372036854775807) (w_Dist : (Dist.length : Int) ≤ 9223372036854775807) (v_Dist : ∀ x9 ∈ Dist, (x9.length : Int) ≤ 9223372036854775807) : s_l4Best_P Open Dist k := by
  unfold s_l4Best_P
  obtain ⟨g1, g2, g3⟩ := gf_open hg
  have sl := sets_small (n := (Open.length : Int).toNat) (by omega)
  refine ⟨?_, ?_, ?_⟩
  · refine s_l2Sets_pc (Open.length : Int) ?_
    · omega
  · refine ⟨([]), 0, ?_⟩
    refine ⟨?_, rfl, rfl, ?_, rfl, rfl, rfl⟩
    · refine ⟨?_, ?_, ?_, ?_⟩
      · first | omega | rfl | (intro hg; simp only [nrmT] at hg; omega) | (intro g1 g2; simp [g1, g2]; done) | (intro g1; simp at g1 ⊢; simp [g1]; done) | (simp only [nrmT] at *; omega) | (simp at * <;> omega) | (simp_all <;> omega) | (simp_all; done)
      · first | omega | rfl | (intro hg; simp only [nrmT] at hg; omega) | (intro g1 g2; simp [g1, g2]; done) | (intro g1; simp at g1 ⊢; simp [g1]; done) | (simp only [nrmT] at *; omega) | (simp at * <;> omega) | (simp_all <;> omega) | (simp_all; done)
      · rfl
      · exact .inl rfl
    · first | omega | rfl | (intro hg; simp only [nrmT] at hg; omega) | (intro g1 g2; simp [g1, g2]; done) | (intro g1; simp at g1 ⊢; simp [g1]; done) | (simp only [nrmT] at *; omega) | (simp at * <;> omega) | (simp_all <;> omega) | (simp_all; done)
  · intro best i hJ
    obtain ⟨h1, h2, h3, h4⟩ := hJ
    refine ⟨?_, ?_⟩
    · intro b1
      try simp only [nrmT] at b1
      refine ⟨rfl, ?_, ?_, ?_, id, id, id, id, id, ?_, ?_, id, ?_, id, id, ?_, id, id, ?_, id, id, id, fun _ _ => rfl, ?_, rfl, id, fun _ => rfl, ?_, ?_⟩
      · first | omega | rfl | (intro hg; simp only [nrmT] at hg; omega) | (intro g1 g2; simp [g1, g2]; done) | (intro g1; simp at g1 ⊢; simp [g1]; done) | (simp only [nrmT] at *; omega) | (simp at * <;> omega) | (simp_all <;> omega) | (simp_all; done)
      · first | omega | rfl | (intro hg; simp only [nrmT] at hg; omega) | (intro g1 g2; simp [g1, g2]; done) | (intro g1; simp at g1 ⊢; simp [g1]; done) | (simp only [nrmT] at *; omega) | (simp at * <;> omega) | (simp_all <;> omega) | (simp_all; done)
      · first | omega | rfl | (intro hg; simp only [nrmT] at hg; omega) | (intro g1 g2; simp [g1, g2]; done) | (intro g1; simp at g1 ⊢; simp [g1]; done) | (simp only [nrmT] at *; omega) | (simp at * <;> omega) | (simp_all <;> omega) | (simp_all; done)
      · intro _; omega
      · intro _; omega
      · intro _; omega
      · intro hg
        refine s_l2Serve_pc Open Dist ((setsL (Open.length : Int).toNat).getD i.toNat []) ?_
        · exact (set_two (by assumption) (getD_memI (d := []) h1 (by omega : i < ((setsL (Open.length : Int).toNat).length : Int)))).1
      · intro hg
        refine s_l2Serve_pc Open Dist best ?_
        · rcases h4 with h5 | h5
          · exfalso
            rw [h5] at hg
            simp at hg
          · exact (set_two (by assumption) h5).1
      · intro q1 q2; rw [q1, q2]; rfl
      · intro b2
        refine ⟨?_, ?_, ?_, ?_, ?_⟩
        · first | omega | rfl | (intro hg; simp only [nrmT] at hg; omega) | (intro g1 g2; simp [g1, g2]; done) | (intro g1; simp at g1 ⊢; simp [g1]; done) | (simp only [nrmT] at *; omega) | (simp at * <;> omega) | (simp_all <;> omega) | (simp_all; done)
        · first | omega | rfl | (intro hg; simp only [nrmT] at hg; omega) | (intro g1 g2; simp [g1, g2]; done) | (intro g1; simp at g1 ⊢; simp [g1]; done) | (simp only [nrmT] at *; omega) | (simp at * <;> omega) | (simp_all <;> omega) | (simp_all; done)
        · first | omega | rfl | (intro hg; simp only [nrmT] at hg; omega) | (intro g1 g2; simp [g1, g2]; done) | (intro g1; simp at g1 ⊢; simp [g1]; done) | (simp only [nrmT] at *; omega) | (simp at * <;> omega) | (simp_all <;> omega) | (simp_all; done)
        · first | omega | rfl | (intro hg; simp only [nrmT] at hg; omega) | (intro g1 g2; simp [g1, g2]; done) | (intro g1; simp at g1 ⊢; simp [g1]; done) | (simp only [nrmT] at *; omega) | (simp at * <;> omega) | (simp_all <;> omega) | (simp_all; done)
        · refine ⟨((setsL (Open.length : Int).toNat).getD i.toNat []), (i + 1), ?_⟩
          refine ⟨?_, ?_, rfl, rfl, rfl, rfl, rfl, rfl⟩
          · refine ⟨?_, ?_, ?_, ?_⟩
            · first | omega | rfl | (intro hg; simp only [nrmT] at hg; omega) | (intro g1 g2; simp [g1, g2]; done) | (intro g1; simp at g1 ⊢; simp [g1]; done) | (simp only [nrmT] at *; omega) | (simp at * <;> omega) | (simp_all <;> omega) | (simp_all; done)
            · first | omega | rfl | (intro hg; simp only [nrmT] at hg; omega) | (intro g1 g2; simp [g1, g2]; done) | (intro g1; simp at g1 ⊢; simp [g1]; done) | (simp only [nrmT] at *; omega) | (simp at * <;> omega) | (simp_all <;> omega) | (simp_all; done)
            · rw [fold_snoc (d := []) h1 (by omega), ← h3]; unfold bsB; rw [if_pos b2]
            · exact .inr (getD_memI (d := []) h1 (by omega : i < ((setsL (Open.length : Int).toNat).length : Int)))
          · first | (show _ < _; omega) | (simp only [s_l4Best_mJ0]; omega) | (simp only [s_l4Best_mJ0] at *; simp at *; omega)
      · intro b3
        refine ⟨?_, ?_⟩
        · first | omega | rfl | (intro hg; simp only [nrmT] at hg; omega) | (intro g1 g2; simp [g1, g2]; done) | (intro g1; simp at g1 ⊢; simp [g1]; done) | (simp only [nrmT] at *; omega) | (simp at * <;> omega) | (simp_all <;> omega) | (simp_all; done)
        · refine ⟨best, (i + 1), ?_⟩
          refine ⟨?_, ?_, rfl, rfl, rfl, rfl, rfl, rfl⟩
          · refine ⟨?_, ?_, ?_, ?_⟩
            · first | omega | rfl | (intro hg; simp only [nrmT] at hg; omega) | (intro g1 g2; simp [g1, g2]; done) | (intro g1; simp at g1 ⊢; simp [g1]; done) | (simp only [nrmT] at *; omega) | (simp at * <;> omega) | (simp_all <;> omega) | (simp_all; done)
            · first | omega | rfl | (intro hg; simp only [nrmT] at hg; omega) | (intro g1 g2; simp [g1, g2]; done) | (intro g1; simp at g1 ⊢; simp [g1]; done) | (simp only [nrmT] at *; omega) | (simp at * <;> omega) | (simp_all <;> omega) | (simp_all; done)
            · rw [fold_snoc (d := []) h1 (by omega), ← h3]; unfold bsB; rw [if_neg (by rw [b3]; simp)]
            · exact h4
          · first | (show _ < _; omega) | (simp only [s_l4Best_mJ0]; omega) | (simp only [s_l4Best_mJ0] at *; simp at *; omega)
    · intro b4
      try simp only [nrmT] at b4
      rw [h3, take_all (by omega)]
      exact bestL_eq hk.1 _
theorem s_l4Best_pc (Open : List Int) (Dist : List (List Int)) (k : Int) (hg : goodField Open Dist = true) (hk : 1 ≤ k ∧ k ≤ (Open.length : Int)) : PC Try.prog 94 [.agg [.sl (.ints Open), .sl (.rows Dist)], .int .i64 k] (.one (.d (.sl (.ints (medS Open Dist k))))) :=
  pc_wf @Try.call94 fun hw => pc_by (by kernel_rfl) Try.func94 @Try.call94 (by kernel_rfl) s_l4Best_C (s_l4Best_A Open Dist k) (by kernel_rfl) (s_l4Best_vc Open Dist k hg hk hw.1.1 hw.1.2.1.1 hw.1.2.1.2) (by kernel_rfl)
def s_l4Best_orc : List D → Orc := orcN [none, none] fun ds => match ds with
  | [.agg [.sl (.ints Open), .sl (.rows Dist)], .int .i64 k] => some (.one (.d (.sl (.ints (medS Open Dist k)))))
  | _ => none
def medL (Open : List Int) (Dist : List (List Int)) (k : Int) : List Int := if (goodField Open Dist && inB k 1 (Open.length : Int)) = true then medS Open Dist k else []
theorem medL_len {Open : List Int} {Dist : List (List Int)} {k : Int} : (medL Open Dist k).length ≤ 7 := by
  unfold medL
  split
  · rename_i h
    obtain ⟨h1, h2⟩ := (Bool.and_eq_true _ _ ▸ h : _ ∧ _)
    exact (set_two h1 (medS_in (Dist := Dist) (inB_le h2))).2
  · simp
def s_MedianOf_C (f : FuncId) (ds : List D) : Orc := bif Nat.beq f 92 then s_l4K_orc ds else bif Nat.beq f 94 then s_l4Best_orc ds else .no
def s_MedianOf_A (Open : List Int) (Dist : List (List Int)) (k : Int) : Ann := .none
def s_MedianOf_P (Open : List Int) (Dist : List (List Int)) (k : Int) : Prop :=
  (PC Try.prog 92 [.agg [.sl (.ints Open), .sl (.rows Dist)], .int .i64 k] (.one (.d (.bool (goodField Open Dist && inB k 1 (Open.length : Int)))))) ∧ (((!(goodField Open Dist && inB k 1 (Open.length : Int))) = true → (((0 : Nat) = 0) ∧ (([] : List Int) = (medL Open Dist k)) ∧ (false = (goodField Open Dist && inB k 1 (Open.length : Int))))) ∧ ((!(goodField Open Dist && inB k 1 (Open.length : Int))) = false → (PC Try.prog 94 [.agg [.sl (.ints Open), .sl (.rows Dist)], .int .i64 k] (.one (.d (.sl (.ints (medS Open Dist k)))))) ∧ ((((medS Open Dist k) : List Int) = (medL Open Dist k)) ∧ (true = (goodField Open Dist && inB k 1 (Open.length : Int))))))
theorem s_MedianOf_vc (Open : List Int) (Dist : List (List Int)) (k : Int)  (w_Open : (Open.length : Int) ≤ 9223372036854775807) (w_Dist : (Dist.length : Int) ≤ 9223372036854775807) (v_Dist : ∀ x9 ∈ Dist, (x9.length : Int) ≤ 9223372036854775807) : s_MedianOf_P Open Dist k := by
  unfold s_MedianOf_P
  refine ⟨s_l4K_pc Open Dist k, ?_, ?_⟩
  · intro b1
    try simp only [Bool.not_eq_true', Bool.not_eq_false', Bool.not_not] at b1
    refine ⟨rfl, ?_, ?_⟩
    · have hgk : (goodField Open Dist && inB k 1 (Open.length : Int)) = false := by simpa using b1
      unfold medL; rw [hgk]; rfl
    · have hgk : (goodField Open Dist && inB k 1 (Open.length : Int)) = false := by simpa using b1
      exact hgk.symm
  · intro b2
    try simp only [Bool.not_eq_true', Bool.not_eq_false', Bool.not_not] at b2
    refine ⟨?_, ?_, ?_⟩
    · refine s_l4Best_pc Open Dist k ?_ ?_
      · have hgk : (goodField Open Dist && inB k 1 (Open.length : Int)) = true := by simpa using b2
        obtain ⟨hg, hk⟩ := (Bool.and_eq_true _ _ ▸ hgk : _ ∧ _)
        have hk2 := inB_le hk
        exact hg
      · have hgk : (goodField Open Dist && inB k 1 (Open.length : Int)) = true := by simpa using b2
        obtain ⟨hg, hk⟩ := (Bool.and_eq_true _ _ ▸ hgk : _ ∧ _)
        have hk2 := inB_le hk
        exact hk2
    · have hgk : (goodField Open Dist && inB k 1 (Open.length : Int)) = true := by simpa using b2
      obtain ⟨hg, hk⟩ := (Bool.and_eq_true _ _ ▸ hgk : _ ∧ _)
      have hk2 := inB_le hk
      unfold medL; rw [if_pos hgk]
    · have hgk : (goodField Open Dist && inB k 1 (Open.length : Int)) = true := by simpa using b2
      obtain ⟨hg, hk⟩ := (Bool.and_eq_true _ _ ▸ hgk : _ ∧ _)
      have hk2 := inB_le hk
      exact hgk.symm
theorem s_MedianOf_pc (Open : List Int) (Dist : List (List Int)) (k : Int)  : PC Try.prog 50 [.agg [.sl (.ints Open), .sl (.rows Dist)], .int .i64 k] (.tup [.d (.sl (.ints (medL Open Dist k))), .d (.bool (goodField Open Dist && inB k 1 (Open.length : Int)))]) :=
  pc_wf @Try.call50 fun hw => pc_by (by kernel_rfl) Try.func50 @Try.call50 (by kernel_rfl) s_MedianOf_C (s_MedianOf_A Open Dist k) (by kernel_rfl) (s_MedianOf_vc Open Dist k hw.1.1 hw.1.2.1.1 hw.1.2.1.2) (by kernel_rfl)
def s_MedianOf_orc : List D → Orc := orcN [none, none] fun ds => match ds with
  | [.agg [.sl (.ints Open), .sl (.rows Dist)], .int .i64 k] => some (.tup [.d (.sl (.ints (medL Open Dist k))), .d (.bool (goodField Open Dist && inB k 1 (Open.length : Int)))])
  | _ => none
def i_MedianOf_C (f : FuncId) (ds : List D) : Orc := bif Nat.beq f 95 then i_isMedianCase_orc ds else bif Nat.beq f 97 then i_Field_median_orc ds else .no
def i_MedianOf_A (Open : List Int) (Dist : List (List Int)) (k : Int) : Ann := .none
def i_MedianOf_P (Open : List Int) (Dist : List (List Int)) (k : Int) : Prop :=
  (PC Try.prog 95 [.agg [.sl (.ints Open), .sl (.rows Dist)], .int .i64 k] (.one (.d (.bool (goodField Open Dist && inB k 1 (Open.length : Int)))))) ∧ (((!(goodField Open Dist && inB k 1 (Open.length : Int))) = true → (((medL Open Dist k).length = 0) ∧ (false = (goodField Open Dist && inB k 1 (Open.length : Int))))) ∧ ((!(goodField Open Dist && inB k 1 (Open.length : Int))) = false → (PC Try.prog 97 [.agg [.sl (.ints Open), .sl (.rows Dist)], .int .i64 k] (.one (.d (.sl (.ints (medS Open Dist k)))))) ∧ ((((medS Open Dist k) : List Int) = (medL Open Dist k)) ∧ (true = (goodField Open Dist && inB k 1 (Open.length : Int))))))
theorem i_MedianOf_vc (Open : List Int) (Dist : List (List Int)) (k : Int)  (w_Open : (Open.length : Int) ≤ 9223372036854775807) (w_Dist : (Dist.length : Int) ≤ 9223372036854775807) (v_Dist : ∀ x9 ∈ Dist, (x9.length : Int) ≤ 9223372036854775807) : i_MedianOf_P Open Dist k := by
  unfold i_MedianOf_P
  refine ⟨i_isMedianCase_pc Open Dist k, ?_, ?_⟩
  · intro b1
    try simp only [Bool.not_eq_true', Bool.not_eq_false', Bool.not_not] at b1
    refine ⟨?_, ?_⟩
    · have hgk : (goodField Open Dist && inB k 1 (Open.length : Int)) = false := by simpa using b1
      unfold medL; rw [hgk]; rfl
    · have hgk : (goodField Open Dist && inB k 1 (Open.length : Int)) = false := by simpa using b1
      exact hgk.symm
  · intro b2
    try simp only [Bool.not_eq_true', Bool.not_eq_false', Bool.not_not] at b2
    refine ⟨?_, ?_, ?_⟩
    · refine i_Field_median_pc Open Dist k ?_ ?_
      · have hgk : (goodField Open Dist && inB k 1 (Open.length : Int)) = true := by simpa using b2
        obtain ⟨hg, hk⟩ := (Bool.and_eq_true _ _ ▸ hgk : _ ∧ _)
        have hk2 := inB_le hk
        exact hg
      · have hgk : (goodField Open Dist && inB k 1 (Open.length : Int)) = true := by simpa using b2
        obtain ⟨hg, hk⟩ := (Bool.and_eq_true _ _ ▸ hgk : _ ∧ _)
        have hk2 := inB_le hk
        exact hk2
    · have hgk : (goodField Open Dist && inB k 1 (Open.length : Int)) = true := by simpa using b2
      obtain ⟨hg, hk⟩ := (Bool.and_eq_true _ _ ▸ hgk : _ ∧ _)
      have hk2 := inB_le hk
      unfold medL; rw [if_pos hgk]
    · have hgk : (goodField Open Dist && inB k 1 (Open.length : Int)) = true := by simpa using b2
      obtain ⟨hg, hk⟩ := (Bool.and_eq_true _ _ ▸ hgk : _ ∧ _)
      have hk2 := inB_le hk
      exact hgk.symm
theorem i_MedianOf_pc (Open : List Int) (Dist : List (List Int)) (k : Int)  : PC Try.prog 51 [.agg [.sl (.ints Open), .sl (.rows Dist)], .int .i64 k] (.tup [.d (.sl (.ints (medL Open Dist k))), .d (.bool (goodField Open Dist && inB k 1 (Open.length : Int)))]) :=
  pc_wf @Try.call51 fun hw => pc_by (by kernel_rfl) Try.func51 @Try.call51 (by kernel_rfl) i_MedianOf_C (i_MedianOf_A Open Dist k) (by kernel_rfl) (i_MedianOf_vc Open Dist k hw.1.1 hw.1.2.1.1 hw.1.2.1.2) (by kernel_rfl)
def l_FnExactMedianOf_C (f : FuncId) (ds : List D) : Orc := bif Nat.beq f 27 then l_szField_orc ds else bif Nat.beq f 29 then l_toField_orc ds else bif Nat.beq f 50 then s_MedianOf_orc ds else bif Nat.beq f 24 then l_eqIntS_orc ds else bif Nat.beq f 32 then l_eqField_orc ds else bif Nat.beq f 26 then l_heldIntS_orc ds else .no
def l_FnExactMedianOf_A (Open : List Int) (Dist : List (List Int)) (k : Int) : Ann := .two (.none) (.two (.none) (.two (.none) (.two (.none) (.two (.reg [(1, .g)]) (.two (.reg [(1, .g)]) (.two (.mark [] 2 (.vcall (.tup [.d (.sl (.ints (medL Open Dist k))), .d (.bool (goodField Open Dist && inB k 1 (Open.length : Int)))]))) (.two (.none) (.two (.two (.reg [(2, .g)]) (.none)) (.two (.none) (.two (.mark [] 2 (.kill (1 + (Open.length : Int) + ((Dist.map List.length).sum : Int)))) (.two (.none) (.two (.none) (.two (.mark [] 2 (.wv (marks 1 (medL Open Dist k).length) (1 + ((medL Open Dist k).length : Int)))) (.two (.none) (.two (.none) (.two (.none) (.two (.none) (.two (.mark [(1, .g)] 3 (.vcall (.tup [.d (.sl (.ints (medL Open Dist k))), .d (.bool (goodField Open Dist && inB k 1 (Open.length : Int)))]))) (.none)))))))))))))))))))
def l_FnExactMedianOf_P (Open : List Int) (Dist : List (List Int)) (k : Int) : Prop :=
  (PC Try.prog 27 [.agg [.sl (.ints Open), .sl (.rows Dist)], .int .i64 1048576] (.one (.d (.int .i64 (szField Open Dist 1048576))))) ∧ (((decide ((szField Open Dist 1048576) < 0)) = true → ((true = true))) ∧ ((decide ((szField Open Dist 1048576) < 0)) = false → (PC Try.prog 29 [.agg [.sl (.ints Open), .sl (.rows Dist)]] (.one (.d (.agg [.sl (.ints Open), .sl (.rows Dist)])))) ∧ (PC Try.prog 50 [.agg [.sl (.ints Open), .sl (.rows Dist)], .int .i64 k] (.tup [.d (.sl (.ints (medL Open Dist k))), .d (.bool (goodField Open Dist && inB k 1 (Open.length : Int)))])) ∧ (PC Try.prog 29 [.agg [.sl (.ints Open), .sl (.rows Dist)]] (.one (.d (.agg [.sl (.ints Open), .sl (.rows Dist)])))) ∧ (PC Try.prog 51 [.agg [.sl (.ints Open), .sl (.rows Dist)], .int .i64 k] (.tup [.d (.sl (.ints (medL Open Dist k))), .d (.bool (goodField Open Dist && inB k 1 (Open.length : Int)))])) ∧ ((medL Open Dist k).length = (medL Open Dist k).length) ∧ (PC Try.prog 24 [.sl (.ints (medL Open Dist k)), .sl (.ints (medL Open Dist k))] (.one (.d (.bool ((medL Open Dist k) == (medL Open Dist k)))))) ∧ ((!(!((medL Open Dist k) == (medL Open Dist k)))) = true → (!(!((medL Open Dist k) == (medL Open Dist k)))) = true) ∧ ((!(!((medL Open Dist k) == (medL Open Dist k)))) = true → (!(!((medL Open Dist k) == (medL Open Dist k)))) = true) ∧ (true = true) ∧ (((!((medL Open Dist k) == (medL Open Dist k))) = true → true = true)) ∧ (((!((medL Open Dist k) == (medL Open Dist k))) = false → (!(!((medL Open Dist k) == (medL Open Dist k)))) = true)) ∧ (((cond (!((medL Open Dist k) == (medL Open Dist k))) true ((goodField Open Dist && inB k 1 (Open.length : Int)) != (goodField Open Dist && inB k 1 (Open.length : Int)))) = true → ((false = true))) ∧ ((cond (!((medL Open Dist k) == (medL Open Dist k))) true ((goodField Open Dist && inB k 1 (Open.length : Int)) != (goodField Open Dist && inB k 1 (Open.length : Int)))) = false → (true = true) ∧ (PC Try.prog 29 [.agg [.sl (.ints Open), .sl (.rows Dist)]] (.one (.d (.agg [.sl (.ints Open), .sl (.rows Dist)])))) ∧ (PC Try.prog 32 [.agg [.sl (.ints Open), .sl (.rows Dist)], .agg [.sl (.ints Open), .sl (.rows Dist)]] (.one (.d (.bool ((Open == Open) && (Dist == Dist)))))) ∧ (((!((Open == Open) && (Dist == Dist))) = true → ((false = true))) ∧ ((!((Open == Open) && (Dist == Dist))) = false → (PG Try.prog 33 [.agg [.ints Open.length, .rows (Dist.map List.length)], .int 1] (1 + (Open.length : Int) + ((Dist.map List.length).sum : Int))) ∧ ((!(decide ((1 + (Open.length : Int) + ((Dist.map List.length).sum : Int)) < 0))) = true → (!(decide ((1 + (Open.length : Int) + ((Dist.map List.length).sum : Int)) < 0))) = true) ∧ ((!(decide ((1 + (Open.length : Int) + ((Dist.map List.length).sum : Int)) < 0))) = true → (!(decide ((1 + (Open.length : Int) + ((Dist.map List.length).sum : Int)) < 0))) = true) ∧ (((!(decide ((1 + (Open.length : Int) + ((Dist.map List.length).sum : Int)) < 0))) = true → (medL Open Dist k).length = (medL Open Dist k).length)) ∧ ((!(decide ((1 + (Open.length : Int) + ((Dist.map List.length).sum : Int)) < 0))) = true → PC Try.prog 24 [.sl (.ints (medL Open Dist k)), .sl (.ints (medL Open Dist k))] (.one (.d (.bool ((medL Open Dist k) == (medL Open Dist k)))))) ∧ ((!(decide ((1 + (Open.length : Int) + ((Dist.map List.length).sum : Int)) < 0))) = true → (!(decide ((1 + (Open.length : Int) + ((Dist.map List.length).sum : Int)) < 0))) = true) ∧ (true = true) ∧ (((decide ((1 + (Open.length : Int) + ((Dist.map List.length).sum : Int)) < 0)) = true → true = true)) ∧ (((decide ((1 + (Open.length : Int) + ((Dist.map List.length).sum : Int)) < 0)) = false → (!(decide ((1 + (Open.length : Int) + ((Dist.map List.length).sum : Int)) < 0))) = true)) ∧ ((!(cond (decide ((1 + (Open.length : Int) + ((Dist.map List.length).sum : Int)) < 0)) true (!((medL Open Dist k) == (medL Open Dist k))))) = true → (!(cond (decide ((1 + (Open.length : Int) + ((Dist.map List.length).sum : Int)) < 0)) true (!((medL Open Dist k) == (medL Open Dist k))))) = true) ∧ ((!(cond (decide ((1 + (Open.length : Int) + ((Dist.map List.length).sum : Int)) < 0)) true (!((medL Open Dist k) == (medL Open Dist k))))) = true → (!(cond (decide ((1 + (Open.length : Int) + ((Dist.map List.length).sum : Int)) < 0)) true (!((medL Open Dist k) == (medL Open Dist k))))) = true) ∧ (true = true) ∧ (((cond (decide ((1 + (Open.length : Int) + ((Dist.map List.length).sum : Int)) < 0)) true (!((medL Open Dist k) == (medL Open Dist k)))) = true → true = true)) ∧ (((cond (decide ((1 + (Open.length : Int) + ((Dist.map List.length).sum : Int)) < 0)) true (!((medL Open Dist k) == (medL Open Dist k)))) = false → (!(cond (decide ((1 + (Open.length : Int) + ((Dist.map List.length).sum : Int)) < 0)) true (!((medL Open Dist k) == (medL Open Dist k))))) = true)) ∧ (((cond (cond (decide ((1 + (Open.length : Int) + ((Dist.map List.length).sum : Int)) < 0)) true (!((medL Open Dist k) == (medL Open Dist k)))) true ((goodField Open Dist && inB k 1 (Open.length : Int)) != (goodField Open Dist && inB k 1 (Open.length : Int)))) = true → ((false = true))) ∧ ((cond (cond (decide ((1 + (Open.length : Int) + ((Dist.map List.length).sum : Int)) < 0)) true (!((medL Open Dist k) == (medL Open Dist k)))) true ((goodField Open Dist && inB k 1 (Open.length : Int)) != (goodField Open Dist && inB k 1 (Open.length : Int)))) = false → ((medL Open Dist k).length = (medL Open Dist k).length) ∧ ((marks 1 (medL Open Dist k).length).length = (medL Open Dist k).length) ∧ (PX Try.prog 25 (medL Open Dist k) (marks 1 (medL Open Dist k).length) 1 (1 + ((medL Open Dist k).length : Int))) ∧ ((medL Open Dist k).length = (marks 1 (medL Open Dist k).length).length) ∧ (PC Try.prog 26 [.sl (.ints (marks 1 (medL Open Dist k).length)), .int .i64 1] (.one (.d (.int .i64 (1 + ((marks 1 (medL Open Dist k).length).length : Int)))))) ∧ (((decide ((1 + ((marks 1 (medL Open Dist k).length).length : Int)) < 0)) = true → ((false = true))) ∧ ((decide ((1 + ((marks 1 (medL Open Dist k).length).length : Int)) < 0)) = false → ((((1 + ((marks 1 (medL Open Dist k).length).length : Int)) != (1 + ((medL Open Dist k).length : Int))) = true → ((false = true))) ∧ (((1 + ((marks 1 (medL Open Dist k).length).length : Int)) != (1 + ((medL Open Dist k).length : Int))) = false → (PC Try.prog 29 [.agg [.sl (.ints Open), .sl (.rows Dist)]] (.one (.d (.agg [.sl (.ints Open), .sl (.rows Dist)])))) ∧ (PC Try.prog 51 [.agg [.sl (.ints Open), .sl (.rows Dist)], .int .i64 k] (.tup [.d (.sl (.ints (medL Open Dist k))), .d (.bool (goodField Open Dist && inB k 1 (Open.length : Int)))])) ∧ ((medL Open Dist k).length = (medL Open Dist k).length) ∧ (PC Try.prog 24 [.sl (.ints (medL Open Dist k)), .sl (.ints (medL Open Dist k))] (.one (.d (.bool ((medL Open Dist k) == (medL Open Dist k)))))) ∧ ((!(!((medL Open Dist k) == (medL Open Dist k)))) = true → (!(!((medL Open Dist k) == (medL Open Dist k)))) = true) ∧ ((!(!((medL Open Dist k) == (medL Open Dist k)))) = true → (!(!((medL Open Dist k) == (medL Open Dist k)))) = true) ∧ (true = true) ∧ (((!((medL Open Dist k) == (medL Open Dist k))) = true → true = true)) ∧ (((!((medL Open Dist k) == (medL Open Dist k))) = false → (!(!((medL Open Dist k) == (medL Open Dist k)))) = true)) ∧ (((cond (!((medL Open Dist k) == (medL Open Dist k))) true ((goodField Open Dist && inB k 1 (Open.length : Int)) != (goodField Open Dist && inB k 1 (Open.length : Int)))) = true → ((false = true))) ∧ ((cond (!((medL Open Dist k) == (medL Open Dist k))) true ((goodField Open Dist && inB k 1 (Open.length : Int)) != (goodField Open Dist && inB k 1 (Open.length : Int)))) = false → ((medL Open Dist k).length = (marks 1 (medL Open Dist k).length).length) ∧ (PC Try.prog 26 [.sl (.ints (marks 1 (medL Open Dist k).length)), .int .i64 1] (.one (.d (.int .i64 (1 + ((marks 1 (medL Open Dist k).length).length : Int)))))) ∧ (((decide ((1 + ((marks 1 (medL Open Dist k).length).length : Int)) < 0)) = true → ((false = true))) ∧ ((decide ((1 + ((marks 1 (medL Open Dist k).length).length : Int)) < 0)) = false → ((((1 + ((marks 1 (medL Open Dist k).length).length : Int)) != (1 + ((medL Open Dist k).length : Int))) = true → ((false = true))) ∧ (((1 + ((marks 1 (medL Open Dist k).length).length : Int)) != (1 + ((medL Open Dist k).length : Int))) = false → ((true = true))))))))))))))))))))
theorem l_FnExactMedianOf_vc (Open : List Int) (Dist : List (List Int)) (k : Int)  (w_Open : (Open.length : Int) ≤ 9223372036854775807) (w_Dist : (Dist.length : Int) ≤ 9223372036854775807) (v_Dist : ∀ x9 ∈ Dist, (x9.length : Int) ≤ 9223372036854775807) : l_FnExactMedianOf_P Open Dist k := by
  unfold l_FnExactMedianOf_P
  refine ⟨?_, ?_, ?_⟩
  · refine l_szField_pc Open Dist 1048576 ?_
    · first | omega | rfl | (intro hg; simp only [nrmT] at hg; omega) | (intro g1 g2; simp [g1, g2]; done) | (intro g1; simp at g1 ⊢; simp [g1]; done) | (simp only [nrmT] at *; omega) | (simp at * <;> omega) | (simp_all <;> omega) | (simp_all; done)
  · intro b1
    try simp only [nrmT] at b1
    exact rfl
  · intro b2
    try simp only [nrmT] at b2
    refine ⟨?_, s_MedianOf_pc Open Dist k, ?_, i_MedianOf_pc Open Dist k, rfl, l_eqIntS_pc (medL Open Dist k) (medL Open Dist k), id, id, rfl, fun _ => rfl, ?_, ?_, ?_⟩
    · refine l_toField_pc Open Dist ?_ ?_ ?_
      · have := szField_bound b2; omega
      · have := szField_bound b2; omega
      · have h := (szField_bound b2).2.2
        intro xs hx
        have h := h xs hx
        omega
    · refine l_toField_pc Open Dist ?_ ?_ ?_
      · have := szField_bound b2; omega
      · have := szField_bound b2; omega
      · have h := (szField_bound b2).2.2
        intro xs hx
        have h := h xs hx
        omega
    · intro h; rw [h]; rfl
    · intro b3
      first | (exfalso; simp only [marks_len] at b3; omega) | (simp at b3; done) | (exfalso; simp only [marks_len] at b3; simp at b3; done) | omega | rfl | (intro hg; simp only [nrmT] at hg; omega) | (intro g1 g2; simp [g1, g2]; done) | (intro g1; simp at g1 ⊢; simp [g1]; done) | (simp only [nrmT] at *; omega) | (simp at * <;> omega) | (simp_all <;> omega) | (simp_all; done)
    · intro b4
      refine ⟨rfl, ?_, l_eqField_pc Open Dist Open Dist, ?_, ?_⟩
      · refine l_toField_pc Open Dist ?_ ?_ ?_
        · have := szField_bound b2; omega
        · have := szField_bound b2; omega
        · have h := (szField_bound b2).2.2
          intro xs hx
          have h := h xs hx
          omega
      · intro b5
        try simp only [Bool.not_eq_true', Bool.not_eq_false', Bool.not_not] at b5
        first | (exfalso; simp only [marks_len] at b5; omega) | (simp at b5; done) | (exfalso; simp only [marks_len] at b5; simp at b5; done) | omega | rfl | (intro hg; simp only [nrmT] at hg; omega) | (intro g1 g2; simp [g1, g2]; done) | (intro g1; simp at g1 ⊢; simp [g1]; done) | (simp only [nrmT] at *; omega) | (simp at * <;> omega) | (simp_all <;> omega) | (simp_all; done)
      · intro b6
        try simp only [Bool.not_eq_true', Bool.not_eq_false', Bool.not_not] at b6
        refine ⟨?_, id, id, fun _ => rfl, fun _ => l_eqIntS_pc (medL Open Dist k) (medL Open Dist k), id, rfl, fun _ => rfl, ?_, id, id, rfl, fun _ => rfl, ?_, ?_, ?_⟩
        · refine laws_markField_g_pg Open.length (Dist.map List.length) 1 ?_ ?_ ?_
          · first | omega | rfl | (intro hg; simp only [nrmT] at hg; omega) | (intro g1 g2; simp [g1, g2]; done) | (intro g1; simp at g1 ⊢; simp [g1]; done) | (simp only [nrmT] at *; omega) | (simp at * <;> omega) | (simp_all <;> omega) | (simp_all; done)
          · rw [List.length_map]; have hz := szField_bound b2; omega
          · have hz := szField_bound b2
            have hs := sum_lens20 (xss := Dist) (by omega) (fun xs hx => by have := hz.2.2 xs hx; omega)
            omega
        · first | omega | rfl | (intro hg; simp only [nrmT] at hg; omega) | (intro g1 g2; simp [g1, g2]; done) | (intro g1; simp at g1 ⊢; simp [g1]; done) | (simp only [nrmT] at *; omega) | (simp at * <;> omega) | (simp_all <;> omega) | (simp_all; done)
        · intro h; rw [h]; rfl
        · intro b7
          first | (exfalso; simp only [marks_len] at b7; omega) | (simp at b7; done) | (exfalso; simp only [marks_len] at b7; simp at b7; done) | omega | rfl | (intro hg; simp only [nrmT] at hg; omega) | (intro g1 g2; simp [g1, g2]; done) | (intro g1; simp at g1 ⊢; simp [g1]; done) | (simp only [nrmT] at *; omega) | (simp at * <;> omega) | (simp_all <;> omega) | (simp_all; done)
        · intro b8
          refine ⟨rfl, marks_len _ _, ?_, ?_, ?_, ?_, ?_⟩
          · refine laws_markIntS_w_px (medL Open Dist k) 1 ?_ ?_
            · first | omega | rfl | (intro hg; simp only [nrmT] at hg; omega) | (intro g1 g2; simp [g1, g2]; done) | (intro g1; simp at g1 ⊢; simp [g1]; done) | (simp only [nrmT] at *; omega) | (simp at * <;> omega) | (simp_all <;> omega) | (simp_all; done)
            · have := @medL_len Open Dist k
              omega
          · simp only [marks_len]
          · refine l_heldIntS_pc (marks 1 (medL Open Dist k).length) 1 ?_ ?_ ?_
            · first | omega | rfl | (intro hg; simp only [nrmT] at hg; omega) | (intro g1 g2; simp [g1, g2]; done) | (intro g1; simp at g1 ⊢; simp [g1]; done) | (simp only [nrmT] at *; omega) | (simp at * <;> omega) | (simp_all <;> omega) | (simp_all; done)
            · simp only [marks_len]
            · simp only [marks_len]
              have := @medL_len Open Dist k
              omega
          · intro b9
            try simp only [nrmT] at b9
            first | (exfalso; simp only [marks_len] at b9; omega) | (simp at b9; done) | (exfalso; simp only [marks_len] at b9; simp at b9; done) | omega | rfl | (intro hg; simp only [nrmT] at hg; omega) | (intro g1 g2; simp [g1, g2]; done) | (intro g1; simp at g1 ⊢; simp [g1]; done) | (simp only [nrmT] at *; omega) | (simp at * <;> omega) | (simp_all <;> omega) | (simp_all; done)
          · intro b10
            try simp only [nrmT] at b10
            refine ⟨?_, ?_⟩
            · intro b11
              try simp only [nrmT] at b11
              first | (exfalso; simp only [marks_len] at b11; omega) | (simp at b11; done) | (exfalso; simp only [marks_len] at b11; simp at b11; done) | omega | rfl | (intro hg; simp only [nrmT] at hg; omega) | (intro g1 g2; simp [g1, g2]; done) | (intro g1; simp at g1 ⊢; simp [g1]; done) | (simp only [nrmT] at *; omega) | (simp at * <;> omega) | (simp_all <;> omega) | (simp_all; done)
            · intro b12
              try simp only [nrmT] at b12
              refine ⟨?_, i_MedianOf_pc Open Dist k, rfl, l_eqIntS_pc (medL Open Dist k) (medL Open Dist k), id, id, rfl, fun _ => rfl, ?_, ?_, ?_⟩
              · refine l_toField_pc Open Dist ?_ ?_ ?_
                · have := szField_bound b2; omega
                · have := szField_bound b2; omega
                · have h := (szField_bound b2).2.2
                  intro xs hx
                  have h := h xs hx
                  omega
              · intro h; rw [h]; rfl
              · intro b13
                first | (exfalso; simp only [marks_len] at b13; omega) | (simp at b13; done) | (exfalso; simp only [marks_len] at b13; simp at b13; done) | omega | rfl | (intro hg; simp only [nrmT] at hg; omega) | (intro g1 g2; simp [g1, g2]; done) | (intro g1; simp at g1 ⊢; simp [g1]; done) | (simp only [nrmT] at *; omega) | (simp at * <;> omega) | (simp_all <;> omega) | (simp_all; done)
              · intro b14
                refine ⟨?_, ?_, ?_, ?_⟩
                · simp only [marks_len]
                · refine l_heldIntS_pc (marks 1 (medL Open Dist k).length) 1 ?_ ?_ ?_
                  · first | omega | rfl | (intro hg; simp only [nrmT] at hg; omega) | (intro g1 g2; simp [g1, g2]; done) | (intro g1; simp at g1 ⊢; simp [g1]; done) | (simp only [nrmT] at *; omega) | (simp at * <;> omega) | (simp_all <;> omega) | (simp_all; done)
                  · simp only [marks_len]
                  · simp only [marks_len]
                    have := @medL_len Open Dist k
                    omega
                · intro b15
                  try simp only [nrmT] at b15
                  first | (exfalso; simp only [marks_len] at b15; omega) | (simp at b15; done) | (exfalso; simp only [marks_len] at b15; simp at b15; done) | omega | rfl | (intro hg; simp only [nrmT] at hg; omega) | (intro g1 g2; simp [g1, g2]; done) | (intro g1; simp at g1 ⊢; simp [g1]; done) | (simp only [nrmT] at *; omega) | (simp at * <;> omega) | (simp_all <;> omega) | (simp_all; done)
                · intro b16
                  try simp only [nrmT] at b16
                  refine ⟨?_, ?_⟩
                  · intro b17
                    try simp only [nrmT] at b17
                    first | (exfalso; simp only [marks_len] at b17; omega) | (simp at b17; done) | (exfalso; simp only [marks_len] at b17; simp at b17; done) | omega | rfl | (intro hg; simp only [nrmT] at hg; omega) | (intro g1 g2; simp [g1, g2]; done) | (intro g1; simp at g1 ⊢; simp [g1]; done) | (simp only [nrmT] at *; omega) | (simp at * <;> omega) | (simp_all <;> omega) | (simp_all; done)
                  · intro b18
                    try simp only [nrmT] at b18
                    exact rfl
theorem l_FnExactMedianOf_pc (Open : List Int) (Dist : List (List Int)) (k : Int)  : PC Try.prog 11 [.agg [.sl (.ints Open), .sl (.rows Dist)], .int .i64 k] (.one (.d (.bool true))) :=
  pc_wf @Try.call11 fun hw => pc_by (by kernel_rfl) Try.func11 @Try.call11 (by kernel_rfl) l_FnExactMedianOf_C (l_FnExactMedianOf_A Open Dist k) (by kernel_rfl) (l_FnExactMedianOf_vc Open Dist k hw.1.1 hw.1.2.1.1 hw.1.2.1.2) (by kernel_rfl)
end Go.Proofs.Ytmmoejdglnnmcaa
