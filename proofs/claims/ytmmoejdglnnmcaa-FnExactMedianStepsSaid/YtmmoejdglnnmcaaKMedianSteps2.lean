/- Contracts of the functions that the law reaches. -/
import Derived.Test.YtmmoejdglnnmcaaKMedianSteps1
import Derived.KernelRfl
set_option linter.unusedVariables false
set_option linter.unusedSimpArgs false
namespace Go.Proofs.Ytmmoejdglnnmcaa
open Go

def i_least_serv_P (xss : List (List Int)) (Open : List Int) (Dist : List (List Int)) : Prop :=
  ((0 : Int) ≤ 0) ∧ ((0 : Int) < xss.length) ∧ (0 < xss.length) ∧ ((∃ best' : List Int, ∃ i' : Int, (i_least_serv_JJ0 xss Open Dist best' i') ∧ ((.fn 96 1 [.agg [.sl (.ints Open), .sl (.rows Dist)]] : D) = (.fn 96 1 [.agg [.sl (.ints Open), .sl (.rows Dist)]] : D)) ∧ ((xss.getD 0 []) = best') ∧ (xss = xss) ∧ ((xss.length : Int) = (xss.length : Int)) ∧ ((0 : Int) = i')) ∧ (∀ best : List Int, ∀ i : Int, (i_least_serv_JJ0 xss Open Dist best i) → (((decide (i < (xss.length : Int))) = true → ((0 : Int) ≤ i) ∧ ((i : Int) < xss.length) ∧ (i.toNat < xss.length) ∧ (PC Try.prog 96 [.agg [.sl (.ints Open), .sl (.rows Dist)], .sl (.ints (xss.getD i.toNat []))] (.one (.d (.int .i64 (servOf Dist (xss.getD i.toNat [])))))) ∧ (PC Try.prog 96 [.agg [.sl (.ints Open), .sl (.rows Dist)], .sl (.ints best)] (.one (.d (.int .i64 (servOf Dist best))))) ∧ (((decide ((servOf Dist (xss.getD i.toNat [])) < (servOf Dist best))) = true → (-9223372036854775808 ≤ (i + 1) ∧ (i + 1) ≤ 9223372036854775807) ∧ (∃ best' : List Int, ∃ i' : Int, (i_least_serv_JJ0 xss Open Dist best' i') ∧ (i_least_serv_mJ0 xss Open Dist best' i' < i_least_serv_mJ0 xss Open Dist best i) ∧ ((.fn 96 1 [.agg [.sl (.ints Open), .sl (.rows Dist)]] : D) = (.fn 96 1 [.agg [.sl (.ints Open), .sl (.rows Dist)]] : D)) ∧ ((xss.getD i.toNat []) = best') ∧ (xss = xss) ∧ ((xss.length : Int) = (xss.length : Int)) ∧ ((i + 1) = i'))) ∧ ((decide ((servOf Dist (xss.getD i.toNat [])) < (servOf Dist best))) = false → (-9223372036854775808 ≤ (i + 1) ∧ (i + 1) ≤ 9223372036854775807) ∧ (∃ best' : List Int, ∃ i' : Int, (i_least_serv_JJ0 xss Open Dist best' i') ∧ (i_least_serv_mJ0 xss Open Dist best' i' < i_least_serv_mJ0 xss Open Dist best i) ∧ ((.fn 96 1 [.agg [.sl (.ints Open), .sl (.rows Dist)]] : D) = (.fn 96 1 [.agg [.sl (.ints Open), .sl (.rows Dist)]] : D)) ∧ (best = best') ∧ (xss = xss) ∧ ((xss.length : Int) = (xss.length : Int)) ∧ ((i + 1) = i'))))) ∧ ((decide (i < (xss.length : Int))) = false → (((best : List Int) = (leastL (servOf Dist) xss)))))))
theorem i_least_serv_vc (xss : List (List Int)) (Open : List Int) (Dist : List (List Int)) (hp : 0 < xss.length) (hx : ∀ s ∈ xss, goodField Open Dist && rising s 0 ((Open.length : Int) - 1) && decide (0 < s.length)) (w_xss : (xss.length : Int) ≤ 9223372036854775807) (v_xss : ∀ x9 ∈ xss, (x9.length : Int) ≤ 9223372036854775807) (w_Open : (Open.length : Int) ≤ 9223372036854775807) (w_Dist : (Dist.length : Int) ≤ 9223372036854775807) (v_Dist : ∀ x9 ∈ Dist, (x9.length : Int) ≤ 9223372036854775807) : i_least_serv_P xss Open Dist := by
  unfold i_least_serv_P
  refine ⟨?_, ?_, ?_, ?_, ?_⟩
  · first | omega | rfl | (intro hg; simp only [nrmT] at hg; omega) | (intro g1 g2; simp [g1, g2]; done) | (intro g1; simp at g1 ⊢; simp [g1]; done) | (simp only [nrmT] at *; omega) | (simp at * <;> omega) | (simp_all <;> omega) | (simp_all; done)
  · first | omega | rfl | (intro hg; simp only [nrmT] at hg; omega) | (intro g1 g2; simp [g1, g2]; done) | (intro g1; simp at g1 ⊢; simp [g1]; done) | (simp only [nrmT] at *; omega) | (simp at * <;> omega) | (simp_all <;> omega) | (simp_all; done)
  · first | omega | rfl | (intro hg; simp only [nrmT] at hg; omega) | (intro g1 g2; simp [g1, g2]; done) | (intro g1; simp at g1 ⊢; simp [g1]; done) | (simp only [nrmT] at *; omega) | (simp at * <;> omega) | (simp_all <;> omega) | (simp_all; done)
  · refine ⟨(xss.getD 0 []), 0, ?_⟩
    refine ⟨?_, rfl, rfl, rfl, rfl, rfl⟩
    · refine ⟨?_, ?_, ?_, ?_⟩
      · first | omega | rfl | (intro hg; simp only [nrmT] at hg; omega) | (intro g1 g2; simp [g1, g2]; done) | (intro g1; simp at g1 ⊢; simp [g1]; done) | (simp only [nrmT] at *; omega) | (simp at * <;> omega) | (simp_all <;> omega) | (simp_all; done)
      · first | omega | rfl | (intro hg; simp only [nrmT] at hg; omega) | (intro g1 g2; simp [g1, g2]; done) | (intro g1; simp at g1 ⊢; simp [g1]; done) | (simp only [nrmT] at *; omega) | (simp at * <;> omega) | (simp_all <;> omega) | (simp_all; done)
      · exact getD_mem hp
      · rfl
  · intro best i hJ
    obtain ⟨h1, h2, h3, h4⟩ := hJ
    refine ⟨?_, ?_⟩
    · intro b1
      try simp only [nrmT] at b1
      refine ⟨?_, ?_, ?_, ?_, ?_, ?_, ?_⟩
      · first | omega | rfl | (intro hg; simp only [nrmT] at hg; omega) | (intro g1 g2; simp [g1, g2]; done) | (intro g1; simp at g1 ⊢; simp [g1]; done) | (simp only [nrmT] at *; omega) | (simp at * <;> omega) | (simp_all <;> omega) | (simp_all; done)
      · first | omega | rfl | (intro hg; simp only [nrmT] at hg; omega) | (intro g1 g2; simp [g1, g2]; done) | (intro g1; simp at g1 ⊢; simp [g1]; done) | (simp only [nrmT] at *; omega) | (simp at * <;> omega) | (simp_all <;> omega) | (simp_all; done)
      · first | omega | rfl | (intro hg; simp only [nrmT] at hg; omega) | (intro g1 g2; simp [g1, g2]; done) | (intro g1; simp at g1 ⊢; simp [g1]; done) | (simp only [nrmT] at *; omega) | (simp at * <;> omega) | (simp_all <;> omega) | (simp_all; done)
      · refine i_Field_service_pc Open Dist (xss.getD i.toNat []) ?_
        · exact hx _ (getD_memI h1 (by omega))
      · refine i_Field_service_pc Open Dist best ?_
        · exact hx _ h3
      · intro b2
        try simp only [nrmT] at b2
        refine ⟨?_, ?_⟩
        · first | omega | rfl | (intro hg; simp only [nrmT] at hg; omega) | (intro g1 g2; simp [g1, g2]; done) | (intro g1; simp at g1 ⊢; simp [g1]; done) | (simp only [nrmT] at *; omega) | (simp at * <;> omega) | (simp_all <;> omega) | (simp_all; done)
        · refine ⟨(xss.getD i.toNat []), (i + 1), ?_⟩
          refine ⟨?_, ?_, rfl, rfl, rfl, rfl, rfl⟩
          · refine ⟨?_, ?_, ?_, ?_⟩
            · first | omega | rfl | (intro hg; simp only [nrmT] at hg; omega) | (intro g1 g2; simp [g1, g2]; done) | (intro g1; simp at g1 ⊢; simp [g1]; done) | (simp only [nrmT] at *; omega) | (simp at * <;> omega) | (simp_all <;> omega) | (simp_all; done)
            · first | omega | rfl | (intro hg; simp only [nrmT] at hg; omega) | (intro g1 g2; simp [g1, g2]; done) | (intro g1; simp at g1 ⊢; simp [g1]; done) | (simp only [nrmT] at *; omega) | (simp at * <;> omega) | (simp_all <;> omega) | (simp_all; done)
            · exact getD_memI h1 (by omega)
            · rw [fold_snoc (d := []) h1 (by omega), ← h4]; unfold lsB; rw [if_pos b2]
          · first | (show _ < _; omega) | (simp only [i_least_serv_mJ0]; omega) | (simp only [i_least_serv_mJ0] at *; simp at *; omega)
      · intro b3
        try simp only [nrmT] at b3
        refine ⟨?_, ?_⟩
        · first | omega | rfl | (intro hg; simp only [nrmT] at hg; omega) | (intro g1 g2; simp [g1, g2]; done) | (intro g1; simp at g1 ⊢; simp [g1]; done) | (simp only [nrmT] at *; omega) | (simp at * <;> omega) | (simp_all <;> omega) | (simp_all; done)
        · refine ⟨best, (i + 1), ?_⟩
          refine ⟨?_, ?_, rfl, rfl, rfl, rfl, rfl⟩
          · refine ⟨?_, ?_, ?_, ?_⟩
            · first | omega | rfl | (intro hg; simp only [nrmT] at hg; omega) | (intro g1 g2; simp [g1, g2]; done) | (intro g1; simp at g1 ⊢; simp [g1]; done) | (simp only [nrmT] at *; omega) | (simp at * <;> omega) | (simp_all <;> omega) | (simp_all; done)
            · first | omega | rfl | (intro hg; simp only [nrmT] at hg; omega) | (intro g1 g2; simp [g1, g2]; done) | (intro g1; simp at g1 ⊢; simp [g1]; done) | (simp only [nrmT] at *; omega) | (simp at * <;> omega) | (simp_all <;> omega) | (simp_all; done)
            · exact h3
            · rw [fold_snoc (d := []) h1 (by omega), ← h4]; unfold lsB; rw [if_neg (by omega)]
          · first | (show _ < _; omega) | (simp only [i_least_serv_mJ0]; omega) | (simp only [i_least_serv_mJ0] at *; simp at *; omega)
    · intro b4
      try simp only [nrmT] at b4
      rw [h4, take_all (by omega)]; rfl
theorem i_least_serv_pc (xss : List (List Int)) (Open : List Int) (Dist : List (List Int)) (hp : 0 < xss.length) (hx : ∀ s ∈ xss, goodField Open Dist && rising s 0 ((Open.length : Int) - 1) && decide (0 < s.length)) : PCs Try.prog 111 [.sl (.rows xss), .fn 96 1 [.agg [.sl (.ints Open), .sl (.rows Dist)]]] 0 (.sl (.ints (leastL (servOf Dist) xss))) :=
  pcs_wf @Try.call111 fun hw => pcs_by (by kernel_rfl) Try.func111 @Try.call111 (by kernel_rfl) i_least_serv_C (i_least_serv_A xss Open Dist) (by kernel_rfl) (i_least_serv_vc xss Open Dist hp hx hw.1.1 hw.1.2 hw.2.1.1.1 hw.2.1.1.2.1.1 hw.2.1.1.2.1.2) (by kernel_rfl)
def i_least_serv_orc : List D → Orc := orcS 0 fun ds => match ds with
  | [.sl (.rows xss), .fn f0 1 [.agg [.sl (.ints Open), .sl (.rows Dist)]]] => some (.sl (.ints (leastL (servOf Dist) xss)))
  | _ => none
theorem i_median_1_pb (x : List Int) (k : Int) : PB Try.prog 155 [.sl (.ints x), .bx [.int .i64 k] 0] (decide ((x.length : Int) ≠ k)) := by
  refine ⟨@Try.call155, fun w vs hall => ?_⟩
  obtain ⟨v1, v2, rfl⟩ : ∃ v1 v2, vs = [v1, v2] := by
    match vs, hall.1 with
    | [a, b], _ => exact ⟨a, b, rfl⟩
  obtain ⟨ad, cap, rfl⟩ := slice_form (hall.2 0 v1 _ rfl rfl)
  obtain ⟨b, rfl, hc⟩ := box_form (hall.2 1 v2 _ rfl rfl)
  show Calls Try.prog 155 #[.slice ad x.length cap, .pointer (some b)] w _
  clear hall
  go_enter Try.func155, Try.ntmps155
  go_wp2
  all_goals (go_ret; exact ⟨by first | (simp_all; done) | (simp_all; rfl), 0, rfl⟩)
theorem slices_DeleteFunc_int_int_med_pu (xss : List (List Int)) (k : Int) (hp : 0 < xss.length) : PU Try.prog 154 22 (.rows xss) (.rows (xss.filter (fun x9 => !(decide ((x9.length : Int) ≠ k))))) [.fn 155 0 [.bx [.int .i64 k] 0]] true :=
  pu_deleteFunc Try.layDelete Try.zeroValue22 22 xss (fun x9 => decide ((x9.length : Int) ≠ k)) 155 [.bx [.int .i64 k] 0] (fun x => i_median_1_pb x k) hp
abbrev i_Field_median_JR1 (Open : List Int) (Dist : List (List Int)) (k : Int) (list2 : List (List Int)) : Prop := (list2 = (setsL (Open.length : Int).toNat).filter (fun x9 => !(decide ((x9.length : Int) ≠ k))))
def i_Field_median_C (f : FuncId) (ds : List D) : Orc := bif Nat.beq f 102 then i_sets_orc ds else bif Nat.beq f 111 then i_least_serv_orc ds else .no
def i_Field_median_A (Open : List Int) (Dist : List (List Int)) (k : Int) : Ann := .two (.none) (.cut (.mark [] 5 (.up (.rows ((setsL (Open.length : Int).toNat).filter (fun x9 => !(decide ((x9.length : Int) ≠ k))))) true)) (cut1 (fun (list2 : List (List Int)) => i_Field_median_JR1 Open Dist k list2) (fun (list2 : List (List Int)) => [(2, .ptr 2 0), (5, .d true (.sl (.rows list2)))]) (fun (list2 : List (List Int)) => [(2, .box 37 [.d false (.sl (.ints Open)), .d false (.sl (.rows Dist))])])) (fun _ => .none))
def i_Field_median_P (Open : List Int) (Dist : List (List Int)) (k : Int) : Prop :=
  (((PC Try.prog 102 [.int .i64 (Open.length : Int)] (.one (.own 22 (.rows (setsL (Open.length : Int).toNat))))) ∧ ((setsL (Open.length : Int).toNat).length = (setsL (Open.length : Int).toNat).length) ∧ (PU Try.prog 154 22 (.rows (setsL (Open.length : Int).toNat)) (.rows ((setsL (Open.length : Int).toNat).filter (fun x9 => !(decide ((x9.length : Int) ≠ k))))) [.fn 155 0 [.bx [.int .i64 k] 0]] true) ∧ (∃ list2' : List (List Int), (i_Field_median_JR1 Open Dist k list2') ∧ (((setsL (Open.length : Int).toNat).filter (fun x9 => !(decide ((x9.length : Int) ≠ k)))).length = ((setsL (Open.length : Int).toNat).filter (fun x9 => !(decide ((x9.length : Int) ≠ k)))).length) ∧ (((setsL (Open.length : Int).toNat).filter (fun x9 => !(decide ((x9.length : Int) ≠ k)))) = list2') ∧ (Open = Open) ∧ (Dist = Dist))) ∧ (∀ list2 : List (List Int), (i_Field_median_JR1 Open Dist k list2) → (PCs Try.prog 111 [.sl (.rows list2), .fn 96 1 [.agg [.sl (.ints Open), .sl (.rows Dist)]]] 0 (.sl (.ints (leastL (servOf Dist) list2)))) ∧ ((((leastL (servOf Dist) list2) : List Int) = (medS Open Dist k)))))
theorem i_Field_median_vc (Open : List Int) (Dist : List (List Int)) (k : Int) (hg : goodField Open Dist = true) (hk : 1 ≤ k ∧ k ≤ (Open.length : Int)) (w_Open : (Open.length : Int) ≤ 9223372036854775807) (w_Dist : (Dist.length : Int) ≤ 9223372036854775807) (v_Dist : ∀ x9 ∈ Dist, (x9.length : Int) ≤ 9223372036854775807) : i_Field_median_P Open Dist k := by
  unfold i_Field_median_P
  obtain ⟨g1, g2, g3⟩ := gf_open hg
  refine ⟨?_, ?_⟩
  · refine ⟨?_, rfl, ?_, ?_⟩
    · refine i_sets_pc (Open.length : Int) ?_
      · omega
    · refine slices_DeleteFunc_int_int_med_pu (setsL (Open.length : Int).toNat) k ?_
      · first | (rw [h8]; exact med_pos hk) | exact sets_big (by omega)
    · refine ⟨((setsL (Open.length : Int).toNat).filter (fun x9 => !(decide ((x9.length : Int) ≠ k)))), ?_⟩
      refine ⟨?_, rfl, rfl, rfl, rfl⟩
      · unfold i_Field_median_JR1
        first | omega | rfl | (intro hg; simp only [nrmT] at hg; omega) | (intro g1 g2; simp [g1, g2]; done) | (intro g1; simp at g1 ⊢; simp [g1]; done) | (simp only [nrmT] at *; omega) | (simp at * <;> omega) | (simp_all <;> omega) | (simp_all; done)
  · intro list2 hJ
    have h8 := hJ
    refine ⟨?_, ?_⟩
    · refine i_least_serv_pc list2 Open Dist ?_ ?_
      · rw [h8]; exact med_pos hk
      · rw [h8]
        intro s hs
        exact (set_two hg (List.mem_filter.1 hs).1).1
    · rw [h8]; rfl
theorem i_Field_median_pc (Open : List Int) (Dist : List (List Int)) (k : Int) (hg : goodField Open Dist = true) (hk : 1 ≤ k ∧ k ≤ (Open.length : Int)) : PC Try.prog 97 [.agg [.sl (.ints Open), .sl (.rows Dist)], .int .i64 k] (.one (.d (.sl (.ints (medS Open Dist k))))) :=
  pc_wf @Try.call97 fun hw => pc_by (by kernel_rfl) Try.func97 @Try.call97 (by kernel_rfl) i_Field_median_C (i_Field_median_A Open Dist k) (by kernel_rfl) (i_Field_median_vc Open Dist k hg hk hw.1.1 hw.1.2.1.1 hw.1.2.1.2) (by kernel_rfl)
def i_Field_median_orc : List D → Orc := orcN [none, none] fun ds => match ds with
  | [.agg [.sl (.ints Open), .sl (.rows Dist)], .int .i64 k] => some (.one (.d (.sl (.ints (medS Open Dist k)))))
  | _ => none
abbrev s_l4Best_JJ0 (Open : List Int) (Dist : List (List Int)) (k : Int) (best : List Int) (i : Int) : Prop := (0 ≤ i) ∧ (i ≤ ((setsL (Open.length : Int).toNat).length : Int)) ∧ (best = ((setsL (Open.length : Int).toNat).take i.toNat).foldl (bsB (servOf Dist) k) []) ∧ (best = [] ∨ best ∈ (setsL (Open.length : Int).toNat))
abbrev s_l4Best_mJ0 (Open : List Int) (Dist : List (List Int)) (k : Int) (best : List Int) (i : Int) : Nat := ((setsL (Open.length : Int).toNat).length - i).toNat
def s_l4Best_C (f : FuncId) (ds : List D) : Orc := bif Nat.beq f 98 then s_l2Sets_orc ds else bif Nat.beq f 93 then s_l2Serve_orc ds else .no
def s_l4Best_A (Open : List Int) (Dist : List (List Int)) (k : Int) : Ann := .two (.none) (.two (.reg [(4, .frz)]) (.two (.two (.none) (.loop (cut2 (fun (best : List Int) (i : Int) => s_l4Best_JJ0 Open Dist k best i) (fun (best : List Int) (i : Int) => [(1, .d false (.int .i64 k)), (2, .ptr 2 0), (5, .d true (.sl (.rows (setsL (Open.length : Int).toNat)))), (6, .d true (.sl (.ints best))), (7, .d true (.int .i64 i))]) (fun (best : List Int) (i : Int) => [(2, .box 37 [.d false (.sl (.ints Open)), .d false (.sl (.rows Dist))])])) (fun g => s_l4Best_mJ0 Open Dist k g.1 g.2) (fun _ => .none))) (.none)))
def s_l4Best_P (Open : List Int) (Dist : List (List Int)) (k : Int) : Prop :=
  (PC Try.prog 98 [.int .i64 (Open.length : Int)] (.one (.d (.sl (.rows (setsL (Open.length : Int).toNat)))))) ∧ ((∃ best' : List Int, ∃ i' : Int, (s_l4Best_JJ0 Open Dist k best' i') ∧ (k = k) ∧ ((setsL (Open.length : Int).toNat) = (setsL (Open.length : Int).toNat)) ∧ ([] = best') ∧ ((0 : Int) = i') ∧ (Open = Open) ∧ (Dist = Dist)) ∧ (∀ best : List Int, ∀ i : Int, (s_l4Best_JJ0 Open Dist k best i) → (((decide (i < (((setsL (Open.length : Int).toNat).length) : Int))) = true → (true = true) ∧ ((0 : Int) ≤ i) ∧ ((i : Int) < (setsL (Open.length : Int).toNat).length) ∧ (i.toNat < (setsL (Open.length : Int).toNat).length) ∧ (((((setsL (Open.length : Int).toNat).getD i.toNat []).length : Int) == k) = true → ((((setsL (Open.length : Int).toNat).getD i.toNat []).length : Int) == k) = true) ∧ (((((setsL (Open.length : Int).toNat).getD i.toNat []).length : Int) == k) = true → ((((setsL (Open.length : Int).toNat).getD i.toNat []).length : Int) == k) = true) ∧ (((((setsL (Open.length : Int).toNat).getD i.toNat []).length : Int) == k) = true → ((((setsL (Open.length : Int).toNat).getD i.toNat []).length : Int) == k) = true) ∧ ((((((setsL (Open.length : Int).toNat).getD i.toNat []).length : Int) == k) && (!((best.length : Int) == 0))) = true → (((((setsL (Open.length : Int).toNat).getD i.toNat []).length : Int) == k) && (!((best.length : Int) == 0))) = true) ∧ ((((((setsL (Open.length : Int).toNat).getD i.toNat []).length : Int) == k) && (!((best.length : Int) == 0))) = true → (((((setsL (Open.length : Int).toNat).getD i.toNat []).length : Int) == k) && (!((best.length : Int) == 0))) = true) ∧ (((((((setsL (Open.length : Int).toNat).getD i.toNat []).length : Int) == k) && (!((best.length : Int) == 0))) = true → (0 : Int) ≤ i)) ∧ (((((((setsL (Open.length : Int).toNat).getD i.toNat []).length : Int) == k) && (!((best.length : Int) == 0))) = true → (i : Int) < (setsL (Open.length : Int).toNat).length)) ∧ ((((((setsL (Open.length : Int).toNat).getD i.toNat []).length : Int) == k) && (!((best.length : Int) == 0))) = true → (((((setsL (Open.length : Int).toNat).getD i.toNat []).length : Int) == k) && (!((best.length : Int) == 0))) = true) ∧ (((((((setsL (Open.length : Int).toNat).getD i.toNat []).length : Int) == k) && (!((best.length : Int) == 0))) = true → i.toNat < (setsL (Open.length : Int).toNat).length)) ∧ ((((((setsL (Open.length : Int).toNat).getD i.toNat []).length : Int) == k) && (!((best.length : Int) == 0))) = true → (((((setsL (Open.length : Int).toNat).getD i.toNat []).length : Int) == k) && (!((best.length : Int) == 0))) = true) ∧ ((((((setsL (Open.length : Int).toNat).getD i.toNat []).length : Int) == k) && (!((best.length : Int) == 0))) = true → (((((setsL (Open.length : Int).toNat).getD i.toNat []).length : Int) == k) && (!((best.length : Int) == 0))) = true) ∧ ((((((setsL (Open.length : Int).toNat).getD i.toNat []).length : Int) == k) && (!((best.length : Int) == 0))) = true → PC Try.prog 93 [.agg [.sl (.ints Open), .sl (.rows Dist)], .sl (.ints ((setsL (Open.length : Int).toNat).getD i.toNat []))] (.one (.d (.int .i64 (servOf Dist ((setsL (Open.length : Int).toNat).getD i.toNat [])))))) ∧ ((((((setsL (Open.length : Int).toNat).getD i.toNat []).length : Int) == k) && (!((best.length : Int) == 0))) = true → (((((setsL (Open.length : Int).toNat).getD i.toNat []).length : Int) == k) && (!((best.length : Int) == 0))) = true) ∧ ((((((setsL (Open.length : Int).toNat).getD i.toNat []).length : Int) == k) && (!((best.length : Int) == 0))) = true → (((((setsL (Open.length : Int).toNat).getD i.toNat []).length : Int) == k) && (!((best.length : Int) == 0))) = true) ∧ ((((((setsL (Open.length : Int).toNat).getD i.toNat []).length : Int) == k) && (!((best.length : Int) == 0))) = true → PC Try.prog 93 [.agg [.sl (.ints Open), .sl (.rows Dist)], .sl (.ints best)] (.one (.d (.int .i64 (servOf Dist best))))) ∧ ((((((setsL (Open.length : Int).toNat).getD i.toNat []).length : Int) == k) && (!((best.length : Int) == 0))) = true → (((((setsL (Open.length : Int).toNat).getD i.toNat []).length : Int) == k) && (!((best.length : Int) == 0))) = true) ∧ ((((((setsL (Open.length : Int).toNat).getD i.toNat []).length : Int) == k) && (!((best.length : Int) == 0))) = true → (((((setsL (Open.length : Int).toNat).getD i.toNat []).length : Int) == k) && (!((best.length : Int) == 0))) = true) ∧ ((((((setsL (Open.length : Int).toNat).getD i.toNat []).length : Int) == k) = true → ((((setsL (Open.length : Int).toNat).getD i.toNat []).length : Int) == k) = true)) ∧ ((((((setsL (Open.length : Int).toNat).getD i.toNat []).length : Int) == k) = true → ((best.length : Int) == 0) = true → true = true)) ∧ ((((((setsL (Open.length : Int).toNat).getD i.toNat []).length : Int) == k) = true → ((best.length : Int) == 0) = false → (((((setsL (Open.length : Int).toNat).getD i.toNat []).length : Int) == k) && (!((best.length : Int) == 0))) = true)) ∧ (true = true) ∧ ((((((setsL (Open.length : Int).toNat).getD i.toNat []).length : Int) == k) = true → ((((setsL (Open.length : Int).toNat).getD i.toNat []).length : Int) == k) = true)) ∧ ((((((setsL (Open.length : Int).toNat).getD i.toNat []).length : Int) == k) = false → true = true)) ∧ (((cond ((((setsL (Open.length : Int).toNat).getD i.toNat []).length : Int) == k) (cond ((best.length : Int) == 0) true (decide ((servOf Dist ((setsL (Open.length : Int).toNat).getD i.toNat [])) < (servOf Dist best)))) false) = true → ((0 : Int) ≤ i) ∧ ((i : Int) < (setsL (Open.length : Int).toNat).length) ∧ (i.toNat < (setsL (Open.length : Int).toNat).length) ∧ (-9223372036854775808 ≤ (i + 1) ∧ (i + 1) ≤ 9223372036854775807) ∧ (∃ best' : List Int, ∃ i' : Int, (s_l4Best_JJ0 Open Dist k best' i') ∧ (s_l4Best_mJ0 Open Dist k best' i' < s_l4Best_mJ0 Open Dist k best i) ∧ (k = k) ∧ ((setsL (Open.length : Int).toNat) = (setsL (Open.length : Int).toNat)) ∧ (((setsL (Open.length : Int).toNat).getD i.toNat []) = best') ∧ ((i + 1) = i') ∧ (Open = Open) ∧ (Dist = Dist))) ∧ ((cond ((((setsL (Open.length : Int).toNat).getD i.toNat []).length : Int) == k) (cond ((best.length : Int) == 0) true (decide ((servOf Dist ((setsL (Open.length : Int).toNat).getD i.toNat [])) < (servOf Dist best)))) false) = false → (-9223372036854775808 ≤ (i + 1) ∧ (i + 1) ≤ 9223372036854775807) ∧ (∃ best' : List Int, ∃ i' : Int, (s_l4Best_JJ0 Open Dist k best' i') ∧ (s_l4Best_mJ0 Open Dist k best' i' < s_l4Best_mJ0 Open Dist k best i) ∧ (k = k) ∧ ((setsL (Open.length : Int).toNat) = (setsL (Open.length : Int).toNat)) ∧ (best = best') ∧ ((i + 1) = i') ∧ (Open = Open) ∧ (Dist = Dist))))) ∧ ((decide (i < (((setsL (Open.length : Int).toNat).length) : Int))) = false → (((best : List Int) = (medS Open Dist k)))))))
theorem s_l4Best_vc (Open : List Int) (Dist : List (List Int)) (k : Int) (hg : goodField Open Dist = true) (hk : 1 ≤ k ∧ k ≤ (Open.length : Int)) (w_Open : (Open.length : Int) ≤ 9223372036854775807) (w_Dist : (Dist.length : Int) ≤ 9223372036854775807) (v_Dist : ∀ x9 ∈ Dist, (x9.length : Int) ≤ 9223372036854775807) : s_l4Best_P Open Dist k := by
  unfold s_l4Best_P
  obtain ⟨g1, g2, g3⟩ := gf_open hg
  have sl := sets_small (n := (Open.length : Int).toNat) (by omega)
  refine ⟨?_, ?_, ?_⟩
  · refine s_l2Sets_pc (Open.length : Int) ?_
    · omega
  · refine ⟨([]), 0, ?_⟩
    refine ⟨?_, rfl, rfl, ?_, rfl, rfl, rfl⟩
    · refine ⟨?_, ?_, ?_, ?_⟩
      · first | omega | rfl | (intro hg; simp only [nrmT] at hg; omega) | (intro g1 g2; simp [g1, g2]; done) | (intro g1; simp at g1 ⊢; simp [g1]; done) | (simp only [nrmT] at *; omega) | (simp at * <;> omega) | (simp_all <;> omega) | (simp_all; done)
      · first | omega | rfl | (intro hg; simp only [nrmT] at hg; omega) | (intro g1 g2; simp [g1, g2]; done) | (intro g1; simp at g1 ⊢; simp [g1]; done) | (simp only [nrmT] at *; omega) | (simp at * <;> omega) | (simp_all <;> omega) | (simp_all; done)
      · rfl
      · exact .inl rfl
    · first | omega | rfl | (intro hg; simp only [nrmT] at hg; omega) | (intro g1 g2; simp [g1, g2]; done) | (intro g1; simp at g1 ⊢; simp [g1]; done) | (simp only [nrmT] at *; omega) | (simp at * <;> omega) | (simp_all <;> omega) | (simp_all; done)
  · intro best i hJ
    obtain ⟨h1, h2, h3, h4⟩ := hJ
    refine ⟨?_, ?_⟩
    · intro b1
      try simp only [nrmT] at b1
      refine ⟨rfl, ?_, ?_, ?_, id, id, id, id, id, ?_, ?_, id, ?_, id, id, ?_, id, id, ?_, id, id, id, fun _ _ => rfl, ?_, rfl, id, fun _ => rfl, ?_, ?_⟩
      · first | omega | rfl | (intro hg; simp only [nrmT] at hg; omega) | (intro g1 g2; simp [g1, g2]; done) | (intro g1; simp at g1 ⊢; simp [g1]; done) | (simp only [nrmT] at *; omega) | (simp at * <;> omega) | (simp_all <;> omega) | (simp_all; done)
      · first | omega | rfl | (intro hg; simp only [nrmT] at hg; omega) | (intro g1 g2; simp [g1, g2]; done) | (intro g1; simp at g1 ⊢; simp [g1]; done) | (simp only [nrmT] at *; omega) | (simp at * <;> omega) | (simp_all <;> omega) | (simp_all; done)
      · first | omega | rfl | (intro hg; simp only [nrmT] at hg; omega) | (intro g1 g2; simp [g1, g2]; done) | (intro g1; simp at g1 ⊢; simp [g1]; done) | (simp only [nrmT] at *; omega) | (simp at * <;> omega) | (simp_all <;> omega) | (simp_all; done)
      · intro _; omega
      · intro _; omega
      · intro _; omega
      · intro hg
        refine s_l2Serve_pc Open Dist ((setsL (Open.length : Int).toNat).getD i.toNat []) ?_
        · exact (set_two (by assumption) (getD_memI (d := []) h1 (by omega : i < ((setsL (Open.length : Int).toNat).length : Int)))).1
      · intro hg
        refine s_l2Serve_pc Open Dist best ?_
        · rcases h4 with h5 | h5
          · exfalso
            rw [h5] at hg
            simp at hg
          · exact (set_two (by assumption) h5).1
      · intro q1 q2; rw [q1, q2]; rfl
      · intro b2
        refine ⟨?_, ?_, ?_, ?_, ?_⟩
        · first | omega | rfl | (intro hg; simp only [nrmT] at hg; omega) | (intro g1 g2; simp [g1, g2]; done) | (intro g1; simp at g1 ⊢; simp [g1]; done) | (simp only [nrmT] at *; omega) | (simp at * <;> omega) | (simp_all <;> omega) | (simp_all; done)
        · first | omega | rfl | (intro hg; simp only [nrmT] at hg; omega) | (intro g1 g2; simp [g1, g2]; done) | (intro g1; simp at g1 ⊢; simp [g1]; done) | (simp only [nrmT] at *; omega) | (simp at * <;> omega) | (simp_all <;> omega) | (simp_all; done)
        · first | omega | rfl | (intro hg; simp only [nrmT] at hg; omega) | (intro g1 g2; simp [g1, g2]; done) | (intro g1; simp at g1 ⊢; simp [g1]; done) | (simp only [nrmT] at *; omega) | (simp at * <;> omega) | (simp_all <;> omega) | (simp_all; done)
        · first | omega | rfl | (intro hg; simp only [nrmT] at hg; omega) | (intro g1 g2; simp [g1, g2]; done) | (intro g1; simp at g1 ⊢; simp [g1]; done) | (simp only [nrmT] at *; omega) | (simp at * <;> omega) | (simp_all <;> omega) | (simp_all; done)
        · refine ⟨((setsL (Open.length : Int).toNat).getD i.toNat []), (i + 1), ?_⟩
          refine ⟨?_, ?_, rfl, rfl, rfl, rfl, rfl, rfl⟩
          · refine ⟨?_, ?_, ?_, ?_⟩
            · first | omega | rfl | (intro hg; simp only [nrmT] at hg; omega) | (intro g1 g2; simp [g1, g2]; done) | (intro g1; simp at g1 ⊢; simp [g1]; done) | (simp only [nrmT] at *; omega) | (simp at * <;> omega) | (simp_all <;> omega) | (simp_all; done)
            · first | omega | rfl | (intro hg; simp only [nrmT] at hg; omega) | (intro g1 g2; simp [g1, g2]; done) | (intro g1; simp at g1 ⊢; simp [g1]; done) | (simp only [nrmT] at *; omega) | (simp at * <;> omega) | (simp_all <;> omega) | (simp_all; done)
            · rw [fold_snoc (d := []) h1 (by omega), ← h3]; unfold bsB; rw [if_pos b2]
            · exact .inr (getD_memI (d := []) h1 (by omega : i < ((setsL (Open.length : Int).toNat).length : Int)))
          · first | (show _ < _; omega) | (simp only [s_l4Best_mJ0]; omega) | (simp only [s_l4Best_mJ0] at *; simp at *; omega)
      · intro b3
        refine ⟨?_, ?_⟩
        · first | omega | rfl | (intro hg; simp only [nrmT] at hg; omega) | (intro g1 g2; simp [g1, g2]; done) | (intro g1; simp at g1 ⊢; simp [g1]; done) | (simp only [nrmT] at *; omega) | (simp at * <;> omega) | (simp_all <;> omega) | (simp_all; done)
        · refine ⟨best, (i + 1), ?_⟩
          refine ⟨?_, ?_, rfl, rfl, rfl, rfl, rfl, rfl⟩
          · refine ⟨?_, ?_, ?_, ?_⟩
            · first | omega | rfl | (intro hg; simp only [nrmT] at hg; omega) | (intro g1 g2; simp [g1, g2]; done) | (intro g1; simp at g1 ⊢; simp [g1]; done) | (simp only [nrmT] at *; omega) | (simp at * <;> omega) | (simp_all <;> omega) | (simp_all; done)
            · first | omega | rfl | (intro hg; simp only [nrmT] at hg; omega) | (intro g1 g2; simp [g1, g2]; done) | (intro g1; simp at g1 ⊢; simp [g1]; done) | (simp only [nrmT] at *; omega) | (simp at * <;> omega) | (simp_all <;> omega) | (simp_all; done)
            · rw [fold_snoc (d := []) h1 (by omega), ← h3]; unfold bsB; rw [if_neg (by rw [b3]; simp)]
            · exact h4
          · first | (show _ < _; omega) | (simp only [s_l4Best_mJ0]; omega) | (simp only [s_l4Best_mJ0] at *; simp at *; omega)
    · intro b4
      try simp only [nrmT] at b4
      rw [h3, take_all (by omega)]
      exact bestL_eq hk.1 _
theorem s_l4Best_pc (Open : List Int) (Dist : List (List Int)) (k : Int) (hg : goodField Open Dist = true) (hk : 1 ≤ k ∧ k ≤ (Open.length : Int)) : PC Try.prog 94 [.agg [.sl (.ints Open), .sl (.rows Dist)], .int .i64 k] (.one (.d (.sl (.ints (medS Open Dist k))))) :=
  pc_wf @Try.call94 fun hw => pc_by (by kernel_rfl) Try.func94 @Try.call94 (by kernel_rfl) s_l4Best_C (s_l4Best_A Open Dist k) (by kernel_rfl) (s_l4Best_vc Open Dist k hg hk hw.1.1 hw.1.2.1.1 hw.1.2.1.2) (by kernel_rfl)
def s_l4Best_orc : List D → Orc := orcN [none, none] fun ds => match ds with
  | [.agg [.sl (.ints Open), .sl (.rows Dist)], .int .i64 k] => some (.one (.d (.sl (.ints (medS Open Dist k)))))
  | _ => none
def valsL (Open : List Int) (Dist : List (List Int)) (n : Nat) : List Int := tabTo (fun j => servOf Dist (medS Open Dist ((j : Int) + 1))) n
theorem valsL_len (Open : List Int) (Dist : List (List Int)) (n : Nat) : (valsL Open Dist n).length = n := tabTo_len _ _
theorem medS_two {Open : List Int} {Dist : List (List Int)} (hg : goodField Open Dist = true) {k : Int} (hk : 1 ≤ k ∧ k ≤ (Open.length : Int)) : (goodField Open Dist && rising (medS Open Dist k) 0 ((Open.length : Int) - 1) && decide (0 < (medS Open Dist k).length)) = true := (set_two hg (medS_in hk)).1
def stepsL (Open : List Int) (Dist : List (List Int)) : List Int := if goodField Open Dist = true then valsL Open Dist Open.length else []
theorem stepsL_len {Open : List Int} {Dist : List (List Int)} : (stepsL Open Dist).length ≤ 7 := by
  unfold stepsL
  split
  · rename_i h
    have := gf_open h
    rw [valsL_len]; omega
  · simp
abbrev i_Field_values_JJ0 (Open : List Int) (Dist : List (List Int)) (out : List Int) (i : Int) : Prop := (0 ≤ i) ∧ (i ≤ (Open.length : Int)) ∧ (out = valsL Open Dist i.toNat)
abbrev i_Field_values_mJ0 (Open : List Int) (Dist : List (List Int)) (out : List Int) (i : Int) : Nat := (Open.length - i).toNat
def i_Field_values_C (f : FuncId) (ds : List D) : Orc := bif Nat.beq f 97 then i_Field_median_orc ds else bif Nat.beq f 96 then i_Field_service_orc ds else .no
def i_Field_values_A (Open : List Int) (Dist : List (List Int)) : Ann := .two (.none) (.two (.none) (.two (.two (.none) (.loop (cut2 (fun (out : List Int) (i : Int) => i_Field_values_JJ0 Open Dist out i) (fun (out : List Int) (i : Int) => [(1, .ptr 1 0), (3, .own 1000000 out.length), (8, .d true (.int .i64 (Open.length : Int))), (9, .d true (.int .i64 i))]) (fun (out : List Int) (i : Int) => [(1000000, .arr true 3 (.ints out)), (1, .box 37 [.d false (.sl (.ints Open)), .d false (.sl (.rows Dist))])])) (fun g => i_Field_values_mJ0 Open Dist g.1 g.2) (fun _ => .none))) (.none)))
def i_Field_values_P (Open : List Int) (Dist : List (List Int)) : Prop :=
  ((∃ out' : List Int, ∃ i' : Int, (i_Field_values_JJ0 Open Dist out' i') ∧ ((0 : Nat) = out'.length) ∧ ((Open.length : Int) = (Open.length : Int)) ∧ ((0 : Int) = i') ∧ ([] = out') ∧ (Open = Open) ∧ (Dist = Dist)) ∧ (∀ out : List Int, ∀ i : Int, (i_Field_values_JJ0 Open Dist out i) → (((decide (i < (Open.length : Int))) = true → (true = true) ∧ (-9223372036854775808 ≤ (i + 1) ∧ (i + 1) ≤ 9223372036854775807) ∧ (PC Try.prog 97 [.agg [.sl (.ints Open), .sl (.rows Dist)], .int .i64 (i + 1)] (.one (.d (.sl (.ints (medS Open Dist (i + 1))))))) ∧ (PC Try.prog 96 [.agg [.sl (.ints Open), .sl (.rows Dist)], .sl (.ints (medS Open Dist (i + 1)))] (.one (.d (.int .i64 (servOf Dist (medS Open Dist (i + 1))))))) ∧ (out.length = out.length) ∧ ((1 : Nat) = 1) ∧ ((out.length + 1) * 8 ≤ 140737488355328) ∧ (-9223372036854775808 ≤ (i + 1) ∧ (i + 1) ≤ 9223372036854775807) ∧ (∃ out' : List Int, ∃ i' : Int, (i_Field_values_JJ0 Open Dist out' i') ∧ (i_Field_values_mJ0 Open Dist out' i' < i_Field_values_mJ0 Open Dist out i) ∧ ((out.length + 1) = out'.length) ∧ ((Open.length : Int) = (Open.length : Int)) ∧ ((i + 1) = i') ∧ ((out ++ [(servOf Dist (medS Open Dist (i + 1)))]) = out') ∧ (Open = Open) ∧ (Dist = Dist))) ∧ ((decide (i < (Open.length : Int))) = false → ((out.length = out.length) ∧ ((out : List Int) = valsL Open Dist Open.length))))))
theorem i_Field_values_vc (Open : List Int) (Dist : List (List Int)) (hg : goodField Open Dist = true) (w_Open : (Open.length : Int) ≤ 9223372036854775807) (w_Dist : (Dist.length : Int) ≤ 9223372036854775807) (v_Dist : ∀ x9 ∈ Dist, (x9.length : Int) ≤ 9223372036854775807) : i_Field_values_P Open Dist := by
  unfold i_Field_values_P
  obtain ⟨g1, g2, g3⟩ := gf_open hg
  refine ⟨?_, ?_⟩
  · refine ⟨([]), 0, ?_⟩
    refine ⟨?_, rfl, rfl, rfl, ?_, rfl, rfl⟩
    · refine ⟨?_, ?_, ?_⟩
      · first | omega | rfl | (intro hg; simp only [nrmT] at hg; omega) | (intro g1 g2; simp [g1, g2]; done) | (intro g1; simp at g1 ⊢; simp [g1]; done) | (simp only [nrmT] at *; omega) | (simp at * <;> omega) | (simp_all <;> omega) | (simp_all; done)
      · first | omega | rfl | (intro hg; simp only [nrmT] at hg; omega) | (intro g1 g2; simp [g1, g2]; done) | (intro g1; simp at g1 ⊢; simp [g1]; done) | (simp only [nrmT] at *; omega) | (simp at * <;> omega) | (simp_all <;> omega) | (simp_all; done)
      · first | omega | rfl | (intro hg; simp only [nrmT] at hg; omega) | (intro g1 g2; simp [g1, g2]; done) | (intro g1; simp at g1 ⊢; simp [g1]; done) | (simp only [nrmT] at *; omega) | (simp at * <;> omega) | (simp_all <;> omega) | (simp_all; done)
    · first | omega | rfl | (intro hg; simp only [nrmT] at hg; omega) | (intro g1 g2; simp [g1, g2]; done) | (intro g1; simp at g1 ⊢; simp [g1]; done) | (simp only [nrmT] at *; omega) | (simp at * <;> omega) | (simp_all <;> omega) | (simp_all; done)
  · intro out i hJ
    obtain ⟨h1, h2, h3⟩ := hJ
    refine ⟨?_, ?_⟩
    · intro b1
      try simp only [nrmT] at b1
      refine ⟨rfl, ?_, ?_, ?_, rfl, rfl, ?_, ?_, ?_⟩
      · first | omega | rfl | (intro hg; simp only [nrmT] at hg; omega) | (intro g1 g2; simp [g1, g2]; done) | (intro g1; simp at g1 ⊢; simp [g1]; done) | (simp only [nrmT] at *; omega) | (simp at * <;> omega) | (simp_all <;> omega) | (simp_all; done)
      · refine i_Field_median_pc Open Dist (i + 1) ?_ ?_
        · first | omega | rfl | (intro hg; simp only [nrmT] at hg; omega) | (intro g1 g2; simp [g1, g2]; done) | (intro g1; simp at g1 ⊢; simp [g1]; done) | (simp only [nrmT] at *; omega) | (simp at * <;> omega) | (simp_all <;> omega) | (simp_all; done)
        · omega
      · refine i_Field_service_pc Open Dist (medS Open Dist (i + 1)) ?_
        · exact medS_two hg (by omega)
      · rw [h3, valsL_len]; omega
      · first | omega | rfl | (intro hg; simp only [nrmT] at hg; omega) | (intro g1 g2; simp [g1, g2]; done) | (intro g1; simp at g1 ⊢; simp [g1]; done) | (simp only [nrmT] at *; omega) | (simp at * <;> omega) | (simp_all <;> omega) | (simp_all; done)
      · refine ⟨(out ++ [(servOf Dist (medS Open Dist (i + 1)))]), (i + 1), ?_⟩
        refine ⟨?_, ?_, ?_, rfl, rfl, rfl, rfl, rfl⟩
        · refine ⟨?_, ?_, ?_⟩
          · first | omega | rfl | (intro hg; simp only [nrmT] at hg; omega) | (intro g1 g2; simp [g1, g2]; done) | (intro g1; simp at g1 ⊢; simp [g1]; done) | (simp only [nrmT] at *; omega) | (simp at * <;> omega) | (simp_all <;> omega) | (simp_all; done)
          · first | omega | rfl | (intro hg; simp only [nrmT] at hg; omega) | (intro g1 g2; simp [g1, g2]; done) | (intro g1; simp at g1 ⊢; simp [g1]; done) | (simp only [nrmT] at *; omega) | (simp at * <;> omega) | (simp_all <;> omega) | (simp_all; done)
          · rw [h3, show (i + 1).toNat = i.toNat + 1 by omega]
            unfold valsL
            rw [tabTo_succ, show ((i.toNat : Nat) : Int) + 1 = i + 1 by omega]
        · first | (show _ < _; omega) | (simp only [i_Field_values_mJ0]; omega) | (simp only [i_Field_values_mJ0] at *; simp at *; omega)
        · first | omega | rfl | (intro hg; simp only [nrmT] at hg; omega) | (intro g1 g2; simp [g1, g2]; done) | (intro g1; simp at g1 ⊢; simp [g1]; done) | (simp only [nrmT] at *; omega) | (simp at * <;> omega) | (simp_all <;> omega) | (simp_all; done)
    · intro b2
      try simp only [nrmT] at b2
      refine ⟨rfl, ?_⟩
      · rw [h3, show i.toNat = Open.length by omega]
theorem i_Field_values_pc (Open : List Int) (Dist : List (List Int)) (hg : goodField Open Dist = true) : PC Try.prog 106 [.agg [.sl (.ints Open), .sl (.rows Dist)]] (.one (.own 3 (.ints (valsL Open Dist Open.length)))) :=
  pc_wf @Try.call106 fun hw => pc_by (by kernel_rfl) Try.func106 @Try.call106 (by kernel_rfl) i_Field_values_C (i_Field_values_A Open Dist) (by kernel_rfl) (i_Field_values_vc Open Dist hg hw.1.1 hw.1.2.1.1 hw.1.2.1.2) (by kernel_rfl)
def i_Field_values_orc : List D → Orc := orcN [none] fun ds => match ds with
  | [.agg [.sl (.ints Open), .sl (.rows Dist)]] => some (.one (.own 3 (.ints (valsL Open Dist Open.length))))
  | _ => none
abbrev s_l4Values_JJ0 (Open : List Int) (Dist : List (List Int)) (out : List Int) (k : Int) : Prop := (1 ≤ k) ∧ (k ≤ (Open.length : Int) + 1) ∧ (out = valsL Open Dist (k.toNat - 1))
abbrev s_l4Values_mJ0 (Open : List Int) (Dist : List (List Int)) (out : List Int) (k : Int) : Nat := (Open.length + 1 - k).toNat
def s_l4Values_C (f : FuncId) (ds : List D) : Orc := bif Nat.beq f 94 then s_l4Best_orc ds else bif Nat.beq f 93 then s_l2Serve_orc ds else .no
def s_l4Values_A (Open : List Int) (Dist : List (List Int)) : Ann := .two (.none) (.two (.none) (.two (.two (.none) (.loop (cut2 (fun (out : List Int) (k : Int) => s_l4Values_JJ0 Open Dist out k) (fun (out : List Int) (k : Int) => [(1, .ptr 1 0), (3, .own 1000000 out.length), (4, .d true (.int .i64 k))]) (fun (out : List Int) (k : Int) => [(1000000, .arr true 3 (.ints out)), (1, .box 37 [.d false (.sl (.ints Open)), .d false (.sl (.rows Dist))])])) (fun g => s_l4Values_mJ0 Open Dist g.1 g.2) (fun _ => .none))) (.none)))
def s_l4Values_P (Open : List Int) (Dist : List (List Int)) : Prop :=
  ((∃ out' : List Int, ∃ k' : Int, (s_l4Values_JJ0 Open Dist out' k') ∧ ((0 : Nat) = out'.length) ∧ ((1 : Int) = k') ∧ ([] = out') ∧ (Open = Open) ∧ (Dist = Dist)) ∧ (∀ out : List Int, ∀ k : Int, (s_l4Values_JJ0 Open Dist out k) → (((decide (k ≤ (Open.length : Int))) = true → (true = true) ∧ (PC Try.prog 94 [.agg [.sl (.ints Open), .sl (.rows Dist)], .int .i64 k] (.one (.d (.sl (.ints (medS Open Dist k)))))) ∧ (PC Try.prog 93 [.agg [.sl (.ints Open), .sl (.rows Dist)], .sl (.ints (medS Open Dist k))] (.one (.d (.int .i64 (servOf Dist (medS Open Dist k)))))) ∧ (out.length = out.length) ∧ ((1 : Nat) = 1) ∧ ((out.length + 1) * 8 ≤ 140737488355328) ∧ (-9223372036854775808 ≤ (k + 1) ∧ (k + 1) ≤ 9223372036854775807) ∧ (∃ out' : List Int, ∃ k' : Int, (s_l4Values_JJ0 Open Dist out' k') ∧ (s_l4Values_mJ0 Open Dist out' k' < s_l4Values_mJ0 Open Dist out k) ∧ ((out.length + 1) = out'.length) ∧ ((k + 1) = k') ∧ ((out ++ [(servOf Dist (medS Open Dist k))]) = out') ∧ (Open = Open) ∧ (Dist = Dist))) ∧ ((decide (k ≤ (Open.length : Int))) = false → ((out.length = out.length) ∧ ((out : List Int) = valsL Open Dist Open.length))))))
theorem s_l4Values_vc (Open : List Int) (Dist : List (List Int)) (hg : goodField Open Dist = true) (w_Open : (Open.length : Int) ≤ 9223372036854775807) (w_Dist : (Dist.length : Int) ≤ 9223372036854775807) (v_Dist : ∀ x9 ∈ Dist, (x9.length : Int) ≤ 9223372036854775807) : s_l4Values_P Open Dist := by
  unfold s_l4Values_P
  obtain ⟨g1, g2, g3⟩ := gf_open hg
  refine ⟨?_, ?_⟩
  · refine ⟨([]), 1, ?_⟩
    refine ⟨?_, rfl, rfl, ?_, rfl, rfl⟩
    · refine ⟨?_, ?_, ?_⟩
      · first | omega | rfl | (intro hg; simp only [nrmT] at hg; omega) | (intro g1 g2; simp [g1, g2]; done) | (intro g1; simp at g1 ⊢; simp [g1]; done) | (simp only [nrmT] at *; omega) | (simp at * <;> omega) | (simp_all <;> omega) | (simp_all; done)
      · first | omega | rfl | (intro hg; simp only [nrmT] at hg; omega) | (intro g1 g2; simp [g1, g2]; done) | (intro g1; simp at g1 ⊢; simp [g1]; done) | (simp only [nrmT] at *; omega) | (simp at * <;> omega) | (simp_all <;> omega) | (simp_all; done)
      · rfl
    · first | omega | rfl | (intro hg; simp only [nrmT] at hg; omega) | (intro g1 g2; simp [g1, g2]; done) | (intro g1; simp at g1 ⊢; simp [g1]; done) | (simp only [nrmT] at *; omega) | (simp at * <;> omega) | (simp_all <;> omega) | (simp_all; done)
  · intro out k hJ
    obtain ⟨h1, h2, h3⟩ := hJ
    refine ⟨?_, ?_⟩
    · intro b1
      try simp only [nrmT] at b1
      refine ⟨rfl, ?_, ?_, rfl, rfl, ?_, ?_, ?_⟩
      · refine s_l4Best_pc Open Dist k ?_ ?_
        · first | omega | rfl | (intro hg; simp only [nrmT] at hg; omega) | (intro g1 g2; simp [g1, g2]; done) | (intro g1; simp at g1 ⊢; simp [g1]; done) | (simp only [nrmT] at *; omega) | (simp at * <;> omega) | (simp_all <;> omega) | (simp_all; done)
        · omega
      · refine s_l2Serve_pc Open Dist (medS Open Dist k) ?_
        · exact medS_two hg (by omega)
      · rw [h3, valsL_len]; omega
      · first | omega | rfl | (intro hg; simp only [nrmT] at hg; omega) | (intro g1 g2; simp [g1, g2]; done) | (intro g1; simp at g1 ⊢; simp [g1]; done) | (simp only [nrmT] at *; omega) | (simp at * <;> omega) | (simp_all <;> omega) | (simp_all; done)
      · refine ⟨(out ++ [(servOf Dist (medS Open Dist k))]), (k + 1), ?_⟩
        refine ⟨?_, ?_, ?_, rfl, rfl, rfl, rfl⟩
        · refine ⟨?_, ?_, ?_⟩
          · first | omega | rfl | (intro hg; simp only [nrmT] at hg; omega) | (intro g1 g2; simp [g1, g2]; done) | (intro g1; simp at g1 ⊢; simp [g1]; done) | (simp only [nrmT] at *; omega) | (simp at * <;> omega) | (simp_all <;> omega) | (simp_all; done)
          · first | omega | rfl | (intro hg; simp only [nrmT] at hg; omega) | (intro g1 g2; simp [g1, g2]; done) | (intro g1; simp at g1 ⊢; simp [g1]; done) | (simp only [nrmT] at *; omega) | (simp at * <;> omega) | (simp_all <;> omega) | (simp_all; done)
          · rw [h3, show (k + 1).toNat - 1 = (k.toNat - 1) + 1 by omega]
            unfold valsL
            rw [tabTo_succ, show ((k.toNat - 1 : Nat) : Int) + 1 = k by omega]
        · first | (show _ < _; omega) | (simp only [s_l4Values_mJ0]; omega) | (simp only [s_l4Values_mJ0] at *; simp at *; omega)
        · first | omega | rfl | (intro hg; simp only [nrmT] at hg; omega) | (intro g1 g2; simp [g1, g2]; done) | (intro g1; simp at g1 ⊢; simp [g1]; done) | (simp only [nrmT] at *; omega) | (simp at * <;> omega) | (simp_all <;> omega) | (simp_all; done)
    · intro b2
      try simp only [nrmT] at b2
      refine ⟨rfl, ?_⟩
      · rw [h3, show k.toNat - 1 = Open.length by omega]
theorem s_l4Values_pc (Open : List Int) (Dist : List (List Int)) (hg : goodField Open Dist = true) : PC Try.prog 115 [.agg [.sl (.ints Open), .sl (.rows Dist)]] (.one (.own 3 (.ints (valsL Open Dist Open.length)))) :=
  pc_wf @Try.call115 fun hw => pc_by (by kernel_rfl) Try.func115 @Try.call115 (by kernel_rfl) s_l4Values_C (s_l4Values_A Open Dist) (by kernel_rfl) (s_l4Values_vc Open Dist hg hw.1.1 hw.1.2.1.1 hw.1.2.1.2) (by kernel_rfl)
def s_l4Values_orc : List D → Orc := orcN [none] fun ds => match ds with
  | [.agg [.sl (.ints Open), .sl (.rows Dist)]] => some (.one (.own 3 (.ints (valsL Open Dist Open.length))))
  | _ => none
def s_MedianSteps_C (f : FuncId) (ds : List D) : Orc := bif Nat.beq f 77 then s_l2Good_orc ds else bif Nat.beq f 115 then s_l4Values_orc ds else .no
def s_MedianSteps_A (Open : List Int) (Dist : List (List Int)) : Ann := .none
def s_MedianSteps_P (Open : List Int) (Dist : List (List Int)) : Prop :=
  (PC Try.prog 77 [.agg [.sl (.ints Open), .sl (.rows Dist)]] (.one (.d (.bool (goodField Open Dist))))) ∧ (((!(goodField Open Dist)) = true → (((0 : Nat) = 0) ∧ (([] : List Int) = stepsL Open Dist) ∧ (false = (goodField Open Dist)))) ∧ ((!(goodField Open Dist)) = false → (PC Try.prog 115 [.agg [.sl (.ints Open), .sl (.rows Dist)]] (.one (.own 3 (.ints (valsL Open Dist Open.length))))) ∧ (((valsL Open Dist Open.length).length = (valsL Open Dist Open.length).length) ∧ ((valsL Open Dist Open.length : List Int) = stepsL Open Dist) ∧ (true = (goodField Open Dist)))))
theorem s_MedianSteps_vc (Open : List Int) (Dist : List (List Int))  (w_Open : (Open.length : Int) ≤ 9223372036854775807) (w_Dist : (Dist.length : Int) ≤ 9223372036854775807) (v_Dist : ∀ x9 ∈ Dist, (x9.length : Int) ≤ 9223372036854775807) : s_MedianSteps_P Open Dist := by
  unfold s_MedianSteps_P
  refine ⟨s_l2Good_pc Open Dist, ?_, ?_⟩
  · intro b1
    try simp only [nrmT] at b1
    refine ⟨rfl, ?_, ?_⟩
    · unfold stepsL; rw [b1]; rfl
    · exact b1.symm
  · intro b2
    try simp only [nrmT] at b2
    refine ⟨?_, rfl, ?_, ?_⟩
    · refine s_l4Values_pc Open Dist ?_
      · exact b2
    · unfold stepsL; rw [if_pos b2]
    · exact b2.symm
theorem s_MedianSteps_pc (Open : List Int) (Dist : List (List Int))  : PC Try.prog 54 [.agg [.sl (.ints Open), .sl (.rows Dist)]] (.tup [.own 3 (.ints (stepsL Open Dist)), .d (.bool (goodField Open Dist))]) :=
  pc_wf @Try.call54 fun hw => pc_by (by kernel_rfl) Try.func54 @Try.call54 (by kernel_rfl) s_MedianSteps_C (s_MedianSteps_A Open Dist) (by kernel_rfl) (s_MedianSteps_vc Open Dist hw.1.1 hw.1.2.1.1 hw.1.2.1.2) (by kernel_rfl)
def s_MedianSteps_orc : List D → Orc := orcN [none] fun ds => match ds with
  | [.agg [.sl (.ints Open), .sl (.rows Dist)]] => some (.tup [.own 3 (.ints (stepsL Open Dist)), .d (.bool (goodField Open Dist))])
  | _ => none
def i_MedianSteps_C (f : FuncId) (ds : List D) : Orc := bif Nat.beq f 81 then i_IsField_orc ds else bif Nat.beq f 106 then i_Field_values_orc ds else .no
def i_MedianSteps_A (Open : List Int) (Dist : List (List Int)) : Ann := .none
def i_MedianSteps_P (Open : List Int) (Dist : List (List Int)) : Prop :=
  (PC Try.prog 81 [.agg [.sl (.ints Open), .sl (.rows Dist)]] (.one (.d (.bool (goodField Open Dist))))) ∧ (((!(goodField Open Dist)) = true → (((stepsL Open Dist).length = 0) ∧ (false = (goodField Open Dist)))) ∧ ((!(goodField Open Dist)) = false → (PC Try.prog 106 [.agg [.sl (.ints Open), .sl (.rows Dist)]] (.one (.own 3 (.ints (valsL Open Dist Open.length))))) ∧ (((valsL Open Dist Open.length).length = (valsL Open Dist Open.length).length) ∧ ((valsL Open Dist Open.length : List Int) = stepsL Open Dist) ∧ (true = (goodField Open Dist)))))
theorem i_MedianSteps_vc (Open : List Int) (Dist : List (List Int))  (w_Open : (Open.length : Int) ≤ 9223372036854775807) (w_Dist : (Dist.length : Int) ≤ 9223372036854775807) (v_Dist : ∀ x9 ∈ Dist, (x9.length : Int) ≤ 9223372036854775807) : i_MedianSteps_P Open Dist := by
  unfold i_MedianSteps_P
  refine ⟨i_IsField_pc Open Dist, ?_, ?_⟩
  · intro b1
    try simp only [nrmT] at b1
    refine ⟨?_, ?_⟩
    · unfold stepsL; rw [b1]; rfl
    · exact b1.symm
  · intro b2
    try simp only [nrmT] at b2
    refine ⟨?_, rfl, ?_, ?_⟩
    · refine i_Field_values_pc Open Dist ?_
      · exact b2
    · unfold stepsL; rw [if_pos b2]
    · exact b2.symm
theorem i_MedianSteps_pc (Open : List Int) (Dist : List (List Int))  : PC Try.prog 55 [.agg [.sl (.ints Open), .sl (.rows Dist)]] (.tup [.own 3 (.ints (stepsL Open Dist)), .d (.bool (goodField Open Dist))]) :=
  pc_wf @Try.call55 fun hw => pc_by (by kernel_rfl) Try.func55 @Try.call55 (by kernel_rfl) i_MedianSteps_C (i_MedianSteps_A Open Dist) (by kernel_rfl) (i_MedianSteps_vc Open Dist hw.1.1 hw.1.2.1.1 hw.1.2.1.2) (by kernel_rfl)
def i_MedianSteps_orc : List D → Orc := orcN [none] fun ds => match ds with
  | [.agg [.sl (.ints Open), .sl (.rows Dist)]] => some (.tup [.own 3 (.ints (stepsL Open Dist)), .d (.bool (goodField Open Dist))])
  | _ => none
def l_FnExactMedianSteps_C (f : FuncId) (ds : List D) : Orc := bif Nat.beq f 27 then l_szField_orc ds else bif Nat.beq f 29 then l_toField_orc ds else bif Nat.beq f 54 then s_MedianSteps_orc ds else bif Nat.beq f 55 then i_MedianSteps_orc ds else bif Nat.beq f 24 then l_eqIntS_orc ds else bif Nat.beq f 32 then l_eqField_orc ds else bif Nat.beq f 26 then l_heldIntS_orc ds else .no
def l_FnExactMedianSteps_A (Open : List Int) (Dist : List (List Int)) : Ann := .two (.none) (.two (.none) (.two (.none) (.two (.none) (.two (.reg [(1, .g)]) (.two (.reg [(1, .g)]) (.two (.none) (.two (.none) (.two (.two (.reg [(2, .g)]) (.none)) (.two (.none) (.two (.mark [] 2 (.kill (1 + (Open.length : Int) + ((Dist.map List.length).sum : Int)))) (.two (.none) (.two (.none) (.two (.mark [] 2 (.wr (marks 1 (stepsL Open Dist).length) (1 + ((stepsL Open Dist).length : Int)))) (.two (.none) (.two (.none) (.two (.none) (.two (.none) (.two (.reg [(1, .g)]) (.none)))))))))))))))))))
def l_FnExactMedianSteps_P (Open : List Int) (Dist : List (List Int)) : Prop :=
  (PC Try.prog 27 [.agg [.sl (.ints Open), .sl (.rows Dist)], .int .i64 1048576] (.one (.d (.int .i64 (szField Open Dist 1048576))))) ∧ (((decide ((szField Open Dist 1048576) < 0)) = true → ((true = true))) ∧ ((decide ((szField Open Dist 1048576) < 0)) = false → (PC Try.prog 29 [.agg [.sl (.ints Open), .sl (.rows Dist)]] (.one (.d (.agg [.sl (.ints Open), .sl (.rows Dist)])))) ∧ (PC Try.prog 54 [.agg [.sl (.ints Open), .sl (.rows Dist)]] (.tup [.own 3 (.ints (stepsL Open Dist)), .d (.bool (goodField Open Dist))])) ∧ (PC Try.prog 29 [.agg [.sl (.ints Open), .sl (.rows Dist)]] (.one (.d (.agg [.sl (.ints Open), .sl (.rows Dist)])))) ∧ (PC Try.prog 55 [.agg [.sl (.ints Open), .sl (.rows Dist)]] (.tup [.own 3 (.ints (stepsL Open Dist)), .d (.bool (goodField Open Dist))])) ∧ ((stepsL Open Dist).length = (stepsL Open Dist).length) ∧ ((stepsL Open Dist).length = (stepsL Open Dist).length) ∧ (PC Try.prog 24 [.sl (.ints (stepsL Open Dist)), .sl (.ints (stepsL Open Dist))] (.one (.d (.bool ((stepsL Open Dist) == (stepsL Open Dist)))))) ∧ ((!(!((stepsL Open Dist) == (stepsL Open Dist)))) = true → (!(!((stepsL Open Dist) == (stepsL Open Dist)))) = true) ∧ ((!(!((stepsL Open Dist) == (stepsL Open Dist)))) = true → (!(!((stepsL Open Dist) == (stepsL Open Dist)))) = true) ∧ (true = true) ∧ (((!((stepsL Open Dist) == (stepsL Open Dist))) = true → true = true)) ∧ (((!((stepsL Open Dist) == (stepsL Open Dist))) = false → (!(!((stepsL Open Dist) == (stepsL Open Dist)))) = true)) ∧ (((cond (!((stepsL Open Dist) == (stepsL Open Dist))) true ((goodField Open Dist) != (goodField Open Dist))) = true → ((false = true))) ∧ ((cond (!((stepsL Open Dist) == (stepsL Open Dist))) true ((goodField Open Dist) != (goodField Open Dist))) = false → (true = true) ∧ (PC Try.prog 29 [.agg [.sl (.ints Open), .sl (.rows Dist)]] (.one (.d (.agg [.sl (.ints Open), .sl (.rows Dist)])))) ∧ (PC Try.prog 32 [.agg [.sl (.ints Open), .sl (.rows Dist)], .agg [.sl (.ints Open), .sl (.rows Dist)]] (.one (.d (.bool ((Open == Open) && (Dist == Dist)))))) ∧ (((!((Open == Open) && (Dist == Dist))) = true → ((false = true))) ∧ ((!((Open == Open) && (Dist == Dist))) = false → (PG Try.prog 33 [.agg [.ints Open.length, .rows (Dist.map List.length)], .int 1] (1 + (Open.length : Int) + ((Dist.map List.length).sum : Int))) ∧ ((!(decide ((1 + (Open.length : Int) + ((Dist.map List.length).sum : Int)) < 0))) = true → (!(decide ((1 + (Open.length : Int) + ((Dist.map List.length).sum : Int)) < 0))) = true) ∧ ((!(decide ((1 + (Open.length : Int) + ((Dist.map List.length).sum : Int)) < 0))) = true → (!(decide ((1 + (Open.length : Int) + ((Dist.map List.length).sum : Int)) < 0))) = true) ∧ (((!(decide ((1 + (Open.length : Int) + ((Dist.map List.length).sum : Int)) < 0))) = true → (stepsL Open Dist).length = (stepsL Open Dist).length)) ∧ (((!(decide ((1 + (Open.length : Int) + ((Dist.map List.length).sum : Int)) < 0))) = true → (stepsL Open Dist).length = (stepsL Open Dist).length)) ∧ ((!(decide ((1 + (Open.length : Int) + ((Dist.map List.length).sum : Int)) < 0))) = true → PC Try.prog 24 [.sl (.ints (stepsL Open Dist)), .sl (.ints (stepsL Open Dist))] (.one (.d (.bool ((stepsL Open Dist) == (stepsL Open Dist)))))) ∧ ((!(decide ((1 + (Open.length : Int) + ((Dist.map List.length).sum : Int)) < 0))) = true → (!(decide ((1 + (Open.length : Int) + ((Dist.map List.length).sum : Int)) < 0))) = true) ∧ (true = true) ∧ (((decide ((1 + (Open.length : Int) + ((Dist.map List.length).sum : Int)) < 0)) = true → true = true)) ∧ (((decide ((1 + (Open.length : Int) + ((Dist.map List.length).sum : Int)) < 0)) = false → (!(decide ((1 + (Open.length : Int) + ((Dist.map List.length).sum : Int)) < 0))) = true)) ∧ ((!(cond (decide ((1 + (Open.length : Int) + ((Dist.map List.length).sum : Int)) < 0)) true (!((stepsL Open Dist) == (stepsL Open Dist))))) = true → (!(cond (decide ((1 + (Open.length : Int) + ((Dist.map List.length).sum : Int)) < 0)) true (!((stepsL Open Dist) == (stepsL Open Dist))))) = true) ∧ ((!(cond (decide ((1 + (Open.length : Int) + ((Dist.map List.length).sum : Int)) < 0)) true (!((stepsL Open Dist) == (stepsL Open Dist))))) = true → (!(cond (decide ((1 + (Open.length : Int) + ((Dist.map List.length).sum : Int)) < 0)) true (!((stepsL Open Dist) == (stepsL Open Dist))))) = true) ∧ (true = true) ∧ (((cond (decide ((1 + (Open.length : Int) + ((Dist.map List.length).sum : Int)) < 0)) true (!((stepsL Open Dist) == (stepsL Open Dist)))) = true → true = true)) ∧ (((cond (decide ((1 + (Open.length : Int) + ((Dist.map List.length).sum : Int)) < 0)) true (!((stepsL Open Dist) == (stepsL Open Dist)))) = false → (!(cond (decide ((1 + (Open.length : Int) + ((Dist.map List.length).sum : Int)) < 0)) true (!((stepsL Open Dist) == (stepsL Open Dist))))) = true)) ∧ (((cond (cond (decide ((1 + (Open.length : Int) + ((Dist.map List.length).sum : Int)) < 0)) true (!((stepsL Open Dist) == (stepsL Open Dist)))) true ((goodField Open Dist) != (goodField Open Dist))) = true → ((false = true))) ∧ ((cond (cond (decide ((1 + (Open.length : Int) + ((Dist.map List.length).sum : Int)) < 0)) true (!((stepsL Open Dist) == (stepsL Open Dist)))) true ((goodField Open Dist) != (goodField Open Dist))) = false → ((stepsL Open Dist).length = (stepsL Open Dist).length) ∧ ((marks 1 (stepsL Open Dist).length).length = (stepsL Open Dist).length) ∧ (PW Try.prog 25 3 (stepsL Open Dist) (marks 1 (stepsL Open Dist).length) 1 (1 + ((stepsL Open Dist).length : Int))) ∧ ((stepsL Open Dist).length = (marks 1 (stepsL Open Dist).length).length) ∧ (PC Try.prog 26 [.sl (.ints (marks 1 (stepsL Open Dist).length)), .int .i64 1] (.one (.d (.int .i64 (1 + ((marks 1 (stepsL Open Dist).length).length : Int)))))) ∧ (((decide ((1 + ((marks 1 (stepsL Open Dist).length).length : Int)) < 0)) = true → ((false = true))) ∧ ((decide ((1 + ((marks 1 (stepsL Open Dist).length).length : Int)) < 0)) = false → ((((1 + ((marks 1 (stepsL Open Dist).length).length : Int)) != (1 + ((stepsL Open Dist).length : Int))) = true → ((false = true))) ∧ (((1 + ((marks 1 (stepsL Open Dist).length).length : Int)) != (1 + ((stepsL Open Dist).length : Int))) = false → (PC Try.prog 29 [.agg [.sl (.ints Open), .sl (.rows Dist)]] (.one (.d (.agg [.sl (.ints Open), .sl (.rows Dist)])))) ∧ (PC Try.prog 55 [.agg [.sl (.ints Open), .sl (.rows Dist)]] (.tup [.own 3 (.ints (stepsL Open Dist)), .d (.bool (goodField Open Dist))])) ∧ ((stepsL Open Dist).length = (stepsL Open Dist).length) ∧ ((stepsL Open Dist).length = (stepsL Open Dist).length) ∧ (PC Try.prog 24 [.sl (.ints (stepsL Open Dist)), .sl (.ints (stepsL Open Dist))] (.one (.d (.bool ((stepsL Open Dist) == (stepsL Open Dist)))))) ∧ ((!(!((stepsL Open Dist) == (stepsL Open Dist)))) = true → (!(!((stepsL Open Dist) == (stepsL Open Dist)))) = true) ∧ ((!(!((stepsL Open Dist) == (stepsL Open Dist)))) = true → (!(!((stepsL Open Dist) == (stepsL Open Dist)))) = true) ∧ (true = true) ∧ (((!((stepsL Open Dist) == (stepsL Open Dist))) = true → true = true)) ∧ (((!((stepsL Open Dist) == (stepsL Open Dist))) = false → (!(!((stepsL Open Dist) == (stepsL Open Dist)))) = true)) ∧ (((cond (!((stepsL Open Dist) == (stepsL Open Dist))) true ((goodField Open Dist) != (goodField Open Dist))) = true → ((false = true))) ∧ ((cond (!((stepsL Open Dist) == (stepsL Open Dist))) true ((goodField Open Dist) != (goodField Open Dist))) = false → ((stepsL Open Dist).length = (marks 1 (stepsL Open Dist).length).length) ∧ (PC Try.prog 26 [.sl (.ints (marks 1 (stepsL Open Dist).length)), .int .i64 1] (.one (.d (.int .i64 (1 + ((marks 1 (stepsL Open Dist).length).length : Int)))))) ∧ (((decide ((1 + ((marks 1 (stepsL Open Dist).length).length : Int)) < 0)) = true → ((false = true))) ∧ ((decide ((1 + ((marks 1 (stepsL Open Dist).length).length : Int)) < 0)) = false → ((((1 + ((marks 1 (stepsL Open Dist).length).length : Int)) != (1 + ((stepsL Open Dist).length : Int))) = true → ((false = true))) ∧ (((1 + ((marks 1 (stepsL Open Dist).length).length : Int)) != (1 + ((stepsL Open Dist).length : Int))) = false → ((true = true))))))))))))))))))))
theorem l_FnExactMedianSteps_vc (Open : List Int) (Dist : List (List Int))  (w_Open : (Open.length : Int) ≤ 9223372036854775807) (w_Dist : (Dist.length : Int) ≤ 9223372036854775807) (v_Dist : ∀ x9 ∈ Dist, (x9.length : Int) ≤ 9223372036854775807) : l_FnExactMedianSteps_P Open Dist := by
  unfold l_FnExactMedianSteps_P
  refine ⟨?_, ?_, ?_⟩
  · refine l_szField_pc Open Dist 1048576 ?_
    · first | omega | rfl | (intro hg; simp only [nrmT] at hg; omega) | (intro g1 g2; simp [g1, g2]; done) | (intro g1; simp at g1 ⊢; simp [g1]; done) | (simp only [nrmT] at *; omega) | (simp at * <;> omega) | (simp_all <;> omega) | (simp_all; done)
  · intro b1
    try simp only [nrmT] at b1
    exact rfl
  · intro b2
    try simp only [nrmT] at b2
    refine ⟨?_, s_MedianSteps_pc Open Dist, ?_, i_MedianSteps_pc Open Dist, rfl, rfl, l_eqIntS_pc (stepsL Open Dist) (stepsL Open Dist), id, id, rfl, fun _ => rfl, ?_, ?_, ?_⟩
    · refine l_toField_pc Open Dist ?_ ?_ ?_
      · have := szField_bound b2; omega
      · have := szField_bound b2; omega
      · have h := (szField_bound b2).2.2
        intro xs hx
        have h := h xs hx
        omega
    · refine l_toField_pc Open Dist ?_ ?_ ?_
      · have := szField_bound b2; omega
      · have := szField_bound b2; omega
      · have h := (szField_bound b2).2.2
        intro xs hx
        have h := h xs hx
        omega
    · intro h; rw [h]; rfl
    · intro b3
      first | (exfalso; simp only [marks_len] at b3; omega) | (simp at b3; done) | (exfalso; simp only [marks_len] at b3; simp at b3; done) | omega | rfl | (intro hg; simp only [nrmT] at hg; omega) | (intro g1 g2; simp [g1, g2]; done) | (intro g1; simp at g1 ⊢; simp [g1]; done) | (simp only [nrmT] at *; omega) | (simp at * <;> omega) | (simp_all <;> omega) | (simp_all; done)
    · intro b4
      refine ⟨rfl, ?_, l_eqField_pc Open Dist Open Dist, ?_, ?_⟩
      · refine l_toField_pc Open Dist ?_ ?_ ?_
        · have := szField_bound b2; omega
        · have := szField_bound b2; omega
        · have h := (szField_bound b2).2.2
          intro xs hx
          have h := h xs hx
          omega
      · intro b5
        try simp only [Bool.not_eq_true', Bool.not_eq_false', Bool.not_not] at b5
        first | (exfalso; simp only [marks_len] at b5; omega) | (simp at b5; done) | (exfalso; simp only [marks_len] at b5; simp at b5; done) | omega | rfl | (intro hg; simp only [nrmT] at hg; omega) | (intro g1 g2; simp [g1, g2]; done) | (intro g1; simp at g1 ⊢; simp [g1]; done) | (simp only [nrmT] at *; omega) | (simp at * <;> omega) | (simp_all <;> omega) | (simp_all; done)
      · intro b6
        try simp only [Bool.not_eq_true', Bool.not_eq_false', Bool.not_not] at b6
        refine ⟨?_, id, id, fun _ => rfl, fun _ => rfl, fun _ => l_eqIntS_pc (stepsL Open Dist) (stepsL Open Dist), id, rfl, fun _ => rfl, ?_, id, id, rfl, fun _ => rfl, ?_, ?_, ?_⟩
        · refine laws_markField_g_pg Open.length (Dist.map List.length) 1 ?_ ?_ ?_
          · first | omega | rfl | (intro hg; simp only [nrmT] at hg; omega) | (intro g1 g2; simp [g1, g2]; done) | (intro g1; simp at g1 ⊢; simp [g1]; done) | (simp only [nrmT] at *; omega) | (simp at * <;> omega) | (simp_all <;> omega) | (simp_all; done)
          · rw [List.length_map]; have hz := szField_bound b2; omega
          · have hz := szField_bound b2
            have hs := sum_lens20 (xss := Dist) (by omega) (fun xs hx => by have := hz.2.2 xs hx; omega)
            omega
        · first | omega | rfl | (intro hg; simp only [nrmT] at hg; omega) | (intro g1 g2; simp [g1, g2]; done) | (intro g1; simp at g1 ⊢; simp [g1]; done) | (simp only [nrmT] at *; omega) | (simp at * <;> omega) | (simp_all <;> omega) | (simp_all; done)
        · intro h; rw [h]; rfl
        · intro b7
          first | (exfalso; simp only [marks_len] at b7; omega) | (simp at b7; done) | (exfalso; simp only [marks_len] at b7; simp at b7; done) | omega | rfl | (intro hg; simp only [nrmT] at hg; omega) | (intro g1 g2; simp [g1, g2]; done) | (intro g1; simp at g1 ⊢; simp [g1]; done) | (simp only [nrmT] at *; omega) | (simp at * <;> omega) | (simp_all <;> omega) | (simp_all; done)
        · intro b8
          refine ⟨rfl, marks_len _ _, ?_, ?_, ?_, ?_, ?_⟩
          · refine laws_markIntS_w_pw (stepsL Open Dist) 1 ?_ ?_
            · first | omega | rfl | (intro hg; simp only [nrmT] at hg; omega) | (intro g1 g2; simp [g1, g2]; done) | (intro g1; simp at g1 ⊢; simp [g1]; done) | (simp only [nrmT] at *; omega) | (simp at * <;> omega) | (simp_all <;> omega) | (simp_all; done)
            · have := @stepsL_len Open Dist
              omega
          · simp only [marks_len]
          · refine l_heldIntS_pc (marks 1 (stepsL Open Dist).length) 1 ?_ ?_ ?_
            · first | omega | rfl | (intro hg; simp only [nrmT] at hg; omega) | (intro g1 g2; simp [g1, g2]; done) | (intro g1; simp at g1 ⊢; simp [g1]; done) | (simp only [nrmT] at *; omega) | (simp at * <;> omega) | (simp_all <;> omega) | (simp_all; done)
            · simp only [marks_len]
            · simp only [marks_len]
              have := @stepsL_len Open Dist
              omega
          · intro b9
            try simp only [nrmT] at b9
            first | (exfalso; simp only [marks_len] at b9; omega) | (simp at b9; done) | (exfalso; simp only [marks_len] at b9; simp at b9; done) | omega | rfl | (intro hg; simp only [nrmT] at hg; omega) | (intro g1 g2; simp [g1, g2]; done) | (intro g1; simp at g1 ⊢; simp [g1]; done) | (simp only [nrmT] at *; omega) | (simp at * <;> omega) | (simp_all <;> omega) | (simp_all; done)
          · intro b10
            try simp only [nrmT] at b10
            refine ⟨?_, ?_⟩
            · intro b11
              try simp only [nrmT] at b11
              first | (exfalso; simp only [marks_len] at b11; omega) | (simp at b11; done) | (exfalso; simp only [marks_len] at b11; simp at b11; done) | omega | rfl | (intro hg; simp only [nrmT] at hg; omega) | (intro g1 g2; simp [g1, g2]; done) | (intro g1; simp at g1 ⊢; simp [g1]; done) | (simp only [nrmT] at *; omega) | (simp at * <;> omega) | (simp_all <;> omega) | (simp_all; done)
            · intro b12
              try simp only [nrmT] at b12
              refine ⟨?_, i_MedianSteps_pc Open Dist, rfl, rfl, l_eqIntS_pc (stepsL Open Dist) (stepsL Open Dist), id, id, rfl, fun _ => rfl, ?_, ?_, ?_⟩
              · refine l_toField_pc Open Dist ?_ ?_ ?_
                · have := szField_bound b2; omega
                · have := szField_bound b2; omega
                · have h := (szField_bound b2).2.2
                  intro xs hx
                  have h := h xs hx
                  omega
              · intro h; rw [h]; rfl
              · intro b13
                first | (exfalso; simp only [marks_len] at b13; omega) | (simp at b13; done) | (exfalso; simp only [marks_len] at b13; simp at b13; done) | omega | rfl | (intro hg; simp only [nrmT] at hg; omega) | (intro g1 g2; simp [g1, g2]; done) | (intro g1; simp at g1 ⊢; simp [g1]; done) | (simp only [nrmT] at *; omega) | (simp at * <;> omega) | (simp_all <;> omega) | (simp_all; done)
              · intro b14
                refine ⟨?_, ?_, ?_, ?_⟩
                · simp only [marks_len]
                · refine l_heldIntS_pc (marks 1 (stepsL Open Dist).length) 1 ?_ ?_ ?_
                  · first | omega | rfl | (intro hg; simp only [nrmT] at hg; omega) | (intro g1 g2; simp [g1, g2]; done) | (intro g1; simp at g1 ⊢; simp [g1]; done) | (simp only [nrmT] at *; omega) | (simp at * <;> omega) | (simp_all <;> omega) | (simp_all; done)
                  · simp only [marks_len]
                  · simp only [marks_len]
                    have := @stepsL_len Open Dist
                    omega
                · intro b15
                  try simp only [nrmT] at b15
                  first | (exfalso; simp only [marks_len] at b15; omega) | (simp at b15; done) | (exfalso; simp only [marks_len] at b15; simp at b15; done) | omega | rfl | (intro hg; simp only [nrmT] at hg; omega) | (intro g1 g2; simp [g1, g2]; done) | (intro g1; simp at g1 ⊢; simp [g1]; done) | (simp only [nrmT] at *; omega) | (simp at * <;> omega) | (simp_all <;> omega) | (simp_all; done)
                · intro b16
                  try simp only [nrmT] at b16
                  refine ⟨?_, ?_⟩
                  · intro b17
                    try simp only [nrmT] at b17
                    first | (exfalso; simp only [marks_len] at b17; omega) | (simp at b17; done) | (exfalso; simp only [marks_len] at b17; simp at b17; done) | omega | rfl | (intro hg; simp only [nrmT] at hg; omega) | (intro g1 g2; simp [g1, g2]; done) | (intro g1; simp at g1 ⊢; simp [g1]; done) | (simp only [nrmT] at *; omega) | (simp at * <;> omega) | (simp_all <;> omega) | (simp_all; done)
                  · intro b18
                    try simp only [nrmT] at b18
                    exact rfl
theorem l_FnExactMedianSteps_pc (Open : List Int) (Dist : List (List Int))  : PC Try.prog 13 [.agg [.sl (.ints Open), .sl (.rows Dist)]] (.one (.d (.bool true))) :=
  pc_wf @Try.call13 fun hw => pc_by (by kernel_rfl) Try.func13 @Try.call13 (by kernel_rfl) l_FnExactMedianSteps_C (l_FnExactMedianSteps_A Open Dist) (by kernel_rfl) (l_FnExactMedianSteps_vc Open Dist hw.1.1 hw.1.2.1.1 hw.1.2.1.2) (by kernel_rfl)
end Go.Proofs.Ytmmoejdglnnmcaa
