/- Contracts of the functions that the law reaches. -/
import Derived.Test.YtmmoejdglnnmcaaKBestPartial1
import Derived.KernelRfl
set_option linter.unusedVariables false
set_option linter.unusedSimpArgs false
namespace Go.Proofs.Ytmmoejdglnnmcaa
open Go

theorem swoD : Go.Sort.SWO (ltOf dscI) ∧ ∀ x y, ltOf dscI x y = false → ltOf dscI y x = false → x = y :=
  swo_of (fun x => cmpI_zero.2 rfl) (fun h => (cmpI_zero.1 h).symm) (fun {x y} => by unfold dscI; rw [cmpI_neg, cmpI_pos]) (fun {x y z} h1 h2 => by unfold dscI at *; rw [cmpI_neg] at *; omega)
theorem ltD {x y : Int} : ltOf dscI y x = false ↔ y ≤ x := by
  unfold ltOf dscI
  rw [decide_eq_false_iff_not, cmpI_neg]
  omega
def partL (Dist : List (List Int)) (set : List Int) : List Int := (lensL Dist set Dist.length).mergeSort fun x9 y9 => !(ltOf dscI) y9 x9
theorem partL_len (Dist : List (List Int)) (set : List Int) : (partL Dist set).length = Dist.length := by unfold partL; rw [List.length_mergeSort, lensL_len]
def partOf (Dist : List (List Int)) (set : List Int) (z : Int) : Int := if z ≥ (Dist.length : Int) then 0 else (partL Dist set).getD z.toNat 0
theorem dsc_ins {out : List Int} {x : Int} {k : Nat} (ho : out.Pairwise fun x9 y9 => y9 ≤ x9) (hk : k ≤ out.length) (h1 : ∀ j, j < k → x ≤ out.getD j 0) (h2 : k < out.length → out.getD k 0 < x) :
    ((out.take k ++ [x]) ++ out.drop k).Pairwise fun x9 y9 => y9 ≤ x9 := by
  have hle : ∀ y ∈ out.take k, x ≤ y := by
    intro y hy
    obtain ⟨j, hj, rfl⟩ := List.mem_iff_getElem.1 hy
    have hj' : j < k ∧ j < out.length := by rw [List.length_take] at hj; omega
    have := h1 j hj'.1
    rw [getD_get hj'.2] at this
    simpa using this
  have hgt : ∀ y ∈ out.drop k, y ≤ x := by
    intro y hy
    obtain ⟨j, hj, rfl⟩ := List.mem_iff_getElem.1 hy
    have hj' : k + j < out.length := by rw [List.length_drop] at hj; omega
    have h3 := h2 (by omega)
    rw [getD_get (by omega)] at h3
    rw [List.getElem_drop]
    by_cases e : j = 0
    · subst e; simp only [Nat.add_zero]; omega
    · have := List.pairwise_iff_getElem.1 ho k (k + j) (by omega) hj' (by omega)
      omega
  refine List.pairwise_append.2 ⟨List.pairwise_append.2 ⟨ho.sublist (List.take_sublist _ _), by simp, fun a ha b hb => ?_⟩, ho.sublist (List.drop_sublist _ _), fun a ha b hb => ?_⟩
  · have : b = x := by simpa using hb
    subst this; exact hle a ha
  · rcases List.mem_append.1 ha with ha | ha
    · have q1 := hle a ha
      have q2 := hgt b hb
      omega
    · have : a = x := by simpa using ha
      subst this; exact hgt b hb
theorem dsc_perm {out : List Int} {x : Int} {k : Nat} {l : List Int} (hp : out.Perm l) : ((out.take k ++ [x]) ++ out.drop k).Perm (l ++ [x]) := by
  rw [List.append_assoc]
  refine List.Perm.trans (List.perm_append_comm_assoc _ _ _) ?_
  refine List.Perm.trans ?_ (List.perm_append_comm)
  rw [List.take_append_drop]
  exact hp.append_left [x]
theorem dsc_done {out : List Int} {Dist : List (List Int)} {set : List Int} (hp : out.Perm (lensL Dist set Dist.length)) (ho : out.Pairwise fun x9 y9 => y9 ≤ x9) : out = partL Dist set :=
  sortedBy_unique swoD.1 swoD.2 hp (ho.imp fun h => ltD.2 h)
def i_Field_partial_1_C (f : FuncId) (ds : List D) : Orc := bif Nat.beq f 175 then cmp_Compare_int__orc ds else .no
def i_Field_partial_1_A (a : Int) (b : Int) : Ann := .none
def i_Field_partial_1_P (a : Int) (b : Int) : Prop :=
  (PC Try.prog 175 [.int .i64 b, .int .i64 a] (.one (.d (.int .i64 (cmpI b a))))) ∧ (((cmpI b a) = (dscI a b)))
theorem i_Field_partial_1_vc (a : Int) (b : Int)   : i_Field_partial_1_P a b := by
  unfold i_Field_partial_1_P
  refine ⟨cmp_Compare_int__pc b a, ?_⟩
  · rfl
theorem i_Field_partial_1_pc (a : Int) (b : Int)  : PC Try.prog 174 [.int .i64 a, .int .i64 b] (.one (.d (.int .i64 (dscI a b)))) :=
  pc_wf @Try.call174 fun _ => pc_by (by kernel_rfl) Try.func174 @Try.call174 (by kernel_rfl) i_Field_partial_1_C (i_Field_partial_1_A a b) (by kernel_rfl) (i_Field_partial_1_vc a b) (by kernel_rfl)
theorem slices_SortFunc_int_int_ints_pu (xs : List Int) (hz : xs.length < 4611686018427387904) : PU Try.prog 173 3 (.ints xs) (.ints (xs.mergeSort (fun x9 y9 => !(ltOf dscI) y9 x9))) [.fn 174 0 []] false :=
  pu_sortFunc Try.laySortInts 3 xs (fun x => .int .i64 x) dscI swoD.1 swoD.2 174 (fun x _ y _ => i_Field_partial_1_pc x y) _ _ rfl rfl rfl (List.length_mergeSort _) (fun _ => rfl) (fun i x h => by simp [Mem.get, h]) (fun i x h => by simp [Mem.get, h]) hz @Try.call174
def i_Field_partial_C (f : FuncId) (ds : List D) : Orc := bif Nat.beq f 153 then i_Field_lengths_orc ds else .no
def i_Field_partial_A (Open : List Int) (Dist : List (List Int)) (set : List Int) (z : Int) : Ann := .two (.none) (.two (.none) (.two (.mark [] 1 (.up (.ints ((lensL Dist set Dist.length).mergeSort (fun x9 y9 => !(ltOf dscI) y9 x9))) false)) (.none)))
def i_Field_partial_P (Open : List Int) (Dist : List (List Int)) (set : List Int) (z : Int) : Prop :=
  (PC Try.prog 153 [.agg [.sl (.ints Open), .sl (.rows Dist)], .sl (.ints set)] (.one (.own 3 (.ints (lensL Dist set Dist.length))))) ∧ ((lensL Dist set Dist.length).length = (lensL Dist set Dist.length).length) ∧ (PU Try.prog 173 3 (.ints (lensL Dist set Dist.length)) (.ints ((lensL Dist set Dist.length).mergeSort (fun x9 y9 => !(ltOf dscI) y9 x9))) [.fn 174 0 []] false) ∧ (((decide (z ≥ (((lensL Dist set Dist.length).length) : Int))) = true → (((0 : Int) = (partOf Dist set z)))) ∧ ((decide (z ≥ (((lensL Dist set Dist.length).length) : Int))) = false → ((0 : Int) ≤ z) ∧ ((z : Int) < (((lensL Dist set Dist.length).length) : Int)) ∧ (z.toNat < ((lensL Dist set Dist.length).mergeSort (fun x9 y9 => !(ltOf dscI) y9 x9)).length) ∧ (((((lensL Dist set Dist.length).mergeSort (fun x9 y9 => !(ltOf dscI) y9 x9)).getD z.toNat 0) = (partOf Dist set z)))))
theorem i_Field_partial_vc (Open : List Int) (Dist : List (List Int)) (set : List Int) (z : Int) (ht : (goodField Open Dist && rising set 0 ((Open.length : Int) - 1) && decide (0 < set.length)) = true) (hz0 : 0 ≤ z ∧ z ≤ 7) (w_Open : (Open.length : Int) ≤ 9223372036854775807) (w_Dist : (Dist.length : Int) ≤ 9223372036854775807) (v_Dist : ∀ x9 ∈ Dist, (x9.length : Int) ≤ 9223372036854775807) (w_set : (set.length : Int) ≤ 9223372036854775807) : i_Field_partial_P Open Dist set z := by
  unfold i_Field_partial_P
  obtain ⟨hg, hs, hp⟩ := two_facts ht
  obtain ⟨g1, g2, g3⟩ := gf_open hg
  have pl := partL_len Dist set
  refine ⟨?_, rfl, ?_, ?_, ?_⟩
  · refine i_Field_lengths_pc Open Dist set ?_
    · exact ht
  · refine slices_SortFunc_int_int_ints_pu (lensL Dist set Dist.length) ?_
    · rw [lensL_len]; omega
  · intro b1
    try simp only [nrmT] at b1
    unfold partOf; rw [if_pos (by rw [lensL_len] at b1; omega)]
  · intro b2
    try simp only [nrmT] at b2
    refine ⟨?_, ?_, ?_, ?_⟩
    · first | omega | rfl | (intro hg; simp only [nrmT] at hg; omega) | (intro g1 g2; simp [g1, g2]; done) | (intro g1; simp at g1 ⊢; simp [g1]; done) | (simp only [nrmT] at *; omega) | (simp at * <;> omega) | (simp_all <;> omega) | (simp_all; done)
    · omega
    · rw [lensL_len] at b2
      simp only [List.length_mergeSort, lensL_len]
      omega
    · unfold partOf; rw [if_neg (by rw [lensL_len] at b2; omega)]; rfl
theorem i_Field_partial_pc (Open : List Int) (Dist : List (List Int)) (set : List Int) (z : Int) (ht : (goodField Open Dist && rising set 0 ((Open.length : Int) - 1) && decide (0 < set.length)) = true) (hz0 : 0 ≤ z ∧ z ≤ 7) : PC Try.prog 124 [.agg [.sl (.ints Open), .sl (.rows Dist)], .sl (.ints set), .int .i64 z] (.one (.d (.int .i64 (partOf Dist set z)))) :=
  pc_wf @Try.call124 fun hw => pc_by (by kernel_rfl) Try.func124 @Try.call124 (by kernel_rfl) i_Field_partial_C (i_Field_partial_A Open Dist set z) (by kernel_rfl) (i_Field_partial_vc Open Dist set z ht hz0 hw.1.1 hw.1.2.1.1 hw.1.2.1.2 hw.2.1) (by kernel_rfl)
def i_Field_partial_orc : List D → Orc := orcN [none, some .ints, none] fun ds => match ds with
  | [.agg [.sl (.ints Open), .sl (.rows Dist)], .sl (.ints set), .int .i64 z] => some (.one (.d (.int .i64 (partOf Dist set z))))
  | _ => none
abbrev s_l5Partial_JJ0 (Open : List Int) (Dist : List (List Int)) (set : List Int) (z : Int) (out : List Int) (j : Int) : Prop := (0 ≤ j) ∧ (j ≤ (Dist.length : Int)) ∧ (out.Perm (lensL Dist set j.toNat)) ∧ (out.Pairwise (fun x9 y9 => y9 ≤ x9))
abbrev s_l5Partial_mJ0 (Open : List Int) (Dist : List (List Int)) (set : List Int) (z : Int) (out : List Int) (j : Int) : Nat := (Dist.length - j).toNat
abbrev s_l5Partial_JJ1 (Open : List Int) (Dist : List (List Int)) (set : List Int) (z : Int) (out : List Int) (j : Int) (k : Int) : Prop := (0 ≤ k) ∧ (k ≤ (out.length : Int)) ∧ (∀ j9, j9 < k.toNat → (Dist.getD j.toNat []).getD (siteTo (Dist.getD j.toNat []) set set.length).toNat 0 ≤ out.getD j9 0)
abbrev s_l5Partial_mJ1 (Open : List Int) (Dist : List (List Int)) (set : List Int) (z : Int) (out : List Int) (j : Int) (k : Int) : Nat := (out.length - k).toNat
def s_l5Partial_C (f : FuncId) (ds : List D) : Orc := bif Nat.beq f 151 then s_l2Nearest_orc ds else bif Nat.beq f 100 then s_l1Own_orc ds else .no
def s_l5Partial_A (Open : List Int) (Dist : List (List Int)) (set : List Int) (z : Int) : Ann := .two (.none) (.two (.reg [(0, .frz)]) (.two (.two (.none) (.loop (cut2 (fun (out : List Int) (j : Int) => s_l5Partial_JJ0 Open Dist set z out j) (fun (out : List Int) (j : Int) => [(1, .d false (.sl (.ints set))), (2, .d false (.int .i64 z)), (3, .ptr 3 0), (7, .d true (.sl (.ints out))), (8, .d true (.int .i64 j))]) (fun (out : List Int) (j : Int) => [(3, .box 37 [.d false (.sl (.ints Open)), .d false (.sl (.rows Dist))])])) (fun g => s_l5Partial_mJ0 Open Dist set z g.1 g.2) (fun g => (fun (out : List Int) (j : Int) => .two (.none) (.two (.two (.none) (.two (.none) (.two (.loop (cut1 (fun (k : Int) => s_l5Partial_JJ1 Open Dist set z out j k) (fun (k : Int) => [(1, .d false (.sl (.ints set))), (2, .d false (.int .i64 z)), (3, .ptr 3 0), (7, .d true (.sl (.ints out))), (8, .d true (.int .i64 j)), (9, .d true (.int .i64 ((Dist.getD j.toNat []).getD (siteTo (Dist.getD j.toNat []) set set.length).toNat 0))), (10, .d true (.int .i64 k))]) (fun (k : Int) => [(3, .box 37 [.d false (.sl (.ints Open)), .d false (.sl (.rows Dist))])])) (fun g => s_l5Partial_mJ1 Open Dist set z out j g) (fun _ => .none)) (.none)))) (.none))) (g.1) (g.2)))) (.none)))
def s_l5Partial_P (Open : List Int) (Dist : List (List Int)) (set : List Int) (z : Int) : Prop :=
  ((∃ out' : List Int, ∃ j' : Int, (s_l5Partial_JJ0 Open Dist set z out' j') ∧ (set = set) ∧ (z = z) ∧ ([] = out') ∧ ((0 : Int) = j') ∧ (Open = Open) ∧ (Dist = Dist)) ∧ (∀ out : List Int, ∀ j : Int, (s_l5Partial_JJ0 Open Dist set z out j) → (((decide (j < (Dist.length : Int))) = true → (PC Try.prog 151 [.agg [.sl (.ints Open), .sl (.rows Dist)], .int .i64 j, .sl (.ints set)] (.one (.d (.int .i64 ((Dist.getD j.toNat []).getD (siteTo (Dist.getD j.toNat []) set set.length).toNat 0))))) ∧ ((∃ k' : Int, (s_l5Partial_JJ1 Open Dist set z out j k') ∧ (set = set) ∧ (z = z) ∧ (out = out) ∧ (j = j) ∧ (((Dist.getD j.toNat []).getD (siteTo (Dist.getD j.toNat []) set set.length).toNat 0) = ((Dist.getD j.toNat []).getD (siteTo (Dist.getD j.toNat []) set set.length).toNat 0)) ∧ ((0 : Int) = k') ∧ (Open = Open) ∧ (Dist = Dist)) ∧ (∀ k : Int, (s_l5Partial_JJ1 Open Dist set z out j k) → ((decide (k < (out.length : Int))) = true → (decide (k < (out.length : Int))) = true) ∧ ((decide (k < (out.length : Int))) = true → (decide (k < (out.length : Int))) = true) ∧ (((decide (k < (out.length : Int))) = true → (0 : Int) ≤ k)) ∧ (((decide (k < (out.length : Int))) = true → (k : Int) < out.length)) ∧ ((decide (k < (out.length : Int))) = true → (decide (k < (out.length : Int))) = true) ∧ (((decide (k < (out.length : Int))) = true → k.toNat < out.length)) ∧ ((decide (k < (out.length : Int))) = true → (decide (k < (out.length : Int))) = true) ∧ ((decide (k < (out.length : Int))) = true → (decide (k < (out.length : Int))) = true) ∧ (true = true) ∧ (((decide (k < (out.length : Int))) = true → (decide (k < (out.length : Int))) = true)) ∧ (((decide (k < (out.length : Int))) = false → true = true)) ∧ (((cond (decide (k < (out.length : Int))) (decide ((out.getD k.toNat 0) ≥ ((Dist.getD j.toNat []).getD (siteTo (Dist.getD j.toNat []) set set.length).toNat 0))) false) = true → (-9223372036854775808 ≤ (k + 1) ∧ (k + 1) ≤ 9223372036854775807) ∧ (∃ k' : Int, (s_l5Partial_JJ1 Open Dist set z out j k') ∧ (s_l5Partial_mJ1 Open Dist set z out j k' < s_l5Partial_mJ1 Open Dist set z out j k) ∧ (set = set) ∧ (z = z) ∧ (out = out) ∧ (j = j) ∧ (((Dist.getD j.toNat []).getD (siteTo (Dist.getD j.toNat []) set set.length).toNat 0) = ((Dist.getD j.toNat []).getD (siteTo (Dist.getD j.toNat []) set set.length).toNat 0)) ∧ ((k + 1) = k') ∧ (Open = Open) ∧ (Dist = Dist))) ∧ ((cond (decide (k < (out.length : Int))) (decide ((out.getD k.toNat 0) ≥ ((Dist.getD j.toNat []).getD (siteTo (Dist.getD j.toNat []) set set.length).toNat 0))) false) = false → (true = true) ∧ ((0 : Int) ≤ k) ∧ ((k : Int) ≤ out.length) ∧ (PC Try.prog 100 [.sl (.ints ((out.take k.toNat).drop 0))] (.one (.own 3 (.ints ((out.take k.toNat).drop 0))))) ∧ (((out.take k.toNat).drop 0).length = ((out.take k.toNat).drop 0).length) ∧ ((1 : Nat) = 1) ∧ ((((out.take k.toNat).drop 0).length + 1) * 8 ≤ 140737488355328) ∧ ((0 : Int) ≤ k) ∧ ((k : Int) ≤ out.length) ∧ ((((out.take k.toNat).drop 0).length + 1) = (((out.take k.toNat).drop 0) ++ [((Dist.getD j.toNat []).getD (siteTo (Dist.getD j.toNat []) set set.length).toNat 0)]).length) ∧ (True) ∧ (((((out.take k.toNat).drop 0) ++ [((Dist.getD j.toNat []).getD (siteTo (Dist.getD j.toNat []) set set.length).toNat 0)]).length + ((out.take out.length).drop k.toNat).length) * 8 ≤ 140737488355328) ∧ (-9223372036854775808 ≤ (j + 1) ∧ (j + 1) ≤ 9223372036854775807) ∧ (∃ out' : List Int, ∃ j' : Int, (s_l5Partial_JJ0 Open Dist set z out' j') ∧ (s_l5Partial_mJ0 Open Dist set z out' j' < s_l5Partial_mJ0 Open Dist set z out j) ∧ (set = set) ∧ (z = z) ∧ (((((out.take k.toNat).drop 0).length + 1) + ((out.take out.length).drop k.toNat).length) = ((((out.take k.toNat).drop 0) ++ [((Dist.getD j.toNat []).getD (siteTo (Dist.getD j.toNat []) set set.length).toNat 0)]) ++ ((out.take out.length).drop k.toNat)).length) ∧ (((((out.take k.toNat).drop 0) ++ [((Dist.getD j.toNat []).getD (siteTo (Dist.getD j.toNat []) set set.length).toNat 0)]) ++ ((out.take out.length).drop k.toNat)) = out') ∧ ((j + 1) = j') ∧ (Open = Open) ∧ (Dist = Dist))))))) ∧ ((decide (j < (Dist.length : Int))) = false → (((decide (z ≥ (out.length : Int))) = true → (((0 : Int) = (partOf Dist set z)))) ∧ ((decide (z ≥ (out.length : Int))) = false → ((0 : Int) ≤ z) ∧ ((z : Int) < out.length) ∧ (z.toNat < out.length) ∧ (((out.getD z.toNat 0) = (partOf Dist set z)))))))))
theorem s_l5Partial_vc (Open : List Int) (Dist : List (List Int)) (set : List Int) (z : Int) (ht : (goodField Open Dist && rising set 0 ((Open.length : Int) - 1) && decide (0 < set.length)) = true) (hz0 : 0 ≤ z ∧ z ≤ 7) (w_Open : (Open.length : Int) ≤ 9223372036854775807) (w_Dist : (Dist.length : Int) ≤ 9223372036854775807) (v_Dist : ∀ x9 ∈ Dist, (x9.length : Int) ≤ 9223372036854775807) (w_set : (set.length : Int) ≤ 9223372036854775807) : s_l5Partial_P Open Dist set z := by
  unfold s_l5Partial_P
  obtain ⟨hg, hs, hp⟩ := two_facts ht
  obtain ⟨g1, g2, g3⟩ := gf_open hg
  have pl := partL_len Dist set
  refine ⟨?_, ?_⟩
  · refine ⟨([]), 0, ?_⟩
    refine ⟨?_, rfl, rfl, ?_, rfl, rfl, rfl⟩
    · refine ⟨?_, ?_, ?_, ?_⟩
      · first | omega | rfl | (intro hg; simp only [nrmT] at hg; omega) | (intro g1 g2; simp [g1, g2]; done) | (intro g1; simp at g1 ⊢; simp [g1]; done) | (simp only [nrmT] at *; omega) | (simp at * <;> omega) | (simp_all <;> omega) | (simp_all; done)
      · first | omega | rfl | (intro hg; simp only [nrmT] at hg; omega) | (intro g1 g2; simp [g1, g2]; done) | (intro g1; simp at g1 ⊢; simp [g1]; done) | (simp only [nrmT] at *; omega) | (simp at * <;> omega) | (simp_all <;> omega) | (simp_all; done)
      · exact List.Perm.refl _
      · exact List.Pairwise.nil
    · first | omega | rfl | (intro hg; simp only [nrmT] at hg; omega) | (intro g1 g2; simp [g1, g2]; done) | (intro g1; simp at g1 ⊢; simp [g1]; done) | (simp only [nrmT] at *; omega) | (simp at * <;> omega) | (simp_all <;> omega) | (simp_all; done)
  · intro out j hJ
    obtain ⟨h1, h2, h3, h4⟩ := hJ
    refine ⟨?_, ?_⟩
    · intro b1
      try simp only [nrmT] at b1
      refine ⟨?_, ?_, ?_⟩
      · refine s_l2Nearest_pc Open Dist j set ?_ ?_
        · exact ht
        · first | omega | rfl | (intro hg; simp only [nrmT] at hg; omega) | (intro g1 g2; simp [g1, g2]; done) | (intro g1; simp at g1 ⊢; simp [g1]; done) | (simp only [nrmT] at *; omega) | (simp at * <;> omega) | (simp_all <;> omega) | (simp_all; done)
      · refine ⟨0, ?_⟩
        refine ⟨?_, rfl, rfl, rfl, rfl, rfl, rfl, rfl, rfl⟩
        · refine ⟨?_, ?_, ?_⟩
          · first | omega | rfl | (intro hg; simp only [nrmT] at hg; omega) | (intro g1 g2; simp [g1, g2]; done) | (intro g1; simp at g1 ⊢; simp [g1]; done) | (simp only [nrmT] at *; omega) | (simp at * <;> omega) | (simp_all <;> omega) | (simp_all; done)
          · first | omega | rfl | (intro hg; simp only [nrmT] at hg; omega) | (intro g1 g2; simp [g1, g2]; done) | (intro g1; simp at g1 ⊢; simp [g1]; done) | (simp only [nrmT] at *; omega) | (simp at * <;> omega) | (simp_all <;> omega) | (simp_all; done)
          · intro j9 hj; exact absurd hj (by simp)
      · intro k hJ
        obtain ⟨h5, h6, h7⟩ := hJ
        refine ⟨id, id, ?_, ?_, id, ?_, id, id, rfl, id, fun _ => rfl, ?_, ?_⟩
        · first | omega | rfl | (intro hg; simp only [nrmT] at hg; omega) | (intro g1 g2; simp [g1, g2]; done) | (intro g1; simp at g1 ⊢; simp [g1]; done) | (simp only [nrmT] at *; omega) | (simp at * <;> omega) | (simp_all <;> omega) | (simp_all; done)
        · first | omega | rfl | (intro hg; simp only [nrmT] at hg; omega) | (intro g1 g2; simp [g1, g2]; done) | (intro g1; simp at g1 ⊢; simp [g1]; done) | (simp only [nrmT] at *; omega) | (simp at * <;> omega) | (simp_all <;> omega) | (simp_all; done)
        · first | omega | rfl | (intro hg; simp only [nrmT] at hg; omega) | (intro g1 g2; simp [g1, g2]; done) | (intro g1; simp at g1 ⊢; simp [g1]; done) | (simp only [nrmT] at *; omega) | (simp at * <;> omega) | (simp_all <;> omega) | (simp_all; done)
        · intro b2
          refine ⟨?_, ?_⟩
          · have hk : k < (out.length : Int) ∧ (Dist.getD j.toNat []).getD (siteTo (Dist.getD j.toNat []) set set.length).toNat 0 ≤ out.getD k.toNat 0 := by
              revert b2
              by_cases h : k < (out.length : Int)
              · rw [decide_eq_true h]; intro g; exact ⟨h, of_decide_eq_true g⟩
              · rw [decide_eq_false h]; intro g; cases g
            have ol := h3.length_eq
            rw [lensL_len] at ol
            omega
          · refine ⟨(k + 1), ?_⟩
            refine ⟨?_, ?_, rfl, rfl, rfl, rfl, rfl, rfl, rfl, rfl⟩
            · refine ⟨?_, ?_, ?_⟩
              · have hk : k < (out.length : Int) ∧ (Dist.getD j.toNat []).getD (siteTo (Dist.getD j.toNat []) set set.length).toNat 0 ≤ out.getD k.toNat 0 := by
                  revert b2
                  by_cases h : k < (out.length : Int)
                  · rw [decide_eq_true h]; intro g; exact ⟨h, of_decide_eq_true g⟩
                  · rw [decide_eq_false h]; intro g; cases g
                have ol := h3.length_eq
                rw [lensL_len] at ol
                omega
              · have hk : k < (out.length : Int) ∧ (Dist.getD j.toNat []).getD (siteTo (Dist.getD j.toNat []) set set.length).toNat 0 ≤ out.getD k.toNat 0 := by
                  revert b2
                  by_cases h : k < (out.length : Int)
                  · rw [decide_eq_true h]; intro g; exact ⟨h, of_decide_eq_true g⟩
                  · rw [decide_eq_false h]; intro g; cases g
                have ol := h3.length_eq
                rw [lensL_len] at ol
                omega
              · have hk : k < (out.length : Int) ∧ (Dist.getD j.toNat []).getD (siteTo (Dist.getD j.toNat []) set set.length).toNat 0 ≤ out.getD k.toNat 0 := by
                  revert b2
                  by_cases h : k < (out.length : Int)
                  · rw [decide_eq_true h]; intro g; exact ⟨h, of_decide_eq_true g⟩
                  · rw [decide_eq_false h]; intro g; cases g
                intro j9 hj
                by_cases e : j9 = k.toNat
                · rw [e]; exact hk.2
                · exact h7 j9 (by omega)
            · have hk : k < (out.length : Int) ∧ (Dist.getD j.toNat []).getD (siteTo (Dist.getD j.toNat []) set set.length).toNat 0 ≤ out.getD k.toNat 0 := by
                revert b2
                by_cases h : k < (out.length : Int)
                · rw [decide_eq_true h]; intro g; exact ⟨h, of_decide_eq_true g⟩
                · rw [decide_eq_false h]; intro g; cases g
              first | (show _ < _; omega) | (simp only [s_l5Partial_mJ1]; omega) | (simp only [s_l5Partial_mJ1] at *; simp at *; omega)
        · intro b3
          refine ⟨rfl, ?_, ?_, ?_, rfl, rfl, ?_, ?_, ?_, ?_, trivial, ?_, ?_, ?_⟩
          · first | omega | rfl | (intro hg; simp only [nrmT] at hg; omega) | (intro g1 g2; simp [g1, g2]; done) | (intro g1; simp at g1 ⊢; simp [g1]; done) | (simp only [nrmT] at *; omega) | (simp at * <;> omega) | (simp_all <;> omega) | (simp_all; done)
          · first | omega | rfl | (intro hg; simp only [nrmT] at hg; omega) | (intro g1 g2; simp [g1, g2]; done) | (intro g1; simp at g1 ⊢; simp [g1]; done) | (simp only [nrmT] at *; omega) | (simp at * <;> omega) | (simp_all <;> omega) | (simp_all; done)
          · refine s_l1Own_pc ((out.take k.toNat).drop 0) ?_
            · have ol := h3.length_eq
              rw [lensL_len] at ol
              rw [List.drop_zero, List.length_take]
              omega
          · have ol := h3.length_eq
            rw [lensL_len] at ol
            simp only [List.length_append, List.length_drop, List.length_take, List.length_cons, List.length_nil]
            omega
          · first | omega | rfl | (intro hg; simp only [nrmT] at hg; omega) | (intro g1 g2; simp [g1, g2]; done) | (intro g1; simp at g1 ⊢; simp [g1]; done) | (simp only [nrmT] at *; omega) | (simp at * <;> omega) | (simp_all <;> omega) | (simp_all; done)
          · first | omega | rfl | (intro hg; simp only [nrmT] at hg; omega) | (intro g1 g2; simp [g1, g2]; done) | (intro g1; simp at g1 ⊢; simp [g1]; done) | (simp only [nrmT] at *; omega) | (simp at * <;> omega) | (simp_all <;> omega) | (simp_all; done)
          · first | omega | rfl | (intro hg; simp only [nrmT] at hg; omega) | (intro g1 g2; simp [g1, g2]; done) | (intro g1; simp at g1 ⊢; simp [g1]; done) | (simp only [nrmT] at *; omega) | (simp at * <;> omega) | (simp_all <;> omega) | (simp_all; done)
          · have ol := h3.length_eq
            rw [lensL_len] at ol
            simp only [List.length_append, List.length_drop, List.length_take, List.length_cons, List.length_nil]
            omega
          · first | omega | rfl | (intro hg; simp only [nrmT] at hg; omega) | (intro g1 g2; simp [g1, g2]; done) | (intro g1; simp at g1 ⊢; simp [g1]; done) | (simp only [nrmT] at *; omega) | (simp at * <;> omega) | (simp_all <;> omega) | (simp_all; done)
          · refine ⟨((((out.take k.toNat).drop 0) ++ [((Dist.getD j.toNat []).getD (siteTo (Dist.getD j.toNat []) set set.length).toNat 0)]) ++ ((out.take out.length).drop k.toNat)), (j + 1), ?_⟩
            refine ⟨?_, ?_, rfl, rfl, ?_, rfl, rfl, rfl, rfl⟩
            · refine ⟨?_, ?_, ?_, ?_⟩
              · first | omega | rfl | (intro hg; simp only [nrmT] at hg; omega) | (intro g1 g2; simp [g1, g2]; done) | (intro g1; simp at g1 ⊢; simp [g1]; done) | (simp only [nrmT] at *; omega) | (simp at * <;> omega) | (simp_all <;> omega) | (simp_all; done)
              · first | omega | rfl | (intro hg; simp only [nrmT] at hg; omega) | (intro g1 g2; simp [g1, g2]; done) | (intro g1; simp at g1 ⊢; simp [g1]; done) | (simp only [nrmT] at *; omega) | (simp at * <;> omega) | (simp_all <;> omega) | (simp_all; done)
              · have hq : ((((out.take k.toNat).drop 0) ++ [(Dist.getD j.toNat []).getD (siteTo (Dist.getD j.toNat []) set set.length).toNat 0]) ++ ((out.take out.length).drop k.toNat)) = (out.take k.toNat ++ [lenAt Dist set j.toNat]) ++ out.drop k.toNat := by
                  rw [List.drop_zero, List.take_length]; rfl
                rw [hq, show (j + 1).toNat = j.toNat + 1 by omega, lensL_succ]
                exact dsc_perm h3
              · have hq : ((((out.take k.toNat).drop 0) ++ [(Dist.getD j.toNat []).getD (siteTo (Dist.getD j.toNat []) set set.length).toNat 0]) ++ ((out.take out.length).drop k.toNat)) = (out.take k.toNat ++ [lenAt Dist set j.toNat]) ++ out.drop k.toNat := by
                  rw [List.drop_zero, List.take_length]; rfl
                rw [hq]
                refine dsc_ins h4 (by omega) (fun j9 hj => h7 j9 hj) fun hlt => ?_
                rw [decide_eq_true (show k < (out.length : Int) by omega)] at b3
                simp only [cond_true, decide_eq_false_iff_not] at b3
                unfold lenAt
                omega
            · first | (show _ < _; omega) | (simp only [s_l5Partial_mJ0]; omega) | (simp only [s_l5Partial_mJ0] at *; simp at *; omega)
            · simp only [List.length_append, List.length_cons, List.length_nil] <;> omega
    · intro b4
      try simp only [nrmT] at b4
      refine ⟨?_, ?_⟩
      · intro b5
        try simp only [nrmT] at b5
        have ol := h3.length_eq
        rw [lensL_len] at ol
        unfold partOf; rw [if_pos (by omega)]
      · intro b6
        try simp only [nrmT] at b6
        refine ⟨?_, ?_, ?_, ?_⟩
        · first | omega | rfl | (intro hg; simp only [nrmT] at hg; omega) | (intro g1 g2; simp [g1, g2]; done) | (intro g1; simp at g1 ⊢; simp [g1]; done) | (simp only [nrmT] at *; omega) | (simp at * <;> omega) | (simp_all <;> omega) | (simp_all; done)
        · first | omega | rfl | (intro hg; simp only [nrmT] at hg; omega) | (intro g1 g2; simp [g1, g2]; done) | (intro g1; simp at g1 ⊢; simp [g1]; done) | (simp only [nrmT] at *; omega) | (simp at * <;> omega) | (simp_all <;> omega) | (simp_all; done)
        · first | omega | rfl | (intro hg; simp only [nrmT] at hg; omega) | (intro g1 g2; simp [g1, g2]; done) | (intro g1; simp at g1 ⊢; simp [g1]; done) | (simp only [nrmT] at *; omega) | (simp at * <;> omega) | (simp_all <;> omega) | (simp_all; done)
        · have hd : out = partL Dist set := dsc_done (by rw [show j.toNat = Dist.length by omega] at h3; exact h3) h4
          have ol := h3.length_eq
          rw [lensL_len] at ol
          unfold partOf; rw [if_neg (by omega), hd]
theorem s_l5Partial_pc (Open : List Int) (Dist : List (List Int)) (set : List Int) (z : Int) (ht : (goodField Open Dist && rising set 0 ((Open.length : Int) - 1) && decide (0 < set.length)) = true) (hz0 : 0 ≤ z ∧ z ≤ 7) : PC Try.prog 121 [.agg [.sl (.ints Open), .sl (.rows Dist)], .sl (.ints set), .int .i64 z] (.one (.d (.int .i64 (partOf Dist set z)))) :=
  pc_wf @Try.call121 fun hw => pc_by (by kernel_rfl) Try.func121 @Try.call121 (by kernel_rfl) s_l5Partial_C (s_l5Partial_A Open Dist set z) (by kernel_rfl) (s_l5Partial_vc Open Dist set z ht hz0 hw.1.1 hw.1.2.1.1 hw.1.2.1.2 hw.2.1) (by kernel_rfl)
def s_l5Partial_orc : List D → Orc := orcN [none, some .ints, none] fun ds => match ds with
  | [.agg [.sl (.ints Open), .sl (.rows Dist)], .sl (.ints set), .int .i64 z] => some (.one (.d (.int .i64 (partOf Dist set z))))
  | _ => none
def i_BestPartial_1_C (f : FuncId) (ds : List D) : Orc := bif Nat.beq f 124 then i_Field_partial_orc ds else .no
def i_BestPartial_1_A (set : List Int) (Open : List Int) (Dist : List (List Int)) (z : Int) : Ann := .none
def i_BestPartial_1_P (set : List Int) (Open : List Int) (Dist : List (List Int)) (z : Int) : Prop :=
  (PC Try.prog 124 [.agg [.sl (.ints Open), .sl (.rows Dist)], .sl (.ints set), .int .i64 z] (.one (.d (.int .i64 (partOf Dist set z))))) ∧ (((partOf Dist set z) = (partOf Dist set z)))
theorem i_BestPartial_1_vc (set : List Int) (Open : List Int) (Dist : List (List Int)) (z : Int) (hh : (goodField Open Dist && rising set 0 ((Open.length : Int) - 1) && decide (0 < set.length)) = true ∧ (0 ≤ z ∧ z ≤ 7)) (w_set : (set.length : Int) ≤ 9223372036854775807) (w_Open : (Open.length : Int) ≤ 9223372036854775807) (w_Dist : (Dist.length : Int) ≤ 9223372036854775807) (v_Dist : ∀ x9 ∈ Dist, (x9.length : Int) ≤ 9223372036854775807) : i_BestPartial_1_P set Open Dist z := by
  unfold i_BestPartial_1_P
  refine ⟨?_, rfl⟩
  · refine i_Field_partial_pc Open Dist set z ?_ ?_
    · exact hh.1
    · exact hh.2
theorem i_BestPartial_1_pc (set : List Int) (Open : List Int) (Dist : List (List Int)) (z : Int) (hh : (goodField Open Dist && rising set 0 ((Open.length : Int) - 1) && decide (0 < set.length)) = true ∧ (0 ≤ z ∧ z ≤ 7)) : PC Try.prog 123 [.sl (.ints set), .bx [.sl (.ints Open), .sl (.rows Dist)] 0, .bx [.int .i64 z] 0] (.one (.d (.int .i64 (partOf Dist set z)))) :=
  pc_wf @Try.call123 fun hw => pc_by (by kernel_rfl) Try.func123 @Try.call123 (by kernel_rfl) i_BestPartial_1_C (i_BestPartial_1_A set Open Dist z) (by kernel_rfl) (i_BestPartial_1_vc set Open Dist z hh hw.1 hw.2.1.1 hw.2.1.2.1.1 hw.2.1.2.1.2) (by kernel_rfl)
def i_BestPartial_1_orc : List D → Orc := orcN [some .ints, none, none] fun ds => match ds with
  | [.sl (.ints set), .bx [.sl (.ints Open), .sl (.rows Dist)] 0, .bx [.int .i64 z] 0] => some (.one (.d (.int .i64 (partOf Dist set z))))
  | _ => none
abbrev i_least_part_JJ0 (xss : List (List Int)) (Open : List Int) (Dist : List (List Int)) (z : Int) (best : List Int) (i : Int) : Prop := (0 ≤ i) ∧ (i ≤ (xss.length : Int)) ∧ (best ∈ xss) ∧ (best = (xss.take i.toNat).foldl (lsB (fun s9 => partOf Dist s9 z)) (xss.getD 0 []))
abbrev i_least_part_mJ0 (xss : List (List Int)) (Open : List Int) (Dist : List (List Int)) (z : Int) (best : List Int) (i : Int) : Nat := (xss.length - i).toNat
def i_least_part_C (f : FuncId) (ds : List D) : Orc := bif Nat.beq f 123 then i_BestPartial_1_orc ds else .no
def i_least_part_A (xss : List (List Int)) (Open : List Int) (Dist : List (List Int)) (z : Int) : Ann := .two (.none) (.two (.none) (.two (.two (.none) (.loop (cut2 (fun (best : List Int) (i : Int) => i_least_part_JJ0 xss Open Dist z best i) (fun (best : List Int) (i : Int) => [(1, .d false (.fn 123 0 [.bx [.sl (.ints Open), .sl (.rows Dist)] 0, .bx [.int .i64 z] 0])), (5, .d true (.sl (.ints best))), (11, .d true (.sl (.rows xss))), (12, .d true (.int .i64 (xss.length : Int))), (13, .d true (.int .i64 i))]) (fun (best : List Int) (i : Int) => [])) (fun g => i_least_part_mJ0 xss Open Dist z g.1 g.2) (fun _ => .none))) (.none)))
def i_least_part_P (xss : List (List Int)) (Open : List Int) (Dist : List (List Int)) (z : Int) : Prop :=
  ((0 : Int) ≤ 0) ∧ ((0 : Int) < xss.length) ∧ (0 < xss.length) ∧ ((∃ best' : List Int, ∃ i' : Int, (i_least_part_JJ0 xss Open Dist z best' i') ∧ ((.fn 123 0 [.bx [.sl (.ints Open), .sl (.rows Dist)] 0, .bx [.int .i64 z] 0] : D) = (.fn 123 0 [.bx [.sl (.ints Open), .sl (.rows Dist)] 0, .bx [.int .i64 z] 0] : D)) ∧ ((xss.getD 0 []) = best') ∧ (xss = xss) ∧ ((xss.length : Int) = (xss.length : Int)) ∧ ((0 : Int) = i')) ∧ (∀ best : List Int, ∀ i : Int, (i_least_part_JJ0 xss Open Dist z best i) → (((decide (i < (xss.length : Int))) = true → ((0 : Int) ≤ i) ∧ ((i : Int) < xss.length) ∧ (i.toNat < xss.length) ∧ (PC Try.prog 123 [.sl (.ints (xss.getD i.toNat [])), .bx [.sl (.ints Open), .sl (.rows Dist)] 0, .bx [.int .i64 z] 0] (.one (.d (.int .i64 (partOf Dist (xss.getD i.toNat []) z))))) ∧ (PC Try.prog 123 [.sl (.ints best), .bx [.sl (.ints Open), .sl (.rows Dist)] 0, .bx [.int .i64 z] 0] (.one (.d (.int .i64 (partOf Dist best z))))) ∧ (((decide ((partOf Dist (xss.getD i.toNat []) z) < (partOf Dist best z))) = true → (-9223372036854775808 ≤ (i + 1) ∧ (i + 1) ≤ 9223372036854775807) ∧ (∃ best' : List Int, ∃ i' : Int, (i_least_part_JJ0 xss Open Dist z best' i') ∧ (i_least_part_mJ0 xss Open Dist z best' i' < i_least_part_mJ0 xss Open Dist z best i) ∧ ((.fn 123 0 [.bx [.sl (.ints Open), .sl (.rows Dist)] 0, .bx [.int .i64 z] 0] : D) = (.fn 123 0 [.bx [.sl (.ints Open), .sl (.rows Dist)] 0, .bx [.int .i64 z] 0] : D)) ∧ ((xss.getD i.toNat []) = best') ∧ (xss = xss) ∧ ((xss.length : Int) = (xss.length : Int)) ∧ ((i + 1) = i'))) ∧ ((decide ((partOf Dist (xss.getD i.toNat []) z) < (partOf Dist best z))) = false → (-9223372036854775808 ≤ (i + 1) ∧ (i + 1) ≤ 9223372036854775807) ∧ (∃ best' : List Int, ∃ i' : Int, (i_least_part_JJ0 xss Open Dist z best' i') ∧ (i_least_part_mJ0 xss Open Dist z best' i' < i_least_part_mJ0 xss Open Dist z best i) ∧ ((.fn 123 0 [.bx [.sl (.ints Open), .sl (.rows Dist)] 0, .bx [.int .i64 z] 0] : D) = (.fn 123 0 [.bx [.sl (.ints Open), .sl (.rows Dist)] 0, .bx [.int .i64 z] 0] : D)) ∧ (best = best') ∧ (xss = xss) ∧ ((xss.length : Int) = (xss.length : Int)) ∧ ((i + 1) = i'))))) ∧ ((decide (i < (xss.length : Int))) = false → (((best : List Int) = (leastL (fun s9 => partOf Dist s9 z) xss)))))))
theorem i_least_part_vc (xss : List (List Int)) (Open : List Int) (Dist : List (List Int)) (z : Int) (hp : 0 < xss.length) (hx : ∀ s ∈ xss, (goodField Open Dist && rising s 0 ((Open.length : Int) - 1) && decide (0 < s.length)) = true ∧ (0 ≤ z ∧ z ≤ 7)) (w_xss : (xss.length : Int) ≤ 9223372036854775807) (v_xss : ∀ x9 ∈ xss, (x9.length : Int) ≤ 9223372036854775807) (w_Open : (Open.length : Int) ≤ 9223372036854775807) (w_Dist : (Dist.length : Int) ≤ 9223372036854775807) (v_Dist : ∀ x9 ∈ Dist, (x9.length : Int) ≤ 9223372036854775807) : i_least_part_P xss Open Dist z := by
  unfold i_least_part_P
  refine ⟨?_, ?_, ?_, ?_, ?_⟩
  · first | omega | rfl | (intro hg; simp only [nrmT] at hg; omega) | (intro g1 g2; simp [g1, g2]; done) | (intro g1; simp at g1 ⊢; simp [g1]; done) | (simp only [nrmT] at *; omega) | (simp at * <;> omega) | (simp_all <;> omega) | (simp_all; done)
  · first | omega | rfl | (intro hg; simp only [nrmT] at hg; omega) | (intro g1 g2; simp [g1, g2]; done) | (intro g1; simp at g1 ⊢; simp [g1]; done) | (simp only [nrmT] at *; omega) | (simp at * <;> omega) | (simp_all <;> omega) | (simp_all; done)
  · first | omega | rfl | (intro hg; simp only [nrmT] at hg; omega) | (intro g1 g2; simp [g1, g2]; done) | (intro g1; simp at g1 ⊢; simp [g1]; done) | (simp only [nrmT] at *; omega) | (simp at * <;> omega) | (simp_all <;> omega) | (simp_all; done)
  · refine ⟨(xss.getD 0 []), 0, ?_⟩
    refine ⟨?_, rfl, rfl, rfl, rfl, rfl⟩
    · refine ⟨?_, ?_, ?_, ?_⟩
      · first | omega | rfl | (intro hg; simp only [nrmT] at hg; omega) | (intro g1 g2; simp [g1, g2]; done) | (intro g1; simp at g1 ⊢; simp [g1]; done) | (simp only [nrmT] at *; omega) | (simp at * <;> omega) | (simp_all <;> omega) | (simp_all; done)
      · first | omega | rfl | (intro hg; simp only [nrmT] at hg; omega) | (intro g1 g2; simp [g1, g2]; done) | (intro g1; simp at g1 ⊢; simp [g1]; done) | (simp only [nrmT] at *; omega) | (simp at * <;> omega) | (simp_all <;> omega) | (simp_all; done)
      · exact getD_mem hp
      · rfl
  · intro best i hJ
    obtain ⟨h1, h2, h3, h4⟩ := hJ
    refine ⟨?_, ?_⟩
    · intro b1
      try simp only [nrmT] at b1
      refine ⟨?_, ?_, ?_, ?_, ?_, ?_, ?_⟩
      · first | omega | rfl | (intro hg; simp only [nrmT] at hg; omega) | (intro g1 g2; simp [g1, g2]; done) | (intro g1; simp at g1 ⊢; simp [g1]; done) | (simp only [nrmT] at *; omega) | (simp at * <;> omega) | (simp_all <;> omega) | (simp_all; done)
      · first | omega | rfl | (intro hg; simp only [nrmT] at hg; omega) | (intro g1 g2; simp [g1, g2]; done) | (intro g1; simp at g1 ⊢; simp [g1]; done) | (simp only [nrmT] at *; omega) | (simp at * <;> omega) | (simp_all <;> omega) | (simp_all; done)
      · first | omega | rfl | (intro hg; simp only [nrmT] at hg; omega) | (intro g1 g2; simp [g1, g2]; done) | (intro g1; simp at g1 ⊢; simp [g1]; done) | (simp only [nrmT] at *; omega) | (simp at * <;> omega) | (simp_all <;> omega) | (simp_all; done)
      · refine i_BestPartial_1_pc (xss.getD i.toNat []) Open Dist z ?_
        · exact hx _ (getD_memI h1 (by omega))
      · refine i_BestPartial_1_pc best Open Dist z ?_
        · exact hx _ h3
      · intro b2
        try simp only [nrmT] at b2
        refine ⟨?_, ?_⟩
        · first | omega | rfl | (intro hg; simp only [nrmT] at hg; omega) | (intro g1 g2; simp [g1, g2]; done) | (intro g1; simp at g1 ⊢; simp [g1]; done) | (simp only [nrmT] at *; omega) | (simp at * <;> omega) | (simp_all <;> omega) | (simp_all; done)
        · refine ⟨(xss.getD i.toNat []), (i + 1), ?_⟩
          refine ⟨?_, ?_, rfl, rfl, rfl, rfl, rfl⟩
          · refine ⟨?_, ?_, ?_, ?_⟩
            · first | omega | rfl | (intro hg; simp only [nrmT] at hg; omega) | (intro g1 g2; simp [g1, g2]; done) | (intro g1; simp at g1 ⊢; simp [g1]; done) | (simp only [nrmT] at *; omega) | (simp at * <;> omega) | (simp_all <;> omega) | (simp_all; done)
            · first | omega | rfl | (intro hg; simp only [nrmT] at hg; omega) | (intro g1 g2; simp [g1, g2]; done) | (intro g1; simp at g1 ⊢; simp [g1]; done) | (simp only [nrmT] at *; omega) | (simp at * <;> omega) | (simp_all <;> omega) | (simp_all; done)
            · exact getD_memI h1 (by omega)
            · rw [fold_snoc (d := []) h1 (by omega), ← h4]; unfold lsB; rw [if_pos b2]
          · first | (show _ < _; omega) | (simp only [i_least_part_mJ0]; omega) | (simp only [i_least_part_mJ0] at *; simp at *; omega)
      · intro b3
        try simp only [nrmT] at b3
        refine ⟨?_, ?_⟩
        · first | omega | rfl | (intro hg; simp only [nrmT] at hg; omega) | (intro g1 g2; simp [g1, g2]; done) | (intro g1; simp at g1 ⊢; simp [g1]; done) | (simp only [nrmT] at *; omega) | (simp at * <;> omega) | (simp_all <;> omega) | (simp_all; done)
        · refine ⟨best, (i + 1), ?_⟩
          refine ⟨?_, ?_, rfl, rfl, rfl, rfl, rfl⟩
          · refine ⟨?_, ?_, ?_, ?_⟩
            · first | omega | rfl | (intro hg; simp only [nrmT] at hg; omega) | (intro g1 g2; simp [g1, g2]; done) | (intro g1; simp at g1 ⊢; simp [g1]; done) | (simp only [nrmT] at *; omega) | (simp at * <;> omega) | (simp_all <;> omega) | (simp_all; done)
            · first | omega | rfl | (intro hg; simp only [nrmT] at hg; omega) | (intro g1 g2; simp [g1, g2]; done) | (intro g1; simp at g1 ⊢; simp [g1]; done) | (simp only [nrmT] at *; omega) | (simp at * <;> omega) | (simp_all <;> omega) | (simp_all; done)
            · exact h3
            · rw [fold_snoc (d := []) h1 (by omega), ← h4]; unfold lsB; (try dsimp only); rw [if_neg (by omega)]
          · first | (show _ < _; omega) | (simp only [i_least_part_mJ0]; omega) | (simp only [i_least_part_mJ0] at *; simp at *; omega)
    · intro b4
      try simp only [nrmT] at b4
      rw [h4, take_all (by omega)]; rfl
theorem i_least_part_pc (xss : List (List Int)) (Open : List Int) (Dist : List (List Int)) (z : Int) (hp : 0 < xss.length) (hx : ∀ s ∈ xss, (goodField Open Dist && rising s 0 ((Open.length : Int) - 1) && decide (0 < s.length)) = true ∧ (0 ≤ z ∧ z ≤ 7)) : PCs Try.prog 111 [.sl (.rows xss), .fn 123 0 [.bx [.sl (.ints Open), .sl (.rows Dist)] 0, .bx [.int .i64 z] 0]] 0 (.sl (.ints (leastL (fun s9 => partOf Dist s9 z) xss))) :=
  pcs_wf @Try.call111 fun hw => pcs_by (by kernel_rfl) Try.func111 @Try.call111 (by kernel_rfl) i_least_part_C (i_least_part_A xss Open Dist z) (by kernel_rfl) (i_least_part_vc xss Open Dist z hp hx hw.1.1 hw.1.2 hw.2.1.1.1 hw.2.1.1.2.1.1 hw.2.1.1.2.1.2) (by kernel_rfl)
def i_least_part_orc : List D → Orc := orcS 0 fun ds => match ds with
  | [.sl (.rows xss), .fn f0 0 [.bx [.sl (.ints Open), .sl (.rows Dist)] 0, .bx [.int .i64 z] 0]] => some (.sl (.ints (leastL (fun s9 => partOf Dist s9 z) xss)))
  | _ => none
def parS (Open : List Int) (Dist : List (List Int)) (k z : Int) : List Int := leastL (fun s9 => partOf Dist s9 z) (upS Open k)
theorem parS_in {Open : List Int} {Dist : List (List Int)} {k z : Int} (hk : 1 ≤ k ∧ k ≤ (Open.length : Int)) : parS Open Dist k z ∈ setsL (Open.length : Int).toNat := upS_mem (leastL_mem (upS_pos hk))
def parOk (Open : List Int) (Dist : List (List Int)) (k z : Int) : Bool := (goodField Open Dist && inB k 1 (Open.length : Int)) && inB z 0 7
def parL (Open : List Int) (Dist : List (List Int)) (k z : Int) : List Int := if parOk Open Dist k z = true then parS Open Dist k z else []
def parV (Open : List Int) (Dist : List (List Int)) (k z : Int) : Int := if parOk Open Dist k z = true then partOf Dist (parS Open Dist k z) z else 0
theorem parOk_facts {Open : List Int} {Dist : List (List Int)} {k z : Int} (h : parOk Open Dist k z = true) : goodField Open Dist = true ∧ (1 ≤ k ∧ k ≤ (Open.length : Int)) ∧ (0 ≤ z ∧ z ≤ 7) := by
  unfold parOk at h
  rw [Bool.and_eq_true, Bool.and_eq_true] at h
  exact ⟨h.1.1, inB_le h.1.2, inB_le h.2⟩
theorem parL_len {Open : List Int} {Dist : List (List Int)} {k z : Int} : (parL Open Dist k z).length ≤ 7 := by
  unfold parL
  split
  · rename_i h
    obtain ⟨h1, h2, _⟩ := parOk_facts h
    exact (set_two h1 (parS_in h2)).2
  · simp
theorem par_test {Open : List Int} {Dist : List (List Int)} {k z : Int} : cond (!(goodField Open Dist && inB k 1 (Open.length : Int))) true (!(inB z 0 7)) = !(parOk Open Dist k z) := by
  unfold parOk
  cases (goodField Open Dist && inB k 1 (Open.length : Int)) <;> cases inB z 0 7 <;> rfl
abbrev s_BestPartial_JJ0 (Open : List Int) (Dist : List (List Int)) (k : Int) (z : Int) (best : List Int) (i : Int) : Prop := (1 ≤ i) ∧ (i ≤ ((upS Open k).length : Int)) ∧ (best ∈ upS Open k) ∧ (best = ((upS Open k).take i.toNat).foldl (lsB (fun s9 => partOf Dist s9 z)) ((upS Open k).getD 0 []))
abbrev s_BestPartial_mJ0 (Open : List Int) (Dist : List (List Int)) (k : Int) (z : Int) (best : List Int) (i : Int) : Nat := ((upS Open k).length - i).toNat
def s_BestPartial_C (f : FuncId) (ds : List D) : Orc := bif Nat.beq f 107 then s_l5Ask_orc ds else bif Nat.beq f 78 then s_l1In_orc ds else bif Nat.beq f 120 then s_l5Sets_orc ds else bif Nat.beq f 121 then s_l5Partial_orc ds else bif Nat.beq f 100 then s_l1Own_orc ds else .no
def s_BestPartial_A (Open : List Int) (Dist : List (List Int)) (k : Int) (z : Int) : Ann := .two (.none) (.two (.none) (.two (.none) (.two (.none) (.two (.two (.none) (.loop (cut2 (fun (best : List Int) (i : Int) => s_BestPartial_JJ0 Open Dist k z best i) (fun (best : List Int) (i : Int) => [(2, .d false (.int .i64 z)), (3, .ptr 3 0), (9, .d true (.sl (.rows (upS Open k)))), (10, .d true (.sl (.ints best))), (11, .d true (.int .i64 i))]) (fun (best : List Int) (i : Int) => [(3, .box 37 [.d false (.sl (.ints Open)), .d false (.sl (.rows Dist))])])) (fun g => s_BestPartial_mJ0 Open Dist k z g.1 g.2) (fun _ => .none))) (.none)))))
def s_BestPartial_P (Open : List Int) (Dist : List (List Int)) (k : Int) (z : Int) : Prop :=
  (PC Try.prog 107 [.agg [.sl (.ints Open), .sl (.rows Dist)], .int .i64 k] (.one (.d (.bool (goodField Open Dist && inB k 1 (Open.length : Int)))))) ∧ ((!(!(goodField Open Dist && inB k 1 (Open.length : Int)))) = true → (!(!(goodField Open Dist && inB k 1 (Open.length : Int)))) = true) ∧ ((!(!(goodField Open Dist && inB k 1 (Open.length : Int)))) = true → PC Try.prog 78 [.int .i64 z, .int .i64 0, .int .i64 7] (.one (.d (.bool (inB z 0 7))))) ∧ ((!(!(goodField Open Dist && inB k 1 (Open.length : Int)))) = true → (!(!(goodField Open Dist && inB k 1 (Open.length : Int)))) = true) ∧ (true = true) ∧ (((!(goodField Open Dist && inB k 1 (Open.length : Int))) = true → true = true)) ∧ (((!(goodField Open Dist && inB k 1 (Open.length : Int))) = false → (!(!(goodField Open Dist && inB k 1 (Open.length : Int)))) = true)) ∧ (((cond (!(goodField Open Dist && inB k 1 (Open.length : Int))) true (!(inB z 0 7))) = true → (((0 : Nat) = 0) ∧ (([] : List Int) = parL Open Dist k z) ∧ ((0 : Int) = (parV Open Dist k z)) ∧ (false = (parOk Open Dist k z)))) ∧ ((cond (!(goodField Open Dist && inB k 1 (Open.length : Int))) true (!(inB z 0 7))) = false → (PC Try.prog 120 [.agg [.sl (.ints Open), .sl (.rows Dist)], .int .i64 k] (.one (.d (.sl (.rows (upS Open k)))))) ∧ ((0 : Int) ≤ 0) ∧ ((0 : Int) < (upS Open k).length) ∧ (0 < (upS Open k).length) ∧ ((∃ best' : List Int, ∃ i' : Int, (s_BestPartial_JJ0 Open Dist k z best' i') ∧ (z = z) ∧ ((upS Open k) = (upS Open k)) ∧ (((upS Open k).getD 0 []) = best') ∧ ((1 : Int) = i') ∧ (Open = Open) ∧ (Dist = Dist)) ∧ (∀ best : List Int, ∀ i : Int, (s_BestPartial_JJ0 Open Dist k z best i) → (((decide (i < (((upS Open k).length) : Int))) = true → (true = true) ∧ ((0 : Int) ≤ i) ∧ ((i : Int) < (upS Open k).length) ∧ (i.toNat < (upS Open k).length) ∧ (PC Try.prog 121 [.agg [.sl (.ints Open), .sl (.rows Dist)], .sl (.ints ((upS Open k).getD i.toNat [])), .int .i64 z] (.one (.d (.int .i64 (partOf Dist ((upS Open k).getD i.toNat []) z))))) ∧ (PC Try.prog 121 [.agg [.sl (.ints Open), .sl (.rows Dist)], .sl (.ints best), .int .i64 z] (.one (.d (.int .i64 (partOf Dist best z))))) ∧ (((decide ((partOf Dist ((upS Open k).getD i.toNat []) z) < (partOf Dist best z))) = true → ((0 : Int) ≤ i) ∧ ((i : Int) < (upS Open k).length) ∧ (i.toNat < (upS Open k).length) ∧ (-9223372036854775808 ≤ (i + 1) ∧ (i + 1) ≤ 9223372036854775807) ∧ (∃ best' : List Int, ∃ i' : Int, (s_BestPartial_JJ0 Open Dist k z best' i') ∧ (s_BestPartial_mJ0 Open Dist k z best' i' < s_BestPartial_mJ0 Open Dist k z best i) ∧ (z = z) ∧ ((upS Open k) = (upS Open k)) ∧ (((upS Open k).getD i.toNat []) = best') ∧ ((i + 1) = i') ∧ (Open = Open) ∧ (Dist = Dist))) ∧ ((decide ((partOf Dist ((upS Open k).getD i.toNat []) z) < (partOf Dist best z))) = false → (-9223372036854775808 ≤ (i + 1) ∧ (i + 1) ≤ 9223372036854775807) ∧ (∃ best' : List Int, ∃ i' : Int, (s_BestPartial_JJ0 Open Dist k z best' i') ∧ (s_BestPartial_mJ0 Open Dist k z best' i' < s_BestPartial_mJ0 Open Dist k z best i) ∧ (z = z) ∧ ((upS Open k) = (upS Open k)) ∧ (best = best') ∧ ((i + 1) = i') ∧ (Open = Open) ∧ (Dist = Dist))))) ∧ ((decide (i < (((upS Open k).length) : Int))) = false → (true = true) ∧ (PC Try.prog 100 [.sl (.ints best)] (.one (.own 3 (.ints best)))) ∧ (PC Try.prog 121 [.agg [.sl (.ints Open), .sl (.rows Dist)], .sl (.ints best), .int .i64 z] (.one (.d (.int .i64 (partOf Dist best z))))) ∧ ((best.length = best.length) ∧ ((best : List Int) = parL Open Dist k z) ∧ ((partOf Dist best z) = (parV Open Dist k z)) ∧ (true = (parOk Open Dist k z)))))))))
theorem s_BestPartial_vc (Open : List Int) (Dist : List (List Int)) (k : Int) (z : Int)  (w_Open : (Open.length : Int) ≤ 9223372036854775807) (w_Dist : (Dist.length : Int) ≤ 9223372036854775807) (v_Dist : ∀ x9 ∈ Dist, (x9.length : Int) ≤ 9223372036854775807) : s_BestPartial_P Open Dist k z := by
  unfold s_BestPartial_P
  refine ⟨s_l5Ask_pc Open Dist k, id, fun _ => s_l1In_pc z 0 7, id, rfl, fun _ => rfl, ?_, ?_, ?_⟩
  · intro h; rw [h]; rfl
  · intro b1
    refine ⟨rfl, ?_, ?_, ?_⟩
    · have hq : parOk Open Dist k z = false := by
        have h9 := par_test (Open := Open) (Dist := Dist) (k := k) (z := z)
        rw [b1] at h9
        revert h9; cases parOk Open Dist k z <;> simp
      unfold parL; rw [hq]; rfl
    · have hq : parOk Open Dist k z = false := by
        have h9 := par_test (Open := Open) (Dist := Dist) (k := k) (z := z)
        rw [b1] at h9
        revert h9; cases parOk Open Dist k z <;> simp
      unfold parV; rw [hq]; rfl
    · have hq : parOk Open Dist k z = false := by
        have h9 := par_test (Open := Open) (Dist := Dist) (k := k) (z := z)
        rw [b1] at h9
        revert h9; cases parOk Open Dist k z <;> simp
      exact hq.symm
  · intro b2
    refine ⟨?_, ?_, ?_, ?_, ?_, ?_⟩
    · refine s_l5Sets_pc Open Dist k ?_ ?_
      · have hq : parOk Open Dist k z = true := by
          have h9 := par_test (Open := Open) (Dist := Dist) (k := k) (z := z)
          rw [b2] at h9
          revert h9; cases parOk Open Dist k z <;> simp
        obtain ⟨hg, hk, hz⟩ := parOk_facts hq
        have up := upS_pos (Open := Open) (k := k) hk
        have ul := upS_len hg (k := k)
        exact hg
      · have hq : parOk Open Dist k z = true := by
          have h9 := par_test (Open := Open) (Dist := Dist) (k := k) (z := z)
          rw [b2] at h9
          revert h9; cases parOk Open Dist k z <;> simp
        obtain ⟨hg, hk, hz⟩ := parOk_facts hq
        have up := upS_pos (Open := Open) (k := k) hk
        have ul := upS_len hg (k := k)
        exact hk
    · first | omega | rfl | (intro hg; simp only [nrmT] at hg; omega) | (intro g1 g2; simp [g1, g2]; done) | (intro g1; simp at g1 ⊢; simp [g1]; done) | (simp only [nrmT] at *; omega) | (simp at * <;> omega) | (simp_all <;> omega) | (simp_all; done)
    · have hq : parOk Open Dist k z = true := by
        have h9 := par_test (Open := Open) (Dist := Dist) (k := k) (z := z)
        rw [b2] at h9
        revert h9; cases parOk Open Dist k z <;> simp
      obtain ⟨hg, hk, hz⟩ := parOk_facts hq
      have up := upS_pos (Open := Open) (k := k) hk
      have ul := upS_len hg (k := k)
      omega
    · have hq : parOk Open Dist k z = true := by
        have h9 := par_test (Open := Open) (Dist := Dist) (k := k) (z := z)
        rw [b2] at h9
        revert h9; cases parOk Open Dist k z <;> simp
      obtain ⟨hg, hk, hz⟩ := parOk_facts hq
      have up := upS_pos (Open := Open) (k := k) hk
      have ul := upS_len hg (k := k)
      omega
    · refine ⟨((upS Open k).getD 0 []), 1, ?_⟩
      refine ⟨?_, rfl, rfl, rfl, rfl, rfl, rfl⟩
      · refine ⟨?_, ?_, ?_, ?_⟩
        · first | omega | rfl | (intro hg; simp only [nrmT] at hg; omega) | (intro g1 g2; simp [g1, g2]; done) | (intro g1; simp at g1 ⊢; simp [g1]; done) | (simp only [nrmT] at *; omega) | (simp at * <;> omega) | (simp_all <;> omega) | (simp_all; done)
        · have hq : parOk Open Dist k z = true := by
            have h9 := par_test (Open := Open) (Dist := Dist) (k := k) (z := z)
            rw [b2] at h9
            revert h9; cases parOk Open Dist k z <;> simp
          obtain ⟨hg, hk, hz⟩ := parOk_facts hq
          have up := upS_pos (Open := Open) (k := k) hk
          have ul := upS_len hg (k := k)
          omega
        · have hq : parOk Open Dist k z = true := by
            have h9 := par_test (Open := Open) (Dist := Dist) (k := k) (z := z)
            rw [b2] at h9
            revert h9; cases parOk Open Dist k z <;> simp
          obtain ⟨hg, hk, hz⟩ := parOk_facts hq
          have up := upS_pos (Open := Open) (k := k) hk
          have ul := upS_len hg (k := k)
          exact getD_mem up
        · have hq : parOk Open Dist k z = true := by
            have h9 := par_test (Open := Open) (Dist := Dist) (k := k) (z := z)
            rw [b2] at h9
            revert h9; cases parOk Open Dist k z <;> simp
          obtain ⟨hg, hk, hz⟩ := parOk_facts hq
          have up := upS_pos (Open := Open) (k := k) hk
          have ul := upS_len hg (k := k)
          exact (leastL_one up).symm
    · intro best i hJ
      obtain ⟨h1, h2, h3, h4⟩ := hJ
      refine ⟨?_, ?_⟩
      · intro b3
        try simp only [nrmT] at b3
        refine ⟨rfl, ?_, ?_, ?_, ?_, ?_, ?_, ?_⟩
        · first | omega | rfl | (intro hg; simp only [nrmT] at hg; omega) | (intro g1 g2; simp [g1, g2]; done) | (intro g1; simp at g1 ⊢; simp [g1]; done) | (simp only [nrmT] at *; omega) | (simp at * <;> omega) | (simp_all <;> omega) | (simp_all; done)
        · first | omega | rfl | (intro hg; simp only [nrmT] at hg; omega) | (intro g1 g2; simp [g1, g2]; done) | (intro g1; simp at g1 ⊢; simp [g1]; done) | (simp only [nrmT] at *; omega) | (simp at * <;> omega) | (simp_all <;> omega) | (simp_all; done)
        · first | omega | rfl | (intro hg; simp only [nrmT] at hg; omega) | (intro g1 g2; simp [g1, g2]; done) | (intro g1; simp at g1 ⊢; simp [g1]; done) | (simp only [nrmT] at *; omega) | (simp at * <;> omega) | (simp_all <;> omega) | (simp_all; done)
        · refine s_l5Partial_pc Open Dist ((upS Open k).getD i.toNat []) z ?_ ?_
          · have hq : parOk Open Dist k z = true := by
              have h9 := par_test (Open := Open) (Dist := Dist) (k := k) (z := z)
              rw [b2] at h9
              revert h9; cases parOk Open Dist k z <;> simp
            obtain ⟨hg, hk, hz⟩ := parOk_facts hq
            have up := upS_pos (Open := Open) (k := k) hk
            have ul := upS_len hg (k := k)
            exact (set_two hg (upS_mem (getD_memI (by omega) (by omega)))).1
          · have hq : parOk Open Dist k z = true := by
              have h9 := par_test (Open := Open) (Dist := Dist) (k := k) (z := z)
              rw [b2] at h9
              revert h9; cases parOk Open Dist k z <;> simp
            obtain ⟨hg, hk, hz⟩ := parOk_facts hq
            have up := upS_pos (Open := Open) (k := k) hk
            have ul := upS_len hg (k := k)
            exact hz
        · refine s_l5Partial_pc Open Dist best z ?_ ?_
          · have hq : parOk Open Dist k z = true := by
              have h9 := par_test (Open := Open) (Dist := Dist) (k := k) (z := z)
              rw [b2] at h9
              revert h9; cases parOk Open Dist k z <;> simp
            obtain ⟨hg, hk, hz⟩ := parOk_facts hq
            have up := upS_pos (Open := Open) (k := k) hk
            have ul := upS_len hg (k := k)
            exact (set_two hg (upS_mem h3)).1
          · have hq : parOk Open Dist k z = true := by
              have h9 := par_test (Open := Open) (Dist := Dist) (k := k) (z := z)
              rw [b2] at h9
              revert h9; cases parOk Open Dist k z <;> simp
            obtain ⟨hg, hk, hz⟩ := parOk_facts hq
            have up := upS_pos (Open := Open) (k := k) hk
            have ul := upS_len hg (k := k)
            exact hz
        · intro b4
          try simp only [nrmT] at b4
          refine ⟨?_, ?_, ?_, ?_, ?_⟩
          · first | omega | rfl | (intro hg; simp only [nrmT] at hg; omega) | (intro g1 g2; simp [g1, g2]; done) | (intro g1; simp at g1 ⊢; simp [g1]; done) | (simp only [nrmT] at *; omega) | (simp at * <;> omega) | (simp_all <;> omega) | (simp_all; done)
          · first | omega | rfl | (intro hg; simp only [nrmT] at hg; omega) | (intro g1 g2; simp [g1, g2]; done) | (intro g1; simp at g1 ⊢; simp [g1]; done) | (simp only [nrmT] at *; omega) | (simp at * <;> omega) | (simp_all <;> omega) | (simp_all; done)
          · first | omega | rfl | (intro hg; simp only [nrmT] at hg; omega) | (intro g1 g2; simp [g1, g2]; done) | (intro g1; simp at g1 ⊢; simp [g1]; done) | (simp only [nrmT] at *; omega) | (simp at * <;> omega) | (simp_all <;> omega) | (simp_all; done)
          · have hq : parOk Open Dist k z = true := by
              have h9 := par_test (Open := Open) (Dist := Dist) (k := k) (z := z)
              rw [b2] at h9
              revert h9; cases parOk Open Dist k z <;> simp
            obtain ⟨hg, hk, hz⟩ := parOk_facts hq
            have up := upS_pos (Open := Open) (k := k) hk
            have ul := upS_len hg (k := k)
            omega
          · refine ⟨((upS Open k).getD i.toNat []), (i + 1), ?_⟩
            refine ⟨?_, ?_, rfl, rfl, rfl, rfl, rfl, rfl⟩
            · refine ⟨?_, ?_, ?_, ?_⟩
              · first | omega | rfl | (intro hg; simp only [nrmT] at hg; omega) | (intro g1 g2; simp [g1, g2]; done) | (intro g1; simp at g1 ⊢; simp [g1]; done) | (simp only [nrmT] at *; omega) | (simp at * <;> omega) | (simp_all <;> omega) | (simp_all; done)
              · first | omega | rfl | (intro hg; simp only [nrmT] at hg; omega) | (intro g1 g2; simp [g1, g2]; done) | (intro g1; simp at g1 ⊢; simp [g1]; done) | (simp only [nrmT] at *; omega) | (simp at * <;> omega) | (simp_all <;> omega) | (simp_all; done)
              · exact getD_memI (by omega) (by omega)
              · rw [fold_snoc (d := []) (by omega) (by omega), ← h4]; unfold lsB; rw [if_pos b4]
            · first | (show _ < _; omega) | (simp only [s_BestPartial_mJ0]; omega) | (simp only [s_BestPartial_mJ0] at *; simp at *; omega)
        · intro b5
          try simp only [nrmT] at b5
          refine ⟨?_, ?_⟩
          · have hq : parOk Open Dist k z = true := by
              have h9 := par_test (Open := Open) (Dist := Dist) (k := k) (z := z)
              rw [b2] at h9
              revert h9; cases parOk Open Dist k z <;> simp
            obtain ⟨hg, hk, hz⟩ := parOk_facts hq
            have up := upS_pos (Open := Open) (k := k) hk
            have ul := upS_len hg (k := k)
            omega
          · refine ⟨best, (i + 1), ?_⟩
            refine ⟨?_, ?_, rfl, rfl, rfl, rfl, rfl, rfl⟩
            · refine ⟨?_, ?_, ?_, ?_⟩
              · first | omega | rfl | (intro hg; simp only [nrmT] at hg; omega) | (intro g1 g2; simp [g1, g2]; done) | (intro g1; simp at g1 ⊢; simp [g1]; done) | (simp only [nrmT] at *; omega) | (simp at * <;> omega) | (simp_all <;> omega) | (simp_all; done)
              · first | omega | rfl | (intro hg; simp only [nrmT] at hg; omega) | (intro g1 g2; simp [g1, g2]; done) | (intro g1; simp at g1 ⊢; simp [g1]; done) | (simp only [nrmT] at *; omega) | (simp at * <;> omega) | (simp_all <;> omega) | (simp_all; done)
              · exact h3
              · rw [fold_snoc (d := []) (by omega) (by omega), ← h4]; unfold lsB; (try dsimp only); rw [if_neg (by omega)]
            · first | (show _ < _; omega) | (simp only [s_BestPartial_mJ0]; omega) | (simp only [s_BestPartial_mJ0] at *; simp at *; omega)
      · intro b6
        try simp only [nrmT] at b6
        refine ⟨rfl, ?_, ?_, rfl, ?_, ?_, ?_⟩
        · refine s_l1Own_pc best ?_
          · have hq : parOk Open Dist k z = true := by
              have h9 := par_test (Open := Open) (Dist := Dist) (k := k) (z := z)
              rw [b2] at h9
              revert h9; cases parOk Open Dist k z <;> simp
            obtain ⟨hg, hk, hz⟩ := parOk_facts hq
            have up := upS_pos (Open := Open) (k := k) hk
            have ul := upS_len hg (k := k)
            have := (set_two hg (upS_mem h3)).2
            omega
        · refine s_l5Partial_pc Open Dist best z ?_ ?_
          · have hq : parOk Open Dist k z = true := by
              have h9 := par_test (Open := Open) (Dist := Dist) (k := k) (z := z)
              rw [b2] at h9
              revert h9; cases parOk Open Dist k z <;> simp
            obtain ⟨hg, hk, hz⟩ := parOk_facts hq
            have up := upS_pos (Open := Open) (k := k) hk
            have ul := upS_len hg (k := k)
            exact (set_two hg (upS_mem h3)).1
          · have hq : parOk Open Dist k z = true := by
              have h9 := par_test (Open := Open) (Dist := Dist) (k := k) (z := z)
              rw [b2] at h9
              revert h9; cases parOk Open Dist k z <;> simp
            obtain ⟨hg, hk, hz⟩ := parOk_facts hq
            have up := upS_pos (Open := Open) (k := k) hk
            have ul := upS_len hg (k := k)
            exact hz
        · have hq : parOk Open Dist k z = true := by
            have h9 := par_test (Open := Open) (Dist := Dist) (k := k) (z := z)
            rw [b2] at h9
            revert h9; cases parOk Open Dist k z <;> simp
          obtain ⟨hg, hk, hz⟩ := parOk_facts hq
          have up := upS_pos (Open := Open) (k := k) hk
          have ul := upS_len hg (k := k)
          unfold parL; rw [if_pos hq, h4, take_all (by omega)]; rfl
        · have hq : parOk Open Dist k z = true := by
            have h9 := par_test (Open := Open) (Dist := Dist) (k := k) (z := z)
            rw [b2] at h9
            revert h9; cases parOk Open Dist k z <;> simp
          obtain ⟨hg, hk, hz⟩ := parOk_facts hq
          have up := upS_pos (Open := Open) (k := k) hk
          have ul := upS_len hg (k := k)
          unfold parV; rw [if_pos hq, h4, take_all (by omega)]; rfl
        · have hq : parOk Open Dist k z = true := by
            have h9 := par_test (Open := Open) (Dist := Dist) (k := k) (z := z)
            rw [b2] at h9
            revert h9; cases parOk Open Dist k z <;> simp
          obtain ⟨hg, hk, hz⟩ := parOk_facts hq
          have up := upS_pos (Open := Open) (k := k) hk
          have ul := upS_len hg (k := k)
          exact hq.symm
theorem s_BestPartial_pc (Open : List Int) (Dist : List (List Int)) (k : Int) (z : Int)  : PC Try.prog 58 [.agg [.sl (.ints Open), .sl (.rows Dist)], .int .i64 k, .int .i64 z] (.tup [.own 3 (.ints (parL Open Dist k z)), .d (.int .i64 (parV Open Dist k z)), .d (.bool (parOk Open Dist k z))]) :=
  pc_wf @Try.call58 fun hw => pc_by (by kernel_rfl) Try.func58 @Try.call58 (by kernel_rfl) s_BestPartial_C (s_BestPartial_A Open Dist k z) (by kernel_rfl) (s_BestPartial_vc Open Dist k z hw.1.1 hw.1.2.1.1 hw.1.2.1.2) (by kernel_rfl)
def s_BestPartial_orc : List D → Orc := orcN [none, none, none] fun ds => match ds with
  | [.agg [.sl (.ints Open), .sl (.rows Dist)], .int .i64 k, .int .i64 z] => some (.tup [.own 3 (.ints (parL Open Dist k z)), .d (.int .i64 (parV Open Dist k z)), .d (.bool (parOk Open Dist k z))])
  | _ => none
def i_BestPartial_C (f : FuncId) (ds : List D) : Orc := bif Nat.beq f 95 then i_isMedianCase_orc ds else bif Nat.beq f 82 then i_between_orc ds else bif Nat.beq f 122 then i_Field_upTo_orc ds else bif Nat.beq f 111 then i_least_part_orc ds else bif Nat.beq f 124 then i_Field_partial_orc ds else .no
def i_BestPartial_A (Open : List Int) (Dist : List (List Int)) (k : Int) (z : Int) : Ann := .none
def i_BestPartial_P (Open : List Int) (Dist : List (List Int)) (k : Int) (z : Int) : Prop :=
  (PC Try.prog 95 [.agg [.sl (.ints Open), .sl (.rows Dist)], .int .i64 k] (.one (.d (.bool (goodField Open Dist && inB k 1 (Open.length : Int)))))) ∧ ((!(!(goodField Open Dist && inB k 1 (Open.length : Int)))) = true → (!(!(goodField Open Dist && inB k 1 (Open.length : Int)))) = true) ∧ ((!(!(goodField Open Dist && inB k 1 (Open.length : Int)))) = true → PC Try.prog 82 [.int .i64 z, .int .i64 0, .int .i64 7] (.one (.d (.bool (inB z 0 7))))) ∧ ((!(!(goodField Open Dist && inB k 1 (Open.length : Int)))) = true → (!(!(goodField Open Dist && inB k 1 (Open.length : Int)))) = true) ∧ (true = true) ∧ (((!(goodField Open Dist && inB k 1 (Open.length : Int))) = true → true = true)) ∧ (((!(goodField Open Dist && inB k 1 (Open.length : Int))) = false → (!(!(goodField Open Dist && inB k 1 (Open.length : Int)))) = true)) ∧ (((cond (!(goodField Open Dist && inB k 1 (Open.length : Int))) true (!(inB z 0 7))) = true → (((parL Open Dist k z).length = 0) ∧ ((0 : Int) = (parV Open Dist k z)) ∧ (false = (parOk Open Dist k z)))) ∧ ((cond (!(goodField Open Dist && inB k 1 (Open.length : Int))) true (!(inB z 0 7))) = false → (PC Try.prog 122 [.agg [.sl (.ints Open), .sl (.rows Dist)], .int .i64 k] (.one (.d (.sl (.rows (upS Open k)))))) ∧ (PCs Try.prog 111 [.sl (.rows (upS Open k)), .fn 123 0 [.bx [.sl (.ints Open), .sl (.rows Dist)] 0, .bx [.int .i64 z] 0]] 0 (.sl (.ints (leastL (fun s9 => partOf Dist s9 z) (upS Open k))))) ∧ (PC Try.prog 124 [.agg [.sl (.ints Open), .sl (.rows Dist)], .sl (.ints (leastL (fun s9 => partOf Dist s9 z) (upS Open k))), .int .i64 z] (.one (.d (.int .i64 (partOf Dist (leastL (fun s9 => partOf Dist s9 z) (upS Open k)) z))))) ∧ ((((leastL (fun s9 => partOf Dist s9 z) (upS Open k)) : List Int) = (parL Open Dist k z)) ∧ ((partOf Dist (leastL (fun s9 => partOf Dist s9 z) (upS Open k)) z) = (parV Open Dist k z)) ∧ (true = (parOk Open Dist k z)))))
theorem i_BestPartial_vc (Open : List Int) (Dist : List (List Int)) (k : Int) (z : Int)  (w_Open : (Open.length : Int) ≤ 9223372036854775807) (w_Dist : (Dist.length : Int) ≤ 9223372036854775807) (v_Dist : ∀ x9 ∈ Dist, (x9.length : Int) ≤ 9223372036854775807) : i_BestPartial_P Open Dist k z := by
  unfold i_BestPartial_P
  refine ⟨i_isMedianCase_pc Open Dist k, id, fun _ => i_between_pc z 0 7, id, rfl, fun _ => rfl, ?_, ?_, ?_⟩
  · intro h; rw [h]; rfl
  · intro b1
    refine ⟨?_, ?_, ?_⟩
    · have hq : parOk Open Dist k z = false := by
        have h9 := par_test (Open := Open) (Dist := Dist) (k := k) (z := z)
        rw [b1] at h9
        revert h9; cases parOk Open Dist k z <;> simp
      unfold parL; rw [hq]; rfl
    · have hq : parOk Open Dist k z = false := by
        have h9 := par_test (Open := Open) (Dist := Dist) (k := k) (z := z)
        rw [b1] at h9
        revert h9; cases parOk Open Dist k z <;> simp
      unfold parV; rw [hq]; rfl
    · have hq : parOk Open Dist k z = false := by
        have h9 := par_test (Open := Open) (Dist := Dist) (k := k) (z := z)
        rw [b1] at h9
        revert h9; cases parOk Open Dist k z <;> simp
      exact hq.symm
  · intro b2
    refine ⟨?_, ?_, ?_, ?_, ?_, ?_⟩
    · refine i_Field_upTo_pc Open Dist k ?_ ?_
      · have hq : parOk Open Dist k z = true := by
          have h9 := par_test (Open := Open) (Dist := Dist) (k := k) (z := z)
          rw [b2] at h9
          revert h9; cases parOk Open Dist k z <;> simp
        obtain ⟨hg, hk, hz⟩ := parOk_facts hq
        have up := upS_pos (Open := Open) (k := k) hk
        have ul := upS_len hg (k := k)
        exact hg
      · have hq : parOk Open Dist k z = true := by
          have h9 := par_test (Open := Open) (Dist := Dist) (k := k) (z := z)
          rw [b2] at h9
          revert h9; cases parOk Open Dist k z <;> simp
        obtain ⟨hg, hk, hz⟩ := parOk_facts hq
        have up := upS_pos (Open := Open) (k := k) hk
        have ul := upS_len hg (k := k)
        exact hk
    · refine i_least_part_pc (upS Open k) Open Dist z ?_ ?_
      · have hq : parOk Open Dist k z = true := by
          have h9 := par_test (Open := Open) (Dist := Dist) (k := k) (z := z)
          rw [b2] at h9
          revert h9; cases parOk Open Dist k z <;> simp
        obtain ⟨hg, hk, hz⟩ := parOk_facts hq
        have up := upS_pos (Open := Open) (k := k) hk
        have ul := upS_len hg (k := k)
        omega
      · have hq : parOk Open Dist k z = true := by
          have h9 := par_test (Open := Open) (Dist := Dist) (k := k) (z := z)
          rw [b2] at h9
          revert h9; cases parOk Open Dist k z <;> simp
        obtain ⟨hg, hk, hz⟩ := parOk_facts hq
        have up := upS_pos (Open := Open) (k := k) hk
        have ul := upS_len hg (k := k)
        intro s hs
        exact ⟨(set_two hg (upS_mem hs)).1, hz⟩
    · refine i_Field_partial_pc Open Dist (leastL (fun s9 => partOf Dist s9 z) (upS Open k)) z ?_ ?_
      · have hq : parOk Open Dist k z = true := by
          have h9 := par_test (Open := Open) (Dist := Dist) (k := k) (z := z)
          rw [b2] at h9
          revert h9; cases parOk Open Dist k z <;> simp
        obtain ⟨hg, hk, hz⟩ := parOk_facts hq
        have up := upS_pos (Open := Open) (k := k) hk
        have ul := upS_len hg (k := k)
        exact (set_two hg (parS_in (Dist := Dist) (z := z) hk)).1
      · have hq : parOk Open Dist k z = true := by
          have h9 := par_test (Open := Open) (Dist := Dist) (k := k) (z := z)
          rw [b2] at h9
          revert h9; cases parOk Open Dist k z <;> simp
        obtain ⟨hg, hk, hz⟩ := parOk_facts hq
        have up := upS_pos (Open := Open) (k := k) hk
        have ul := upS_len hg (k := k)
        exact hz
    · have hq : parOk Open Dist k z = true := by
        have h9 := par_test (Open := Open) (Dist := Dist) (k := k) (z := z)
        rw [b2] at h9
        revert h9; cases parOk Open Dist k z <;> simp
      obtain ⟨hg, hk, hz⟩ := parOk_facts hq
      have up := upS_pos (Open := Open) (k := k) hk
      have ul := upS_len hg (k := k)
      unfold parL; rw [if_pos hq]; rfl
    · have hq : parOk Open Dist k z = true := by
        have h9 := par_test (Open := Open) (Dist := Dist) (k := k) (z := z)
        rw [b2] at h9
        revert h9; cases parOk Open Dist k z <;> simp
      obtain ⟨hg, hk, hz⟩ := parOk_facts hq
      have up := upS_pos (Open := Open) (k := k) hk
      have ul := upS_len hg (k := k)
      unfold parV; rw [if_pos hq]; rfl
    · have hq : parOk Open Dist k z = true := by
        have h9 := par_test (Open := Open) (Dist := Dist) (k := k) (z := z)
        rw [b2] at h9
        revert h9; cases parOk Open Dist k z <;> simp
      obtain ⟨hg, hk, hz⟩ := parOk_facts hq
      have up := upS_pos (Open := Open) (k := k) hk
      have ul := upS_len hg (k := k)
      exact hq.symm
theorem i_BestPartial_pc (Open : List Int) (Dist : List (List Int)) (k : Int) (z : Int)  : PC Try.prog 59 [.agg [.sl (.ints Open), .sl (.rows Dist)], .int .i64 k, .int .i64 z] (.tup [.d (.sl (.ints (parL Open Dist k z))), .d (.int .i64 (parV Open Dist k z)), .d (.bool (parOk Open Dist k z))]) :=
  pc_wf @Try.call59 fun hw => pc_by (by kernel_rfl) Try.func59 @Try.call59 (by kernel_rfl) i_BestPartial_C (i_BestPartial_A Open Dist k z) (by kernel_rfl) (i_BestPartial_vc Open Dist k z hw.1.1 hw.1.2.1.1 hw.1.2.1.2) (by kernel_rfl)
def l_FnExactBestPartial_C (f : FuncId) (ds : List D) : Orc := bif Nat.beq f 27 then l_szField_orc ds else bif Nat.beq f 29 then l_toField_orc ds else bif Nat.beq f 58 then s_BestPartial_orc ds else bif Nat.beq f 24 then l_eqIntS_orc ds else bif Nat.beq f 32 then l_eqField_orc ds else bif Nat.beq f 26 then l_heldIntS_orc ds else .no
def l_FnExactBestPartial_A (Open : List Int) (Dist : List (List Int)) (k : Int) (z : Int) : Ann := .two (.none) (.two (.none) (.two (.none) (.two (.none) (.two (.reg [(1, .g)]) (.two (.reg [(1, .g)]) (.two (.mark [] 3 (.vcall (.tup [.d (.sl (.ints (parL Open Dist k z))), .d (.int .i64 (parV Open Dist k z)), .d (.bool (parOk Open Dist k z))]))) (.two (.none) (.two (.two (.reg [(2, .g)]) (.none)) (.two (.none) (.two (.mark [] 2 (.kill (1 + (Open.length : Int) + ((Dist.map List.length).sum : Int)))) (.two (.none) (.two (.none) (.two (.mark [] 2 (.wv (marks 1 (parL Open Dist k z).length) (1 + ((parL Open Dist k z).length : Int)))) (.two (.none) (.two (.none) (.two (.none) (.two (.none) (.two (.mark [(1, .g)] 4 (.vcall (.tup [.d (.sl (.ints (parL Open Dist k z))), .d (.int .i64 (parV Open Dist k z)), .d (.bool (parOk Open Dist k z))]))) (.none)))))))))))))))))))
def l_FnExactBestPartial_P (Open : List Int) (Dist : List (List Int)) (k : Int) (z : Int) : Prop :=
  (PC Try.prog 27 [.agg [.sl (.ints Open), .sl (.rows Dist)], .int .i64 1048576] (.one (.d (.int .i64 (szField Open Dist 1048576))))) ∧ (((decide ((szField Open Dist 1048576) < 0)) = true → ((true = true))) ∧ ((decide ((szField Open Dist 1048576) < 0)) = false → (PC Try.prog 29 [.agg [.sl (.ints Open), .sl (.rows Dist)]] (.one (.d (.agg [.sl (.ints Open), .sl (.rows Dist)])))) ∧ (PC Try.prog 58 [.agg [.sl (.ints Open), .sl (.rows Dist)], .int .i64 k, .int .i64 z] (.tup [.own 3 (.ints (parL Open Dist k z)), .d (.int .i64 (parV Open Dist k z)), .d (.bool (parOk Open Dist k z))])) ∧ (PC Try.prog 29 [.agg [.sl (.ints Open), .sl (.rows Dist)]] (.one (.d (.agg [.sl (.ints Open), .sl (.rows Dist)])))) ∧ (PC Try.prog 59 [.agg [.sl (.ints Open), .sl (.rows Dist)], .int .i64 k, .int .i64 z] (.tup [.d (.sl (.ints (parL Open Dist k z))), .d (.int .i64 (parV Open Dist k z)), .d (.bool (parOk Open Dist k z))])) ∧ ((parL Open Dist k z).length = (parL Open Dist k z).length) ∧ ((parL Open Dist k z).length = (parL Open Dist k z).length) ∧ (PC Try.prog 24 [.sl (.ints (parL Open Dist k z)), .sl (.ints (parL Open Dist k z))] (.one (.d (.bool ((parL Open Dist k z) == (parL Open Dist k z)))))) ∧ ((!(!((parL Open Dist k z) == (parL Open Dist k z)))) = true → (!(!((parL Open Dist k z) == (parL Open Dist k z)))) = true) ∧ ((!(!((parL Open Dist k z) == (parL Open Dist k z)))) = true → (!(!((parL Open Dist k z) == (parL Open Dist k z)))) = true) ∧ (true = true) ∧ (((!((parL Open Dist k z) == (parL Open Dist k z))) = true → true = true)) ∧ (((!((parL Open Dist k z) == (parL Open Dist k z))) = false → (!(!((parL Open Dist k z) == (parL Open Dist k z)))) = true)) ∧ ((!(cond (!((parL Open Dist k z) == (parL Open Dist k z))) true ((parV Open Dist k z) != (parV Open Dist k z)))) = true → (!(cond (!((parL Open Dist k z) == (parL Open Dist k z))) true ((parV Open Dist k z) != (parV Open Dist k z)))) = true) ∧ ((!(cond (!((parL Open Dist k z) == (parL Open Dist k z))) true ((parV Open Dist k z) != (parV Open Dist k z)))) = true → (!(cond (!((parL Open Dist k z) == (parL Open Dist k z))) true ((parV Open Dist k z) != (parV Open Dist k z)))) = true) ∧ (true = true) ∧ (((cond (!((parL Open Dist k z) == (parL Open Dist k z))) true ((parV Open Dist k z) != (parV Open Dist k z))) = true → true = true)) ∧ (((cond (!((parL Open Dist k z) == (parL Open Dist k z))) true ((parV Open Dist k z) != (parV Open Dist k z))) = false → (!(cond (!((parL Open Dist k z) == (parL Open Dist k z))) true ((parV Open Dist k z) != (parV Open Dist k z)))) = true)) ∧ (((cond (cond (!((parL Open Dist k z) == (parL Open Dist k z))) true ((parV Open Dist k z) != (parV Open Dist k z))) true ((parOk Open Dist k z) != (parOk Open Dist k z))) = true → ((false = true))) ∧ ((cond (cond (!((parL Open Dist k z) == (parL Open Dist k z))) true ((parV Open Dist k z) != (parV Open Dist k z))) true ((parOk Open Dist k z) != (parOk Open Dist k z))) = false → (true = true) ∧ (PC Try.prog 29 [.agg [.sl (.ints Open), .sl (.rows Dist)]] (.one (.d (.agg [.sl (.ints Open), .sl (.rows Dist)])))) ∧ (PC Try.prog 32 [.agg [.sl (.ints Open), .sl (.rows Dist)], .agg [.sl (.ints Open), .sl (.rows Dist)]] (.one (.d (.bool ((Open == Open) && (Dist == Dist)))))) ∧ (((!((Open == Open) && (Dist == Dist))) = true → ((false = true))) ∧ ((!((Open == Open) && (Dist == Dist))) = false → (PG Try.prog 33 [.agg [.ints Open.length, .rows (Dist.map List.length)], .int 1] (1 + (Open.length : Int) + ((Dist.map List.length).sum : Int))) ∧ ((!(decide ((1 + (Open.length : Int) + ((Dist.map List.length).sum : Int)) < 0))) = true → (!(decide ((1 + (Open.length : Int) + ((Dist.map List.length).sum : Int)) < 0))) = true) ∧ ((!(decide ((1 + (Open.length : Int) + ((Dist.map List.length).sum : Int)) < 0))) = true → (!(decide ((1 + (Open.length : Int) + ((Dist.map List.length).sum : Int)) < 0))) = true) ∧ (((!(decide ((1 + (Open.length : Int) + ((Dist.map List.length).sum : Int)) < 0))) = true → (parL Open Dist k z).length = (parL Open Dist k z).length)) ∧ (((!(decide ((1 + (Open.length : Int) + ((Dist.map List.length).sum : Int)) < 0))) = true → (parL Open Dist k z).length = (parL Open Dist k z).length)) ∧ ((!(decide ((1 + (Open.length : Int) + ((Dist.map List.length).sum : Int)) < 0))) = true → PC Try.prog 24 [.sl (.ints (parL Open Dist k z)), .sl (.ints (parL Open Dist k z))] (.one (.d (.bool ((parL Open Dist k z) == (parL Open Dist k z)))))) ∧ ((!(decide ((1 + (Open.length : Int) + ((Dist.map List.length).sum : Int)) < 0))) = true → (!(decide ((1 + (Open.length : Int) + ((Dist.map List.length).sum : Int)) < 0))) = true) ∧ (true = true) ∧ (((decide ((1 + (Open.length : Int) + ((Dist.map List.length).sum : Int)) < 0)) = true → true = true)) ∧ (((decide ((1 + (Open.length : Int) + ((Dist.map List.length).sum : Int)) < 0)) = false → (!(decide ((1 + (Open.length : Int) + ((Dist.map List.length).sum : Int)) < 0))) = true)) ∧ ((!(cond (decide ((1 + (Open.length : Int) + ((Dist.map List.length).sum : Int)) < 0)) true (!((parL Open Dist k z) == (parL Open Dist k z))))) = true → (!(cond (decide ((1 + (Open.length : Int) + ((Dist.map List.length).sum : Int)) < 0)) true (!((parL Open Dist k z) == (parL Open Dist k z))))) = true) ∧ ((!(cond (decide ((1 + (Open.length : Int) + ((Dist.map List.length).sum : Int)) < 0)) true (!((parL Open Dist k z) == (parL Open Dist k z))))) = true → (!(cond (decide ((1 + (Open.length : Int) + ((Dist.map List.length).sum : Int)) < 0)) true (!((parL Open Dist k z) == (parL Open Dist k z))))) = true) ∧ (true = true) ∧ (((cond (decide ((1 + (Open.length : Int) + ((Dist.map List.length).sum : Int)) < 0)) true (!((parL Open Dist k z) == (parL Open Dist k z)))) = true → true = true)) ∧ (((cond (decide ((1 + (Open.length : Int) + ((Dist.map List.length).sum : Int)) < 0)) true (!((parL Open Dist k z) == (parL Open Dist k z)))) = false → (!(cond (decide ((1 + (Open.length : Int) + ((Dist.map List.length).sum : Int)) < 0)) true (!((parL Open Dist k z) == (parL Open Dist k z))))) = true)) ∧ ((!(cond (cond (decide ((1 + (Open.length : Int) + ((Dist.map List.length).sum : Int)) < 0)) true (!((parL Open Dist k z) == (parL Open Dist k z)))) true ((parV Open Dist k z) != (parV Open Dist k z)))) = true → (!(cond (cond (decide ((1 + (Open.length : Int) + ((Dist.map List.length).sum : Int)) < 0)) true (!((parL Open Dist k z) == (parL Open Dist k z)))) true ((parV Open Dist k z) != (parV Open Dist k z)))) = true) ∧ ((!(cond (cond (decide ((1 + (Open.length : Int) + ((Dist.map List.length).sum : Int)) < 0)) true (!((parL Open Dist k z) == (parL Open Dist k z)))) true ((parV Open Dist k z) != (parV Open Dist k z)))) = true → (!(cond (cond (decide ((1 + (Open.length : Int) + ((Dist.map List.length).sum : Int)) < 0)) true (!((parL Open Dist k z) == (parL Open Dist k z)))) true ((parV Open Dist k z) != (parV Open Dist k z)))) = true) ∧ (true = true) ∧ (((cond (cond (decide ((1 + (Open.length : Int) + ((Dist.map List.length).sum : Int)) < 0)) true (!((parL Open Dist k z) == (parL Open Dist k z)))) true ((parV Open Dist k z) != (parV Open Dist k z))) = true → true = true)) ∧ (((cond (cond (decide ((1 + (Open.length : Int) + ((Dist.map List.length).sum : Int)) < 0)) true (!((parL Open Dist k z) == (parL Open Dist k z)))) true ((parV Open Dist k z) != (parV Open Dist k z))) = false → (!(cond (cond (decide ((1 + (Open.length : Int) + ((Dist.map List.length).sum : Int)) < 0)) true (!((parL Open Dist k z) == (parL Open Dist k z)))) true ((parV Open Dist k z) != (parV Open Dist k z)))) = true)) ∧ (((cond (cond (cond (decide ((1 + (Open.length : Int) + ((Dist.map List.length).sum : Int)) < 0)) true (!((parL Open Dist k z) == (parL Open Dist k z)))) true ((parV Open Dist k z) != (parV Open Dist k z))) true ((parOk Open Dist k z) != (parOk Open Dist k z))) = true → ((false = true))) ∧ ((cond (cond (cond (decide ((1 + (Open.length : Int) + ((Dist.map List.length).sum : Int)) < 0)) true (!((parL Open Dist k z) == (parL Open Dist k z)))) true ((parV Open Dist k z) != (parV Open Dist k z))) true ((parOk Open Dist k z) != (parOk Open Dist k z))) = false → ((parL Open Dist k z).length = (parL Open Dist k z).length) ∧ ((marks 1 (parL Open Dist k z).length).length = (parL Open Dist k z).length) ∧ (PX Try.prog 25 (parL Open Dist k z) (marks 1 (parL Open Dist k z).length) 1 (1 + ((parL Open Dist k z).length : Int))) ∧ ((parL Open Dist k z).length = (marks 1 (parL Open Dist k z).length).length) ∧ (PC Try.prog 26 [.sl (.ints (marks 1 (parL Open Dist k z).length)), .int .i64 1] (.one (.d (.int .i64 (1 + ((marks 1 (parL Open Dist k z).length).length : Int)))))) ∧ (((decide ((1 + ((marks 1 (parL Open Dist k z).length).length : Int)) < 0)) = true → ((false = true))) ∧ ((decide ((1 + ((marks 1 (parL Open Dist k z).length).length : Int)) < 0)) = false → ((((1 + ((marks 1 (parL Open Dist k z).length).length : Int)) != (1 + ((parL Open Dist k z).length : Int))) = true → ((false = true))) ∧ (((1 + ((marks 1 (parL Open Dist k z).length).length : Int)) != (1 + ((parL Open Dist k z).length : Int))) = false → (PC Try.prog 29 [.agg [.sl (.ints Open), .sl (.rows Dist)]] (.one (.d (.agg [.sl (.ints Open), .sl (.rows Dist)])))) ∧ (PC Try.prog 59 [.agg [.sl (.ints Open), .sl (.rows Dist)], .int .i64 k, .int .i64 z] (.tup [.d (.sl (.ints (parL Open Dist k z))), .d (.int .i64 (parV Open Dist k z)), .d (.bool (parOk Open Dist k z))])) ∧ ((parL Open Dist k z).length = (parL Open Dist k z).length) ∧ ((parL Open Dist k z).length = (parL Open Dist k z).length) ∧ (PC Try.prog 24 [.sl (.ints (parL Open Dist k z)), .sl (.ints (parL Open Dist k z))] (.one (.d (.bool ((parL Open Dist k z) == (parL Open Dist k z)))))) ∧ ((!(!((parL Open Dist k z) == (parL Open Dist k z)))) = true → (!(!((parL Open Dist k z) == (parL Open Dist k z)))) = true) ∧ ((!(!((parL Open Dist k z) == (parL Open Dist k z)))) = true → (!(!((parL Open Dist k z) == (parL Open Dist k z)))) = true) ∧ (true = true) ∧ (((!((parL Open Dist k z) == (parL Open Dist k z))) = true → true = true)) ∧ (((!((parL Open Dist k z) == (parL Open Dist k z))) = false → (!(!((parL Open Dist k z) == (parL Open Dist k z)))) = true)) ∧ ((!(cond (!((parL Open Dist k z) == (parL Open Dist k z))) true ((parV Open Dist k z) != (parV Open Dist k z)))) = true → (!(cond (!((parL Open Dist k z) == (parL Open Dist k z))) true ((parV Open Dist k z) != (parV Open Dist k z)))) = true) ∧ ((!(cond (!((parL Open Dist k z) == (parL Open Dist k z))) true ((parV Open Dist k z) != (parV Open Dist k z)))) = true → (!(cond (!((parL Open Dist k z) == (parL Open Dist k z))) true ((parV Open Dist k z) != (parV Open Dist k z)))) = true) ∧ (true = true) ∧ (((cond (!((parL Open Dist k z) == (parL Open Dist k z))) true ((parV Open Dist k z) != (parV Open Dist k z))) = true → true = true)) ∧ (((cond (!((parL Open Dist k z) == (parL Open Dist k z))) true ((parV Open Dist k z) != (parV Open Dist k z))) = false → (!(cond (!((parL Open Dist k z) == (parL Open Dist k z))) true ((parV Open Dist k z) != (parV Open Dist k z)))) = true)) ∧ (((cond (cond (!((parL Open Dist k z) == (parL Open Dist k z))) true ((parV Open Dist k z) != (parV Open Dist k z))) true ((parOk Open Dist k z) != (parOk Open Dist k z))) = true → ((false = true))) ∧ ((cond (cond (!((parL Open Dist k z) == (parL Open Dist k z))) true ((parV Open Dist k z) != (parV Open Dist k z))) true ((parOk Open Dist k z) != (parOk Open Dist k z))) = false → ((parL Open Dist k z).length = (marks 1 (parL Open Dist k z).length).length) ∧ (PC Try.prog 26 [.sl (.ints (marks 1 (parL Open Dist k z).length)), .int .i64 1] (.one (.d (.int .i64 (1 + ((marks 1 (parL Open Dist k z).length).length : Int)))))) ∧ (((decide ((1 + ((marks 1 (parL Open Dist k z).length).length : Int)) < 0)) = true → ((false = true))) ∧ ((decide ((1 + ((marks 1 (parL Open Dist k z).length).length : Int)) < 0)) = false → ((((1 + ((marks 1 (parL Open Dist k z).length).length : Int)) != (1 + ((parL Open Dist k z).length : Int))) = true → ((false = true))) ∧ (((1 + ((marks 1 (parL Open Dist k z).length).length : Int)) != (1 + ((parL Open Dist k z).length : Int))) = false → ((true = true))))))))))))))))))))
theorem l_FnExactBestPartial_vc (Open : List Int) (Dist : List (List Int)) (k : Int) (z : Int)  (w_Open : (Open.length : Int) ≤ 9223372036854775807) (w_Dist : (Dist.length : Int) ≤ 9223372036854775807) (v_Dist : ∀ x9 ∈ Dist, (x9.length : Int) ≤ 9223372036854775807) : l_FnExactBestPartial_P Open Dist k z := by
  unfold l_FnExactBestPartial_P
  refine ⟨?_, ?_, ?_⟩
  · refine l_szField_pc Open Dist 1048576 ?_
    · first | omega | rfl | (intro hg; simp only [nrmT] at hg; omega) | (intro g1 g2; simp [g1, g2]; done) | (intro g1; simp at g1 ⊢; simp [g1]; done) | (simp only [nrmT] at *; omega) | (simp at * <;> omega) | (simp_all <;> omega) | (simp_all; done)
  · intro b1
    try simp only [nrmT] at b1
    exact rfl
  · intro b2
    try simp only [nrmT] at b2
    refine ⟨?_, s_BestPartial_pc Open Dist k z, ?_, i_BestPartial_pc Open Dist k z, rfl, rfl, l_eqIntS_pc (parL Open Dist k z) (parL Open Dist k z), id, id, rfl, fun _ => rfl, ?_, id, id, rfl, fun _ => rfl, ?_, ?_, ?_⟩
    · refine l_toField_pc Open Dist ?_ ?_ ?_
      · have := szField_bound b2; omega
      · have := szField_bound b2; omega
      · have h := (szField_bound b2).2.2
        intro xs hx
        have h := h xs hx
        omega
    · refine l_toField_pc Open Dist ?_ ?_ ?_
      · have := szField_bound b2; omega
      · have := szField_bound b2; omega
      · have h := (szField_bound b2).2.2
        intro xs hx
        have h := h xs hx
        omega
    · intro h; rw [h]; rfl
    · intro h; rw [h]; rfl
    · intro b3
      first | (exfalso; simp only [marks_len] at b3; omega) | (simp at b3; done) | (exfalso; simp only [marks_len] at b3; simp at b3; done) | omega | rfl | (intro hg; simp only [nrmT] at hg; omega) | (intro g1 g2; simp [g1, g2]; done) | (intro g1; simp at g1 ⊢; simp [g1]; done) | (simp only [nrmT] at *; omega) | (simp at * <;> omega) | (simp_all <;> omega) | (simp_all; done)
    · intro b4
      refine ⟨rfl, ?_, l_eqField_pc Open Dist Open Dist, ?_, ?_⟩
      · refine l_toField_pc Open Dist ?_ ?_ ?_
        · have := szField_bound b2; omega
        · have := szField_bound b2; omega
        · have h := (szField_bound b2).2.2
          intro xs hx
          have h := h xs hx
          omega
      · intro b5
        try simp only [Bool.not_eq_true', Bool.not_eq_false', Bool.not_not] at b5
        first | (exfalso; simp only [marks_len] at b5; omega) | (simp at b5; done) | (exfalso; simp only [marks_len] at b5; simp at b5; done) | omega | rfl | (intro hg; simp only [nrmT] at hg; omega) | (intro g1 g2; simp [g1, g2]; done) | (intro g1; simp at g1 ⊢; simp [g1]; done) | (simp only [nrmT] at *; omega) | (simp at * <;> omega) | (simp_all <;> omega) | (simp_all; done)
      · intro b6
        try simp only [Bool.not_eq_true', Bool.not_eq_false', Bool.not_not] at b6
        refine ⟨?_, id, id, fun _ => rfl, fun _ => rfl, fun _ => l_eqIntS_pc (parL Open Dist k z) (parL Open Dist k z), id, rfl, fun _ => rfl, ?_, id, id, rfl, fun _ => rfl, ?_, id, id, rfl, fun _ => rfl, ?_, ?_, ?_⟩
        · refine laws_markField_g_pg Open.length (Dist.map List.length) 1 ?_ ?_ ?_
          · first | omega | rfl | (intro hg; simp only [nrmT] at hg; omega) | (intro g1 g2; simp [g1, g2]; done) | (intro g1; simp at g1 ⊢; simp [g1]; done) | (simp only [nrmT] at *; omega) | (simp at * <;> omega) | (simp_all <;> omega) | (simp_all; done)
          · rw [List.length_map]; have hz := szField_bound b2; omega
          · have hz := szField_bound b2
            have hs := sum_lens20 (xss := Dist) (by omega) (fun xs hx => by have := hz.2.2 xs hx; omega)
            omega
        · first | omega | rfl | (intro hg; simp only [nrmT] at hg; omega) | (intro g1 g2; simp [g1, g2]; done) | (intro g1; simp at g1 ⊢; simp [g1]; done) | (simp only [nrmT] at *; omega) | (simp at * <;> omega) | (simp_all <;> omega) | (simp_all; done)
        · intro h; rw [h]; rfl
        · intro h; rw [h]; rfl
        · intro b7
          first | (exfalso; simp only [marks_len] at b7; omega) | (simp at b7; done) | (exfalso; simp only [marks_len] at b7; simp at b7; done) | omega | rfl | (intro hg; simp only [nrmT] at hg; omega) | (intro g1 g2; simp [g1, g2]; done) | (intro g1; simp at g1 ⊢; simp [g1]; done) | (simp only [nrmT] at *; omega) | (simp at * <;> omega) | (simp_all <;> omega) | (simp_all; done)
        · intro b8
          refine ⟨rfl, marks_len _ _, ?_, ?_, ?_, ?_, ?_⟩
          · refine laws_markIntS_w_px (parL Open Dist k z) 1 ?_ ?_
            · first | omega | rfl | (intro hg; simp only [nrmT] at hg; omega) | (intro g1 g2; simp [g1, g2]; done) | (intro g1; simp at g1 ⊢; simp [g1]; done) | (simp only [nrmT] at *; omega) | (simp at * <;> omega) | (simp_all <;> omega) | (simp_all; done)
            · have := @parL_len Open Dist k z
              omega
          · simp only [marks_len]
          · refine l_heldIntS_pc (marks 1 (parL Open Dist k z).length) 1 ?_ ?_ ?_
            · first | omega | rfl | (intro hg; simp only [nrmT] at hg; omega) | (intro g1 g2; simp [g1, g2]; done) | (intro g1; simp at g1 ⊢; simp [g1]; done) | (simp only [nrmT] at *; omega) | (simp at * <;> omega) | (simp_all <;> omega) | (simp_all; done)
            · simp only [marks_len]
            · simp only [marks_len]
              have := @parL_len Open Dist k z
              omega
          · intro b9
            try simp only [nrmT] at b9
            first | (exfalso; simp only [marks_len] at b9; omega) | (simp at b9; done) | (exfalso; simp only [marks_len] at b9; simp at b9; done) | omega | rfl | (intro hg; simp only [nrmT] at hg; omega) | (intro g1 g2; simp [g1, g2]; done) | (intro g1; simp at g1 ⊢; simp [g1]; done) | (simp only [nrmT] at *; omega) | (simp at * <;> omega) | (simp_all <;> omega) | (simp_all; done)
          · intro b10
            try simp only [nrmT] at b10
            refine ⟨?_, ?_⟩
            · intro b11
              try simp only [nrmT] at b11
              first | (exfalso; simp only [marks_len] at b11; omega) | (simp at b11; done) | (exfalso; simp only [marks_len] at b11; simp at b11; done) | omega | rfl | (intro hg; simp only [nrmT] at hg; omega) | (intro g1 g2; simp [g1, g2]; done) | (intro g1; simp at g1 ⊢; simp [g1]; done) | (simp only [nrmT] at *; omega) | (simp at * <;> omega) | (simp_all <;> omega) | (simp_all; done)
            · intro b12
              try simp only [nrmT] at b12
              refine ⟨?_, i_BestPartial_pc Open Dist k z, rfl, rfl, l_eqIntS_pc (parL Open Dist k z) (parL Open Dist k z), id, id, rfl, fun _ => rfl, ?_, id, id, rfl, fun _ => rfl, ?_, ?_, ?_⟩
              · refine l_toField_pc Open Dist ?_ ?_ ?_
                · have := szField_bound b2; omega
                · have := szField_bound b2; omega
                · have h := (szField_bound b2).2.2
                  intro xs hx
                  have h := h xs hx
                  omega
              · intro h; rw [h]; rfl
              · intro h; rw [h]; rfl
              · intro b13
                first | (exfalso; simp only [marks_len] at b13; omega) | (simp at b13; done) | (exfalso; simp only [marks_len] at b13; simp at b13; done) | omega | rfl | (intro hg; simp only [nrmT] at hg; omega) | (intro g1 g2; simp [g1, g2]; done) | (intro g1; simp at g1 ⊢; simp [g1]; done) | (simp only [nrmT] at *; omega) | (simp at * <;> omega) | (simp_all <;> omega) | (simp_all; done)
              · intro b14
                refine ⟨?_, ?_, ?_, ?_⟩
                · simp only [marks_len]
                · refine l_heldIntS_pc (marks 1 (parL Open Dist k z).length) 1 ?_ ?_ ?_
                  · first | omega | rfl | (intro hg; simp only [nrmT] at hg; omega) | (intro g1 g2; simp [g1, g2]; done) | (intro g1; simp at g1 ⊢; simp [g1]; done) | (simp only [nrmT] at *; omega) | (simp at * <;> omega) | (simp_all <;> omega) | (simp_all; done)
                  · simp only [marks_len]
                  · simp only [marks_len]
                    have := @parL_len Open Dist k z
                    omega
                · intro b15
                  try simp only [nrmT] at b15
                  first | (exfalso; simp only [marks_len] at b15; omega) | (simp at b15; done) | (exfalso; simp only [marks_len] at b15; simp at b15; done) | omega | rfl | (intro hg; simp only [nrmT] at hg; omega) | (intro g1 g2; simp [g1, g2]; done) | (intro g1; simp at g1 ⊢; simp [g1]; done) | (simp only [nrmT] at *; omega) | (simp at * <;> omega) | (simp_all <;> omega) | (simp_all; done)
                · intro b16
                  try simp only [nrmT] at b16
                  refine ⟨?_, ?_⟩
                  · intro b17
                    try simp only [nrmT] at b17
                    first | (exfalso; simp only [marks_len] at b17; omega) | (simp at b17; done) | (exfalso; simp only [marks_len] at b17; simp at b17; done) | omega | rfl | (intro hg; simp only [nrmT] at hg; omega) | (intro g1 g2; simp [g1, g2]; done) | (intro g1; simp at g1 ⊢; simp [g1]; done) | (simp only [nrmT] at *; omega) | (simp at * <;> omega) | (simp_all <;> omega) | (simp_all; done)
                  · intro b18
                    try simp only [nrmT] at b18
                    exact rfl
theorem l_FnExactBestPartial_pc (Open : List Int) (Dist : List (List Int)) (k : Int) (z : Int)  : PC Try.prog 15 [.agg [.sl (.ints Open), .sl (.rows Dist)], .int .i64 k, .int .i64 z] (.one (.d (.bool true))) :=
  pc_wf @Try.call15 fun hw => pc_by (by kernel_rfl) Try.func15 @Try.call15 (by kernel_rfl) l_FnExactBestPartial_C (l_FnExactBestPartial_A Open Dist k z) (by kernel_rfl) (l_FnExactBestPartial_vc Open Dist k z hw.1.1 hw.1.2.1.1 hw.1.2.1.2) (by kernel_rfl)
end Go.Proofs.Ytmmoejdglnnmcaa
