/- Contracts. -/
import Derived.Test.YtmcbcomcejgbcaaPw
import Derived.Test.YtmcbcomcejgbcaaProg
import Derived.Test.YtmcbcomcejgbcaaT8
import Derived.KernelRfl
set_option linter.unusedVariables false
set_option linter.unusedSimpArgs false
namespace Go.Proofs.Ytmcbcomcejgbcaa
open Go

def s_l2Set_C (f : FuncId) (ds : List D) : Orc := bif Nat.beq f 119 then s_l1Rising_orc ds else .no
def s_l2Set_A (Open : List Int) (Dist : List (List Int)) (set : List Int) : Ann := .none
def s_l2Set_P (Open : List Int) (Dist : List (List Int)) (set : List Int) : Prop :=
  (-9223372036854775808 ≤ ((Open.length : Int) - 1) ∧ ((Open.length : Int) - 1) ≤ 9223372036854775807) ∧ (PC Try.prog 119 [.sl (.ints set), .int .i64 0, .int .i64 ((Open.length : Int) - 1)] (.one (.d (.bool (rising set 0 ((Open.length : Int) - 1)))))) ∧ (((rising set 0 ((Open.length : Int) - 1)) = (rising set 0 ((Open.length : Int) - 1))))
theorem s_l2Set_vc (Open : List Int) (Dist : List (List Int)) (set : List Int)  (w_Open : (Open.length : Int) ≤ 9223372036854775807) (w_Dist : (Dist.length : Int) ≤ 9223372036854775807) (v_Dist : ∀ x9 ∈ Dist, (x9.length : Int) ≤ 9223372036854775807) (w_set : (set.length : Int) ≤ 9223372036854775807) : s_l2Set_P Open Dist set := by
  unfold s_l2Set_P
  refine ⟨?_, s_l1Rising_pc set 0 ((Open.length : Int) - 1), rfl⟩
  · first | omega | rfl | (intro hg; simp only [nrmT] at hg; omega) | (intro g1 g2; simp [g1, g2]; done) | (intro g1; simp at g1 ⊢; simp [g1]; done) | (simp only [nrmT] at *; omega) | (simp at * <;> omega) | (simp_all <;> omega) | (simp_all; done)
theorem s_l2Set_pc (Open : List Int) (Dist : List (List Int)) (set : List Int)  : PC Try.prog 167 [.agg [.sl (.ints Open), .sl (.rows Dist)], .sl (.ints set)] (.one (.d (.bool (rising set 0 ((Open.length : Int) - 1))))) :=
  pc_wf @Try.call167 fun hw => pc_by (by kernel_rfl) Try.func167 @Try.call167 (by kernel_rfl) s_l2Set_C (s_l2Set_A Open Dist set) (by kernel_rfl) (s_l2Set_vc Open Dist set hw.1.1 hw.1.2.1.1 hw.1.2.1.2 hw.2.1) (by kernel_rfl)
def s_l2Set_orc : List D → Orc := orcN [none, some .ints] fun ds => match ds with
  | [.agg [.sl (.ints Open), .sl (.rows Dist)], .sl (.ints set)] => some (.one (.d (.bool (rising set 0 ((Open.length : Int) - 1)))))
  | _ => none

def s_l2Two_C (f : FuncId) (ds : List D) : Orc := bif Nat.beq f 99 then s_l2Good_orc ds else bif Nat.beq f 167 then s_l2Set_orc ds else .no
def s_l2Two_A (Open : List Int) (Dist : List (List Int)) (set : List Int) : Ann := .none
def s_l2Two_P (Open : List Int) (Dist : List (List Int)) (set : List Int) : Prop :=
  (PC Try.prog 99 [.agg [.sl (.ints Open), .sl (.rows Dist)]] (.one (.d (.bool (goodField Open Dist))))) ∧ ((goodField Open Dist) = true → (goodField Open Dist) = true) ∧ ((goodField Open Dist) = true → (goodField Open Dist) = true) ∧ ((goodField Open Dist) = true → PC Try.prog 167 [.agg [.sl (.ints Open), .sl (.rows Dist)], .sl (.ints set)] (.one (.d (.bool (rising set 0 ((Open.length : Int) - 1)))))) ∧ (true = true) ∧ (((goodField Open Dist) = true → (goodField Open Dist) = true)) ∧ (((goodField Open Dist) = false → true = true)) ∧ ((cond (goodField Open Dist) (rising set 0 ((Open.length : Int) - 1)) false) = true → (cond (goodField Open Dist) (rising set 0 ((Open.length : Int) - 1)) false) = true) ∧ ((cond (goodField Open Dist) (rising set 0 ((Open.length : Int) - 1)) false) = true → (cond (goodField Open Dist) (rising set 0 ((Open.length : Int) - 1)) false) = true) ∧ (true = true) ∧ (((cond (goodField Open Dist) (rising set 0 ((Open.length : Int) - 1)) false) = true → (cond (goodField Open Dist) (rising set 0 ((Open.length : Int) - 1)) false) = true)) ∧ (((cond (goodField Open Dist) (rising set 0 ((Open.length : Int) - 1)) false) = false → true = true)) ∧ (((cond (cond (goodField Open Dist) (rising set 0 ((Open.length : Int) - 1)) false) (decide ((set.length : Int) > 0)) false) = (goodField Open Dist && rising set 0 ((Open.length : Int) - 1) && decide (0 < set.length))))
theorem s_l2Two_vc (Open : List Int) (Dist : List (List Int)) (set : List Int)  (w_Open : (Open.length : Int) ≤ 9223372036854775807) (w_Dist : (Dist.length : Int) ≤ 9223372036854775807) (v_Dist : ∀ x9 ∈ Dist, (x9.length : Int) ≤ 9223372036854775807) (w_set : (set.length : Int) ≤ 9223372036854775807) : s_l2Two_P Open Dist set := by
  unfold s_l2Two_P
  refine ⟨s_l2Good_pc Open Dist, id, id, fun _ => s_l2Set_pc Open Dist set, rfl, id, fun _ => rfl, id, id, rfl, id, fun _ => rfl, ?_⟩
  · rw [(show decide ((set.length : Int) > 0) = decide (0 < set.length) by rw [Bool.eq_iff_iff]; simp only [decide_eq_true_eq]; omega)]
    cases goodField Open Dist <;> cases rising set 0 ((Open.length : Int) - 1) <;> cases decide (0 < set.length) <;> rfl
theorem s_l2Two_pc (Open : List Int) (Dist : List (List Int)) (set : List Int)  : PC Try.prog 132 [.agg [.sl (.ints Open), .sl (.rows Dist)], .sl (.ints set)] (.one (.d (.bool (goodField Open Dist && rising set 0 ((Open.length : Int) - 1) && decide (0 < set.length))))) :=
  pc_wf @Try.call132 fun hw => pc_by (by kernel_rfl) Try.func132 @Try.call132 (by kernel_rfl) s_l2Two_C (s_l2Two_A Open Dist set) (by kernel_rfl) (s_l2Two_vc Open Dist set hw.1.1 hw.1.2.1.1 hw.1.2.1.2 hw.2.1) (by kernel_rfl)
def s_l2Two_orc : List D → Orc := orcN [none, some .ints] fun ds => match ds with
  | [.agg [.sl (.ints Open), .sl (.rows Dist)], .sl (.ints set)] => some (.one (.d (.bool (goodField Open Dist && rising set 0 ((Open.length : Int) - 1) && decide (0 < set.length)))))
  | _ => none

def i_Field_isSet_C (f : FuncId) (ds : List D) : Orc := bif Nat.beq f 90 then i_isRising_orc ds else .no
def i_Field_isSet_A (Open : List Int) (Dist : List (List Int)) (set : List Int) : Ann := .none
def i_Field_isSet_P (Open : List Int) (Dist : List (List Int)) (set : List Int) : Prop :=
  ((decide ((set.length : Int) > 0)) = true → (decide ((set.length : Int) > 0)) = true) ∧ ((decide ((set.length : Int) > 0)) = true → (decide ((set.length : Int) > 0)) = true) ∧ ((decide ((set.length : Int) > 0)) = true → (decide ((set.length : Int) > 0)) = true) ∧ ((decide ((set.length : Int) > 0)) = true → (decide ((set.length : Int) > 0)) = true) ∧ ((decide ((set.length : Int) > 0)) = true → PC Try.prog 90 [.sl (.ints set), .int .i64 (Open.length : Int)] (.one (.d (.bool (rising set 0 ((Open.length : Int) - 1)))))) ∧ (true = true) ∧ (((decide ((set.length : Int) > 0)) = true → (decide ((set.length : Int) > 0)) = true)) ∧ (((decide ((set.length : Int) > 0)) = false → true = true)) ∧ (((cond (decide ((set.length : Int) > 0)) (rising set 0 ((Open.length : Int) - 1)) false) = (rising set 0 ((Open.length : Int) - 1) && decide (0 < set.length))))
theorem i_Field_isSet_vc (Open : List Int) (Dist : List (List Int)) (set : List Int)  (w_Open : (Open.length : Int) ≤ 9223372036854775807) (w_Dist : (Dist.length : Int) ≤ 9223372036854775807) (v_Dist : ∀ x9 ∈ Dist, (x9.length : Int) ≤ 9223372036854775807) (w_set : (set.length : Int) ≤ 9223372036854775807) : i_Field_isSet_P Open Dist set := by
  unfold i_Field_isSet_P
  refine ⟨id, id, id, id, ?_, rfl, id, fun _ => rfl, ?_⟩
  · intro hg
    refine i_isRising_pc set (Open.length : Int) ?_
    · first | omega | rfl | (intro hg; simp only [nrmT] at hg; omega) | (intro g1 g2; simp [g1, g2]; done) | (intro g1; simp at g1 ⊢; simp [g1]; done) | (simp only [nrmT] at *; omega) | (simp at * <;> omega) | (simp_all <;> omega) | (simp_all; done)
  · rw [(show decide ((set.length : Int) > 0) = decide (0 < set.length) by rw [Bool.eq_iff_iff]; simp only [decide_eq_true_eq]; omega)]
    cases rising set 0 ((Open.length : Int) - 1) <;> cases decide (0 < set.length) <;> rfl
theorem i_Field_isSet_pc (Open : List Int) (Dist : List (List Int)) (set : List Int)  : PC Try.prog 170 [.agg [.sl (.ints Open), .sl (.rows Dist)], .sl (.ints set)] (.one (.d (.bool (rising set 0 ((Open.length : Int) - 1) && decide (0 < set.length))))) :=
  pc_wf @Try.call170 fun hw => pc_by (by kernel_rfl) Try.func170 @Try.call170 (by kernel_rfl) i_Field_isSet_C (i_Field_isSet_A Open Dist set) (by kernel_rfl) (i_Field_isSet_vc Open Dist set hw.1.1 hw.1.2.1.1 hw.1.2.1.2 hw.2.1) (by kernel_rfl)
def i_Field_isSet_orc : List D → Orc := orcN [none, some .ints] fun ds => match ds with
  | [.agg [.sl (.ints Open), .sl (.rows Dist)], .sl (.ints set)] => some (.one (.d (.bool (rising set 0 ((Open.length : Int) - 1) && decide (0 < set.length)))))
  | _ => none

def i_isOpened_C (f : FuncId) (ds : List D) : Orc := bif Nat.beq f 101 then i_IsField_orc ds else bif Nat.beq f 170 then i_Field_isSet_orc ds else .no
def i_isOpened_A (Open : List Int) (Dist : List (List Int)) (set : List Int) : Ann := .none
def i_isOpened_P (Open : List Int) (Dist : List (List Int)) (set : List Int) : Prop :=
  (PC Try.prog 101 [.agg [.sl (.ints Open), .sl (.rows Dist)]] (.one (.d (.bool (goodField Open Dist))))) ∧ ((goodField Open Dist) = true → (goodField Open Dist) = true) ∧ ((goodField Open Dist) = true → (goodField Open Dist) = true) ∧ ((goodField Open Dist) = true → PC Try.prog 170 [.agg [.sl (.ints Open), .sl (.rows Dist)], .sl (.ints set)] (.one (.d (.bool (rising set 0 ((Open.length : Int) - 1) && decide (0 < set.length)))))) ∧ (true = true) ∧ (((goodField Open Dist) = true → (goodField Open Dist) = true)) ∧ (((goodField Open Dist) = false → true = true)) ∧ (((cond (goodField Open Dist) (rising set 0 ((Open.length : Int) - 1) && decide (0 < set.length)) false) = (goodField Open Dist && rising set 0 ((Open.length : Int) - 1) && decide (0 < set.length))))
theorem i_isOpened_vc (Open : List Int) (Dist : List (List Int)) (set : List Int)  (w_Open : (Open.length : Int) ≤ 9223372036854775807) (w_Dist : (Dist.length : Int) ≤ 9223372036854775807) (v_Dist : ∀ x9 ∈ Dist, (x9.length : Int) ≤ 9223372036854775807) (w_set : (set.length : Int) ≤ 9223372036854775807) : i_isOpened_P Open Dist set := by
  unfold i_isOpened_P
  refine ⟨i_IsField_pc Open Dist, id, id, fun _ => i_Field_isSet_pc Open Dist set, rfl, id, fun _ => rfl, ?_⟩
  · cases goodField Open Dist <;> cases rising set 0 ((Open.length : Int) - 1) <;> cases decide (0 < set.length) <;> rfl
theorem i_isOpened_pc (Open : List Int) (Dist : List (List Int)) (set : List Int)  : PC Try.prog 134 [.agg [.sl (.ints Open), .sl (.rows Dist)], .sl (.ints set)] (.one (.d (.bool (goodField Open Dist && rising set 0 ((Open.length : Int) - 1) && decide (0 < set.length))))) :=
  pc_wf @Try.call134 fun hw => pc_by (by kernel_rfl) Try.func134 @Try.call134 (by kernel_rfl) i_isOpened_C (i_isOpened_A Open Dist set) (by kernel_rfl) (i_isOpened_vc Open Dist set hw.1.1 hw.1.2.1.1 hw.1.2.1.2 hw.2.1) (by kernel_rfl)
def i_isOpened_orc : List D → Orc := orcN [none, some .ints] fun ds => match ds with
  | [.agg [.sl (.ints Open), .sl (.rows Dist)], .sl (.ints set)] => some (.one (.d (.bool (goodField Open Dist && rising set 0 ((Open.length : Int) - 1) && decide (0 < set.length)))))
  | _ => none

def offAt (Dist : List (List Int)) (set w : List Int) (c : Int) (k : Nat) : Int := (Dist.getD c.toNat []).getD (set.getD k 0).toNat 0 + w.getD (set.getD k 0).toNat 0
def offTo (Dist : List (List Int)) (set w : List Int) (c : Int) (k : Nat) : Int := foldTo (fun b k => min b (offAt Dist set w c k)) (offAt Dist set w c 0) k
theorem offTo_le {Dist : List (List Int)} {set w : List Int} {c u : Int} : ∀ k, 0 < k → (u ≤ offTo Dist set w c k ↔ ∀ j, j < k → u ≤ offAt Dist set w c j)
  | 0, h => by omega
  | k + 1, _ => by
    have e : offTo Dist set w c (k + 1) = min (offTo Dist set w c k) (offAt Dist set w c k) := rfl
    rw [e, Int.le_min]
    by_cases hk : 0 < k
    · rw [offTo_le k hk]
      constructor
      · rintro ⟨h1, h2⟩ j hj
        by_cases ej : j = k
        · rw [ej]; exact h2
        · exact h1 j (by omega)
      · exact fun h => ⟨fun j hj => h j (by omega), h k (by omega)⟩
    · have : k = 0 := by omega
      subst this
      constructor
      · rintro ⟨h1, h2⟩ j hj
        have : j = 0 := by omega
        rw [this]; exact h2
      · exact fun h => ⟨h 0 (by omega), h 0 (by omega)⟩
def priceOk (Dist : List (List Int)) (set u w : List Int) (j : Nat) : Bool := inB (u.getD j 0) (-999) 999 && decide (u.getD j 0 ≤ offTo Dist set w j set.length)
def flowPrices (Open : List Int) (Dist : List (List Int)) (set u w : List Int) : Bool :=
  decide (u.length = Dist.length) && rowOk w (Open.length : Int) 999 && allTo (fun a => !(decide (w.getD a 0 > 0) && !(set.contains (a : Int)))) w.length && allTo (priceOk Dist set u w) u.length
theorem two_facts {Open set : List Int} {Dist : List (List Int)} (h : (goodField Open Dist && rising set 0 ((Open.length : Int) - 1) && decide (0 < set.length)) = true) :
    goodField Open Dist = true ∧ rising set 0 ((Open.length : Int) - 1) = true ∧ 0 < set.length := by
  simp only [Bool.and_eq_true, decide_eq_true_eq] at h
  exact ⟨h.1.1, h.1.2, h.2⟩

abbrev s_l7Offer_JJ0 (Open : List Int) (Dist : List (List Int)) (set : List Int) (w : List Int) (c : Int) (best : Int) (i : Int) : Prop := (1 ≤ i) ∧ (i ≤ (set.length : Int)) ∧ (best = offTo Dist set w c i.toNat)
abbrev s_l7Offer_mJ0 (Open : List Int) (Dist : List (List Int)) (set : List Int) (w : List Int) (c : Int) (best : Int) (i : Int) : Nat := (set.length - i).toNat
def s_l7Offer_C (f : FuncId) (ds : List D) : Orc := bif Nat.beq f 156 then s_l1Least_orc ds else .no
def s_l7Offer_A (Open : List Int) (Dist : List (List Int)) (set : List Int) (w : List Int) (c : Int) : Ann := .two (.none) (.two (.none) (.two (.two (.none) (.loop (cut2 (fun (best : Int) (i : Int) => s_l7Offer_JJ0 Open Dist set w c best i) (fun (best : Int) (i : Int) => [(1, .d false (.sl (.ints set))), (2, .d false (.sl (.ints w))), (3, .d false (.int .i64 c)), (4, .ptr 4 0), (9, .d true (.int .i64 best)), (10, .d true (.int .i64 i))]) (fun (best : Int) (i : Int) => [(4, .box 48 [.d false (.sl (.ints Open)), .d false (.sl (.rows Dist))])])) (fun g => s_l7Offer_mJ0 Open Dist set w c g.1 g.2) (fun _ => .none))) (.none)))
def s_l7Offer_P (Open : List Int) (Dist : List (List Int)) (set : List Int) (w : List Int) (c : Int) : Prop :=
  (true = true) ∧ ((0 : Int) ≤ c) ∧ ((c : Int) < Dist.length) ∧ (c.toNat < Dist.length) ∧ ((0 : Int) ≤ 0) ∧ ((0 : Int) < set.length) ∧ (0 < set.length) ∧ ((0 : Int) ≤ (set.getD 0 0)) ∧ (((set.getD 0 0) : Int) < (Dist.getD c.toNat []).length) ∧ ((set.getD 0 0).toNat < (Dist.getD c.toNat []).length) ∧ ((0 : Int) ≤ 0) ∧ ((0 : Int) < set.length) ∧ (0 < set.length) ∧ ((0 : Int) ≤ (set.getD 0 0)) ∧ (((set.getD 0 0) : Int) < w.length) ∧ ((set.getD 0 0).toNat < w.length) ∧ (-9223372036854775808 ≤ (((Dist.getD c.toNat []).getD ((set.getD 0 0).toNat) 0) + (w.getD ((set.getD 0 0).toNat) 0)) ∧ (((Dist.getD c.toNat []).getD ((set.getD 0 0).toNat) 0) + (w.getD ((set.getD 0 0).toNat) 0)) ≤ 9223372036854775807) ∧ ((∃ best' : Int, ∃ i' : Int, (s_l7Offer_JJ0 Open Dist set w c best' i') ∧ (set = set) ∧ (w = w) ∧ (c = c) ∧ ((((Dist.getD c.toNat []).getD ((set.getD 0 0).toNat) 0) + (w.getD ((set.getD 0 0).toNat) 0)) = best') ∧ ((1 : Int) = i') ∧ (Open = Open) ∧ (Dist = Dist)) ∧ (∀ best : Int, ∀ i : Int, (s_l7Offer_JJ0 Open Dist set w c best i) → (((decide (i < (set.length : Int))) = true → (true = true) ∧ ((0 : Int) ≤ c) ∧ ((c : Int) < Dist.length) ∧ (c.toNat < Dist.length) ∧ ((0 : Int) ≤ i) ∧ ((i : Int) < set.length) ∧ (i.toNat < set.length) ∧ ((0 : Int) ≤ (set.getD i.toNat 0)) ∧ (((set.getD i.toNat 0) : Int) < (Dist.getD c.toNat []).length) ∧ ((set.getD i.toNat 0).toNat < (Dist.getD c.toNat []).length) ∧ ((0 : Int) ≤ i) ∧ ((i : Int) < set.length) ∧ (i.toNat < set.length) ∧ ((0 : Int) ≤ (set.getD i.toNat 0)) ∧ (((set.getD i.toNat 0) : Int) < w.length) ∧ ((set.getD i.toNat 0).toNat < w.length) ∧ (-9223372036854775808 ≤ (((Dist.getD c.toNat []).getD ((set.getD i.toNat 0).toNat) 0) + (w.getD ((set.getD i.toNat 0).toNat) 0)) ∧ (((Dist.getD c.toNat []).getD ((set.getD i.toNat 0).toNat) 0) + (w.getD ((set.getD i.toNat 0).toNat) 0)) ≤ 9223372036854775807) ∧ (PC Try.prog 156 [.int .i64 best, .int .i64 (((Dist.getD c.toNat []).getD ((set.getD i.toNat 0).toNat) 0) + (w.getD ((set.getD i.toNat 0).toNat) 0))] (.one (.d (.int .i64 (min best (((Dist.getD c.toNat []).getD ((set.getD i.toNat 0).toNat) 0) + (w.getD ((set.getD i.toNat 0).toNat) 0))))))) ∧ (-9223372036854775808 ≤ (i + 1) ∧ (i + 1) ≤ 9223372036854775807) ∧ (∃ best' : Int, ∃ i' : Int, (s_l7Offer_JJ0 Open Dist set w c best' i') ∧ (s_l7Offer_mJ0 Open Dist set w c best' i' < s_l7Offer_mJ0 Open Dist set w c best i) ∧ (set = set) ∧ (w = w) ∧ (c = c) ∧ ((min best (((Dist.getD c.toNat []).getD ((set.getD i.toNat 0).toNat) 0) + (w.getD ((set.getD i.toNat 0).toNat) 0))) = best') ∧ ((i + 1) = i') ∧ (Open = Open) ∧ (Dist = Dist))) ∧ ((decide (i < (set.length : Int))) = false → ((best = (offTo Dist set w c set.length)))))))
theorem s_l7Offer_vc (Open : List Int) (Dist : List (List Int)) (set : List Int) (w : List Int) (c : Int) (ht : (goodField Open Dist && rising set 0 ((Open.length : Int) - 1) && decide (0 < set.length)) = true) (hww : rowOk w (Open.length : Int) 999 = true) (hc : 0 ≤ c ∧ c < (Dist.length : Int)) (w_Open : (Open.length : Int) ≤ 9223372036854775807) (w_Dist : (Dist.length : Int) ≤ 9223372036854775807) (v_Dist : ∀ x9 ∈ Dist, (x9.length : Int) ≤ 9223372036854775807) (w_set : (set.length : Int) ≤ 9223372036854775807) (w_w : (w.length : Int) ≤ 9223372036854775807) : s_l7Offer_P Open Dist set w c := by
  unfold s_l7Offer_P
  obtain ⟨hg, hs, hp⟩ := two_facts ht
  obtain ⟨g1, g2, g3⟩ := gf_open hg
  have cs := fun k => rising_at hs k
  obtain ⟨wl, wb⟩ := rowOk_at hww
  obtain ⟨rl, rb⟩ := gf_row (i := c.toNat) hg (by omega)
  refine ⟨rfl, ?_, ?_, ?_, ?_, ?_, ?_, ?_, ?_, ?_, ?_, ?_, ?_, ?_, ?_, ?_, ?_, ?_, ?_⟩
  · first | omega | rfl | (intro hg; simp only [nrmT] at hg; omega) | (intro g1 g2; simp [g1, g2]; done) | (intro g1; simp at g1 ⊢; simp [g1]; done) | (simp only [nrmT] at *; omega) | (simp at * <;> omega) | (simp_all <;> omega) | (simp_all; done)
  · first | omega | rfl | (intro hg; simp only [nrmT] at hg; omega) | (intro g1 g2; simp [g1, g2]; done) | (intro g1; simp at g1 ⊢; simp [g1]; done) | (simp only [nrmT] at *; omega) | (simp at * <;> omega) | (simp_all <;> omega) | (simp_all; done)
  · first | omega | rfl | (intro hg; simp only [nrmT] at hg; omega) | (intro g1 g2; simp [g1, g2]; done) | (intro g1; simp at g1 ⊢; simp [g1]; done) | (simp only [nrmT] at *; omega) | (simp at * <;> omega) | (simp_all <;> omega) | (simp_all; done)
  · first | omega | rfl | (intro hg; simp only [nrmT] at hg; omega) | (intro g1 g2; simp [g1, g2]; done) | (intro g1; simp at g1 ⊢; simp [g1]; done) | (simp only [nrmT] at *; omega) | (simp at * <;> omega) | (simp_all <;> omega) | (simp_all; done)
  · first | omega | rfl | (intro hg; simp only [nrmT] at hg; omega) | (intro g1 g2; simp [g1, g2]; done) | (intro g1; simp at g1 ⊢; simp [g1]; done) | (simp only [nrmT] at *; omega) | (simp at * <;> omega) | (simp_all <;> omega) | (simp_all; done)
  · first | omega | rfl | (intro hg; simp only [nrmT] at hg; omega) | (intro g1 g2; simp [g1, g2]; done) | (intro g1; simp at g1 ⊢; simp [g1]; done) | (simp only [nrmT] at *; omega) | (simp at * <;> omega) | (simp_all <;> omega) | (simp_all; done)
  · have := cs 0 (by omega)
    omega
  · have := cs 0 (by omega)
    omega
  · have := cs 0 (by omega)
    omega
  · first | omega | rfl | (intro hg; simp only [nrmT] at hg; omega) | (intro g1 g2; simp [g1, g2]; done) | (intro g1; simp at g1 ⊢; simp [g1]; done) | (simp only [nrmT] at *; omega) | (simp at * <;> omega) | (simp_all <;> omega) | (simp_all; done)
  · first | omega | rfl | (intro hg; simp only [nrmT] at hg; omega) | (intro g1 g2; simp [g1, g2]; done) | (intro g1; simp at g1 ⊢; simp [g1]; done) | (simp only [nrmT] at *; omega) | (simp at * <;> omega) | (simp_all <;> omega) | (simp_all; done)
  · first | omega | rfl | (intro hg; simp only [nrmT] at hg; omega) | (intro g1 g2; simp [g1, g2]; done) | (intro g1; simp at g1 ⊢; simp [g1]; done) | (simp only [nrmT] at *; omega) | (simp at * <;> omega) | (simp_all <;> omega) | (simp_all; done)
  · have := cs 0 (by omega)
    omega
  · have := cs 0 (by omega)
    omega
  · have := cs 0 (by omega)
    omega
  · have h7 := cs 0 (by omega)
    have := wb (set.getD 0 0).toNat (by omega)
    have := rb (set.getD 0 0).toNat (by omega)
    omega
  · refine ⟨(((Dist.getD c.toNat []).getD ((set.getD 0 0).toNat) 0) + (w.getD ((set.getD 0 0).toNat) 0)), 1, ?_⟩
    refine ⟨?_, rfl, rfl, rfl, rfl, rfl, rfl, rfl⟩
    · refine ⟨?_, ?_, ?_⟩
      · first | omega | rfl | (intro hg; simp only [nrmT] at hg; omega) | (intro g1 g2; simp [g1, g2]; done) | (intro g1; simp at g1 ⊢; simp [g1]; done) | (simp only [nrmT] at *; omega) | (simp at * <;> omega) | (simp_all <;> omega) | (simp_all; done)
      · first | omega | rfl | (intro hg; simp only [nrmT] at hg; omega) | (intro g1 g2; simp [g1, g2]; done) | (intro g1; simp at g1 ⊢; simp [g1]; done) | (simp only [nrmT] at *; omega) | (simp at * <;> omega) | (simp_all <;> omega) | (simp_all; done)
      · exact (Int.min_self _).symm
  · intro best i hJ
    obtain ⟨h1, h2, h3⟩ := hJ
    refine ⟨?_, ?_⟩
    · intro b1
      try simp only [nrmT] at b1
      refine ⟨rfl, ?_, ?_, ?_, ?_, ?_, ?_, ?_, ?_, ?_, ?_, ?_, ?_, ?_, ?_, ?_, ?_, s_l1Least_pc best (((Dist.getD c.toNat []).getD ((set.getD i.toNat 0).toNat) 0) + (w.getD ((set.getD i.toNat 0).toNat) 0)), ?_, ?_⟩
      · first | omega | rfl | (intro hg; simp only [nrmT] at hg; omega) | (intro g1 g2; simp [g1, g2]; done) | (intro g1; simp at g1 ⊢; simp [g1]; done) | (simp only [nrmT] at *; omega) | (simp at * <;> omega) | (simp_all <;> omega) | (simp_all; done)
      · first | omega | rfl | (intro hg; simp only [nrmT] at hg; omega) | (intro g1 g2; simp [g1, g2]; done) | (intro g1; simp at g1 ⊢; simp [g1]; done) | (simp only [nrmT] at *; omega) | (simp at * <;> omega) | (simp_all <;> omega) | (simp_all; done)
      · first | omega | rfl | (intro hg; simp only [nrmT] at hg; omega) | (intro g1 g2; simp [g1, g2]; done) | (intro g1; simp at g1 ⊢; simp [g1]; done) | (simp only [nrmT] at *; omega) | (simp at * <;> omega) | (simp_all <;> omega) | (simp_all; done)
      · first | omega | rfl | (intro hg; simp only [nrmT] at hg; omega) | (intro g1 g2; simp [g1, g2]; done) | (intro g1; simp at g1 ⊢; simp [g1]; done) | (simp only [nrmT] at *; omega) | (simp at * <;> omega) | (simp_all <;> omega) | (simp_all; done)
      · first | omega | rfl | (intro hg; simp only [nrmT] at hg; omega) | (intro g1 g2; simp [g1, g2]; done) | (intro g1; simp at g1 ⊢; simp [g1]; done) | (simp only [nrmT] at *; omega) | (simp at * <;> omega) | (simp_all <;> omega) | (simp_all; done)
      · first | omega | rfl | (intro hg; simp only [nrmT] at hg; omega) | (intro g1 g2; simp [g1, g2]; done) | (intro g1; simp at g1 ⊢; simp [g1]; done) | (simp only [nrmT] at *; omega) | (simp at * <;> omega) | (simp_all <;> omega) | (simp_all; done)
      · have := cs i.toNat (by omega)
        omega
      · have := cs i.toNat (by omega)
        omega
      · have := cs i.toNat (by omega)
        omega
      · first | omega | rfl | (intro hg; simp only [nrmT] at hg; omega) | (intro g1 g2; simp [g1, g2]; done) | (intro g1; simp at g1 ⊢; simp [g1]; done) | (simp only [nrmT] at *; omega) | (simp at * <;> omega) | (simp_all <;> omega) | (simp_all; done)
      · first | omega | rfl | (intro hg; simp only [nrmT] at hg; omega) | (intro g1 g2; simp [g1, g2]; done) | (intro g1; simp at g1 ⊢; simp [g1]; done) | (simp only [nrmT] at *; omega) | (simp at * <;> omega) | (simp_all <;> omega) | (simp_all; done)
      · first | omega | rfl | (intro hg; simp only [nrmT] at hg; omega) | (intro g1 g2; simp [g1, g2]; done) | (intro g1; simp at g1 ⊢; simp [g1]; done) | (simp only [nrmT] at *; omega) | (simp at * <;> omega) | (simp_all <;> omega) | (simp_all; done)
      · have := cs i.toNat (by omega)
        omega
      · have := cs i.toNat (by omega)
        omega
      · have := cs i.toNat (by omega)
        omega
      · have h7 := cs i.toNat (by omega)
        have := wb (set.getD i.toNat 0).toNat (by omega)
        have := rb (set.getD i.toNat 0).toNat (by omega)
        omega
      · first | omega | rfl | (intro hg; simp only [nrmT] at hg; omega) | (intro g1 g2; simp [g1, g2]; done) | (intro g1; simp at g1 ⊢; simp [g1]; done) | (simp only [nrmT] at *; omega) | (simp at * <;> omega) | (simp_all <;> omega) | (simp_all; done)
      · refine ⟨(min best (((Dist.getD c.toNat []).getD ((set.getD i.toNat 0).toNat) 0) + (w.getD ((set.getD i.toNat 0).toNat) 0))), (i + 1), ?_⟩
        refine ⟨?_, ?_, rfl, rfl, rfl, rfl, rfl, rfl, rfl⟩
        · refine ⟨?_, ?_, ?_⟩
          · first | omega | rfl | (intro hg; simp only [nrmT] at hg; omega) | (intro g1 g2; simp [g1, g2]; done) | (intro g1; simp at g1 ⊢; simp [g1]; done) | (simp only [nrmT] at *; omega) | (simp at * <;> omega) | (simp_all <;> omega) | (simp_all; done)
          · first | omega | rfl | (intro hg; simp only [nrmT] at hg; omega) | (intro g1 g2; simp [g1, g2]; done) | (intro g1; simp at g1 ⊢; simp [g1]; done) | (simp only [nrmT] at *; omega) | (simp at * <;> omega) | (simp_all <;> omega) | (simp_all; done)
          · rw [h3, show (i + 1).toNat = i.toNat + 1 by omega]; rfl
        · first | (show _ < _; omega) | (simp only [s_l7Offer_mJ0]; omega) | (simp only [s_l7Offer_mJ0] at *; simp at *; omega)
    · intro b2
      try simp only [nrmT] at b2
      rw [h3, show i.toNat = set.length by omega]
theorem s_l7Offer_pc (Open : List Int) (Dist : List (List Int)) (set : List Int) (w : List Int) (c : Int) (ht : (goodField Open Dist && rising set 0 ((Open.length : Int) - 1) && decide (0 < set.length)) = true) (hww : rowOk w (Open.length : Int) 999 = true) (hc : 0 ≤ c ∧ c < (Dist.length : Int)) : PC Try.prog 169 [.agg [.sl (.ints Open), .sl (.rows Dist)], .sl (.ints set), .sl (.ints w), .int .i64 c] (.one (.d (.int .i64 (offTo Dist set w c set.length)))) :=
  pc_wf @Try.call169 fun hw => pc_by (by kernel_rfl) Try.func169 @Try.call169 (by kernel_rfl) s_l7Offer_C (s_l7Offer_A Open Dist set w c) (by kernel_rfl) (s_l7Offer_vc Open Dist set w c ht hww hc hw.1.1 hw.1.2.1.1 hw.1.2.1.2 hw.2.1 hw.2.2.1) (by kernel_rfl)
def s_l7Offer_orc : List D → Orc := orcN [none, some .ints, some .ints, none] fun ds => match ds with
  | [.agg [.sl (.ints Open), .sl (.rows Dist)], .sl (.ints set), .sl (.ints w), .int .i64 c] => some (.one (.d (.int .i64 (offTo Dist set w c set.length))))
  | _ => none

abbrev s_l7Prices_JJ0 (Open : List Int) (Dist : List (List Int)) (set : List Int) (u : List Int) (w : List Int) (a : Int) : Prop := (0 ≤ a) ∧ (a ≤ (w.length : Int)) ∧ (allTo (fun a => !(decide (w.getD a 0 > 0) && !(set.contains (a : Int)))) a.toNat = true) ∧ ((u.length : Int) = (Dist.length : Int)) ∧ (rowOk w (Open.length : Int) 999 = true)
abbrev s_l7Prices_mJ0 (Open : List Int) (Dist : List (List Int)) (set : List Int) (u : List Int) (w : List Int) (a : Int) : Nat := (w.length - a).toNat
abbrev s_l7Prices_JA0 (Open : List Int) (Dist : List (List Int)) (set : List Int) (u : List Int) (w : List Int) : Prop := ((u.length : Int) = (Dist.length : Int)) ∧ (rowOk w (Open.length : Int) 999 = true) ∧ (allTo (fun a => !(decide (w.getD a 0 > 0) && !(set.contains (a : Int)))) w.length = true)
abbrev s_l7Prices_JJ1 (Open : List Int) (Dist : List (List Int)) (set : List Int) (u : List Int) (w : List Int) (j : Int) : Prop := (0 ≤ j) ∧ (j ≤ (u.length : Int)) ∧ (allTo (priceOk Dist set u w) j.toNat = true)
abbrev s_l7Prices_mJ1 (Open : List Int) (Dist : List (List Int)) (set : List Int) (u : List Int) (w : List Int) (j : Int) : Nat := (u.length - j).toNat
def s_l7Prices_C (f : FuncId) (ds : List D) : Orc := bif Nat.beq f 154 then s_l7Numbers_orc ds else bif Nat.beq f 168 then s_l1Has_orc ds else bif Nat.beq f 81 then s_l1In_orc ds else bif Nat.beq f 169 then s_l7Offer_orc ds else .no
def s_l7Prices_A (Open : List Int) (Dist : List (List Int)) (set : List Int) (u : List Int) (w : List Int) : Ann := .two (.none) (.two (.none) (.cut (.two (.none) (.loop (cut1 (fun (a : Int) => s_l7Prices_JJ0 Open Dist set u w a) (fun (a : Int) => [(1, .d false (.sl (.ints set))), (2, .d false (.sl (.ints u))), (3, .d false (.sl (.ints w))), (4, .ptr 4 0), (9, .d true (.int .i64 a))]) (fun (a : Int) => [(4, .box 48 [.d false (.sl (.ints Open)), .d false (.sl (.rows Dist))])])) (fun g => s_l7Prices_mJ0 Open Dist set u w g) (fun _ => .none))) (cut0 (s_l7Prices_JA0 Open Dist set u w ) ([(1, .d false (.sl (.ints set))), (2, .d false (.sl (.ints u))), (3, .d false (.sl (.ints w))), (4, .ptr 4 0)]) ([(4, .box 48 [.d false (.sl (.ints Open)), .d false (.sl (.rows Dist))])])) (fun _ => .two (.two (.none) (.loop (cut1 (fun (j : Int) => s_l7Prices_JJ1 Open Dist set u w j) (fun (j : Int) => [(1, .d false (.sl (.ints set))), (2, .d false (.sl (.ints u))), (3, .d false (.sl (.ints w))), (4, .ptr 4 0), (10, .d true (.int .i64 j))]) (fun (j : Int) => [(4, .box 48 [.d false (.sl (.ints Open)), .d false (.sl (.rows Dist))])])) (fun g => s_l7Prices_mJ1 Open Dist set u w g) (fun _ => .none))) (.none))))
def s_l7Prices_P (Open : List Int) (Dist : List (List Int)) (set : List Int) (u : List Int) (w : List Int) : Prop :=
  ((!((u.length : Int) != (Dist.length : Int))) = true → (!((u.length : Int) != (Dist.length : Int))) = true) ∧ ((!((u.length : Int) != (Dist.length : Int))) = true → (!((u.length : Int) != (Dist.length : Int))) = true) ∧ ((!((u.length : Int) != (Dist.length : Int))) = true → (!((u.length : Int) != (Dist.length : Int))) = true) ∧ ((!((u.length : Int) != (Dist.length : Int))) = true → (!((u.length : Int) != (Dist.length : Int))) = true) ∧ ((!((u.length : Int) != (Dist.length : Int))) = true → PC Try.prog 154 [.sl (.ints w), .int .i64 (Open.length : Int), .int .i64 999] (.one (.d (.bool (rowOk w (Open.length : Int) 999))))) ∧ ((!((u.length : Int) != (Dist.length : Int))) = true → (!((u.length : Int) != (Dist.length : Int))) = true) ∧ (true = true) ∧ ((((u.length : Int) != (Dist.length : Int)) = true → true = true)) ∧ ((((u.length : Int) != (Dist.length : Int)) = false → (!((u.length : Int) != (Dist.length : Int))) = true)) ∧ (((cond ((u.length : Int) != (Dist.length : Int)) true (!(rowOk w (Open.length : Int) 999))) = true → ((false = (flowPrices Open Dist set u w)))) ∧ ((cond ((u.length : Int) != (Dist.length : Int)) true (!(rowOk w (Open.length : Int) 999))) = false → (((∃ a' : Int, (s_l7Prices_JJ0 Open Dist set u w a') ∧ (set = set) ∧ (u = u) ∧ (w = w) ∧ ((0 : Int) = a') ∧ (Open = Open) ∧ (Dist = Dist)) ∧ (∀ a : Int, (s_l7Prices_JJ0 Open Dist set u w a) → (((decide (a < (w.length : Int))) = true → ((0 : Int) ≤ a) ∧ ((a : Int) < w.length) ∧ (a.toNat < w.length) ∧ ((decide ((w.getD a.toNat 0) > 0)) = true → (decide ((w.getD a.toNat 0) > 0)) = true) ∧ ((decide ((w.getD a.toNat 0) > 0)) = true → (decide ((w.getD a.toNat 0) > 0)) = true) ∧ ((decide ((w.getD a.toNat 0) > 0)) = true → PC Try.prog 168 [.sl (.ints set), .int .i64 a] (.one (.d (.bool (set.contains a))))) ∧ ((decide ((w.getD a.toNat 0) > 0)) = true → (decide ((w.getD a.toNat 0) > 0)) = true) ∧ (true = true) ∧ (((decide ((w.getD a.toNat 0) > 0)) = true → (decide ((w.getD a.toNat 0) > 0)) = true)) ∧ (((decide ((w.getD a.toNat 0) > 0)) = false → true = true)) ∧ (((cond (decide ((w.getD a.toNat 0) > 0)) (!(set.contains a)) false) = true → ((false = (flowPrices Open Dist set u w)))) ∧ ((cond (decide ((w.getD a.toNat 0) > 0)) (!(set.contains a)) false) = false → (-9223372036854775808 ≤ (a + 1) ∧ (a + 1) ≤ 9223372036854775807) ∧ (∃ a' : Int, (s_l7Prices_JJ0 Open Dist set u w a') ∧ (s_l7Prices_mJ0 Open Dist set u w a' < s_l7Prices_mJ0 Open Dist set u w a) ∧ (set = set) ∧ (u = u) ∧ (w = w) ∧ ((a + 1) = a') ∧ (Open = Open) ∧ (Dist = Dist))))) ∧ ((decide (a < (w.length : Int))) = false → ((s_l7Prices_JA0 Open Dist set u w) ∧ (set = set) ∧ (u = u) ∧ (w = w) ∧ (Open = Open) ∧ (Dist = Dist)))))) ∧ ((s_l7Prices_JA0 Open Dist set u w) → ((∃ j' : Int, (s_l7Prices_JJ1 Open Dist set u w j') ∧ (set = set) ∧ (u = u) ∧ (w = w) ∧ ((0 : Int) = j') ∧ (Open = Open) ∧ (Dist = Dist)) ∧ (∀ j : Int, (s_l7Prices_JJ1 Open Dist set u w j) → (((decide (j < (u.length : Int))) = true → (true = true) ∧ ((0 : Int) ≤ j) ∧ ((j : Int) < u.length) ∧ (j.toNat < u.length) ∧ (PC Try.prog 81 [.int .i64 (u.getD j.toNat 0), .int .i64 (-999), .int .i64 999] (.one (.d (.bool (inB (u.getD j.toNat 0) (-999) 999))))) ∧ ((!(!(inB (u.getD j.toNat 0) (-999) 999))) = true → (!(!(inB (u.getD j.toNat 0) (-999) 999))) = true) ∧ ((!(!(inB (u.getD j.toNat 0) (-999) 999))) = true → (!(!(inB (u.getD j.toNat 0) (-999) 999))) = true) ∧ (((!(!(inB (u.getD j.toNat 0) (-999) 999))) = true → (0 : Int) ≤ j)) ∧ (((!(!(inB (u.getD j.toNat 0) (-999) 999))) = true → (j : Int) < u.length)) ∧ ((!(!(inB (u.getD j.toNat 0) (-999) 999))) = true → (!(!(inB (u.getD j.toNat 0) (-999) 999))) = true) ∧ (((!(!(inB (u.getD j.toNat 0) (-999) 999))) = true → j.toNat < u.length)) ∧ ((!(!(inB (u.getD j.toNat 0) (-999) 999))) = true → (!(!(inB (u.getD j.toNat 0) (-999) 999))) = true) ∧ ((!(!(inB (u.getD j.toNat 0) (-999) 999))) = true → (!(!(inB (u.getD j.toNat 0) (-999) 999))) = true) ∧ ((!(!(inB (u.getD j.toNat 0) (-999) 999))) = true → (!(!(inB (u.getD j.toNat 0) (-999) 999))) = true) ∧ ((!(!(inB (u.getD j.toNat 0) (-999) 999))) = true → (!(!(inB (u.getD j.toNat 0) (-999) 999))) = true) ∧ ((!(!(inB (u.getD j.toNat 0) (-999) 999))) = true → PC Try.prog 169 [.agg [.sl (.ints Open), .sl (.rows Dist)], .sl (.ints set), .sl (.ints w), .int .i64 j] (.one (.d (.int .i64 (offTo Dist set w j set.length))))) ∧ ((!(!(inB (u.getD j.toNat 0) (-999) 999))) = true → (!(!(inB (u.getD j.toNat 0) (-999) 999))) = true) ∧ ((!(!(inB (u.getD j.toNat 0) (-999) 999))) = true → (!(!(inB (u.getD j.toNat 0) (-999) 999))) = true) ∧ (true = true) ∧ (((!(inB (u.getD j.toNat 0) (-999) 999)) = true → true = true)) ∧ (((!(inB (u.getD j.toNat 0) (-999) 999)) = false → (!(!(inB (u.getD j.toNat 0) (-999) 999))) = true)) ∧ (((cond (!(inB (u.getD j.toNat 0) (-999) 999)) true (decide ((u.getD j.toNat 0) > (offTo Dist set w j set.length)))) = true → ((false = (flowPrices Open Dist set u w)))) ∧ ((cond (!(inB (u.getD j.toNat 0) (-999) 999)) true (decide ((u.getD j.toNat 0) > (offTo Dist set w j set.length)))) = false → (-9223372036854775808 ≤ (j + 1) ∧ (j + 1) ≤ 9223372036854775807) ∧ (∃ j' : Int, (s_l7Prices_JJ1 Open Dist set u w j') ∧ (s_l7Prices_mJ1 Open Dist set u w j' < s_l7Prices_mJ1 Open Dist set u w j) ∧ (set = set) ∧ (u = u) ∧ (w = w) ∧ ((j + 1) = j') ∧ (Open = Open) ∧ (Dist = Dist))))) ∧ ((decide (j < (u.length : Int))) = false → ((true = (flowPrices Open Dist set u w)))))))))))
theorem s_l7Prices_vc (Open : List Int) (Dist : List (List Int)) (set : List Int) (u : List Int) (w : List Int) (ht : (goodField Open Dist && rising set 0 ((Open.length : Int) - 1) && decide (0 < set.length)) = true) (w_Open : (Open.length : Int) ≤ 9223372036854775807) (w_Dist : (Dist.length : Int) ≤ 9223372036854775807) (v_Dist : ∀ x9 ∈ Dist, (x9.length : Int) ≤ 9223372036854775807) (w_set : (set.length : Int) ≤ 9223372036854775807) (w_u : (u.length : Int) ≤ 9223372036854775807) (w_w : (w.length : Int) ≤ 9223372036854775807) : s_l7Prices_P Open Dist set u w := by
  unfold s_l7Prices_P
  obtain ⟨hg, hs, hp⟩ := two_facts ht
  obtain ⟨g1, g2, g3⟩ := gf_open hg
  have cs := fun k => rising_at hs k
  refine ⟨id, id, id, id, fun _ => s_l7Numbers_pc w (Open.length : Int) 999, id, rfl, fun _ => rfl, ?_, ?_, ?_⟩
  · first | omega | rfl | (intro hg; simp only [nrmT] at hg; omega) | (intro g1 g2; simp [g1, g2]; done) | (intro g1; simp at g1 ⊢; simp [g1]; done) | (simp only [nrmT] at *; omega) | (simp at * <;> omega) | (simp_all <;> omega) | (simp_all; done)
  · intro b1
    unfold flowPrices
    have hq : (decide (u.length = Dist.length) && rowOk w (Open.length : Int) 999) = false := by
      revert b1; cases rowOk w (Open.length : Int) 999 <;> by_cases h : (u.length : Int) = (Dist.length : Int) <;> simp [h] <;> omega
    rw [hq]; rfl
  · intro b2
    refine ⟨?_, ?_⟩
    · refine ⟨?_, ?_⟩
      · refine ⟨0, ?_⟩
        refine ⟨?_, rfl, rfl, rfl, rfl, rfl, rfl⟩
        · refine ⟨?_, ?_, ?_, ?_, ?_⟩
          · first | omega | rfl | (intro hg; simp only [nrmT] at hg; omega) | (intro g1 g2; simp [g1, g2]; done) | (intro g1; simp at g1 ⊢; simp [g1]; done) | (simp only [nrmT] at *; omega) | (simp at * <;> omega) | (simp_all <;> omega) | (simp_all; done)
          · first | omega | rfl | (intro hg; simp only [nrmT] at hg; omega) | (intro g1 g2; simp [g1, g2]; done) | (intro g1; simp at g1 ⊢; simp [g1]; done) | (simp only [nrmT] at *; omega) | (simp at * <;> omega) | (simp_all <;> omega) | (simp_all; done)
          · first | omega | rfl | (intro hg; simp only [nrmT] at hg; omega) | (intro g1 g2; simp [g1, g2]; done) | (intro g1; simp at g1 ⊢; simp [g1]; done) | (simp only [nrmT] at *; omega) | (simp at * <;> omega) | (simp_all <;> omega) | (simp_all; done)
          · have hq : (u.length : Int) = (Dist.length : Int) ∧ rowOk w (Open.length : Int) 999 = true := by
              revert b2; cases rowOk w (Open.length : Int) 999 <;> by_cases h : (u.length : Int) = (Dist.length : Int) <;> simp [h]
            exact hq.1
          · have hq : (u.length : Int) = (Dist.length : Int) ∧ rowOk w (Open.length : Int) 999 = true := by
              revert b2; cases rowOk w (Open.length : Int) 999 <;> by_cases h : (u.length : Int) = (Dist.length : Int) <;> simp [h]
            exact hq.2
      · intro a hJ
        obtain ⟨h1, h2, h3, h4, h5⟩ := hJ
        refine ⟨?_, ?_⟩
        · intro b3
          try simp only [nrmT] at b3
          refine ⟨?_, ?_, ?_, id, id, fun _ => s_l1Has_pc set a, id, rfl, id, fun _ => rfl, ?_, ?_⟩
          · first | omega | rfl | (intro hg; simp only [nrmT] at hg; omega) | (intro g1 g2; simp [g1, g2]; done) | (intro g1; simp at g1 ⊢; simp [g1]; done) | (simp only [nrmT] at *; omega) | (simp at * <;> omega) | (simp_all <;> omega) | (simp_all; done)
          · first | omega | rfl | (intro hg; simp only [nrmT] at hg; omega) | (intro g1 g2; simp [g1, g2]; done) | (intro g1; simp at g1 ⊢; simp [g1]; done) | (simp only [nrmT] at *; omega) | (simp at * <;> omega) | (simp_all <;> omega) | (simp_all; done)
          · first | omega | rfl | (intro hg; simp only [nrmT] at hg; omega) | (intro g1 g2; simp [g1, g2]; done) | (intro g1; simp at g1 ⊢; simp [g1]; done) | (simp only [nrmT] at *; omega) | (simp at * <;> omega) | (simp_all <;> omega) | (simp_all; done)
          · intro b4
            unfold flowPrices
            rw [show allTo (fun a => !(decide (w.getD a 0 > 0) && !(set.contains (a : Int)))) w.length = false from allTo_falseI h1 (by omega) (by rw [show ((a.toNat : Nat) : Int) = a by omega]; revert b4; cases decide (w.getD a.toNat 0 > 0) <;> cases set.contains a <;> simp)]
            simp
          · intro b5
            refine ⟨?_, ?_⟩
            · first | omega | rfl | (intro hg; simp only [nrmT] at hg; omega) | (intro g1 g2; simp [g1, g2]; done) | (intro g1; simp at g1 ⊢; simp [g1]; done) | (simp only [nrmT] at *; omega) | (simp at * <;> omega) | (simp_all <;> omega) | (simp_all; done)
            · refine ⟨(a + 1), ?_⟩
              refine ⟨?_, ?_, rfl, rfl, rfl, rfl, rfl, rfl⟩
              · refine ⟨?_, ?_, ?_, ?_, ?_⟩
                · first | omega | rfl | (intro hg; simp only [nrmT] at hg; omega) | (intro g1 g2; simp [g1, g2]; done) | (intro g1; simp at g1 ⊢; simp [g1]; done) | (simp only [nrmT] at *; omega) | (simp at * <;> omega) | (simp_all <;> omega) | (simp_all; done)
                · first | omega | rfl | (intro hg; simp only [nrmT] at hg; omega) | (intro g1 g2; simp [g1, g2]; done) | (intro g1; simp at g1 ⊢; simp [g1]; done) | (simp only [nrmT] at *; omega) | (simp at * <;> omega) | (simp_all <;> omega) | (simp_all; done)
                · exact allTo_step h1 h3 (by rw [show ((a.toNat : Nat) : Int) = a by omega]; revert b5; cases decide (w.getD a.toNat 0 > 0) <;> cases set.contains a <;> simp)
                · exact h4
                · exact h5
              · first | (show _ < _; omega) | (simp only [s_l7Prices_mJ0]; omega) | (simp only [s_l7Prices_mJ0] at *; simp at *; omega)
        · intro b6
          try simp only [nrmT] at b6
          refine ⟨?_, rfl, rfl, rfl, rfl, rfl⟩
          · refine ⟨?_, ?_, ?_⟩
            · assumption
            · assumption
            · rw [← h3]; congr 1; omega
    · intro  hJ
      obtain ⟨h6, h7, h8⟩ := hJ
      refine ⟨?_, ?_⟩
      · refine ⟨0, ?_⟩
        refine ⟨?_, rfl, rfl, rfl, rfl, rfl, rfl⟩
        · refine ⟨?_, ?_, ?_⟩
          · first | omega | rfl | (intro hg; simp only [nrmT] at hg; omega) | (intro g1 g2; simp [g1, g2]; done) | (intro g1; simp at g1 ⊢; simp [g1]; done) | (simp only [nrmT] at *; omega) | (simp at * <;> omega) | (simp_all <;> omega) | (simp_all; done)
          · first | omega | rfl | (intro hg; simp only [nrmT] at hg; omega) | (intro g1 g2; simp [g1, g2]; done) | (intro g1; simp at g1 ⊢; simp [g1]; done) | (simp only [nrmT] at *; omega) | (simp at * <;> omega) | (simp_all <;> omega) | (simp_all; done)
          · first | omega | rfl | (intro hg; simp only [nrmT] at hg; omega) | (intro g1 g2; simp [g1, g2]; done) | (intro g1; simp at g1 ⊢; simp [g1]; done) | (simp only [nrmT] at *; omega) | (simp at * <;> omega) | (simp_all <;> omega) | (simp_all; done)
      · intro j hJ
        obtain ⟨k1, k2, k3⟩ := hJ
        refine ⟨?_, ?_⟩
        · intro b7
          try simp only [nrmT] at b7
          refine ⟨rfl, ?_, ?_, ?_, s_l1In_pc (u.getD j.toNat 0) (-999) 999, id, id, ?_, ?_, id, ?_, id, id, id, id, ?_, id, id, rfl, fun _ => rfl, ?_, ?_, ?_⟩
          · first | omega | rfl | (intro hg; simp only [nrmT] at hg; omega) | (intro g1 g2; simp [g1, g2]; done) | (intro g1; simp at g1 ⊢; simp [g1]; done) | (simp only [nrmT] at *; omega) | (simp at * <;> omega) | (simp_all <;> omega) | (simp_all; done)
          · first | omega | rfl | (intro hg; simp only [nrmT] at hg; omega) | (intro g1 g2; simp [g1, g2]; done) | (intro g1; simp at g1 ⊢; simp [g1]; done) | (simp only [nrmT] at *; omega) | (simp at * <;> omega) | (simp_all <;> omega) | (simp_all; done)
          · first | omega | rfl | (intro hg; simp only [nrmT] at hg; omega) | (intro g1 g2; simp [g1, g2]; done) | (intro g1; simp at g1 ⊢; simp [g1]; done) | (simp only [nrmT] at *; omega) | (simp at * <;> omega) | (simp_all <;> omega) | (simp_all; done)
          · first | omega | rfl | (intro hg; simp only [nrmT] at hg; omega) | (intro g1 g2; simp [g1, g2]; done) | (intro g1; simp at g1 ⊢; simp [g1]; done) | (simp only [nrmT] at *; omega) | (simp at * <;> omega) | (simp_all <;> omega) | (simp_all; done)
          · first | omega | rfl | (intro hg; simp only [nrmT] at hg; omega) | (intro g1 g2; simp [g1, g2]; done) | (intro g1; simp at g1 ⊢; simp [g1]; done) | (simp only [nrmT] at *; omega) | (simp at * <;> omega) | (simp_all <;> omega) | (simp_all; done)
          · first | omega | rfl | (intro hg; simp only [nrmT] at hg; omega) | (intro g1 g2; simp [g1, g2]; done) | (intro g1; simp at g1 ⊢; simp [g1]; done) | (simp only [nrmT] at *; omega) | (simp at * <;> omega) | (simp_all <;> omega) | (simp_all; done)
          · intro hg
            refine s_l7Offer_pc Open Dist set w j ?_ ?_ ?_
            · exact ht
            · assumption
            · first | omega | rfl | (intro hg; simp only [nrmT] at hg; omega) | (intro g1 g2; simp [g1, g2]; done) | (intro g1; simp at g1 ⊢; simp [g1]; done) | (simp only [nrmT] at *; omega) | (simp at * <;> omega) | (simp_all <;> omega) | (simp_all; done)
          · first | omega | rfl | (intro hg; simp only [nrmT] at hg; omega) | (intro g1 g2; simp [g1, g2]; done) | (intro g1; simp at g1 ⊢; simp [g1]; done) | (simp only [nrmT] at *; omega) | (simp at * <;> omega) | (simp_all <;> omega) | (simp_all; done)
          · intro b8
            unfold flowPrices
            rw [show allTo (priceOk Dist set u w) u.length = false from allTo_falseI k1 (by omega) (by unfold priceOk; rw [show ((j.toNat : Nat) : Int) = j by omega]; revert b8; cases inB (u.getD j.toNat 0) (-999) 999 <;> by_cases h : u.getD j.toNat 0 ≤ offTo Dist set w j set.length <;> simp [h] <;> omega)]
            simp
          · intro b9
            refine ⟨?_, ?_⟩
            · first | omega | rfl | (intro hg; simp only [nrmT] at hg; omega) | (intro g1 g2; simp [g1, g2]; done) | (intro g1; simp at g1 ⊢; simp [g1]; done) | (simp only [nrmT] at *; omega) | (simp at * <;> omega) | (simp_all <;> omega) | (simp_all; done)
            · refine ⟨(j + 1), ?_⟩
              refine ⟨?_, ?_, rfl, rfl, rfl, rfl, rfl, rfl⟩
              · refine ⟨?_, ?_, ?_⟩
                · first | omega | rfl | (intro hg; simp only [nrmT] at hg; omega) | (intro g1 g2; simp [g1, g2]; done) | (intro g1; simp at g1 ⊢; simp [g1]; done) | (simp only [nrmT] at *; omega) | (simp at * <;> omega) | (simp_all <;> omega) | (simp_all; done)
                · first | omega | rfl | (intro hg; simp only [nrmT] at hg; omega) | (intro g1 g2; simp [g1, g2]; done) | (intro g1; simp at g1 ⊢; simp [g1]; done) | (simp only [nrmT] at *; omega) | (simp at * <;> omega) | (simp_all <;> omega) | (simp_all; done)
                · exact allTo_step k1 k3 (by unfold priceOk; rw [show ((j.toNat : Nat) : Int) = j by omega]; revert b9; cases inB (u.getD j.toNat 0) (-999) 999 <;> by_cases h : u.getD j.toNat 0 ≤ offTo Dist set w j set.length <;> simp [h] <;> omega)
              · first | (show _ < _; omega) | (simp only [s_l7Prices_mJ1]; omega) | (simp only [s_l7Prices_mJ1] at *; simp at *; omega)
        · intro b10
          try simp only [nrmT] at b10
          unfold flowPrices
          rw [h7, h8, show decide (u.length = Dist.length) = true from decide_eq_true (by omega)]
          have : allTo (priceOk Dist set u w) u.length = true := by rw [← k3]; congr 1; omega
          rw [this]; rfl
theorem s_l7Prices_pc (Open : List Int) (Dist : List (List Int)) (set : List Int) (u : List Int) (w : List Int) (ht : (goodField Open Dist && rising set 0 ((Open.length : Int) - 1) && decide (0 < set.length)) = true) : PC Try.prog 133 [.agg [.sl (.ints Open), .sl (.rows Dist)], .sl (.ints set), .sl (.ints u), .sl (.ints w)] (.one (.d (.bool (flowPrices Open Dist set u w)))) :=
  pc_wf @Try.call133 fun hw => pc_by (by kernel_rfl) Try.func133 @Try.call133 (by kernel_rfl) s_l7Prices_C (s_l7Prices_A Open Dist set u w) (by kernel_rfl) (s_l7Prices_vc Open Dist set u w ht hw.1.1 hw.1.2.1.1 hw.1.2.1.2 hw.2.1 hw.2.2.1 hw.2.2.2.1) (by kernel_rfl)
def s_l7Prices_orc : List D → Orc := orcN [none, some .ints, some .ints, some .ints] fun ds => match ds with
  | [.agg [.sl (.ints Open), .sl (.rows Dist)], .sl (.ints set), .sl (.ints u), .sl (.ints w)] => some (.one (.d (.bool (flowPrices Open Dist set u w))))
  | _ => none

def okI (Dist : List (List Int)) (set u w : List Int) (a : Nat) : Bool := !(decide (w.getD a 0 > 0) && !(set.contains (a : Int))) && allTo (fun i => !(set.contains (a : Int) && decide (u.getD i 0 > (Dist.getD i []).getD a 0 + w.getD a 0))) Dist.length
theorem open_bit {set : List Int} {n : Int} (hs : rising set 0 n = true) {a : Int} (ha : 0 ≤ a) : (((bagN set : Nat) : Int).toNat.testBit a.toNat) = set.contains a := by
  rw [Int.toNat_natCast, bagN_bit (fun x hx => (rising_mem hs x hx).1), show ((a.toNat : Nat) : Int) = a by omega]
theorem flow_no {Open : List Int} {Dist : List (List Int)} {set u w : List Int} (h : (((u.length : Int) == (Dist.length : Int)) && rowOk w (Open.length : Int) 999 && u.all (fun x => inB x (-999) 999)) = false) : flowPrices Open Dist set u w = false := by
  unfold flowPrices
  rw [← len_beq]
  cases hb : u.all (fun x => inB x (-999) 999) with
  | true =>
    rw [hb, Bool.and_true] at h
    rw [h]; rfl
  | false =>
    rw [List.all_eq_false] at hb
    obtain ⟨x, hx, h2⟩ := hb
    obtain ⟨k, hk, rfl⟩ := List.mem_iff_getElem.1 hx
    have : allTo (priceOk Dist set u w) u.length = false := by
      refine allTo_false hk ?_
      unfold priceOk
      rw [getD_get hk, Bool.eq_false_iff.2 h2, Bool.false_and]
    rw [this, Bool.and_false]
theorem flow_eq {Open : List Int} {Dist : List (List Int)} {set u w : List Int} (ht : (goodField Open Dist && rising set 0 ((Open.length : Int) - 1) && decide (0 < set.length)) = true) (hu : u.length = Dist.length) (hb : u.all (fun x => inB x (-999) 999) = true)
    (hw : rowOk w (Open.length : Int) 999 = true) : flowPrices Open Dist set u w = allTo (okI Dist set u w) w.length := by
  obtain ⟨hg, hs, hp⟩ := two_facts ht
  obtain ⟨wl, wb⟩ := rowOk_at hw
  unfold flowPrices
  rw [decide_eq_true hu, hw, Bool.true_and, Bool.true_and, Bool.eq_iff_iff, Bool.and_eq_true]
  simp only [allTo_iff]
  constructor
  · rintro ⟨h1, h2⟩ a ha
    unfold okI
    rw [h1 a ha, Bool.true_and, allTo_iff]
    intro i hi
    have h3 := h2 i (by omega)
    unfold priceOk at h3
    simp only [Bool.and_eq_true, decide_eq_true_eq] at h3
    rw [offTo_le _ hp] at h3
    rw [Bool.not_eq_true', Bool.and_eq_false_iff]
    cases hc : set.contains (a : Int) with
    | false => exact .inl rfl
    | true =>
      refine .inr (decide_eq_false ?_)
      rw [List.contains_iff_mem] at hc
      obtain ⟨j, hj, hj2⟩ := List.mem_iff_getElem.1 hc
      have h4 := h3.2 j hj
      unfold offAt at h4
      rw [getD_get hj, hj2, Int.toNat_natCast, Int.toNat_natCast] at h4
      omega
  · intro h
    refine ⟨fun a ha => ?_, fun i hi => ?_⟩
    · have h1 := h a ha
      unfold okI at h1
      rw [Bool.and_eq_true] at h1
      exact h1.1
    · unfold priceOk
      simp only [Bool.and_eq_true, decide_eq_true_eq]
      refine ⟨List.all_eq_true.1 hb _ (getD_mem hi), ?_⟩
      rw [offTo_le _ hp]
      intro j hj
      have h3 := rising_at hs j hj
      have h1 := h (set.getD j 0).toNat (by omega)
      unfold okI at h1
      simp only [Bool.and_eq_true] at h1
      have h2 := allTo_iff.1 h1.2 i (by omega)
      rw [show (((set.getD j 0).toNat : Nat) : Int) = set.getD j 0 by omega] at h2
      have h4 : set.contains (set.getD j 0) = true := by rw [List.contains_iff_mem]; exact getD_mem hj
      rw [h4, Bool.true_and, Bool.not_eq_true', decide_eq_false_iff_not] at h2
      unfold offAt
      rw [Int.toNat_natCast]
      omega

abbrev i_Field_areFlowPrices_JJ0 (Open : List Int) (Dist : List (List Int)) (set : List Int) (u : List Int) (w : List Int) (a : Int) : Prop := (0 ≤ a) ∧ (a ≤ (w.length : Int)) ∧ (allTo (okI Dist set u w) a.toNat = true) ∧ ((u.length : Int) = (Dist.length : Int)) ∧ (u.all (fun x => inB x (-999) 999) = true) ∧ (rowOk w (Open.length : Int) 999 = true)
abbrev i_Field_areFlowPrices_mJ0 (Open : List Int) (Dist : List (List Int)) (set : List Int) (u : List Int) (w : List Int) (a : Int) : Nat := (w.length - a).toNat
abbrev i_Field_areFlowPrices_JJ1 (Open : List Int) (Dist : List (List Int)) (set : List Int) (u : List Int) (w : List Int) (a : Int) (i : Int) : Prop := (0 ≤ i) ∧ (i ≤ (Dist.length : Int)) ∧ (allTo (fun i => !(set.contains (a.toNat : Int) && decide (u.getD i 0 > (Dist.getD i []).getD a.toNat 0 + w.getD a.toNat 0))) i.toNat = true) ∧ ((decide (w.getD a.toNat 0 > 0) && !(set.contains a)) = false)
abbrev i_Field_areFlowPrices_mJ1 (Open : List Int) (Dist : List (List Int)) (set : List Int) (u : List Int) (w : List Int) (a : Int) (i : Int) : Nat := (Dist.length - i).toNat
def i_Field_areFlowPrices_C (f : FuncId) (ds : List D) : Orc := bif Nat.beq f 87 then i_areBetween_orc ds else bif Nat.beq f 171 then i_bagOf_orc ds else bif Nat.beq f 172 then i_bag_has_orc ds else .no
def i_Field_areFlowPrices_A (Open : List Int) (Dist : List (List Int)) (set : List Int) (u : List Int) (w : List Int) : Ann := .two (.none) (.two (.none) (.two (.none) (.two (.two (.none) (.loop (cut1 (fun (a : Int) => i_Field_areFlowPrices_JJ0 Open Dist set u w a) (fun (a : Int) => [(2, .d false (.sl (.ints u))), (4, .ptr 4 0), (9, .d true (.int .u64 ((bagN set : Nat) : Int))), (40, .d false (.sl (.ints w))), (41, .d true (.int .i64 (w.length : Int))), (42, .d true (.int .i64 a))]) (fun (a : Int) => [(4, .box 48 [.d false (.sl (.ints Open)), .d false (.sl (.rows Dist))])])) (fun g => i_Field_areFlowPrices_mJ0 Open Dist set u w g) (fun g => (fun (a : Int) => .two (.none) (.two (.none) (.two (.two (.none) (.two (.none) (.two (.none) (.loop (cut1 (fun (i : Int) => i_Field_areFlowPrices_JJ1 Open Dist set u w a i) (fun (i : Int) => [(2, .d false (.sl (.ints u))), (4, .ptr 4 0), (9, .d true (.int .u64 ((bagN set : Nat) : Int))), (10, .d true (.int .i64 a)), (11, .d false (.int .i64 (w.getD a.toNat 0))), (40, .d false (.sl (.ints w))), (41, .d true (.int .i64 (w.length : Int))), (42, .d true (.int .i64 a)), (56, .d false (.sl (.rows Dist))), (57, .d true (.int .i64 (Dist.length : Int))), (58, .d true (.int .i64 i))]) (fun (i : Int) => [(4, .box 48 [.d false (.sl (.ints Open)), .d false (.sl (.rows Dist))])])) (fun g => i_Field_areFlowPrices_mJ1 Open Dist set u w a g) (fun _ => .none))))) (.none)))) g))) (.none))))
def i_Field_areFlowPrices_P (Open : List Int) (Dist : List (List Int)) (set : List Int) (u : List Int) (w : List Int) : Prop :=
  ((!((u.length : Int) != (Dist.length : Int))) = true → (!((u.length : Int) != (Dist.length : Int))) = true) ∧ ((!((u.length : Int) != (Dist.length : Int))) = true → (!((u.length : Int) != (Dist.length : Int))) = true) ∧ ((!((u.length : Int) != (Dist.length : Int))) = true → (!((u.length : Int) != (Dist.length : Int))) = true) ∧ ((!((u.length : Int) != (Dist.length : Int))) = true → (!((u.length : Int) != (Dist.length : Int))) = true) ∧ ((!((u.length : Int) != (Dist.length : Int))) = true → (!((u.length : Int) != (Dist.length : Int))) = true) ∧ (true = true) ∧ ((((u.length : Int) != (Dist.length : Int)) = true → true = true)) ∧ ((((u.length : Int) != (Dist.length : Int)) = false → (!((u.length : Int) != (Dist.length : Int))) = true)) ∧ ((!(cond ((u.length : Int) != (Dist.length : Int)) true ((w.length : Int) != (Open.length : Int)))) = true → (!(cond ((u.length : Int) != (Dist.length : Int)) true ((w.length : Int) != (Open.length : Int)))) = true) ∧ ((!(cond ((u.length : Int) != (Dist.length : Int)) true ((w.length : Int) != (Open.length : Int)))) = true → PC Try.prog 87 [.sl (.ints u), .int .i64 (-999), .int .i64 999] (.one (.d (.bool (u.all (fun x => inB x (-999) 999)))))) ∧ ((!(cond ((u.length : Int) != (Dist.length : Int)) true ((w.length : Int) != (Open.length : Int)))) = true → (!(cond ((u.length : Int) != (Dist.length : Int)) true ((w.length : Int) != (Open.length : Int)))) = true) ∧ (true = true) ∧ (((cond ((u.length : Int) != (Dist.length : Int)) true ((w.length : Int) != (Open.length : Int))) = true → true = true)) ∧ (((cond ((u.length : Int) != (Dist.length : Int)) true ((w.length : Int) != (Open.length : Int))) = false → (!(cond ((u.length : Int) != (Dist.length : Int)) true ((w.length : Int) != (Open.length : Int)))) = true)) ∧ ((!(cond (cond ((u.length : Int) != (Dist.length : Int)) true ((w.length : Int) != (Open.length : Int))) true (!(u.all (fun x => inB x (-999) 999))))) = true → (!(cond (cond ((u.length : Int) != (Dist.length : Int)) true ((w.length : Int) != (Open.length : Int))) true (!(u.all (fun x => inB x (-999) 999))))) = true) ∧ ((!(cond (cond ((u.length : Int) != (Dist.length : Int)) true ((w.length : Int) != (Open.length : Int))) true (!(u.all (fun x => inB x (-999) 999))))) = true → PC Try.prog 87 [.sl (.ints w), .int .i64 0, .int .i64 999] (.one (.d (.bool (w.all (fun x => inB x 0 999)))))) ∧ ((!(cond (cond ((u.length : Int) != (Dist.length : Int)) true ((w.length : Int) != (Open.length : Int))) true (!(u.all (fun x => inB x (-999) 999))))) = true → (!(cond (cond ((u.length : Int) != (Dist.length : Int)) true ((w.length : Int) != (Open.length : Int))) true (!(u.all (fun x => inB x (-999) 999))))) = true) ∧ (true = true) ∧ (((cond (cond ((u.length : Int) != (Dist.length : Int)) true ((w.length : Int) != (Open.length : Int))) true (!(u.all (fun x => inB x (-999) 999)))) = true → true = true)) ∧ (((cond (cond ((u.length : Int) != (Dist.length : Int)) true ((w.length : Int) != (Open.length : Int))) true (!(u.all (fun x => inB x (-999) 999)))) = false → (!(cond (cond ((u.length : Int) != (Dist.length : Int)) true ((w.length : Int) != (Open.length : Int))) true (!(u.all (fun x => inB x (-999) 999))))) = true)) ∧ (((cond (cond (cond ((u.length : Int) != (Dist.length : Int)) true ((w.length : Int) != (Open.length : Int))) true (!(u.all (fun x => inB x (-999) 999)))) true (!(w.all (fun x => inB x 0 999)))) = true → ((false = (flowPrices Open Dist set u w)))) ∧ ((cond (cond (cond ((u.length : Int) != (Dist.length : Int)) true ((w.length : Int) != (Open.length : Int))) true (!(u.all (fun x => inB x (-999) 999)))) true (!(w.all (fun x => inB x 0 999)))) = false → (PC Try.prog 171 [.sl (.ints set)] (.one (.d (.int .u64 ((bagN set : Nat) : Int))))) ∧ ((∃ a' : Int, (i_Field_areFlowPrices_JJ0 Open Dist set u w a') ∧ (u = u) ∧ (((bagN set : Nat) : Int) = ((bagN set : Nat) : Int)) ∧ (w = w) ∧ ((w.length : Int) = (w.length : Int)) ∧ ((0 : Int) = a') ∧ (Open = Open) ∧ (Dist = Dist)) ∧ (∀ a : Int, (i_Field_areFlowPrices_JJ0 Open Dist set u w a) → (((decide (a < (w.length : Int))) = true → ((0 : Int) ≤ a) ∧ ((a : Int) < w.length) ∧ (a.toNat < w.length) ∧ (PC Try.prog 172 [.int .u64 ((bagN set : Nat) : Int), .int .i64 a] (.one (.d (.bool (((bagN set : Nat) : Int).toNat.testBit a.toNat))))) ∧ ((!(((bagN set : Nat) : Int).toNat.testBit a.toNat)) = true → (!(((bagN set : Nat) : Int).toNat.testBit a.toNat)) = true) ∧ (true = true) ∧ (((!(((bagN set : Nat) : Int).toNat.testBit a.toNat)) = true → (!(((bagN set : Nat) : Int).toNat.testBit a.toNat)) = true)) ∧ (((!(((bagN set : Nat) : Int).toNat.testBit a.toNat)) = false → true = true)) ∧ (((cond (!(((bagN set : Nat) : Int).toNat.testBit a.toNat)) (decide ((w.getD a.toNat 0) > 0)) false) = true → ((false = (flowPrices Open Dist set u w)))) ∧ ((cond (!(((bagN set : Nat) : Int).toNat.testBit a.toNat)) (decide ((w.getD a.toNat 0) > 0)) false) = false → ((∃ i' : Int, (i_Field_areFlowPrices_JJ1 Open Dist set u w a i') ∧ (u = u) ∧ (((bagN set : Nat) : Int) = ((bagN set : Nat) : Int)) ∧ (a = a) ∧ ((w.getD a.toNat 0) = (w.getD a.toNat 0)) ∧ (w = w) ∧ ((w.length : Int) = (w.length : Int)) ∧ (a = a) ∧ (Dist = Dist) ∧ ((Dist.length : Int) = (Dist.length : Int)) ∧ ((0 : Int) = i') ∧ (Open = Open) ∧ (Dist = Dist)) ∧ (∀ i : Int, (i_Field_areFlowPrices_JJ1 Open Dist set u w a i) → (((decide (i < (Dist.length : Int))) = true → ((0 : Int) ≤ i) ∧ ((i : Int) < Dist.length) ∧ (i.toNat < Dist.length) ∧ (true = true) ∧ (PC Try.prog 172 [.int .u64 ((bagN set : Nat) : Int), .int .i64 a] (.one (.d (.bool (((bagN set : Nat) : Int).toNat.testBit a.toNat))))) ∧ ((((bagN set : Nat) : Int).toNat.testBit a.toNat) = true → (((bagN set : Nat) : Int).toNat.testBit a.toNat) = true) ∧ ((((bagN set : Nat) : Int).toNat.testBit a.toNat) = true → (((bagN set : Nat) : Int).toNat.testBit a.toNat) = true) ∧ (((((bagN set : Nat) : Int).toNat.testBit a.toNat) = true → (0 : Int) ≤ i)) ∧ (((((bagN set : Nat) : Int).toNat.testBit a.toNat) = true → (i : Int) < u.length)) ∧ ((((bagN set : Nat) : Int).toNat.testBit a.toNat) = true → (((bagN set : Nat) : Int).toNat.testBit a.toNat) = true) ∧ (((((bagN set : Nat) : Int).toNat.testBit a.toNat) = true → i.toNat < u.length)) ∧ ((((bagN set : Nat) : Int).toNat.testBit a.toNat) = true → (((bagN set : Nat) : Int).toNat.testBit a.toNat) = true) ∧ ((((bagN set : Nat) : Int).toNat.testBit a.toNat) = true → (((bagN set : Nat) : Int).toNat.testBit a.toNat) = true) ∧ (((((bagN set : Nat) : Int).toNat.testBit a.toNat) = true → (0 : Int) ≤ a)) ∧ (((((bagN set : Nat) : Int).toNat.testBit a.toNat) = true → (a : Int) < (Dist.getD i.toNat []).length)) ∧ ((((bagN set : Nat) : Int).toNat.testBit a.toNat) = true → (((bagN set : Nat) : Int).toNat.testBit a.toNat) = true) ∧ (((((bagN set : Nat) : Int).toNat.testBit a.toNat) = true → a.toNat < (Dist.getD i.toNat []).length)) ∧ ((((bagN set : Nat) : Int).toNat.testBit a.toNat) = true → (((bagN set : Nat) : Int).toNat.testBit a.toNat) = true) ∧ ((((bagN set : Nat) : Int).toNat.testBit a.toNat) = true → (((bagN set : Nat) : Int).toNat.testBit a.toNat) = true) ∧ (((((bagN set : Nat) : Int).toNat.testBit a.toNat) = true → -9223372036854775808 ≤ (((Dist.getD i.toNat []).getD a.toNat 0) + (w.getD a.toNat 0)) ∧ (((Dist.getD i.toNat []).getD a.toNat 0) + (w.getD a.toNat 0)) ≤ 9223372036854775807)) ∧ ((((bagN set : Nat) : Int).toNat.testBit a.toNat) = true → (((bagN set : Nat) : Int).toNat.testBit a.toNat) = true) ∧ ((((bagN set : Nat) : Int).toNat.testBit a.toNat) = true → (((bagN set : Nat) : Int).toNat.testBit a.toNat) = true) ∧ (true = true) ∧ (((((bagN set : Nat) : Int).toNat.testBit a.toNat) = true → (((bagN set : Nat) : Int).toNat.testBit a.toNat) = true)) ∧ (((((bagN set : Nat) : Int).toNat.testBit a.toNat) = false → true = true)) ∧ (((cond (((bagN set : Nat) : Int).toNat.testBit a.toNat) (decide ((u.getD i.toNat 0) > (((Dist.getD i.toNat []).getD a.toNat 0) + (w.getD a.toNat 0)))) false) = true → ((false = (flowPrices Open Dist set u w)))) ∧ ((cond (((bagN set : Nat) : Int).toNat.testBit a.toNat) (decide ((u.getD i.toNat 0) > (((Dist.getD i.toNat []).getD a.toNat 0) + (w.getD a.toNat 0)))) false) = false → (-9223372036854775808 ≤ (i + 1) ∧ (i + 1) ≤ 9223372036854775807) ∧ (∃ i' : Int, (i_Field_areFlowPrices_JJ1 Open Dist set u w a i') ∧ (i_Field_areFlowPrices_mJ1 Open Dist set u w a i' < i_Field_areFlowPrices_mJ1 Open Dist set u w a i) ∧ (u = u) ∧ (((bagN set : Nat) : Int) = ((bagN set : Nat) : Int)) ∧ (a = a) ∧ ((w.getD a.toNat 0) = (w.getD a.toNat 0)) ∧ (w = w) ∧ ((w.length : Int) = (w.length : Int)) ∧ (a = a) ∧ (Dist = Dist) ∧ ((Dist.length : Int) = (Dist.length : Int)) ∧ ((i + 1) = i') ∧ (Open = Open) ∧ (Dist = Dist))))) ∧ ((decide (i < (Dist.length : Int))) = false → (-9223372036854775808 ≤ (a + 1) ∧ (a + 1) ≤ 9223372036854775807) ∧ (∃ a' : Int, (i_Field_areFlowPrices_JJ0 Open Dist set u w a') ∧ (i_Field_areFlowPrices_mJ0 Open Dist set u w a' < i_Field_areFlowPrices_mJ0 Open Dist set u w a) ∧ (u = u) ∧ (((bagN set : Nat) : Int) = ((bagN set : Nat) : Int)) ∧ (w = w) ∧ ((w.length : Int) = (w.length : Int)) ∧ ((a + 1) = a') ∧ (Open = Open) ∧ (Dist = Dist))))))))) ∧ ((decide (a < (w.length : Int))) = false → ((true = (flowPrices Open Dist set u w)))))))))
theorem i_Field_areFlowPrices_vc (Open : List Int) (Dist : List (List Int)) (set : List Int) (u : List Int) (w : List Int) (ht : (goodField Open Dist && rising set 0 ((Open.length : Int) - 1) && decide (0 < set.length)) = true) (w_Open : (Open.length : Int) ≤ 9223372036854775807) (w_Dist : (Dist.length : Int) ≤ 9223372036854775807) (v_Dist : ∀ x9 ∈ Dist, (x9.length : Int) ≤ 9223372036854775807) (w_set : (set.length : Int) ≤ 9223372036854775807) (w_u : (u.length : Int) ≤ 9223372036854775807) (w_w : (w.length : Int) ≤ 9223372036854775807) : i_Field_areFlowPrices_P Open Dist set u w := by
  unfold i_Field_areFlowPrices_P
  obtain ⟨hg, hs, hp⟩ := two_facts ht
  obtain ⟨g1, g2, g3⟩ := gf_open hg
  have cs := fun k => rising_at hs k
  have hbl := bagN_lt (m := 62) (list := set) fun x hx => by have := rising_mem hs x hx; omega
  have he : (2 : Nat) ^ 62 = 4611686018427387904 := by decide
  refine ⟨id, id, id, id, id, rfl, fun _ => rfl, ?_, id, fun _ => i_areBetween_pc u (-999) 999, id, rfl, fun _ => rfl, ?_, id, fun _ => i_areBetween_pc w 0 999, id, rfl, fun _ => rfl, ?_, ?_, ?_⟩
  · first | omega | rfl | (intro hg; simp only [nrmT] at hg; omega) | (intro g1 g2; simp [g1, g2]; done) | (intro g1; simp at g1 ⊢; simp [g1]; done) | (simp only [nrmT] at *; omega) | (simp at * <;> omega) | (simp_all <;> omega) | (simp_all; done)
  · first | omega | rfl | (intro hg; simp only [nrmT] at hg; omega) | (intro g1 g2; simp [g1, g2]; done) | (intro g1; simp at g1 ⊢; simp [g1]; done) | (simp only [nrmT] at *; omega) | (simp at * <;> omega) | (simp_all <;> omega) | (simp_all; done)
  · first | omega | rfl | (intro hg; simp only [nrmT] at hg; omega) | (intro g1 g2; simp [g1, g2]; done) | (intro g1; simp at g1 ⊢; simp [g1]; done) | (simp only [nrmT] at *; omega) | (simp at * <;> omega) | (simp_all <;> omega) | (simp_all; done)
  · intro b1
    refine (flow_no ?_).symm
    revert b1; rw [rowOk_cond]; simp only [bne]; cases ((u.length : Int) == (Dist.length : Int)) <;> cases ((w.length : Int) == (Open.length : Int)) <;> cases u.all (fun x => inB x (-999) 999) <;> cases w.all (fun x => inB x 0 999) <;> simp
  · intro b2
    refine ⟨?_, ?_, ?_⟩
    · refine i_bagOf_pc set ?_
      · intro x hx; have := rising_mem hs x hx; omega
    · refine ⟨0, ?_⟩
      refine ⟨?_, rfl, rfl, rfl, rfl, rfl, rfl, rfl⟩
      · refine ⟨?_, ?_, ?_, ?_, ?_, ?_⟩
        · first | omega | rfl | (intro hg; simp only [nrmT] at hg; omega) | (intro g1 g2; simp [g1, g2]; done) | (intro g1; simp at g1 ⊢; simp [g1]; done) | (simp only [nrmT] at *; omega) | (simp at * <;> omega) | (simp_all <;> omega) | (simp_all; done)
        · first | omega | rfl | (intro hg; simp only [nrmT] at hg; omega) | (intro g1 g2; simp [g1, g2]; done) | (intro g1; simp at g1 ⊢; simp [g1]; done) | (simp only [nrmT] at *; omega) | (simp at * <;> omega) | (simp_all <;> omega) | (simp_all; done)
        · first | omega | rfl | (intro hg; simp only [nrmT] at hg; omega) | (intro g1 g2; simp [g1, g2]; done) | (intro g1; simp at g1 ⊢; simp [g1]; done) | (simp only [nrmT] at *; omega) | (simp at * <;> omega) | (simp_all <;> omega) | (simp_all; done)
        · have hq : (u.length : Int) = (Dist.length : Int) ∧ u.all (fun x => inB x (-999) 999) = true ∧ rowOk w (Open.length : Int) 999 = true := by
            revert b2; rw [rowOk_cond]; cases u.all (fun x => inB x (-999) 999) <;> cases w.all (fun x => inB x 0 999) <;> by_cases h : (u.length : Int) = (Dist.length : Int) <;> by_cases h2 : (w.length : Int) = (Open.length : Int) <;> simp [h, h2]
          exact hq.1
        · have hq : (u.length : Int) = (Dist.length : Int) ∧ u.all (fun x => inB x (-999) 999) = true ∧ rowOk w (Open.length : Int) 999 = true := by
            revert b2; rw [rowOk_cond]; cases u.all (fun x => inB x (-999) 999) <;> cases w.all (fun x => inB x 0 999) <;> by_cases h : (u.length : Int) = (Dist.length : Int) <;> by_cases h2 : (w.length : Int) = (Open.length : Int) <;> simp [h, h2]
          exact hq.2.1
        · have hq : (u.length : Int) = (Dist.length : Int) ∧ u.all (fun x => inB x (-999) 999) = true ∧ rowOk w (Open.length : Int) 999 = true := by
            revert b2; rw [rowOk_cond]; cases u.all (fun x => inB x (-999) 999) <;> cases w.all (fun x => inB x 0 999) <;> by_cases h : (u.length : Int) = (Dist.length : Int) <;> by_cases h2 : (w.length : Int) = (Open.length : Int) <;> simp [h, h2]
          exact hq.2.2
    · intro a hJ
      obtain ⟨h1, h2, h3, h4, h5, h6⟩ := hJ
      refine ⟨?_, ?_⟩
      · intro b3
        try simp only [nrmT] at b3
        refine ⟨?_, ?_, ?_, ?_, id, rfl, id, fun _ => rfl, ?_, ?_⟩
        · first | omega | rfl | (intro hg; simp only [nrmT] at hg; omega) | (intro g1 g2; simp [g1, g2]; done) | (intro g1; simp at g1 ⊢; simp [g1]; done) | (simp only [nrmT] at *; omega) | (simp at * <;> omega) | (simp_all <;> omega) | (simp_all; done)
        · first | omega | rfl | (intro hg; simp only [nrmT] at hg; omega) | (intro g1 g2; simp [g1, g2]; done) | (intro g1; simp at g1 ⊢; simp [g1]; done) | (simp only [nrmT] at *; omega) | (simp at * <;> omega) | (simp_all <;> omega) | (simp_all; done)
        · first | omega | rfl | (intro hg; simp only [nrmT] at hg; omega) | (intro g1 g2; simp [g1, g2]; done) | (intro g1; simp at g1 ⊢; simp [g1]; done) | (simp only [nrmT] at *; omega) | (simp at * <;> omega) | (simp_all <;> omega) | (simp_all; done)
        · refine i_bag_has_pc ((bagN set : Nat) : Int) a ?_ ?_
          · omega
          · first | omega | rfl | (intro hg; simp only [nrmT] at hg; omega) | (intro g1 g2; simp [g1, g2]; done) | (intro g1; simp at g1 ⊢; simp [g1]; done) | (simp only [nrmT] at *; omega) | (simp at * <;> omega) | (simp_all <;> omega) | (simp_all; done)
        · intro b4
          have hfe := flow_eq (u := u) ht (by omega) h5 h6
          rw [hfe]
          rw [open_bit hs h1] at b4
          exact (allTo_falseI h1 (by omega) (by unfold okI; rw [show ((a.toNat : Nat) : Int) = a by omega]; revert b4; cases set.contains a <;> cases decide (w.getD a.toNat 0 > 0) <;> simp)).symm
        · intro b5
          refine ⟨?_, ?_⟩
          · refine ⟨0, ?_⟩
            refine ⟨?_, rfl, rfl, rfl, rfl, rfl, rfl, rfl, rfl, rfl, rfl, rfl, rfl⟩
            · refine ⟨?_, ?_, ?_, ?_⟩
              · first | omega | rfl | (intro hg; simp only [nrmT] at hg; omega) | (intro g1 g2; simp [g1, g2]; done) | (intro g1; simp at g1 ⊢; simp [g1]; done) | (simp only [nrmT] at *; omega) | (simp at * <;> omega) | (simp_all <;> omega) | (simp_all; done)
              · first | omega | rfl | (intro hg; simp only [nrmT] at hg; omega) | (intro g1 g2; simp [g1, g2]; done) | (intro g1; simp at g1 ⊢; simp [g1]; done) | (simp only [nrmT] at *; omega) | (simp at * <;> omega) | (simp_all <;> omega) | (simp_all; done)
              · first | omega | rfl | (intro hg; simp only [nrmT] at hg; omega) | (intro g1 g2; simp [g1, g2]; done) | (intro g1; simp at g1 ⊢; simp [g1]; done) | (simp only [nrmT] at *; omega) | (simp at * <;> omega) | (simp_all <;> omega) | (simp_all; done)
              · rw [open_bit hs h1] at b5
                revert b5; cases set.contains a <;> cases decide (w.getD a.toNat 0 > 0) <;> simp
          · intro i hJ
            obtain ⟨k1, k2, k3, k4⟩ := hJ
            refine ⟨?_, ?_⟩
            · intro b6
              try simp only [nrmT] at b6
              refine ⟨?_, ?_, ?_, rfl, ?_, id, id, ?_, ?_, id, ?_, id, id, ?_, ?_, id, ?_, id, id, ?_, id, id, rfl, id, fun _ => rfl, ?_, ?_⟩
              · first | omega | rfl | (intro hg; simp only [nrmT] at hg; omega) | (intro g1 g2; simp [g1, g2]; done) | (intro g1; simp at g1 ⊢; simp [g1]; done) | (simp only [nrmT] at *; omega) | (simp at * <;> omega) | (simp_all <;> omega) | (simp_all; done)
              · first | omega | rfl | (intro hg; simp only [nrmT] at hg; omega) | (intro g1 g2; simp [g1, g2]; done) | (intro g1; simp at g1 ⊢; simp [g1]; done) | (simp only [nrmT] at *; omega) | (simp at * <;> omega) | (simp_all <;> omega) | (simp_all; done)
              · first | omega | rfl | (intro hg; simp only [nrmT] at hg; omega) | (intro g1 g2; simp [g1, g2]; done) | (intro g1; simp at g1 ⊢; simp [g1]; done) | (simp only [nrmT] at *; omega) | (simp at * <;> omega) | (simp_all <;> omega) | (simp_all; done)
              · refine i_bag_has_pc ((bagN set : Nat) : Int) a ?_ ?_
                · omega
                · first | omega | rfl | (intro hg; simp only [nrmT] at hg; omega) | (intro g1 g2; simp [g1, g2]; done) | (intro g1; simp at g1 ⊢; simp [g1]; done) | (simp only [nrmT] at *; omega) | (simp at * <;> omega) | (simp_all <;> omega) | (simp_all; done)
              · intro _; omega
              · intro _; omega
              · intro _; omega
              · intro _; omega
              · intro _
                obtain ⟨rl, rb⟩ := gf_row (i := i.toNat) hg (by omega)
                obtain ⟨wl, wb⟩ := rowOk_at h6
                omega
              · intro _
                obtain ⟨rl, rb⟩ := gf_row (i := i.toNat) hg (by omega)
                obtain ⟨wl, wb⟩ := rowOk_at h6
                omega
              · intro _
                obtain ⟨rl, rb⟩ := gf_row (i := i.toNat) hg (by omega)
                obtain ⟨wl, wb⟩ := rowOk_at h6
                have := rb a.toNat (by omega)
                have := wb a.toNat (by omega)
                omega
              · intro b7
                have hfe := flow_eq (u := u) ht (by omega) h5 h6
                rw [hfe]
                rw [open_bit hs h1] at b7
                refine (allTo_falseI h1 (by omega) ?_).symm
                unfold okI
                rw [show allTo (fun i => !(set.contains (a.toNat : Int) && decide (u.getD i 0 > (Dist.getD i []).getD a.toNat 0 + w.getD a.toNat 0))) Dist.length = false from allTo_falseI k1 (by omega) (by rw [show ((a.toNat : Nat) : Int) = a by omega]; revert b7; cases set.contains a <;> simp), Bool.and_false]
              · intro b8
                refine ⟨?_, ?_⟩
                · first | omega | rfl | (intro hg; simp only [nrmT] at hg; omega) | (intro g1 g2; simp [g1, g2]; done) | (intro g1; simp at g1 ⊢; simp [g1]; done) | (simp only [nrmT] at *; omega) | (simp at * <;> omega) | (simp_all <;> omega) | (simp_all; done)
                · refine ⟨(i + 1), ?_⟩
                  refine ⟨?_, ?_, rfl, rfl, rfl, rfl, rfl, rfl, rfl, rfl, rfl, rfl, rfl, rfl⟩
                  · refine ⟨?_, ?_, ?_, ?_⟩
                    · first | omega | rfl | (intro hg; simp only [nrmT] at hg; omega) | (intro g1 g2; simp [g1, g2]; done) | (intro g1; simp at g1 ⊢; simp [g1]; done) | (simp only [nrmT] at *; omega) | (simp at * <;> omega) | (simp_all <;> omega) | (simp_all; done)
                    · first | omega | rfl | (intro hg; simp only [nrmT] at hg; omega) | (intro g1 g2; simp [g1, g2]; done) | (intro g1; simp at g1 ⊢; simp [g1]; done) | (simp only [nrmT] at *; omega) | (simp at * <;> omega) | (simp_all <;> omega) | (simp_all; done)
                    · refine allTo_step k1 k3 ?_
                      rw [open_bit hs h1] at b8
                      rw [show ((a.toNat : Nat) : Int) = a by omega]; revert b8; cases set.contains a <;> simp
                    · exact k4
                  · first | (show _ < _; omega) | (simp only [i_Field_areFlowPrices_mJ1]; omega) | (simp only [i_Field_areFlowPrices_mJ1] at *; simp at *; omega)
            · intro b9
              try simp only [nrmT] at b9
              refine ⟨?_, ?_⟩
              · first | omega | rfl | (intro hg; simp only [nrmT] at hg; omega) | (intro g1 g2; simp [g1, g2]; done) | (intro g1; simp at g1 ⊢; simp [g1]; done) | (simp only [nrmT] at *; omega) | (simp at * <;> omega) | (simp_all <;> omega) | (simp_all; done)
              · refine ⟨(a + 1), ?_⟩
                refine ⟨?_, ?_, rfl, rfl, rfl, rfl, rfl, rfl, rfl⟩
                · refine ⟨?_, ?_, ?_, ?_, ?_, ?_⟩
                  · first | omega | rfl | (intro hg; simp only [nrmT] at hg; omega) | (intro g1 g2; simp [g1, g2]; done) | (intro g1; simp at g1 ⊢; simp [g1]; done) | (simp only [nrmT] at *; omega) | (simp at * <;> omega) | (simp_all <;> omega) | (simp_all; done)
                  · first | omega | rfl | (intro hg; simp only [nrmT] at hg; omega) | (intro g1 g2; simp [g1, g2]; done) | (intro g1; simp at g1 ⊢; simp [g1]; done) | (simp only [nrmT] at *; omega) | (simp at * <;> omega) | (simp_all <;> omega) | (simp_all; done)
                  · refine allTo_step h1 h3 ?_
                    unfold okI
                    rw [show i.toNat = Dist.length by omega] at k3
                    rw [k3, show ((a.toNat : Nat) : Int) = a by omega, k4]; rfl
                  · exact h4
                  · exact h5
                  · exact h6
                · first | (show _ < _; omega) | (simp only [i_Field_areFlowPrices_mJ0]; omega) | (simp only [i_Field_areFlowPrices_mJ0] at *; simp at *; omega)
      · intro b10
        try simp only [nrmT] at b10
        have hfe := flow_eq (u := u) ht (by omega) h5 h6
        rw [hfe, ← h3]; congr 1; omega
theorem i_Field_areFlowPrices_pc (Open : List Int) (Dist : List (List Int)) (set : List Int) (u : List Int) (w : List Int) (ht : (goodField Open Dist && rising set 0 ((Open.length : Int) - 1) && decide (0 < set.length)) = true) : PC Try.prog 135 [.agg [.sl (.ints Open), .sl (.rows Dist)], .sl (.ints set), .sl (.ints u), .sl (.ints w)] (.one (.d (.bool (flowPrices Open Dist set u w)))) :=
  pc_wf @Try.call135 fun hw => pc_by (by kernel_rfl) Try.func135 @Try.call135 (by kernel_rfl) i_Field_areFlowPrices_C (i_Field_areFlowPrices_A Open Dist set u w) (by kernel_rfl) (i_Field_areFlowPrices_vc Open Dist set u w ht hw.1.1 hw.1.2.1.1 hw.1.2.1.2 hw.2.1 hw.2.2.1 hw.2.2.2.1) (by kernel_rfl)
def i_Field_areFlowPrices_orc : List D → Orc := orcN [none, some .ints, some .ints, some .ints] fun ds => match ds with
  | [.agg [.sl (.ints Open), .sl (.rows Dist)], .sl (.ints set), .sl (.ints u), .sl (.ints w)] => some (.one (.d (.bool (flowPrices Open Dist set u w))))
  | _ => none

def s_AreFlowPrices_C (f : FuncId) (ds : List D) : Orc := bif Nat.beq f 132 then s_l2Two_orc ds else bif Nat.beq f 133 then s_l7Prices_orc ds else .no
def s_AreFlowPrices_A (Open : List Int) (Dist : List (List Int)) (set : List Int) (u : List Int) (w : List Int) : Ann := .none
def s_AreFlowPrices_P (Open : List Int) (Dist : List (List Int)) (set : List Int) (u : List Int) (w : List Int) : Prop :=
  (PC Try.prog 132 [.agg [.sl (.ints Open), .sl (.rows Dist)], .sl (.ints set)] (.one (.d (.bool (goodField Open Dist && rising set 0 ((Open.length : Int) - 1) && decide (0 < set.length)))))) ∧ (((!(goodField Open Dist && rising set 0 ((Open.length : Int) - 1) && decide (0 < set.length))) = true → ((false = ((goodField Open Dist && rising set 0 ((Open.length : Int) - 1) && decide (0 < set.length)) && flowPrices Open Dist set u w)) ∧ (false = (goodField Open Dist && rising set 0 ((Open.length : Int) - 1) && decide (0 < set.length))))) ∧ ((!(goodField Open Dist && rising set 0 ((Open.length : Int) - 1) && decide (0 < set.length))) = false → (PC Try.prog 133 [.agg [.sl (.ints Open), .sl (.rows Dist)], .sl (.ints set), .sl (.ints u), .sl (.ints w)] (.one (.d (.bool (flowPrices Open Dist set u w))))) ∧ (((flowPrices Open Dist set u w) = ((goodField Open Dist && rising set 0 ((Open.length : Int) - 1) && decide (0 < set.length)) && flowPrices Open Dist set u w)) ∧ (true = (goodField Open Dist && rising set 0 ((Open.length : Int) - 1) && decide (0 < set.length))))))
theorem s_AreFlowPrices_vc (Open : List Int) (Dist : List (List Int)) (set : List Int) (u : List Int) (w : List Int)  (w_Open : (Open.length : Int) ≤ 9223372036854775807) (w_Dist : (Dist.length : Int) ≤ 9223372036854775807) (v_Dist : ∀ x9 ∈ Dist, (x9.length : Int) ≤ 9223372036854775807) (w_set : (set.length : Int) ≤ 9223372036854775807) (w_u : (u.length : Int) ≤ 9223372036854775807) (w_w : (w.length : Int) ≤ 9223372036854775807) : s_AreFlowPrices_P Open Dist set u w := by
  unfold s_AreFlowPrices_P
  refine ⟨s_l2Two_pc Open Dist set, ?_, ?_⟩
  · intro b1
    try simp only [Bool.not_eq_true', Bool.not_eq_false', Bool.not_not] at b1
    refine ⟨?_, ?_⟩
    · rw [b1]; rfl
    · exact b1.symm
  · intro b2
    try simp only [Bool.not_eq_true', Bool.not_eq_false', Bool.not_not] at b2
    refine ⟨?_, ?_, ?_⟩
    · refine s_l7Prices_pc Open Dist set u w ?_
      · exact b2
    · rw [b2]; rfl
    · exact b2.symm
theorem s_AreFlowPrices_pc (Open : List Int) (Dist : List (List Int)) (set : List Int) (u : List Int) (w : List Int)  : PC Try.prog 71 [.agg [.sl (.ints Open), .sl (.rows Dist)], .sl (.ints set), .sl (.ints u), .sl (.ints w)] (.tup [.d (.bool ((goodField Open Dist && rising set 0 ((Open.length : Int) - 1) && decide (0 < set.length)) && flowPrices Open Dist set u w)), .d (.bool (goodField Open Dist && rising set 0 ((Open.length : Int) - 1) && decide (0 < set.length)))]) :=
  pc_wf @Try.call71 fun hw => pc_by (by kernel_rfl) Try.func71 @Try.call71 (by kernel_rfl) s_AreFlowPrices_C (s_AreFlowPrices_A Open Dist set u w) (by kernel_rfl) (s_AreFlowPrices_vc Open Dist set u w hw.1.1 hw.1.2.1.1 hw.1.2.1.2 hw.2.1 hw.2.2.1 hw.2.2.2.1) (by kernel_rfl)
def s_AreFlowPrices_orc : List D → Orc := orcN [none, some .ints, some .ints, some .ints] fun ds => match ds with
  | [.agg [.sl (.ints Open), .sl (.rows Dist)], .sl (.ints set), .sl (.ints u), .sl (.ints w)] => some (.tup [.d (.bool ((goodField Open Dist && rising set 0 ((Open.length : Int) - 1) && decide (0 < set.length)) && flowPrices Open Dist set u w)), .d (.bool (goodField Open Dist && rising set 0 ((Open.length : Int) - 1) && decide (0 < set.length)))])
  | _ => none

def i_AreFlowPrices_C (f : FuncId) (ds : List D) : Orc := bif Nat.beq f 134 then i_isOpened_orc ds else bif Nat.beq f 135 then i_Field_areFlowPrices_orc ds else .no
def i_AreFlowPrices_A (Open : List Int) (Dist : List (List Int)) (set : List Int) (u : List Int) (w : List Int) : Ann := .none
def i_AreFlowPrices_P (Open : List Int) (Dist : List (List Int)) (set : List Int) (u : List Int) (w : List Int) : Prop :=
  (PC Try.prog 134 [.agg [.sl (.ints Open), .sl (.rows Dist)], .sl (.ints set)] (.one (.d (.bool (goodField Open Dist && rising set 0 ((Open.length : Int) - 1) && decide (0 < set.length)))))) ∧ (((!(goodField Open Dist && rising set 0 ((Open.length : Int) - 1) && decide (0 < set.length))) = true → ((false = ((goodField Open Dist && rising set 0 ((Open.length : Int) - 1) && decide (0 < set.length)) && flowPrices Open Dist set u w)) ∧ (false = (goodField Open Dist && rising set 0 ((Open.length : Int) - 1) && decide (0 < set.length))))) ∧ ((!(goodField Open Dist && rising set 0 ((Open.length : Int) - 1) && decide (0 < set.length))) = false → (PC Try.prog 135 [.agg [.sl (.ints Open), .sl (.rows Dist)], .sl (.ints set), .sl (.ints u), .sl (.ints w)] (.one (.d (.bool (flowPrices Open Dist set u w))))) ∧ (((flowPrices Open Dist set u w) = ((goodField Open Dist && rising set 0 ((Open.length : Int) - 1) && decide (0 < set.length)) && flowPrices Open Dist set u w)) ∧ (true = (goodField Open Dist && rising set 0 ((Open.length : Int) - 1) && decide (0 < set.length))))))
theorem i_AreFlowPrices_vc (Open : List Int) (Dist : List (List Int)) (set : List Int) (u : List Int) (w : List Int)  (w_Open : (Open.length : Int) ≤ 9223372036854775807) (w_Dist : (Dist.length : Int) ≤ 9223372036854775807) (v_Dist : ∀ x9 ∈ Dist, (x9.length : Int) ≤ 9223372036854775807) (w_set : (set.length : Int) ≤ 9223372036854775807) (w_u : (u.length : Int) ≤ 9223372036854775807) (w_w : (w.length : Int) ≤ 9223372036854775807) : i_AreFlowPrices_P Open Dist set u w := by
  unfold i_AreFlowPrices_P
  refine ⟨i_isOpened_pc Open Dist set, ?_, ?_⟩
  · intro b1
    try simp only [Bool.not_eq_true', Bool.not_eq_false', Bool.not_not] at b1
    refine ⟨?_, ?_⟩
    · rw [b1]; rfl
    · exact b1.symm
  · intro b2
    try simp only [Bool.not_eq_true', Bool.not_eq_false', Bool.not_not] at b2
    refine ⟨?_, ?_, ?_⟩
    · refine i_Field_areFlowPrices_pc Open Dist set u w ?_
      · exact b2
    · rw [b2]; rfl
    · exact b2.symm
theorem i_AreFlowPrices_pc (Open : List Int) (Dist : List (List Int)) (set : List Int) (u : List Int) (w : List Int)  : PC Try.prog 72 [.agg [.sl (.ints Open), .sl (.rows Dist)], .sl (.ints set), .sl (.ints u), .sl (.ints w)] (.tup [.d (.bool ((goodField Open Dist && rising set 0 ((Open.length : Int) - 1) && decide (0 < set.length)) && flowPrices Open Dist set u w)), .d (.bool (goodField Open Dist && rising set 0 ((Open.length : Int) - 1) && decide (0 < set.length)))]) :=
  pc_wf @Try.call72 fun hw => pc_by (by kernel_rfl) Try.func72 @Try.call72 (by kernel_rfl) i_AreFlowPrices_C (i_AreFlowPrices_A Open Dist set u w) (by kernel_rfl) (i_AreFlowPrices_vc Open Dist set u w hw.1.1 hw.1.2.1.1 hw.1.2.1.2 hw.2.1 hw.2.2.1 hw.2.2.2.1) (by kernel_rfl)
def i_AreFlowPrices_orc : List D → Orc := orcN [none, some .ints, some .ints, some .ints] fun ds => match ds with
  | [.agg [.sl (.ints Open), .sl (.rows Dist)], .sl (.ints set), .sl (.ints u), .sl (.ints w)] => some (.tup [.d (.bool ((goodField Open Dist && rising set 0 ((Open.length : Int) - 1) && decide (0 < set.length)) && flowPrices Open Dist set u w)), .d (.bool (goodField Open Dist && rising set 0 ((Open.length : Int) - 1) && decide (0 < set.length)))])
  | _ => none

def l_FnExactAreFlowPrices_C (f : FuncId) (ds : List D) : Orc := bif Nat.beq f 37 then l_szField_orc ds else bif Nat.beq f 39 then l_toField_orc ds else bif Nat.beq f 40 then l_toIntS_orc ds else bif Nat.beq f 71 then s_AreFlowPrices_orc ds else bif Nat.beq f 72 then i_AreFlowPrices_orc ds else bif Nat.beq f 42 then l_eqField_orc ds else bif Nat.beq f 43 then l_eqIntS_orc ds else .no
def l_FnExactAreFlowPrices_A (Open : List Int) (Dist : List (List Int)) (set : List Int) (u : List Int) (w : List Int) : Ann := .none
def l_FnExactAreFlowPrices_P (Open : List Int) (Dist : List (List Int)) (set : List Int) (u : List Int) (w : List Int) : Prop :=
  (((decide ((set.length : Int) > 1048576)) = true → ((true = true))) ∧ ((decide ((set.length : Int) > 1048576)) = false → (((decide ((u.length : Int) > 1048576)) = true → ((true = true))) ∧ ((decide ((u.length : Int) > 1048576)) = false → (((decide ((w.length : Int) > 1048576)) = true → ((true = true))) ∧ ((decide ((w.length : Int) > 1048576)) = false → (PC Try.prog 37 [.agg [.sl (.ints Open), .sl (.rows Dist)], .int .i64 1048576] (.one (.d (.int .i64 (szField Open Dist 1048576))))) ∧ (((decide ((szField Open Dist 1048576) < 0)) = true → ((true = true))) ∧ ((decide ((szField Open Dist 1048576) < 0)) = false → (PC Try.prog 39 [.agg [.sl (.ints Open), .sl (.rows Dist)]] (.one (.d (.agg [.sl (.ints Open), .sl (.rows Dist)])))) ∧ (PC Try.prog 40 [.sl (.ints set)] (.one (.d (.sl (.ints set))))) ∧ (PC Try.prog 40 [.sl (.ints u)] (.one (.d (.sl (.ints u))))) ∧ (PC Try.prog 40 [.sl (.ints w)] (.one (.d (.sl (.ints w))))) ∧ (PC Try.prog 71 [.agg [.sl (.ints Open), .sl (.rows Dist)], .sl (.ints set), .sl (.ints u), .sl (.ints w)] (.tup [.d (.bool ((goodField Open Dist && rising set 0 ((Open.length : Int) - 1) && decide (0 < set.length)) && flowPrices Open Dist set u w)), .d (.bool (goodField Open Dist && rising set 0 ((Open.length : Int) - 1) && decide (0 < set.length)))])) ∧ (PC Try.prog 39 [.agg [.sl (.ints Open), .sl (.rows Dist)]] (.one (.d (.agg [.sl (.ints Open), .sl (.rows Dist)])))) ∧ (PC Try.prog 40 [.sl (.ints set)] (.one (.d (.sl (.ints set))))) ∧ (PC Try.prog 40 [.sl (.ints u)] (.one (.d (.sl (.ints u))))) ∧ (PC Try.prog 40 [.sl (.ints w)] (.one (.d (.sl (.ints w))))) ∧ (PC Try.prog 72 [.agg [.sl (.ints Open), .sl (.rows Dist)], .sl (.ints set), .sl (.ints u), .sl (.ints w)] (.tup [.d (.bool ((goodField Open Dist && rising set 0 ((Open.length : Int) - 1) && decide (0 < set.length)) && flowPrices Open Dist set u w)), .d (.bool (goodField Open Dist && rising set 0 ((Open.length : Int) - 1) && decide (0 < set.length)))])) ∧ ((!(((goodField Open Dist && rising set 0 ((Open.length : Int) - 1) && decide (0 < set.length)) && flowPrices Open Dist set u w) != ((goodField Open Dist && rising set 0 ((Open.length : Int) - 1) && decide (0 < set.length)) && flowPrices Open Dist set u w))) = true → (!(((goodField Open Dist && rising set 0 ((Open.length : Int) - 1) && decide (0 < set.length)) && flowPrices Open Dist set u w) != ((goodField Open Dist && rising set 0 ((Open.length : Int) - 1) && decide (0 < set.length)) && flowPrices Open Dist set u w))) = true) ∧ ((!(((goodField Open Dist && rising set 0 ((Open.length : Int) - 1) && decide (0 < set.length)) && flowPrices Open Dist set u w) != ((goodField Open Dist && rising set 0 ((Open.length : Int) - 1) && decide (0 < set.length)) && flowPrices Open Dist set u w))) = true → (!(((goodField Open Dist && rising set 0 ((Open.length : Int) - 1) && decide (0 < set.length)) && flowPrices Open Dist set u w) != ((goodField Open Dist && rising set 0 ((Open.length : Int) - 1) && decide (0 < set.length)) && flowPrices Open Dist set u w))) = true) ∧ (true = true) ∧ (((((goodField Open Dist && rising set 0 ((Open.length : Int) - 1) && decide (0 < set.length)) && flowPrices Open Dist set u w) != ((goodField Open Dist && rising set 0 ((Open.length : Int) - 1) && decide (0 < set.length)) && flowPrices Open Dist set u w)) = true → true = true)) ∧ (((((goodField Open Dist && rising set 0 ((Open.length : Int) - 1) && decide (0 < set.length)) && flowPrices Open Dist set u w) != ((goodField Open Dist && rising set 0 ((Open.length : Int) - 1) && decide (0 < set.length)) && flowPrices Open Dist set u w)) = false → (!(((goodField Open Dist && rising set 0 ((Open.length : Int) - 1) && decide (0 < set.length)) && flowPrices Open Dist set u w) != ((goodField Open Dist && rising set 0 ((Open.length : Int) - 1) && decide (0 < set.length)) && flowPrices Open Dist set u w))) = true)) ∧ (((cond (((goodField Open Dist && rising set 0 ((Open.length : Int) - 1) && decide (0 < set.length)) && flowPrices Open Dist set u w) != ((goodField Open Dist && rising set 0 ((Open.length : Int) - 1) && decide (0 < set.length)) && flowPrices Open Dist set u w)) true ((goodField Open Dist && rising set 0 ((Open.length : Int) - 1) && decide (0 < set.length)) != (goodField Open Dist && rising set 0 ((Open.length : Int) - 1) && decide (0 < set.length)))) = true → ((false = true))) ∧ ((cond (((goodField Open Dist && rising set 0 ((Open.length : Int) - 1) && decide (0 < set.length)) && flowPrices Open Dist set u w) != ((goodField Open Dist && rising set 0 ((Open.length : Int) - 1) && decide (0 < set.length)) && flowPrices Open Dist set u w)) true ((goodField Open Dist && rising set 0 ((Open.length : Int) - 1) && decide (0 < set.length)) != (goodField Open Dist && rising set 0 ((Open.length : Int) - 1) && decide (0 < set.length)))) = false → (true = true) ∧ (PC Try.prog 39 [.agg [.sl (.ints Open), .sl (.rows Dist)]] (.one (.d (.agg [.sl (.ints Open), .sl (.rows Dist)])))) ∧ (PC Try.prog 42 [.agg [.sl (.ints Open), .sl (.rows Dist)], .agg [.sl (.ints Open), .sl (.rows Dist)]] (.one (.d (.bool ((Open == Open) && (Dist == Dist)))))) ∧ (((!((Open == Open) && (Dist == Dist))) = true → ((false = true))) ∧ ((!((Open == Open) && (Dist == Dist))) = false → (PC Try.prog 40 [.sl (.ints set)] (.one (.d (.sl (.ints set))))) ∧ (PC Try.prog 43 [.sl (.ints set), .sl (.ints set)] (.one (.d (.bool (set == set))))) ∧ (((!(set == set)) = true → ((false = true))) ∧ ((!(set == set)) = false → (PC Try.prog 40 [.sl (.ints u)] (.one (.d (.sl (.ints u))))) ∧ (PC Try.prog 43 [.sl (.ints u), .sl (.ints u)] (.one (.d (.bool (u == u))))) ∧ (((!(u == u)) = true → ((false = true))) ∧ ((!(u == u)) = false → (PC Try.prog 40 [.sl (.ints w)] (.one (.d (.sl (.ints w))))) ∧ (PC Try.prog 43 [.sl (.ints w), .sl (.ints w)] (.one (.d (.bool (w == w))))) ∧ (((!(w == w)) = true → ((false = true))) ∧ ((!(w == w)) = false → ((true = true))))))))))))))))))))
theorem l_FnExactAreFlowPrices_vc (Open : List Int) (Dist : List (List Int)) (set : List Int) (u : List Int) (w : List Int)  (w_Open : (Open.length : Int) ≤ 9223372036854775807) (w_Dist : (Dist.length : Int) ≤ 9223372036854775807) (v_Dist : ∀ x9 ∈ Dist, (x9.length : Int) ≤ 9223372036854775807) (w_set : (set.length : Int) ≤ 9223372036854775807) (w_u : (u.length : Int) ≤ 9223372036854775807) (w_w : (w.length : Int) ≤ 9223372036854775807) : l_FnExactAreFlowPrices_P Open Dist set u w := by
  unfold l_FnExactAreFlowPrices_P
  refine ⟨?_, ?_⟩
  · intro b1
    try simp only [nrmT] at b1
    exact rfl
  · intro b2
    try simp only [nrmT] at b2
    refine ⟨?_, ?_⟩
    · intro b3
      try simp only [nrmT] at b3
      exact rfl
    · intro b4
      try simp only [nrmT] at b4
      refine ⟨?_, ?_⟩
      · intro b5
        try simp only [nrmT] at b5
        exact rfl
      · intro b6
        try simp only [nrmT] at b6
        refine ⟨?_, ?_, ?_⟩
        · refine l_szField_pc Open Dist 1048576 ?_
          · first | omega | rfl | (intro hg; simp only [nrmT] at hg; omega) | (intro g1 g2; simp [g1, g2]; done) | (intro g1; simp at g1 ⊢; simp [g1]; done) | (simp only [nrmT] at *; omega) | (simp at * <;> omega) | (simp_all <;> omega) | (simp_all; done)
        · intro b7
          try simp only [nrmT] at b7
          exact rfl
        · intro b8
          try simp only [nrmT] at b8
          refine ⟨?_, ?_, ?_, ?_, s_AreFlowPrices_pc Open Dist set u w, ?_, ?_, ?_, ?_, i_AreFlowPrices_pc Open Dist set u w, id, id, rfl, fun _ => rfl, ?_, ?_, ?_⟩
          · refine l_toField_pc Open Dist ?_ ?_ ?_
            · have := szField_bound b8; omega
            · have := szField_bound b8; omega
            · have h := (szField_bound b8).2.2
              intro xs hx
              have h := h xs hx
              omega
          · refine l_toIntS_pc set ?_
            · first | omega | rfl | (intro hg; simp only [nrmT] at hg; omega) | (intro g1 g2; simp [g1, g2]; done) | (intro g1; simp at g1 ⊢; simp [g1]; done) | (simp only [nrmT] at *; omega) | (simp at * <;> omega) | (simp_all <;> omega) | (simp_all; done)
          · refine l_toIntS_pc u ?_
            · first | omega | rfl | (intro hg; simp only [nrmT] at hg; omega) | (intro g1 g2; simp [g1, g2]; done) | (intro g1; simp at g1 ⊢; simp [g1]; done) | (simp only [nrmT] at *; omega) | (simp at * <;> omega) | (simp_all <;> omega) | (simp_all; done)
          · refine l_toIntS_pc w ?_
            · first | omega | rfl | (intro hg; simp only [nrmT] at hg; omega) | (intro g1 g2; simp [g1, g2]; done) | (intro g1; simp at g1 ⊢; simp [g1]; done) | (simp only [nrmT] at *; omega) | (simp at * <;> omega) | (simp_all <;> omega) | (simp_all; done)
          · refine l_toField_pc Open Dist ?_ ?_ ?_
            · have := szField_bound b8; omega
            · have := szField_bound b8; omega
            · have h := (szField_bound b8).2.2
              intro xs hx
              have h := h xs hx
              omega
          · refine l_toIntS_pc set ?_
            · first | omega | rfl | (intro hg; simp only [nrmT] at hg; omega) | (intro g1 g2; simp [g1, g2]; done) | (intro g1; simp at g1 ⊢; simp [g1]; done) | (simp only [nrmT] at *; omega) | (simp at * <;> omega) | (simp_all <;> omega) | (simp_all; done)
          · refine l_toIntS_pc u ?_
            · first | omega | rfl | (intro hg; simp only [nrmT] at hg; omega) | (intro g1 g2; simp [g1, g2]; done) | (intro g1; simp at g1 ⊢; simp [g1]; done) | (simp only [nrmT] at *; omega) | (simp at * <;> omega) | (simp_all <;> omega) | (simp_all; done)
          · refine l_toIntS_pc w ?_
            · first | omega | rfl | (intro hg; simp only [nrmT] at hg; omega) | (intro g1 g2; simp [g1, g2]; done) | (intro g1; simp at g1 ⊢; simp [g1]; done) | (simp only [nrmT] at *; omega) | (simp at * <;> omega) | (simp_all <;> omega) | (simp_all; done)
          · first | omega | rfl | (intro hg; simp only [nrmT] at hg; omega) | (intro g1 g2; simp [g1, g2]; done) | (intro g1; simp at g1 ⊢; simp [g1]; done) | (simp only [nrmT] at *; omega) | (simp at * <;> omega) | (simp_all <;> omega) | (simp_all; done)
          · intro b9
            first | omega | rfl | (intro hg; simp only [nrmT] at hg; omega) | (intro g1 g2; simp [g1, g2]; done) | (intro g1; simp at g1 ⊢; simp [g1]; done) | (simp only [nrmT] at *; omega) | (simp at * <;> omega) | (simp_all <;> omega) | (simp_all; done)
          · intro b10
            refine ⟨rfl, ?_, l_eqField_pc Open Dist Open Dist, ?_, ?_⟩
            · refine l_toField_pc Open Dist ?_ ?_ ?_
              · have := szField_bound b8; omega
              · have := szField_bound b8; omega
              · have h := (szField_bound b8).2.2
                intro xs hx
                have h := h xs hx
                omega
            · intro b11
              try simp only [Bool.not_eq_true', Bool.not_eq_false', Bool.not_not] at b11
              first | omega | rfl | (intro hg; simp only [nrmT] at hg; omega) | (intro g1 g2; simp [g1, g2]; done) | (intro g1; simp at g1 ⊢; simp [g1]; done) | (simp only [nrmT] at *; omega) | (simp at * <;> omega) | (simp_all <;> omega) | (simp_all; done)
            · intro b12
              try simp only [Bool.not_eq_true', Bool.not_eq_false', Bool.not_not] at b12
              refine ⟨?_, l_eqIntS_pc set set, ?_, ?_⟩
              · refine l_toIntS_pc set ?_
                · first | omega | rfl | (intro hg; simp only [nrmT] at hg; omega) | (intro g1 g2; simp [g1, g2]; done) | (intro g1; simp at g1 ⊢; simp [g1]; done) | (simp only [nrmT] at *; omega) | (simp at * <;> omega) | (simp_all <;> omega) | (simp_all; done)
              · intro b13
                try simp only [nrmT] at b13
                first | omega | rfl | (intro hg; simp only [nrmT] at hg; omega) | (intro g1 g2; simp [g1, g2]; done) | (intro g1; simp at g1 ⊢; simp [g1]; done) | (simp only [nrmT] at *; omega) | (simp at * <;> omega) | (simp_all <;> omega) | (simp_all; done)
              · intro b14
                try simp only [nrmT] at b14
                refine ⟨?_, l_eqIntS_pc u u, ?_, ?_⟩
                · refine l_toIntS_pc u ?_
                  · first | omega | rfl | (intro hg; simp only [nrmT] at hg; omega) | (intro g1 g2; simp [g1, g2]; done) | (intro g1; simp at g1 ⊢; simp [g1]; done) | (simp only [nrmT] at *; omega) | (simp at * <;> omega) | (simp_all <;> omega) | (simp_all; done)
                · intro b15
                  try simp only [nrmT] at b15
                  first | omega | rfl | (intro hg; simp only [nrmT] at hg; omega) | (intro g1 g2; simp [g1, g2]; done) | (intro g1; simp at g1 ⊢; simp [g1]; done) | (simp only [nrmT] at *; omega) | (simp at * <;> omega) | (simp_all <;> omega) | (simp_all; done)
                · intro b16
                  try simp only [nrmT] at b16
                  refine ⟨?_, l_eqIntS_pc w w, ?_, ?_⟩
                  · refine l_toIntS_pc w ?_
                    · first | omega | rfl | (intro hg; simp only [nrmT] at hg; omega) | (intro g1 g2; simp [g1, g2]; done) | (intro g1; simp at g1 ⊢; simp [g1]; done) | (simp only [nrmT] at *; omega) | (simp at * <;> omega) | (simp_all <;> omega) | (simp_all; done)
                  · intro b17
                    try simp only [nrmT] at b17
                    first | omega | rfl | (intro hg; simp only [nrmT] at hg; omega) | (intro g1 g2; simp [g1, g2]; done) | (intro g1; simp at g1 ⊢; simp [g1]; done) | (simp only [nrmT] at *; omega) | (simp at * <;> omega) | (simp_all <;> omega) | (simp_all; done)
                  · intro b18
                    try simp only [nrmT] at b18
                    exact rfl
theorem l_FnExactAreFlowPrices_pc (Open : List Int) (Dist : List (List Int)) (set : List Int) (u : List Int) (w : List Int)  : PC Try.prog 18 [.agg [.sl (.ints Open), .sl (.rows Dist)], .sl (.ints set), .sl (.ints u), .sl (.ints w)] (.one (.d (.bool true))) :=
  pc_wf @Try.call18 fun hw => pc_by (by kernel_rfl) Try.func18 @Try.call18 (by kernel_rfl) l_FnExactAreFlowPrices_C (l_FnExactAreFlowPrices_A Open Dist set u w) (by kernel_rfl) (l_FnExactAreFlowPrices_vc Open Dist set u w hw.1.1 hw.1.2.1.1 hw.1.2.1.2 hw.2.1 hw.2.2.1 hw.2.2.2.1) (by kernel_rfl)
def l_FnExactAreFlowPrices_orc : List D → Orc := orcN [none, some .ints, some .ints, some .ints] fun ds => match ds with
  | [.agg [.sl (.ints Open), .sl (.rows Dist)], .sl (.ints set), .sl (.ints u), .sl (.ints w)] => some (.one (.d (.bool true)))
  | _ => none

end Go.Proofs.Ytmcbcomcejgbcaa
