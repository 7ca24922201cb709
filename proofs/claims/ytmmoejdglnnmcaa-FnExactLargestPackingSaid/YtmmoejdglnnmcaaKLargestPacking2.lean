/- Contracts of the functions that the law reaches. -/
import Derived.Test.YtmmoejdglnnmcaaKLargestPacking1
import Derived.KernelRfl
set_option linter.unusedVariables false
set_option linter.unusedSimpArgs false
namespace Go.Proofs.Ytmmoejdglnnmcaa
open Go

theorem pk_test {Size : Int} {Sets : List (List Int)} {Costs choice : List Int} (h : goodSys Size Sets Costs = true) (hc : rising choice 0 ((Sets.length : Int) - 1) = true) {k : Nat} (hk : k < choice.length) {d : Int} (hd : d = ((covTo Sets choice k : Nat) : Int)) :
    (cond (((bagN (Sets.getD (choice.getD k 0).toNat []) : Nat) : Int) == 0) true (((((bagN (Sets.getD (choice.getD k 0).toNat []) : Nat) : Int).toNat &&& d.toNat : Nat) : Int) != 0)) = !(pkAt Sets choice k) := by
  have h1 := rising_at hc k hk
  have h2 := bagN_zero fun y hy => (set_mem h (k := (choice.getD k 0).toNat) (by omega) y hy).1
  have h3 := bag_meet h hc hk
  subst hd
  simp only [Int.toNat_natCast]
  unfold pkAt
  rw [Bool.not_not]
  generalize Sets.getD (choice.getD k 0).toNat [] = S at h2 h3 ⊢
  by_cases e : S.length = 0
  · rw [decide_eq_true e, Bool.true_or, beq_iff_eq.2 (show ((bagN S : Nat) : Int) = 0 by have := h2.2 e; omega)]; rfl
  · rw [decide_eq_false e, Bool.false_or, beq_eq_false_iff_ne.2 (show ((bagN S : Nat) : Int) ≠ 0 from fun h0 => e (h2.1 (by omega)))]
    show (_ != _) = _
    by_cases e2 : newOf S (covL Sets choice k) < (S.length : Int)
    · rw [decide_eq_true e2]
      exact bne_iff_ne.2 fun h0 => h3.1 (by omega) e2
    · rw [decide_eq_false e2, h3.2 e2]; rfl
theorem pk_test2 {Sets : List (List Int)} {choice out : List Int} {k : Nat} (hd : out = covL Sets choice k) :
    (cond ((((Sets.getD (choice.getD k 0).toNat []).length : Nat) : Int) == 0) true (decide (newOf (Sets.getD (choice.getD k 0).toNat []) out < ((Sets.getD (choice.getD k 0).toNat []).length : Int)))) = !(pkAt Sets choice k) := by
  subst hd
  unfold pkAt
  rw [Bool.not_not]
  generalize Sets.getD (choice.getD k 0).toNat [] = S
  by_cases e : S.length = 0
  · rw [decide_eq_true e, Bool.true_or, beq_iff_eq.2 (show (S.length : Int) = 0 by omega)]; rfl
  · rw [decide_eq_false e, Bool.false_or, beq_eq_false_iff_ne.2 (show (S.length : Int) ≠ 0 by omega)]; rfl
theorem nil_chs (n : Nat) : ([] : List Int) ∈ chs n := List.mem_append_left _ (List.mem_singleton.2 rfl)
def lpS (Sets : List (List Int)) : List Int := leastL (fun s9 => -(s9.length : Int)) ((chs Sets.length).filter (packB Sets))
def lpL (Size : Int) (Sets : List (List Int)) (Costs : List Int) : List Int := if goodSys Size Sets Costs = true then lpS Sets else []
theorem lpL_len {Size : Int} {Sets : List (List Int)} {Costs : List Int} : (lpL Size Sets Costs).length ≤ 8 := by
  unfold lpL
  split
  · rename_i h
    have h1 := chs_len8 (List.mem_filter.1 (leastL_mem (v := fun s9 => -(s9.length : Int)) (chs_pos (n := Sets.length) (packB_nil Sets)))).1
    have := gs_facts h
    unfold lpS
    omega
  · simp
def lpB (Sets : List (List Int)) (b s : List Int) : List Int := if (cond (decide ((s.length : Int) > (b.length : Int))) (packB Sets s) false) = true then s else b
theorem lp_fold {Sets : List (List Int)} (n : Nat) : (chs n).foldl (lpB Sets) [] = leastL (fun s9 => -(s9.length : Int)) ((chs n).filter (packB Sets)) := by
  rw [fold_pick (v := fun s9 => -(s9.length : Int)) (p := packB Sets), pickS_all (packB_nil Sets)]
  intro b x
  unfold lpB
  rw [cond_and]
  by_cases e : packB Sets x = true
  · rw [e, Bool.and_true]
    by_cases e2 : (x.length : Int) > (b.length : Int)
    · rw [if_pos (decide_eq_true e2), if_pos ⟨rfl, by omega⟩]
    · rw [if_neg (by rw [decide_eq_false e2]; decide), if_neg (fun h => by have := h.2; omega)]
  · rw [Bool.not_eq_true] at e
    rw [e, Bool.and_false, if_neg (by decide), if_neg (fun h => by cases h.1)]
abbrev i_System_isPacking_JJ0 (Size : Int) (Sets : List (List Int)) (Costs : List Int) (choice : List Int) (done : Int) (i : Int) : Prop := (0 ≤ i) ∧ (i ≤ (choice.length : Int)) ∧ (done = ((covTo Sets choice i.toNat : Nat) : Int)) ∧ (allTo (pkAt Sets choice) i.toNat = true)
abbrev i_System_isPacking_mJ0 (Size : Int) (Sets : List (List Int)) (Costs : List Int) (choice : List Int) (done : Int) (i : Int) : Nat := (choice.length - i).toNat
def i_System_isPacking_C (f : FuncId) (ds : List D) : Orc := bif Nat.beq f 165 then i_bagOf_orc ds else .no
def i_System_isPacking_A (Size : Int) (Sets : List (List Int)) (Costs : List Int) (choice : List Int) : Ann := .two (.none) (.two (.none) (.two (.two (.none) (.loop (cut2 (fun (done : Int) (i : Int) => i_System_isPacking_JJ0 Size Sets Costs choice done i) (fun (done : Int) (i : Int) => [(2, .ptr 2 0), (5, .d true (.int .u64 done)), (9, .d false (.sl (.ints choice))), (10, .d true (.int .i64 (choice.length : Int))), (11, .d true (.int .i64 i))]) (fun (done : Int) (i : Int) => [(2, .box 34 [.d false (.int .i64 Size), .d false (.sl (.rows Sets)), .d false (.sl (.ints Costs))])])) (fun g => i_System_isPacking_mJ0 Size Sets Costs choice g.1 g.2) (fun _ => .none))) (.none)))
def i_System_isPacking_P (Size : Int) (Sets : List (List Int)) (Costs : List Int) (choice : List Int) : Prop :=
  ((∃ done' : Int, ∃ i' : Int, (i_System_isPacking_JJ0 Size Sets Costs choice done' i') ∧ ((0 : Int) = done') ∧ (choice = choice) ∧ ((choice.length : Int) = (choice.length : Int)) ∧ ((0 : Int) = i') ∧ (Size = Size) ∧ (Sets = Sets) ∧ (Costs = Costs)) ∧ (∀ done : Int, ∀ i : Int, (i_System_isPacking_JJ0 Size Sets Costs choice done i) → (((decide (i < (choice.length : Int))) = true → ((0 : Int) ≤ i) ∧ ((i : Int) < choice.length) ∧ (i.toNat < choice.length) ∧ ((0 : Int) ≤ (choice.getD i.toNat 0)) ∧ (((choice.getD i.toNat 0) : Int) < Sets.length) ∧ ((choice.getD i.toNat 0).toNat < Sets.length) ∧ (PC Try.prog 165 [.sl (.ints (Sets.getD ((choice.getD i.toNat 0).toNat) []))] (.one (.d (.int .u64 ((bagN (Sets.getD ((choice.getD i.toNat 0).toNat) []) : Nat) : Int))))) ∧ ((!(((bagN (Sets.getD ((choice.getD i.toNat 0).toNat) []) : Nat) : Int) == 0)) = true → (!(((bagN (Sets.getD ((choice.getD i.toNat 0).toNat) []) : Nat) : Int) == 0)) = true) ∧ ((!(((bagN (Sets.getD ((choice.getD i.toNat 0).toNat) []) : Nat) : Int) == 0)) = true → (!(((bagN (Sets.getD ((choice.getD i.toNat 0).toNat) []) : Nat) : Int) == 0)) = true) ∧ (((!(((bagN (Sets.getD ((choice.getD i.toNat 0).toNat) []) : Nat) : Int) == 0)) = true → (0 : Int) ≤ ((bagN (Sets.getD ((choice.getD i.toNat 0).toNat) []) : Nat) : Int) ∧ (((bagN (Sets.getD ((choice.getD i.toNat 0).toNat) []) : Nat) : Int) : Int) ≤ 18446744073709551615)) ∧ (((!(((bagN (Sets.getD ((choice.getD i.toNat 0).toNat) []) : Nat) : Int) == 0)) = true → (0 : Int) ≤ done ∧ (done : Int) ≤ 18446744073709551615)) ∧ ((!(((bagN (Sets.getD ((choice.getD i.toNat 0).toNat) []) : Nat) : Int) == 0)) = true → (!(((bagN (Sets.getD ((choice.getD i.toNat 0).toNat) []) : Nat) : Int) == 0)) = true) ∧ (true = true) ∧ (((((bagN (Sets.getD ((choice.getD i.toNat 0).toNat) []) : Nat) : Int) == 0) = true → true = true)) ∧ (((((bagN (Sets.getD ((choice.getD i.toNat 0).toNat) []) : Nat) : Int) == 0) = false → (!(((bagN (Sets.getD ((choice.getD i.toNat 0).toNat) []) : Nat) : Int) == 0)) = true)) ∧ (((cond (((bagN (Sets.getD ((choice.getD i.toNat 0).toNat) []) : Nat) : Int) == 0) true (((((bagN (Sets.getD ((choice.getD i.toNat 0).toNat) []) : Nat) : Int).toNat &&& done.toNat : Nat) : Int) != 0)) = true → ((false = (packB Sets choice)))) ∧ ((cond (((bagN (Sets.getD ((choice.getD i.toNat 0).toNat) []) : Nat) : Int) == 0) true (((((bagN (Sets.getD ((choice.getD i.toNat 0).toNat) []) : Nat) : Int).toNat &&& done.toNat : Nat) : Int) != 0)) = false → ((0 : Int) ≤ done ∧ (done : Int) ≤ 18446744073709551615) ∧ ((0 : Int) ≤ ((bagN (Sets.getD ((choice.getD i.toNat 0).toNat) []) : Nat) : Int) ∧ (((bagN (Sets.getD ((choice.getD i.toNat 0).toNat) []) : Nat) : Int) : Int) ≤ 18446744073709551615) ∧ (-9223372036854775808 ≤ (i + 1) ∧ (i + 1) ≤ 9223372036854775807) ∧ (∃ done' : Int, ∃ i' : Int, (i_System_isPacking_JJ0 Size Sets Costs choice done' i') ∧ (i_System_isPacking_mJ0 Size Sets Costs choice done' i' < i_System_isPacking_mJ0 Size Sets Costs choice done i) ∧ (((done.toNat ||| ((bagN (Sets.getD ((choice.getD i.toNat 0).toNat) []) : Nat) : Int).toNat : Nat) : Int) = done') ∧ (choice = choice) ∧ ((choice.length : Int) = (choice.length : Int)) ∧ ((i + 1) = i') ∧ (Size = Size) ∧ (Sets = Sets) ∧ (Costs = Costs))))) ∧ ((decide (i < (choice.length : Int))) = false → ((true = (packB Sets choice)))))))
theorem i_System_isPacking_vc (Size : Int) (Sets : List (List Int)) (Costs : List Int) (choice : List Int) (hg : goodSys Size Sets Costs = true) (hc : rising choice 0 ((Sets.length : Int) - 1) = true) (w_Sets : (Sets.length : Int) ≤ 9223372036854775807) (v_Sets : ∀ x9 ∈ Sets, (x9.length : Int) ≤ 9223372036854775807) (w_Costs : (Costs.length : Int) ≤ 9223372036854775807) (w_choice : (choice.length : Int) ≤ 9223372036854775807) : i_System_isPacking_P Size Sets Costs choice := by
  unfold i_System_isPacking_P
  have gf := gs_facts hg
  have cl := rising_len hc (by omega)
  have ca := fun k => rising_at hc k
  have lt := covTo_lt hg hc
  have p8 := pow8 (n := Size.toNat) (by omega)
  have sl := fun (k : Nat) (hk : k < Sets.length) => rising_len (gs_set hg hk) (by omega)
  refine ⟨?_, ?_⟩
  · refine ⟨0, 0, ?_⟩
    refine ⟨?_, rfl, rfl, rfl, rfl, rfl, rfl, rfl⟩
    · refine ⟨?_, ?_, ?_, ?_⟩
      · first | omega | rfl | (intro hg; simp only [nrmT] at hg; omega) | (intro g1 g2; simp [g1, g2]; done) | (intro g1; simp at g1 ⊢; simp [g1]; done) | (simp only [nrmT] at *; omega) | (simp at * <;> omega) | (simp_all <;> omega) | (simp_all; done)
      · first | omega | rfl | (intro hg; simp only [nrmT] at hg; omega) | (intro g1 g2; simp [g1, g2]; done) | (intro g1; simp at g1 ⊢; simp [g1]; done) | (simp only [nrmT] at *; omega) | (simp at * <;> omega) | (simp_all <;> omega) | (simp_all; done)
      · first | omega | rfl | (intro hg; simp only [nrmT] at hg; omega) | (intro g1 g2; simp [g1, g2]; done) | (intro g1; simp at g1 ⊢; simp [g1]; done) | (simp only [nrmT] at *; omega) | (simp at * <;> omega) | (simp_all <;> omega) | (simp_all; done)
      · first | omega | rfl | (intro hg; simp only [nrmT] at hg; omega) | (intro g1 g2; simp [g1, g2]; done) | (intro g1; simp at g1 ⊢; simp [g1]; done) | (simp only [nrmT] at *; omega) | (simp at * <;> omega) | (simp_all <;> omega) | (simp_all; done)
  · intro done i hJ
    obtain ⟨h1, h2, h3, h4⟩ := hJ
    refine ⟨?_, ?_⟩
    · intro b1
      try simp only [nrmT] at b1
      refine ⟨?_, ?_, ?_, ?_, ?_, ?_, ?_, id, id, ?_, ?_, id, rfl, fun _ => rfl, ?_, ?_, ?_⟩
      · first | omega | rfl | (intro hg; simp only [nrmT] at hg; omega) | (intro g1 g2; simp [g1, g2]; done) | (intro g1; simp at g1 ⊢; simp [g1]; done) | (simp only [nrmT] at *; omega) | (simp at * <;> omega) | (simp_all <;> omega) | (simp_all; done)
      · first | omega | rfl | (intro hg; simp only [nrmT] at hg; omega) | (intro g1 g2; simp [g1, g2]; done) | (intro g1; simp at g1 ⊢; simp [g1]; done) | (simp only [nrmT] at *; omega) | (simp at * <;> omega) | (simp_all <;> omega) | (simp_all; done)
      · first | omega | rfl | (intro hg; simp only [nrmT] at hg; omega) | (intro g1 g2; simp [g1, g2]; done) | (intro g1; simp at g1 ⊢; simp [g1]; done) | (simp only [nrmT] at *; omega) | (simp at * <;> omega) | (simp_all <;> omega) | (simp_all; done)
      · have h7 := ca i.toNat (by omega)
        omega
      · have h7 := ca i.toNat (by omega)
        omega
      · have h7 := ca i.toNat (by omega)
        omega
      · refine i_bagOf_pc (Sets.getD ((choice.getD i.toNat 0).toNat) []) ?_
        · have h7 := ca i.toNat (by omega)
          intro x hx
          have := set_mem hg (k := (choice.getD i.toNat 0).toNat) (by omega) x hx
          omega
      · intro _
        have h7 := ca i.toNat (by omega)
        have h8 := set_bag hg (k := (choice.getD i.toNat 0).toNat) (by omega)
        omega
      · intro _
        have := lt i.toNat (by omega)
        omega
      · first | omega | rfl | (intro hg; simp only [nrmT] at hg; omega) | (intro g1 g2; simp [g1, g2]; done) | (intro g1; simp at g1 ⊢; simp [g1]; done) | (simp only [nrmT] at *; omega) | (simp at * <;> omega) | (simp_all <;> omega) | (simp_all; done)
      · intro b2
        have hq := pk_test hg hc (k := i.toNat) (by omega) h3
        rw [b2] at hq
        have hp : pkAt Sets choice i.toNat = false := by
          revert hq; cases pkAt Sets choice i.toNat <;> simp
        exact (allTo_falseI h1 (by omega) hp).symm
      · intro b3
        refine ⟨?_, ?_, ?_, ?_⟩
        · have := lt i.toNat (by omega)
          omega
        · have h7 := ca i.toNat (by omega)
          have h8 := set_bag hg (k := (choice.getD i.toNat 0).toNat) (by omega)
          omega
        · first | omega | rfl | (intro hg; simp only [nrmT] at hg; omega) | (intro g1 g2; simp [g1, g2]; done) | (intro g1; simp at g1 ⊢; simp [g1]; done) | (simp only [nrmT] at *; omega) | (simp at * <;> omega) | (simp_all <;> omega) | (simp_all; done)
        · refine ⟨((done.toNat ||| ((bagN (Sets.getD ((choice.getD i.toNat 0).toNat) []) : Nat) : Int).toNat : Nat) : Int), (i + 1), ?_⟩
          refine ⟨?_, ?_, rfl, rfl, rfl, rfl, rfl, rfl, rfl⟩
          · refine ⟨?_, ?_, ?_, ?_⟩
            · first | omega | rfl | (intro hg; simp only [nrmT] at hg; omega) | (intro g1 g2; simp [g1, g2]; done) | (intro g1; simp at g1 ⊢; simp [g1]; done) | (simp only [nrmT] at *; omega) | (simp at * <;> omega) | (simp_all <;> omega) | (simp_all; done)
            · first | omega | rfl | (intro hg; simp only [nrmT] at hg; omega) | (intro g1 g2; simp [g1, g2]; done) | (intro g1; simp at g1 ⊢; simp [g1]; done) | (simp only [nrmT] at *; omega) | (simp at * <;> omega) | (simp_all <;> omega) | (simp_all; done)
            · rw [h3, show (i + 1).toNat = i.toNat + 1 by omega]
              simp only [Int.toNat_natCast]
              rfl
            · have hq := pk_test hg hc (k := i.toNat) (by omega) h3
              rw [b3] at hq
              have hp : pkAt Sets choice i.toNat = true := by
                revert hq; cases pkAt Sets choice i.toNat <;> simp
              exact allTo_step h1 h4 hp
          · first | (show _ < _; omega) | (simp only [i_System_isPacking_mJ0]; omega) | (simp only [i_System_isPacking_mJ0] at *; simp at *; omega)
    · intro b4
      try simp only [nrmT] at b4
      unfold packB
      rw [← h4]; congr 1; omega
theorem i_System_isPacking_pc (Size : Int) (Sets : List (List Int)) (Costs : List Int) (choice : List Int) (hg : goodSys Size Sets Costs = true) (hc : rising choice 0 ((Sets.length : Int) - 1) = true) : PC Try.prog 113 [.agg [.int .i64 Size, .sl (.rows Sets), .sl (.ints Costs)], .sl (.ints choice)] (.one (.d (.bool (packB Sets choice)))) :=
  pc_wf @Try.call113 fun hw => pc_by (by kernel_rfl) Try.func113 @Try.call113 (by kernel_rfl) i_System_isPacking_C (i_System_isPacking_A Size Sets Costs choice) (by kernel_rfl) (i_System_isPacking_vc Size Sets Costs choice hg hc hw.1.2.1.1 hw.1.2.1.2 hw.1.2.2.1 hw.2.1) (by kernel_rfl)
def i_System_isPacking_orc : List D → Orc := orcN [none, some .ints] fun ds => match ds with
  | [.agg [.int .i64 Size, .sl (.rows Sets), .sl (.ints Costs)], .sl (.ints choice)] => some (.one (.d (.bool (packB Sets choice))))
  | _ => none
abbrev s_l6Packs_JJ0 (Size : Int) (Sets : List (List Int)) (Costs : List Int) (choice : List Int) (out : List Int) (i : Int) : Prop := (0 ≤ i) ∧ (i ≤ (choice.length : Int)) ∧ (out = covL Sets choice i.toNat) ∧ ((out.length : Int) ≤ 8 * i) ∧ (allTo (pkAt Sets choice) i.toNat = true)
abbrev s_l6Packs_mJ0 (Size : Int) (Sets : List (List Int)) (Costs : List Int) (choice : List Int) (out : List Int) (i : Int) : Nat := (choice.length - i).toNat
abbrev s_l6Packs_JJ1 (Size : Int) (Sets : List (List Int)) (Costs : List Int) (choice : List Int) (out : List Int) (i : Int) (out1 : List Int) (k : Int) : Prop := (0 ≤ k) ∧ (k ≤ ((Sets.getD (choice.getD i.toNat 0).toNat []).length : Int)) ∧ (out1 = putAll out (Sets.getD (choice.getD i.toNat 0).toNat []) k.toNat) ∧ ((out1.length : Int) ≤ 8 * i + k)
abbrev s_l6Packs_mJ1 (Size : Int) (Sets : List (List Int)) (Costs : List Int) (choice : List Int) (out : List Int) (i : Int) (out1 : List Int) (k : Int) : Nat := ((Sets.getD (choice.getD i.toNat 0).toNat []).length - k).toNat
def s_l6Packs_C (f : FuncId) (ds : List D) : Orc := bif Nat.beq f 164 then s_l6New_orc ds else bif Nat.beq f 147 then s_l1Put_orc ds else .no
def s_l6Packs_A (Size : Int) (Sets : List (List Int)) (Costs : List Int) (choice : List Int) : Ann := .two (.none) (.two (.reg [(0, .frz)]) (.two (.two (.none) (.loop (cut2 (fun (out : List Int) (i : Int) => s_l6Packs_JJ0 Size Sets Costs choice out i) (fun (out : List Int) (i : Int) => [(1, .d false (.sl (.ints choice))), (2, .ptr 2 0), (5, .d true (.sl (.ints out))), (6, .d true (.int .i64 i))]) (fun (out : List Int) (i : Int) => [(2, .box 34 [.d false (.int .i64 Size), .d false (.sl (.rows Sets)), .d false (.sl (.ints Costs))])])) (fun g => s_l6Packs_mJ0 Size Sets Costs choice g.1 g.2) (fun g => (fun (out : List Int) (i : Int) => .two (.none) (.two (.two (.none) (.two (.none) (.two (.none) (.loop (cut2 (fun (out1 : List Int) (k : Int) => s_l6Packs_JJ1 Size Sets Costs choice out i out1 k) (fun (out1 : List Int) (k : Int) => [(1, .d false (.sl (.ints choice))), (2, .ptr 2 0), (5, .d true (.sl (.ints out1))), (6, .d true (.int .i64 i)), (7, .d false (.sl (.ints (Sets.getD ((choice.getD i.toNat 0).toNat) [])))), (8, .d true (.int .i64 k))]) (fun (out1 : List Int) (k : Int) => [(2, .box 34 [.d false (.int .i64 Size), .d false (.sl (.rows Sets)), .d false (.sl (.ints Costs))])])) (fun g => s_l6Packs_mJ1 Size Sets Costs choice out i g.1 g.2) (fun _ => .none))))) (.none))) (g.1) (g.2)))) (.none)))
def s_l6Packs_P (Size : Int) (Sets : List (List Int)) (Costs : List Int) (choice : List Int) : Prop :=
  ((∃ out' : List Int, ∃ i' : Int, (s_l6Packs_JJ0 Size Sets Costs choice out' i') ∧ (choice = choice) ∧ ([] = out') ∧ ((0 : Int) = i') ∧ (Size = Size) ∧ (Sets = Sets) ∧ (Costs = Costs)) ∧ (∀ out : List Int, ∀ i : Int, (s_l6Packs_JJ0 Size Sets Costs choice out i) → (((decide (i < (choice.length : Int))) = true → (true = true) ∧ ((0 : Int) ≤ i) ∧ ((i : Int) < choice.length) ∧ (i.toNat < choice.length) ∧ ((0 : Int) ≤ (choice.getD i.toNat 0)) ∧ (((choice.getD i.toNat 0) : Int) < Sets.length) ∧ ((choice.getD i.toNat 0).toNat < Sets.length) ∧ ((!((((Sets.getD ((choice.getD i.toNat 0).toNat) []).length) : Int) == 0)) = true → (!((((Sets.getD ((choice.getD i.toNat 0).toNat) []).length) : Int) == 0)) = true) ∧ ((!((((Sets.getD ((choice.getD i.toNat 0).toNat) []).length) : Int) == 0)) = true → (!((((Sets.getD ((choice.getD i.toNat 0).toNat) []).length) : Int) == 0)) = true) ∧ ((!((((Sets.getD ((choice.getD i.toNat 0).toNat) []).length) : Int) == 0)) = true → PC Try.prog 164 [.sl (.ints (Sets.getD ((choice.getD i.toNat 0).toNat) [])), .sl (.ints out)] (.one (.d (.int .i64 (newOf (Sets.getD ((choice.getD i.toNat 0).toNat) []) out))))) ∧ ((!((((Sets.getD ((choice.getD i.toNat 0).toNat) []).length) : Int) == 0)) = true → (!((((Sets.getD ((choice.getD i.toNat 0).toNat) []).length) : Int) == 0)) = true) ∧ ((!((((Sets.getD ((choice.getD i.toNat 0).toNat) []).length) : Int) == 0)) = true → (!((((Sets.getD ((choice.getD i.toNat 0).toNat) []).length) : Int) == 0)) = true) ∧ ((!((((Sets.getD ((choice.getD i.toNat 0).toNat) []).length) : Int) == 0)) = true → (!((((Sets.getD ((choice.getD i.toNat 0).toNat) []).length) : Int) == 0)) = true) ∧ (true = true) ∧ ((((((Sets.getD ((choice.getD i.toNat 0).toNat) []).length) : Int) == 0) = true → true = true)) ∧ ((((((Sets.getD ((choice.getD i.toNat 0).toNat) []).length) : Int) == 0) = false → (!((((Sets.getD ((choice.getD i.toNat 0).toNat) []).length) : Int) == 0)) = true)) ∧ (((cond ((((Sets.getD ((choice.getD i.toNat 0).toNat) []).length) : Int) == 0) true (decide ((newOf (Sets.getD ((choice.getD i.toNat 0).toNat) []) out) < (((Sets.getD ((choice.getD i.toNat 0).toNat) []).length) : Int)))) = true → ((false = (packB Sets choice)))) ∧ ((cond ((((Sets.getD ((choice.getD i.toNat 0).toNat) []).length) : Int) == 0) true (decide ((newOf (Sets.getD ((choice.getD i.toNat 0).toNat) []) out) < (((Sets.getD ((choice.getD i.toNat 0).toNat) []).length) : Int)))) = false → ((∃ out1' : List Int, ∃ k' : Int, (s_l6Packs_JJ1 Size Sets Costs choice out i out1' k') ∧ (choice = choice) ∧ (out = out1') ∧ (i = i) ∧ ((Sets.getD ((choice.getD i.toNat 0).toNat) []) = (Sets.getD ((choice.getD i.toNat 0).toNat) [])) ∧ ((0 : Int) = k') ∧ (Size = Size) ∧ (Sets = Sets) ∧ (Costs = Costs)) ∧ (∀ out1 : List Int, ∀ k : Int, (s_l6Packs_JJ1 Size Sets Costs choice out i out1 k) → (((decide (k < (((Sets.getD ((choice.getD i.toNat 0).toNat) []).length) : Int))) = true → ((0 : Int) ≤ k) ∧ ((k : Int) < (Sets.getD ((choice.getD i.toNat 0).toNat) []).length) ∧ (k.toNat < (Sets.getD ((choice.getD i.toNat 0).toNat) []).length) ∧ (PCs Try.prog 147 [.sl (.ints out1), .int .i64 ((Sets.getD ((choice.getD i.toNat 0).toNat) []).getD k.toNat 0)] 0 (.sl (.ints (putL out1 ((Sets.getD ((choice.getD i.toNat 0).toNat) []).getD k.toNat 0))))) ∧ (-9223372036854775808 ≤ (k + 1) ∧ (k + 1) ≤ 9223372036854775807) ∧ (∃ out1' : List Int, ∃ k' : Int, (s_l6Packs_JJ1 Size Sets Costs choice out i out1' k') ∧ (s_l6Packs_mJ1 Size Sets Costs choice out i out1' k' < s_l6Packs_mJ1 Size Sets Costs choice out i out1 k) ∧ (choice = choice) ∧ ((putL out1 ((Sets.getD ((choice.getD i.toNat 0).toNat) []).getD k.toNat 0)) = out1') ∧ (i = i) ∧ ((Sets.getD ((choice.getD i.toNat 0).toNat) []) = (Sets.getD ((choice.getD i.toNat 0).toNat) [])) ∧ ((k + 1) = k') ∧ (Size = Size) ∧ (Sets = Sets) ∧ (Costs = Costs))) ∧ ((decide (k < (((Sets.getD ((choice.getD i.toNat 0).toNat) []).length) : Int))) = false → (-9223372036854775808 ≤ (i + 1) ∧ (i + 1) ≤ 9223372036854775807) ∧ (∃ out' : List Int, ∃ i' : Int, (s_l6Packs_JJ0 Size Sets Costs choice out' i') ∧ (s_l6Packs_mJ0 Size Sets Costs choice out' i' < s_l6Packs_mJ0 Size Sets Costs choice out i) ∧ (choice = choice) ∧ (out1 = out') ∧ ((i + 1) = i') ∧ (Size = Size) ∧ (Sets = Sets) ∧ (Costs = Costs))))))))) ∧ ((decide (i < (choice.length : Int))) = false → ((true = (packB Sets choice)))))))
theorem s_l6Packs_vc (Size : Int) (Sets : List (List Int)) (Costs : List Int) (choice : List Int) (hg : goodSys Size Sets Costs = true) (hc : rising choice 0 ((Sets.length : Int) - 1) = true) (w_Sets : (Sets.length : Int) ≤ 9223372036854775807) (v_Sets : ∀ x9 ∈ Sets, (x9.length : Int) ≤ 9223372036854775807) (w_Costs : (Costs.length : Int) ≤ 9223372036854775807) (w_choice : (choice.length : Int) ≤ 9223372036854775807) : s_l6Packs_P Size Sets Costs choice := by
  unfold s_l6Packs_P
  have gf := gs_facts hg
  have cl := rising_len hc (by omega)
  have ca := fun k => rising_at hc k
  have lt := covTo_lt hg hc
  have p8 := pow8 (n := Size.toNat) (by omega)
  have sl := fun (k : Nat) (hk : k < Sets.length) => rising_len (gs_set hg hk) (by omega)
  refine ⟨?_, ?_⟩
  · refine ⟨([]), 0, ?_⟩
    refine ⟨?_, rfl, ?_, rfl, rfl, rfl, rfl⟩
    · refine ⟨?_, ?_, ?_, ?_, ?_⟩
      · first | omega | rfl | (intro hg; simp only [nrmT] at hg; omega) | (intro g1 g2; simp [g1, g2]; done) | (intro g1; simp at g1 ⊢; simp [g1]; done) | (simp only [nrmT] at *; omega) | (simp at * <;> omega) | (simp_all <;> omega) | (simp_all; done)
      · first | omega | rfl | (intro hg; simp only [nrmT] at hg; omega) | (intro g1 g2; simp [g1, g2]; done) | (intro g1; simp at g1 ⊢; simp [g1]; done) | (simp only [nrmT] at *; omega) | (simp at * <;> omega) | (simp_all <;> omega) | (simp_all; done)
      · first | omega | rfl | (intro hg; simp only [nrmT] at hg; omega) | (intro g1 g2; simp [g1, g2]; done) | (intro g1; simp at g1 ⊢; simp [g1]; done) | (simp only [nrmT] at *; omega) | (simp at * <;> omega) | (simp_all <;> omega) | (simp_all; done)
      · first | omega | rfl | (intro hg; simp only [nrmT] at hg; omega) | (intro g1 g2; simp [g1, g2]; done) | (intro g1; simp at g1 ⊢; simp [g1]; done) | (simp only [nrmT] at *; omega) | (simp at * <;> omega) | (simp_all <;> omega) | (simp_all; done)
      · first | omega | rfl | (intro hg; simp only [nrmT] at hg; omega) | (intro g1 g2; simp [g1, g2]; done) | (intro g1; simp at g1 ⊢; simp [g1]; done) | (simp only [nrmT] at *; omega) | (simp at * <;> omega) | (simp_all <;> omega) | (simp_all; done)
    · first | omega | rfl | (intro hg; simp only [nrmT] at hg; omega) | (intro g1 g2; simp [g1, g2]; done) | (intro g1; simp at g1 ⊢; simp [g1]; done) | (simp only [nrmT] at *; omega) | (simp at * <;> omega) | (simp_all <;> omega) | (simp_all; done)
  · intro out i hJ
    obtain ⟨h1, h2, h3, h3l, h4⟩ := hJ
    refine ⟨?_, ?_⟩
    · intro b1
      try simp only [nrmT] at b1
      refine ⟨rfl, ?_, ?_, ?_, ?_, ?_, ?_, id, id, fun _ => s_l6New_pc (Sets.getD ((choice.getD i.toNat 0).toNat) []) out, id, id, id, rfl, fun _ => rfl, ?_, ?_, ?_⟩
      · first | omega | rfl | (intro hg; simp only [nrmT] at hg; omega) | (intro g1 g2; simp [g1, g2]; done) | (intro g1; simp at g1 ⊢; simp [g1]; done) | (simp only [nrmT] at *; omega) | (simp at * <;> omega) | (simp_all <;> omega) | (simp_all; done)
      · first | omega | rfl | (intro hg; simp only [nrmT] at hg; omega) | (intro g1 g2; simp [g1, g2]; done) | (intro g1; simp at g1 ⊢; simp [g1]; done) | (simp only [nrmT] at *; omega) | (simp at * <;> omega) | (simp_all <;> omega) | (simp_all; done)
      · first | omega | rfl | (intro hg; simp only [nrmT] at hg; omega) | (intro g1 g2; simp [g1, g2]; done) | (intro g1; simp at g1 ⊢; simp [g1]; done) | (simp only [nrmT] at *; omega) | (simp at * <;> omega) | (simp_all <;> omega) | (simp_all; done)
      · have h9a := ca i.toNat (by omega)
        omega
      · have h9a := ca i.toNat (by omega)
        omega
      · have h9a := ca i.toNat (by omega)
        omega
      · first | omega | rfl | (intro hg; simp only [nrmT] at hg; omega) | (intro g1 g2; simp [g1, g2]; done) | (intro g1; simp at g1 ⊢; simp [g1]; done) | (simp only [nrmT] at *; omega) | (simp at * <;> omega) | (simp_all <;> omega) | (simp_all; done)
      · intro b2
        have hq := pk_test2 (Sets := Sets) (choice := choice) (k := i.toNat) h3
        rw [b2] at hq
        have hp : pkAt Sets choice i.toNat = false := by
          revert hq; cases pkAt Sets choice i.toNat <;> simp
        exact (allTo_falseI h1 (by omega) hp).symm
      · intro b3
        refine ⟨?_, ?_⟩
        · refine ⟨out, 0, ?_⟩
          refine ⟨?_, rfl, rfl, rfl, rfl, rfl, rfl, rfl, rfl⟩
          · refine ⟨?_, ?_, ?_, ?_⟩
            · first | omega | rfl | (intro hg; simp only [nrmT] at hg; omega) | (intro g1 g2; simp [g1, g2]; done) | (intro g1; simp at g1 ⊢; simp [g1]; done) | (simp only [nrmT] at *; omega) | (simp at * <;> omega) | (simp_all <;> omega) | (simp_all; done)
            · first | omega | rfl | (intro hg; simp only [nrmT] at hg; omega) | (intro g1 g2; simp [g1, g2]; done) | (intro g1; simp at g1 ⊢; simp [g1]; done) | (simp only [nrmT] at *; omega) | (simp at * <;> omega) | (simp_all <;> omega) | (simp_all; done)
            · first | omega | rfl | (intro hg; simp only [nrmT] at hg; omega) | (intro g1 g2; simp [g1, g2]; done) | (intro g1; simp at g1 ⊢; simp [g1]; done) | (simp only [nrmT] at *; omega) | (simp at * <;> omega) | (simp_all <;> omega) | (simp_all; done)
            · first | omega | rfl | (intro hg; simp only [nrmT] at hg; omega) | (intro g1 g2; simp [g1, g2]; done) | (intro g1; simp at g1 ⊢; simp [g1]; done) | (simp only [nrmT] at *; omega) | (simp at * <;> omega) | (simp_all <;> omega) | (simp_all; done)
        · intro out1 k hJ
          obtain ⟨h5, h6, h7, h7l⟩ := hJ
          refine ⟨?_, ?_⟩
          · intro b4
            try simp only [nrmT] at b4
            refine ⟨?_, ?_, ?_, ?_, ?_, ?_⟩
            · first | omega | rfl | (intro hg; simp only [nrmT] at hg; omega) | (intro g1 g2; simp [g1, g2]; done) | (intro g1; simp at g1 ⊢; simp [g1]; done) | (simp only [nrmT] at *; omega) | (simp at * <;> omega) | (simp_all <;> omega) | (simp_all; done)
            · first | omega | rfl | (intro hg; simp only [nrmT] at hg; omega) | (intro g1 g2; simp [g1, g2]; done) | (intro g1; simp at g1 ⊢; simp [g1]; done) | (simp only [nrmT] at *; omega) | (simp at * <;> omega) | (simp_all <;> omega) | (simp_all; done)
            · first | omega | rfl | (intro hg; simp only [nrmT] at hg; omega) | (intro g1 g2; simp [g1, g2]; done) | (intro g1; simp at g1 ⊢; simp [g1]; done) | (simp only [nrmT] at *; omega) | (simp at * <;> omega) | (simp_all <;> omega) | (simp_all; done)
            · refine s_l1Put_pc out1 ((Sets.getD ((choice.getD i.toNat 0).toNat) []).getD k.toNat 0) ?_
              · have h9a := ca i.toNat (by omega)
                have h8 := sl (choice.getD i.toNat 0).toNat (by omega)
                have h9 := putL_len out1 ((Sets.getD (choice.getD i.toNat 0).toNat []).getD k.toNat 0)
                omega
            · have h9a := ca i.toNat (by omega)
              have h8 := sl (choice.getD i.toNat 0).toNat (by omega)
              omega
            · refine ⟨(putL out1 ((Sets.getD ((choice.getD i.toNat 0).toNat) []).getD k.toNat 0)), (k + 1), ?_⟩
              refine ⟨?_, ?_, rfl, rfl, rfl, rfl, rfl, rfl, rfl, rfl⟩
              · refine ⟨?_, ?_, ?_, ?_⟩
                · first | omega | rfl | (intro hg; simp only [nrmT] at hg; omega) | (intro g1 g2; simp [g1, g2]; done) | (intro g1; simp at g1 ⊢; simp [g1]; done) | (simp only [nrmT] at *; omega) | (simp at * <;> omega) | (simp_all <;> omega) | (simp_all; done)
                · first | omega | rfl | (intro hg; simp only [nrmT] at hg; omega) | (intro g1 g2; simp [g1, g2]; done) | (intro g1; simp at g1 ⊢; simp [g1]; done) | (simp only [nrmT] at *; omega) | (simp at * <;> omega) | (simp_all <;> omega) | (simp_all; done)
                · rw [h7, show (k + 1).toNat = k.toNat + 1 by omega]; rfl
                · have h9a := ca i.toNat (by omega)
                  have h8 := sl (choice.getD i.toNat 0).toNat (by omega)
                  have h9 := putL_len out1 ((Sets.getD (choice.getD i.toNat 0).toNat []).getD k.toNat 0)
                  omega
              · first | (show _ < _; omega) | (simp only [s_l6Packs_mJ1]; omega) | (simp only [s_l6Packs_mJ1] at *; simp at *; omega)
          · intro b5
            try simp only [nrmT] at b5
            refine ⟨?_, ?_⟩
            · first | omega | rfl | (intro hg; simp only [nrmT] at hg; omega) | (intro g1 g2; simp [g1, g2]; done) | (intro g1; simp at g1 ⊢; simp [g1]; done) | (simp only [nrmT] at *; omega) | (simp at * <;> omega) | (simp_all <;> omega) | (simp_all; done)
            · refine ⟨out1, (i + 1), ?_⟩
              refine ⟨?_, ?_, rfl, rfl, rfl, rfl, rfl, rfl⟩
              · refine ⟨?_, ?_, ?_, ?_, ?_⟩
                · first | omega | rfl | (intro hg; simp only [nrmT] at hg; omega) | (intro g1 g2; simp [g1, g2]; done) | (intro g1; simp at g1 ⊢; simp [g1]; done) | (simp only [nrmT] at *; omega) | (simp at * <;> omega) | (simp_all <;> omega) | (simp_all; done)
                · first | omega | rfl | (intro hg; simp only [nrmT] at hg; omega) | (intro g1 g2; simp [g1, g2]; done) | (intro g1; simp at g1 ⊢; simp [g1]; done) | (simp only [nrmT] at *; omega) | (simp at * <;> omega) | (simp_all <;> omega) | (simp_all; done)
                · rw [h7, h3, show (i + 1).toNat = i.toNat + 1 by omega, show k.toNat = (Sets.getD (choice.getD i.toNat 0).toNat []).length by omega]; rfl
                · have h9 := ca i.toNat (by omega)
                  have h8 := sl (choice.getD i.toNat 0).toNat (by omega)
                  omega
                · have hq := pk_test2 (Sets := Sets) (choice := choice) (k := i.toNat) h3
                  rw [b3] at hq
                  have hp : pkAt Sets choice i.toNat = true := by
                    revert hq; cases pkAt Sets choice i.toNat <;> simp
                  exact allTo_step h1 h4 hp
              · first | (show _ < _; omega) | (simp only [s_l6Packs_mJ0]; omega) | (simp only [s_l6Packs_mJ0] at *; simp at *; omega)
    · intro b6
      try simp only [nrmT] at b6
      unfold packB
      rw [← h4]; congr 1; omega
theorem s_l6Packs_pc (Size : Int) (Sets : List (List Int)) (Costs : List Int) (choice : List Int) (hg : goodSys Size Sets Costs = true) (hc : rising choice 0 ((Sets.length : Int) - 1) = true) : PC Try.prog 110 [.agg [.int .i64 Size, .sl (.rows Sets), .sl (.ints Costs)], .sl (.ints choice)] (.one (.d (.bool (packB Sets choice)))) :=
  pc_wf @Try.call110 fun hw => pc_by (by kernel_rfl) Try.func110 @Try.call110 (by kernel_rfl) s_l6Packs_C (s_l6Packs_A Size Sets Costs choice) (by kernel_rfl) (s_l6Packs_vc Size Sets Costs choice hg hc hw.1.2.1.1 hw.1.2.1.2 hw.1.2.2.1 hw.2.1) (by kernel_rfl)
def s_l6Packs_orc : List D → Orc := orcN [none, some .ints] fun ds => match ds with
  | [.agg [.int .i64 Size, .sl (.rows Sets), .sl (.ints Costs)], .sl (.ints choice)] => some (.one (.d (.bool (packB Sets choice))))
  | _ => none
abbrev i_lists_pack_JJ0 (below : Int) (Size : Int) (Sets : List (List Int)) (Costs : List Int) (out : List (List Int)) (i : Int) : Prop := (0 ≤ i) ∧ (i ≤ ((chs below.toNat).length : Int)) ∧ (out = ((chs below.toNat).take i.toNat).filter (packB Sets))
abbrev i_lists_pack_mJ0 (below : Int) (Size : Int) (Sets : List (List Int)) (Costs : List Int) (out : List (List Int)) (i : Int) : Nat := ((chs below.toNat).length - i).toNat
def i_lists_pack_C (f : FuncId) (ds : List D) : Orc := bif Nat.beq f 102 then i_sets_orc ds else bif Nat.beq f 113 then i_System_isPacking_orc ds else .no
def i_lists_pack_A (below : Int) (Size : Int) (Sets : List (List Int)) (Costs : List Int) : Ann := .two (.none) (.two (.none) (.two (.two (.reg [(0, .frz)]) (.loop (cut2 (fun (out : List (List Int)) (i : Int) => i_lists_pack_JJ0 below Size Sets Costs out i) (fun (out : List (List Int)) (i : Int) => [(1, .d false (.fn 113 1 [.agg [.int .i64 Size, .sl (.rows Sets), .sl (.ints Costs)]])), (5, .own 1000000 out.length), (13, .own 13 (1 + (setsL below.toNat).length)), (14, .d true (.int .i64 ((1 + (setsL below.toNat).length) : Int))), (15, .d true (.int .i64 i))]) (fun (out : List (List Int)) (i : Int) => [(1000000, .arr true 22 (.rows out)), (13, .arr true 22 (.rows ([[]] ++ setsL below.toNat)))])) (fun g => i_lists_pack_mJ0 below Size Sets Costs g.1 g.2) (fun _ => .none))) (.none)))
def i_lists_pack_P (below : Int) (Size : Int) (Sets : List (List Int)) (Costs : List Int) : Prop :=
  (PC Try.prog 102 [.int .i64 below] (.one (.own 22 (.rows (setsL below.toNat))))) ∧ ((1 : Nat) = 1) ∧ ((setsL below.toNat).length = (setsL below.toNat).length) ∧ ((1 + (setsL below.toNat).length) * 24 ≤ 140737488355328) ∧ ((∃ out' : List (List Int), ∃ i' : Int, (i_lists_pack_JJ0 below Size Sets Costs out' i') ∧ ((.fn 113 1 [.agg [.int .i64 Size, .sl (.rows Sets), .sl (.ints Costs)]] : D) = (.fn 113 1 [.agg [.int .i64 Size, .sl (.rows Sets), .sl (.ints Costs)]] : D)) ∧ ((0 : Nat) = out'.length) ∧ ((1 + (setsL below.toNat).length) = (1 + (setsL below.toNat).length)) ∧ (((1 + (setsL below.toNat).length) : Int) = ((1 + (setsL below.toNat).length) : Int)) ∧ ((0 : Int) = i') ∧ ([] = out') ∧ ((([[]] ++ setsL below.toNat) : List (List Int)) = ([[]] ++ setsL below.toNat))) ∧ (∀ out : List (List Int), ∀ i : Int, (i_lists_pack_JJ0 below Size Sets Costs out i) → (((decide (i < ((1 + (setsL below.toNat).length) : Int))) = true → ((0 : Int) ≤ i) ∧ ((i : Int) < ((1 + (setsL below.toNat).length) : Int)) ∧ (i.toNat < ([[]] ++ setsL below.toNat).length) ∧ (PC Try.prog 113 [.agg [.int .i64 Size, .sl (.rows Sets), .sl (.ints Costs)], .sl (.ints (([[]] ++ setsL below.toNat).getD i.toNat []))] (.one (.d (.bool (packB Sets (([[]] ++ setsL below.toNat).getD i.toNat [])))))) ∧ (((packB Sets (([[]] ++ setsL below.toNat).getD i.toNat [])) = true → (out.length = out.length) ∧ ((1 : Nat) = 1) ∧ ((out.length + 1) * 24 ≤ 140737488355328) ∧ (-9223372036854775808 ≤ (i + 1) ∧ (i + 1) ≤ 9223372036854775807) ∧ (∃ out' : List (List Int), ∃ i' : Int, (i_lists_pack_JJ0 below Size Sets Costs out' i') ∧ (i_lists_pack_mJ0 below Size Sets Costs out' i' < i_lists_pack_mJ0 below Size Sets Costs out i) ∧ ((.fn 113 1 [.agg [.int .i64 Size, .sl (.rows Sets), .sl (.ints Costs)]] : D) = (.fn 113 1 [.agg [.int .i64 Size, .sl (.rows Sets), .sl (.ints Costs)]] : D)) ∧ ((out.length + 1) = out'.length) ∧ ((1 + (setsL below.toNat).length) = (1 + (setsL below.toNat).length)) ∧ (((1 + (setsL below.toNat).length) : Int) = ((1 + (setsL below.toNat).length) : Int)) ∧ ((i + 1) = i') ∧ ((out ++ [(([[]] ++ setsL below.toNat).getD i.toNat [])]) = out') ∧ ((([[]] ++ setsL below.toNat) : List (List Int)) = ([[]] ++ setsL below.toNat)))) ∧ ((packB Sets (([[]] ++ setsL below.toNat).getD i.toNat [])) = false → (-9223372036854775808 ≤ (i + 1) ∧ (i + 1) ≤ 9223372036854775807) ∧ (∃ out' : List (List Int), ∃ i' : Int, (i_lists_pack_JJ0 below Size Sets Costs out' i') ∧ (i_lists_pack_mJ0 below Size Sets Costs out' i' < i_lists_pack_mJ0 below Size Sets Costs out i) ∧ ((.fn 113 1 [.agg [.int .i64 Size, .sl (.rows Sets), .sl (.ints Costs)]] : D) = (.fn 113 1 [.agg [.int .i64 Size, .sl (.rows Sets), .sl (.ints Costs)]] : D)) ∧ (out.length = out'.length) ∧ ((1 + (setsL below.toNat).length) = (1 + (setsL below.toNat).length)) ∧ (((1 + (setsL below.toNat).length) : Int) = ((1 + (setsL below.toNat).length) : Int)) ∧ ((i + 1) = i') ∧ (out = out') ∧ ((([[]] ++ setsL below.toNat) : List (List Int)) = ([[]] ++ setsL below.toNat)))))) ∧ ((decide (i < ((1 + (setsL below.toNat).length) : Int))) = false → ((out.length = out.length) ∧ ((out : List (List Int)) = ((chs below.toNat).filter (packB Sets))))))))
theorem i_lists_pack_vc (below : Int) (Size : Int) (Sets : List (List Int)) (Costs : List Int) (hn : 0 ≤ below ∧ below ≤ 8) (hx : ∀ s ∈ chs below.toNat, goodSys Size Sets Costs = true ∧ rising s 0 ((Sets.length : Int) - 1) = true) (w_Sets : (Sets.length : Int) ≤ 9223372036854775807) (v_Sets : ∀ x9 ∈ Sets, (x9.length : Int) ≤ 9223372036854775807) (w_Costs : (Costs.length : Int) ≤ 9223372036854775807) : i_lists_pack_P below Size Sets Costs := by
  unfold i_lists_pack_P
  have cs := chs_small (n := below.toNat) (by omega)
  have ce : (chs below.toNat).length = 1 + (setsL below.toNat).length := by unfold chs; rw [List.length_append]; rfl
  refine ⟨?_, rfl, rfl, ?_, ?_, ?_⟩
  · refine i_sets_pc below ?_
    · first | omega | rfl | (intro hg; simp only [nrmT] at hg; omega) | (intro g1 g2; simp [g1, g2]; done) | (intro g1; simp at g1 ⊢; simp [g1]; done) | (simp only [nrmT] at *; omega) | (simp at * <;> omega) | (simp_all <;> omega) | (simp_all; done)
  · first | omega | rfl | (intro hg; simp only [nrmT] at hg; omega) | (intro g1 g2; simp [g1, g2]; done) | (intro g1; simp at g1 ⊢; simp [g1]; done) | (simp only [nrmT] at *; omega) | (simp at * <;> omega) | (simp_all <;> omega) | (simp_all; done)
  · refine ⟨([]), 0, ?_⟩
    refine ⟨?_, rfl, rfl, rfl, rfl, rfl, ?_, rfl⟩
    · refine ⟨?_, ?_, ?_⟩
      · first | omega | rfl | (intro hg; simp only [nrmT] at hg; omega) | (intro g1 g2; simp [g1, g2]; done) | (intro g1; simp at g1 ⊢; simp [g1]; done) | (simp only [nrmT] at *; omega) | (simp at * <;> omega) | (simp_all <;> omega) | (simp_all; done)
      · first | omega | rfl | (intro hg; simp only [nrmT] at hg; omega) | (intro g1 g2; simp [g1, g2]; done) | (intro g1; simp at g1 ⊢; simp [g1]; done) | (simp only [nrmT] at *; omega) | (simp at * <;> omega) | (simp_all <;> omega) | (simp_all; done)
      · rfl
    · first | omega | rfl | (intro hg; simp only [nrmT] at hg; omega) | (intro g1 g2; simp [g1, g2]; done) | (intro g1; simp at g1 ⊢; simp [g1]; done) | (simp only [nrmT] at *; omega) | (simp at * <;> omega) | (simp_all <;> omega) | (simp_all; done)
  · intro out i hJ
    obtain ⟨h1, h2, h3⟩ := hJ
    refine ⟨?_, ?_⟩
    · intro b1
      try simp only [nrmT] at b1
      refine ⟨?_, ?_, ?_, ?_, ?_, ?_⟩
      · first | omega | rfl | (intro hg; simp only [nrmT] at hg; omega) | (intro g1 g2; simp [g1, g2]; done) | (intro g1; simp at g1 ⊢; simp [g1]; done) | (simp only [nrmT] at *; omega) | (simp at * <;> omega) | (simp_all <;> omega) | (simp_all; done)
      · first | omega | rfl | (intro hg; simp only [nrmT] at hg; omega) | (intro g1 g2; simp [g1, g2]; done) | (intro g1; simp at g1 ⊢; simp [g1]; done) | (simp only [nrmT] at *; omega) | (simp at * <;> omega) | (simp_all <;> omega) | (simp_all; done)
      · show i.toNat < (chs below.toNat).length
        omega
      · refine i_System_isPacking_pc Size Sets Costs (([[]] ++ setsL below.toNat).getD i.toNat []) ?_ ?_
        · have hm : ([[]] ++ setsL below.toNat).getD i.toNat [] ∈ chs below.toNat := getD_memI (xs := chs below.toNat) h1 (by omega)
          exact (hx _ hm).1
        · have hm : ([[]] ++ setsL below.toNat).getD i.toNat [] ∈ chs below.toNat := getD_memI (xs := chs below.toNat) h1 (by omega)
          exact (hx _ hm).2
      · intro b2
        try simp only [nrmT] at b2
        refine ⟨rfl, rfl, ?_, ?_, ?_⟩
        · have := List.length_filter_le (packB Sets) ((chs below.toNat).take i.toNat)
          rw [← h3, List.length_take] at this
          omega
        · first | omega | rfl | (intro hg; simp only [nrmT] at hg; omega) | (intro g1 g2; simp [g1, g2]; done) | (intro g1; simp at g1 ⊢; simp [g1]; done) | (simp only [nrmT] at *; omega) | (simp at * <;> omega) | (simp_all <;> omega) | (simp_all; done)
        · refine ⟨(out ++ [(([[]] ++ setsL below.toNat).getD i.toNat [])]), (i + 1), ?_⟩
          refine ⟨?_, ?_, rfl, ?_, rfl, rfl, rfl, rfl, rfl⟩
          · refine ⟨?_, ?_, ?_⟩
            · first | omega | rfl | (intro hg; simp only [nrmT] at hg; omega) | (intro g1 g2; simp [g1, g2]; done) | (intro g1; simp at g1 ⊢; simp [g1]; done) | (simp only [nrmT] at *; omega) | (simp at * <;> omega) | (simp_all <;> omega) | (simp_all; done)
            · first | omega | rfl | (intro hg; simp only [nrmT] at hg; omega) | (intro g1 g2; simp [g1, g2]; done) | (intro g1; simp at g1 ⊢; simp [g1]; done) | (simp only [nrmT] at *; omega) | (simp at * <;> omega) | (simp_all <;> omega) | (simp_all; done)
            · rw [filter_step h1 (by omega), ← h3, if_pos (by first | exact b2 | exact decide_eq_true b2)]; rfl
          · first | (show _ < _; omega) | (simp only [i_lists_pack_mJ0]; omega) | (simp only [i_lists_pack_mJ0] at *; simp at *; omega)
          · first | omega | rfl | (intro hg; simp only [nrmT] at hg; omega) | (intro g1 g2; simp [g1, g2]; done) | (intro g1; simp at g1 ⊢; simp [g1]; done) | (simp only [nrmT] at *; omega) | (simp at * <;> omega) | (simp_all <;> omega) | (simp_all; done)
      · intro b3
        try simp only [nrmT] at b3
        refine ⟨?_, ?_⟩
        · first | omega | rfl | (intro hg; simp only [nrmT] at hg; omega) | (intro g1 g2; simp [g1, g2]; done) | (intro g1; simp at g1 ⊢; simp [g1]; done) | (simp only [nrmT] at *; omega) | (simp at * <;> omega) | (simp_all <;> omega) | (simp_all; done)
        · refine ⟨out, (i + 1), ?_⟩
          refine ⟨?_, ?_, rfl, rfl, rfl, rfl, rfl, rfl, rfl⟩
          · refine ⟨?_, ?_, ?_⟩
            · first | omega | rfl | (intro hg; simp only [nrmT] at hg; omega) | (intro g1 g2; simp [g1, g2]; done) | (intro g1; simp at g1 ⊢; simp [g1]; done) | (simp only [nrmT] at *; omega) | (simp at * <;> omega) | (simp_all <;> omega) | (simp_all; done)
            · first | omega | rfl | (intro hg; simp only [nrmT] at hg; omega) | (intro g1 g2; simp [g1, g2]; done) | (intro g1; simp at g1 ⊢; simp [g1]; done) | (simp only [nrmT] at *; omega) | (simp at * <;> omega) | (simp_all <;> omega) | (simp_all; done)
            · rw [filter_step h1 (by omega), ← h3]
              exact (if_neg (by first | exact ne_true_of_eq_false b3 | exact fun h => absurd (of_decide_eq_true h) (Int.not_le.2 b3))).symm
          · first | (show _ < _; omega) | (simp only [i_lists_pack_mJ0]; omega) | (simp only [i_lists_pack_mJ0] at *; simp at *; omega)
    · intro b4
      try simp only [nrmT] at b4
      refine ⟨rfl, ?_⟩
      · rw [h3, take_all (by omega)]
theorem i_lists_pack_pc (below : Int) (Size : Int) (Sets : List (List Int)) (Costs : List Int) (hn : 0 ≤ below ∧ below ≤ 8) (hx : ∀ s ∈ chs below.toNat, goodSys Size Sets Costs = true ∧ rising s 0 ((Sets.length : Int) - 1) = true) : PC Try.prog 112 [.int .i64 below, .fn 113 1 [.agg [.int .i64 Size, .sl (.rows Sets), .sl (.ints Costs)]]] (.one (.d (.sl (.rows ((chs below.toNat).filter (packB Sets)))))) :=
  pc_wf @Try.call112 fun hw => pc_by (by kernel_rfl) Try.func112 @Try.call112 (by kernel_rfl) i_lists_pack_C (i_lists_pack_A below Size Sets Costs) (by kernel_rfl) (i_lists_pack_vc below Size Sets Costs hn hx hw.2.1.1.2.1.1 hw.2.1.1.2.1.2 hw.2.1.1.2.2.1) (by kernel_rfl)
def i_lists_pack_orc : List D → Orc := orcN [none, none] fun ds => match ds with
  | [.int .i64 below, .fn f0 1 [.agg [.int .i64 Size, .sl (.rows Sets), .sl (.ints Costs)]]] => bif Nat.beq f0 113 then some (.one (.d (.sl (.rows ((chs below.toNat).filter (packB Sets)))))) else none
  | _ => none
def i_LargestPacking_1_C (f : FuncId) (ds : List D) : Orc := .no
def i_LargestPacking_1_A (choice : List Int) : Ann := .none
def i_LargestPacking_1_P (choice : List Int) : Prop :=
  (-9223372036854775808 ≤ (-(choice.length : Int)) ∧ (-(choice.length : Int)) ≤ 9223372036854775807) ∧ (((-(choice.length : Int)) = (-(choice.length : Int))))
theorem i_LargestPacking_1_vc (choice : List Int)  (w_choice : (choice.length : Int) ≤ 9223372036854775807) : i_LargestPacking_1_P choice := by
  unfold i_LargestPacking_1_P
  refine ⟨?_, rfl⟩
  · first | omega | rfl | (intro hg; simp only [nrmT] at hg; omega) | (intro g1 g2; simp [g1, g2]; done) | (intro g1; simp at g1 ⊢; simp [g1]; done) | (simp only [nrmT] at *; omega) | (simp at * <;> omega) | (simp_all <;> omega) | (simp_all; done)
theorem i_LargestPacking_1_pc (choice : List Int)  : PC Try.prog 114 [.sl (.ints choice)] (.one (.d (.int .i64 (-(choice.length : Int))))) :=
  pc_wf @Try.call114 fun hw => pc_by (by kernel_rfl) Try.func114 @Try.call114 (by kernel_rfl) i_LargestPacking_1_C (i_LargestPacking_1_A choice) (by kernel_rfl) (i_LargestPacking_1_vc choice hw.1) (by kernel_rfl)
def i_LargestPacking_1_orc : List D → Orc := orcN [some .ints] fun ds => match ds with
  | [.sl (.ints choice)] => some (.one (.d (.int .i64 (-(choice.length : Int)))))
  | _ => none
abbrev i_least_len_JJ0 (xss : List (List Int)) (best : List Int) (i : Int) : Prop := (0 ≤ i) ∧ (i ≤ (xss.length : Int)) ∧ (best ∈ xss) ∧ (best = (xss.take i.toNat).foldl (lsB (fun s9 => -(s9.length : Int))) (xss.getD 0 []))
abbrev i_least_len_mJ0 (xss : List (List Int)) (best : List Int) (i : Int) : Nat := (xss.length - i).toNat
def i_least_len_C (f : FuncId) (ds : List D) : Orc := bif Nat.beq f 114 then i_LargestPacking_1_orc ds else .no
def i_least_len_A (xss : List (List Int)) : Ann := .two (.none) (.two (.none) (.two (.two (.none) (.loop (cut2 (fun (best : List Int) (i : Int) => i_least_len_JJ0 xss best i) (fun (best : List Int) (i : Int) => [(1, .d false (.fn 114 0 [])), (5, .d true (.sl (.ints best))), (11, .d true (.sl (.rows xss))), (12, .d true (.int .i64 (xss.length : Int))), (13, .d true (.int .i64 i))]) (fun (best : List Int) (i : Int) => [])) (fun g => i_least_len_mJ0 xss g.1 g.2) (fun _ => .none))) (.none)))
def i_least_len_P (xss : List (List Int)) : Prop :=
  ((0 : Int) ≤ 0) ∧ ((0 : Int) < xss.length) ∧ (0 < xss.length) ∧ ((∃ best' : List Int, ∃ i' : Int, (i_least_len_JJ0 xss best' i') ∧ ((.fn 114 0 [] : D) = (.fn 114 0 [] : D)) ∧ ((xss.getD 0 []) = best') ∧ (xss = xss) ∧ ((xss.length : Int) = (xss.length : Int)) ∧ ((0 : Int) = i')) ∧ (∀ best : List Int, ∀ i : Int, (i_least_len_JJ0 xss best i) → (((decide (i < (xss.length : Int))) = true → ((0 : Int) ≤ i) ∧ ((i : Int) < xss.length) ∧ (i.toNat < xss.length) ∧ (PC Try.prog 114 [.sl (.ints (xss.getD i.toNat []))] (.one (.d (.int .i64 (-((xss.getD i.toNat []).length : Int)))))) ∧ (PC Try.prog 114 [.sl (.ints best)] (.one (.d (.int .i64 (-(best.length : Int)))))) ∧ (((decide ((-((xss.getD i.toNat []).length : Int)) < (-(best.length : Int)))) = true → (-9223372036854775808 ≤ (i + 1) ∧ (i + 1) ≤ 9223372036854775807) ∧ (∃ best' : List Int, ∃ i' : Int, (i_least_len_JJ0 xss best' i') ∧ (i_least_len_mJ0 xss best' i' < i_least_len_mJ0 xss best i) ∧ ((.fn 114 0 [] : D) = (.fn 114 0 [] : D)) ∧ ((xss.getD i.toNat []) = best') ∧ (xss = xss) ∧ ((xss.length : Int) = (xss.length : Int)) ∧ ((i + 1) = i'))) ∧ ((decide ((-((xss.getD i.toNat []).length : Int)) < (-(best.length : Int)))) = false → (-9223372036854775808 ≤ (i + 1) ∧ (i + 1) ≤ 9223372036854775807) ∧ (∃ best' : List Int, ∃ i' : Int, (i_least_len_JJ0 xss best' i') ∧ (i_least_len_mJ0 xss best' i' < i_least_len_mJ0 xss best i) ∧ ((.fn 114 0 [] : D) = (.fn 114 0 [] : D)) ∧ (best = best') ∧ (xss = xss) ∧ ((xss.length : Int) = (xss.length : Int)) ∧ ((i + 1) = i'))))) ∧ ((decide (i < (xss.length : Int))) = false → (((best : List Int) = (leastL (fun s9 => -(s9.length : Int)) xss)))))))
theorem i_least_len_vc (xss : List (List Int)) (hp : 0 < xss.length) (hx : ∀ s ∈ xss, True) (w_xss : (xss.length : Int) ≤ 9223372036854775807) (v_xss : ∀ x9 ∈ xss, (x9.length : Int) ≤ 9223372036854775807) : i_least_len_P xss := by
  unfold i_least_len_P
  refine ⟨?_, ?_, ?_, ?_, ?_⟩
  · first | omega | rfl | (intro hg; simp only [nrmT] at hg; omega) | (intro g1 g2; simp [g1, g2]; done) | (intro g1; simp at g1 ⊢; simp [g1]; done) | (simp only [nrmT] at *; omega) | (simp at * <;> omega) | (simp_all <;> omega) | (simp_all; done)
  · first | omega | rfl | (intro hg; simp only [nrmT] at hg; omega) | (intro g1 g2; simp [g1, g2]; done) | (intro g1; simp at g1 ⊢; simp [g1]; done) | (simp only [nrmT] at *; omega) | (simp at * <;> omega) | (simp_all <;> omega) | (simp_all; done)
  · first | omega | rfl | (intro hg; simp only [nrmT] at hg; omega) | (intro g1 g2; simp [g1, g2]; done) | (intro g1; simp at g1 ⊢; simp [g1]; done) | (simp only [nrmT] at *; omega) | (simp at * <;> omega) | (simp_all <;> omega) | (simp_all; done)
  · refine ⟨(xss.getD 0 []), 0, ?_⟩
    refine ⟨?_, rfl, rfl, rfl, rfl, rfl⟩
    · refine ⟨?_, ?_, ?_, ?_⟩
      · first | omega | rfl | (intro hg; simp only [nrmT] at hg; omega) | (intro g1 g2; simp [g1, g2]; done) | (intro g1; simp at g1 ⊢; simp [g1]; done) | (simp only [nrmT] at *; omega) | (simp at * <;> omega) | (simp_all <;> omega) | (simp_all; done)
      · first | omega | rfl | (intro hg; simp only [nrmT] at hg; omega) | (intro g1 g2; simp [g1, g2]; done) | (intro g1; simp at g1 ⊢; simp [g1]; done) | (simp only [nrmT] at *; omega) | (simp at * <;> omega) | (simp_all <;> omega) | (simp_all; done)
      · exact getD_mem hp
      · rfl
  · intro best i hJ
    obtain ⟨h1, h2, h3, h4⟩ := hJ
    refine ⟨?_, ?_⟩
    · intro b1
      try simp only [nrmT] at b1
      refine ⟨?_, ?_, ?_, i_LargestPacking_1_pc (xss.getD i.toNat []), i_LargestPacking_1_pc best, ?_, ?_⟩
      · first | omega | rfl | (intro hg; simp only [nrmT] at hg; omega) | (intro g1 g2; simp [g1, g2]; done) | (intro g1; simp at g1 ⊢; simp [g1]; done) | (simp only [nrmT] at *; omega) | (simp at * <;> omega) | (simp_all <;> omega) | (simp_all; done)
      · first | omega | rfl | (intro hg; simp only [nrmT] at hg; omega) | (intro g1 g2; simp [g1, g2]; done) | (intro g1; simp at g1 ⊢; simp [g1]; done) | (simp only [nrmT] at *; omega) | (simp at * <;> omega) | (simp_all <;> omega) | (simp_all; done)
      · first | omega | rfl | (intro hg; simp only [nrmT] at hg; omega) | (intro g1 g2; simp [g1, g2]; done) | (intro g1; simp at g1 ⊢; simp [g1]; done) | (simp only [nrmT] at *; omega) | (simp at * <;> omega) | (simp_all <;> omega) | (simp_all; done)
      · intro b2
        try simp only [nrmT] at b2
        refine ⟨?_, ?_⟩
        · first | omega | rfl | (intro hg; simp only [nrmT] at hg; omega) | (intro g1 g2; simp [g1, g2]; done) | (intro g1; simp at g1 ⊢; simp [g1]; done) | (simp only [nrmT] at *; omega) | (simp at * <;> omega) | (simp_all <;> omega) | (simp_all; done)
        · refine ⟨(xss.getD i.toNat []), (i + 1), ?_⟩
          refine ⟨?_, ?_, rfl, rfl, rfl, rfl, rfl⟩
          · refine ⟨?_, ?_, ?_, ?_⟩
            · first | omega | rfl | (intro hg; simp only [nrmT] at hg; omega) | (intro g1 g2; simp [g1, g2]; done) | (intro g1; simp at g1 ⊢; simp [g1]; done) | (simp only [nrmT] at *; omega) | (simp at * <;> omega) | (simp_all <;> omega) | (simp_all; done)
            · first | omega | rfl | (intro hg; simp only [nrmT] at hg; omega) | (intro g1 g2; simp [g1, g2]; done) | (intro g1; simp at g1 ⊢; simp [g1]; done) | (simp only [nrmT] at *; omega) | (simp at * <;> omega) | (simp_all <;> omega) | (simp_all; done)
            · exact getD_memI h1 (by omega)
            · rw [fold_snoc (d := []) h1 (by omega), ← h4]; unfold lsB; rw [if_pos b2]
          · first | (show _ < _; omega) | (simp only [i_least_len_mJ0]; omega) | (simp only [i_least_len_mJ0] at *; simp at *; omega)
      · intro b3
        try simp only [nrmT] at b3
        refine ⟨?_, ?_⟩
        · first | omega | rfl | (intro hg; simp only [nrmT] at hg; omega) | (intro g1 g2; simp [g1, g2]; done) | (intro g1; simp at g1 ⊢; simp [g1]; done) | (simp only [nrmT] at *; omega) | (simp at * <;> omega) | (simp_all <;> omega) | (simp_all; done)
        · refine ⟨best, (i + 1), ?_⟩
          refine ⟨?_, ?_, rfl, rfl, rfl, rfl, rfl⟩
          · refine ⟨?_, ?_, ?_, ?_⟩
            · first | omega | rfl | (intro hg; simp only [nrmT] at hg; omega) | (intro g1 g2; simp [g1, g2]; done) | (intro g1; simp at g1 ⊢; simp [g1]; done) | (simp only [nrmT] at *; omega) | (simp at * <;> omega) | (simp_all <;> omega) | (simp_all; done)
            · first | omega | rfl | (intro hg; simp only [nrmT] at hg; omega) | (intro g1 g2; simp [g1, g2]; done) | (intro g1; simp at g1 ⊢; simp [g1]; done) | (simp only [nrmT] at *; omega) | (simp at * <;> omega) | (simp_all <;> omega) | (simp_all; done)
            · exact h3
            · rw [fold_snoc (d := []) h1 (by omega), ← h4]; unfold lsB; (try dsimp only); rw [if_neg (by omega)]
          · first | (show _ < _; omega) | (simp only [i_least_len_mJ0]; omega) | (simp only [i_least_len_mJ0] at *; simp at *; omega)
    · intro b4
      try simp only [nrmT] at b4
      rw [h4, take_all (by omega)]; rfl
theorem i_least_len_pc (xss : List (List Int)) (hp : 0 < xss.length) (hx : ∀ s ∈ xss, True) : PCs Try.prog 111 [.sl (.rows xss), .fn 114 0 []] 0 (.sl (.ints (leastL (fun s9 => -(s9.length : Int)) xss))) :=
  pcs_wf @Try.call111 fun hw => pcs_by (by kernel_rfl) Try.func111 @Try.call111 (by kernel_rfl) i_least_len_C (i_least_len_A xss) (by kernel_rfl) (i_least_len_vc xss hp hx hw.1.1 hw.1.2) (by kernel_rfl)
def i_least_len_orc : List D → Orc := orcS 0 fun ds => match ds with
  | [.sl (.rows xss), .fn f0 0 []] => some (.sl (.ints (leastL (fun s9 => -(s9.length : Int)) xss)))
  | _ => none
abbrev s_LargestPacking_JJ0 (Size : Int) (Sets : List (List Int)) (Costs : List Int) (best : List Int) (i : Int) : Prop := (0 ≤ i) ∧ (i ≤ ((chs Sets.length).length : Int)) ∧ (goodSys Size Sets Costs = true) ∧ (best ∈ chs Sets.length) ∧ (best = ((chs Sets.length).take i.toNat).foldl (lpB Sets) [])
abbrev s_LargestPacking_mJ0 (Size : Int) (Sets : List (List Int)) (Costs : List Int) (best : List Int) (i : Int) : Nat := ((chs Sets.length).length - i).toNat
def s_LargestPacking_C (f : FuncId) (ds : List D) : Orc := bif Nat.beq f 86 then s_l6Good_orc ds else bif Nat.beq f 109 then s_l6Choices_orc ds else bif Nat.beq f 110 then s_l6Packs_orc ds else .no
def s_LargestPacking_A (Size : Int) (Sets : List (List Int)) (Costs : List Int) : Ann := .two (.none) (.two (.reg [(0, .frz)]) (.two (.none) (.two (.none) (.two (.two (.none) (.loop (cut2 (fun (best : List Int) (i : Int) => s_LargestPacking_JJ0 Size Sets Costs best i) (fun (best : List Int) (i : Int) => [(1, .ptr 1 0), (4, .d true (.sl (.ints best))), (5, .d true (.sl (.rows (chs (Sets.length : Int).toNat)))), (6, .d true (.int .i64 i))]) (fun (best : List Int) (i : Int) => [(1, .box 34 [.d false (.int .i64 Size), .d false (.sl (.rows Sets)), .d false (.sl (.ints Costs))])])) (fun g => s_LargestPacking_mJ0 Size Sets Costs g.1 g.2) (fun _ => .none))) (.none)))))
def s_LargestPacking_P (Size : Int) (Sets : List (List Int)) (Costs : List Int) : Prop :=
  (PC Try.prog 86 [.agg [.int .i64 Size, .sl (.rows Sets), .sl (.ints Costs)]] (.one (.d (.bool (goodSys Size Sets Costs))))) ∧ (((!(goodSys Size Sets Costs)) = true → ((([] : List Int) = (lpL Size Sets Costs)) ∧ (false = (goodSys Size Sets Costs)))) ∧ ((!(goodSys Size Sets Costs)) = false → (PC Try.prog 109 [.int .i64 (Sets.length : Int)] (.one (.d (.sl (.rows (chs (Sets.length : Int).toNat)))))) ∧ ((∃ best' : List Int, ∃ i' : Int, (s_LargestPacking_JJ0 Size Sets Costs best' i') ∧ ([] = best') ∧ ((chs (Sets.length : Int).toNat) = (chs (Sets.length : Int).toNat)) ∧ ((0 : Int) = i') ∧ (Size = Size) ∧ (Sets = Sets) ∧ (Costs = Costs)) ∧ (∀ best : List Int, ∀ i : Int, (s_LargestPacking_JJ0 Size Sets Costs best i) → (((decide (i < (((chs (Sets.length : Int).toNat).length) : Int))) = true → (true = true) ∧ ((0 : Int) ≤ i) ∧ ((i : Int) < (chs (Sets.length : Int).toNat).length) ∧ (i.toNat < (chs (Sets.length : Int).toNat).length) ∧ ((decide ((((chs (Sets.length : Int).toNat).getD i.toNat []).length : Int) > (best.length : Int))) = true → (decide ((((chs (Sets.length : Int).toNat).getD i.toNat []).length : Int) > (best.length : Int))) = true) ∧ ((decide ((((chs (Sets.length : Int).toNat).getD i.toNat []).length : Int) > (best.length : Int))) = true → (decide ((((chs (Sets.length : Int).toNat).getD i.toNat []).length : Int) > (best.length : Int))) = true) ∧ (((decide ((((chs (Sets.length : Int).toNat).getD i.toNat []).length : Int) > (best.length : Int))) = true → (0 : Int) ≤ i)) ∧ (((decide ((((chs (Sets.length : Int).toNat).getD i.toNat []).length : Int) > (best.length : Int))) = true → (i : Int) < (chs (Sets.length : Int).toNat).length)) ∧ ((decide ((((chs (Sets.length : Int).toNat).getD i.toNat []).length : Int) > (best.length : Int))) = true → (decide ((((chs (Sets.length : Int).toNat).getD i.toNat []).length : Int) > (best.length : Int))) = true) ∧ (((decide ((((chs (Sets.length : Int).toNat).getD i.toNat []).length : Int) > (best.length : Int))) = true → i.toNat < (chs (Sets.length : Int).toNat).length)) ∧ ((decide ((((chs (Sets.length : Int).toNat).getD i.toNat []).length : Int) > (best.length : Int))) = true → (decide ((((chs (Sets.length : Int).toNat).getD i.toNat []).length : Int) > (best.length : Int))) = true) ∧ ((decide ((((chs (Sets.length : Int).toNat).getD i.toNat []).length : Int) > (best.length : Int))) = true → (decide ((((chs (Sets.length : Int).toNat).getD i.toNat []).length : Int) > (best.length : Int))) = true) ∧ ((decide ((((chs (Sets.length : Int).toNat).getD i.toNat []).length : Int) > (best.length : Int))) = true → PC Try.prog 110 [.agg [.int .i64 Size, .sl (.rows Sets), .sl (.ints Costs)], .sl (.ints ((chs (Sets.length : Int).toNat).getD i.toNat []))] (.one (.d (.bool (packB Sets ((chs (Sets.length : Int).toNat).getD i.toNat [])))))) ∧ (true = true) ∧ (((decide ((((chs (Sets.length : Int).toNat).getD i.toNat []).length : Int) > (best.length : Int))) = true → (decide ((((chs (Sets.length : Int).toNat).getD i.toNat []).length : Int) > (best.length : Int))) = true)) ∧ (((decide ((((chs (Sets.length : Int).toNat).getD i.toNat []).length : Int) > (best.length : Int))) = false → true = true)) ∧ (((cond (decide ((((chs (Sets.length : Int).toNat).getD i.toNat []).length : Int) > (best.length : Int))) (packB Sets ((chs (Sets.length : Int).toNat).getD i.toNat [])) false) = true → ((0 : Int) ≤ i) ∧ ((i : Int) < (chs (Sets.length : Int).toNat).length) ∧ (i.toNat < (chs (Sets.length : Int).toNat).length) ∧ (-9223372036854775808 ≤ (i + 1) ∧ (i + 1) ≤ 9223372036854775807) ∧ (∃ best' : List Int, ∃ i' : Int, (s_LargestPacking_JJ0 Size Sets Costs best' i') ∧ (s_LargestPacking_mJ0 Size Sets Costs best' i' < s_LargestPacking_mJ0 Size Sets Costs best i) ∧ (((chs (Sets.length : Int).toNat).getD i.toNat []) = best') ∧ ((chs (Sets.length : Int).toNat) = (chs (Sets.length : Int).toNat)) ∧ ((i + 1) = i') ∧ (Size = Size) ∧ (Sets = Sets) ∧ (Costs = Costs))) ∧ ((cond (decide ((((chs (Sets.length : Int).toNat).getD i.toNat []).length : Int) > (best.length : Int))) (packB Sets ((chs (Sets.length : Int).toNat).getD i.toNat [])) false) = false → (-9223372036854775808 ≤ (i + 1) ∧ (i + 1) ≤ 9223372036854775807) ∧ (∃ best' : List Int, ∃ i' : Int, (s_LargestPacking_JJ0 Size Sets Costs best' i') ∧ (s_LargestPacking_mJ0 Size Sets Costs best' i' < s_LargestPacking_mJ0 Size Sets Costs best i) ∧ (best = best') ∧ ((chs (Sets.length : Int).toNat) = (chs (Sets.length : Int).toNat)) ∧ ((i + 1) = i') ∧ (Size = Size) ∧ (Sets = Sets) ∧ (Costs = Costs))))) ∧ ((decide (i < (((chs (Sets.length : Int).toNat).length) : Int))) = false → (((best : List Int) = (lpL Size Sets Costs)) ∧ (true = (goodSys Size Sets Costs)))))))))
theorem s_LargestPacking_vc (Size : Int) (Sets : List (List Int)) (Costs : List Int)  (w_Sets : (Sets.length : Int) ≤ 9223372036854775807) (v_Sets : ∀ x9 ∈ Sets, (x9.length : Int) ≤ 9223372036854775807) (w_Costs : (Costs.length : Int) ≤ 9223372036854775807) : s_LargestPacking_P Size Sets Costs := by
  unfold s_LargestPacking_P
  have cs : goodSys Size Sets Costs = true → (chs Sets.length).length ≤ 256 := fun hg => chs_small (by have := gs_facts hg; omega)
  have ct : (chs (Sets.length : Int).toNat).length = (chs Sets.length).length := rfl
  refine ⟨s_l6Good_pc Size Sets Costs, ?_, ?_⟩
  · intro b1
    try simp only [nrmT] at b1
    refine ⟨?_, ?_⟩
    · have hq : goodSys Size Sets Costs = false := by simpa using b1
      unfold lpL; rw [hq]; rfl
    · have hq : goodSys Size Sets Costs = false := by simpa using b1
      exact hq.symm
  · intro b2
    try simp only [nrmT] at b2
    refine ⟨?_, ?_, ?_⟩
    · refine s_l6Choices_pc (Sets.length : Int) ?_
      · have hq : goodSys Size Sets Costs = true := by simpa using b2
        have := gs_facts hq
        omega
    · refine ⟨([]), 0, ?_⟩
      refine ⟨?_, ?_, rfl, rfl, rfl, rfl, rfl⟩
      · refine ⟨?_, ?_, ?_, ?_, ?_⟩
        · first | omega | rfl | (intro hg; simp only [nrmT] at hg; omega) | (intro g1 g2; simp [g1, g2]; done) | (intro g1; simp at g1 ⊢; simp [g1]; done) | (simp only [nrmT] at *; omega) | (simp at * <;> omega) | (simp_all <;> omega) | (simp_all; done)
        · first | omega | rfl | (intro hg; simp only [nrmT] at hg; omega) | (intro g1 g2; simp [g1, g2]; done) | (intro g1; simp at g1 ⊢; simp [g1]; done) | (simp only [nrmT] at *; omega) | (simp at * <;> omega) | (simp_all <;> omega) | (simp_all; done)
        · first | exact hf | exact (show goodSys Size Sets Costs = true by
            have hq : goodSys Size Sets Costs = true := by simpa using b2
            exact hq)
        · exact nil_chs _
        · rfl
      · first | omega | rfl | (intro hg; simp only [nrmT] at hg; omega) | (intro g1 g2; simp [g1, g2]; done) | (intro g1; simp at g1 ⊢; simp [g1]; done) | (simp only [nrmT] at *; omega) | (simp at * <;> omega) | (simp_all <;> omega) | (simp_all; done)
    · intro best i hJ
      obtain ⟨h1, h2, hf, h3, h4⟩ := hJ
      refine ⟨?_, ?_⟩
      · intro b3
        try simp only [nrmT] at b3
        refine ⟨rfl, ?_, ?_, ?_, id, id, ?_, ?_, id, ?_, id, id, ?_, rfl, id, fun _ => rfl, ?_, ?_⟩
        · first | omega | rfl | (intro hg; simp only [nrmT] at hg; omega) | (intro g1 g2; simp [g1, g2]; done) | (intro g1; simp at g1 ⊢; simp [g1]; done) | (simp only [nrmT] at *; omega) | (simp at * <;> omega) | (simp_all <;> omega) | (simp_all; done)
        · first | omega | rfl | (intro hg; simp only [nrmT] at hg; omega) | (intro g1 g2; simp [g1, g2]; done) | (intro g1; simp at g1 ⊢; simp [g1]; done) | (simp only [nrmT] at *; omega) | (simp at * <;> omega) | (simp_all <;> omega) | (simp_all; done)
        · first | omega | rfl | (intro hg; simp only [nrmT] at hg; omega) | (intro g1 g2; simp [g1, g2]; done) | (intro g1; simp at g1 ⊢; simp [g1]; done) | (simp only [nrmT] at *; omega) | (simp at * <;> omega) | (simp_all <;> omega) | (simp_all; done)
        · first | omega | rfl | (intro hg; simp only [nrmT] at hg; omega) | (intro g1 g2; simp [g1, g2]; done) | (intro g1; simp at g1 ⊢; simp [g1]; done) | (simp only [nrmT] at *; omega) | (simp at * <;> omega) | (simp_all <;> omega) | (simp_all; done)
        · first | omega | rfl | (intro hg; simp only [nrmT] at hg; omega) | (intro g1 g2; simp [g1, g2]; done) | (intro g1; simp at g1 ⊢; simp [g1]; done) | (simp only [nrmT] at *; omega) | (simp at * <;> omega) | (simp_all <;> omega) | (simp_all; done)
        · first | omega | rfl | (intro hg; simp only [nrmT] at hg; omega) | (intro g1 g2; simp [g1, g2]; done) | (intro g1; simp at g1 ⊢; simp [g1]; done) | (simp only [nrmT] at *; omega) | (simp at * <;> omega) | (simp_all <;> omega) | (simp_all; done)
        · intro hg
          refine s_l6Packs_pc Size Sets Costs ((chs (Sets.length : Int).toNat).getD i.toNat []) ?_ ?_
          · first | exact hf | exact (show goodSys Size Sets Costs = true by
              have hq : goodSys Size Sets Costs = true := by simpa using b2
              exact hq)
          · exact chs_rising (getD_memI (by omega) (by omega))
        · intro b4
          refine ⟨?_, ?_, ?_, ?_, ?_⟩
          · first | omega | rfl | (intro hg; simp only [nrmT] at hg; omega) | (intro g1 g2; simp [g1, g2]; done) | (intro g1; simp at g1 ⊢; simp [g1]; done) | (simp only [nrmT] at *; omega) | (simp at * <;> omega) | (simp_all <;> omega) | (simp_all; done)
          · first | omega | rfl | (intro hg; simp only [nrmT] at hg; omega) | (intro g1 g2; simp [g1, g2]; done) | (intro g1; simp at g1 ⊢; simp [g1]; done) | (simp only [nrmT] at *; omega) | (simp at * <;> omega) | (simp_all <;> omega) | (simp_all; done)
          · first | omega | rfl | (intro hg; simp only [nrmT] at hg; omega) | (intro g1 g2; simp [g1, g2]; done) | (intro g1; simp at g1 ⊢; simp [g1]; done) | (simp only [nrmT] at *; omega) | (simp at * <;> omega) | (simp_all <;> omega) | (simp_all; done)
          · have := cs hf
            omega
          · refine ⟨((chs (Sets.length : Int).toNat).getD i.toNat []), (i + 1), ?_⟩
            refine ⟨?_, ?_, rfl, rfl, rfl, rfl, rfl, rfl⟩
            · refine ⟨?_, ?_, ?_, ?_, ?_⟩
              · first | omega | rfl | (intro hg; simp only [nrmT] at hg; omega) | (intro g1 g2; simp [g1, g2]; done) | (intro g1; simp at g1 ⊢; simp [g1]; done) | (simp only [nrmT] at *; omega) | (simp at * <;> omega) | (simp_all <;> omega) | (simp_all; done)
              · first | omega | rfl | (intro hg; simp only [nrmT] at hg; omega) | (intro g1 g2; simp [g1, g2]; done) | (intro g1; simp at g1 ⊢; simp [g1]; done) | (simp only [nrmT] at *; omega) | (simp at * <;> omega) | (simp_all <;> omega) | (simp_all; done)
              · first | exact hf | exact (show goodSys Size Sets Costs = true by
                  have hq : goodSys Size Sets Costs = true := by simpa using b2
                  exact hq)
              · exact getD_memI (by omega) (by omega)
              · rw [Int.toNat_natCast] at b4 ⊢
                rw [fold_snoc (d := []) (by omega) (by omega), ← h4]; unfold lpB; rw [if_pos b4]
            · first | (show _ < _; omega) | (simp only [s_LargestPacking_mJ0]; omega) | (simp only [s_LargestPacking_mJ0] at *; simp at *; omega)
        · intro b5
          refine ⟨?_, ?_⟩
          · have := cs hf
            omega
          · refine ⟨best, (i + 1), ?_⟩
            refine ⟨?_, ?_, rfl, rfl, rfl, rfl, rfl, rfl⟩
            · refine ⟨?_, ?_, ?_, ?_, ?_⟩
              · first | omega | rfl | (intro hg; simp only [nrmT] at hg; omega) | (intro g1 g2; simp [g1, g2]; done) | (intro g1; simp at g1 ⊢; simp [g1]; done) | (simp only [nrmT] at *; omega) | (simp at * <;> omega) | (simp_all <;> omega) | (simp_all; done)
              · first | omega | rfl | (intro hg; simp only [nrmT] at hg; omega) | (intro g1 g2; simp [g1, g2]; done) | (intro g1; simp at g1 ⊢; simp [g1]; done) | (simp only [nrmT] at *; omega) | (simp at * <;> omega) | (simp_all <;> omega) | (simp_all; done)
              · first | exact hf | exact (show goodSys Size Sets Costs = true by
                  have hq : goodSys Size Sets Costs = true := by simpa using b2
                  exact hq)
              · exact h3
              · rw [Int.toNat_natCast] at b5
                rw [fold_snoc (d := []) (by omega) (by omega), ← h4]; unfold lpB; rw [if_neg (ne_true_of_eq_false b5)]
            · first | (show _ < _; omega) | (simp only [s_LargestPacking_mJ0]; omega) | (simp only [s_LargestPacking_mJ0] at *; simp at *; omega)
      · intro b6
        try simp only [nrmT] at b6
        refine ⟨?_, ?_⟩
        · rw [h4, take_all (by omega)]; unfold lpL lpS; rw [if_pos hf]; exact lp_fold _
        · first | exact hf.symm | exact (show goodSys Size Sets Costs = true by simpa using b2).symm
theorem s_LargestPacking_pc (Size : Int) (Sets : List (List Int)) (Costs : List Int)  : PC Try.prog 52 [.agg [.int .i64 Size, .sl (.rows Sets), .sl (.ints Costs)]] (.tup [.d (.sl (.ints (lpL Size Sets Costs))), .d (.bool (goodSys Size Sets Costs))]) :=
  pc_wf @Try.call52 fun hw => pc_by (by kernel_rfl) Try.func52 @Try.call52 (by kernel_rfl) s_LargestPacking_C (s_LargestPacking_A Size Sets Costs) (by kernel_rfl) (s_LargestPacking_vc Size Sets Costs hw.1.2.1.1 hw.1.2.1.2 hw.1.2.2.1) (by kernel_rfl)
def s_LargestPacking_orc : List D → Orc := orcN [none] fun ds => match ds with
  | [.agg [.int .i64 Size, .sl (.rows Sets), .sl (.ints Costs)]] => some (.tup [.d (.sl (.ints (lpL Size Sets Costs))), .d (.bool (goodSys Size Sets Costs))])
  | _ => none
def i_LargestPacking_C (f : FuncId) (ds : List D) : Orc := bif Nat.beq f 88 then i_IsSystem_orc ds else bif Nat.beq f 112 then i_lists_pack_orc ds else bif Nat.beq f 111 then i_least_len_orc ds else .no
def i_LargestPacking_A (Size : Int) (Sets : List (List Int)) (Costs : List Int) : Ann := .none
def i_LargestPacking_P (Size : Int) (Sets : List (List Int)) (Costs : List Int) : Prop :=
  (PC Try.prog 88 [.agg [.int .i64 Size, .sl (.rows Sets), .sl (.ints Costs)]] (.one (.d (.bool (goodSys Size Sets Costs))))) ∧ (((!(goodSys Size Sets Costs)) = true → (((lpL Size Sets Costs).length = 0) ∧ (false = (goodSys Size Sets Costs)))) ∧ ((!(goodSys Size Sets Costs)) = false → (PC Try.prog 112 [.int .i64 (Sets.length : Int), .fn 113 1 [.agg [.int .i64 Size, .sl (.rows Sets), .sl (.ints Costs)]]] (.one (.d (.sl (.rows ((chs (Sets.length : Int).toNat).filter (packB Sets))))))) ∧ (PCs Try.prog 111 [.sl (.rows ((chs (Sets.length : Int).toNat).filter (packB Sets))), .fn 114 0 []] 0 (.sl (.ints (leastL (fun s9 => -(s9.length : Int)) ((chs (Sets.length : Int).toNat).filter (packB Sets)))))) ∧ ((((leastL (fun s9 => -(s9.length : Int)) ((chs (Sets.length : Int).toNat).filter (packB Sets))) : List Int) = (lpL Size Sets Costs)) ∧ (true = (goodSys Size Sets Costs)))))
theorem i_LargestPacking_vc (Size : Int) (Sets : List (List Int)) (Costs : List Int)  (w_Sets : (Sets.length : Int) ≤ 9223372036854775807) (v_Sets : ∀ x9 ∈ Sets, (x9.length : Int) ≤ 9223372036854775807) (w_Costs : (Costs.length : Int) ≤ 9223372036854775807) : i_LargestPacking_P Size Sets Costs := by
  unfold i_LargestPacking_P
  have cs : goodSys Size Sets Costs = true → (chs Sets.length).length ≤ 256 := fun hg => chs_small (by have := gs_facts hg; omega)
  have ct : (chs (Sets.length : Int).toNat).length = (chs Sets.length).length := rfl
  refine ⟨i_IsSystem_pc Size Sets Costs, ?_, ?_⟩
  · intro b1
    try simp only [nrmT] at b1
    refine ⟨?_, ?_⟩
    · have hq : goodSys Size Sets Costs = false := by simpa using b1
      unfold lpL; rw [hq]; rfl
    · have hq : goodSys Size Sets Costs = false := by simpa using b1
      exact hq.symm
  · intro b2
    try simp only [nrmT] at b2
    refine ⟨?_, ?_, ?_, ?_⟩
    · refine i_lists_pack_pc (Sets.length : Int) Size Sets Costs ?_ ?_
      · have hq : goodSys Size Sets Costs = true := by simpa using b2
        have := gs_facts hq
        omega
      · have hq : goodSys Size Sets Costs = true := by simpa using b2
        intro s hs
        rw [Int.toNat_natCast] at hs
        exact ⟨hq, chs_rising hs⟩
    · refine i_least_len_pc ((chs (Sets.length : Int).toNat).filter (packB Sets)) ?_ ?_
      · exact chs_pos (packB_nil Sets)
      · have hq : goodSys Size Sets Costs = true := by simpa using b2
        intro s hs; trivial
    · have hq : goodSys Size Sets Costs = true := by simpa using b2
      unfold lpL; rw [if_pos hq]; rfl
    · first | exact hf.symm | exact (show goodSys Size Sets Costs = true by simpa using b2).symm
theorem i_LargestPacking_pc (Size : Int) (Sets : List (List Int)) (Costs : List Int)  : PC Try.prog 53 [.agg [.int .i64 Size, .sl (.rows Sets), .sl (.ints Costs)]] (.tup [.d (.sl (.ints (lpL Size Sets Costs))), .d (.bool (goodSys Size Sets Costs))]) :=
  pc_wf @Try.call53 fun hw => pc_by (by kernel_rfl) Try.func53 @Try.call53 (by kernel_rfl) i_LargestPacking_C (i_LargestPacking_A Size Sets Costs) (by kernel_rfl) (i_LargestPacking_vc Size Sets Costs hw.1.2.1.1 hw.1.2.1.2 hw.1.2.2.1) (by kernel_rfl)
def l_FnExactLargestPacking_C (f : FuncId) (ds : List D) : Orc := bif Nat.beq f 36 then l_szSystem_orc ds else bif Nat.beq f 38 then l_toSystem_orc ds else bif Nat.beq f 52 then s_LargestPacking_orc ds else bif Nat.beq f 24 then l_eqIntS_orc ds else bif Nat.beq f 31 then l_eqSystem_orc ds else bif Nat.beq f 26 then l_heldIntS_orc ds else .no
def l_FnExactLargestPacking_A (Size : Int) (Sets : List (List Int)) (Costs : List Int) : Ann := .two (.none) (.two (.none) (.two (.none) (.two (.none) (.two (.reg [(1, .g)]) (.two (.reg [(1, .g)]) (.two (.mark [] 1 (.vcall (.tup [.d (.sl (.ints (lpL Size Sets Costs))), .d (.bool (goodSys Size Sets Costs))]))) (.two (.none) (.two (.two (.reg [(2, .g)]) (.none)) (.two (.none) (.two (.mark [] 2 (.kill (1 + ((Sets.map List.length).sum : Int) + (Costs.length : Int)))) (.two (.none) (.two (.none) (.two (.mark [] 2 (.wv (marks 1 (lpL Size Sets Costs).length) (1 + ((lpL Size Sets Costs).length : Int)))) (.two (.none) (.two (.none) (.two (.none) (.two (.none) (.two (.mark [(1, .g)] 2 (.vcall (.tup [.d (.sl (.ints (lpL Size Sets Costs))), .d (.bool (goodSys Size Sets Costs))]))) (.none)))))))))))))))))))
def l_FnExactLargestPacking_P (Size : Int) (Sets : List (List Int)) (Costs : List Int) : Prop :=
  (PC Try.prog 36 [.agg [.int .i64 Size, .sl (.rows Sets), .sl (.ints Costs)], .int .i64 1048576] (.one (.d (.int .i64 (szSys Sets Costs 1048576))))) ∧ (((decide ((szSys Sets Costs 1048576) < 0)) = true → ((true = true))) ∧ ((decide ((szSys Sets Costs 1048576) < 0)) = false → (PC Try.prog 38 [.agg [.int .i64 Size, .sl (.rows Sets), .sl (.ints Costs)]] (.one (.d (.agg [.int .i64 Size, .sl (.rows Sets), .sl (.ints Costs)])))) ∧ (PC Try.prog 52 [.agg [.int .i64 Size, .sl (.rows Sets), .sl (.ints Costs)]] (.tup [.d (.sl (.ints (lpL Size Sets Costs))), .d (.bool (goodSys Size Sets Costs))])) ∧ (PC Try.prog 38 [.agg [.int .i64 Size, .sl (.rows Sets), .sl (.ints Costs)]] (.one (.d (.agg [.int .i64 Size, .sl (.rows Sets), .sl (.ints Costs)])))) ∧ (PC Try.prog 53 [.agg [.int .i64 Size, .sl (.rows Sets), .sl (.ints Costs)]] (.tup [.d (.sl (.ints (lpL Size Sets Costs))), .d (.bool (goodSys Size Sets Costs))])) ∧ ((lpL Size Sets Costs).length = (lpL Size Sets Costs).length) ∧ (PC Try.prog 24 [.sl (.ints (lpL Size Sets Costs)), .sl (.ints (lpL Size Sets Costs))] (.one (.d (.bool ((lpL Size Sets Costs) == (lpL Size Sets Costs)))))) ∧ ((!(!((lpL Size Sets Costs) == (lpL Size Sets Costs)))) = true → (!(!((lpL Size Sets Costs) == (lpL Size Sets Costs)))) = true) ∧ ((!(!((lpL Size Sets Costs) == (lpL Size Sets Costs)))) = true → (!(!((lpL Size Sets Costs) == (lpL Size Sets Costs)))) = true) ∧ (true = true) ∧ (((!((lpL Size Sets Costs) == (lpL Size Sets Costs))) = true → true = true)) ∧ (((!((lpL Size Sets Costs) == (lpL Size Sets Costs))) = false → (!(!((lpL Size Sets Costs) == (lpL Size Sets Costs)))) = true)) ∧ (((cond (!((lpL Size Sets Costs) == (lpL Size Sets Costs))) true ((goodSys Size Sets Costs) != (goodSys Size Sets Costs))) = true → ((false = true))) ∧ ((cond (!((lpL Size Sets Costs) == (lpL Size Sets Costs))) true ((goodSys Size Sets Costs) != (goodSys Size Sets Costs))) = false → (true = true) ∧ (PC Try.prog 38 [.agg [.int .i64 Size, .sl (.rows Sets), .sl (.ints Costs)]] (.one (.d (.agg [.int .i64 Size, .sl (.rows Sets), .sl (.ints Costs)])))) ∧ (PC Try.prog 31 [.agg [.int .i64 Size, .sl (.rows Sets), .sl (.ints Costs)], .agg [.int .i64 Size, .sl (.rows Sets), .sl (.ints Costs)]] (.one (.d (.bool ((Size == Size) && (Sets == Sets) && (Costs == Costs)))))) ∧ (((!((Size == Size) && (Sets == Sets) && (Costs == Costs))) = true → ((false = true))) ∧ ((!((Size == Size) && (Sets == Sets) && (Costs == Costs))) = false → (PG Try.prog 34 [.agg [.any, .rows (Sets.map List.length), .ints Costs.length], .int 1] (1 + ((Sets.map List.length).sum : Int) + (Costs.length : Int))) ∧ ((!(decide ((1 + ((Sets.map List.length).sum : Int) + (Costs.length : Int)) < 0))) = true → (!(decide ((1 + ((Sets.map List.length).sum : Int) + (Costs.length : Int)) < 0))) = true) ∧ ((!(decide ((1 + ((Sets.map List.length).sum : Int) + (Costs.length : Int)) < 0))) = true → (!(decide ((1 + ((Sets.map List.length).sum : Int) + (Costs.length : Int)) < 0))) = true) ∧ (((!(decide ((1 + ((Sets.map List.length).sum : Int) + (Costs.length : Int)) < 0))) = true → (lpL Size Sets Costs).length = (lpL Size Sets Costs).length)) ∧ ((!(decide ((1 + ((Sets.map List.length).sum : Int) + (Costs.length : Int)) < 0))) = true → PC Try.prog 24 [.sl (.ints (lpL Size Sets Costs)), .sl (.ints (lpL Size Sets Costs))] (.one (.d (.bool ((lpL Size Sets Costs) == (lpL Size Sets Costs)))))) ∧ ((!(decide ((1 + ((Sets.map List.length).sum : Int) + (Costs.length : Int)) < 0))) = true → (!(decide ((1 + ((Sets.map List.length).sum : Int) + (Costs.length : Int)) < 0))) = true) ∧ (true = true) ∧ (((decide ((1 + ((Sets.map List.length).sum : Int) + (Costs.length : Int)) < 0)) = true → true = true)) ∧ (((decide ((1 + ((Sets.map List.length).sum : Int) + (Costs.length : Int)) < 0)) = false → (!(decide ((1 + ((Sets.map List.length).sum : Int) + (Costs.length : Int)) < 0))) = true)) ∧ ((!(cond (decide ((1 + ((Sets.map List.length).sum : Int) + (Costs.length : Int)) < 0)) true (!((lpL Size Sets Costs) == (lpL Size Sets Costs))))) = true → (!(cond (decide ((1 + ((Sets.map List.length).sum : Int) + (Costs.length : Int)) < 0)) true (!((lpL Size Sets Costs) == (lpL Size Sets Costs))))) = true) ∧ ((!(cond (decide ((1 + ((Sets.map List.length).sum : Int) + (Costs.length : Int)) < 0)) true (!((lpL Size Sets Costs) == (lpL Size Sets Costs))))) = true → (!(cond (decide ((1 + ((Sets.map List.length).sum : Int) + (Costs.length : Int)) < 0)) true (!((lpL Size Sets Costs) == (lpL Size Sets Costs))))) = true) ∧ (true = true) ∧ (((cond (decide ((1 + ((Sets.map List.length).sum : Int) + (Costs.length : Int)) < 0)) true (!((lpL Size Sets Costs) == (lpL Size Sets Costs)))) = true → true = true)) ∧ (((cond (decide ((1 + ((Sets.map List.length).sum : Int) + (Costs.length : Int)) < 0)) true (!((lpL Size Sets Costs) == (lpL Size Sets Costs)))) = false → (!(cond (decide ((1 + ((Sets.map List.length).sum : Int) + (Costs.length : Int)) < 0)) true (!((lpL Size Sets Costs) == (lpL Size Sets Costs))))) = true)) ∧ (((cond (cond (decide ((1 + ((Sets.map List.length).sum : Int) + (Costs.length : Int)) < 0)) true (!((lpL Size Sets Costs) == (lpL Size Sets Costs)))) true ((goodSys Size Sets Costs) != (goodSys Size Sets Costs))) = true → ((false = true))) ∧ ((cond (cond (decide ((1 + ((Sets.map List.length).sum : Int) + (Costs.length : Int)) < 0)) true (!((lpL Size Sets Costs) == (lpL Size Sets Costs)))) true ((goodSys Size Sets Costs) != (goodSys Size Sets Costs))) = false → ((lpL Size Sets Costs).length = (lpL Size Sets Costs).length) ∧ ((marks 1 (lpL Size Sets Costs).length).length = (lpL Size Sets Costs).length) ∧ (PX Try.prog 25 (lpL Size Sets Costs) (marks 1 (lpL Size Sets Costs).length) 1 (1 + ((lpL Size Sets Costs).length : Int))) ∧ ((lpL Size Sets Costs).length = (marks 1 (lpL Size Sets Costs).length).length) ∧ (PC Try.prog 26 [.sl (.ints (marks 1 (lpL Size Sets Costs).length)), .int .i64 1] (.one (.d (.int .i64 (1 + ((marks 1 (lpL Size Sets Costs).length).length : Int)))))) ∧ (((decide ((1 + ((marks 1 (lpL Size Sets Costs).length).length : Int)) < 0)) = true → ((false = true))) ∧ ((decide ((1 + ((marks 1 (lpL Size Sets Costs).length).length : Int)) < 0)) = false → ((((1 + ((marks 1 (lpL Size Sets Costs).length).length : Int)) != (1 + ((lpL Size Sets Costs).length : Int))) = true → ((false = true))) ∧ (((1 + ((marks 1 (lpL Size Sets Costs).length).length : Int)) != (1 + ((lpL Size Sets Costs).length : Int))) = false → (PC Try.prog 38 [.agg [.int .i64 Size, .sl (.rows Sets), .sl (.ints Costs)]] (.one (.d (.agg [.int .i64 Size, .sl (.rows Sets), .sl (.ints Costs)])))) ∧ (PC Try.prog 53 [.agg [.int .i64 Size, .sl (.rows Sets), .sl (.ints Costs)]] (.tup [.d (.sl (.ints (lpL Size Sets Costs))), .d (.bool (goodSys Size Sets Costs))])) ∧ ((lpL Size Sets Costs).length = (lpL Size Sets Costs).length) ∧ (PC Try.prog 24 [.sl (.ints (lpL Size Sets Costs)), .sl (.ints (lpL Size Sets Costs))] (.one (.d (.bool ((lpL Size Sets Costs) == (lpL Size Sets Costs)))))) ∧ ((!(!((lpL Size Sets Costs) == (lpL Size Sets Costs)))) = true → (!(!((lpL Size Sets Costs) == (lpL Size Sets Costs)))) = true) ∧ ((!(!((lpL Size Sets Costs) == (lpL Size Sets Costs)))) = true → (!(!((lpL Size Sets Costs) == (lpL Size Sets Costs)))) = true) ∧ (true = true) ∧ (((!((lpL Size Sets Costs) == (lpL Size Sets Costs))) = true → true = true)) ∧ (((!((lpL Size Sets Costs) == (lpL Size Sets Costs))) = false → (!(!((lpL Size Sets Costs) == (lpL Size Sets Costs)))) = true)) ∧ (((cond (!((lpL Size Sets Costs) == (lpL Size Sets Costs))) true ((goodSys Size Sets Costs) != (goodSys Size Sets Costs))) = true → ((false = true))) ∧ ((cond (!((lpL Size Sets Costs) == (lpL Size Sets Costs))) true ((goodSys Size Sets Costs) != (goodSys Size Sets Costs))) = false → ((lpL Size Sets Costs).length = (marks 1 (lpL Size Sets Costs).length).length) ∧ (PC Try.prog 26 [.sl (.ints (marks 1 (lpL Size Sets Costs).length)), .int .i64 1] (.one (.d (.int .i64 (1 + ((marks 1 (lpL Size Sets Costs).length).length : Int)))))) ∧ (((decide ((1 + ((marks 1 (lpL Size Sets Costs).length).length : Int)) < 0)) = true → ((false = true))) ∧ ((decide ((1 + ((marks 1 (lpL Size Sets Costs).length).length : Int)) < 0)) = false → ((((1 + ((marks 1 (lpL Size Sets Costs).length).length : Int)) != (1 + ((lpL Size Sets Costs).length : Int))) = true → ((false = true))) ∧ (((1 + ((marks 1 (lpL Size Sets Costs).length).length : Int)) != (1 + ((lpL Size Sets Costs).length : Int))) = false → ((true = true))))))))))))))))))))
theorem l_FnExactLargestPacking_vc (Size : Int) (Sets : List (List Int)) (Costs : List Int)  (w_Sets : (Sets.length : Int) ≤ 9223372036854775807) (v_Sets : ∀ x9 ∈ Sets, (x9.length : Int) ≤ 9223372036854775807) (w_Costs : (Costs.length : Int) ≤ 9223372036854775807) : l_FnExactLargestPacking_P Size Sets Costs := by
  unfold l_FnExactLargestPacking_P
  refine ⟨?_, ?_, ?_⟩
  · refine l_szSystem_pc Size Sets Costs 1048576 ?_
    · first | omega | rfl | (intro hg; simp only [nrmT] at hg; omega) | (intro g1 g2; simp [g1, g2]; done) | (intro g1; simp at g1 ⊢; simp [g1]; done) | (simp only [nrmT] at *; omega) | (simp at * <;> omega) | (simp_all <;> omega) | (simp_all; done)
  · intro b1
    try simp only [nrmT] at b1
    exact rfl
  · intro b2
    try simp only [nrmT] at b2
    refine ⟨?_, s_LargestPacking_pc Size Sets Costs, ?_, i_LargestPacking_pc Size Sets Costs, rfl, l_eqIntS_pc (lpL Size Sets Costs) (lpL Size Sets Costs), id, id, rfl, fun _ => rfl, ?_, ?_, ?_⟩
    · refine l_toSystem_pc Size Sets Costs ?_ ?_ ?_
      · have := szSys_bound b2; omega
      · have h := (szSys_bound b2).2.1
        intro xs hx
        have h := h xs hx
        omega
      · have := szSys_bound b2; omega
    · refine l_toSystem_pc Size Sets Costs ?_ ?_ ?_
      · have := szSys_bound b2; omega
      · have h := (szSys_bound b2).2.1
        intro xs hx
        have h := h xs hx
        omega
      · have := szSys_bound b2; omega
    · intro h; rw [h]; rfl
    · intro b3
      first | (exfalso; simp only [marks_len] at b3; omega) | (simp at b3; done) | (exfalso; simp only [marks_len] at b3; simp at b3; done) | omega | rfl | (intro hg; simp only [nrmT] at hg; omega) | (intro g1 g2; simp [g1, g2]; done) | (intro g1; simp at g1 ⊢; simp [g1]; done) | (simp only [nrmT] at *; omega) | (simp at * <;> omega) | (simp_all <;> omega) | (simp_all; done)
    · intro b4
      refine ⟨rfl, ?_, l_eqSystem_pc Size Sets Costs Size Sets Costs, ?_, ?_⟩
      · refine l_toSystem_pc Size Sets Costs ?_ ?_ ?_
        · have := szSys_bound b2; omega
        · have h := (szSys_bound b2).2.1
          intro xs hx
          have h := h xs hx
          omega
        · have := szSys_bound b2; omega
      · intro b5
        try simp only [Bool.not_eq_true', Bool.not_eq_false', Bool.not_not] at b5
        first | (exfalso; simp only [marks_len] at b5; omega) | (simp at b5; done) | (exfalso; simp only [marks_len] at b5; simp at b5; done) | omega | rfl | (intro hg; simp only [nrmT] at hg; omega) | (intro g1 g2; simp [g1, g2]; done) | (intro g1; simp at g1 ⊢; simp [g1]; done) | (simp only [nrmT] at *; omega) | (simp at * <;> omega) | (simp_all <;> omega) | (simp_all; done)
      · intro b6
        try simp only [Bool.not_eq_true', Bool.not_eq_false', Bool.not_not] at b6
        refine ⟨?_, id, id, fun _ => rfl, fun _ => l_eqIntS_pc (lpL Size Sets Costs) (lpL Size Sets Costs), id, rfl, fun _ => rfl, ?_, id, id, rfl, fun _ => rfl, ?_, ?_, ?_⟩
        · refine laws_markSystem_g_pg (Sets.map List.length) Costs.length 1 ?_ ?_ ?_
          · first | omega | rfl | (intro hg; simp only [nrmT] at hg; omega) | (intro g1 g2; simp [g1, g2]; done) | (intro g1; simp at g1 ⊢; simp [g1]; done) | (simp only [nrmT] at *; omega) | (simp at * <;> omega) | (simp_all <;> omega) | (simp_all; done)
          · rw [List.length_map]; have hz := szSys_bound b2; omega
          · have hz := szSys_bound b2
            have hs := sum_lens20 (xss := Sets) (by omega) (fun xs hx => by have := hz.2.1 xs hx; omega)
            omega
        · first | omega | rfl | (intro hg; simp only [nrmT] at hg; omega) | (intro g1 g2; simp [g1, g2]; done) | (intro g1; simp at g1 ⊢; simp [g1]; done) | (simp only [nrmT] at *; omega) | (simp at * <;> omega) | (simp_all <;> omega) | (simp_all; done)
        · intro h; rw [h]; rfl
        · intro b7
          first | (exfalso; simp only [marks_len] at b7; omega) | (simp at b7; done) | (exfalso; simp only [marks_len] at b7; simp at b7; done) | omega | rfl | (intro hg; simp only [nrmT] at hg; omega) | (intro g1 g2; simp [g1, g2]; done) | (intro g1; simp at g1 ⊢; simp [g1]; done) | (simp only [nrmT] at *; omega) | (simp at * <;> omega) | (simp_all <;> omega) | (simp_all; done)
        · intro b8
          refine ⟨rfl, marks_len _ _, ?_, ?_, ?_, ?_, ?_⟩
          · refine laws_markIntS_w_px (lpL Size Sets Costs) 1 ?_ ?_
            · first | omega | rfl | (intro hg; simp only [nrmT] at hg; omega) | (intro g1 g2; simp [g1, g2]; done) | (intro g1; simp at g1 ⊢; simp [g1]; done) | (simp only [nrmT] at *; omega) | (simp at * <;> omega) | (simp_all <;> omega) | (simp_all; done)
            · have := @lpL_len Size Sets Costs
              omega
          · simp only [marks_len]
          · refine l_heldIntS_pc (marks 1 (lpL Size Sets Costs).length) 1 ?_ ?_ ?_
            · first | omega | rfl | (intro hg; simp only [nrmT] at hg; omega) | (intro g1 g2; simp [g1, g2]; done) | (intro g1; simp at g1 ⊢; simp [g1]; done) | (simp only [nrmT] at *; omega) | (simp at * <;> omega) | (simp_all <;> omega) | (simp_all; done)
            · simp only [marks_len]
            · simp only [marks_len]
              have := @lpL_len Size Sets Costs
              omega
          · intro b9
            try simp only [nrmT] at b9
            first | (exfalso; simp only [marks_len] at b9; omega) | (simp at b9; done) | (exfalso; simp only [marks_len] at b9; simp at b9; done) | omega | rfl | (intro hg; simp only [nrmT] at hg; omega) | (intro g1 g2; simp [g1, g2]; done) | (intro g1; simp at g1 ⊢; simp [g1]; done) | (simp only [nrmT] at *; omega) | (simp at * <;> omega) | (simp_all <;> omega) | (simp_all; done)
          · intro b10
            try simp only [nrmT] at b10
            refine ⟨?_, ?_⟩
            · intro b11
              try simp only [nrmT] at b11
              first | (exfalso; simp only [marks_len] at b11; omega) | (simp at b11; done) | (exfalso; simp only [marks_len] at b11; simp at b11; done) | omega | rfl | (intro hg; simp only [nrmT] at hg; omega) | (intro g1 g2; simp [g1, g2]; done) | (intro g1; simp at g1 ⊢; simp [g1]; done) | (simp only [nrmT] at *; omega) | (simp at * <;> omega) | (simp_all <;> omega) | (simp_all; done)
            · intro b12
              try simp only [nrmT] at b12
              refine ⟨?_, i_LargestPacking_pc Size Sets Costs, rfl, l_eqIntS_pc (lpL Size Sets Costs) (lpL Size Sets Costs), id, id, rfl, fun _ => rfl, ?_, ?_, ?_⟩
              · refine l_toSystem_pc Size Sets Costs ?_ ?_ ?_
                · have := szSys_bound b2; omega
                · have h := (szSys_bound b2).2.1
                  intro xs hx
                  have h := h xs hx
                  omega
                · have := szSys_bound b2; omega
              · intro h; rw [h]; rfl
              · intro b13
                first | (exfalso; simp only [marks_len] at b13; omega) | (simp at b13; done) | (exfalso; simp only [marks_len] at b13; simp at b13; done) | omega | rfl | (intro hg; simp only [nrmT] at hg; omega) | (intro g1 g2; simp [g1, g2]; done) | (intro g1; simp at g1 ⊢; simp [g1]; done) | (simp only [nrmT] at *; omega) | (simp at * <;> omega) | (simp_all <;> omega) | (simp_all; done)
              · intro b14
                refine ⟨?_, ?_, ?_, ?_⟩
                · simp only [marks_len]
                · refine l_heldIntS_pc (marks 1 (lpL Size Sets Costs).length) 1 ?_ ?_ ?_
                  · first | omega | rfl | (intro hg; simp only [nrmT] at hg; omega) | (intro g1 g2; simp [g1, g2]; done) | (intro g1; simp at g1 ⊢; simp [g1]; done) | (simp only [nrmT] at *; omega) | (simp at * <;> omega) | (simp_all <;> omega) | (simp_all; done)
                  · simp only [marks_len]
                  · simp only [marks_len]
                    have := @lpL_len Size Sets Costs
                    omega
                · intro b15
                  try simp only [nrmT] at b15
                  first | (exfalso; simp only [marks_len] at b15; omega) | (simp at b15; done) | (exfalso; simp only [marks_len] at b15; simp at b15; done) | omega | rfl | (intro hg; simp only [nrmT] at hg; omega) | (intro g1 g2; simp [g1, g2]; done) | (intro g1; simp at g1 ⊢; simp [g1]; done) | (simp only [nrmT] at *; omega) | (simp at * <;> omega) | (simp_all <;> omega) | (simp_all; done)
                · intro b16
                  try simp only [nrmT] at b16
                  refine ⟨?_, ?_⟩
                  · intro b17
                    try simp only [nrmT] at b17
                    first | (exfalso; simp only [marks_len] at b17; omega) | (simp at b17; done) | (exfalso; simp only [marks_len] at b17; simp at b17; done) | omega | rfl | (intro hg; simp only [nrmT] at hg; omega) | (intro g1 g2; simp [g1, g2]; done) | (intro g1; simp at g1 ⊢; simp [g1]; done) | (simp only [nrmT] at *; omega) | (simp at * <;> omega) | (simp_all <;> omega) | (simp_all; done)
                  · intro b18
                    try simp only [nrmT] at b18
                    exact rfl
theorem l_FnExactLargestPacking_pc (Size : Int) (Sets : List (List Int)) (Costs : List Int)  : PC Try.prog 12 [.agg [.int .i64 Size, .sl (.rows Sets), .sl (.ints Costs)]] (.one (.d (.bool true))) :=
  pc_wf @Try.call12 fun hw => pc_by (by kernel_rfl) Try.func12 @Try.call12 (by kernel_rfl) l_FnExactLargestPacking_C (l_FnExactLargestPacking_A Size Sets Costs) (by kernel_rfl) (l_FnExactLargestPacking_vc Size Sets Costs hw.1.2.1.1 hw.1.2.1.2 hw.1.2.2.1) (by kernel_rfl)
end Go.Proofs.Ytmmoejdglnnmcaa
