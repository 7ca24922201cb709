/- Contracts. -/
import Derived.Test.YtmcbcomcejgbcaaPw
import Derived.Test.YtmcbcomcejgbcaaProg
import Derived.Test.YtmcbcomcejgbcaaT7
import Derived.KernelRfl
set_option linter.unusedVariables false
set_option linter.unusedSimpArgs false
namespace Go.Proofs.Ytmcbcomcejgbcaa
open Go

abbrev slices_Index_int_int__JJ0 (xs : List Int) (x : Int) (i : Int) : Prop := (0 ≤ i) ∧ (i ≤ (xs.length : Int)) ∧ (∀ k, k < i.toNat → (fun y => x == y) (xs.getD k 0) = false)
abbrev slices_Index_int_int__mJ0 (xs : List Int) (x : Int) (i : Int) : Nat := (xs.length - i).toNat
def slices_Index_int_int__C (f : FuncId) (ds : List D) : Orc := .no
def slices_Index_int_int__A (xs : List Int) (x : Int) : Ann := .two (.none) (.two (.two (.none) (.loop (cut1 (fun (i : Int) => slices_Index_int_int__JJ0 xs x i) (fun (i : Int) => [(0, .d false (.sl (.ints xs))), (1, .d false (.int .i64 x)), (7, .d true (.int .i64 (xs.length : Int))), (8, .d true (.int .i64 i))]) (fun (i : Int) => [])) (fun g => slices_Index_int_int__mJ0 xs x g) (fun _ => .none))) (.none))
def slices_Index_int_int__P (xs : List Int) (x : Int) : Prop :=
  ((∃ i' : Int, (slices_Index_int_int__JJ0 xs x i') ∧ (xs = xs) ∧ (x = x) ∧ ((xs.length : Int) = (xs.length : Int)) ∧ ((0 : Int) = i')) ∧ (∀ i : Int, (slices_Index_int_int__JJ0 xs x i) → (((decide (i < (xs.length : Int))) = true → ((0 : Int) ≤ i) ∧ ((i : Int) < xs.length) ∧ (i.toNat < xs.length) ∧ (((x == (xs.getD i.toNat 0)) = true → ((i = (idxI (fun y => x == y) xs)))) ∧ ((x == (xs.getD i.toNat 0)) = false → (-9223372036854775808 ≤ (i + 1) ∧ (i + 1) ≤ 9223372036854775807) ∧ (∃ i' : Int, (slices_Index_int_int__JJ0 xs x i') ∧ (slices_Index_int_int__mJ0 xs x i' < slices_Index_int_int__mJ0 xs x i) ∧ (xs = xs) ∧ (x = x) ∧ ((xs.length : Int) = (xs.length : Int)) ∧ ((i + 1) = i'))))) ∧ ((decide (i < (xs.length : Int))) = false → ((((-1) : Int) = (idxI (fun y => x == y) xs)))))))
theorem slices_Index_int_int__vc (xs : List Int) (x : Int)  (w_xs : (xs.length : Int) ≤ 9223372036854775807) : slices_Index_int_int__P xs x := by
  unfold slices_Index_int_int__P
  refine ⟨?_, ?_⟩
  · refine ⟨0, ?_⟩
    refine ⟨?_, rfl, rfl, rfl, rfl⟩
    · refine ⟨?_, ?_, ?_⟩
      · first | omega | rfl | (intro hg; simp only [nrmT] at hg; omega) | (intro g1 g2; simp [g1, g2]; done) | (intro g1; simp at g1 ⊢; simp [g1]; done) | (simp only [nrmT] at *; omega) | (simp at * <;> omega) | (simp_all <;> omega) | (simp_all; done)
      · first | omega | rfl | (intro hg; simp only [nrmT] at hg; omega) | (intro g1 g2; simp [g1, g2]; done) | (intro g1; simp at g1 ⊢; simp [g1]; done) | (simp only [nrmT] at *; omega) | (simp at * <;> omega) | (simp_all <;> omega) | (simp_all; done)
      · first | omega | rfl | (intro hg; simp only [nrmT] at hg; omega) | (intro g1 g2; simp [g1, g2]; done) | (intro g1; simp at g1 ⊢; simp [g1]; done) | (simp only [nrmT] at *; omega) | (simp at * <;> omega) | (simp_all <;> omega) | (simp_all; done)
  · intro i hJ
    obtain ⟨h1, h2, h3⟩ := hJ
    refine ⟨?_, ?_⟩
    · intro b1
      try simp only [nrmT] at b1
      refine ⟨?_, ?_, ?_, ?_, ?_⟩
      · first | omega | rfl | (intro hg; simp only [nrmT] at hg; omega) | (intro g1 g2; simp [g1, g2]; done) | (intro g1; simp at g1 ⊢; simp [g1]; done) | (simp only [nrmT] at *; omega) | (simp at * <;> omega) | (simp_all <;> omega) | (simp_all; done)
      · first | omega | rfl | (intro hg; simp only [nrmT] at hg; omega) | (intro g1 g2; simp [g1, g2]; done) | (intro g1; simp at g1 ⊢; simp [g1]; done) | (simp only [nrmT] at *; omega) | (simp at * <;> omega) | (simp_all <;> omega) | (simp_all; done)
      · first | omega | rfl | (intro hg; simp only [nrmT] at hg; omega) | (intro g1 g2; simp [g1, g2]; done) | (intro g1; simp at g1 ⊢; simp [g1]; done) | (simp only [nrmT] at *; omega) | (simp at * <;> omega) | (simp_all <;> omega) | (simp_all; done)
      · intro b2
        try simp only [nrmT] at b2
        exact idx_found (p := fun y => x == y) h1 b1 h3 (by simpa using b2)
      · intro b3
        try simp only [nrmT] at b3
        refine ⟨?_, ?_⟩
        · first | omega | rfl | (intro hg; simp only [nrmT] at hg; omega) | (intro g1 g2; simp [g1, g2]; done) | (intro g1; simp at g1 ⊢; simp [g1]; done) | (simp only [nrmT] at *; omega) | (simp at * <;> omega) | (simp_all <;> omega) | (simp_all; done)
        · refine ⟨(i + 1), ?_⟩
          refine ⟨?_, ?_, rfl, rfl, rfl, rfl⟩
          · refine ⟨?_, ?_, ?_⟩
            · first | omega | rfl | (intro hg; simp only [nrmT] at hg; omega) | (intro g1 g2; simp [g1, g2]; done) | (intro g1; simp at g1 ⊢; simp [g1]; done) | (simp only [nrmT] at *; omega) | (simp at * <;> omega) | (simp_all <;> omega) | (simp_all; done)
            · first | omega | rfl | (intro hg; simp only [nrmT] at hg; omega) | (intro g1 g2; simp [g1, g2]; done) | (intro g1; simp at g1 ⊢; simp [g1]; done) | (simp only [nrmT] at *; omega) | (simp at * <;> omega) | (simp_all <;> omega) | (simp_all; done)
            · exact idx_step (p := fun y => x == y) h1 h3 (by simpa using b3)
          · first | (show _ < _; omega) | (simp only [slices_Index_int_int__mJ0]; omega) | (simp only [slices_Index_int_int__mJ0] at *; simp at *; omega)
    · intro b4
      try simp only [nrmT] at b4
      exact (idx_none (by omega) h3).symm
theorem slices_Index_int_int__pc (xs : List Int) (x : Int)  : PC Try.prog 144 [.sl (.ints xs), .int .i64 x] (.one (.d (.int .i64 (idxI (fun y => x == y) xs)))) :=
  pc_wf @Try.call144 fun hw => pc_by (by kernel_rfl) Try.func144 @Try.call144 (by kernel_rfl) slices_Index_int_int__C (slices_Index_int_int__A xs x) (by kernel_rfl) (slices_Index_int_int__vc xs x hw.1) (by kernel_rfl)
def slices_Index_int_int__orc : List D → Orc := orcN [some .ints, none] fun ds => match ds with
  | [.sl (.ints xs), .int .i64 x] => some (.one (.d (.int .i64 (idxI (fun y => x == y) xs))))
  | _ => none

def slices_Contains_int_int__C (f : FuncId) (ds : List D) : Orc := bif Nat.beq f 144 then slices_Index_int_int__orc ds else .no
def slices_Contains_int_int__A (xs : List Int) (x : Int) : Ann := .none
def slices_Contains_int_int__P (xs : List Int) (x : Int) : Prop :=
  (PC Try.prog 144 [.sl (.ints xs), .int .i64 x] (.one (.d (.int .i64 (idxI (fun y => x == y) xs))))) ∧ (((decide ((idxI (fun y => x == y) xs) ≥ 0)) = (xs.contains x)))
theorem slices_Contains_int_int__vc (xs : List Int) (x : Int)  (w_xs : (xs.length : Int) ≤ 9223372036854775807) : slices_Contains_int_int__P xs x := by
  unfold slices_Contains_int_int__P
  refine ⟨slices_Index_int_int__pc xs x, ?_⟩
  · rw [idx_any, List.contains_eq_any_beq]
theorem slices_Contains_int_int__pc (xs : List Int) (x : Int)  : PC Try.prog 166 [.sl (.ints xs), .int .i64 x] (.one (.d (.bool (xs.contains x)))) :=
  pc_wf @Try.call166 fun hw => pc_by (by kernel_rfl) Try.func166 @Try.call166 (by kernel_rfl) slices_Contains_int_int__C (slices_Contains_int_int__A xs x) (by kernel_rfl) (slices_Contains_int_int__vc xs x hw.1) (by kernel_rfl)
def slices_Contains_int_int__orc : List D → Orc := orcN [some .ints, none] fun ds => match ds with
  | [.sl (.ints xs), .int .i64 x] => some (.one (.d (.bool (xs.contains x))))
  | _ => none

theorem has_end {xs : List Int} {x i : Int} (h2 : (xs.length : Int) ≤ i) (h3 : ∀ k, k < i.toNat → (fun y => x == y) (xs.getD k 0) = false) : xs.contains x = false := by
  rw [List.contains_eq_any_beq, List.any_eq_false]
  intro y hy
  obtain ⟨k, hk, rfl⟩ := List.mem_iff_getElem.1 hy
  have := h3 k (by omega)
  simp [hk] at this
  simpa using this
theorem has_found {xs : List Int} {x i : Int} (h1 : 0 ≤ i) (h2 : i < (xs.length : Int)) (h : xs.getD i.toNat 0 = x) : xs.contains x = true := by
  rw [List.contains_iff_mem, ← h]; exact getD_memI h1 h2

abbrev s_l1Has_JJ0 (xs : List Int) (x : Int) (i : Int) : Prop := (0 ≤ i) ∧ (i ≤ (xs.length : Int)) ∧ (∀ k, k < i.toNat → (fun y => x == y) (xs.getD k 0) = false)
abbrev s_l1Has_mJ0 (xs : List Int) (x : Int) (i : Int) : Nat := (xs.length - i).toNat
def s_l1Has_C (f : FuncId) (ds : List D) : Orc := .no
def s_l1Has_A (xs : List Int) (x : Int) : Ann := .two (.none) (.two (.two (.none) (.loop (cut1 (fun (i : Int) => s_l1Has_JJ0 xs x i) (fun (i : Int) => [(0, .d false (.sl (.ints xs))), (1, .d false (.int .i64 x)), (5, .d true (.int .i64 i))]) (fun (i : Int) => [])) (fun g => s_l1Has_mJ0 xs x g) (fun _ => .none))) (.none))
def s_l1Has_P (xs : List Int) (x : Int) : Prop :=
  ((∃ i' : Int, (s_l1Has_JJ0 xs x i') ∧ (xs = xs) ∧ (x = x) ∧ ((0 : Int) = i')) ∧ (∀ i : Int, (s_l1Has_JJ0 xs x i) → (((decide (i < (xs.length : Int))) = true → ((0 : Int) ≤ i) ∧ ((i : Int) < xs.length) ∧ (i.toNat < xs.length) ∧ ((((xs.getD i.toNat 0) == x) = true → ((true = (xs.contains x)))) ∧ (((xs.getD i.toNat 0) == x) = false → (-9223372036854775808 ≤ (i + 1) ∧ (i + 1) ≤ 9223372036854775807) ∧ (∃ i' : Int, (s_l1Has_JJ0 xs x i') ∧ (s_l1Has_mJ0 xs x i' < s_l1Has_mJ0 xs x i) ∧ (xs = xs) ∧ (x = x) ∧ ((i + 1) = i'))))) ∧ ((decide (i < (xs.length : Int))) = false → ((false = (xs.contains x)))))))
theorem s_l1Has_vc (xs : List Int) (x : Int)  (w_xs : (xs.length : Int) ≤ 9223372036854775807) : s_l1Has_P xs x := by
  unfold s_l1Has_P
  refine ⟨?_, ?_⟩
  · refine ⟨0, ?_⟩
    refine ⟨?_, rfl, rfl, rfl⟩
    · refine ⟨?_, ?_, ?_⟩
      · first | omega | rfl | (intro hg; simp only [nrmT] at hg; omega) | (intro g1 g2; simp [g1, g2]; done) | (intro g1; simp at g1 ⊢; simp [g1]; done) | (simp only [nrmT] at *; omega) | (simp at * <;> omega) | (simp_all <;> omega) | (simp_all; done)
      · first | omega | rfl | (intro hg; simp only [nrmT] at hg; omega) | (intro g1 g2; simp [g1, g2]; done) | (intro g1; simp at g1 ⊢; simp [g1]; done) | (simp only [nrmT] at *; omega) | (simp at * <;> omega) | (simp_all <;> omega) | (simp_all; done)
      · first | omega | rfl | (intro hg; simp only [nrmT] at hg; omega) | (intro g1 g2; simp [g1, g2]; done) | (intro g1; simp at g1 ⊢; simp [g1]; done) | (simp only [nrmT] at *; omega) | (simp at * <;> omega) | (simp_all <;> omega) | (simp_all; done)
  · intro i hJ
    obtain ⟨h1, h2, h3⟩ := hJ
    refine ⟨?_, ?_⟩
    · intro b1
      try simp only [nrmT] at b1
      refine ⟨?_, ?_, ?_, ?_, ?_⟩
      · first | omega | rfl | (intro hg; simp only [nrmT] at hg; omega) | (intro g1 g2; simp [g1, g2]; done) | (intro g1; simp at g1 ⊢; simp [g1]; done) | (simp only [nrmT] at *; omega) | (simp at * <;> omega) | (simp_all <;> omega) | (simp_all; done)
      · first | omega | rfl | (intro hg; simp only [nrmT] at hg; omega) | (intro g1 g2; simp [g1, g2]; done) | (intro g1; simp at g1 ⊢; simp [g1]; done) | (simp only [nrmT] at *; omega) | (simp at * <;> omega) | (simp_all <;> omega) | (simp_all; done)
      · first | omega | rfl | (intro hg; simp only [nrmT] at hg; omega) | (intro g1 g2; simp [g1, g2]; done) | (intro g1; simp at g1 ⊢; simp [g1]; done) | (simp only [nrmT] at *; omega) | (simp at * <;> omega) | (simp_all <;> omega) | (simp_all; done)
      · intro b2
        try simp only [nrmT] at b2
        exact (has_found h1 b1 b2).symm
      · intro b3
        try simp only [nrmT] at b3
        refine ⟨?_, ?_⟩
        · first | omega | rfl | (intro hg; simp only [nrmT] at hg; omega) | (intro g1 g2; simp [g1, g2]; done) | (intro g1; simp at g1 ⊢; simp [g1]; done) | (simp only [nrmT] at *; omega) | (simp at * <;> omega) | (simp_all <;> omega) | (simp_all; done)
        · refine ⟨(i + 1), ?_⟩
          refine ⟨?_, ?_, rfl, rfl, rfl⟩
          · refine ⟨?_, ?_, ?_⟩
            · first | omega | rfl | (intro hg; simp only [nrmT] at hg; omega) | (intro g1 g2; simp [g1, g2]; done) | (intro g1; simp at g1 ⊢; simp [g1]; done) | (simp only [nrmT] at *; omega) | (simp at * <;> omega) | (simp_all <;> omega) | (simp_all; done)
            · first | omega | rfl | (intro hg; simp only [nrmT] at hg; omega) | (intro g1 g2; simp [g1, g2]; done) | (intro g1; simp at g1 ⊢; simp [g1]; done) | (simp only [nrmT] at *; omega) | (simp at * <;> omega) | (simp_all <;> omega) | (simp_all; done)
            · exact idx_step (p := fun y => x == y) h1 h3 (by simp only [beq_eq_false_iff_ne]; exact fun h => b3 h.symm)
          · first | (show _ < _; omega) | (simp only [s_l1Has_mJ0]; omega) | (simp only [s_l1Has_mJ0] at *; simp at *; omega)
    · intro b4
      try simp only [nrmT] at b4
      exact (has_end (by omega) h3).symm
theorem s_l1Has_pc (xs : List Int) (x : Int)  : PC Try.prog 168 [.sl (.ints xs), .int .i64 x] (.one (.d (.bool (xs.contains x)))) :=
  pc_wf @Try.call168 fun hw => pc_by (by kernel_rfl) Try.func168 @Try.call168 (by kernel_rfl) s_l1Has_C (s_l1Has_A xs x) (by kernel_rfl) (s_l1Has_vc xs x hw.1) (by kernel_rfl)
def s_l1Has_orc : List D → Orc := orcN [some .ints, none] fun ds => match ds with
  | [.sl (.ints xs), .int .i64 x] => some (.one (.d (.bool (xs.contains x))))
  | _ => none

def newAt (set cov : List Int) (k : Nat) : Int := if cov.contains (set.getD k 0) then 0 else 1
def newOf (set cov : List Int) : Int := sumTo (newAt set cov) set.length
theorem newTo_bound {set cov : List Int} (k : Nat) : 0 ≤ sumTo (newAt set cov) k ∧ sumTo (newAt set cov) k ≤ 1 * k := sumTo_bound k fun j _ => by unfold newAt; split <;> omega
theorem newTo_all {set cov : List Int} : ∀ k, sumTo (newAt set cov) k = k ↔ ∀ j, j < k → cov.contains (set.getD j 0) = false
  | 0 => by simp [sumTo, foldTo]
  | k + 1 => by
    have e : sumTo (newAt set cov) (k + 1) = sumTo (newAt set cov) k + newAt set cov k := rfl
    have b := newTo_bound (set := set) (cov := cov) k
    have ih := newTo_all (set := set) (cov := cov) k
    rw [e]
    cases hc : cov.contains (set.getD k 0) with
    | true =>
      have e2 : newAt set cov k = 0 := by unfold newAt; rw [hc]; rfl
      rw [e2]
      constructor
      · intro h; omega
      · intro h
        have := h k (Nat.lt_succ_self k)
        rw [hc] at this; cases this
    | false =>
      have e2 : newAt set cov k = 1 := by unfold newAt; rw [hc]; rfl
      rw [e2]
      constructor
      · intro h j hj
        have h3 := ih.1 (by omega)
        by_cases ej : j = k
        · rw [ej]; exact hc
        · exact h3 j (by omega)
      · intro h
        have := ih.2 fun j hj => h j (by omega)
        omega
def hitsB (Sets : List (List Int)) (els : List Int) : Bool := allTo (fun i => !(newOf (Sets.getD i []) els == ((Sets.getD i []).length : Int))) Sets.length
def turnAt (Sets : List (List Int)) (x : Nat) : List Int := members (fun k => (Sets.getD k []).contains (x : Int)) Sets.length
def turnR (Sets : List (List Int)) (n : Nat) : List (List Int) := tabTo (turnAt Sets) n
theorem turn_get {Sets : List (List Int)} {n x : Nat} (h : x < n) : (turnR Sets n).getD x [] = turnAt Sets x := tabTo_get h
theorem hits_turn {Size : Int} {Sets : List (List Int)} {els : List Int} (he : rising els 0 (Size - 1) = true) : coverB (Sets.length : Int) (turnR Sets Size.toNat) els = hitsB Sets els := by
  unfold coverB hitsB
  rw [Int.toNat_natCast]
  refine allTo_congr fun k hk => ?_
  rw [Bool.eq_iff_iff, Bool.not_eq_true', beq_eq_false_iff_ne, covB_iff]
  unfold newOf
  rw [Ne, newTo_all]
  constructor
  · rintro ⟨j, h1, h2⟩ h3
    have h4 := rising_at he j h1
    rw [turn_get (by omega), turnAt, mem_members] at h2
    have h5 := h2.2.2
    rw [List.contains_iff_mem, Int.toNat_natCast, show (((els.getD j 0).toNat : Nat) : Int) = els.getD j 0 by omega] at h5
    obtain ⟨i, hi, h6⟩ := List.mem_iff_getElem.1 h5
    have h7 := h3 i hi
    rw [getD_get hi, h6] at h7
    have h8 : els.contains (els.getD j 0) = true := by rw [List.contains_iff_mem]; exact getD_mem h1
    rw [h7] at h8; cases h8
  · intro h
    have h2 : ∃ i, i < (Sets.getD k []).length ∧ els.contains ((Sets.getD k []).getD i 0) = true := by
      apply Classical.byContradiction
      intro h3
      refine h fun i hi => ?_
      cases hc : els.contains ((Sets.getD k []).getD i 0) with
      | false => rfl
      | true => exact absurd ⟨i, hi, hc⟩ h3
    obtain ⟨i, hi, h4⟩ := h2
    rw [List.contains_iff_mem] at h4
    obtain ⟨j, hj, h5⟩ := List.mem_iff_getElem.1 h4
    have h6 := rising_at he j hj
    refine ⟨j, hj, ?_⟩
    rw [turn_get (by omega), turnAt, mem_members]
    refine ⟨by omega, by omega, ?_⟩
    rw [List.contains_iff_mem, Int.toNat_natCast, show (((els.getD j 0).toNat : Nat) : Int) = els.getD j 0 by omega, getD_get hj, h5]
    exact getD_mem hi
theorem rising_asc {l : List Int} {lo hi : Int} (h : Asc l) (hb : ∀ x ∈ l, lo ≤ x ∧ x ≤ hi) : rising l lo hi = true := by
  unfold rising
  rw [allTo_iff]
  intro k hk
  unfold risingP
  simp only [Bool.and_eq_true, Bool.or_eq_true, decide_eq_true_eq]
  have h1 := hb _ (getD_mem (d := 0) hk)
  refine ⟨decide_eq_true h1, ?_⟩
  by_cases e : k = 0
  · exact .inl e
  · refine .inr ?_
    have h2 := List.pairwise_iff_getElem.1 h (k - 1) k (by omega) hk (by omega)
    rw [getD_get hk, getD_get (show k - 1 < l.length by omega)]
    exact h2
theorem turn_good {Size : Int} {Sets : List (List Int)} {Costs : List Int} (h : goodSys Size Sets Costs = true) : goodSys (Sets.length : Int) (turnR Sets Size.toNat) (List.replicate Size.toNat 1) = true := by
  have gf := gs_facts h
  have hl : (turnR Sets Size.toNat).length = Size.toNat := tabTo_len _ _
  simp only [goodSys, Bool.and_eq_true, decide_eq_true_eq]
  refine ⟨⟨⟨⟨decide_eq_true (by omega), by omega⟩, by rw [hl]; simp⟩, ?_⟩, ?_⟩
  · rw [List.all_eq_true]
    intro x hx
    rw [(List.mem_replicate.1 hx).2]
    rfl
  · rw [List.all_eq_true]
    intro l hl2
    obtain ⟨k, hk, rfl⟩ := List.mem_iff_getElem.1 hl2
    rw [← getD_get (d := []) hk, turn_get (by omega)]
    refine rising_asc (asc_members _ _) fun x hx => ?_
    have := mem_members.1 hx
    omega

abbrev s_l6New_JJ0 (set : List Int) (cov : List Int) (out : Int) (i : Int) : Prop := (0 ≤ i) ∧ (i ≤ (set.length : Int)) ∧ (out = sumTo (newAt set cov) i.toNat)
abbrev s_l6New_mJ0 (set : List Int) (cov : List Int) (out : Int) (i : Int) : Nat := (set.length - i).toNat
def s_l6New_C (f : FuncId) (ds : List D) : Orc := bif Nat.beq f 168 then s_l1Has_orc ds else .no
def s_l6New_A (set : List Int) (cov : List Int) : Ann := .two (.none) (.two (.none) (.two (.two (.none) (.loop (cut2 (fun (out : Int) (i : Int) => s_l6New_JJ0 set cov out i) (fun (out : Int) (i : Int) => [(0, .d false (.sl (.ints set))), (1, .d false (.sl (.ints cov))), (5, .d true (.int .i64 out)), (6, .d true (.int .i64 i))]) (fun (out : Int) (i : Int) => [])) (fun g => s_l6New_mJ0 set cov g.1 g.2) (fun _ => .none))) (.none)))
def s_l6New_P (set : List Int) (cov : List Int) : Prop :=
  ((∃ out' : Int, ∃ i' : Int, (s_l6New_JJ0 set cov out' i') ∧ (set = set) ∧ (cov = cov) ∧ ((0 : Int) = out') ∧ ((0 : Int) = i')) ∧ (∀ out : Int, ∀ i : Int, (s_l6New_JJ0 set cov out i) → (((decide (i < (set.length : Int))) = true → ((0 : Int) ≤ i) ∧ ((i : Int) < set.length) ∧ (i.toNat < set.length) ∧ (PC Try.prog 168 [.sl (.ints cov), .int .i64 (set.getD i.toNat 0)] (.one (.d (.bool (cov.contains (set.getD i.toNat 0)))))) ∧ (((!(cov.contains (set.getD i.toNat 0))) = true → (-9223372036854775808 ≤ (out + 1) ∧ (out + 1) ≤ 9223372036854775807) ∧ (-9223372036854775808 ≤ (i + 1) ∧ (i + 1) ≤ 9223372036854775807) ∧ (∃ out' : Int, ∃ i' : Int, (s_l6New_JJ0 set cov out' i') ∧ (s_l6New_mJ0 set cov out' i' < s_l6New_mJ0 set cov out i) ∧ (set = set) ∧ (cov = cov) ∧ ((out + 1) = out') ∧ ((i + 1) = i'))) ∧ ((!(cov.contains (set.getD i.toNat 0))) = false → (-9223372036854775808 ≤ (i + 1) ∧ (i + 1) ≤ 9223372036854775807) ∧ (∃ out' : Int, ∃ i' : Int, (s_l6New_JJ0 set cov out' i') ∧ (s_l6New_mJ0 set cov out' i' < s_l6New_mJ0 set cov out i) ∧ (set = set) ∧ (cov = cov) ∧ (out = out') ∧ ((i + 1) = i'))))) ∧ ((decide (i < (set.length : Int))) = false → ((out = (newOf set cov)))))))
theorem s_l6New_vc (set : List Int) (cov : List Int)  (w_set : (set.length : Int) ≤ 9223372036854775807) (w_cov : (cov.length : Int) ≤ 9223372036854775807) : s_l6New_P set cov := by
  unfold s_l6New_P
  refine ⟨?_, ?_⟩
  · refine ⟨0, 0, ?_⟩
    refine ⟨?_, rfl, rfl, rfl, rfl⟩
    · refine ⟨?_, ?_, ?_⟩
      · first | omega | rfl | (intro hg; simp only [nrmT] at hg; omega) | (intro g1 g2; simp [g1, g2]; done) | (intro g1; simp at g1 ⊢; simp [g1]; done) | (simp only [nrmT] at *; omega) | (simp at * <;> omega) | (simp_all <;> omega) | (simp_all; done)
      · first | omega | rfl | (intro hg; simp only [nrmT] at hg; omega) | (intro g1 g2; simp [g1, g2]; done) | (intro g1; simp at g1 ⊢; simp [g1]; done) | (simp only [nrmT] at *; omega) | (simp at * <;> omega) | (simp_all <;> omega) | (simp_all; done)
      · first | omega | rfl | (intro hg; simp only [nrmT] at hg; omega) | (intro g1 g2; simp [g1, g2]; done) | (intro g1; simp at g1 ⊢; simp [g1]; done) | (simp only [nrmT] at *; omega) | (simp at * <;> omega) | (simp_all <;> omega) | (simp_all; done)
  · intro out i hJ
    obtain ⟨h1, h2, h3⟩ := hJ
    refine ⟨?_, ?_⟩
    · intro b1
      try simp only [nrmT] at b1
      refine ⟨?_, ?_, ?_, s_l1Has_pc cov (set.getD i.toNat 0), ?_, ?_⟩
      · first | omega | rfl | (intro hg; simp only [nrmT] at hg; omega) | (intro g1 g2; simp [g1, g2]; done) | (intro g1; simp at g1 ⊢; simp [g1]; done) | (simp only [nrmT] at *; omega) | (simp at * <;> omega) | (simp_all <;> omega) | (simp_all; done)
      · first | omega | rfl | (intro hg; simp only [nrmT] at hg; omega) | (intro g1 g2; simp [g1, g2]; done) | (intro g1; simp at g1 ⊢; simp [g1]; done) | (simp only [nrmT] at *; omega) | (simp at * <;> omega) | (simp_all <;> omega) | (simp_all; done)
      · first | omega | rfl | (intro hg; simp only [nrmT] at hg; omega) | (intro g1 g2; simp [g1, g2]; done) | (intro g1; simp at g1 ⊢; simp [g1]; done) | (simp only [nrmT] at *; omega) | (simp at * <;> omega) | (simp_all <;> omega) | (simp_all; done)
      · intro b2
        try simp only [nrmT] at b2
        refine ⟨?_, ?_, ?_⟩
        · have := newTo_bound (set := set) (cov := cov) i.toNat
          omega
        · first | omega | rfl | (intro hg; simp only [nrmT] at hg; omega) | (intro g1 g2; simp [g1, g2]; done) | (intro g1; simp at g1 ⊢; simp [g1]; done) | (simp only [nrmT] at *; omega) | (simp at * <;> omega) | (simp_all <;> omega) | (simp_all; done)
        · refine ⟨(out + 1), (i + 1), ?_⟩
          refine ⟨?_, ?_, rfl, rfl, rfl, rfl⟩
          · refine ⟨?_, ?_, ?_⟩
            · first | omega | rfl | (intro hg; simp only [nrmT] at hg; omega) | (intro g1 g2; simp [g1, g2]; done) | (intro g1; simp at g1 ⊢; simp [g1]; done) | (simp only [nrmT] at *; omega) | (simp at * <;> omega) | (simp_all <;> omega) | (simp_all; done)
            · first | omega | rfl | (intro hg; simp only [nrmT] at hg; omega) | (intro g1 g2; simp [g1, g2]; done) | (intro g1; simp at g1 ⊢; simp [g1]; done) | (simp only [nrmT] at *; omega) | (simp at * <;> omega) | (simp_all <;> omega) | (simp_all; done)
            · rw [sumTo_step h1, h3]
              unfold newAt
              rw [b2]
              rfl
          · first | (show _ < _; omega) | (simp only [s_l6New_mJ0]; omega) | (simp only [s_l6New_mJ0] at *; simp at *; omega)
      · intro b3
        try simp only [nrmT] at b3
        refine ⟨?_, ?_⟩
        · first | omega | rfl | (intro hg; simp only [nrmT] at hg; omega) | (intro g1 g2; simp [g1, g2]; done) | (intro g1; simp at g1 ⊢; simp [g1]; done) | (simp only [nrmT] at *; omega) | (simp at * <;> omega) | (simp_all <;> omega) | (simp_all; done)
        · refine ⟨out, (i + 1), ?_⟩
          refine ⟨?_, ?_, rfl, rfl, rfl, rfl⟩
          · refine ⟨?_, ?_, ?_⟩
            · first | omega | rfl | (intro hg; simp only [nrmT] at hg; omega) | (intro g1 g2; simp [g1, g2]; done) | (intro g1; simp at g1 ⊢; simp [g1]; done) | (simp only [nrmT] at *; omega) | (simp at * <;> omega) | (simp_all <;> omega) | (simp_all; done)
            · first | omega | rfl | (intro hg; simp only [nrmT] at hg; omega) | (intro g1 g2; simp [g1, g2]; done) | (intro g1; simp at g1 ⊢; simp [g1]; done) | (simp only [nrmT] at *; omega) | (simp at * <;> omega) | (simp_all <;> omega) | (simp_all; done)
            · rw [sumTo_step h1, h3]
              unfold newAt
              rw [b3]
              exact (Int.add_zero _).symm
          · first | (show _ < _; omega) | (simp only [s_l6New_mJ0]; omega) | (simp only [s_l6New_mJ0] at *; simp at *; omega)
    · intro b4
      try simp only [nrmT] at b4
      unfold newOf
      rw [h3, show i.toNat = set.length by omega]
theorem s_l6New_pc (set : List Int) (cov : List Int)  : PC Try.prog 165 [.sl (.ints set), .sl (.ints cov)] (.one (.d (.int .i64 (newOf set cov)))) :=
  pc_wf @Try.call165 fun hw => pc_by (by kernel_rfl) Try.func165 @Try.call165 (by kernel_rfl) s_l6New_C (s_l6New_A set cov) (by kernel_rfl) (s_l6New_vc set cov hw.1 hw.2.1) (by kernel_rfl)
def s_l6New_orc : List D → Orc := orcN [some .ints, some .ints] fun ds => match ds with
  | [.sl (.ints set), .sl (.ints cov)] => some (.one (.d (.int .i64 (newOf set cov))))
  | _ => none

abbrev s_l6Hits_JJ0 (Size : Int) (Sets : List (List Int)) (Costs : List Int) (els : List Int) (i : Int) : Prop := (0 ≤ i) ∧ (i ≤ (Sets.length : Int)) ∧ (allTo (fun i => !(newOf (Sets.getD i []) els == ((Sets.getD i []).length : Int))) i.toNat = true)
abbrev s_l6Hits_mJ0 (Size : Int) (Sets : List (List Int)) (Costs : List Int) (els : List Int) (i : Int) : Nat := (Sets.length - i).toNat
def s_l6Hits_C (f : FuncId) (ds : List D) : Orc := bif Nat.beq f 165 then s_l6New_orc ds else .no
def s_l6Hits_A (Size : Int) (Sets : List (List Int)) (Costs : List Int) (els : List Int) : Ann := .two (.none) (.two (.two (.none) (.loop (cut1 (fun (i : Int) => s_l6Hits_JJ0 Size Sets Costs els i) (fun (i : Int) => [(1, .d false (.sl (.ints els))), (2, .ptr 2 0), (5, .d true (.int .i64 i))]) (fun (i : Int) => [(2, .box 31 [.d false (.int .i64 Size), .d false (.sl (.rows Sets)), .d false (.sl (.ints Costs))])])) (fun g => s_l6Hits_mJ0 Size Sets Costs els g) (fun _ => .none))) (.none))
def s_l6Hits_P (Size : Int) (Sets : List (List Int)) (Costs : List Int) (els : List Int) : Prop :=
  ((∃ i' : Int, (s_l6Hits_JJ0 Size Sets Costs els i') ∧ (els = els) ∧ ((0 : Int) = i') ∧ (Size = Size) ∧ (Sets = Sets) ∧ (Costs = Costs)) ∧ (∀ i : Int, (s_l6Hits_JJ0 Size Sets Costs els i) → (((decide (i < (Sets.length : Int))) = true → (true = true) ∧ ((0 : Int) ≤ i) ∧ ((i : Int) < Sets.length) ∧ (i.toNat < Sets.length) ∧ (PC Try.prog 165 [.sl (.ints (Sets.getD i.toNat [])), .sl (.ints els)] (.one (.d (.int .i64 (newOf (Sets.getD i.toNat []) els))))) ∧ ((0 : Int) ≤ i) ∧ ((i : Int) < Sets.length) ∧ (i.toNat < Sets.length) ∧ ((((newOf (Sets.getD i.toNat []) els) == (((Sets.getD i.toNat []).length) : Int)) = true → ((false = (hitsB Sets els)))) ∧ (((newOf (Sets.getD i.toNat []) els) == (((Sets.getD i.toNat []).length) : Int)) = false → (-9223372036854775808 ≤ (i + 1) ∧ (i + 1) ≤ 9223372036854775807) ∧ (∃ i' : Int, (s_l6Hits_JJ0 Size Sets Costs els i') ∧ (s_l6Hits_mJ0 Size Sets Costs els i' < s_l6Hits_mJ0 Size Sets Costs els i) ∧ (els = els) ∧ ((i + 1) = i') ∧ (Size = Size) ∧ (Sets = Sets) ∧ (Costs = Costs))))) ∧ ((decide (i < (Sets.length : Int))) = false → ((true = (hitsB Sets els)))))))
theorem s_l6Hits_vc (Size : Int) (Sets : List (List Int)) (Costs : List Int) (els : List Int)  (w_Sets : (Sets.length : Int) ≤ 9223372036854775807) (v_Sets : ∀ x9 ∈ Sets, (x9.length : Int) ≤ 9223372036854775807) (w_Costs : (Costs.length : Int) ≤ 9223372036854775807) (w_els : (els.length : Int) ≤ 9223372036854775807) : s_l6Hits_P Size Sets Costs els := by
  unfold s_l6Hits_P
  refine ⟨?_, ?_⟩
  · refine ⟨0, ?_⟩
    refine ⟨?_, rfl, rfl, rfl, rfl, rfl⟩
    · refine ⟨?_, ?_, ?_⟩
      · first | omega | rfl | (intro hg; simp only [nrmT] at hg; omega) | (intro g1 g2; simp [g1, g2]; done) | (intro g1; simp at g1 ⊢; simp [g1]; done) | (simp only [nrmT] at *; omega) | (simp at * <;> omega) | (simp_all <;> omega) | (simp_all; done)
      · first | omega | rfl | (intro hg; simp only [nrmT] at hg; omega) | (intro g1 g2; simp [g1, g2]; done) | (intro g1; simp at g1 ⊢; simp [g1]; done) | (simp only [nrmT] at *; omega) | (simp at * <;> omega) | (simp_all <;> omega) | (simp_all; done)
      · first | omega | rfl | (intro hg; simp only [nrmT] at hg; omega) | (intro g1 g2; simp [g1, g2]; done) | (intro g1; simp at g1 ⊢; simp [g1]; done) | (simp only [nrmT] at *; omega) | (simp at * <;> omega) | (simp_all <;> omega) | (simp_all; done)
  · intro i hJ
    obtain ⟨h1, h2, h3⟩ := hJ
    refine ⟨?_, ?_⟩
    · intro b1
      try simp only [nrmT] at b1
      refine ⟨rfl, ?_, ?_, ?_, s_l6New_pc (Sets.getD i.toNat []) els, ?_, ?_, ?_, ?_, ?_⟩
      · first | omega | rfl | (intro hg; simp only [nrmT] at hg; omega) | (intro g1 g2; simp [g1, g2]; done) | (intro g1; simp at g1 ⊢; simp [g1]; done) | (simp only [nrmT] at *; omega) | (simp at * <;> omega) | (simp_all <;> omega) | (simp_all; done)
      · first | omega | rfl | (intro hg; simp only [nrmT] at hg; omega) | (intro g1 g2; simp [g1, g2]; done) | (intro g1; simp at g1 ⊢; simp [g1]; done) | (simp only [nrmT] at *; omega) | (simp at * <;> omega) | (simp_all <;> omega) | (simp_all; done)
      · first | omega | rfl | (intro hg; simp only [nrmT] at hg; omega) | (intro g1 g2; simp [g1, g2]; done) | (intro g1; simp at g1 ⊢; simp [g1]; done) | (simp only [nrmT] at *; omega) | (simp at * <;> omega) | (simp_all <;> omega) | (simp_all; done)
      · first | omega | rfl | (intro hg; simp only [nrmT] at hg; omega) | (intro g1 g2; simp [g1, g2]; done) | (intro g1; simp at g1 ⊢; simp [g1]; done) | (simp only [nrmT] at *; omega) | (simp at * <;> omega) | (simp_all <;> omega) | (simp_all; done)
      · first | omega | rfl | (intro hg; simp only [nrmT] at hg; omega) | (intro g1 g2; simp [g1, g2]; done) | (intro g1; simp at g1 ⊢; simp [g1]; done) | (simp only [nrmT] at *; omega) | (simp at * <;> omega) | (simp_all <;> omega) | (simp_all; done)
      · first | omega | rfl | (intro hg; simp only [nrmT] at hg; omega) | (intro g1 g2; simp [g1, g2]; done) | (intro g1; simp at g1 ⊢; simp [g1]; done) | (simp only [nrmT] at *; omega) | (simp at * <;> omega) | (simp_all <;> omega) | (simp_all; done)
      · intro b2
        try simp only [nrmT] at b2
        exact (allTo_falseI h1 (by omega) (by rw [Bool.not_eq_false', beq_iff_eq]; exact b2)).symm
      · intro b3
        try simp only [nrmT] at b3
        refine ⟨?_, ?_⟩
        · first | omega | rfl | (intro hg; simp only [nrmT] at hg; omega) | (intro g1 g2; simp [g1, g2]; done) | (intro g1; simp at g1 ⊢; simp [g1]; done) | (simp only [nrmT] at *; omega) | (simp at * <;> omega) | (simp_all <;> omega) | (simp_all; done)
        · refine ⟨(i + 1), ?_⟩
          refine ⟨?_, ?_, rfl, rfl, rfl, rfl, rfl⟩
          · refine ⟨?_, ?_, ?_⟩
            · first | omega | rfl | (intro hg; simp only [nrmT] at hg; omega) | (intro g1 g2; simp [g1, g2]; done) | (intro g1; simp at g1 ⊢; simp [g1]; done) | (simp only [nrmT] at *; omega) | (simp at * <;> omega) | (simp_all <;> omega) | (simp_all; done)
            · first | omega | rfl | (intro hg; simp only [nrmT] at hg; omega) | (intro g1 g2; simp [g1, g2]; done) | (intro g1; simp at g1 ⊢; simp [g1]; done) | (simp only [nrmT] at *; omega) | (simp at * <;> omega) | (simp_all <;> omega) | (simp_all; done)
            · exact allTo_step h1 h3 (by rw [Bool.not_eq_true', beq_eq_false_iff_ne]; exact b3)
          · first | (show _ < _; omega) | (simp only [s_l6Hits_mJ0]; omega) | (simp only [s_l6Hits_mJ0] at *; simp at *; omega)
    · intro b4
      try simp only [nrmT] at b4
      unfold hitsB
      rw [← h3]; congr 1; omega
theorem s_l6Hits_pc (Size : Int) (Sets : List (List Int)) (Costs : List Int) (els : List Int)  : PC Try.prog 128 [.agg [.int .i64 Size, .sl (.rows Sets), .sl (.ints Costs)], .sl (.ints els)] (.one (.d (.bool (hitsB Sets els)))) :=
  pc_wf @Try.call128 fun hw => pc_by (by kernel_rfl) Try.func128 @Try.call128 (by kernel_rfl) s_l6Hits_C (s_l6Hits_A Size Sets Costs els) (by kernel_rfl) (s_l6Hits_vc Size Sets Costs els hw.1.2.1.1 hw.1.2.1.2 hw.1.2.2.1 hw.2.1) (by kernel_rfl)
def s_l6Hits_orc : List D → Orc := orcN [none, some .ints] fun ds => match ds with
  | [.agg [.int .i64 Size, .sl (.rows Sets), .sl (.ints Costs)], .sl (.ints els)] => some (.one (.d (.bool (hitsB Sets els))))
  | _ => none

def s_IsHitting_C (f : FuncId) (ds : List D) : Orc := bif Nat.beq f 85 then s_l6Good_orc ds else bif Nat.beq f 119 then s_l1Rising_orc ds else bif Nat.beq f 128 then s_l6Hits_orc ds else .no
def s_IsHitting_A (Size : Int) (Sets : List (List Int)) (Costs : List Int) (els : List Int) : Ann := .none
def s_IsHitting_P (Size : Int) (Sets : List (List Int)) (Costs : List Int) (els : List Int) : Prop :=
  (PC Try.prog 85 [.agg [.int .i64 Size, .sl (.rows Sets), .sl (.ints Costs)]] (.one (.d (.bool (goodSys Size Sets Costs))))) ∧ ((!(!(goodSys Size Sets Costs))) = true → (!(!(goodSys Size Sets Costs))) = true) ∧ ((!(!(goodSys Size Sets Costs))) = true → (!(!(goodSys Size Sets Costs))) = true) ∧ (((!(!(goodSys Size Sets Costs))) = true → -9223372036854775808 ≤ (Size - 1) ∧ (Size - 1) ≤ 9223372036854775807)) ∧ ((!(!(goodSys Size Sets Costs))) = true → (!(!(goodSys Size Sets Costs))) = true) ∧ ((!(!(goodSys Size Sets Costs))) = true → (!(!(goodSys Size Sets Costs))) = true) ∧ ((!(!(goodSys Size Sets Costs))) = true → PC Try.prog 119 [.sl (.ints els), .int .i64 0, .int .i64 (Size - 1)] (.one (.d (.bool (rising els 0 (Size - 1)))))) ∧ ((!(!(goodSys Size Sets Costs))) = true → (!(!(goodSys Size Sets Costs))) = true) ∧ (true = true) ∧ (((!(goodSys Size Sets Costs)) = true → true = true)) ∧ (((!(goodSys Size Sets Costs)) = false → (!(!(goodSys Size Sets Costs))) = true)) ∧ (((cond (!(goodSys Size Sets Costs)) true (!(rising els 0 (Size - 1)))) = true → ((false = ((goodSys Size Sets Costs && rising els 0 (Size - 1)) && hitsB Sets els)) ∧ (false = (goodSys Size Sets Costs && rising els 0 (Size - 1))))) ∧ ((cond (!(goodSys Size Sets Costs)) true (!(rising els 0 (Size - 1)))) = false → (PC Try.prog 128 [.agg [.int .i64 Size, .sl (.rows Sets), .sl (.ints Costs)], .sl (.ints els)] (.one (.d (.bool (hitsB Sets els))))) ∧ (((hitsB Sets els) = ((goodSys Size Sets Costs && rising els 0 (Size - 1)) && hitsB Sets els)) ∧ (true = (goodSys Size Sets Costs && rising els 0 (Size - 1))))))
theorem s_IsHitting_vc (Size : Int) (Sets : List (List Int)) (Costs : List Int) (els : List Int)  (w_Sets : (Sets.length : Int) ≤ 9223372036854775807) (v_Sets : ∀ x9 ∈ Sets, (x9.length : Int) ≤ 9223372036854775807) (w_Costs : (Costs.length : Int) ≤ 9223372036854775807) (w_els : (els.length : Int) ≤ 9223372036854775807) : s_IsHitting_P Size Sets Costs els := by
  unfold s_IsHitting_P
  refine ⟨s_l6Good_pc Size Sets Costs, id, id, ?_, id, id, fun _ => s_l1Rising_pc els 0 (Size - 1), id, rfl, fun _ => rfl, ?_, ?_, ?_⟩
  · intro hg; simp only [Bool.not_not] at hg; have := gs_facts hg; omega
  · first | omega | rfl | (intro hg; simp only [nrmT] at hg; omega) | (intro g1 g2; simp [g1, g2]; done) | (intro g1; simp at g1 ⊢; simp [g1]; done) | (simp only [nrmT] at *; omega) | (simp at * <;> omega) | (simp_all <;> omega) | (simp_all; done)
  · intro b1
    refine ⟨?_, ?_⟩
    · have hq : (goodSys Size Sets Costs && rising els 0 (Size - 1)) = false := by
        revert b1; cases goodSys Size Sets Costs <;> cases rising els 0 (Size - 1) <;> simp
      rw [hq]; rfl
    · have hq : (goodSys Size Sets Costs && rising els 0 (Size - 1)) = false := by
        revert b1; cases goodSys Size Sets Costs <;> cases rising els 0 (Size - 1) <;> simp
      exact hq.symm
  · intro b2
    refine ⟨s_l6Hits_pc Size Sets Costs els, ?_, ?_⟩
    · have hq : goodSys Size Sets Costs = true ∧ rising els 0 (Size - 1) = true := by
        revert b2; cases goodSys Size Sets Costs <;> cases rising els 0 (Size - 1) <;> simp
      rw [hq.1, hq.2]; rfl
    · have hq : goodSys Size Sets Costs = true ∧ rising els 0 (Size - 1) = true := by
        revert b2; cases goodSys Size Sets Costs <;> cases rising els 0 (Size - 1) <;> simp
      rw [hq.1, hq.2]; rfl
theorem s_IsHitting_pc (Size : Int) (Sets : List (List Int)) (Costs : List Int) (els : List Int)  : PC Try.prog 65 [.agg [.int .i64 Size, .sl (.rows Sets), .sl (.ints Costs)], .sl (.ints els)] (.tup [.d (.bool ((goodSys Size Sets Costs && rising els 0 (Size - 1)) && hitsB Sets els)), .d (.bool (goodSys Size Sets Costs && rising els 0 (Size - 1)))]) :=
  pc_wf @Try.call65 fun hw => pc_by (by kernel_rfl) Try.func65 @Try.call65 (by kernel_rfl) s_IsHitting_C (s_IsHitting_A Size Sets Costs els) (by kernel_rfl) (s_IsHitting_vc Size Sets Costs els hw.1.2.1.1 hw.1.2.1.2 hw.1.2.2.1 hw.2.1) (by kernel_rfl)
def s_IsHitting_orc : List D → Orc := orcN [none, some .ints] fun ds => match ds with
  | [.agg [.int .i64 Size, .sl (.rows Sets), .sl (.ints Costs)], .sl (.ints els)] => some (.tup [.d (.bool ((goodSys Size Sets Costs && rising els 0 (Size - 1)) && hitsB Sets els)), .d (.bool (goodSys Size Sets Costs && rising els 0 (Size - 1)))])
  | _ => none

abbrev i_System_turned_JJ0 (Size : Int) (Sets : List (List Int)) (Costs : List Int) (i : Int) (sz : Int) (rs : List (List Int)) (cs : List Int) : Prop := (sz = (Sets.length : Int)) ∧ (0 ≤ i) ∧ (i ≤ Size) ∧ (rs = tabTo (turnAt Sets) i.toNat) ∧ (cs = List.replicate i.toNat 1)
abbrev i_System_turned_mJ0 (Size : Int) (Sets : List (List Int)) (Costs : List Int) (i : Int) (sz : Int) (rs : List (List Int)) (cs : List Int) : Nat := (Size - i).toNat
abbrev i_System_turned_JJ1 (Size : Int) (Sets : List (List Int)) (Costs : List Int) (i : Int) (sz : Int) (rs : List (List Int)) (cs : List Int) (own : List Int) (k : Int) : Prop := (0 ≤ k) ∧ (k ≤ (Sets.length : Int)) ∧ (own = members (fun k => (Sets.getD k []).contains i) k.toNat)
abbrev i_System_turned_mJ1 (Size : Int) (Sets : List (List Int)) (Costs : List Int) (i : Int) (sz : Int) (rs : List (List Int)) (cs : List Int) (own : List Int) (k : Int) : Nat := (Sets.length - k).toNat
abbrev i_System_turned_JA1 (Size : Int) (Sets : List (List Int)) (Costs : List Int) (i : Int) (sz : Int) (rs : List (List Int)) (cs : List Int) (row : List Int) : Prop := (row = turnAt Sets i.toNat)
def i_System_turned_C (f : FuncId) (ds : List D) : Orc := bif Nat.beq f 166 then slices_Contains_int_int__orc ds else .no
def i_System_turned_A (Size : Int) (Sets : List (List Int)) (Costs : List Int) : Ann := .two (.none) (.two (.none) (.two (.two (.none) (.loop (cut4 (fun (i : Int) (sz : Int) (rs : List (List Int)) (cs : List Int) => i_System_turned_JJ0 Size Sets Costs i sz rs cs) (fun (i : Int) (sz : Int) (rs : List (List Int)) (cs : List Int) => [(1, .ptr 1 0), (2, .ptr 2 0), (3, .ptr 3 0), (13, .d false (.int .i64 Size)), (14, .d true (.int .i64 i))]) (fun (i : Int) (sz : Int) (rs : List (List Int)) (cs : List Int) => [(1, .box 31 [.d false (.int .i64 Size), .d false (.sl (.rows Sets)), .d false (.sl (.ints Costs))]), (2, .box 31 [.d true (.int .i64 0), .d true (.nil), .d true (.nil)]), (1000002, .arr true 26 (.rows rs)), (1000003, .arr true 3 (.ints cs)), (3, .box 31 [.d true (.int .i64 sz), .own 1000002 rs.length, .own 1000003 cs.length])])) (fun g => i_System_turned_mJ0 Size Sets Costs g.1 g.2.1 g.2.2.1 g.2.2.2) (fun g => (fun (i : Int) (sz : Int) (rs : List (List Int)) (cs : List Int) => .two (.none) (.two (.none) (.two (.two (.none) (.two (.none) (.cut (.two (.none) (.loop (cut2 (fun (own : List Int) (k : Int) => i_System_turned_JJ1 Size Sets Costs i sz rs cs own k) (fun (own : List Int) (k : Int) => [(1, .ptr 1 0), (2, .ptr 2 0), (3, .ptr 3 0), (4, .d true (.int .i64 i)), (5, .own 1000100 own.length), (13, .d false (.int .i64 Size)), (14, .d true (.int .i64 i)), (19, .d false (.sl (.rows Sets))), (20, .d true (.int .i64 (Sets.length : Int))), (21, .d true (.int .i64 k))]) (fun (own : List Int) (k : Int) => [(1000100, .arr true 3 (.ints own)), (1, .box 31 [.d false (.int .i64 Size), .d false (.sl (.rows Sets)), .d false (.sl (.ints Costs))]), (2, .box 31 [.d true (.int .i64 0), .d true (.nil), .d true (.nil)]), (3, .box 31 [.d true (.int .i64 sz), .own 1000002 rs.length, .own 1000003 cs.length]), (1000002, .arr true 26 (.rows rs)), (1000003, .arr true 3 (.ints cs))])) (fun g => i_System_turned_mJ1 Size Sets Costs i sz rs cs g.1 g.2) (fun _ => .none))) (cut1 (fun (row : List Int) => i_System_turned_JA1 Size Sets Costs i sz rs cs row) (fun (row : List Int) => [(1, .ptr 1 0), (2, .ptr 2 0), (3, .ptr 3 0), (5, .d true (.sl (.ints row))), (13, .d false (.int .i64 Size)), (14, .d true (.int .i64 i))]) (fun (row : List Int) => [(1, .box 31 [.d false (.int .i64 Size), .d false (.sl (.rows Sets)), .d false (.sl (.ints Costs))]), (2, .box 31 [.d true (.int .i64 0), .d true (.nil), .d true (.nil)]), (3, .box 31 [.d true (.int .i64 sz), .own 1000002 rs.length, .own 1000003 cs.length]), (1000002, .arr true 26 (.rows rs)), (1000003, .arr true 3 (.ints cs))])) (fun _ => .none)))) (.none)))) (g.1) (g.2.1) (g.2.2.1) (g.2.2.2)))) (.none)))
def i_System_turned_P (Size : Int) (Sets : List (List Int)) (Costs : List Int) : Prop :=
  ((∃ i' : Int, ∃ sz' : Int, ∃ rs' : List (List Int), ∃ cs' : List Int, (i_System_turned_JJ0 Size Sets Costs i' sz' rs' cs') ∧ (Size = Size) ∧ ((0 : Int) = i') ∧ (Size = Size) ∧ (Sets = Sets) ∧ (Costs = Costs) ∧ ((0 : Int) = 0) ∧ ((rs').length = 0) ∧ ((cs').length = 0) ∧ ((Sets.length : Int) = sz') ∧ ((0 : Nat) = rs'.length) ∧ ((0 : Nat) = cs'.length)) ∧ (∀ i : Int, ∀ sz : Int, ∀ rs : List (List Int), ∀ cs : List Int, (i_System_turned_JJ0 Size Sets Costs i sz rs cs) → (((decide (i < Size)) = true → (((∃ own' : List Int, ∃ k' : Int, (i_System_turned_JJ1 Size Sets Costs i sz rs cs own' k') ∧ (i = i) ∧ ((0 : Nat) = own'.length) ∧ (Size = Size) ∧ (i = i) ∧ (Sets = Sets) ∧ ((Sets.length : Int) = (Sets.length : Int)) ∧ ((0 : Int) = k') ∧ ([] = own') ∧ (Size = Size) ∧ (Sets = Sets) ∧ (Costs = Costs) ∧ ((0 : Int) = 0) ∧ (sz = sz) ∧ (rs.length = rs.length) ∧ (cs.length = cs.length) ∧ (rs = rs) ∧ (cs = cs)) ∧ (∀ own : List Int, ∀ k : Int, (i_System_turned_JJ1 Size Sets Costs i sz rs cs own k) → (((decide (k < (Sets.length : Int))) = true → ((0 : Int) ≤ k) ∧ ((k : Int) < Sets.length) ∧ (k.toNat < Sets.length) ∧ (PC Try.prog 166 [.sl (.ints (Sets.getD k.toNat [])), .int .i64 i] (.one (.d (.bool ((Sets.getD k.toNat []).contains i))))) ∧ ((((Sets.getD k.toNat []).contains i) = true → (own.length = own.length) ∧ ((1 : Nat) = 1) ∧ ((own.length + 1) * 8 ≤ 140737488355328) ∧ (-9223372036854775808 ≤ (k + 1) ∧ (k + 1) ≤ 9223372036854775807) ∧ (∃ own' : List Int, ∃ k' : Int, (i_System_turned_JJ1 Size Sets Costs i sz rs cs own' k') ∧ (i_System_turned_mJ1 Size Sets Costs i sz rs cs own' k' < i_System_turned_mJ1 Size Sets Costs i sz rs cs own k) ∧ (i = i) ∧ ((own.length + 1) = own'.length) ∧ (Size = Size) ∧ (i = i) ∧ (Sets = Sets) ∧ ((Sets.length : Int) = (Sets.length : Int)) ∧ ((k + 1) = k') ∧ ((own ++ [k]) = own') ∧ (Size = Size) ∧ (Sets = Sets) ∧ (Costs = Costs) ∧ ((0 : Int) = 0) ∧ (sz = sz) ∧ (rs.length = rs.length) ∧ (cs.length = cs.length) ∧ (rs = rs) ∧ (cs = cs))) ∧ (((Sets.getD k.toNat []).contains i) = false → (-9223372036854775808 ≤ (k + 1) ∧ (k + 1) ≤ 9223372036854775807) ∧ (∃ own' : List Int, ∃ k' : Int, (i_System_turned_JJ1 Size Sets Costs i sz rs cs own' k') ∧ (i_System_turned_mJ1 Size Sets Costs i sz rs cs own' k' < i_System_turned_mJ1 Size Sets Costs i sz rs cs own k) ∧ (i = i) ∧ (own.length = own'.length) ∧ (Size = Size) ∧ (i = i) ∧ (Sets = Sets) ∧ ((Sets.length : Int) = (Sets.length : Int)) ∧ ((k + 1) = k') ∧ (own = own') ∧ (Size = Size) ∧ (Sets = Sets) ∧ (Costs = Costs) ∧ ((0 : Int) = 0) ∧ (sz = sz) ∧ (rs.length = rs.length) ∧ (cs.length = cs.length) ∧ (rs = rs) ∧ (cs = cs))))) ∧ ((decide (k < (Sets.length : Int))) = false → (∃ row' : List Int, (i_System_turned_JA1 Size Sets Costs i sz rs cs row') ∧ (own.length = own.length) ∧ (own = row') ∧ (Size = Size) ∧ (i = i) ∧ (Size = Size) ∧ (Sets = Sets) ∧ (Costs = Costs) ∧ ((0 : Int) = 0) ∧ (sz = sz) ∧ (rs.length = rs.length) ∧ (cs.length = cs.length) ∧ (rs = rs) ∧ (cs = cs)))))) ∧ (∀ row : List Int, (i_System_turned_JA1 Size Sets Costs i sz rs cs row) → (true = true) ∧ (rs.length = rs.length) ∧ ((1 : Nat) = 1) ∧ ((rs.length + 1) * 24 ≤ 140737488355328) ∧ (cs.length = cs.length) ∧ ((1 : Nat) = 1) ∧ ((cs.length + 1) * 8 ≤ 140737488355328) ∧ (-9223372036854775808 ≤ (i + 1) ∧ (i + 1) ≤ 9223372036854775807) ∧ (∃ i' : Int, ∃ sz' : Int, ∃ rs' : List (List Int), ∃ cs' : List Int, (i_System_turned_JJ0 Size Sets Costs i' sz' rs' cs') ∧ (i_System_turned_mJ0 Size Sets Costs i' sz' rs' cs' < i_System_turned_mJ0 Size Sets Costs i sz rs cs) ∧ (Size = Size) ∧ ((i + 1) = i') ∧ (Size = Size) ∧ (Sets = Sets) ∧ (Costs = Costs) ∧ ((0 : Int) = 0) ∧ ((rs ++ [row]) = rs') ∧ ((cs ++ [1]) = cs') ∧ (sz = sz') ∧ ((rs.length + 1) = rs'.length) ∧ ((cs.length + 1) = cs'.length))))) ∧ ((decide (i < Size)) = false → ((rs.length = rs.length) ∧ (cs.length = cs.length) ∧ ((.agg [.int .i64 sz, .sl (.rows rs), .sl (.ints cs)] : D) = .agg [.int .i64 (Sets.length : Int), .sl (.rows (turnR Sets Size.toNat)), .sl (.ints (List.replicate Size.toNat 1))]))))))
theorem i_System_turned_vc (Size : Int) (Sets : List (List Int)) (Costs : List Int) (hg : goodSys Size Sets Costs = true) (w_Sets : (Sets.length : Int) ≤ 9223372036854775807) (v_Sets : ∀ x9 ∈ Sets, (x9.length : Int) ≤ 9223372036854775807) (w_Costs : (Costs.length : Int) ≤ 9223372036854775807) : i_System_turned_P Size Sets Costs := by
  unfold i_System_turned_P
  have gf := gs_facts hg
  refine ⟨?_, ?_⟩
  · refine ⟨0, (Sets.length : Int), ([]), ([]), ?_⟩
    refine ⟨?_, rfl, rfl, rfl, rfl, rfl, rfl, ?_, ?_, rfl, rfl, rfl⟩
    · refine ⟨?_, ?_, ?_, ?_, ?_⟩
      · rfl
      · first | omega | rfl | (intro hg; simp only [nrmT] at hg; omega) | (intro g1 g2; simp [g1, g2]; done) | (intro g1; simp at g1 ⊢; simp [g1]; done) | (simp only [nrmT] at *; omega) | (simp at * <;> omega) | (simp_all <;> omega) | (simp_all; done)
      · first | omega | rfl | (intro hg; simp only [nrmT] at hg; omega) | (intro g1 g2; simp [g1, g2]; done) | (intro g1; simp at g1 ⊢; simp [g1]; done) | (simp only [nrmT] at *; omega) | (simp at * <;> omega) | (simp_all <;> omega) | (simp_all; done)
      · rfl
      · rfl
    · rfl
    · rfl
  · intro i sz rs cs hJ
    obtain ⟨h0, h1, h2, h3, h4⟩ := hJ
    refine ⟨?_, ?_⟩
    · intro b1
      try simp only [nrmT] at b1
      refine ⟨?_, ?_⟩
      · refine ⟨?_, ?_⟩
        · refine ⟨([]), 0, ?_⟩
          refine ⟨?_, rfl, rfl, rfl, rfl, rfl, rfl, rfl, ?_, rfl, rfl, rfl, rfl, rfl, rfl, rfl, rfl, rfl⟩
          · refine ⟨?_, ?_, ?_⟩
            · first | omega | rfl | (intro hg; simp only [nrmT] at hg; omega) | (intro g1 g2; simp [g1, g2]; done) | (intro g1; simp at g1 ⊢; simp [g1]; done) | (simp only [nrmT] at *; omega) | (simp at * <;> omega) | (simp_all <;> omega) | (simp_all; done)
            · first | omega | rfl | (intro hg; simp only [nrmT] at hg; omega) | (intro g1 g2; simp [g1, g2]; done) | (intro g1; simp at g1 ⊢; simp [g1]; done) | (simp only [nrmT] at *; omega) | (simp at * <;> omega) | (simp_all <;> omega) | (simp_all; done)
            · rfl
          · rfl
        · intro own k hJ
          obtain ⟨h5, h6, h7⟩ := hJ
          refine ⟨?_, ?_⟩
          · intro b2
            try simp only [nrmT] at b2
            refine ⟨?_, ?_, ?_, slices_Contains_int_int__pc (Sets.getD k.toNat []) i, ?_, ?_⟩
            · first | omega | rfl | (intro hg; simp only [nrmT] at hg; omega) | (intro g1 g2; simp [g1, g2]; done) | (intro g1; simp at g1 ⊢; simp [g1]; done) | (simp only [nrmT] at *; omega) | (simp at * <;> omega) | (simp_all <;> omega) | (simp_all; done)
            · first | omega | rfl | (intro hg; simp only [nrmT] at hg; omega) | (intro g1 g2; simp [g1, g2]; done) | (intro g1; simp at g1 ⊢; simp [g1]; done) | (simp only [nrmT] at *; omega) | (simp at * <;> omega) | (simp_all <;> omega) | (simp_all; done)
            · first | omega | rfl | (intro hg; simp only [nrmT] at hg; omega) | (intro g1 g2; simp [g1, g2]; done) | (intro g1; simp at g1 ⊢; simp [g1]; done) | (simp only [nrmT] at *; omega) | (simp at * <;> omega) | (simp_all <;> omega) | (simp_all; done)
            · intro b3
              try simp only [nrmT] at b3
              refine ⟨rfl, rfl, ?_, ?_, ?_⟩
              · rw [h7]; have := members_len_le (fun k => (Sets.getD k []).contains i) k.toNat; omega
              · first | omega | rfl | (intro hg; simp only [nrmT] at hg; omega) | (intro g1 g2; simp [g1, g2]; done) | (intro g1; simp at g1 ⊢; simp [g1]; done) | (simp only [nrmT] at *; omega) | (simp at * <;> omega) | (simp_all <;> omega) | (simp_all; done)
              · refine ⟨(own ++ [k]), (k + 1), ?_⟩
                refine ⟨?_, ?_, rfl, ?_, rfl, rfl, rfl, rfl, rfl, rfl, rfl, rfl, rfl, rfl, rfl, rfl, rfl, rfl, rfl⟩
                · refine ⟨?_, ?_, ?_⟩
                  · first | omega | rfl | (intro hg; simp only [nrmT] at hg; omega) | (intro g1 g2; simp [g1, g2]; done) | (intro g1; simp at g1 ⊢; simp [g1]; done) | (simp only [nrmT] at *; omega) | (simp at * <;> omega) | (simp_all <;> omega) | (simp_all; done)
                  · first | omega | rfl | (intro hg; simp only [nrmT] at hg; omega) | (intro g1 g2; simp [g1, g2]; done) | (intro g1; simp at g1 ⊢; simp [g1]; done) | (simp only [nrmT] at *; omega) | (simp at * <;> omega) | (simp_all <;> omega) | (simp_all; done)
                  · rw [h7, show (k + 1).toNat = k.toNat + 1 by omega, members_succ, if_pos b3, show ((k.toNat : Nat) : Int) = k by omega]
                · first | (show _ < _; omega) | (simp only [i_System_turned_mJ1]; omega) | (simp only [i_System_turned_mJ1] at *; simp at *; omega)
                · simp
            · intro b4
              try simp only [nrmT] at b4
              refine ⟨?_, ?_⟩
              · first | omega | rfl | (intro hg; simp only [nrmT] at hg; omega) | (intro g1 g2; simp [g1, g2]; done) | (intro g1; simp at g1 ⊢; simp [g1]; done) | (simp only [nrmT] at *; omega) | (simp at * <;> omega) | (simp_all <;> omega) | (simp_all; done)
              · refine ⟨own, (k + 1), ?_⟩
                refine ⟨?_, ?_, rfl, rfl, rfl, rfl, rfl, rfl, rfl, rfl, rfl, rfl, rfl, rfl, rfl, rfl, rfl, rfl, rfl⟩
                · refine ⟨?_, ?_, ?_⟩
                  · first | omega | rfl | (intro hg; simp only [nrmT] at hg; omega) | (intro g1 g2; simp [g1, g2]; done) | (intro g1; simp at g1 ⊢; simp [g1]; done) | (simp only [nrmT] at *; omega) | (simp at * <;> omega) | (simp_all <;> omega) | (simp_all; done)
                  · first | omega | rfl | (intro hg; simp only [nrmT] at hg; omega) | (intro g1 g2; simp [g1, g2]; done) | (intro g1; simp at g1 ⊢; simp [g1]; done) | (simp only [nrmT] at *; omega) | (simp at * <;> omega) | (simp_all <;> omega) | (simp_all; done)
                  · rw [h7, show (k + 1).toNat = k.toNat + 1 by omega, members_succ, if_neg (by rw [b4]; decide), List.append_nil]
                · first | (show _ < _; omega) | (simp only [i_System_turned_mJ1]; omega) | (simp only [i_System_turned_mJ1] at *; simp at *; omega)
          · intro b5
            try simp only [nrmT] at b5
            refine ⟨own, ?_⟩
            refine ⟨?_, rfl, rfl, rfl, rfl, rfl, rfl, rfl, rfl, rfl, rfl, rfl, rfl, rfl⟩
            · unfold i_System_turned_JA1
              rw [h7]
              unfold turnAt
              rw [show k.toNat = Sets.length by omega, show ((i.toNat : Nat) : Int) = i by omega]
      · intro row hJ
        have h8 := hJ
        refine ⟨rfl, rfl, rfl, ?_, rfl, rfl, ?_, ?_, ?_⟩
        · rw [h3, tabTo_len]; omega
        · rw [h4, List.length_replicate]; omega
        · first | omega | rfl | (intro hg; simp only [nrmT] at hg; omega) | (intro g1 g2; simp [g1, g2]; done) | (intro g1; simp at g1 ⊢; simp [g1]; done) | (simp only [nrmT] at *; omega) | (simp at * <;> omega) | (simp_all <;> omega) | (simp_all; done)
        · refine ⟨(i + 1), sz, (rs ++ [row]), (cs ++ [1]), ?_⟩
          refine ⟨?_, ?_, rfl, rfl, rfl, rfl, rfl, rfl, rfl, rfl, rfl, ?_, ?_⟩
          · refine ⟨?_, ?_, ?_, ?_, ?_⟩
            · assumption
            · first | omega | rfl | (intro hg; simp only [nrmT] at hg; omega) | (intro g1 g2; simp [g1, g2]; done) | (intro g1; simp at g1 ⊢; simp [g1]; done) | (simp only [nrmT] at *; omega) | (simp at * <;> omega) | (simp_all <;> omega) | (simp_all; done)
            · first | omega | rfl | (intro hg; simp only [nrmT] at hg; omega) | (intro g1 g2; simp [g1, g2]; done) | (intro g1; simp at g1 ⊢; simp [g1]; done) | (simp only [nrmT] at *; omega) | (simp at * <;> omega) | (simp_all <;> omega) | (simp_all; done)
            · rw [h3, h8, show (i + 1).toNat = i.toNat + 1 by omega, tabTo_succ]
            · rw [h4, show (i + 1).toNat = i.toNat + 1 by omega, List.replicate_succ']
          · first | (show _ < _; omega) | (simp only [i_System_turned_mJ0]; omega) | (simp only [i_System_turned_mJ0] at *; simp at *; omega)
          · simp
          · simp
    · intro b6
      try simp only [nrmT] at b6
      refine ⟨rfl, rfl, ?_⟩
      · rw [h0, h3, h4, show i.toNat = Size.toNat by omega]; rfl
theorem i_System_turned_pc (Size : Int) (Sets : List (List Int)) (Costs : List Int) (hg : goodSys Size Sets Costs = true) : PC Try.prog 129 [.agg [.int .i64 Size, .sl (.rows Sets), .sl (.ints Costs)]] (.one (.d (.agg [.int .i64 (Sets.length : Int), .sl (.rows (turnR Sets Size.toNat)), .sl (.ints (List.replicate Size.toNat 1))]))) :=
  pc_wf @Try.call129 fun hw => pc_by (by kernel_rfl) Try.func129 @Try.call129 (by kernel_rfl) i_System_turned_C (i_System_turned_A Size Sets Costs) (by kernel_rfl) (i_System_turned_vc Size Sets Costs hg hw.1.2.1.1 hw.1.2.1.2 hw.1.2.2.1) (by kernel_rfl)
def i_System_turned_orc : List D → Orc := orcN [none] fun ds => match ds with
  | [.agg [.int .i64 Size, .sl (.rows Sets), .sl (.ints Costs)]] => some (.one (.d (.agg [.int .i64 (Sets.length : Int), .sl (.rows (turnR Sets Size.toNat)), .sl (.ints (List.replicate Size.toNat 1))])))
  | _ => none

def i_IsHitting_C (f : FuncId) (ds : List D) : Orc := bif Nat.beq f 28 then i_IsSystem_orc ds else bif Nat.beq f 90 then i_isRising_orc ds else bif Nat.beq f 129 then i_System_turned_orc ds else bif Nat.beq f 124 then i_System_isCover_orc ds else .no
def i_IsHitting_A (Size : Int) (Sets : List (List Int)) (Costs : List Int) (els : List Int) : Ann := .none
def i_IsHitting_P (Size : Int) (Sets : List (List Int)) (Costs : List Int) (els : List Int) : Prop :=
  (PC Try.prog 28 [.agg [.int .i64 Size, .sl (.rows Sets), .sl (.ints Costs)]] (.one (.d (.bool (goodSys Size Sets Costs))))) ∧ ((!(!(goodSys Size Sets Costs))) = true → (!(!(goodSys Size Sets Costs))) = true) ∧ ((!(!(goodSys Size Sets Costs))) = true → (!(!(goodSys Size Sets Costs))) = true) ∧ ((!(!(goodSys Size Sets Costs))) = true → (!(!(goodSys Size Sets Costs))) = true) ∧ ((!(!(goodSys Size Sets Costs))) = true → PC Try.prog 90 [.sl (.ints els), .int .i64 Size] (.one (.d (.bool (rising els 0 (Size - 1)))))) ∧ ((!(!(goodSys Size Sets Costs))) = true → (!(!(goodSys Size Sets Costs))) = true) ∧ (true = true) ∧ (((!(goodSys Size Sets Costs)) = true → true = true)) ∧ (((!(goodSys Size Sets Costs)) = false → (!(!(goodSys Size Sets Costs))) = true)) ∧ (((cond (!(goodSys Size Sets Costs)) true (!(rising els 0 (Size - 1)))) = true → ((false = ((goodSys Size Sets Costs && rising els 0 (Size - 1)) && hitsB Sets els)) ∧ (false = (goodSys Size Sets Costs && rising els 0 (Size - 1))))) ∧ ((cond (!(goodSys Size Sets Costs)) true (!(rising els 0 (Size - 1)))) = false → (PC Try.prog 129 [.agg [.int .i64 Size, .sl (.rows Sets), .sl (.ints Costs)]] (.one (.d (.agg [.int .i64 (Sets.length : Int), .sl (.rows (turnR Sets Size.toNat)), .sl (.ints (List.replicate Size.toNat 1))])))) ∧ (PC Try.prog 124 [.agg [.int .i64 (Sets.length : Int), .sl (.rows (turnR Sets Size.toNat)), .sl (.ints (List.replicate Size.toNat 1))], .sl (.ints els)] (.one (.d (.bool (coverB (Sets.length : Int) (turnR Sets Size.toNat) els))))) ∧ (((coverB (Sets.length : Int) (turnR Sets Size.toNat) els) = ((goodSys Size Sets Costs && rising els 0 (Size - 1)) && hitsB Sets els)) ∧ (true = (goodSys Size Sets Costs && rising els 0 (Size - 1))))))
theorem i_IsHitting_vc (Size : Int) (Sets : List (List Int)) (Costs : List Int) (els : List Int)  (w_Sets : (Sets.length : Int) ≤ 9223372036854775807) (v_Sets : ∀ x9 ∈ Sets, (x9.length : Int) ≤ 9223372036854775807) (w_Costs : (Costs.length : Int) ≤ 9223372036854775807) (w_els : (els.length : Int) ≤ 9223372036854775807) : i_IsHitting_P Size Sets Costs els := by
  unfold i_IsHitting_P
  refine ⟨i_IsSystem_pc Size Sets Costs, id, id, id, ?_, id, rfl, fun _ => rfl, ?_, ?_, ?_⟩
  · intro hg
    refine i_isRising_pc els Size ?_
    · have := gs_facts (show goodSys Size Sets Costs = true by simpa using hg)
      omega
  · first | omega | rfl | (intro hg; simp only [nrmT] at hg; omega) | (intro g1 g2; simp [g1, g2]; done) | (intro g1; simp at g1 ⊢; simp [g1]; done) | (simp only [nrmT] at *; omega) | (simp at * <;> omega) | (simp_all <;> omega) | (simp_all; done)
  · intro b1
    refine ⟨?_, ?_⟩
    · have hq : (goodSys Size Sets Costs && rising els 0 (Size - 1)) = false := by
        revert b1; cases goodSys Size Sets Costs <;> cases rising els 0 (Size - 1) <;> simp
      rw [hq]; rfl
    · have hq : (goodSys Size Sets Costs && rising els 0 (Size - 1)) = false := by
        revert b1; cases goodSys Size Sets Costs <;> cases rising els 0 (Size - 1) <;> simp
      exact hq.symm
  · intro b2
    refine ⟨?_, ?_, ?_, ?_⟩
    · refine i_System_turned_pc Size Sets Costs ?_
      · have hq : goodSys Size Sets Costs = true ∧ rising els 0 (Size - 1) = true := by
          revert b2; cases goodSys Size Sets Costs <;> cases rising els 0 (Size - 1) <;> simp
        exact hq.1
    · refine i_System_isCover_pc (Sets.length : Int) (turnR Sets Size.toNat) (List.replicate Size.toNat 1) els ?_ ?_
      · have hg : goodSys Size Sets Costs = true := by
          revert b2; cases goodSys Size Sets Costs <;> simp
        exact turn_good hg
      · have hq : goodSys Size Sets Costs = true ∧ rising els 0 (Size - 1) = true := by
          revert b2; cases goodSys Size Sets Costs <;> cases rising els 0 (Size - 1) <;> simp
        rw [show ((turnR Sets Size.toNat).length : Int) = Size by have := gs_facts hq.1; unfold turnR; rw [tabTo_len]; omega]
        exact hq.2
    · have hq : goodSys Size Sets Costs = true ∧ rising els 0 (Size - 1) = true := by
        revert b2; cases goodSys Size Sets Costs <;> cases rising els 0 (Size - 1) <;> simp
      rw [hits_turn hq.2, hq.1, hq.2]; rfl
    · have hq : goodSys Size Sets Costs = true ∧ rising els 0 (Size - 1) = true := by
        revert b2; cases goodSys Size Sets Costs <;> cases rising els 0 (Size - 1) <;> simp
      rw [hq.1, hq.2]; rfl
theorem i_IsHitting_pc (Size : Int) (Sets : List (List Int)) (Costs : List Int) (els : List Int)  : PC Try.prog 66 [.agg [.int .i64 Size, .sl (.rows Sets), .sl (.ints Costs)], .sl (.ints els)] (.tup [.d (.bool ((goodSys Size Sets Costs && rising els 0 (Size - 1)) && hitsB Sets els)), .d (.bool (goodSys Size Sets Costs && rising els 0 (Size - 1)))]) :=
  pc_wf @Try.call66 fun hw => pc_by (by kernel_rfl) Try.func66 @Try.call66 (by kernel_rfl) i_IsHitting_C (i_IsHitting_A Size Sets Costs els) (by kernel_rfl) (i_IsHitting_vc Size Sets Costs els hw.1.2.1.1 hw.1.2.1.2 hw.1.2.2.1 hw.2.1) (by kernel_rfl)
def i_IsHitting_orc : List D → Orc := orcN [none, some .ints] fun ds => match ds with
  | [.agg [.int .i64 Size, .sl (.rows Sets), .sl (.ints Costs)], .sl (.ints els)] => some (.tup [.d (.bool ((goodSys Size Sets Costs && rising els 0 (Size - 1)) && hitsB Sets els)), .d (.bool (goodSys Size Sets Costs && rising els 0 (Size - 1)))])
  | _ => none

def l_FnExactIsHitting_C (f : FuncId) (ds : List D) : Orc := bif Nat.beq f 25 then l_szSystem_orc ds else bif Nat.beq f 27 then l_toSystem_orc ds else bif Nat.beq f 40 then l_toIntS_orc ds else bif Nat.beq f 65 then s_IsHitting_orc ds else bif Nat.beq f 66 then i_IsHitting_orc ds else bif Nat.beq f 29 then l_eqSystem_orc ds else bif Nat.beq f 43 then l_eqIntS_orc ds else .no
def l_FnExactIsHitting_A (Size : Int) (Sets : List (List Int)) (Costs : List Int) (els : List Int) : Ann := .none
def l_FnExactIsHitting_P (Size : Int) (Sets : List (List Int)) (Costs : List Int) (els : List Int) : Prop :=
  (((decide ((els.length : Int) > 1048576)) = true → ((true = true))) ∧ ((decide ((els.length : Int) > 1048576)) = false → (PC Try.prog 25 [.agg [.int .i64 Size, .sl (.rows Sets), .sl (.ints Costs)], .int .i64 1048576] (.one (.d (.int .i64 (szSys Sets Costs 1048576))))) ∧ (((decide ((szSys Sets Costs 1048576) < 0)) = true → ((true = true))) ∧ ((decide ((szSys Sets Costs 1048576) < 0)) = false → (PC Try.prog 27 [.agg [.int .i64 Size, .sl (.rows Sets), .sl (.ints Costs)]] (.one (.d (.agg [.int .i64 Size, .sl (.rows Sets), .sl (.ints Costs)])))) ∧ (PC Try.prog 40 [.sl (.ints els)] (.one (.d (.sl (.ints els))))) ∧ (PC Try.prog 65 [.agg [.int .i64 Size, .sl (.rows Sets), .sl (.ints Costs)], .sl (.ints els)] (.tup [.d (.bool ((goodSys Size Sets Costs && rising els 0 (Size - 1)) && hitsB Sets els)), .d (.bool (goodSys Size Sets Costs && rising els 0 (Size - 1)))])) ∧ (PC Try.prog 27 [.agg [.int .i64 Size, .sl (.rows Sets), .sl (.ints Costs)]] (.one (.d (.agg [.int .i64 Size, .sl (.rows Sets), .sl (.ints Costs)])))) ∧ (PC Try.prog 40 [.sl (.ints els)] (.one (.d (.sl (.ints els))))) ∧ (PC Try.prog 66 [.agg [.int .i64 Size, .sl (.rows Sets), .sl (.ints Costs)], .sl (.ints els)] (.tup [.d (.bool ((goodSys Size Sets Costs && rising els 0 (Size - 1)) && hitsB Sets els)), .d (.bool (goodSys Size Sets Costs && rising els 0 (Size - 1)))])) ∧ ((!(((goodSys Size Sets Costs && rising els 0 (Size - 1)) && hitsB Sets els) != ((goodSys Size Sets Costs && rising els 0 (Size - 1)) && hitsB Sets els))) = true → (!(((goodSys Size Sets Costs && rising els 0 (Size - 1)) && hitsB Sets els) != ((goodSys Size Sets Costs && rising els 0 (Size - 1)) && hitsB Sets els))) = true) ∧ ((!(((goodSys Size Sets Costs && rising els 0 (Size - 1)) && hitsB Sets els) != ((goodSys Size Sets Costs && rising els 0 (Size - 1)) && hitsB Sets els))) = true → (!(((goodSys Size Sets Costs && rising els 0 (Size - 1)) && hitsB Sets els) != ((goodSys Size Sets Costs && rising els 0 (Size - 1)) && hitsB Sets els))) = true) ∧ (true = true) ∧ (((((goodSys Size Sets Costs && rising els 0 (Size - 1)) && hitsB Sets els) != ((goodSys Size Sets Costs && rising els 0 (Size - 1)) && hitsB Sets els)) = true → true = true)) ∧ (((((goodSys Size Sets Costs && rising els 0 (Size - 1)) && hitsB Sets els) != ((goodSys Size Sets Costs && rising els 0 (Size - 1)) && hitsB Sets els)) = false → (!(((goodSys Size Sets Costs && rising els 0 (Size - 1)) && hitsB Sets els) != ((goodSys Size Sets Costs && rising els 0 (Size - 1)) && hitsB Sets els))) = true)) ∧ (((cond (((goodSys Size Sets Costs && rising els 0 (Size - 1)) && hitsB Sets els) != ((goodSys Size Sets Costs && rising els 0 (Size - 1)) && hitsB Sets els)) true ((goodSys Size Sets Costs && rising els 0 (Size - 1)) != (goodSys Size Sets Costs && rising els 0 (Size - 1)))) = true → ((false = true))) ∧ ((cond (((goodSys Size Sets Costs && rising els 0 (Size - 1)) && hitsB Sets els) != ((goodSys Size Sets Costs && rising els 0 (Size - 1)) && hitsB Sets els)) true ((goodSys Size Sets Costs && rising els 0 (Size - 1)) != (goodSys Size Sets Costs && rising els 0 (Size - 1)))) = false → (true = true) ∧ (PC Try.prog 27 [.agg [.int .i64 Size, .sl (.rows Sets), .sl (.ints Costs)]] (.one (.d (.agg [.int .i64 Size, .sl (.rows Sets), .sl (.ints Costs)])))) ∧ (PC Try.prog 29 [.agg [.int .i64 Size, .sl (.rows Sets), .sl (.ints Costs)], .agg [.int .i64 Size, .sl (.rows Sets), .sl (.ints Costs)]] (.one (.d (.bool ((Size == Size) && (Sets == Sets) && (Costs == Costs)))))) ∧ (((!((Size == Size) && (Sets == Sets) && (Costs == Costs))) = true → ((false = true))) ∧ ((!((Size == Size) && (Sets == Sets) && (Costs == Costs))) = false → (PC Try.prog 40 [.sl (.ints els)] (.one (.d (.sl (.ints els))))) ∧ (PC Try.prog 43 [.sl (.ints els), .sl (.ints els)] (.one (.d (.bool (els == els))))) ∧ (((!(els == els)) = true → ((false = true))) ∧ ((!(els == els)) = false → ((true = true))))))))))))
theorem l_FnExactIsHitting_vc (Size : Int) (Sets : List (List Int)) (Costs : List Int) (els : List Int)  (w_Sets : (Sets.length : Int) ≤ 9223372036854775807) (v_Sets : ∀ x9 ∈ Sets, (x9.length : Int) ≤ 9223372036854775807) (w_Costs : (Costs.length : Int) ≤ 9223372036854775807) (w_els : (els.length : Int) ≤ 9223372036854775807) : l_FnExactIsHitting_P Size Sets Costs els := by
  unfold l_FnExactIsHitting_P
  refine ⟨?_, ?_⟩
  · intro b1
    try simp only [nrmT] at b1
    exact rfl
  · intro b2
    try simp only [nrmT] at b2
    refine ⟨?_, ?_, ?_⟩
    · refine l_szSystem_pc Size Sets Costs 1048576 ?_
      · first | omega | rfl | (intro hg; simp only [nrmT] at hg; omega) | (intro g1 g2; simp [g1, g2]; done) | (intro g1; simp at g1 ⊢; simp [g1]; done) | (simp only [nrmT] at *; omega) | (simp at * <;> omega) | (simp_all <;> omega) | (simp_all; done)
    · intro b3
      try simp only [nrmT] at b3
      exact rfl
    · intro b4
      try simp only [nrmT] at b4
      refine ⟨?_, ?_, s_IsHitting_pc Size Sets Costs els, ?_, ?_, i_IsHitting_pc Size Sets Costs els, id, id, rfl, fun _ => rfl, ?_, ?_, ?_⟩
      · refine l_toSystem_pc Size Sets Costs ?_ ?_ ?_
        · have := szSys_bound b4; omega
        · have h := (szSys_bound b4).2.1
          intro xs hx
          have h := h xs hx
          omega
        · have := szSys_bound b4; omega
      · refine l_toIntS_pc els ?_
        · first | omega | rfl | (intro hg; simp only [nrmT] at hg; omega) | (intro g1 g2; simp [g1, g2]; done) | (intro g1; simp at g1 ⊢; simp [g1]; done) | (simp only [nrmT] at *; omega) | (simp at * <;> omega) | (simp_all <;> omega) | (simp_all; done)
      · refine l_toSystem_pc Size Sets Costs ?_ ?_ ?_
        · have := szSys_bound b4; omega
        · have h := (szSys_bound b4).2.1
          intro xs hx
          have h := h xs hx
          omega
        · have := szSys_bound b4; omega
      · refine l_toIntS_pc els ?_
        · first | omega | rfl | (intro hg; simp only [nrmT] at hg; omega) | (intro g1 g2; simp [g1, g2]; done) | (intro g1; simp at g1 ⊢; simp [g1]; done) | (simp only [nrmT] at *; omega) | (simp at * <;> omega) | (simp_all <;> omega) | (simp_all; done)
      · first | omega | rfl | (intro hg; simp only [nrmT] at hg; omega) | (intro g1 g2; simp [g1, g2]; done) | (intro g1; simp at g1 ⊢; simp [g1]; done) | (simp only [nrmT] at *; omega) | (simp at * <;> omega) | (simp_all <;> omega) | (simp_all; done)
      · intro b5
        first | omega | rfl | (intro hg; simp only [nrmT] at hg; omega) | (intro g1 g2; simp [g1, g2]; done) | (intro g1; simp at g1 ⊢; simp [g1]; done) | (simp only [nrmT] at *; omega) | (simp at * <;> omega) | (simp_all <;> omega) | (simp_all; done)
      · intro b6
        refine ⟨rfl, ?_, l_eqSystem_pc Size Sets Costs Size Sets Costs, ?_, ?_⟩
        · refine l_toSystem_pc Size Sets Costs ?_ ?_ ?_
          · have := szSys_bound b4; omega
          · have h := (szSys_bound b4).2.1
            intro xs hx
            have h := h xs hx
            omega
          · have := szSys_bound b4; omega
        · intro b7
          try simp only [Bool.not_eq_true', Bool.not_eq_false', Bool.not_not] at b7
          first | omega | rfl | (intro hg; simp only [nrmT] at hg; omega) | (intro g1 g2; simp [g1, g2]; done) | (intro g1; simp at g1 ⊢; simp [g1]; done) | (simp only [nrmT] at *; omega) | (simp at * <;> omega) | (simp_all <;> omega) | (simp_all; done)
        · intro b8
          try simp only [Bool.not_eq_true', Bool.not_eq_false', Bool.not_not] at b8
          refine ⟨?_, l_eqIntS_pc els els, ?_, ?_⟩
          · refine l_toIntS_pc els ?_
            · first | omega | rfl | (intro hg; simp only [nrmT] at hg; omega) | (intro g1 g2; simp [g1, g2]; done) | (intro g1; simp at g1 ⊢; simp [g1]; done) | (simp only [nrmT] at *; omega) | (simp at * <;> omega) | (simp_all <;> omega) | (simp_all; done)
          · intro b9
            try simp only [nrmT] at b9
            first | omega | rfl | (intro hg; simp only [nrmT] at hg; omega) | (intro g1 g2; simp [g1, g2]; done) | (intro g1; simp at g1 ⊢; simp [g1]; done) | (simp only [nrmT] at *; omega) | (simp at * <;> omega) | (simp_all <;> omega) | (simp_all; done)
          · intro b10
            try simp only [nrmT] at b10
            exact rfl
theorem l_FnExactIsHitting_pc (Size : Int) (Sets : List (List Int)) (Costs : List Int) (els : List Int)  : PC Try.prog 16 [.agg [.int .i64 Size, .sl (.rows Sets), .sl (.ints Costs)], .sl (.ints els)] (.one (.d (.bool true))) :=
  pc_wf @Try.call16 fun hw => pc_by (by kernel_rfl) Try.func16 @Try.call16 (by kernel_rfl) l_FnExactIsHitting_C (l_FnExactIsHitting_A Size Sets Costs els) (by kernel_rfl) (l_FnExactIsHitting_vc Size Sets Costs els hw.1.2.1.1 hw.1.2.1.2 hw.1.2.2.1 hw.2.1) (by kernel_rfl)
def l_FnExactIsHitting_orc : List D → Orc := orcN [none, some .ints] fun ds => match ds with
  | [.agg [.int .i64 Size, .sl (.rows Sets), .sl (.ints Costs)], .sl (.ints els)] => some (.one (.d (.bool true)))
  | _ => none

end Go.Proofs.Ytmcbcomcejgbcaa
