/- Contracts. -/
import Derived.Test.YtfcbkpcpibblgaaPr
import Derived.Test.YtfcbkpcpibblgaaProg
import Derived.KernelRfl
namespace Go.Proofs.Ytfcbkpcpibblgaa
open Go

def harmSum : Nat → Int
  | 0 => 0
  | k + 1 => harmSum k + 840 / ((k : Int) + 1)
theorem harmSum_bound : ∀ k : Nat, 0 ≤ harmSum k ∧ harmSum k ≤ 840 * k
  | 0 => by simp [harmSum]
  | k + 1 => by
    have h := harmSum_bound k
    have h1 : (840 : Int) / ((k : Int) + 1) ≤ 840 := Int.ediv_le_self _ (by omega)
    have h2 : 0 ≤ (840 : Int) / ((k : Int) + 1) := Int.ediv_nonneg (by omega) (by omega)
    simp only [harmSum]
    omega
theorem harmSum_step {i : Int} (h : 0 ≤ i) : harmSum (i + 1).toNat = harmSum i.toNat + 840 / (i + 1) := by
  have e : (i + 1).toNat = i.toNat + 1 := by omega
  rw [e, harmSum, Int.toNat_of_nonneg h]
def harm (n : Int) : Int := if 0 ≤ n ∧ n ≤ 8 then harmSum n.toNat else 0

def i_between_C (f : FuncId) (ds : List D) : Orc := .no
def i_between_A (x : Int) (lo : Int) (hi : Int) : Ann := .none
def i_between_P (x : Int) (lo : Int) (hi : Int) : Prop :=
  ((decide (x ≥ lo)) = true → (decide (x ≥ lo)) = true) ∧ ((decide (x ≥ lo)) = true → (decide (x ≥ lo)) = true) ∧ (true = true) ∧ (((decide (x ≥ lo)) = true → (decide (x ≥ lo)) = true)) ∧ (((decide (x ≥ lo)) = false → true = true)) ∧ (((cond (decide (x ≥ lo)) (decide (x ≤ hi)) false) = decide (lo ≤ x ∧ x ≤ hi)))
theorem i_between_vc (x : Int) (lo : Int) (hi : Int)  : i_between_P x lo hi := by
  unfold i_between_P
  refine ⟨id, id, rfl, id, fun _ => rfl, ?_⟩
  · first | omega | rfl | (simp at * <;> omega) | (simp_all <;> omega) | (simp_all; done)
theorem i_between_pc (x : Int) (lo : Int) (hi : Int)  : PC Try.prog 37 [.int .i64 x, .int .i64 lo, .int .i64 hi] (.one (.d (.bool (decide (lo ≤ x ∧ x ≤ hi))))) :=
  pc_by Try.func37 @Try.call37 (by kernel_rfl) i_between_C (i_between_A x lo hi) (by kernel_rfl) (i_between_vc x lo hi) (by kernel_rfl)
def i_between_orc : List D → Orc := orcN [none, none, none] fun ds => match ds with
  | [.int .i64 x, .int .i64 lo, .int .i64 hi] => some (.one (.d (.bool (decide (lo ≤ x ∧ x ≤ hi)))))
  | _ => none

def s_l1In_C (f : FuncId) (ds : List D) : Orc := .no
def s_l1In_A (x : Int) (lo : Int) (hi : Int) : Ann := .none
def s_l1In_P (x : Int) (lo : Int) (hi : Int) : Prop :=
  ((decide (x ≥ lo)) = true → (decide (x ≥ lo)) = true) ∧ ((decide (x ≥ lo)) = true → (decide (x ≥ lo)) = true) ∧ (true = true) ∧ (((decide (x ≥ lo)) = true → (decide (x ≥ lo)) = true)) ∧ (((decide (x ≥ lo)) = false → true = true)) ∧ (((cond (decide (x ≥ lo)) (decide (x ≤ hi)) false) = decide (lo ≤ x ∧ x ≤ hi)))
theorem s_l1In_vc (x : Int) (lo : Int) (hi : Int)  : s_l1In_P x lo hi := by
  unfold s_l1In_P
  refine ⟨id, id, rfl, id, fun _ => rfl, ?_⟩
  · first | omega | rfl | (simp at * <;> omega) | (simp_all <;> omega) | (simp_all; done)
theorem s_l1In_pc (x : Int) (lo : Int) (hi : Int)  : PC Try.prog 36 [.int .i64 x, .int .i64 lo, .int .i64 hi] (.one (.d (.bool (decide (lo ≤ x ∧ x ≤ hi))))) :=
  pc_by Try.func36 @Try.call36 (by kernel_rfl) s_l1In_C (s_l1In_A x lo hi) (by kernel_rfl) (s_l1In_vc x lo hi) (by kernel_rfl)
def s_l1In_orc : List D → Orc := orcN [none, none, none] fun ds => match ds with
  | [.int .i64 x, .int .i64 lo, .int .i64 hi] => some (.one (.d (.bool (decide (lo ≤ x ∧ x ≤ hi)))))
  | _ => none

abbrev i_HarmonicOf_JJ0 (n : Int) (total : Int) (i : Int) : Prop := (0 ≤ i) ∧ (i ≤ n) ∧ (total = harmSum i.toNat) ∧ (0 ≤ n ∧ n ≤ 8)
abbrev i_HarmonicOf_mJ0 (n : Int) (total : Int) (i : Int) : Nat := (n - i).toNat
def i_HarmonicOf_C (f : FuncId) (ds : List D) : Orc := bif Nat.beq f 37 then i_between_orc ds else .no
def i_HarmonicOf_A (n : Int) : Ann := .two (.none) (.two (.none) (.two (.none) (.two (.two (.none) (.loop (cut2 (fun (total : Int) (i : Int) => i_HarmonicOf_JJ0 n total i) (fun (total : Int) (i : Int) => [(4, .d true (.int .i64 total)), (9, .d false (.int .i64 n)), (10, .d true (.int .i64 i))]) (fun (total : Int) (i : Int) => [])) (fun g => i_HarmonicOf_mJ0 n g.1 g.2) (fun g => .none))) (.none))))
def i_HarmonicOf_P (n : Int) : Prop :=
  (PC Try.prog 37 [.int .i64 n, .int .i64 0, .int .i64 8] (.one (.d (.bool (decide (0 ≤ n ∧ n ≤ 8)))))) ∧ (((!(decide (0 ≤ n ∧ n ≤ 8))) = true → (((0 : Int) = harm n) ∧ (false = decide (0 ≤ n ∧ n ≤ 8)))) ∧ ((!(decide (0 ≤ n ∧ n ≤ 8))) = false → ((∃ total' : Int, ∃ i' : Int, (i_HarmonicOf_JJ0 n total' i') ∧ ((0 : Int) = total') ∧ (n = n) ∧ ((0 : Int) = i')) ∧ (∀ total : Int, ∀ i : Int, (i_HarmonicOf_JJ0 n total i) → (((decide (i < n)) = true → (-9223372036854775808 ≤ (i + 1) ∧ (i + 1) ≤ 9223372036854775807) ∧ ((0 : Int) ≤ 840 ∧ (840 : Int) ≤ 9223372036854775807) ∧ ((1 : Int) ≤ (i + 1)) ∧ (-9223372036854775808 ≤ (total + (840 / (i + 1))) ∧ (total + (840 / (i + 1))) ≤ 9223372036854775807) ∧ (-9223372036854775808 ≤ (i + 1) ∧ (i + 1) ≤ 9223372036854775807) ∧ (∃ total' : Int, ∃ i' : Int, (i_HarmonicOf_JJ0 n total' i') ∧ (i_HarmonicOf_mJ0 n total' i' < i_HarmonicOf_mJ0 n total i) ∧ ((total + (840 / (i + 1))) = total') ∧ (n = n) ∧ ((i + 1) = i'))) ∧ ((decide (i < n)) = false → ((total = harm n) ∧ (true = decide (0 ≤ n ∧ n ≤ 8)))))))))
theorem i_HarmonicOf_vc (n : Int)  : i_HarmonicOf_P n := by
  unfold i_HarmonicOf_P
  refine ⟨i_between_pc n 0 8, ?_, ?_⟩
  · intro b1
    refine ⟨?_, ?_⟩
    · have e : ¬ (0 ≤ n ∧ n ≤ 8) := by simp at b1; omega
      simp [harm, e]
    · have e : ¬ (0 ≤ n ∧ n ≤ 8) := by simp at b1; omega
      simp [e]
  · intro b2
    refine ⟨?_, ?_⟩
    · refine ⟨0, 0, ?_⟩
      refine ⟨?_, rfl, rfl, rfl⟩
      · refine ⟨?_, ?_, ?_, ?_⟩
        · first | omega | rfl | (simp at * <;> omega) | (simp_all <;> omega) | (simp_all; done)
        · first | omega | rfl | (simp at * <;> omega) | (simp_all <;> omega) | (simp_all; done)
        · first | omega | rfl | (simp at * <;> omega) | (simp_all <;> omega) | (simp_all; done)
        · simpa using b2
    · intro total i hJ
      obtain ⟨h1, h2, h3, h4⟩ := hJ
      refine ⟨?_, ?_⟩
      · intro b3
        refine ⟨?_, ?_, ?_, ?_, ?_, ?_⟩
        · first | omega | rfl | (simp at * <;> omega) | (simp_all <;> omega) | (simp_all; done)
        · first | omega | rfl | (simp at * <;> omega) | (simp_all <;> omega) | (simp_all; done)
        · first | omega | rfl | (simp at * <;> omega) | (simp_all <;> omega) | (simp_all; done)
        · have h5 := harmSum_bound i.toNat
          have h6 : (840 : Int) / (i + 1) ≤ 840 := Int.ediv_le_self _ (by omega)
          have h7 : 0 ≤ (840 : Int) / (i + 1) := Int.ediv_nonneg (by omega) (by omega)
          omega
        · first | omega | rfl | (simp at * <;> omega) | (simp_all <;> omega) | (simp_all; done)
        · refine ⟨(total + (840 / (i + 1))), (i + 1), ?_⟩
          refine ⟨?_, ?_, rfl, rfl, rfl⟩
          · refine ⟨?_, ?_, ?_, ?_⟩
            · first | omega | rfl | (simp at * <;> omega) | (simp_all <;> omega) | (simp_all; done)
            · first | omega | rfl | (simp at * <;> omega) | (simp_all <;> omega) | (simp_all; done)
            · rw [h3, harmSum_step h1]
            · first | omega | rfl | (simp at * <;> omega) | (simp_all <;> omega) | (simp_all; done)
          · first | (show _ < _; omega) | (simp only [i_HarmonicOf_mJ0]; omega) | (simp only [i_HarmonicOf_mJ0] at *; simp at *; omega)
      · intro b4
        refine ⟨?_, ?_⟩
        · have e : i = n := by simp at b4; omega
          simp [harm, h4, h3, e]
        · simp [h4]
theorem i_HarmonicOf_pc (n : Int)  : PC Try.prog 10 [.int .i64 n] (.tup [.d (.int .i64 (harm n)), .d (.bool (decide (0 ≤ n ∧ n ≤ 8)))]) :=
  pc_by Try.func10 @Try.call10 (by kernel_rfl) i_HarmonicOf_C (i_HarmonicOf_A n) (by kernel_rfl) (i_HarmonicOf_vc n) (by kernel_rfl)
def i_HarmonicOf_orc : List D → Orc := orcN [none] fun ds => match ds with
  | [.int .i64 n] => some (.tup [.d (.int .i64 (harm n)), .d (.bool (decide (0 ≤ n ∧ n ≤ 8)))])
  | _ => none

abbrev s_HarmonicOf_JJ0 (n : Int) (total : Int) (i : Int) : Prop := (1 ≤ i) ∧ (i ≤ n + 1) ∧ (total = harmSum (i - 1).toNat) ∧ (0 ≤ n ∧ n ≤ 8)
abbrev s_HarmonicOf_mJ0 (n : Int) (total : Int) (i : Int) : Nat := (n + 1 - i).toNat
def s_HarmonicOf_C (f : FuncId) (ds : List D) : Orc := bif Nat.beq f 36 then s_l1In_orc ds else .no
def s_HarmonicOf_A (n : Int) : Ann := .two (.none) (.two (.none) (.two (.none) (.two (.two (.none) (.loop (cut2 (fun (total : Int) (i : Int) => s_HarmonicOf_JJ0 n total i) (fun (total : Int) (i : Int) => [(0, .d false (.int .i64 n)), (4, .d true (.int .i64 total)), (5, .d true (.int .i64 i))]) (fun (total : Int) (i : Int) => [])) (fun g => s_HarmonicOf_mJ0 n g.1 g.2) (fun g => .none))) (.none))))
def s_HarmonicOf_P (n : Int) : Prop :=
  (PC Try.prog 36 [.int .i64 n, .int .i64 0, .int .i64 8] (.one (.d (.bool (decide (0 ≤ n ∧ n ≤ 8)))))) ∧ (((!(decide (0 ≤ n ∧ n ≤ 8))) = true → (((0 : Int) = harm n) ∧ (false = decide (0 ≤ n ∧ n ≤ 8)))) ∧ ((!(decide (0 ≤ n ∧ n ≤ 8))) = false → ((∃ total' : Int, ∃ i' : Int, (s_HarmonicOf_JJ0 n total' i') ∧ (n = n) ∧ ((0 : Int) = total') ∧ ((1 : Int) = i')) ∧ (∀ total : Int, ∀ i : Int, (s_HarmonicOf_JJ0 n total i) → (((decide (i ≤ n)) = true → ((0 : Int) ≤ 840 ∧ (840 : Int) ≤ 9223372036854775807) ∧ ((1 : Int) ≤ i) ∧ (-9223372036854775808 ≤ (total + (840 / i)) ∧ (total + (840 / i)) ≤ 9223372036854775807) ∧ (-9223372036854775808 ≤ (i + 1) ∧ (i + 1) ≤ 9223372036854775807) ∧ (∃ total' : Int, ∃ i' : Int, (s_HarmonicOf_JJ0 n total' i') ∧ (s_HarmonicOf_mJ0 n total' i' < s_HarmonicOf_mJ0 n total i) ∧ (n = n) ∧ ((total + (840 / i)) = total') ∧ ((i + 1) = i'))) ∧ ((decide (i ≤ n)) = false → ((total = harm n) ∧ (true = decide (0 ≤ n ∧ n ≤ 8)))))))))
theorem s_HarmonicOf_vc (n : Int)  : s_HarmonicOf_P n := by
  unfold s_HarmonicOf_P
  refine ⟨s_l1In_pc n 0 8, ?_, ?_⟩
  · intro b1
    refine ⟨?_, ?_⟩
    · have e : ¬ (0 ≤ n ∧ n ≤ 8) := by simp at b1; omega
      simp [harm, e]
    · have e : ¬ (0 ≤ n ∧ n ≤ 8) := by simp at b1; omega
      simp [e]
  · intro b2
    refine ⟨?_, ?_⟩
    · refine ⟨0, 1, ?_⟩
      refine ⟨?_, rfl, rfl, rfl⟩
      · refine ⟨?_, ?_, ?_, ?_⟩
        · first | omega | rfl | (simp at * <;> omega) | (simp_all <;> omega) | (simp_all; done)
        · first | omega | rfl | (simp at * <;> omega) | (simp_all <;> omega) | (simp_all; done)
        · first | omega | rfl | (simp at * <;> omega) | (simp_all <;> omega) | (simp_all; done)
        · simpa using b2
    · intro total i hJ
      obtain ⟨h1, h2, h3, h4⟩ := hJ
      refine ⟨?_, ?_⟩
      · intro b3
        refine ⟨?_, ?_, ?_, ?_, ?_⟩
        · first | omega | rfl | (simp at * <;> omega) | (simp_all <;> omega) | (simp_all; done)
        · first | omega | rfl | (simp at * <;> omega) | (simp_all <;> omega) | (simp_all; done)
        · have h5 := harmSum_bound (i - 1).toNat
          have h6 : (840 : Int) / i ≤ 840 := Int.ediv_le_self _ (by omega)
          have h7 : 0 ≤ (840 : Int) / i := Int.ediv_nonneg (by omega) (by omega)
          omega
        · first | omega | rfl | (simp at * <;> omega) | (simp_all <;> omega) | (simp_all; done)
        · refine ⟨(total + (840 / i)), (i + 1), ?_⟩
          refine ⟨?_, ?_, rfl, rfl, rfl⟩
          · refine ⟨?_, ?_, ?_, ?_⟩
            · first | omega | rfl | (simp at * <;> omega) | (simp_all <;> omega) | (simp_all; done)
            · first | omega | rfl | (simp at * <;> omega) | (simp_all <;> omega) | (simp_all; done)
            · have e := harmSum_step (i := i - 1) (by omega)
              rw [show i - 1 + 1 = i by omega] at e
              rw [h3, show i + 1 - 1 = i by omega, e]
            · first | omega | rfl | (simp at * <;> omega) | (simp_all <;> omega) | (simp_all; done)
          · first | (show _ < _; omega) | (simp only [s_HarmonicOf_mJ0]; omega) | (simp only [s_HarmonicOf_mJ0] at *; simp at *; omega)
      · intro b4
        refine ⟨?_, ?_⟩
        · have e : i - 1 = n := by simp at b4; omega
          simp [harm, h4, h3, e]
        · simp [h4]
theorem s_HarmonicOf_pc (n : Int)  : PC Try.prog 9 [.int .i64 n] (.tup [.d (.int .i64 (harm n)), .d (.bool (decide (0 ≤ n ∧ n ≤ 8)))]) :=
  pc_by Try.func9 @Try.call9 (by kernel_rfl) s_HarmonicOf_C (s_HarmonicOf_A n) (by kernel_rfl) (s_HarmonicOf_vc n) (by kernel_rfl)
def s_HarmonicOf_orc : List D → Orc := orcN [none] fun ds => match ds with
  | [.int .i64 n] => some (.tup [.d (.int .i64 (harm n)), .d (.bool (decide (0 ≤ n ∧ n ≤ 8)))])
  | _ => none

def l_FnExactHarmonicOf_C (f : FuncId) (ds : List D) : Orc := bif Nat.beq f 9 then s_HarmonicOf_orc ds else bif Nat.beq f 10 then i_HarmonicOf_orc ds else .no
def l_FnExactHarmonicOf_A (n : Int) : Ann := .none
def l_FnExactHarmonicOf_P (n : Int) : Prop :=
  (PC Try.prog 9 [.int .i64 n] (.tup [.d (.int .i64 (harm n)), .d (.bool (decide (0 ≤ n ∧ n ≤ 8)))])) ∧ (PC Try.prog 10 [.int .i64 n] (.tup [.d (.int .i64 (harm n)), .d (.bool (decide (0 ≤ n ∧ n ≤ 8)))])) ∧ ((!(harm n != harm n)) = true → (!(harm n != harm n)) = true) ∧ ((!(harm n != harm n)) = true → (!(harm n != harm n)) = true) ∧ (true = true) ∧ (((harm n != harm n) = true → true = true)) ∧ (((harm n != harm n) = false → (!(harm n != harm n)) = true)) ∧ (((cond (harm n != harm n) true (decide (0 ≤ n ∧ n ≤ 8) != decide (0 ≤ n ∧ n ≤ 8))) = true → ((false = true))) ∧ ((cond (harm n != harm n) true (decide (0 ≤ n ∧ n ≤ 8) != decide (0 ≤ n ∧ n ≤ 8))) = false → ((true = true))))
theorem l_FnExactHarmonicOf_vc (n : Int)  : l_FnExactHarmonicOf_P n := by
  unfold l_FnExactHarmonicOf_P
  refine ⟨s_HarmonicOf_pc n, i_HarmonicOf_pc n, id, id, rfl, fun _ => rfl, ?_, ?_, ?_⟩
  · first | omega | rfl | (simp at * <;> omega) | (simp_all <;> omega) | (simp_all; done)
  · intro b1
    first | omega | rfl | (simp at * <;> omega) | (simp_all <;> omega) | (simp_all; done)
  · intro b2
    exact rfl
theorem l_FnExactHarmonicOf_pc (n : Int)  : PC Try.prog 3 [.int .i64 n] (.one (.d (.bool true))) :=
  pc_by Try.func3 @Try.call3 (by kernel_rfl) l_FnExactHarmonicOf_C (l_FnExactHarmonicOf_A n) (by kernel_rfl) (l_FnExactHarmonicOf_vc n) (by kernel_rfl)
def l_FnExactHarmonicOf_orc : List D → Orc := orcN [none] fun ds => match ds with
  | [.int .i64 n] => some (.one (.d (.bool true)))
  | _ => none

end Go.Proofs.Ytfcbkpcpibblgaa
