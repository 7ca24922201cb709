/- Contracts of the functions that the law reaches. -/
import Derived.Test.YtmmoejdglnnmcaaPw
import Derived.Test.YtmmoejdglnnmcaaPma
import Derived.Test.YtmmoejdglnnmcaaProg
import Derived.KernelRfl
set_option linter.unusedVariables false
set_option linter.unusedSimpArgs false
namespace Go.Proofs.Ytmmoejdglnnmcaa
open Go

def s_l1In_C (f : FuncId) (ds : List D) : Orc := .no
def s_l1In_A (x : Int) (a : Int) (b : Int) : Ann := .none
def s_l1In_P (x : Int) (a : Int) (b : Int) : Prop :=
  ((decide (x ≥ a)) = true → (decide (x ≥ a)) = true) ∧ ((decide (x ≥ a)) = true → (decide (x ≥ a)) = true) ∧ (true = true) ∧ (((decide (x ≥ a)) = true → (decide (x ≥ a)) = true)) ∧ (((decide (x ≥ a)) = false → true = true)) ∧ (((cond (decide (x ≥ a)) (decide (x ≤ b)) false) = (inB x a b)))
theorem s_l1In_vc (x : Int) (a : Int) (b : Int)   : s_l1In_P x a b := by
  unfold s_l1In_P
  refine ⟨id, id, rfl, id, fun _ => rfl, ?_⟩
  · first | omega | rfl | (intro hg; simp only [nrmT] at hg; omega) | (intro g1 g2; simp [g1, g2]; done) | (intro g1; simp at g1 ⊢; simp [g1]; done) | (simp only [nrmT] at *; omega) | (simp at * <;> omega) | (simp_all <;> omega) | (simp_all; done) | (simp [inB]; omega) | (simp only [inB]; by_cases h : a ≤ x <;> simp_all)
theorem s_l1In_pc (x : Int) (a : Int) (b : Int)  : PC Try.prog 78 [.int .i64 x, .int .i64 a, .int .i64 b] (.one (.d (.bool (inB x a b)))) :=
  pc_wf @Try.call78 fun _ => pc_by (by kernel_rfl) Try.func78 @Try.call78 (by kernel_rfl) s_l1In_C (s_l1In_A x a b) (by kernel_rfl) (s_l1In_vc x a b) (by kernel_rfl)
def s_l1In_orc : List D → Orc := orcN [none, none, none] fun ds => match ds with
  | [.int .i64 x, .int .i64 a, .int .i64 b] => some (.one (.d (.bool (inB x a b))))
  | _ => none
def i_between_C (f : FuncId) (ds : List D) : Orc := .no
def i_between_A (x : Int) (a : Int) (b : Int) : Ann := .none
def i_between_P (x : Int) (a : Int) (b : Int) : Prop :=
  ((decide (x ≥ a)) = true → (decide (x ≥ a)) = true) ∧ ((decide (x ≥ a)) = true → (decide (x ≥ a)) = true) ∧ (true = true) ∧ (((decide (x ≥ a)) = true → (decide (x ≥ a)) = true)) ∧ (((decide (x ≥ a)) = false → true = true)) ∧ (((cond (decide (x ≥ a)) (decide (x ≤ b)) false) = (inB x a b)))
theorem i_between_vc (x : Int) (a : Int) (b : Int)   : i_between_P x a b := by
  unfold i_between_P
  refine ⟨id, id, rfl, id, fun _ => rfl, ?_⟩
  · first | omega | rfl | (intro hg; simp only [nrmT] at hg; omega) | (intro g1 g2; simp [g1, g2]; done) | (intro g1; simp at g1 ⊢; simp [g1]; done) | (simp only [nrmT] at *; omega) | (simp at * <;> omega) | (simp_all <;> omega) | (simp_all; done) | (simp [inB]; omega) | (simp only [inB]; by_cases h : a ≤ x <;> simp_all)
theorem i_between_pc (x : Int) (a : Int) (b : Int)  : PC Try.prog 82 [.int .i64 x, .int .i64 a, .int .i64 b] (.one (.d (.bool (inB x a b)))) :=
  pc_wf @Try.call82 fun _ => pc_by (by kernel_rfl) Try.func82 @Try.call82 (by kernel_rfl) i_between_C (i_between_A x a b) (by kernel_rfl) (i_between_vc x a b) (by kernel_rfl)
def i_between_orc : List D → Orc := orcN [none, none, none] fun ds => match ds with
  | [.int .i64 x, .int .i64 a, .int .i64 b] => some (.one (.d (.bool (inB x a b))))
  | _ => none
def risingP (xs : List Int) (lo hi : Int) (k : Nat) : Bool := inB (xs.getD k 0) lo hi && (decide (k = 0) || decide (xs.getD (k - 1) 0 < xs.getD k 0))
def rising (xs : List Int) (lo hi : Int) : Bool := allTo (risingP xs lo hi) xs.length
theorem rising_step {xs : List Int} {lo hi i : Int} (h0 : 0 ≤ i) {c : Bool} (hc : (cond (!(inB (xs.getD i.toNat 0) lo hi)) true (cond (decide (i > 0)) (decide (xs.getD (i - 1).toNat 0 ≥ xs.getD i.toNat 0)) false)) = c) :
    risingP xs lo hi i.toNat = !c := by
  subst hc
  have e : (i - 1).toNat = i.toNat - 1 := by omega
  unfold risingP
  rw [e]
  cases inB (xs.getD i.toNat 0) lo hi
  · rfl
  · by_cases h : i > 0
    · have h2 : ¬ i.toNat = 0 := by omega
      simp [h, h2]
      by_cases h3 : xs[i.toNat - 1]?.getD 0 < xs[i.toNat]?.getD 0
      · simp [h3]
      · simp [h3]; omega
    · have h2 : i.toNat = 0 := by omega
      simp [h, h2]
abbrev s_l1Rising_JJ0 (xs : List Int) (lo : Int) (hi : Int) (i : Int) : Prop := (0 ≤ i) ∧ (i ≤ (xs.length : Int)) ∧ (allTo (risingP xs lo hi) i.toNat = true)
abbrev s_l1Rising_mJ0 (xs : List Int) (lo : Int) (hi : Int) (i : Int) : Nat := (xs.length - i).toNat
def s_l1Rising_C (f : FuncId) (ds : List D) : Orc := bif Nat.beq f 78 then s_l1In_orc ds else .no
def s_l1Rising_A (xs : List Int) (lo : Int) (hi : Int) : Ann := .two (.none) (.two (.two (.none) (.loop (cut1 (fun (i : Int) => s_l1Rising_JJ0 xs lo hi i) (fun (i : Int) => [(0, .d false (.sl (.ints xs))), (1, .d false (.int .i64 lo)), (2, .d false (.int .i64 hi)), (7, .d true (.int .i64 i))]) (fun (i : Int) => [])) (fun g => s_l1Rising_mJ0 xs lo hi g) (fun _ => .none))) (.none))
def s_l1Rising_P (xs : List Int) (lo : Int) (hi : Int) : Prop :=
  ((∃ i' : Int, (s_l1Rising_JJ0 xs lo hi i') ∧ (xs = xs) ∧ (lo = lo) ∧ (hi = hi) ∧ ((0 : Int) = i')) ∧ (∀ i : Int, (s_l1Rising_JJ0 xs lo hi i) → (((decide (i < (xs.length : Int))) = true → (true = true) ∧ ((0 : Int) ≤ i) ∧ ((i : Int) < xs.length) ∧ (i.toNat < xs.length) ∧ (PC Try.prog 78 [.int .i64 (xs.getD i.toNat 0), .int .i64 lo, .int .i64 hi] (.one (.d (.bool (inB (xs.getD i.toNat 0) lo hi))))) ∧ ((!(!(inB (xs.getD i.toNat 0) lo hi))) = true → (!(!(inB (xs.getD i.toNat 0) lo hi))) = true) ∧ ((!(!(inB (xs.getD i.toNat 0) lo hi))) = true → (!(!(inB (xs.getD i.toNat 0) lo hi))) = true) ∧ (((!(!(inB (xs.getD i.toNat 0) lo hi))) && (decide (i > 0))) = true → ((!(!(inB (xs.getD i.toNat 0) lo hi))) && (decide (i > 0))) = true) ∧ ((((!(!(inB (xs.getD i.toNat 0) lo hi))) && (decide (i > 0))) = true → -9223372036854775808 ≤ (i - 1) ∧ (i - 1) ≤ 9223372036854775807)) ∧ (((!(!(inB (xs.getD i.toNat 0) lo hi))) && (decide (i > 0))) = true → ((!(!(inB (xs.getD i.toNat 0) lo hi))) && (decide (i > 0))) = true) ∧ (((!(!(inB (xs.getD i.toNat 0) lo hi))) && (decide (i > 0))) = true → ((!(!(inB (xs.getD i.toNat 0) lo hi))) && (decide (i > 0))) = true) ∧ ((((!(!(inB (xs.getD i.toNat 0) lo hi))) && (decide (i > 0))) = true → (0 : Int) ≤ (i - 1))) ∧ ((((!(!(inB (xs.getD i.toNat 0) lo hi))) && (decide (i > 0))) = true → ((i - 1) : Int) < xs.length)) ∧ (((!(!(inB (xs.getD i.toNat 0) lo hi))) && (decide (i > 0))) = true → ((!(!(inB (xs.getD i.toNat 0) lo hi))) && (decide (i > 0))) = true) ∧ ((((!(!(inB (xs.getD i.toNat 0) lo hi))) && (decide (i > 0))) = true → (i - 1).toNat < xs.length)) ∧ (((!(!(inB (xs.getD i.toNat 0) lo hi))) && (decide (i > 0))) = true → ((!(!(inB (xs.getD i.toNat 0) lo hi))) && (decide (i > 0))) = true) ∧ (((!(!(inB (xs.getD i.toNat 0) lo hi))) && (decide (i > 0))) = true → ((!(!(inB (xs.getD i.toNat 0) lo hi))) && (decide (i > 0))) = true) ∧ ((((!(!(inB (xs.getD i.toNat 0) lo hi))) && (decide (i > 0))) = true → (0 : Int) ≤ i)) ∧ ((((!(!(inB (xs.getD i.toNat 0) lo hi))) && (decide (i > 0))) = true → (i : Int) < xs.length)) ∧ (((!(!(inB (xs.getD i.toNat 0) lo hi))) && (decide (i > 0))) = true → ((!(!(inB (xs.getD i.toNat 0) lo hi))) && (decide (i > 0))) = true) ∧ ((((!(!(inB (xs.getD i.toNat 0) lo hi))) && (decide (i > 0))) = true → i.toNat < xs.length)) ∧ (((!(!(inB (xs.getD i.toNat 0) lo hi))) && (decide (i > 0))) = true → ((!(!(inB (xs.getD i.toNat 0) lo hi))) && (decide (i > 0))) = true) ∧ (((!(!(inB (xs.getD i.toNat 0) lo hi))) && (decide (i > 0))) = true → ((!(!(inB (xs.getD i.toNat 0) lo hi))) && (decide (i > 0))) = true) ∧ (((!(!(inB (xs.getD i.toNat 0) lo hi))) = true → (!(!(inB (xs.getD i.toNat 0) lo hi))) = true)) ∧ (((!(!(inB (xs.getD i.toNat 0) lo hi))) = true → (decide (i > 0)) = true → ((!(!(inB (xs.getD i.toNat 0) lo hi))) && (decide (i > 0))) = true)) ∧ (((!(!(inB (xs.getD i.toNat 0) lo hi))) = true → (decide (i > 0)) = false → true = true)) ∧ (true = true) ∧ (((!(inB (xs.getD i.toNat 0) lo hi)) = true → true = true)) ∧ (((!(inB (xs.getD i.toNat 0) lo hi)) = false → (!(!(inB (xs.getD i.toNat 0) lo hi))) = true)) ∧ (((cond (!(inB (xs.getD i.toNat 0) lo hi)) true (cond (decide (i > 0)) (decide ((xs.getD ((i - 1).toNat) 0) ≥ (xs.getD i.toNat 0))) false)) = true → ((false = (rising xs lo hi)))) ∧ ((cond (!(inB (xs.getD i.toNat 0) lo hi)) true (cond (decide (i > 0)) (decide ((xs.getD ((i - 1).toNat) 0) ≥ (xs.getD i.toNat 0))) false)) = false → (-9223372036854775808 ≤ (i + 1) ∧ (i + 1) ≤ 9223372036854775807) ∧ (∃ i' : Int, (s_l1Rising_JJ0 xs lo hi i') ∧ (s_l1Rising_mJ0 xs lo hi i' < s_l1Rising_mJ0 xs lo hi i) ∧ (xs = xs) ∧ (lo = lo) ∧ (hi = hi) ∧ ((i + 1) = i'))))) ∧ ((decide (i < (xs.length : Int))) = false → ((true = (rising xs lo hi)))))))
theorem s_l1Rising_vc (xs : List Int) (lo : Int) (hi : Int)  (w_xs : (xs.length : Int) ≤ 9223372036854775807) : s_l1Rising_P xs lo hi := by
  unfold s_l1Rising_P
  refine ⟨?_, ?_⟩
  · refine ⟨0, ?_⟩
    refine ⟨?_, rfl, rfl, rfl, rfl⟩
    · refine ⟨?_, ?_, ?_⟩
      · first | omega | rfl | (intro hg; simp only [nrmT] at hg; omega) | (intro g1 g2; simp [g1, g2]; done) | (intro g1; simp at g1 ⊢; simp [g1]; done) | (simp only [nrmT] at *; omega) | (simp at * <;> omega) | (simp_all <;> omega) | (simp_all; done)
      · first | omega | rfl | (intro hg; simp only [nrmT] at hg; omega) | (intro g1 g2; simp [g1, g2]; done) | (intro g1; simp at g1 ⊢; simp [g1]; done) | (simp only [nrmT] at *; omega) | (simp at * <;> omega) | (simp_all <;> omega) | (simp_all; done)
      · first | omega | rfl | (intro hg; simp only [nrmT] at hg; omega) | (intro g1 g2; simp [g1, g2]; done) | (intro g1; simp at g1 ⊢; simp [g1]; done) | (simp only [nrmT] at *; omega) | (simp at * <;> omega) | (simp_all <;> omega) | (simp_all; done)
  · intro i hJ
    obtain ⟨h1, h2, h3⟩ := hJ
    refine ⟨?_, ?_⟩
    · intro b1
      try simp only [nrmT] at b1
      refine ⟨rfl, ?_, ?_, ?_, s_l1In_pc (xs.getD i.toNat 0) lo hi, id, id, id, ?_, id, id, ?_, ?_, id, ?_, id, id, ?_, ?_, id, ?_, id, id, id, ?_, fun _ _ => rfl, rfl, fun _ => rfl, ?_, ?_, ?_⟩
      · first | omega | rfl | (intro hg; simp only [nrmT] at hg; omega) | (intro g1 g2; simp [g1, g2]; done) | (intro g1; simp at g1 ⊢; simp [g1]; done) | (simp only [nrmT] at *; omega) | (simp at * <;> omega) | (simp_all <;> omega) | (simp_all; done)
      · first | omega | rfl | (intro hg; simp only [nrmT] at hg; omega) | (intro g1 g2; simp [g1, g2]; done) | (intro g1; simp at g1 ⊢; simp [g1]; done) | (simp only [nrmT] at *; omega) | (simp at * <;> omega) | (simp_all <;> omega) | (simp_all; done)
      · first | omega | rfl | (intro hg; simp only [nrmT] at hg; omega) | (intro g1 g2; simp [g1, g2]; done) | (intro g1; simp at g1 ⊢; simp [g1]; done) | (simp only [nrmT] at *; omega) | (simp at * <;> omega) | (simp_all <;> omega) | (simp_all; done)
      · first | omega | rfl | (intro hg; simp only [nrmT] at hg; omega) | (intro g1 g2; simp [g1, g2]; done) | (intro g1; simp at g1 ⊢; simp [g1]; done) | (simp only [nrmT] at *; omega) | (simp at * <;> omega) | (simp_all <;> omega) | (simp_all; done)
      · first | omega | rfl | (intro hg; simp only [nrmT] at hg; omega) | (intro g1 g2; simp [g1, g2]; done) | (intro g1; simp at g1 ⊢; simp [g1]; done) | (simp only [nrmT] at *; omega) | (simp at * <;> omega) | (simp_all <;> omega) | (simp_all; done)
      · first | omega | rfl | (intro hg; simp only [nrmT] at hg; omega) | (intro g1 g2; simp [g1, g2]; done) | (intro g1; simp at g1 ⊢; simp [g1]; done) | (simp only [nrmT] at *; omega) | (simp at * <;> omega) | (simp_all <;> omega) | (simp_all; done)
      · first | omega | rfl | (intro hg; simp only [nrmT] at hg; omega) | (intro g1 g2; simp [g1, g2]; done) | (intro g1; simp at g1 ⊢; simp [g1]; done) | (simp only [nrmT] at *; omega) | (simp at * <;> omega) | (simp_all <;> omega) | (simp_all; done)
      · first | omega | rfl | (intro hg; simp only [nrmT] at hg; omega) | (intro g1 g2; simp [g1, g2]; done) | (intro g1; simp at g1 ⊢; simp [g1]; done) | (simp only [nrmT] at *; omega) | (simp at * <;> omega) | (simp_all <;> omega) | (simp_all; done)
      · first | omega | rfl | (intro hg; simp only [nrmT] at hg; omega) | (intro g1 g2; simp [g1, g2]; done) | (intro g1; simp at g1 ⊢; simp [g1]; done) | (simp only [nrmT] at *; omega) | (simp at * <;> omega) | (simp_all <;> omega) | (simp_all; done)
      · first | omega | rfl | (intro hg; simp only [nrmT] at hg; omega) | (intro g1 g2; simp [g1, g2]; done) | (intro g1; simp at g1 ⊢; simp [g1]; done) | (simp only [nrmT] at *; omega) | (simp at * <;> omega) | (simp_all <;> omega) | (simp_all; done)
      · first | omega | rfl | (intro hg; simp only [nrmT] at hg; omega) | (intro g1 g2; simp [g1, g2]; done) | (intro g1; simp at g1 ⊢; simp [g1]; done) | (simp only [nrmT] at *; omega) | (simp at * <;> omega) | (simp_all <;> omega) | (simp_all; done)
      · first | omega | rfl | (intro hg; simp only [nrmT] at hg; omega) | (intro g1 g2; simp [g1, g2]; done) | (intro g1; simp at g1 ⊢; simp [g1]; done) | (simp only [nrmT] at *; omega) | (simp at * <;> omega) | (simp_all <;> omega) | (simp_all; done)
      · intro b2
        have e := rising_step h1 b2
        exact (allTo_falseI h1 (by omega) e).symm
      · intro b3
        refine ⟨?_, ?_⟩
        · first | omega | rfl | (intro hg; simp only [nrmT] at hg; omega) | (intro g1 g2; simp [g1, g2]; done) | (intro g1; simp at g1 ⊢; simp [g1]; done) | (simp only [nrmT] at *; omega) | (simp at * <;> omega) | (simp_all <;> omega) | (simp_all; done)
        · refine ⟨(i + 1), ?_⟩
          refine ⟨?_, ?_, rfl, rfl, rfl, rfl⟩
          · refine ⟨?_, ?_, ?_⟩
            · first | omega | rfl | (intro hg; simp only [nrmT] at hg; omega) | (intro g1 g2; simp [g1, g2]; done) | (intro g1; simp at g1 ⊢; simp [g1]; done) | (simp only [nrmT] at *; omega) | (simp at * <;> omega) | (simp_all <;> omega) | (simp_all; done)
            · first | omega | rfl | (intro hg; simp only [nrmT] at hg; omega) | (intro g1 g2; simp [g1, g2]; done) | (intro g1; simp at g1 ⊢; simp [g1]; done) | (simp only [nrmT] at *; omega) | (simp at * <;> omega) | (simp_all <;> omega) | (simp_all; done)
            · have e := rising_step h1 b3
              exact allTo_step h1 h3 e
          · first | (show _ < _; omega) | (simp only [s_l1Rising_mJ0]; omega) | (simp only [s_l1Rising_mJ0] at *; simp at *; omega)
    · intro b4
      try simp only [nrmT] at b4
      have e : i.toNat = xs.length := by omega
      rw [e] at h3
      exact h3.symm
theorem s_l1Rising_pc (xs : List Int) (lo : Int) (hi : Int)  : PC Try.prog 181 [.sl (.ints xs), .int .i64 lo, .int .i64 hi] (.one (.d (.bool (rising xs lo hi)))) :=
  pc_wf @Try.call181 fun hw => pc_by (by kernel_rfl) Try.func181 @Try.call181 (by kernel_rfl) s_l1Rising_C (s_l1Rising_A xs lo hi) (by kernel_rfl) (s_l1Rising_vc xs lo hi hw.1) (by kernel_rfl)
def s_l1Rising_orc : List D → Orc := orcN [some .ints, none, none] fun ds => match ds with
  | [.sl (.ints xs), .int .i64 lo, .int .i64 hi] => some (.one (.d (.bool (rising xs lo hi))))
  | _ => none
abbrev i_isRising_JJ0 (xs : List Int) (below : Int) (i : Int) : Prop := (0 ≤ i) ∧ (i ≤ (xs.length : Int)) ∧ (allTo (risingP xs 0 (below - 1)) i.toNat = true)
abbrev i_isRising_mJ0 (xs : List Int) (below : Int) (i : Int) : Nat := (xs.length - i).toNat
def i_isRising_C (f : FuncId) (ds : List D) : Orc := bif Nat.beq f 82 then i_between_orc ds else .no
def i_isRising_A (xs : List Int) (below : Int) : Ann := .two (.none) (.two (.two (.none) (.loop (cut1 (fun (i : Int) => i_isRising_JJ0 xs below i) (fun (i : Int) => [(0, .d false (.sl (.ints xs))), (1, .d false (.int .i64 below)), (7, .d false (.sl (.ints xs))), (8, .d true (.int .i64 (xs.length : Int))), (9, .d true (.int .i64 i))]) (fun (i : Int) => [])) (fun g => i_isRising_mJ0 xs below g) (fun _ => .none))) (.none))
def i_isRising_P (xs : List Int) (below : Int) : Prop :=
  ((∃ i' : Int, (i_isRising_JJ0 xs below i') ∧ (xs = xs) ∧ (below = below) ∧ (xs = xs) ∧ ((xs.length : Int) = (xs.length : Int)) ∧ ((0 : Int) = i')) ∧ (∀ i : Int, (i_isRising_JJ0 xs below i) → (((decide (i < (xs.length : Int))) = true → ((0 : Int) ≤ i) ∧ ((i : Int) < xs.length) ∧ (i.toNat < xs.length) ∧ (-9223372036854775808 ≤ (below - 1) ∧ (below - 1) ≤ 9223372036854775807) ∧ (PC Try.prog 82 [.int .i64 (xs.getD i.toNat 0), .int .i64 0, .int .i64 (below - 1)] (.one (.d (.bool (inB (xs.getD i.toNat 0) 0 (below - 1)))))) ∧ ((!(!(inB (xs.getD i.toNat 0) 0 (below - 1)))) = true → (!(!(inB (xs.getD i.toNat 0) 0 (below - 1)))) = true) ∧ ((!(!(inB (xs.getD i.toNat 0) 0 (below - 1)))) = true → (!(!(inB (xs.getD i.toNat 0) 0 (below - 1)))) = true) ∧ (((!(!(inB (xs.getD i.toNat 0) 0 (below - 1)))) && (decide (i > 0))) = true → ((!(!(inB (xs.getD i.toNat 0) 0 (below - 1)))) && (decide (i > 0))) = true) ∧ ((((!(!(inB (xs.getD i.toNat 0) 0 (below - 1)))) && (decide (i > 0))) = true → -9223372036854775808 ≤ (i - 1) ∧ (i - 1) ≤ 9223372036854775807)) ∧ (((!(!(inB (xs.getD i.toNat 0) 0 (below - 1)))) && (decide (i > 0))) = true → ((!(!(inB (xs.getD i.toNat 0) 0 (below - 1)))) && (decide (i > 0))) = true) ∧ (((!(!(inB (xs.getD i.toNat 0) 0 (below - 1)))) && (decide (i > 0))) = true → ((!(!(inB (xs.getD i.toNat 0) 0 (below - 1)))) && (decide (i > 0))) = true) ∧ ((((!(!(inB (xs.getD i.toNat 0) 0 (below - 1)))) && (decide (i > 0))) = true → (0 : Int) ≤ (i - 1))) ∧ ((((!(!(inB (xs.getD i.toNat 0) 0 (below - 1)))) && (decide (i > 0))) = true → ((i - 1) : Int) < xs.length)) ∧ (((!(!(inB (xs.getD i.toNat 0) 0 (below - 1)))) && (decide (i > 0))) = true → ((!(!(inB (xs.getD i.toNat 0) 0 (below - 1)))) && (decide (i > 0))) = true) ∧ ((((!(!(inB (xs.getD i.toNat 0) 0 (below - 1)))) && (decide (i > 0))) = true → (i - 1).toNat < xs.length)) ∧ (((!(!(inB (xs.getD i.toNat 0) 0 (below - 1)))) && (decide (i > 0))) = true → ((!(!(inB (xs.getD i.toNat 0) 0 (below - 1)))) && (decide (i > 0))) = true) ∧ (((!(!(inB (xs.getD i.toNat 0) 0 (below - 1)))) && (decide (i > 0))) = true → ((!(!(inB (xs.getD i.toNat 0) 0 (below - 1)))) && (decide (i > 0))) = true) ∧ (((!(!(inB (xs.getD i.toNat 0) 0 (below - 1)))) = true → (!(!(inB (xs.getD i.toNat 0) 0 (below - 1)))) = true)) ∧ (((!(!(inB (xs.getD i.toNat 0) 0 (below - 1)))) = true → (decide (i > 0)) = true → ((!(!(inB (xs.getD i.toNat 0) 0 (below - 1)))) && (decide (i > 0))) = true)) ∧ (((!(!(inB (xs.getD i.toNat 0) 0 (below - 1)))) = true → (decide (i > 0)) = false → true = true)) ∧ (true = true) ∧ (((!(inB (xs.getD i.toNat 0) 0 (below - 1))) = true → true = true)) ∧ (((!(inB (xs.getD i.toNat 0) 0 (below - 1))) = false → (!(!(inB (xs.getD i.toNat 0) 0 (below - 1)))) = true)) ∧ (((cond (!(inB (xs.getD i.toNat 0) 0 (below - 1))) true (cond (decide (i > 0)) (decide ((xs.getD i.toNat 0) ≤ (xs.getD ((i - 1).toNat) 0))) false)) = true → ((false = (rising xs 0 (below - 1))))) ∧ ((cond (!(inB (xs.getD i.toNat 0) 0 (below - 1))) true (cond (decide (i > 0)) (decide ((xs.getD i.toNat 0) ≤ (xs.getD ((i - 1).toNat) 0))) false)) = false → (-9223372036854775808 ≤ (i + 1) ∧ (i + 1) ≤ 9223372036854775807) ∧ (∃ i' : Int, (i_isRising_JJ0 xs below i') ∧ (i_isRising_mJ0 xs below i' < i_isRising_mJ0 xs below i) ∧ (xs = xs) ∧ (below = below) ∧ (xs = xs) ∧ ((xs.length : Int) = (xs.length : Int)) ∧ ((i + 1) = i'))))) ∧ ((decide (i < (xs.length : Int))) = false → ((true = (rising xs 0 (below - 1))))))))
theorem i_isRising_vc (xs : List Int) (below : Int) (hb : -9223372036854775808 < below ∧ below ≤ 9223372036854775807) (w_xs : (xs.length : Int) ≤ 9223372036854775807) : i_isRising_P xs below := by
  unfold i_isRising_P
  refine ⟨?_, ?_⟩
  · refine ⟨0, ?_⟩
    refine ⟨?_, rfl, rfl, rfl, rfl, rfl⟩
    · refine ⟨?_, ?_, ?_⟩
      · first | omega | rfl | (intro hg; simp only [nrmT] at hg; omega) | (intro g1 g2; simp [g1, g2]; done) | (intro g1; simp at g1 ⊢; simp [g1]; done) | (simp only [nrmT] at *; omega) | (simp at * <;> omega) | (simp_all <;> omega) | (simp_all; done)
      · first | omega | rfl | (intro hg; simp only [nrmT] at hg; omega) | (intro g1 g2; simp [g1, g2]; done) | (intro g1; simp at g1 ⊢; simp [g1]; done) | (simp only [nrmT] at *; omega) | (simp at * <;> omega) | (simp_all <;> omega) | (simp_all; done)
      · first | omega | rfl | (intro hg; simp only [nrmT] at hg; omega) | (intro g1 g2; simp [g1, g2]; done) | (intro g1; simp at g1 ⊢; simp [g1]; done) | (simp only [nrmT] at *; omega) | (simp at * <;> omega) | (simp_all <;> omega) | (simp_all; done)
  · intro i hJ
    obtain ⟨h1, h2, h3⟩ := hJ
    refine ⟨?_, ?_⟩
    · intro b1
      try simp only [nrmT] at b1
      refine ⟨?_, ?_, ?_, ?_, i_between_pc (xs.getD i.toNat 0) 0 (below - 1), id, id, id, ?_, id, id, ?_, ?_, id, ?_, id, id, id, ?_, fun _ _ => rfl, rfl, fun _ => rfl, ?_, ?_, ?_⟩
      · first | omega | rfl | (intro hg; simp only [nrmT] at hg; omega) | (intro g1 g2; simp [g1, g2]; done) | (intro g1; simp at g1 ⊢; simp [g1]; done) | (simp only [nrmT] at *; omega) | (simp at * <;> omega) | (simp_all <;> omega) | (simp_all; done)
      · first | omega | rfl | (intro hg; simp only [nrmT] at hg; omega) | (intro g1 g2; simp [g1, g2]; done) | (intro g1; simp at g1 ⊢; simp [g1]; done) | (simp only [nrmT] at *; omega) | (simp at * <;> omega) | (simp_all <;> omega) | (simp_all; done)
      · first | omega | rfl | (intro hg; simp only [nrmT] at hg; omega) | (intro g1 g2; simp [g1, g2]; done) | (intro g1; simp at g1 ⊢; simp [g1]; done) | (simp only [nrmT] at *; omega) | (simp at * <;> omega) | (simp_all <;> omega) | (simp_all; done)
      · first | omega | rfl | (intro hg; simp only [nrmT] at hg; omega) | (intro g1 g2; simp [g1, g2]; done) | (intro g1; simp at g1 ⊢; simp [g1]; done) | (simp only [nrmT] at *; omega) | (simp at * <;> omega) | (simp_all <;> omega) | (simp_all; done)
      · first | omega | rfl | (intro hg; simp only [nrmT] at hg; omega) | (intro g1 g2; simp [g1, g2]; done) | (intro g1; simp at g1 ⊢; simp [g1]; done) | (simp only [nrmT] at *; omega) | (simp at * <;> omega) | (simp_all <;> omega) | (simp_all; done)
      · first | omega | rfl | (intro hg; simp only [nrmT] at hg; omega) | (intro g1 g2; simp [g1, g2]; done) | (intro g1; simp at g1 ⊢; simp [g1]; done) | (simp only [nrmT] at *; omega) | (simp at * <;> omega) | (simp_all <;> omega) | (simp_all; done)
      · first | omega | rfl | (intro hg; simp only [nrmT] at hg; omega) | (intro g1 g2; simp [g1, g2]; done) | (intro g1; simp at g1 ⊢; simp [g1]; done) | (simp only [nrmT] at *; omega) | (simp at * <;> omega) | (simp_all <;> omega) | (simp_all; done)
      · first | omega | rfl | (intro hg; simp only [nrmT] at hg; omega) | (intro g1 g2; simp [g1, g2]; done) | (intro g1; simp at g1 ⊢; simp [g1]; done) | (simp only [nrmT] at *; omega) | (simp at * <;> omega) | (simp_all <;> omega) | (simp_all; done)
      · first | omega | rfl | (intro hg; simp only [nrmT] at hg; omega) | (intro g1 g2; simp [g1, g2]; done) | (intro g1; simp at g1 ⊢; simp [g1]; done) | (simp only [nrmT] at *; omega) | (simp at * <;> omega) | (simp_all <;> omega) | (simp_all; done)
      · first | omega | rfl | (intro hg; simp only [nrmT] at hg; omega) | (intro g1 g2; simp [g1, g2]; done) | (intro g1; simp at g1 ⊢; simp [g1]; done) | (simp only [nrmT] at *; omega) | (simp at * <;> omega) | (simp_all <;> omega) | (simp_all; done)
      · intro b2
        have e := rising_step h1 b2
        exact (allTo_falseI h1 (by omega) e).symm
      · intro b3
        refine ⟨?_, ?_⟩
        · first | omega | rfl | (intro hg; simp only [nrmT] at hg; omega) | (intro g1 g2; simp [g1, g2]; done) | (intro g1; simp at g1 ⊢; simp [g1]; done) | (simp only [nrmT] at *; omega) | (simp at * <;> omega) | (simp_all <;> omega) | (simp_all; done)
        · refine ⟨(i + 1), ?_⟩
          refine ⟨?_, ?_, rfl, rfl, rfl, rfl, rfl⟩
          · refine ⟨?_, ?_, ?_⟩
            · first | omega | rfl | (intro hg; simp only [nrmT] at hg; omega) | (intro g1 g2; simp [g1, g2]; done) | (intro g1; simp at g1 ⊢; simp [g1]; done) | (simp only [nrmT] at *; omega) | (simp at * <;> omega) | (simp_all <;> omega) | (simp_all; done)
            · first | omega | rfl | (intro hg; simp only [nrmT] at hg; omega) | (intro g1 g2; simp [g1, g2]; done) | (intro g1; simp at g1 ⊢; simp [g1]; done) | (simp only [nrmT] at *; omega) | (simp at * <;> omega) | (simp_all <;> omega) | (simp_all; done)
            · have e := rising_step h1 b3
              exact allTo_step h1 h3 e
          · first | (show _ < _; omega) | (simp only [i_isRising_mJ0]; omega) | (simp only [i_isRising_mJ0] at *; simp at *; omega)
    · intro b4
      try simp only [nrmT] at b4
      have e : i.toNat = xs.length := by omega
      rw [e] at h3
      exact h3.symm
theorem i_isRising_pc (xs : List Int) (below : Int) (hb : -9223372036854775808 < below ∧ below ≤ 9223372036854775807) : PC Try.prog 136 [.sl (.ints xs), .int .i64 below] (.one (.d (.bool (rising xs 0 (below - 1))))) :=
  pc_wf @Try.call136 fun hw => pc_by (by kernel_rfl) Try.func136 @Try.call136 (by kernel_rfl) i_isRising_C (i_isRising_A xs below) (by kernel_rfl) (i_isRising_vc xs below hb hw.1) (by kernel_rfl)
def i_isRising_orc : List D → Orc := orcN [some .ints, none] fun ds => match ds with
  | [.sl (.ints xs), .int .i64 below] => some (.one (.d (.bool (rising xs 0 (below - 1)))))
  | _ => none
theorem inB_le {x lo hi : Int} (h : inB x lo hi = true) : lo ≤ x ∧ x ≤ hi := of_decide_eq_true h
def i_areBetween_1_C (f : FuncId) (ds : List D) : Orc := bif Nat.beq f 82 then i_between_orc ds else .no
def i_areBetween_1_A (x : Int) (lo : Int) (hi : Int) : Ann := .none
def i_areBetween_1_P (x : Int) (lo : Int) (hi : Int) : Prop :=
  (PC Try.prog 82 [.int .i64 x, .int .i64 lo, .int .i64 hi] (.one (.d (.bool (inB x lo hi))))) ∧ (((!(inB x lo hi)) = (!(inB x lo hi))))
theorem i_areBetween_1_vc (x : Int) (lo : Int) (hi : Int)   : i_areBetween_1_P x lo hi := by
  unfold i_areBetween_1_P
  refine ⟨i_between_pc x lo hi, rfl⟩
theorem i_areBetween_1_pc (x : Int) (lo : Int) (hi : Int)  : PC Try.prog 182 [.int .i64 x, .bx [.int .i64 lo] 0, .bx [.int .i64 hi] 0] (.one (.d (.bool (!(inB x lo hi))))) :=
  pc_wf @Try.call182 fun _ => pc_by (by kernel_rfl) Try.func182 @Try.call182 (by kernel_rfl) i_areBetween_1_C (i_areBetween_1_A x lo hi) (by kernel_rfl) (i_areBetween_1_vc x lo hi) (by kernel_rfl)
def i_areBetween_1_orc : List D → Orc := orcN [none, none, none] fun ds => match ds with
  | [.int .i64 x, .bx [.int .i64 lo] 0, .bx [.int .i64 hi] 0] => some (.one (.d (.bool (!(inB x lo hi)))))
  | _ => none
abbrev slices_IndexFunc_int_int_aB_JJ0 (xs : List Int) (lo : Int) (hi : Int) (i : Int) : Prop := (0 ≤ i) ∧ (i ≤ (xs.length : Int)) ∧ (∀ k, k < i.toNat → (fun x => !(inB x lo hi)) (xs.getD k 0) = false)
abbrev slices_IndexFunc_int_int_aB_mJ0 (xs : List Int) (lo : Int) (hi : Int) (i : Int) : Nat := (xs.length - i).toNat
def slices_IndexFunc_int_int_aB_C (f : FuncId) (ds : List D) : Orc := bif Nat.beq f 182 then i_areBetween_1_orc ds else .no
def slices_IndexFunc_int_int_aB_A (xs : List Int) (lo : Int) (hi : Int) : Ann := .two (.none) (.two (.two (.none) (.loop (cut1 (fun (i : Int) => slices_IndexFunc_int_int_aB_JJ0 xs lo hi i) (fun (i : Int) => [(0, .d false (.sl (.ints xs))), (1, .d false (.fn 182 [.bx [.int .i64 lo] 0, .bx [.int .i64 hi] 0])), (7, .d true (.int .i64 (xs.length : Int))), (8, .d true (.int .i64 i))]) (fun (i : Int) => [])) (fun g => slices_IndexFunc_int_int_aB_mJ0 xs lo hi g) (fun _ => .none))) (.none))
def slices_IndexFunc_int_int_aB_P (xs : List Int) (lo : Int) (hi : Int) : Prop :=
  ((∃ i' : Int, (slices_IndexFunc_int_int_aB_JJ0 xs lo hi i') ∧ (xs = xs) ∧ ((.fn 182 [.bx [.int .i64 lo] 0, .bx [.int .i64 hi] 0] : D) = (.fn 182 [.bx [.int .i64 lo] 0, .bx [.int .i64 hi] 0] : D)) ∧ ((xs.length : Int) = (xs.length : Int)) ∧ ((0 : Int) = i')) ∧ (∀ i : Int, (slices_IndexFunc_int_int_aB_JJ0 xs lo hi i) → (((decide (i < (xs.length : Int))) = true → ((0 : Int) ≤ i) ∧ ((i : Int) < xs.length) ∧ (i.toNat < xs.length) ∧ (PC Try.prog 182 [.int .i64 (xs.getD i.toNat 0), .bx [.int .i64 lo] 0, .bx [.int .i64 hi] 0] (.one (.d (.bool (!(inB (xs.getD i.toNat 0) lo hi)))))) ∧ (((!(inB (xs.getD i.toNat 0) lo hi)) = true → ((i = (idxI (fun x => !(inB x lo hi)) xs)))) ∧ ((!(inB (xs.getD i.toNat 0) lo hi)) = false → (-9223372036854775808 ≤ (i + 1) ∧ (i + 1) ≤ 9223372036854775807) ∧ (∃ i' : Int, (slices_IndexFunc_int_int_aB_JJ0 xs lo hi i') ∧ (slices_IndexFunc_int_int_aB_mJ0 xs lo hi i' < slices_IndexFunc_int_int_aB_mJ0 xs lo hi i) ∧ (xs = xs) ∧ ((.fn 182 [.bx [.int .i64 lo] 0, .bx [.int .i64 hi] 0] : D) = (.fn 182 [.bx [.int .i64 lo] 0, .bx [.int .i64 hi] 0] : D)) ∧ ((xs.length : Int) = (xs.length : Int)) ∧ ((i + 1) = i'))))) ∧ ((decide (i < (xs.length : Int))) = false → ((((-1) : Int) = (idxI (fun x => !(inB x lo hi)) xs)))))))
theorem slices_IndexFunc_int_int_aB_vc (xs : List Int) (lo : Int) (hi : Int)  (w_xs : (xs.length : Int) ≤ 9223372036854775807) : slices_IndexFunc_int_int_aB_P xs lo hi := by
  unfold slices_IndexFunc_int_int_aB_P
  refine ⟨?_, ?_⟩
  · refine ⟨0, ?_⟩
    refine ⟨?_, rfl, rfl, rfl, rfl⟩
    · refine ⟨?_, ?_, ?_⟩
      · first | omega | rfl | (intro hg; simp only [nrmT] at hg; omega) | (intro g1 g2; simp [g1, g2]; done) | (intro g1; simp at g1 ⊢; simp [g1]; done) | (simp only [nrmT] at *; omega) | (simp at * <;> omega) | (simp_all <;> omega) | (simp_all; done)
      · first | omega | rfl | (intro hg; simp only [nrmT] at hg; omega) | (intro g1 g2; simp [g1, g2]; done) | (intro g1; simp at g1 ⊢; simp [g1]; done) | (simp only [nrmT] at *; omega) | (simp at * <;> omega) | (simp_all <;> omega) | (simp_all; done)
      · first | omega | rfl | (intro hg; simp only [nrmT] at hg; omega) | (intro g1 g2; simp [g1, g2]; done) | (intro g1; simp at g1 ⊢; simp [g1]; done) | (simp only [nrmT] at *; omega) | (simp at * <;> omega) | (simp_all <;> omega) | (simp_all; done)
  · intro i hJ
    obtain ⟨h1, h2, h3⟩ := hJ
    refine ⟨?_, ?_⟩
    · intro b1
      try simp only [nrmT] at b1
      refine ⟨?_, ?_, ?_, i_areBetween_1_pc (xs.getD i.toNat 0) lo hi, ?_, ?_⟩
      · first | omega | rfl | (intro hg; simp only [nrmT] at hg; omega) | (intro g1 g2; simp [g1, g2]; done) | (intro g1; simp at g1 ⊢; simp [g1]; done) | (simp only [nrmT] at *; omega) | (simp at * <;> omega) | (simp_all <;> omega) | (simp_all; done)
      · first | omega | rfl | (intro hg; simp only [nrmT] at hg; omega) | (intro g1 g2; simp [g1, g2]; done) | (intro g1; simp at g1 ⊢; simp [g1]; done) | (simp only [nrmT] at *; omega) | (simp at * <;> omega) | (simp_all <;> omega) | (simp_all; done)
      · first | omega | rfl | (intro hg; simp only [nrmT] at hg; omega) | (intro g1 g2; simp [g1, g2]; done) | (intro g1; simp at g1 ⊢; simp [g1]; done) | (simp only [nrmT] at *; omega) | (simp at * <;> omega) | (simp_all <;> omega) | (simp_all; done)
      · intro b2
        try simp only [nrmT] at b2
        exact idx_found (p := fun x => !(inB x lo hi)) h1 b1 h3 (by simpa using b2)
      · intro b3
        try simp only [nrmT] at b3
        refine ⟨?_, ?_⟩
        · first | omega | rfl | (intro hg; simp only [nrmT] at hg; omega) | (intro g1 g2; simp [g1, g2]; done) | (intro g1; simp at g1 ⊢; simp [g1]; done) | (simp only [nrmT] at *; omega) | (simp at * <;> omega) | (simp_all <;> omega) | (simp_all; done)
        · refine ⟨(i + 1), ?_⟩
          refine ⟨?_, ?_, rfl, rfl, rfl, rfl⟩
          · refine ⟨?_, ?_, ?_⟩
            · first | omega | rfl | (intro hg; simp only [nrmT] at hg; omega) | (intro g1 g2; simp [g1, g2]; done) | (intro g1; simp at g1 ⊢; simp [g1]; done) | (simp only [nrmT] at *; omega) | (simp at * <;> omega) | (simp_all <;> omega) | (simp_all; done)
            · first | omega | rfl | (intro hg; simp only [nrmT] at hg; omega) | (intro g1 g2; simp [g1, g2]; done) | (intro g1; simp at g1 ⊢; simp [g1]; done) | (simp only [nrmT] at *; omega) | (simp at * <;> omega) | (simp_all <;> omega) | (simp_all; done)
            · exact idx_step (p := fun x => !(inB x lo hi)) h1 h3 (by simpa using b3)
          · first | (show _ < _; omega) | (simp only [slices_IndexFunc_int_int_aB_mJ0]; omega) | (simp only [slices_IndexFunc_int_int_aB_mJ0] at *; simp at *; omega)
    · intro b4
      try simp only [nrmT] at b4
      exact (idx_none (by omega) h3).symm
theorem slices_IndexFunc_int_int_aB_pc (xs : List Int) (lo : Int) (hi : Int)  : PC Try.prog 139 [.sl (.ints xs), .fn 182 [.bx [.int .i64 lo] 0, .bx [.int .i64 hi] 0]] (.one (.d (.int .i64 (idxI (fun x => !(inB x lo hi)) xs)))) :=
  pc_wf @Try.call139 fun hw => pc_by (by kernel_rfl) Try.func139 @Try.call139 (by kernel_rfl) slices_IndexFunc_int_int_aB_C (slices_IndexFunc_int_int_aB_A xs lo hi) (by kernel_rfl) (slices_IndexFunc_int_int_aB_vc xs lo hi hw.1) (by kernel_rfl)
def slices_IndexFunc_int_int_aB_orc : List D → Orc := orcN [some .ints, none] fun ds => match ds with
  | [.sl (.ints xs), .fn f0 [.bx [.int .i64 lo] 0, .bx [.int .i64 hi] 0]] => bif Nat.beq f0 182 then some (.one (.d (.int .i64 (idxI (fun x => !(inB x lo hi)) xs)))) else none
  | _ => none
def slices_ContainsFunc_int_int_aB_C (f : FuncId) (ds : List D) : Orc := bif Nat.beq f 139 then slices_IndexFunc_int_int_aB_orc ds else .no
def slices_ContainsFunc_int_int_aB_A (xs : List Int) (lo : Int) (hi : Int) : Ann := .none
def slices_ContainsFunc_int_int_aB_P (xs : List Int) (lo : Int) (hi : Int) : Prop :=
  (PC Try.prog 139 [.sl (.ints xs), .fn 182 [.bx [.int .i64 lo] 0, .bx [.int .i64 hi] 0]] (.one (.d (.int .i64 (idxI (fun x => !(inB x lo hi)) xs))))) ∧ (((decide ((idxI (fun x => !(inB x lo hi)) xs) ≥ 0)) = (xs.any (fun x => !(inB x lo hi)))))
theorem slices_ContainsFunc_int_int_aB_vc (xs : List Int) (lo : Int) (hi : Int)  (w_xs : (xs.length : Int) ≤ 9223372036854775807) : slices_ContainsFunc_int_int_aB_P xs lo hi := by
  unfold slices_ContainsFunc_int_int_aB_P
  refine ⟨slices_IndexFunc_int_int_aB_pc xs lo hi, ?_⟩
  · exact idx_any _ _
theorem slices_ContainsFunc_int_int_aB_pc (xs : List Int) (lo : Int) (hi : Int)  : PC Try.prog 73 [.sl (.ints xs), .fn 182 [.bx [.int .i64 lo] 0, .bx [.int .i64 hi] 0]] (.one (.d (.bool (xs.any (fun x => !(inB x lo hi)))))) :=
  pc_wf @Try.call73 fun hw => pc_by (by kernel_rfl) Try.func73 @Try.call73 (by kernel_rfl) slices_ContainsFunc_int_int_aB_C (slices_ContainsFunc_int_int_aB_A xs lo hi) (by kernel_rfl) (slices_ContainsFunc_int_int_aB_vc xs lo hi hw.1) (by kernel_rfl)
def slices_ContainsFunc_int_int_aB_orc : List D → Orc := orcN [some .ints, none] fun ds => match ds with
  | [.sl (.ints xs), .fn f0 [.bx [.int .i64 lo] 0, .bx [.int .i64 hi] 0]] => bif Nat.beq f0 182 then some (.one (.d (.bool (xs.any (fun x => !(inB x lo hi)))))) else none
  | _ => none
def i_areBetween_C (f : FuncId) (ds : List D) : Orc := bif Nat.beq f 73 then slices_ContainsFunc_int_int_aB_orc ds else .no
def i_areBetween_A (xs : List Int) (lo : Int) (hi : Int) : Ann := .none
def i_areBetween_P (xs : List Int) (lo : Int) (hi : Int) : Prop :=
  (PC Try.prog 73 [.sl (.ints xs), .fn 182 [.bx [.int .i64 lo] 0, .bx [.int .i64 hi] 0]] (.one (.d (.bool (xs.any (fun x => !(inB x lo hi))))))) ∧ (((!(xs.any (fun x => !(inB x lo hi)))) = (xs.all (fun x => inB x lo hi))))
theorem i_areBetween_vc (xs : List Int) (lo : Int) (hi : Int)  (w_xs : (xs.length : Int) ≤ 9223372036854775807) : i_areBetween_P xs lo hi := by
  unfold i_areBetween_P
  refine ⟨slices_ContainsFunc_int_int_aB_pc xs lo hi, ?_⟩
  · exact any_not _ _
theorem i_areBetween_pc (xs : List Int) (lo : Int) (hi : Int)  : PC Try.prog 137 [.sl (.ints xs), .int .i64 lo, .int .i64 hi] (.one (.d (.bool (xs.all (fun x => inB x lo hi))))) :=
  pc_wf @Try.call137 fun hw => pc_by (by kernel_rfl) Try.func137 @Try.call137 (by kernel_rfl) i_areBetween_C (i_areBetween_A xs lo hi) (by kernel_rfl) (i_areBetween_vc xs lo hi hw.1) (by kernel_rfl)
def i_areBetween_orc : List D → Orc := orcN [some .ints, none, none] fun ds => match ds with
  | [.sl (.ints xs), .int .i64 lo, .int .i64 hi] => some (.one (.d (.bool (xs.all (fun x => inB x lo hi)))))
  | _ => none
abbrev l_toIntS_JJ0 (xs : List Int) (out : List Int) (i : Int) : Prop := (0 ≤ i) ∧ (i ≤ (xs.length : Int)) ∧ (out = xs.take i.toNat ++ (List.replicate xs.length 0).drop i.toNat)
abbrev l_toIntS_mJ0 (xs : List Int) (out : List Int) (i : Int) : Nat := (xs.length - i).toNat
def l_toIntS_C (f : FuncId) (ds : List D) : Orc := .no
def l_toIntS_A (xs : List Int) : Ann := .two (.none) (.two (.none) (.two (.two (.none) (.loop (cut2 (fun (out : List Int) (i : Int) => l_toIntS_JJ0 xs out i) (fun (out : List Int) (i : Int) => [(0, .d false (.sl (.ints xs))), (3, .own 7 out.length), (4, .d true (.int .i64 i))]) (fun (out : List Int) (i : Int) => [(7, .arr true 3 (.ints out))])) (fun g => l_toIntS_mJ0 xs g.1 g.2) (fun _ => .none))) (.none)))
def l_toIntS_P (xs : List Int) : Prop :=
  ((xs.length : Int) = (xs.length : Int)) ∧ ((0 : Int) ≤ (xs.length : Int)) ∧ (((xs.length : Int) : Int) * ((8 : Nat) : Int) ≤ 140737488355328) ∧ ((∃ out' : List Int, ∃ i' : Int, (l_toIntS_JJ0 xs out' i') ∧ (xs = xs) ∧ ((xs.length : Int).toNat = out'.length) ∧ ((0 : Int) = i') ∧ ((List.replicate ((xs.length : Int).toNat) (0 : Int)) = out')) ∧ (∀ out : List Int, ∀ i : Int, (l_toIntS_JJ0 xs out i) → (((decide (i < (xs.length : Int))) = true → ((0 : Int) ≤ i) ∧ ((i : Int) < xs.length) ∧ (i.toNat < xs.length) ∧ ((0 : Int) ≤ i) ∧ ((i : Int) < (out.length : Int)) ∧ (i.toNat < out.length) ∧ (-9223372036854775808 ≤ (i + 1) ∧ (i + 1) ≤ 9223372036854775807) ∧ (∃ out' : List Int, ∃ i' : Int, (l_toIntS_JJ0 xs out' i') ∧ (l_toIntS_mJ0 xs out' i' < l_toIntS_mJ0 xs out i) ∧ (xs = xs) ∧ (out.length = out'.length) ∧ ((i + 1) = i') ∧ ((out.set i.toNat (xs.getD i.toNat 0)) = out'))) ∧ ((decide (i < (xs.length : Int))) = false → ((out.length = out.length) ∧ ((out : List Int) = xs))))))
theorem l_toIntS_vc (xs : List Int) (hn : xs.length ≤ 1048576) (w_xs : (xs.length : Int) ≤ 9223372036854775807) : l_toIntS_P xs := by
  unfold l_toIntS_P
  refine ⟨rfl, ?_, ?_, ?_, ?_⟩
  · first | omega | rfl | (intro hg; simp only [nrmT] at hg; omega) | (intro g1 g2; simp [g1, g2]; done) | (intro g1; simp at g1 ⊢; simp [g1]; done) | (simp only [nrmT] at *; omega) | (simp at * <;> omega) | (simp_all <;> omega) | (simp_all; done)
  · first | omega | rfl | (intro hg; simp only [nrmT] at hg; omega) | (intro g1 g2; simp [g1, g2]; done) | (intro g1; simp at g1 ⊢; simp [g1]; done) | (simp only [nrmT] at *; omega) | (simp at * <;> omega) | (simp_all <;> omega) | (simp_all; done)
  · refine ⟨(List.replicate ((xs.length : Int).toNat) (0 : Int)), 0, ?_⟩
    refine ⟨?_, rfl, ?_, rfl, rfl⟩
    · refine ⟨?_, ?_, ?_⟩
      · first | omega | rfl | (intro hg; simp only [nrmT] at hg; omega) | (intro g1 g2; simp [g1, g2]; done) | (intro g1; simp at g1 ⊢; simp [g1]; done) | (simp only [nrmT] at *; omega) | (simp at * <;> omega) | (simp_all <;> omega) | (simp_all; done)
      · first | omega | rfl | (intro hg; simp only [nrmT] at hg; omega) | (intro g1 g2; simp [g1, g2]; done) | (intro g1; simp at g1 ⊢; simp [g1]; done) | (simp only [nrmT] at *; omega) | (simp at * <;> omega) | (simp_all <;> omega) | (simp_all; done)
      · simp
    · simp
  · intro out i hJ
    obtain ⟨h1, h2, h3⟩ := hJ
    refine ⟨?_, ?_⟩
    · intro b1
      try simp only [nrmT] at b1
      refine ⟨?_, ?_, ?_, ?_, ?_, ?_, ?_, ?_⟩
      · first | omega | rfl | (intro hg; simp only [nrmT] at hg; omega) | (intro g1 g2; simp [g1, g2]; done) | (intro g1; simp at g1 ⊢; simp [g1]; done) | (simp only [nrmT] at *; omega) | (simp at * <;> omega) | (simp_all <;> omega) | (simp_all; done)
      · first | omega | rfl | (intro hg; simp only [nrmT] at hg; omega) | (intro g1 g2; simp [g1, g2]; done) | (intro g1; simp at g1 ⊢; simp [g1]; done) | (simp only [nrmT] at *; omega) | (simp at * <;> omega) | (simp_all <;> omega) | (simp_all; done)
      · first | omega | rfl | (intro hg; simp only [nrmT] at hg; omega) | (intro g1 g2; simp [g1, g2]; done) | (intro g1; simp at g1 ⊢; simp [g1]; done) | (simp only [nrmT] at *; omega) | (simp at * <;> omega) | (simp_all <;> omega) | (simp_all; done)
      · first | omega | rfl | (intro hg; simp only [nrmT] at hg; omega) | (intro g1 g2; simp [g1, g2]; done) | (intro g1; simp at g1 ⊢; simp [g1]; done) | (simp only [nrmT] at *; omega) | (simp at * <;> omega) | (simp_all <;> omega) | (simp_all; done)
      · have e : out.length = xs.length := by rw [h3]; exact copy_len (by omega) (by simp)
        omega
      · have e : out.length = xs.length := by rw [h3]; exact copy_len (by omega) (by simp)
        omega
      · first | omega | rfl | (intro hg; simp only [nrmT] at hg; omega) | (intro g1 g2; simp [g1, g2]; done) | (intro g1; simp at g1 ⊢; simp [g1]; done) | (simp only [nrmT] at *; omega) | (simp at * <;> omega) | (simp_all <;> omega) | (simp_all; done)
      · refine ⟨(out.set i.toNat (xs.getD i.toNat 0)), (i + 1), ?_⟩
        refine ⟨?_, ?_, rfl, ?_, rfl, rfl⟩
        · refine ⟨?_, ?_, ?_⟩
          · first | omega | rfl | (intro hg; simp only [nrmT] at hg; omega) | (intro g1 g2; simp [g1, g2]; done) | (intro g1; simp at g1 ⊢; simp [g1]; done) | (simp only [nrmT] at *; omega) | (simp at * <;> omega) | (simp_all <;> omega) | (simp_all; done)
          · first | omega | rfl | (intro hg; simp only [nrmT] at hg; omega) | (intro g1 g2; simp [g1, g2]; done) | (intro g1; simp at g1 ⊢; simp [g1]; done) | (simp only [nrmT] at *; omega) | (simp at * <;> omega) | (simp_all <;> omega) | (simp_all; done)
          · rw [h3]; exact copy_step h1 b1 (by simp)
        · first | (show _ < _; omega) | (simp only [l_toIntS_mJ0]; omega) | (simp only [l_toIntS_mJ0] at *; simp at *; omega)
        · simp
    · intro b2
      try simp only [nrmT] at b2
      refine ⟨rfl, ?_⟩
      · rw [h3, take_all (by omega)]; simp; omega
theorem l_toIntS_pc (xs : List Int) (hn : xs.length ≤ 1048576) : PC Try.prog 22 [.sl (.ints xs)] (.one (.d (.sl (.ints xs)))) :=
  pc_wf @Try.call22 fun hw => pc_by (by kernel_rfl) Try.func22 @Try.call22 (by kernel_rfl) l_toIntS_C (l_toIntS_A xs) (by kernel_rfl) (l_toIntS_vc xs hn hw.1) (by kernel_rfl)
def l_toIntS_orc : List D → Orc := orcN [some .ints] fun ds => match ds with
  | [.sl (.ints xs)] => some (.one (.d (.sl (.ints xs))))
  | _ => none
theorem beq_of_all {α : Type} [BEq α] [LawfulBEq α] {d : α} {xs ys : List α} (hl : xs.length = ys.length) : allTo (fun k => xs.getD k d == ys.getD k d) xs.length = (xs == ys) := by
  rw [Bool.eq_iff_iff, allTo_iff]
  simp only [beq_iff_eq]
  constructor
  · intro h
    refine List.ext_getElem hl fun k h1 h2 => ?_
    have := h k h1
    simpa [h1, h2] using this
  · intro h k _
    rw [h]
theorem len_ne {α : Type} [BEq α] [LawfulBEq α] {xs ys : List α} (h : ¬ xs.length = ys.length) : (xs == ys) = false := by
  rw [Bool.eq_false_iff]; intro h2; simp only [beq_iff_eq] at h2; exact h (by rw [h2])
abbrev l_eqIntS_JJ0 (xs : List Int) (ys : List Int) (i : Int) : Prop := (0 ≤ i) ∧ (i ≤ (xs.length : Int)) ∧ (allTo (fun k => xs.getD k 0 == ys.getD k 0) i.toNat = true) ∧ (xs.length = ys.length)
abbrev l_eqIntS_mJ0 (xs : List Int) (ys : List Int) (i : Int) : Nat := (xs.length - i).toNat
def l_eqIntS_C (f : FuncId) (ds : List D) : Orc := .no
def l_eqIntS_A (xs : List Int) (ys : List Int) : Ann := .two (.none) (.two (.none) (.two (.two (.none) (.loop (cut1 (fun (i : Int) => l_eqIntS_JJ0 xs ys i) (fun (i : Int) => [(0, .d false (.sl (.ints xs))), (1, .d false (.sl (.ints ys))), (5, .d true (.int .i64 i))]) (fun (i : Int) => [])) (fun g => l_eqIntS_mJ0 xs ys g) (fun _ => .none))) (.none)))
def l_eqIntS_P (xs : List Int) (ys : List Int) : Prop :=
  ((((xs.length : Int) != (ys.length : Int)) = true → ((false = (xs == ys)))) ∧ (((xs.length : Int) != (ys.length : Int)) = false → ((∃ i' : Int, (l_eqIntS_JJ0 xs ys i') ∧ (xs = xs) ∧ (ys = ys) ∧ ((0 : Int) = i')) ∧ (∀ i : Int, (l_eqIntS_JJ0 xs ys i) → (((decide (i < (xs.length : Int))) = true → (true = true) ∧ ((0 : Int) ≤ i) ∧ ((i : Int) < xs.length) ∧ (i.toNat < xs.length) ∧ ((0 : Int) ≤ i) ∧ ((i : Int) < ys.length) ∧ (i.toNat < ys.length) ∧ ((((xs.getD i.toNat 0) != (ys.getD i.toNat 0)) = true → ((false = (xs == ys)))) ∧ (((xs.getD i.toNat 0) != (ys.getD i.toNat 0)) = false → (-9223372036854775808 ≤ (i + 1) ∧ (i + 1) ≤ 9223372036854775807) ∧ (∃ i' : Int, (l_eqIntS_JJ0 xs ys i') ∧ (l_eqIntS_mJ0 xs ys i' < l_eqIntS_mJ0 xs ys i) ∧ (xs = xs) ∧ (ys = ys) ∧ ((i + 1) = i'))))) ∧ ((decide (i < (xs.length : Int))) = false → ((true = (xs == ys)))))))))
theorem l_eqIntS_vc (xs : List Int) (ys : List Int)  (w_xs : (xs.length : Int) ≤ 9223372036854775807) (w_ys : (ys.length : Int) ≤ 9223372036854775807) : l_eqIntS_P xs ys := by
  unfold l_eqIntS_P
  refine ⟨?_, ?_⟩
  · intro b1
    try simp only [nrmT] at b1
    exact (len_ne (by omega)).symm
  · intro b2
    try simp only [nrmT] at b2
    refine ⟨?_, ?_⟩
    · refine ⟨0, ?_⟩
      refine ⟨?_, rfl, rfl, rfl⟩
      · refine ⟨?_, ?_, ?_, ?_⟩
        · first | omega | rfl | (intro hg; simp only [nrmT] at hg; omega) | (intro g1 g2; simp [g1, g2]; done) | (intro g1; simp at g1 ⊢; simp [g1]; done) | (simp only [nrmT] at *; omega) | (simp at * <;> omega) | (simp_all <;> omega) | (simp_all; done)
        · first | omega | rfl | (intro hg; simp only [nrmT] at hg; omega) | (intro g1 g2; simp [g1, g2]; done) | (intro g1; simp at g1 ⊢; simp [g1]; done) | (simp only [nrmT] at *; omega) | (simp at * <;> omega) | (simp_all <;> omega) | (simp_all; done)
        · first | omega | rfl | (intro hg; simp only [nrmT] at hg; omega) | (intro g1 g2; simp [g1, g2]; done) | (intro g1; simp at g1 ⊢; simp [g1]; done) | (simp only [nrmT] at *; omega) | (simp at * <;> omega) | (simp_all <;> omega) | (simp_all; done)
        · first | omega | rfl | (intro hg; simp only [nrmT] at hg; omega) | (intro g1 g2; simp [g1, g2]; done) | (intro g1; simp at g1 ⊢; simp [g1]; done) | (simp only [nrmT] at *; omega) | (simp at * <;> omega) | (simp_all <;> omega) | (simp_all; done)
    · intro i hJ
      obtain ⟨h1, h2, h3, h4⟩ := hJ
      refine ⟨?_, ?_⟩
      · intro b3
        try simp only [nrmT] at b3
        refine ⟨rfl, ?_, ?_, ?_, ?_, ?_, ?_, ?_, ?_⟩
        · first | omega | rfl | (intro hg; simp only [nrmT] at hg; omega) | (intro g1 g2; simp [g1, g2]; done) | (intro g1; simp at g1 ⊢; simp [g1]; done) | (simp only [nrmT] at *; omega) | (simp at * <;> omega) | (simp_all <;> omega) | (simp_all; done)
        · first | omega | rfl | (intro hg; simp only [nrmT] at hg; omega) | (intro g1 g2; simp [g1, g2]; done) | (intro g1; simp at g1 ⊢; simp [g1]; done) | (simp only [nrmT] at *; omega) | (simp at * <;> omega) | (simp_all <;> omega) | (simp_all; done)
        · first | omega | rfl | (intro hg; simp only [nrmT] at hg; omega) | (intro g1 g2; simp [g1, g2]; done) | (intro g1; simp at g1 ⊢; simp [g1]; done) | (simp only [nrmT] at *; omega) | (simp at * <;> omega) | (simp_all <;> omega) | (simp_all; done)
        · first | omega | rfl | (intro hg; simp only [nrmT] at hg; omega) | (intro g1 g2; simp [g1, g2]; done) | (intro g1; simp at g1 ⊢; simp [g1]; done) | (simp only [nrmT] at *; omega) | (simp at * <;> omega) | (simp_all <;> omega) | (simp_all; done)
        · first | omega | rfl | (intro hg; simp only [nrmT] at hg; omega) | (intro g1 g2; simp [g1, g2]; done) | (intro g1; simp at g1 ⊢; simp [g1]; done) | (simp only [nrmT] at *; omega) | (simp at * <;> omega) | (simp_all <;> omega) | (simp_all; done)
        · first | omega | rfl | (intro hg; simp only [nrmT] at hg; omega) | (intro g1 g2; simp [g1, g2]; done) | (intro g1; simp at g1 ⊢; simp [g1]; done) | (simp only [nrmT] at *; omega) | (simp at * <;> omega) | (simp_all <;> omega) | (simp_all; done)
        · intro b4
          try simp only [nrmT] at b4
          rw [← beq_of_all (d := 0) h4]; exact (allTo_falseI h1 (by omega) (by simpa using b4)).symm
        · intro b5
          try simp only [nrmT] at b5
          refine ⟨?_, ?_⟩
          · first | omega | rfl | (intro hg; simp only [nrmT] at hg; omega) | (intro g1 g2; simp [g1, g2]; done) | (intro g1; simp at g1 ⊢; simp [g1]; done) | (simp only [nrmT] at *; omega) | (simp at * <;> omega) | (simp_all <;> omega) | (simp_all; done)
          · refine ⟨(i + 1), ?_⟩
            refine ⟨?_, ?_, rfl, rfl, rfl⟩
            · refine ⟨?_, ?_, ?_, ?_⟩
              · first | omega | rfl | (intro hg; simp only [nrmT] at hg; omega) | (intro g1 g2; simp [g1, g2]; done) | (intro g1; simp at g1 ⊢; simp [g1]; done) | (simp only [nrmT] at *; omega) | (simp at * <;> omega) | (simp_all <;> omega) | (simp_all; done)
              · first | omega | rfl | (intro hg; simp only [nrmT] at hg; omega) | (intro g1 g2; simp [g1, g2]; done) | (intro g1; simp at g1 ⊢; simp [g1]; done) | (simp only [nrmT] at *; omega) | (simp at * <;> omega) | (simp_all <;> omega) | (simp_all; done)
              · exact allTo_step h1 h3 (by simpa using b5)
              · first | omega | rfl | (intro hg; simp only [nrmT] at hg; omega) | (intro g1 g2; simp [g1, g2]; done) | (intro g1; simp at g1 ⊢; simp [g1]; done) | (simp only [nrmT] at *; omega) | (simp at * <;> omega) | (simp_all <;> omega) | (simp_all; done)
            · first | (show _ < _; omega) | (simp only [l_eqIntS_mJ0]; omega) | (simp only [l_eqIntS_mJ0] at *; simp at *; omega)
      · intro b6
        try simp only [nrmT] at b6
        rw [← beq_of_all (d := 0) h4, ← h3]; congr 1; omega
theorem l_eqIntS_pc (xs : List Int) (ys : List Int)  : PC Try.prog 24 [.sl (.ints xs), .sl (.ints ys)] (.one (.d (.bool (xs == ys)))) :=
  pc_wf @Try.call24 fun hw => pc_by (by kernel_rfl) Try.func24 @Try.call24 (by kernel_rfl) l_eqIntS_C (l_eqIntS_A xs ys) (by kernel_rfl) (l_eqIntS_vc xs ys hw.1 hw.2.1) (by kernel_rfl)
def l_eqIntS_orc : List D → Orc := orcN [some .ints, some .ints] fun ds => match ds with
  | [.sl (.ints xs), .sl (.ints ys)] => some (.one (.d (.bool (xs == ys))))
  | _ => none
theorem rising_at {xs : List Int} {lo hi : Int} (h : rising xs lo hi = true) : ∀ k, k < xs.length → lo + k ≤ xs.getD k 0 ∧ xs.getD k 0 ≤ hi := by
  intro k
  induction k with
  | zero =>
    intro hk
    have h1 := allTo_iff.1 h 0 hk
    simp only [risingP, Bool.and_eq_true] at h1
    have := inB_le h1.1
    omega
  | succ k ih =>
    intro hk
    have h0 := ih (by omega)
    have h1 := allTo_iff.1 h (k + 1) hk
    simp only [risingP, Bool.and_eq_true, Bool.or_eq_true, decide_eq_true_eq, Nat.add_sub_cancel] at h1
    have := inB_le h1.1
    have h2 := h1.2
    omega
/-- Marks from k on. -/
def marks (k : Int) (n : Nat) : List Int := (List.range n).map fun (i : Nat) => k + (i : Int)
def markTo (k : Int) (xs : List Int) (g : Nat) : List Int := marks k g ++ xs.drop g
theorem marks_len (k : Int) (n : Nat) : (marks k n).length = n := by simp [marks]
theorem markTo_zero (k : Int) (xs : List Int) : markTo k xs 0 = xs := by simp [markTo, marks]
theorem markTo_all (k : Int) (xs : List Int) : markTo k xs xs.length = marks k xs.length := by simp [markTo]
theorem markTo_len (k : Int) (xs : List Int) (g : Nat) (h : g ≤ xs.length) : (markTo k xs g).length = xs.length := by simp [markTo, marks_len]; omega
theorem markTo_step (k : Int) (xs : List Int) (g : Nat) (h : g < xs.length) : (markTo k xs g).set g (k + (g : Int)) = markTo k xs (g + 1) := by
  apply List.ext_getElem?
  intro j
  simp only [markTo, marks, List.getElem?_set, List.getElem?_append, List.length_map, List.length_range, List.getElem?_map, List.getElem?_drop, List.length_append, List.length_drop]
  by_cases h1 : g = j
  · subst h1
    simp [h]
    omega
  · by_cases h2 : j < g
    · simp [h1, h2, show j < g + 1 by omega]
    · simp [h1, h2, show ¬ j < g + 1 by omega]
      congr 1; omega
def laws_markIntS_g_C (f : FuncId) (ms : List MV) : Option Int := none
def laws_markIntS_g_A (n : Nat) (k : Int) : MAnn := .two (.none) (.two (.two (.none) (.loop n (fun g => [(0, .shp (.ints n)), (1, .int (k + (g : Int))), (5, .int (g : Int))]) (fun g => []) (fun g => .none))) (.none))
def laws_markIntS_g_P (n : Nat) (k : Int) : Prop :=
  (((([] : List Int) = []) ∧ ((.ints n : Sh) = .ints n) ∧ ((k : Int) = (k + ((0 : Nat) : Int))) ∧ ((0 : Int) = ((0 : Nat) : Int))) ∧ (∀ g : Nat, g ≤ n → (((decide ((g : Int) < ((n : Nat) : Int))) = true → ((0 : Int) ≤ (g : Int)) ∧ (((g : Int) : Int) < ((n : Nat) : Int)) ∧ (-9223372036854775808 ≤ ((k + (g : Int)) + 1) ∧ ((k + (g : Int)) + 1) ≤ 9223372036854775807) ∧ (-9223372036854775808 ≤ ((g : Int) + 1) ∧ ((g : Int) + 1) ≤ 9223372036854775807) ∧ ((g + 1 ≤ n) ∧ (([] : List Int) = []) ∧ ((.ints n : Sh) = .ints n) ∧ ((((k + (g : Int)) + 1) : Int) = (k + ((g + 1 : Nat) : Int))) ∧ ((((g : Int) + 1) : Int) = ((g + 1 : Nat) : Int)))) ∧ ((decide ((g : Int) < ((n : Nat) : Int))) = false → (((((k + (g : Int)) : Int) = k + (n : Int))) ∧ ((([] : List Int) = [])))))))
theorem laws_markIntS_g_vc (n : Nat) (k : Int) (hk : 0 ≤ k) (hn : k + (n : Int) ≤ 9223372036854775807) : laws_markIntS_g_P n k := by
  unfold laws_markIntS_g_P
  refine ⟨?_, ?_⟩
  · refine ⟨?_, ?_⟩
    · exact rfl
    refine ⟨?_, ?_⟩
    · exact rfl
    refine ⟨?_, ?_⟩
    · first | omega | rfl | (simp; done) | (simp <;> omega)
    first | omega | rfl | (simp; done) | (simp <;> omega)
  intro g hg
  refine ⟨?_, ?_⟩
  · intro b1
    simp only [nrmT] at b1
    refine ⟨?_, ?_⟩
    · first | omega | rfl | (simp; done) | (simp <;> omega)
    refine ⟨?_, ?_⟩
    · first | omega | rfl | (simp; done) | (simp <;> omega)
    refine ⟨?_, ?_⟩
    · first | omega | rfl | (simp; done) | (simp <;> omega)
    refine ⟨?_, ?_⟩
    · first | omega | rfl | (simp; done) | (simp <;> omega)
    refine ⟨?_, ?_⟩
    · first | omega | rfl | (simp; done) | (simp <;> omega)
    refine ⟨?_, ?_⟩
    · exact rfl
    refine ⟨?_, ?_⟩
    · exact rfl
    refine ⟨?_, ?_⟩
    · first | omega | rfl | (simp; done) | (simp <;> omega)
    first | omega | rfl | (simp; done) | (simp <;> omega)
  · intro b2
    simp only [nrmT] at b2
    refine ⟨?_, ?_⟩
    · first | omega | rfl | (simp; done) | (simp <;> omega)
    exact rfl
theorem laws_markIntS_g_pg (n : Nat) (k : Int) (hk : 0 ≤ k) (hn : k + (n : Int) ≤ 9223372036854775807) : PG Try.prog 25 [.shp (.ints n), .int k] (k + (n : Int)) :=
  pg_by Try.func25 @Try.call25 (by kernel_rfl) laws_markIntS_g_C (laws_markIntS_g_A n k) (by kernel_rfl) (laws_markIntS_g_vc n k hk hn) (by kernel_rfl)
def laws_markIntS_w_C (f : FuncId) (ms : List MV) : Option Int := none
def laws_markIntS_w_A (xs : List Int) (k : Int) : MAnn := .two (.none) (.two (.two (.none) (.loop xs.length (fun g => [(0, .row xs.length), (1, .int (k + (g : Int))), (5, .int (g : Int))]) (fun g => (markTo k xs g)) (fun g => .none))) (.none))
def laws_markIntS_w_P (xs : List Int) (k : Int) : Prop :=
  ((((xs : List Int) = (markTo k xs (0 : Nat))) ∧ ((xs.length : Nat) = xs.length) ∧ ((k : Int) = (k + ((0 : Nat) : Int))) ∧ ((0 : Int) = ((0 : Nat) : Int))) ∧ (∀ g : Nat, g ≤ xs.length → (((decide ((g : Int) < (xs.length : Int))) = true → ((0 : Int) ≤ (g : Int)) ∧ (((g : Int) : Int) < (xs.length : Int)) ∧ ((g : Int).toNat < (markTo k xs g).length) ∧ (-9223372036854775808 ≤ ((k + (g : Int)) + 1) ∧ ((k + (g : Int)) + 1) ≤ 9223372036854775807) ∧ (-9223372036854775808 ≤ ((g : Int) + 1) ∧ ((g : Int) + 1) ≤ 9223372036854775807) ∧ ((g + 1 ≤ xs.length) ∧ ((((markTo k xs g).set ((g : Int).toNat) (k + (g : Int))) : List Int) = (markTo k xs (g + 1 : Nat))) ∧ ((xs.length : Nat) = xs.length) ∧ ((((k + (g : Int)) + 1) : Int) = (k + ((g + 1 : Nat) : Int))) ∧ ((((g : Int) + 1) : Int) = ((g + 1 : Nat) : Int)))) ∧ ((decide ((g : Int) < (xs.length : Int))) = false → (((((k + (g : Int)) : Int) = k + (xs.length : Int))) ∧ ((((markTo k xs g) : List Int) = (marks k xs.length))))))))
theorem laws_markIntS_w_vc (xs : List Int) (k : Int) (hk : 0 ≤ k) (hn : k + (xs.length : Int) ≤ 9223372036854775807) : laws_markIntS_w_P xs k := by
  unfold laws_markIntS_w_P
  refine ⟨?_, ?_⟩
  · refine ⟨?_, ?_⟩
    · exact (markTo_zero k xs).symm
    refine ⟨?_, ?_⟩
    · exact rfl
    refine ⟨?_, ?_⟩
    · first | omega | rfl | (simp; done) | (simp <;> omega)
    first | omega | rfl | (simp; done) | (simp <;> omega)
  intro g hg
  refine ⟨?_, ?_⟩
  · intro b1
    simp only [nrmT] at b1
    refine ⟨?_, ?_⟩
    · first | omega | rfl | (simp; done) | (simp <;> omega)
    refine ⟨?_, ?_⟩
    · first | omega | rfl | (simp; done) | (simp <;> omega)
    refine ⟨?_, ?_⟩
    · rw [markTo_len _ _ _ (by omega)]; omega
    refine ⟨?_, ?_⟩
    · first | omega | rfl | (simp; done) | (simp <;> omega)
    refine ⟨?_, ?_⟩
    · first | omega | rfl | (simp; done) | (simp <;> omega)
    refine ⟨?_, ?_⟩
    · first | omega | rfl | (simp; done) | (simp <;> omega)
    refine ⟨?_, ?_⟩
    · exact markTo_step k xs g (by omega)
    refine ⟨?_, ?_⟩
    · exact rfl
    refine ⟨?_, ?_⟩
    · first | omega | rfl | (simp; done) | (simp <;> omega)
    first | omega | rfl | (simp; done) | (simp <;> omega)
  · intro b2
    simp only [nrmT] at b2
    refine ⟨?_, ?_⟩
    · first | omega | rfl | (simp; done) | (simp <;> omega)
    rw [show g = xs.length by omega]; exact markTo_all k xs
theorem laws_markIntS_w_pw (xs : List Int) (k : Int) (hk : 0 ≤ k) (hn : k + (xs.length : Int) ≤ 9223372036854775807) : PW Try.prog 25 3 xs (marks k xs.length) k (k + (xs.length : Int)) :=
  pw_by Try.func25 @Try.call25 (by kernel_rfl) laws_markIntS_w_C (laws_markIntS_w_A xs k) (by kernel_rfl) (Nat.le_of_eq (marks_len _ _)) (laws_markIntS_w_vc xs k hk hn) (by kernel_rfl)
theorem marks_getD (k : Int) (n i : Nat) (h : i < n) : (marks k n).getD i 0 = k + (i : Int) := by
  simp [marks, h]
abbrev l_heldIntS_JJ0 (xs : List Int) (k : Int) (k2 : Int) (i : Int) : Prop := (0 ≤ i) ∧ (i ≤ (xs.length : Int)) ∧ (k2 = k + i)
abbrev l_heldIntS_mJ0 (xs : List Int) (k : Int) (k2 : Int) (i : Int) : Nat := (xs.length - i).toNat
def l_heldIntS_C (f : FuncId) (ds : List D) : Orc := .no
def l_heldIntS_A (xs : List Int) (k : Int) : Ann := .two (.none) (.two (.two (.none) (.loop (cut2 (fun (k2 : Int) (i : Int) => l_heldIntS_JJ0 xs k k2 i) (fun (k2 : Int) (i : Int) => [(0, .d false (.sl (.ints xs))), (1, .d true (.int .i64 k2)), (5, .d true (.int .i64 i))]) (fun (k2 : Int) (i : Int) => [])) (fun g => l_heldIntS_mJ0 xs k g.1 g.2) (fun _ => .none))) (.none))
def l_heldIntS_P (xs : List Int) (k : Int) : Prop :=
  ((∃ k2' : Int, ∃ i' : Int, (l_heldIntS_JJ0 xs k k2' i') ∧ (xs = xs) ∧ (k = k2') ∧ ((0 : Int) = i')) ∧ (∀ k2 : Int, ∀ i : Int, (l_heldIntS_JJ0 xs k k2 i) → (((decide (i < (xs.length : Int))) = true → ((0 : Int) ≤ i) ∧ ((i : Int) < xs.length) ∧ (i.toNat < xs.length) ∧ ((((xs.getD i.toNat 0) != k2) = true → ((((-1) : Int) = (k + (xs.length : Int))))) ∧ (((xs.getD i.toNat 0) != k2) = false → (-9223372036854775808 ≤ (k2 + 1) ∧ (k2 + 1) ≤ 9223372036854775807) ∧ (-9223372036854775808 ≤ (i + 1) ∧ (i + 1) ≤ 9223372036854775807) ∧ (∃ k2' : Int, ∃ i' : Int, (l_heldIntS_JJ0 xs k k2' i') ∧ (l_heldIntS_mJ0 xs k k2' i' < l_heldIntS_mJ0 xs k k2 i) ∧ (xs = xs) ∧ ((k2 + 1) = k2') ∧ ((i + 1) = i'))))) ∧ ((decide (i < (xs.length : Int))) = false → ((k2 = (k + (xs.length : Int))))))))
theorem l_heldIntS_vc (xs : List Int) (k : Int) (hk : 0 ≤ k) (hx : xs = marks k xs.length) (hn : k + (xs.length : Int) ≤ 9223372036854775807) (w_xs : (xs.length : Int) ≤ 9223372036854775807) : l_heldIntS_P xs k := by
  unfold l_heldIntS_P
  refine ⟨?_, ?_⟩
  · refine ⟨k, 0, ?_⟩
    refine ⟨?_, rfl, rfl, rfl⟩
    · refine ⟨?_, ?_, ?_⟩
      · first | omega | rfl | (intro hg; simp only [nrmT] at hg; omega) | (intro g1 g2; simp [g1, g2]; done) | (intro g1; simp at g1 ⊢; simp [g1]; done) | (simp only [nrmT] at *; omega) | (simp at * <;> omega) | (simp_all <;> omega) | (simp_all; done)
      · first | omega | rfl | (intro hg; simp only [nrmT] at hg; omega) | (intro g1 g2; simp [g1, g2]; done) | (intro g1; simp at g1 ⊢; simp [g1]; done) | (simp only [nrmT] at *; omega) | (simp at * <;> omega) | (simp_all <;> omega) | (simp_all; done)
      · first | omega | rfl | (intro hg; simp only [nrmT] at hg; omega) | (intro g1 g2; simp [g1, g2]; done) | (intro g1; simp at g1 ⊢; simp [g1]; done) | (simp only [nrmT] at *; omega) | (simp at * <;> omega) | (simp_all <;> omega) | (simp_all; done)
  · intro k2 i hJ
    obtain ⟨h1, h2, h3⟩ := hJ
    refine ⟨?_, ?_⟩
    · intro b1
      try simp only [nrmT] at b1
      refine ⟨?_, ?_, ?_, ?_, ?_⟩
      · first | omega | rfl | (intro hg; simp only [nrmT] at hg; omega) | (intro g1 g2; simp [g1, g2]; done) | (intro g1; simp at g1 ⊢; simp [g1]; done) | (simp only [nrmT] at *; omega) | (simp at * <;> omega) | (simp_all <;> omega) | (simp_all; done)
      · first | omega | rfl | (intro hg; simp only [nrmT] at hg; omega) | (intro g1 g2; simp [g1, g2]; done) | (intro g1; simp at g1 ⊢; simp [g1]; done) | (simp only [nrmT] at *; omega) | (simp at * <;> omega) | (simp_all <;> omega) | (simp_all; done)
      · first | omega | rfl | (intro hg; simp only [nrmT] at hg; omega) | (intro g1 g2; simp [g1, g2]; done) | (intro g1; simp at g1 ⊢; simp [g1]; done) | (simp only [nrmT] at *; omega) | (simp at * <;> omega) | (simp_all <;> omega) | (simp_all; done)
      · intro b2
        try simp only [nrmT] at b2
        exfalso
        have h9 : xs.getD i.toNat 0 = k + (i.toNat : Int) := by
          rw [hx]; exact marks_getD k _ _ (by omega)
        omega
      · intro b3
        try simp only [nrmT] at b3
        refine ⟨?_, ?_, ?_⟩
        · first | omega | rfl | (intro hg; simp only [nrmT] at hg; omega) | (intro g1 g2; simp [g1, g2]; done) | (intro g1; simp at g1 ⊢; simp [g1]; done) | (simp only [nrmT] at *; omega) | (simp at * <;> omega) | (simp_all <;> omega) | (simp_all; done)
        · first | omega | rfl | (intro hg; simp only [nrmT] at hg; omega) | (intro g1 g2; simp [g1, g2]; done) | (intro g1; simp at g1 ⊢; simp [g1]; done) | (simp only [nrmT] at *; omega) | (simp at * <;> omega) | (simp_all <;> omega) | (simp_all; done)
        · refine ⟨(k2 + 1), (i + 1), ?_⟩
          refine ⟨?_, ?_, rfl, rfl, rfl⟩
          · refine ⟨?_, ?_, ?_⟩
            · first | omega | rfl | (intro hg; simp only [nrmT] at hg; omega) | (intro g1 g2; simp [g1, g2]; done) | (intro g1; simp at g1 ⊢; simp [g1]; done) | (simp only [nrmT] at *; omega) | (simp at * <;> omega) | (simp_all <;> omega) | (simp_all; done)
            · first | omega | rfl | (intro hg; simp only [nrmT] at hg; omega) | (intro g1 g2; simp [g1, g2]; done) | (intro g1; simp at g1 ⊢; simp [g1]; done) | (simp only [nrmT] at *; omega) | (simp at * <;> omega) | (simp_all <;> omega) | (simp_all; done)
            · first | omega | rfl | (intro hg; simp only [nrmT] at hg; omega) | (intro g1 g2; simp [g1, g2]; done) | (intro g1; simp at g1 ⊢; simp [g1]; done) | (simp only [nrmT] at *; omega) | (simp at * <;> omega) | (simp_all <;> omega) | (simp_all; done)
          · first | (show _ < _; omega) | (simp only [l_heldIntS_mJ0]; omega) | (simp only [l_heldIntS_mJ0] at *; simp at *; omega)
    · intro b4
      try simp only [nrmT] at b4
      first | omega | rfl | (intro hg; simp only [nrmT] at hg; omega) | (intro g1 g2; simp [g1, g2]; done) | (intro g1; simp at g1 ⊢; simp [g1]; done) | (simp only [nrmT] at *; omega) | (simp at * <;> omega) | (simp_all <;> omega) | (simp_all; done)
theorem l_heldIntS_pc (xs : List Int) (k : Int) (hk : 0 ≤ k) (hx : xs = marks k xs.length) (hn : k + (xs.length : Int) ≤ 9223372036854775807) : PC Try.prog 26 [.sl (.ints xs), .int .i64 k] (.one (.d (.int .i64 (k + (xs.length : Int))))) :=
  pc_wf @Try.call26 fun hw => pc_by (by kernel_rfl) Try.func26 @Try.call26 (by kernel_rfl) l_heldIntS_C (l_heldIntS_A xs k) (by kernel_rfl) (l_heldIntS_vc xs k hk hx hn hw.1) (by kernel_rfl)
def l_heldIntS_orc : List D → Orc := orcN [some .ints, none] fun ds => match ds with
  | [.sl (.ints xs), .int .i64 k] => some (.one (.d (.int .i64 (k + (xs.length : Int)))))
  | _ => none
def s_l1Most_C (f : FuncId) (ds : List D) : Orc := .no
def s_l1Most_A (a : Int) (b : Int) : Ann := .none
def s_l1Most_P (a : Int) (b : Int) : Prop :=
  (((decide (a > b)) = true → ((a = (max a b)))) ∧ ((decide (a > b)) = false → ((b = (max a b)))))
theorem s_l1Most_vc (a : Int) (b : Int)   : s_l1Most_P a b := by
  unfold s_l1Most_P
  refine ⟨?_, ?_⟩
  · intro b1
    try simp only [nrmT] at b1
    first | omega | rfl | (intro hg; simp only [nrmT] at hg; omega) | (intro g1 g2; simp [g1, g2]; done) | (intro g1; simp at g1 ⊢; simp [g1]; done) | (simp only [nrmT] at *; omega) | (simp at * <;> omega) | (simp_all <;> omega) | (simp_all; done)
  · intro b2
    try simp only [nrmT] at b2
    first | omega | rfl | (intro hg; simp only [nrmT] at hg; omega) | (intro g1 g2; simp [g1, g2]; done) | (intro g1; simp at g1 ⊢; simp [g1]; done) | (simp only [nrmT] at *; omega) | (simp at * <;> omega) | (simp_all <;> omega) | (simp_all; done)
theorem s_l1Most_pc (a : Int) (b : Int)  : PC Try.prog 158 [.int .i64 a, .int .i64 b] (.one (.d (.int .i64 (max a b)))) :=
  pc_wf @Try.call158 fun _ => pc_by (by kernel_rfl) Try.func158 @Try.call158 (by kernel_rfl) s_l1Most_C (s_l1Most_A a b) (by kernel_rfl) (s_l1Most_vc a b) (by kernel_rfl)
def s_l1Most_orc : List D → Orc := orcN [none, none] fun ds => match ds with
  | [.int .i64 a, .int .i64 b] => some (.one (.d (.int .i64 (max a b))))
  | _ => none
def cmp_isNaN_int__C (f : FuncId) (ds : List D) : Orc := .no
def cmp_isNaN_int__A (x : Int) : Ann := .none
def cmp_isNaN_int__P (x : Int) : Prop :=
  (((x != x) = false))
theorem cmp_isNaN_int__vc (x : Int)   : cmp_isNaN_int__P x := by
  unfold cmp_isNaN_int__P
  simp
theorem cmp_isNaN_int__pc (x : Int)  : PC Try.prog 196 [.int .i64 x] (.one (.d (.bool false))) :=
  pc_wf @Try.call196 fun _ => pc_by (by kernel_rfl) Try.func196 @Try.call196 (by kernel_rfl) cmp_isNaN_int__C (cmp_isNaN_int__A x) (by kernel_rfl) (cmp_isNaN_int__vc x) (by kernel_rfl)
def cmp_isNaN_int__orc : List D → Orc := orcN [none] fun ds => match ds with
  | [.int .i64 x] => some (.one (.d (.bool false)))
  | _ => none
def srtB (xs : List Int) : Bool := allTo (fun k => decide (xs.getD k 0 ≤ xs.getD (k + 1) 0)) (xs.length - 1)
theorem srtB_no {xs : List Int} {i : Int} (h1 : 0 < i) (h2 : i < (xs.length : Int)) (h : xs.getD i.toNat 0 < xs.getD (i - 1).toNat 0) : srtB xs = false := by
  unfold srtB
  refine allTo_false (k := (i - 1).toNat) (by omega) ?_
  rw [show (i - 1).toNat + 1 = i.toNat by omega]
  exact decide_eq_false (by omega)
theorem srtB_yes {xs : List Int} {i : Int} (h1 : i ≤ 0) (h : ∀ k : Nat, i ≤ (k : Int) → k + 1 < xs.length → xs.getD k 0 ≤ xs.getD (k + 1) 0) : srtB xs = true :=
  allTo_iff.2 fun k hk => decide_eq_true (h k (by omega) (by omega))
def lineP (c : List Int) (k : Nat) : Bool := inB (c.getD k 0) 0 99 && (decide (k = 0) || !(decide (c.getD (k - 1) 0 > c.getD k 0)))
def goodL (sites clients : List Int) : Bool := allTo (lineP clients) clients.length && (inB (sites.length : Int) 1 7 && rising sites 0 99 && decide (clients.length ≤ 7))
theorem lineP_all {c : List Int} : allTo (lineP c) c.length = (c.all (fun x => inB x 0 99) && srtB c) := by
  rw [Bool.eq_iff_iff, allTo_iff, Bool.and_eq_true, ← allTo_list (d := 0), allTo_iff, srtB, allTo_iff]
  constructor
  · intro h
    refine ⟨fun k hk => ?_, fun k hk => ?_⟩
    · have := h k hk
      rw [lineP, Bool.and_eq_true] at this
      exact this.1
    · have := h (k + 1) (by omega)
      rw [lineP, Bool.and_eq_true, decide_eq_false (by omega), Bool.false_or, Nat.add_sub_cancel, Bool.not_eq_true', decide_eq_false_iff_not] at this
      exact decide_eq_true (by omega)
  · rintro ⟨h1, h2⟩ k hk
    rw [lineP, h1 k hk, Bool.true_and]
    by_cases e : k = 0
    · rw [decide_eq_true e]; rfl
    · have h3 := h2 (k - 1) (by omega)
      rw [show k - 1 + 1 = k by omega, decide_eq_true_eq] at h3
      rw [decide_eq_false e, decide_eq_false (by omega)]; rfl
theorem lineP_step {c : List Int} {i : Int} (h : 0 ≤ i) {b : Bool} (hb : (!(inB (c.getD i.toNat 0) 0 99) || (decide (i > 0) && decide (c.getD (i - 1).toNat 0 > c.getD i.toNat 0))) = b) : lineP c i.toNat = !b := by
  rw [← hb, lineP]
  by_cases e : i = 0
  · subst e
    cases inB (c.getD (0 : Int).toNat 0) 0 99 <;> simp
  · rw [decide_eq_false (by omega), decide_eq_true (show i > 0 by omega), show (i - 1).toNat = i.toNat - 1 by omega]
    cases inB (c.getD i.toNat 0) 0 99 <;> simp
def lineRow (sites : List Int) (c : Int) : List Int := tabTo (fun a => max (c - sites.getD a 0) (sites.getD a 0 - c)) sites.length
def lineD (sites clients : List Int) : List (List Int) := tabTo (fun j => lineRow sites (clients.getD j 0)) clients.length
theorem lineRow_len (sites : List Int) (c : Int) : (lineRow sites c).length = sites.length := tabTo_len _ _
theorem lineD_len (sites clients : List Int) : (lineD sites clients).length = clients.length := tabTo_len _ _
theorem lineD_get {sites clients : List Int} {j : Nat} (h : j < clients.length) : (lineD sites clients).getD j [] = lineRow sites (clients.getD j 0) := tabTo_get h
theorem goodL_facts {sites clients : List Int} (h : goodL sites clients = true) : 1 ≤ sites.length ∧ sites.length ≤ 7 ∧ clients.length ≤ 7 ∧ rising sites 0 99 = true ∧ ∀ k, k < clients.length → 0 ≤ clients.getD k 0 ∧ clients.getD k 0 ≤ 99 := by
  rw [goodL, Bool.and_eq_true, Bool.and_eq_true, Bool.and_eq_true, decide_eq_true_eq] at h
  obtain ⟨h1, ⟨h2, h3⟩, h4⟩ := h
  have h5 := inB_le h2
  refine ⟨by omega, by omega, h4, h3, fun k hk => ?_⟩
  have h6 := allTo_iff.1 h1 k hk
  rw [lineP, Bool.and_eq_true] at h6
  have := inB_le h6.1
  omega
def lastF (row : List Int) (r : Int) (b : Int) (a : Nat) : Int := if row.getD a 0 ≤ r then (a : Int) else b
def lastTo (row : List Int) (r : Int) (k : Nat) : Int := foldTo (lastF row r) (-1) k
theorem lastTo_succ (row : List Int) (r : Int) (k : Nat) : lastTo row r (k + 1) = if row.getD k 0 ≤ r then (k : Int) else lastTo row r k := rfl
theorem lastTo_in (row : List Int) (r : Int) : ∀ k, -1 ≤ lastTo row r k ∧ lastTo row r k < k
  | 0 => by simp [lastTo, foldTo]
  | k + 1 => by
    have := lastTo_in row r k
    rw [lastTo_succ]
    split <;> omega
def hasLe (row : List Int) (r : Int) (out : List Int) : Bool := out.any (fun a => decide (row.getD a.toNat 0 ≤ r))
def lsF (Dist : List (List Int)) (r : Int) (o : Option (List Int)) (j : Nat) : Option (List Int) :=
  match o with
  | none => none
  | some out => if hasLe (Dist.getD j []) r out = true then some out else if lastTo (Dist.getD j []) r (Dist.getD j []).length < 0 then none else some (out ++ [lastTo (Dist.getD j []) r (Dist.getD j []).length])
def lsTo (Dist : List (List Int)) (r : Int) (k : Nat) : Option (List Int) := foldTo (lsF Dist r) (some []) k
theorem lsTo_succ (Dist : List (List Int)) (r : Int) (k : Nat) : lsTo Dist r (k + 1) = lsF Dist r (lsTo Dist r k) k := rfl
theorem lsTo_none {Dist : List (List Int)} {r : Int} {k : Nat} (h : lsTo Dist r k = none) : ∀ n, k ≤ n → lsTo Dist r n = none
  | 0, hn => by have : k = 0 := by omega
                subst this; exact h
  | n + 1, hn => by
    by_cases e : k = n + 1
    · subst e; exact h
    · rw [lsTo_succ, lsTo_none h n (by omega)]; rfl
theorem lsTo_facts {Dist : List (List Int)} {r : Int} {m : Nat} : ∀ k out, (∀ j, j < k → (Dist.getD j []).length = m) → lsTo Dist r k = some out → out.length ≤ k ∧ ∀ a ∈ out, 0 ≤ a ∧ a < (m : Int)
  | 0, out, _, h => by
    have : out = [] := by simpa [lsTo, foldTo] using h.symm
    subst this; simp
  | k + 1, out, hm, h => by
    rw [lsTo_succ] at h
    cases ho : lsTo Dist r k with
    | none => rw [ho] at h; cases h
    | some o =>
      obtain ⟨i1, i2⟩ := lsTo_facts k o (fun j hj => hm j (by omega)) ho
      have hl := lastTo_in (Dist.getD k []) r (Dist.getD k []).length
      have hk := hm k (by omega)
      rw [ho] at h
      unfold lsF at h
      dsimp only at h
      split at h
      · cases h; exact ⟨by omega, i2⟩
      · split at h
        · cases h
        · rename_i hneg
          cases h
          refine ⟨by simp; omega, fun a ha => ?_⟩
          rcases List.mem_append.1 ha with ha | ha
          · exact i2 a ha
          · have : a = lastTo (Dist.getD k []) r (Dist.getD k []).length := by simpa using ha
            omega
theorem lsTo_keep {Dist : List (List Int)} {r : Int} {k : Nat} {out : List Int} (h : lsTo Dist r k = some out) (hh : hasLe (Dist.getD k []) r out = true) : lsTo Dist r (k + 1) = some out := by
  rw [lsTo_succ, h]; unfold lsF; dsimp only; rw [if_pos hh]
theorem lsTo_fail {Dist : List (List Int)} {r : Int} {k : Nat} {out : List Int} (h : lsTo Dist r k = some out) (hh : hasLe (Dist.getD k []) r out = false) (hl : lastTo (Dist.getD k []) r (Dist.getD k []).length < 0) : lsTo Dist r (k + 1) = none := by
  rw [lsTo_succ, h]; unfold lsF; dsimp only; rw [hh, if_neg (by simp), if_pos hl]
theorem lsTo_app {Dist : List (List Int)} {r : Int} {k : Nat} {out : List Int} (h : lsTo Dist r k = some out) (hh : hasLe (Dist.getD k []) r out = false) (hl : ¬ lastTo (Dist.getD k []) r (Dist.getD k []).length < 0) : lsTo Dist r (k + 1) = some (out ++ [lastTo (Dist.getD k []) r (Dist.getD k []).length]) := by
  rw [lsTo_succ, h]; unfold lsF; dsimp only; rw [hh, if_neg (by simp), if_neg hl]
def lfO (sites clients : List Int) : List Int := if goodL sites clients = true then List.replicate sites.length 0 else []
def lfD (sites clients : List Int) : List (List Int) := if goodL sites clients = true then lineD sites clients else []
theorem lfO_yes {sites clients : List Int} (h : goodL sites clients = true) : lfO sites clients = List.replicate sites.length 0 := by rw [lfO, if_pos h]
theorem lfD_yes {sites clients : List Int} (h : goodL sites clients = true) : lfD sites clients = lineD sites clients := by rw [lfD, if_pos h]
theorem lfO_no {sites clients : List Int} (h : goodL sites clients = false) : lfO sites clients = [] := by rw [lfO, h]; rfl
theorem lfD_no {sites clients : List Int} (h : goodL sites clients = false) : lfD sites clients = [] := by rw [lfD, h]; rfl
theorem lfD_row {sites clients : List Int} (h : goodL sites clients = true) {j : Nat} (hj : j < clients.length) : ((lfD sites clients).getD j []).length = sites.length := by rw [lfD_yes h, lineD_get hj, lineRow_len]
theorem lfD_len {sites clients : List Int} (h : goodL sites clients = true) : (lfD sites clients).length = clients.length := by rw [lfD_yes h, lineD_len]
def lsO (sites clients : List Int) (r : Int) : Option (List Int) := if (goodL sites clients && decide (0 ≤ r)) = true then lsTo (lfD sites clients) r clients.length else none
def lsL (sites clients : List Int) (r : Int) : List Int := (lsO sites clients r).getD []
theorem lsL_len {sites clients : List Int} {r : Int} : (lsL sites clients r).length ≤ 7 := by
  unfold lsL lsO
  split
  · rename_i h
    rw [Bool.and_eq_true] at h
    obtain ⟨g1, g2, g3, _⟩ := goodL_facts h.1
    cases ho : lsTo (lfD sites clients) r clients.length with
    | none => simp
    | some o =>
      have := (lsTo_facts (m := sites.length) clients.length o (fun j hj => lfD_row h.1 hj) ho).1
      show o.length ≤ 7
      omega
  · simp
def cmp_Less_int__C (f : FuncId) (ds : List D) : Orc := bif Nat.beq f 196 then cmp_isNaN_int__orc ds else .no
def cmp_Less_int__A (a : Int) (b : Int) : Ann := .none
def cmp_Less_int__P (a : Int) (b : Int) : Prop :=
  (PC Try.prog 196 [.int .i64 a] (.one (.d (.bool false)))) ∧ (false = true → false = true) ∧ (false = true → PC Try.prog 196 [.int .i64 b] (.one (.d (.bool false)))) ∧ (false = true → false = true) ∧ (true = true) ∧ ((false = true → false = true)) ∧ ((false = false → true = true)) ∧ ((!(cond false true false)) = true → (!(cond false true false)) = true) ∧ ((!(cond false true false)) = true → (!(cond false true false)) = true) ∧ (true = true) ∧ (((cond false true false) = true → true = true)) ∧ (((cond false true false) = false → (!(cond false true false)) = true)) ∧ (((cond (cond false true false) true (decide (a < b))) = (decide (a < b))))
theorem cmp_Less_int__vc (a : Int) (b : Int)   : cmp_Less_int__P a b := by
  unfold cmp_Less_int__P
  refine ⟨cmp_isNaN_int__pc a, id, fun _ => cmp_isNaN_int__pc b, id, rfl, id, fun _ => rfl, id, id, rfl, fun _ => rfl, ?_, ?_⟩
  · simp
  · simp
theorem cmp_Less_int__pc (a : Int) (b : Int)  : PC Try.prog 183 [.int .i64 a, .int .i64 b] (.one (.d (.bool (decide (a < b))))) :=
  pc_wf @Try.call183 fun _ => pc_by (by kernel_rfl) Try.func183 @Try.call183 (by kernel_rfl) cmp_Less_int__C (cmp_Less_int__A a b) (by kernel_rfl) (cmp_Less_int__vc a b) (by kernel_rfl)
def cmp_Less_int__orc : List D → Orc := orcN [none, none] fun ds => match ds with
  | [.int .i64 a, .int .i64 b] => some (.one (.d (.bool (decide (a < b)))))
  | _ => none
abbrev slices_IsSorted_int_int__JJ0 (xs : List Int) (i : Int) : Prop := (-1 ≤ i) ∧ (i < (xs.length : Int)) ∧ (∀ k : Nat, i ≤ (k : Int) → k + 1 < xs.length → xs.getD k 0 ≤ xs.getD (k + 1) 0)
abbrev slices_IsSorted_int_int__mJ0 (xs : List Int) (i : Int) : Nat := (i + 1).toNat
def slices_IsSorted_int_int__C (f : FuncId) (ds : List D) : Orc := bif Nat.beq f 183 then cmp_Less_int__orc ds else .no
def slices_IsSorted_int_int__A (xs : List Int) : Ann := .two (.none) (.two (.two (.none) (.loop (cut1 (fun (i : Int) => slices_IsSorted_int_int__JJ0 xs i) (fun (i : Int) => [(0, .d false (.sl (.ints xs))), (3, .d true (.int .i64 i))]) (fun (i : Int) => [])) (fun g => slices_IsSorted_int_int__mJ0 xs g) (fun _ => .none))) (.none))
def slices_IsSorted_int_int__P (xs : List Int) : Prop :=
  (-9223372036854775808 ≤ ((xs.length : Int) - 1) ∧ ((xs.length : Int) - 1) ≤ 9223372036854775807) ∧ ((∃ i' : Int, (slices_IsSorted_int_int__JJ0 xs i') ∧ (xs = xs) ∧ (((xs.length : Int) - 1) = i')) ∧ (∀ i : Int, (slices_IsSorted_int_int__JJ0 xs i) → (((decide (i > 0)) = true → (true = true) ∧ ((0 : Int) ≤ i) ∧ ((i : Int) < xs.length) ∧ (i.toNat < xs.length) ∧ (-9223372036854775808 ≤ (i - 1) ∧ (i - 1) ≤ 9223372036854775807) ∧ ((0 : Int) ≤ (i - 1)) ∧ (((i - 1) : Int) < xs.length) ∧ ((i - 1).toNat < xs.length) ∧ (PC Try.prog 183 [.int .i64 (xs.getD i.toNat 0), .int .i64 (xs.getD ((i - 1).toNat) 0)] (.one (.d (.bool (decide ((xs.getD i.toNat 0) < (xs.getD ((i - 1).toNat) 0))))))) ∧ (((decide ((xs.getD i.toNat 0) < (xs.getD ((i - 1).toNat) 0))) = true → ((false = (srtB xs)))) ∧ ((decide ((xs.getD i.toNat 0) < (xs.getD ((i - 1).toNat) 0))) = false → (-9223372036854775808 ≤ (i - 1) ∧ (i - 1) ≤ 9223372036854775807) ∧ (∃ i' : Int, (slices_IsSorted_int_int__JJ0 xs i') ∧ (slices_IsSorted_int_int__mJ0 xs i' < slices_IsSorted_int_int__mJ0 xs i) ∧ (xs = xs) ∧ ((i - 1) = i'))))) ∧ ((decide (i > 0)) = false → ((true = (srtB xs)))))))
theorem slices_IsSorted_int_int__vc (xs : List Int)  (w_xs : (xs.length : Int) ≤ 9223372036854775807) : slices_IsSorted_int_int__P xs := by
  unfold slices_IsSorted_int_int__P
  refine ⟨?_, ?_, ?_⟩
  · first | omega | rfl | (intro hg; simp only [nrmT] at hg; omega) | (intro g1 g2; simp [g1, g2]; done) | (intro g1; simp at g1 ⊢; simp [g1]; done) | (simp only [nrmT] at *; omega) | (simp at * <;> omega) | (simp_all <;> omega) | (simp_all; done)
  · refine ⟨((xs.length : Int) - 1), ?_⟩
    refine ⟨?_, rfl, rfl⟩
    · refine ⟨?_, ?_, ?_⟩
      · first | omega | rfl | (intro hg; simp only [nrmT] at hg; omega) | (intro g1 g2; simp [g1, g2]; done) | (intro g1; simp at g1 ⊢; simp [g1]; done) | (simp only [nrmT] at *; omega) | (simp at * <;> omega) | (simp_all <;> omega) | (simp_all; done)
      · first | omega | rfl | (intro hg; simp only [nrmT] at hg; omega) | (intro g1 g2; simp [g1, g2]; done) | (intro g1; simp at g1 ⊢; simp [g1]; done) | (simp only [nrmT] at *; omega) | (simp at * <;> omega) | (simp_all <;> omega) | (simp_all; done)
      · intro k h4 h5; omega
  · intro i hJ
    obtain ⟨h1, h2, h3⟩ := hJ
    refine ⟨?_, ?_⟩
    · intro b1
      try simp only [nrmT] at b1
      refine ⟨rfl, ?_, ?_, ?_, ?_, ?_, ?_, ?_, cmp_Less_int__pc (xs.getD i.toNat 0) (xs.getD ((i - 1).toNat) 0), ?_, ?_⟩
      · first | omega | rfl | (intro hg; simp only [nrmT] at hg; omega) | (intro g1 g2; simp [g1, g2]; done) | (intro g1; simp at g1 ⊢; simp [g1]; done) | (simp only [nrmT] at *; omega) | (simp at * <;> omega) | (simp_all <;> omega) | (simp_all; done)
      · first | omega | rfl | (intro hg; simp only [nrmT] at hg; omega) | (intro g1 g2; simp [g1, g2]; done) | (intro g1; simp at g1 ⊢; simp [g1]; done) | (simp only [nrmT] at *; omega) | (simp at * <;> omega) | (simp_all <;> omega) | (simp_all; done)
      · first | omega | rfl | (intro hg; simp only [nrmT] at hg; omega) | (intro g1 g2; simp [g1, g2]; done) | (intro g1; simp at g1 ⊢; simp [g1]; done) | (simp only [nrmT] at *; omega) | (simp at * <;> omega) | (simp_all <;> omega) | (simp_all; done)
      · first | omega | rfl | (intro hg; simp only [nrmT] at hg; omega) | (intro g1 g2; simp [g1, g2]; done) | (intro g1; simp at g1 ⊢; simp [g1]; done) | (simp only [nrmT] at *; omega) | (simp at * <;> omega) | (simp_all <;> omega) | (simp_all; done)
      · first | omega | rfl | (intro hg; simp only [nrmT] at hg; omega) | (intro g1 g2; simp [g1, g2]; done) | (intro g1; simp at g1 ⊢; simp [g1]; done) | (simp only [nrmT] at *; omega) | (simp at * <;> omega) | (simp_all <;> omega) | (simp_all; done)
      · first | omega | rfl | (intro hg; simp only [nrmT] at hg; omega) | (intro g1 g2; simp [g1, g2]; done) | (intro g1; simp at g1 ⊢; simp [g1]; done) | (simp only [nrmT] at *; omega) | (simp at * <;> omega) | (simp_all <;> omega) | (simp_all; done)
      · first | omega | rfl | (intro hg; simp only [nrmT] at hg; omega) | (intro g1 g2; simp [g1, g2]; done) | (intro g1; simp at g1 ⊢; simp [g1]; done) | (simp only [nrmT] at *; omega) | (simp at * <;> omega) | (simp_all <;> omega) | (simp_all; done)
      · intro b2
        try simp only [nrmT] at b2
        exact (srtB_no (by omega) h2 b2).symm
      · intro b3
        try simp only [nrmT] at b3
        refine ⟨?_, ?_⟩
        · first | omega | rfl | (intro hg; simp only [nrmT] at hg; omega) | (intro g1 g2; simp [g1, g2]; done) | (intro g1; simp at g1 ⊢; simp [g1]; done) | (simp only [nrmT] at *; omega) | (simp at * <;> omega) | (simp_all <;> omega) | (simp_all; done)
        · refine ⟨(i - 1), ?_⟩
          refine ⟨?_, ?_, rfl, rfl⟩
          · refine ⟨?_, ?_, ?_⟩
            · first | omega | rfl | (intro hg; simp only [nrmT] at hg; omega) | (intro g1 g2; simp [g1, g2]; done) | (intro g1; simp at g1 ⊢; simp [g1]; done) | (simp only [nrmT] at *; omega) | (simp at * <;> omega) | (simp_all <;> omega) | (simp_all; done)
            · first | omega | rfl | (intro hg; simp only [nrmT] at hg; omega) | (intro g1 g2; simp [g1, g2]; done) | (intro g1; simp at g1 ⊢; simp [g1]; done) | (simp only [nrmT] at *; omega) | (simp at * <;> omega) | (simp_all <;> omega) | (simp_all; done)
            · intro k h4 h5
              by_cases e : i ≤ (k : Int)
              · exact h3 k e h5
              · have e1 : k = (i - 1).toNat := by omega
                have e2 : k + 1 = i.toNat := by omega
                rw [e2, e1]
                omega
          · first | (show _ < _; omega) | (simp only [slices_IsSorted_int_int__mJ0]; omega) | (simp only [slices_IsSorted_int_int__mJ0] at *; simp at *; omega)
    · intro b4
      try simp only [nrmT] at b4
      exact (srtB_yes (by omega) h3).symm
theorem slices_IsSorted_int_int__pc (xs : List Int)  : PC Try.prog 138 [.sl (.ints xs)] (.one (.d (.bool (srtB xs)))) :=
  pc_wf @Try.call138 fun hw => pc_by (by kernel_rfl) Try.func138 @Try.call138 (by kernel_rfl) slices_IsSorted_int_int__C (slices_IsSorted_int_int__A xs) (by kernel_rfl) (slices_IsSorted_int_int__vc xs hw.1) (by kernel_rfl)
def slices_IsSorted_int_int__orc : List D → Orc := orcN [some .ints] fun ds => match ds with
  | [.sl (.ints xs)] => some (.one (.d (.bool (srtB xs))))
  | _ => none
theorem goodL_test {sites clients : List Int} : goodL sites clients = !(cond (cond (cond (cond (!(inB (sites.length : Int) 1 7)) true (!(rising sites 0 (100 - 1)))) true (decide ((clients.length : Int) > 7))) true (!(clients.all (fun x => inB x 0 99)))) true (!(srtB clients))) := by
  have d : decide ((clients.length : Int) > 7) = !(decide (clients.length ≤ 7)) := by
    by_cases h : clients.length ≤ 7
    · rw [decide_eq_true h, decide_eq_false (by omega)]; rfl
    · rw [decide_eq_false h, decide_eq_true (by omega)]; rfl
  unfold goodL
  rw [lineP_all, d, show (100 - 1 : Int) = 99 from rfl]
  cases clients.all (fun x => inB x 0 99) <;> cases srtB clients <;> cases inB (sites.length : Int) 1 7 <;> cases rising sites 0 99 <;> cases decide (clients.length ≤ 7) <;> rfl
abbrev s_l4Line_JJ0 (sites : List Int) (clients : List Int) (i : Int) : Prop := (0 ≤ i) ∧ (i ≤ (clients.length : Int)) ∧ (allTo (lineP clients) i.toNat = true)
abbrev s_l4Line_mJ0 (sites : List Int) (clients : List Int) (i : Int) : Nat := (clients.length - i).toNat
def s_l4Line_C (f : FuncId) (ds : List D) : Orc := bif Nat.beq f 78 then s_l1In_orc ds else bif Nat.beq f 181 then s_l1Rising_orc ds else .no
def s_l4Line_A (sites : List Int) (clients : List Int) : Ann := .two (.none) (.two (.two (.none) (.loop (cut1 (fun (i : Int) => s_l4Line_JJ0 sites clients i) (fun (i : Int) => [(0, .d false (.sl (.ints sites))), (1, .d false (.sl (.ints clients))), (5, .d true (.int .i64 i))]) (fun (i : Int) => [])) (fun g => s_l4Line_mJ0 sites clients g) (fun _ => .none))) (.none))
def s_l4Line_P (sites : List Int) (clients : List Int) : Prop :=
  ((∃ i' : Int, (s_l4Line_JJ0 sites clients i') ∧ (sites = sites) ∧ (clients = clients) ∧ ((0 : Int) = i')) ∧ (∀ i : Int, (s_l4Line_JJ0 sites clients i) → (((decide (i < (clients.length : Int))) = true → (true = true) ∧ ((0 : Int) ≤ i) ∧ ((i : Int) < clients.length) ∧ (i.toNat < clients.length) ∧ (PC Try.prog 78 [.int .i64 (clients.getD i.toNat 0), .int .i64 0, .int .i64 99] (.one (.d (.bool (inB (clients.getD i.toNat 0) 0 99))))) ∧ ((!(!(inB (clients.getD i.toNat 0) 0 99))) = true → (!(!(inB (clients.getD i.toNat 0) 0 99))) = true) ∧ ((!(!(inB (clients.getD i.toNat 0) 0 99))) = true → (!(!(inB (clients.getD i.toNat 0) 0 99))) = true) ∧ (((!(!(inB (clients.getD i.toNat 0) 0 99))) && (decide (i > 0))) = true → ((!(!(inB (clients.getD i.toNat 0) 0 99))) && (decide (i > 0))) = true) ∧ ((((!(!(inB (clients.getD i.toNat 0) 0 99))) && (decide (i > 0))) = true → -9223372036854775808 ≤ (i - 1) ∧ (i - 1) ≤ 9223372036854775807)) ∧ (((!(!(inB (clients.getD i.toNat 0) 0 99))) && (decide (i > 0))) = true → ((!(!(inB (clients.getD i.toNat 0) 0 99))) && (decide (i > 0))) = true) ∧ (((!(!(inB (clients.getD i.toNat 0) 0 99))) && (decide (i > 0))) = true → ((!(!(inB (clients.getD i.toNat 0) 0 99))) && (decide (i > 0))) = true) ∧ ((((!(!(inB (clients.getD i.toNat 0) 0 99))) && (decide (i > 0))) = true → (0 : Int) ≤ (i - 1))) ∧ ((((!(!(inB (clients.getD i.toNat 0) 0 99))) && (decide (i > 0))) = true → ((i - 1) : Int) < clients.length)) ∧ (((!(!(inB (clients.getD i.toNat 0) 0 99))) && (decide (i > 0))) = true → ((!(!(inB (clients.getD i.toNat 0) 0 99))) && (decide (i > 0))) = true) ∧ ((((!(!(inB (clients.getD i.toNat 0) 0 99))) && (decide (i > 0))) = true → (i - 1).toNat < clients.length)) ∧ (((!(!(inB (clients.getD i.toNat 0) 0 99))) && (decide (i > 0))) = true → ((!(!(inB (clients.getD i.toNat 0) 0 99))) && (decide (i > 0))) = true) ∧ (((!(!(inB (clients.getD i.toNat 0) 0 99))) && (decide (i > 0))) = true → ((!(!(inB (clients.getD i.toNat 0) 0 99))) && (decide (i > 0))) = true) ∧ ((((!(!(inB (clients.getD i.toNat 0) 0 99))) && (decide (i > 0))) = true → (0 : Int) ≤ i)) ∧ ((((!(!(inB (clients.getD i.toNat 0) 0 99))) && (decide (i > 0))) = true → (i : Int) < clients.length)) ∧ (((!(!(inB (clients.getD i.toNat 0) 0 99))) && (decide (i > 0))) = true → ((!(!(inB (clients.getD i.toNat 0) 0 99))) && (decide (i > 0))) = true) ∧ ((((!(!(inB (clients.getD i.toNat 0) 0 99))) && (decide (i > 0))) = true → i.toNat < clients.length)) ∧ (((!(!(inB (clients.getD i.toNat 0) 0 99))) && (decide (i > 0))) = true → ((!(!(inB (clients.getD i.toNat 0) 0 99))) && (decide (i > 0))) = true) ∧ (((!(!(inB (clients.getD i.toNat 0) 0 99))) && (decide (i > 0))) = true → ((!(!(inB (clients.getD i.toNat 0) 0 99))) && (decide (i > 0))) = true) ∧ (((!(!(inB (clients.getD i.toNat 0) 0 99))) = true → (!(!(inB (clients.getD i.toNat 0) 0 99))) = true)) ∧ (((!(!(inB (clients.getD i.toNat 0) 0 99))) = true → (decide (i > 0)) = true → ((!(!(inB (clients.getD i.toNat 0) 0 99))) && (decide (i > 0))) = true)) ∧ (((!(!(inB (clients.getD i.toNat 0) 0 99))) = true → (decide (i > 0)) = false → true = true)) ∧ (true = true) ∧ (((!(inB (clients.getD i.toNat 0) 0 99)) = true → true = true)) ∧ (((!(inB (clients.getD i.toNat 0) 0 99)) = false → (!(!(inB (clients.getD i.toNat 0) 0 99))) = true)) ∧ (((cond (!(inB (clients.getD i.toNat 0) 0 99)) true (cond (decide (i > 0)) (decide ((clients.getD ((i - 1).toNat) 0) > (clients.getD i.toNat 0))) false)) = true → ((false = (goodL sites clients)))) ∧ ((cond (!(inB (clients.getD i.toNat 0) 0 99)) true (cond (decide (i > 0)) (decide ((clients.getD ((i - 1).toNat) 0) > (clients.getD i.toNat 0))) false)) = false → (-9223372036854775808 ≤ (i + 1) ∧ (i + 1) ≤ 9223372036854775807) ∧ (∃ i' : Int, (s_l4Line_JJ0 sites clients i') ∧ (s_l4Line_mJ0 sites clients i' < s_l4Line_mJ0 sites clients i) ∧ (sites = sites) ∧ (clients = clients) ∧ ((i + 1) = i'))))) ∧ ((decide (i < (clients.length : Int))) = false → (PC Try.prog 78 [.int .i64 (sites.length : Int), .int .i64 1, .int .i64 7] (.one (.d (.bool (inB (sites.length : Int) 1 7))))) ∧ ((inB (sites.length : Int) 1 7) = true → (inB (sites.length : Int) 1 7) = true) ∧ ((inB (sites.length : Int) 1 7) = true → PC Try.prog 181 [.sl (.ints sites), .int .i64 0, .int .i64 99] (.one (.d (.bool (rising sites 0 99))))) ∧ (true = true) ∧ (((inB (sites.length : Int) 1 7) = true → (inB (sites.length : Int) 1 7) = true)) ∧ (((inB (sites.length : Int) 1 7) = false → true = true)) ∧ ((cond (inB (sites.length : Int) 1 7) (rising sites 0 99) false) = true → (cond (inB (sites.length : Int) 1 7) (rising sites 0 99) false) = true) ∧ ((cond (inB (sites.length : Int) 1 7) (rising sites 0 99) false) = true → (cond (inB (sites.length : Int) 1 7) (rising sites 0 99) false) = true) ∧ (true = true) ∧ (((cond (inB (sites.length : Int) 1 7) (rising sites 0 99) false) = true → (cond (inB (sites.length : Int) 1 7) (rising sites 0 99) false) = true)) ∧ (((cond (inB (sites.length : Int) 1 7) (rising sites 0 99) false) = false → true = true)) ∧ (((cond (cond (inB (sites.length : Int) 1 7) (rising sites 0 99) false) (decide ((clients.length : Int) ≤ 7)) false) = (goodL sites clients)))))))
theorem s_l4Line_vc (sites : List Int) (clients : List Int)  (w_sites : (sites.length : Int) ≤ 9223372036854775807) (w_clients : (clients.length : Int) ≤ 9223372036854775807) : s_l4Line_P sites clients := by
  unfold s_l4Line_P
  refine ⟨?_, ?_⟩
  · refine ⟨0, ?_⟩
    refine ⟨?_, rfl, rfl, rfl⟩
    · refine ⟨?_, ?_, ?_⟩
      · first | omega | rfl | (intro hg; simp only [nrmT] at hg; omega) | (intro g1 g2; simp [g1, g2]; done) | (intro g1; simp at g1 ⊢; simp [g1]; done) | (simp only [nrmT] at *; omega) | (simp at * <;> omega) | (simp_all <;> omega) | (simp_all; done)
      · first | omega | rfl | (intro hg; simp only [nrmT] at hg; omega) | (intro g1 g2; simp [g1, g2]; done) | (intro g1; simp at g1 ⊢; simp [g1]; done) | (simp only [nrmT] at *; omega) | (simp at * <;> omega) | (simp_all <;> omega) | (simp_all; done)
      · first | omega | rfl | (intro hg; simp only [nrmT] at hg; omega) | (intro g1 g2; simp [g1, g2]; done) | (intro g1; simp at g1 ⊢; simp [g1]; done) | (simp only [nrmT] at *; omega) | (simp at * <;> omega) | (simp_all <;> omega) | (simp_all; done)
  · intro i hJ
    obtain ⟨h1, h2, h3⟩ := hJ
    refine ⟨?_, ?_⟩
    · intro b1
      try simp only [nrmT] at b1
      refine ⟨rfl, ?_, ?_, ?_, s_l1In_pc (clients.getD i.toNat 0) 0 99, id, id, id, ?_, id, id, ?_, ?_, id, ?_, id, id, ?_, ?_, id, ?_, id, id, id, ?_, fun _ _ => rfl, rfl, fun _ => rfl, ?_, ?_, ?_⟩
      · first | omega | rfl | (intro hg; simp only [nrmT] at hg; omega) | (intro g1 g2; simp [g1, g2]; done) | (intro g1; simp at g1 ⊢; simp [g1]; done) | (simp only [nrmT] at *; omega) | (simp at * <;> omega) | (simp_all <;> omega) | (simp_all; done)
      · first | omega | rfl | (intro hg; simp only [nrmT] at hg; omega) | (intro g1 g2; simp [g1, g2]; done) | (intro g1; simp at g1 ⊢; simp [g1]; done) | (simp only [nrmT] at *; omega) | (simp at * <;> omega) | (simp_all <;> omega) | (simp_all; done)
      · first | omega | rfl | (intro hg; simp only [nrmT] at hg; omega) | (intro g1 g2; simp [g1, g2]; done) | (intro g1; simp at g1 ⊢; simp [g1]; done) | (simp only [nrmT] at *; omega) | (simp at * <;> omega) | (simp_all <;> omega) | (simp_all; done)
      · first | omega | rfl | (intro hg; simp only [nrmT] at hg; omega) | (intro g1 g2; simp [g1, g2]; done) | (intro g1; simp at g1 ⊢; simp [g1]; done) | (simp only [nrmT] at *; omega) | (simp at * <;> omega) | (simp_all <;> omega) | (simp_all; done)
      · first | omega | rfl | (intro hg; simp only [nrmT] at hg; omega) | (intro g1 g2; simp [g1, g2]; done) | (intro g1; simp at g1 ⊢; simp [g1]; done) | (simp only [nrmT] at *; omega) | (simp at * <;> omega) | (simp_all <;> omega) | (simp_all; done)
      · first | omega | rfl | (intro hg; simp only [nrmT] at hg; omega) | (intro g1 g2; simp [g1, g2]; done) | (intro g1; simp at g1 ⊢; simp [g1]; done) | (simp only [nrmT] at *; omega) | (simp at * <;> omega) | (simp_all <;> omega) | (simp_all; done)
      · first | omega | rfl | (intro hg; simp only [nrmT] at hg; omega) | (intro g1 g2; simp [g1, g2]; done) | (intro g1; simp at g1 ⊢; simp [g1]; done) | (simp only [nrmT] at *; omega) | (simp at * <;> omega) | (simp_all <;> omega) | (simp_all; done)
      · first | omega | rfl | (intro hg; simp only [nrmT] at hg; omega) | (intro g1 g2; simp [g1, g2]; done) | (intro g1; simp at g1 ⊢; simp [g1]; done) | (simp only [nrmT] at *; omega) | (simp at * <;> omega) | (simp_all <;> omega) | (simp_all; done)
      · first | omega | rfl | (intro hg; simp only [nrmT] at hg; omega) | (intro g1 g2; simp [g1, g2]; done) | (intro g1; simp at g1 ⊢; simp [g1]; done) | (simp only [nrmT] at *; omega) | (simp at * <;> omega) | (simp_all <;> omega) | (simp_all; done)
      · first | omega | rfl | (intro hg; simp only [nrmT] at hg; omega) | (intro g1 g2; simp [g1, g2]; done) | (intro g1; simp at g1 ⊢; simp [g1]; done) | (simp only [nrmT] at *; omega) | (simp at * <;> omega) | (simp_all <;> omega) | (simp_all; done)
      · first | omega | rfl | (intro hg; simp only [nrmT] at hg; omega) | (intro g1 g2; simp [g1, g2]; done) | (intro g1; simp at g1 ⊢; simp [g1]; done) | (simp only [nrmT] at *; omega) | (simp at * <;> omega) | (simp_all <;> omega) | (simp_all; done)
      · first | omega | rfl | (intro hg; simp only [nrmT] at hg; omega) | (intro g1 g2; simp [g1, g2]; done) | (intro g1; simp at g1 ⊢; simp [g1]; done) | (simp only [nrmT] at *; omega) | (simp at * <;> omega) | (simp_all <;> omega) | (simp_all; done)
      · intro b2
        unfold goodL
        rw [allTo_falseI h1 (by omega) (by rw [lineP_step h1 (b := true) (by revert b2; cases inB (clients.getD i.toNat 0) 0 99 <;> simp)]; rfl)]
        rfl
      · intro b3
        refine ⟨?_, ?_⟩
        · first | omega | rfl | (intro hg; simp only [nrmT] at hg; omega) | (intro g1 g2; simp [g1, g2]; done) | (intro g1; simp at g1 ⊢; simp [g1]; done) | (simp only [nrmT] at *; omega) | (simp at * <;> omega) | (simp_all <;> omega) | (simp_all; done)
        · refine ⟨(i + 1), ?_⟩
          refine ⟨?_, ?_, rfl, rfl, rfl⟩
          · refine ⟨?_, ?_, ?_⟩
            · first | omega | rfl | (intro hg; simp only [nrmT] at hg; omega) | (intro g1 g2; simp [g1, g2]; done) | (intro g1; simp at g1 ⊢; simp [g1]; done) | (simp only [nrmT] at *; omega) | (simp at * <;> omega) | (simp_all <;> omega) | (simp_all; done)
            · first | omega | rfl | (intro hg; simp only [nrmT] at hg; omega) | (intro g1 g2; simp [g1, g2]; done) | (intro g1; simp at g1 ⊢; simp [g1]; done) | (simp only [nrmT] at *; omega) | (simp at * <;> omega) | (simp_all <;> omega) | (simp_all; done)
            · exact allTo_step h1 h3 (by rw [lineP_step h1 (b := false) (by revert b3; cases inB (clients.getD i.toNat 0) 0 99 <;> simp)]; rfl)
          · first | (show _ < _; omega) | (simp only [s_l4Line_mJ0]; omega) | (simp only [s_l4Line_mJ0] at *; simp at *; omega)
    · intro b4
      try simp only [nrmT] at b4
      refine ⟨s_l1In_pc (sites.length : Int) 1 7, id, fun _ => s_l1Rising_pc sites 0 99, rfl, id, fun _ => rfl, id, id, rfl, id, fun _ => rfl, ?_⟩
      · unfold goodL
        rw [← show allTo (lineP clients) i.toNat = allTo (lineP clients) clients.length by rw [show i.toNat = clients.length by omega], h3, Bool.true_and]
        rw [show decide ((clients.length : Int) ≤ 7) = decide (clients.length ≤ 7) by congr 1; exact propext ⟨fun h => by omega, fun h => by omega⟩]
        cases inB (sites.length : Int) 1 7 <;> cases rising sites 0 99 <;> rfl
theorem s_l4Line_pc (sites : List Int) (clients : List Int)  : PC Try.prog 134 [.sl (.ints sites), .sl (.ints clients)] (.one (.d (.bool (goodL sites clients)))) :=
  pc_wf @Try.call134 fun hw => pc_by (by kernel_rfl) Try.func134 @Try.call134 (by kernel_rfl) s_l4Line_C (s_l4Line_A sites clients) (by kernel_rfl) (s_l4Line_vc sites clients hw.1 hw.2.1) (by kernel_rfl)
def s_l4Line_orc : List D → Orc := orcN [some .ints, some .ints] fun ds => match ds with
  | [.sl (.ints sites), .sl (.ints clients)] => some (.one (.d (.bool (goodL sites clients))))
  | _ => none
abbrev s_l4Laid_JJ0 (sites : List Int) (clients : List Int) (i : Int) (op : List Int) (out : List (List Int)) : Prop := (0 ≤ i) ∧ (i ≤ (clients.length : Int)) ∧ (op = List.replicate sites.length 0) ∧ (out = tabTo (fun j => lineRow sites (clients.getD j 0)) i.toNat)
abbrev s_l4Laid_mJ0 (sites : List Int) (clients : List Int) (i : Int) (op : List Int) (out : List (List Int)) : Nat := (clients.length - i).toNat
abbrev s_l4Laid_JJ1 (sites : List Int) (clients : List Int) (i : Int) (op : List Int) (out : List (List Int)) (row : List Int) (a : Int) : Prop := (0 ≤ a) ∧ (a ≤ (sites.length : Int)) ∧ (row = tabTo (fun c => max (clients.getD i.toNat 0 - sites.getD c 0) (sites.getD c 0 - clients.getD i.toNat 0)) a.toNat)
abbrev s_l4Laid_mJ1 (sites : List Int) (clients : List Int) (i : Int) (op : List Int) (out : List (List Int)) (row : List Int) (a : Int) : Nat := (sites.length - a).toNat
abbrev s_l4Laid_JA1 (sites : List Int) (clients : List Int) (i : Int) (op : List Int) (out : List (List Int)) (row2 : List Int) : Prop := (row2 = lineRow sites (clients.getD i.toNat 0))
def s_l4Laid_C (f : FuncId) (ds : List D) : Orc := bif Nat.beq f 158 then s_l1Most_orc ds else .no
def s_l4Laid_A (sites : List Int) (clients : List Int) : Ann := .two (.none) (.two (.none) (.two (.two (.none) (.loop (cut3 (fun (i : Int) (op : List Int) (out : List (List Int)) => s_l4Laid_JJ0 sites clients i op out) (fun (i : Int) (op : List Int) (out : List (List Int)) => [(0, .d false (.sl (.ints sites))), (1, .d false (.sl (.ints clients))), (4, .ptr 4 0), (5, .ptr 5 0), (6, .d true (.int .i64 i))]) (fun (i : Int) (op : List Int) (out : List (List Int)) => [(4, .box 37 [.d true (.nil), .d true (.nil)]), (1000001, .arr true 3 (.ints op)), (1000002, .arr true 22 (.rows out)), (5, .box 37 [.own 1000001 op.length, .own 1000002 out.length])])) (fun g => s_l4Laid_mJ0 sites clients g.1 g.2.1 g.2.2) (fun g => (fun (i : Int) (op : List Int) (out : List (List Int)) => .two (.none) (.two (.two (.none) (.cut (.two (.none) (.loop (cut2 (fun (row : List Int) (a : Int) => s_l4Laid_JJ1 sites clients i op out row a) (fun (row : List Int) (a : Int) => [(0, .d false (.sl (.ints sites))), (1, .d false (.sl (.ints clients))), (4, .ptr 4 0), (5, .ptr 5 0), (6, .d true (.int .i64 i)), (7, .own 1000100 row.length), (8, .d true (.int .i64 a))]) (fun (row : List Int) (a : Int) => [(1000100, .arr true 3 (.ints row)), (4, .box 37 [.d true (.nil), .d true (.nil)]), (5, .box 37 [.own 1000001 op.length, .own 1000002 out.length]), (1000001, .arr true 3 (.ints op)), (1000002, .arr true 22 (.rows out))])) (fun g => s_l4Laid_mJ1 sites clients i op out g.1 g.2) (fun _ => .none))) (cut1 (fun (row2 : List Int) => s_l4Laid_JA1 sites clients i op out row2) (fun (row2 : List Int) => [(0, .d false (.sl (.ints sites))), (1, .d false (.sl (.ints clients))), (4, .ptr 4 0), (5, .ptr 5 0), (6, .d true (.int .i64 i)), (7, .d true (.sl (.ints row2)))]) (fun (row2 : List Int) => [(4, .box 37 [.d true (.nil), .d true (.nil)]), (5, .box 37 [.own 1000001 op.length, .own 1000002 out.length]), (1000001, .arr true 3 (.ints op)), (1000002, .arr true 22 (.rows out))])) (fun _ => .none))) (.none))) (g.1) (g.2.1) (g.2.2)))) (.none)))
def s_l4Laid_P (sites : List Int) (clients : List Int) : Prop :=
  ((sites.length : Int) = (sites.length : Int)) ∧ ((0 : Int) ≤ (sites.length : Int)) ∧ (((sites.length : Int) : Int) * ((8 : Nat) : Int) ≤ 140737488355328) ∧ ((∃ i' : Int, ∃ op' : List Int, ∃ out' : List (List Int), (s_l4Laid_JJ0 sites clients i' op' out') ∧ (sites = sites) ∧ (clients = clients) ∧ ((0 : Int) = i') ∧ ((List.replicate ((sites.length : Int).toNat) (0 : Int)) = op') ∧ ([] = out') ∧ ((sites.length : Int).toNat = op'.length) ∧ ((0 : Nat) = out'.length)) ∧ (∀ i : Int, ∀ op : List Int, ∀ out : List (List Int), (s_l4Laid_JJ0 sites clients i op out) → (((decide (i < (clients.length : Int))) = true → ((((∃ row' : List Int, ∃ a' : Int, (s_l4Laid_JJ1 sites clients i op out row' a') ∧ (sites = sites) ∧ (clients = clients) ∧ (i = i) ∧ ((0 : Nat) = row'.length) ∧ ((0 : Int) = a') ∧ ([] = row') ∧ (op.length = op.length) ∧ (out.length = out.length) ∧ (op = op) ∧ (out = out)) ∧ (∀ row : List Int, ∀ a : Int, (s_l4Laid_JJ1 sites clients i op out row a) → (((decide (a < (sites.length : Int))) = true → (true = true) ∧ ((0 : Int) ≤ i) ∧ ((i : Int) < clients.length) ∧ (i.toNat < clients.length) ∧ ((0 : Int) ≤ a) ∧ ((a : Int) < sites.length) ∧ (a.toNat < sites.length) ∧ (-9223372036854775808 ≤ ((clients.getD i.toNat 0) - (sites.getD a.toNat 0)) ∧ ((clients.getD i.toNat 0) - (sites.getD a.toNat 0)) ≤ 9223372036854775807) ∧ ((0 : Int) ≤ a) ∧ ((a : Int) < sites.length) ∧ (a.toNat < sites.length) ∧ ((0 : Int) ≤ i) ∧ ((i : Int) < clients.length) ∧ (i.toNat < clients.length) ∧ (-9223372036854775808 ≤ ((sites.getD a.toNat 0) - (clients.getD i.toNat 0)) ∧ ((sites.getD a.toNat 0) - (clients.getD i.toNat 0)) ≤ 9223372036854775807) ∧ (PC Try.prog 158 [.int .i64 ((clients.getD i.toNat 0) - (sites.getD a.toNat 0)), .int .i64 ((sites.getD a.toNat 0) - (clients.getD i.toNat 0))] (.one (.d (.int .i64 (max ((clients.getD i.toNat 0) - (sites.getD a.toNat 0)) ((sites.getD a.toNat 0) - (clients.getD i.toNat 0))))))) ∧ (row.length = row.length) ∧ ((1 : Nat) = 1) ∧ ((row.length + 1) * 8 ≤ 140737488355328) ∧ (-9223372036854775808 ≤ (a + 1) ∧ (a + 1) ≤ 9223372036854775807) ∧ (∃ row' : List Int, ∃ a' : Int, (s_l4Laid_JJ1 sites clients i op out row' a') ∧ (s_l4Laid_mJ1 sites clients i op out row' a' < s_l4Laid_mJ1 sites clients i op out row a) ∧ (sites = sites) ∧ (clients = clients) ∧ (i = i) ∧ ((row.length + 1) = row'.length) ∧ ((a + 1) = a') ∧ ((row ++ [(max ((clients.getD i.toNat 0) - (sites.getD a.toNat 0)) ((sites.getD a.toNat 0) - (clients.getD i.toNat 0)))]) = row') ∧ (op.length = op.length) ∧ (out.length = out.length) ∧ (op = op) ∧ (out = out))) ∧ ((decide (a < (sites.length : Int))) = false → (∃ row2' : List Int, (s_l4Laid_JA1 sites clients i op out row2') ∧ (sites = sites) ∧ (clients = clients) ∧ (i = i) ∧ (row.length = row.length) ∧ (row = row2') ∧ (op.length = op.length) ∧ (out.length = out.length) ∧ (op = op) ∧ (out = out))))))) ∧ (∀ row2 : List Int, (s_l4Laid_JA1 sites clients i op out row2) → (out.length = out.length) ∧ ((1 : Nat) = 1) ∧ ((out.length + 1) * 24 ≤ 140737488355328) ∧ (-9223372036854775808 ≤ (i + 1) ∧ (i + 1) ≤ 9223372036854775807) ∧ (∃ i' : Int, ∃ op' : List Int, ∃ out' : List (List Int), (s_l4Laid_JJ0 sites clients i' op' out') ∧ (s_l4Laid_mJ0 sites clients i' op' out' < s_l4Laid_mJ0 sites clients i op out) ∧ (sites = sites) ∧ (clients = clients) ∧ ((i + 1) = i') ∧ (op = op') ∧ ((out ++ [row2]) = out') ∧ (op.length = op'.length) ∧ ((out.length + 1) = out'.length))))) ∧ ((decide (i < (clients.length : Int))) = false → ((op.length = op.length) ∧ (out.length = out.length) ∧ ((.agg [.sl (.ints op), .sl (.rows out)] : D) = .agg [.sl (.ints (List.replicate sites.length 0)), .sl (.rows (lineD sites clients))]))))))
theorem s_l4Laid_vc (sites : List Int) (clients : List Int) (hg : goodL sites clients = true) (w_sites : (sites.length : Int) ≤ 9223372036854775807) (w_clients : (clients.length : Int) ≤ 9223372036854775807) : s_l4Laid_P sites clients := by
  unfold s_l4Laid_P
  obtain ⟨g1, g2, g3, g4, g5⟩ := goodL_facts hg
  have sr := fun (k : Nat) (hk : k < sites.length) => rising_at g4 k hk
  refine ⟨rfl, ?_, ?_, ?_, ?_⟩
  · first | omega | rfl | (intro hg; simp only [nrmT] at hg; omega) | (intro g1 g2; simp [g1, g2]; done) | (intro g1; simp at g1 ⊢; simp [g1]; done) | (simp only [nrmT] at *; omega) | (simp at * <;> omega) | (simp_all <;> omega) | (simp_all; done)
  · first | omega | rfl | (intro hg; simp only [nrmT] at hg; omega) | (intro g1 g2; simp [g1, g2]; done) | (intro g1; simp at g1 ⊢; simp [g1]; done) | (simp only [nrmT] at *; omega) | (simp at * <;> omega) | (simp_all <;> omega) | (simp_all; done)
  · refine ⟨0, (List.replicate ((sites.length : Int).toNat) (0 : Int)), ([]), ?_⟩
    refine ⟨?_, rfl, rfl, rfl, rfl, ?_, ?_, rfl⟩
    · refine ⟨?_, ?_, ?_, ?_⟩
      · first | omega | rfl | (intro hg; simp only [nrmT] at hg; omega) | (intro g1 g2; simp [g1, g2]; done) | (intro g1; simp at g1 ⊢; simp [g1]; done) | (simp only [nrmT] at *; omega) | (simp at * <;> omega) | (simp_all <;> omega) | (simp_all; done)
      · first | omega | rfl | (intro hg; simp only [nrmT] at hg; omega) | (intro g1 g2; simp [g1, g2]; done) | (intro g1; simp at g1 ⊢; simp [g1]; done) | (simp only [nrmT] at *; omega) | (simp at * <;> omega) | (simp_all <;> omega) | (simp_all; done)
      · first | omega | rfl | (intro hg; simp only [nrmT] at hg; omega) | (intro g1 g2; simp [g1, g2]; done) | (intro g1; simp at g1 ⊢; simp [g1]; done) | (simp only [nrmT] at *; omega) | (simp at * <;> omega) | (simp_all <;> omega) | (simp_all; done)
      · first | omega | rfl | (intro hg; simp only [nrmT] at hg; omega) | (intro g1 g2; simp [g1, g2]; done) | (intro g1; simp at g1 ⊢; simp [g1]; done) | (simp only [nrmT] at *; omega) | (simp at * <;> omega) | (simp_all <;> omega) | (simp_all; done)
    · first | omega | rfl | (intro hg; simp only [nrmT] at hg; omega) | (intro g1 g2; simp [g1, g2]; done) | (intro g1; simp at g1 ⊢; simp [g1]; done) | (simp only [nrmT] at *; omega) | (simp at * <;> omega) | (simp_all <;> omega) | (simp_all; done)
    · first | omega | rfl | (intro hg; simp only [nrmT] at hg; omega) | (intro g1 g2; simp [g1, g2]; done) | (intro g1; simp at g1 ⊢; simp [g1]; done) | (simp only [nrmT] at *; omega) | (simp at * <;> omega) | (simp_all <;> omega) | (simp_all; done)
  · intro i op out hJ
    obtain ⟨h1, h2, hop, h3⟩ := hJ
    refine ⟨?_, ?_⟩
    · intro b1
      try simp only [nrmT] at b1
      refine ⟨?_, ?_⟩
      · refine ⟨?_, ?_⟩
        · refine ⟨([]), 0, ?_⟩
          refine ⟨?_, rfl, rfl, rfl, rfl, rfl, ?_, rfl, rfl, rfl, rfl⟩
          · refine ⟨?_, ?_, ?_⟩
            · first | omega | rfl | (intro hg; simp only [nrmT] at hg; omega) | (intro g1 g2; simp [g1, g2]; done) | (intro g1; simp at g1 ⊢; simp [g1]; done) | (simp only [nrmT] at *; omega) | (simp at * <;> omega) | (simp_all <;> omega) | (simp_all; done)
            · first | omega | rfl | (intro hg; simp only [nrmT] at hg; omega) | (intro g1 g2; simp [g1, g2]; done) | (intro g1; simp at g1 ⊢; simp [g1]; done) | (simp only [nrmT] at *; omega) | (simp at * <;> omega) | (simp_all <;> omega) | (simp_all; done)
            · first | omega | rfl | (intro hg; simp only [nrmT] at hg; omega) | (intro g1 g2; simp [g1, g2]; done) | (intro g1; simp at g1 ⊢; simp [g1]; done) | (simp only [nrmT] at *; omega) | (simp at * <;> omega) | (simp_all <;> omega) | (simp_all; done)
          · first | omega | rfl | (intro hg; simp only [nrmT] at hg; omega) | (intro g1 g2; simp [g1, g2]; done) | (intro g1; simp at g1 ⊢; simp [g1]; done) | (simp only [nrmT] at *; omega) | (simp at * <;> omega) | (simp_all <;> omega) | (simp_all; done)
        · intro row a hJ
          obtain ⟨h4, h5, h6⟩ := hJ
          refine ⟨?_, ?_⟩
          · intro b2
            try simp only [nrmT] at b2
            refine ⟨rfl, ?_, ?_, ?_, ?_, ?_, ?_, ?_, ?_, ?_, ?_, ?_, ?_, ?_, ?_, s_l1Most_pc ((clients.getD i.toNat 0) - (sites.getD a.toNat 0)) ((sites.getD a.toNat 0) - (clients.getD i.toNat 0)), rfl, rfl, ?_, ?_, ?_⟩
            · first | omega | rfl | (intro hg; simp only [nrmT] at hg; omega) | (intro g1 g2; simp [g1, g2]; done) | (intro g1; simp at g1 ⊢; simp [g1]; done) | (simp only [nrmT] at *; omega) | (simp at * <;> omega) | (simp_all <;> omega) | (simp_all; done)
            · first | omega | rfl | (intro hg; simp only [nrmT] at hg; omega) | (intro g1 g2; simp [g1, g2]; done) | (intro g1; simp at g1 ⊢; simp [g1]; done) | (simp only [nrmT] at *; omega) | (simp at * <;> omega) | (simp_all <;> omega) | (simp_all; done)
            · first | omega | rfl | (intro hg; simp only [nrmT] at hg; omega) | (intro g1 g2; simp [g1, g2]; done) | (intro g1; simp at g1 ⊢; simp [g1]; done) | (simp only [nrmT] at *; omega) | (simp at * <;> omega) | (simp_all <;> omega) | (simp_all; done)
            · first | omega | rfl | (intro hg; simp only [nrmT] at hg; omega) | (intro g1 g2; simp [g1, g2]; done) | (intro g1; simp at g1 ⊢; simp [g1]; done) | (simp only [nrmT] at *; omega) | (simp at * <;> omega) | (simp_all <;> omega) | (simp_all; done)
            · first | omega | rfl | (intro hg; simp only [nrmT] at hg; omega) | (intro g1 g2; simp [g1, g2]; done) | (intro g1; simp at g1 ⊢; simp [g1]; done) | (simp only [nrmT] at *; omega) | (simp at * <;> omega) | (simp_all <;> omega) | (simp_all; done)
            · first | omega | rfl | (intro hg; simp only [nrmT] at hg; omega) | (intro g1 g2; simp [g1, g2]; done) | (intro g1; simp at g1 ⊢; simp [g1]; done) | (simp only [nrmT] at *; omega) | (simp at * <;> omega) | (simp_all <;> omega) | (simp_all; done)
            · have q1 := g5 i.toNat (by omega)
              have q2 := sr a.toNat (by omega)
              omega
            · first | omega | rfl | (intro hg; simp only [nrmT] at hg; omega) | (intro g1 g2; simp [g1, g2]; done) | (intro g1; simp at g1 ⊢; simp [g1]; done) | (simp only [nrmT] at *; omega) | (simp at * <;> omega) | (simp_all <;> omega) | (simp_all; done)
            · first | omega | rfl | (intro hg; simp only [nrmT] at hg; omega) | (intro g1 g2; simp [g1, g2]; done) | (intro g1; simp at g1 ⊢; simp [g1]; done) | (simp only [nrmT] at *; omega) | (simp at * <;> omega) | (simp_all <;> omega) | (simp_all; done)
            · first | omega | rfl | (intro hg; simp only [nrmT] at hg; omega) | (intro g1 g2; simp [g1, g2]; done) | (intro g1; simp at g1 ⊢; simp [g1]; done) | (simp only [nrmT] at *; omega) | (simp at * <;> omega) | (simp_all <;> omega) | (simp_all; done)
            · first | omega | rfl | (intro hg; simp only [nrmT] at hg; omega) | (intro g1 g2; simp [g1, g2]; done) | (intro g1; simp at g1 ⊢; simp [g1]; done) | (simp only [nrmT] at *; omega) | (simp at * <;> omega) | (simp_all <;> omega) | (simp_all; done)
            · first | omega | rfl | (intro hg; simp only [nrmT] at hg; omega) | (intro g1 g2; simp [g1, g2]; done) | (intro g1; simp at g1 ⊢; simp [g1]; done) | (simp only [nrmT] at *; omega) | (simp at * <;> omega) | (simp_all <;> omega) | (simp_all; done)
            · first | omega | rfl | (intro hg; simp only [nrmT] at hg; omega) | (intro g1 g2; simp [g1, g2]; done) | (intro g1; simp at g1 ⊢; simp [g1]; done) | (simp only [nrmT] at *; omega) | (simp at * <;> omega) | (simp_all <;> omega) | (simp_all; done)
            · have q1 := g5 i.toNat (by omega)
              have q2 := sr a.toNat (by omega)
              omega
            · have hg0 : goodL sites clients = true := by first | exact hg | (rw [goodL_test, b2]; rfl)
              obtain ⟨q1, q2, q3, q4, q5⟩ := goodL_facts hg0
              rw [h6, tabTo_len]; omega
            · first | omega | rfl | (intro hg; simp only [nrmT] at hg; omega) | (intro g1 g2; simp [g1, g2]; done) | (intro g1; simp at g1 ⊢; simp [g1]; done) | (simp only [nrmT] at *; omega) | (simp at * <;> omega) | (simp_all <;> omega) | (simp_all; done)
            · refine ⟨(row ++ [(max ((clients.getD i.toNat 0) - (sites.getD a.toNat 0)) ((sites.getD a.toNat 0) - (clients.getD i.toNat 0)))]), (a + 1), ?_⟩
              refine ⟨?_, ?_, rfl, rfl, rfl, ?_, rfl, rfl, rfl, rfl, rfl, rfl⟩
              · refine ⟨?_, ?_, ?_⟩
                · first | omega | rfl | (intro hg; simp only [nrmT] at hg; omega) | (intro g1 g2; simp [g1, g2]; done) | (intro g1; simp at g1 ⊢; simp [g1]; done) | (simp only [nrmT] at *; omega) | (simp at * <;> omega) | (simp_all <;> omega) | (simp_all; done)
                · first | omega | rfl | (intro hg; simp only [nrmT] at hg; omega) | (intro g1 g2; simp [g1, g2]; done) | (intro g1; simp at g1 ⊢; simp [g1]; done) | (simp only [nrmT] at *; omega) | (simp at * <;> omega) | (simp_all <;> omega) | (simp_all; done)
                · rw [show (a + 1).toNat = a.toNat + 1 by omega, tabTo_succ, h6]
              · first | (show _ < _; omega) | (simp only [s_l4Laid_mJ1]; omega) | (simp only [s_l4Laid_mJ1] at *; simp at *; omega)
              · first | omega | rfl | (intro hg; simp only [nrmT] at hg; omega) | (intro g1 g2; simp [g1, g2]; done) | (intro g1; simp at g1 ⊢; simp [g1]; done) | (simp only [nrmT] at *; omega) | (simp at * <;> omega) | (simp_all <;> omega) | (simp_all; done)
          · intro b3
            try simp only [nrmT] at b3
            refine ⟨row, ?_⟩
            refine ⟨?_, rfl, rfl, rfl, rfl, rfl, rfl, rfl, rfl, rfl⟩
            · unfold s_l4Laid_JA1
              rw [h6, show a.toNat = sites.length by omega]; rfl
      · intro row2 hJ
        have h8 := hJ
        refine ⟨rfl, rfl, ?_, ?_, ?_⟩
        · have hg0 : goodL sites clients = true := by first | exact hg | (rw [goodL_test, b2]; rfl)
          obtain ⟨q1, q2, q3, q4, q5⟩ := goodL_facts hg0
          rw [h3, tabTo_len]; omega
        · first | omega | rfl | (intro hg; simp only [nrmT] at hg; omega) | (intro g1 g2; simp [g1, g2]; done) | (intro g1; simp at g1 ⊢; simp [g1]; done) | (simp only [nrmT] at *; omega) | (simp at * <;> omega) | (simp_all <;> omega) | (simp_all; done)
        · refine ⟨(i + 1), op, (out ++ [row2]), ?_⟩
          refine ⟨?_, ?_, rfl, rfl, rfl, rfl, rfl, rfl, ?_⟩
          · refine ⟨?_, ?_, ?_, ?_⟩
            · first | omega | rfl | (intro hg; simp only [nrmT] at hg; omega) | (intro g1 g2; simp [g1, g2]; done) | (intro g1; simp at g1 ⊢; simp [g1]; done) | (simp only [nrmT] at *; omega) | (simp at * <;> omega) | (simp_all <;> omega) | (simp_all; done)
            · first | omega | rfl | (intro hg; simp only [nrmT] at hg; omega) | (intro g1 g2; simp [g1, g2]; done) | (intro g1; simp at g1 ⊢; simp [g1]; done) | (simp only [nrmT] at *; omega) | (simp at * <;> omega) | (simp_all <;> omega) | (simp_all; done)
            · first | omega | rfl | (intro hg; simp only [nrmT] at hg; omega) | (intro g1 g2; simp [g1, g2]; done) | (intro g1; simp at g1 ⊢; simp [g1]; done) | (simp only [nrmT] at *; omega) | (simp at * <;> omega) | (simp_all <;> omega) | (simp_all; done)
            · rw [h8, show (i + 1).toNat = i.toNat + 1 by omega, tabTo_succ, h3]
          · first | (show _ < _; omega) | (simp only [s_l4Laid_mJ0]; omega) | (simp only [s_l4Laid_mJ0] at *; simp at *; omega)
          · first | omega | rfl | (intro hg; simp only [nrmT] at hg; omega) | (intro g1 g2; simp [g1, g2]; done) | (intro g1; simp at g1 ⊢; simp [g1]; done) | (simp only [nrmT] at *; omega) | (simp at * <;> omega) | (simp_all <;> omega) | (simp_all; done)
    · intro b4
      try simp only [nrmT] at b4
      refine ⟨rfl, rfl, ?_⟩
      · rw [hop, h3, show i.toNat = clients.length by omega]; rfl
theorem s_l4Laid_pc (sites : List Int) (clients : List Int) (hg : goodL sites clients = true) : PC Try.prog 135 [.sl (.ints sites), .sl (.ints clients)] (.one (.d (.agg [.sl (.ints (List.replicate sites.length 0)), .sl (.rows (lineD sites clients))]))) :=
  pc_wf @Try.call135 fun hw => pc_by (by kernel_rfl) Try.func135 @Try.call135 (by kernel_rfl) s_l4Laid_C (s_l4Laid_A sites clients) (by kernel_rfl) (s_l4Laid_vc sites clients hg hw.1 hw.2.1) (by kernel_rfl)
def s_l4Laid_orc : List D → Orc := orcN [some .ints, some .ints] fun ds => match ds with
  | [.sl (.ints sites), .sl (.ints clients)] => some (.one (.d (.agg [.sl (.ints (List.replicate sites.length 0)), .sl (.rows (lineD sites clients))])))
  | _ => none
abbrev i_LineField_JJ0 (sites : List Int) (clients : List Int) (i : Int) (op : List Int) (out : List (List Int)) : Prop := (0 ≤ i) ∧ (i ≤ (clients.length : Int)) ∧ (op = List.replicate sites.length 0) ∧ (out = tabTo (fun j => lineRow sites (clients.getD j 0)) i.toNat)
abbrev i_LineField_mJ0 (sites : List Int) (clients : List Int) (i : Int) (op : List Int) (out : List (List Int)) : Nat := (clients.length - i).toNat
abbrev i_LineField_JJ1 (sites : List Int) (clients : List Int) (i : Int) (op : List Int) (out : List (List Int)) (row : List Int) (a : Int) : Prop := (0 ≤ a) ∧ (a ≤ (sites.length : Int)) ∧ (row = tabTo (fun c => max (clients.getD i.toNat 0 - sites.getD c 0) (sites.getD c 0 - clients.getD i.toNat 0)) a.toNat)
abbrev i_LineField_mJ1 (sites : List Int) (clients : List Int) (i : Int) (op : List Int) (out : List (List Int)) (row : List Int) (a : Int) : Nat := (sites.length - a).toNat
abbrev i_LineField_JA1 (sites : List Int) (clients : List Int) (i : Int) (op : List Int) (out : List (List Int)) (row2 : List Int) : Prop := (row2 = lineRow sites (clients.getD i.toNat 0))
def i_LineField_C (f : FuncId) (ds : List D) : Orc := bif Nat.beq f 82 then i_between_orc ds else bif Nat.beq f 136 then i_isRising_orc ds else bif Nat.beq f 137 then i_areBetween_orc ds else bif Nat.beq f 138 then slices_IsSorted_int_int__orc ds else .no
def i_LineField_A (sites : List Int) (clients : List Int) : Ann := .two (.none) (.two (.none) (.two (.none) (.two (.two (.none) (.loop (cut3 (fun (i : Int) (op : List Int) (out : List (List Int)) => i_LineField_JJ0 sites clients i op out) (fun (i : Int) (op : List Int) (out : List (List Int)) => [(0, .d false (.sl (.ints sites))), (4, .ptr 4 0), (6, .ptr 6 0), (41, .d false (.sl (.ints clients))), (42, .d true (.int .i64 (clients.length : Int))), (43, .d true (.int .i64 i))]) (fun (i : Int) (op : List Int) (out : List (List Int)) => [(4, .box 37 [.d true (.nil), .d true (.nil)]), (1000001, .arr true 3 (.ints op)), (1000002, .arr true 22 (.rows out)), (6, .box 37 [.own 1000001 op.length, .own 1000002 out.length])])) (fun g => i_LineField_mJ0 sites clients g.1 g.2.1 g.2.2) (fun g => (fun (i : Int) (op : List Int) (out : List (List Int)) => .two (.none) (.two (.none) (.two (.two (.none) (.two (.none) (.cut (.two (.none) (.loop (cut2 (fun (row : List Int) (a : Int) => i_LineField_JJ1 sites clients i op out row a) (fun (row : List Int) (a : Int) => [(0, .d false (.sl (.ints sites))), (4, .ptr 4 0), (6, .ptr 6 0), (8, .d false (.int .i64 (clients.getD i.toNat 0))), (9, .own 1000100 row.length), (41, .d false (.sl (.ints clients))), (42, .d true (.int .i64 (clients.length : Int))), (43, .d true (.int .i64 i)), (48, .d false (.sl (.ints sites))), (49, .d true (.int .i64 (sites.length : Int))), (50, .d true (.int .i64 a))]) (fun (row : List Int) (a : Int) => [(1000100, .arr true 3 (.ints row)), (4, .box 37 [.d true (.nil), .d true (.nil)]), (6, .box 37 [.own 1000001 op.length, .own 1000002 out.length]), (1000001, .arr true 3 (.ints op)), (1000002, .arr true 22 (.rows out))])) (fun g => i_LineField_mJ1 sites clients i op out g.1 g.2) (fun _ => .none))) (cut1 (fun (row2 : List Int) => i_LineField_JA1 sites clients i op out row2) (fun (row2 : List Int) => [(0, .d false (.sl (.ints sites))), (4, .ptr 4 0), (6, .ptr 6 0), (9, .d true (.sl (.ints row2))), (41, .d false (.sl (.ints clients))), (42, .d true (.int .i64 (clients.length : Int))), (43, .d true (.int .i64 i))]) (fun (row2 : List Int) => [(4, .box 37 [.d true (.nil), .d true (.nil)]), (6, .box 37 [.own 1000001 op.length, .own 1000002 out.length]), (1000001, .arr true 3 (.ints op)), (1000002, .arr true 22 (.rows out))])) (fun _ => .none)))) (.none)))) (g.1) (g.2.1) (g.2.2)))) (.none))))
def i_LineField_P (sites : List Int) (clients : List Int) : Prop :=
  (PC Try.prog 82 [.int .i64 (sites.length : Int), .int .i64 1, .int .i64 7] (.one (.d (.bool (inB (sites.length : Int) 1 7))))) ∧ ((!(!(inB (sites.length : Int) 1 7))) = true → (!(!(inB (sites.length : Int) 1 7))) = true) ∧ ((!(!(inB (sites.length : Int) 1 7))) = true → PC Try.prog 136 [.sl (.ints sites), .int .i64 100] (.one (.d (.bool (rising sites 0 (100 - 1)))))) ∧ ((!(!(inB (sites.length : Int) 1 7))) = true → (!(!(inB (sites.length : Int) 1 7))) = true) ∧ (true = true) ∧ (((!(inB (sites.length : Int) 1 7)) = true → true = true)) ∧ (((!(inB (sites.length : Int) 1 7)) = false → (!(!(inB (sites.length : Int) 1 7))) = true)) ∧ ((!(cond (!(inB (sites.length : Int) 1 7)) true (!(rising sites 0 (100 - 1))))) = true → (!(cond (!(inB (sites.length : Int) 1 7)) true (!(rising sites 0 (100 - 1))))) = true) ∧ ((!(cond (!(inB (sites.length : Int) 1 7)) true (!(rising sites 0 (100 - 1))))) = true → (!(cond (!(inB (sites.length : Int) 1 7)) true (!(rising sites 0 (100 - 1))))) = true) ∧ (true = true) ∧ (((cond (!(inB (sites.length : Int) 1 7)) true (!(rising sites 0 (100 - 1)))) = true → true = true)) ∧ (((cond (!(inB (sites.length : Int) 1 7)) true (!(rising sites 0 (100 - 1)))) = false → (!(cond (!(inB (sites.length : Int) 1 7)) true (!(rising sites 0 (100 - 1))))) = true)) ∧ ((!(cond (cond (!(inB (sites.length : Int) 1 7)) true (!(rising sites 0 (100 - 1)))) true (decide ((clients.length : Int) > 7)))) = true → (!(cond (cond (!(inB (sites.length : Int) 1 7)) true (!(rising sites 0 (100 - 1)))) true (decide ((clients.length : Int) > 7)))) = true) ∧ ((!(cond (cond (!(inB (sites.length : Int) 1 7)) true (!(rising sites 0 (100 - 1)))) true (decide ((clients.length : Int) > 7)))) = true → PC Try.prog 137 [.sl (.ints clients), .int .i64 0, .int .i64 99] (.one (.d (.bool (clients.all (fun x => inB x 0 99)))))) ∧ ((!(cond (cond (!(inB (sites.length : Int) 1 7)) true (!(rising sites 0 (100 - 1)))) true (decide ((clients.length : Int) > 7)))) = true → (!(cond (cond (!(inB (sites.length : Int) 1 7)) true (!(rising sites 0 (100 - 1)))) true (decide ((clients.length : Int) > 7)))) = true) ∧ (true = true) ∧ (((cond (cond (!(inB (sites.length : Int) 1 7)) true (!(rising sites 0 (100 - 1)))) true (decide ((clients.length : Int) > 7))) = true → true = true)) ∧ (((cond (cond (!(inB (sites.length : Int) 1 7)) true (!(rising sites 0 (100 - 1)))) true (decide ((clients.length : Int) > 7))) = false → (!(cond (cond (!(inB (sites.length : Int) 1 7)) true (!(rising sites 0 (100 - 1)))) true (decide ((clients.length : Int) > 7)))) = true)) ∧ ((!(cond (cond (cond (!(inB (sites.length : Int) 1 7)) true (!(rising sites 0 (100 - 1)))) true (decide ((clients.length : Int) > 7))) true (!(clients.all (fun x => inB x 0 99))))) = true → (!(cond (cond (cond (!(inB (sites.length : Int) 1 7)) true (!(rising sites 0 (100 - 1)))) true (decide ((clients.length : Int) > 7))) true (!(clients.all (fun x => inB x 0 99))))) = true) ∧ ((!(cond (cond (cond (!(inB (sites.length : Int) 1 7)) true (!(rising sites 0 (100 - 1)))) true (decide ((clients.length : Int) > 7))) true (!(clients.all (fun x => inB x 0 99))))) = true → PC Try.prog 138 [.sl (.ints clients)] (.one (.d (.bool (srtB clients))))) ∧ ((!(cond (cond (cond (!(inB (sites.length : Int) 1 7)) true (!(rising sites 0 (100 - 1)))) true (decide ((clients.length : Int) > 7))) true (!(clients.all (fun x => inB x 0 99))))) = true → (!(cond (cond (cond (!(inB (sites.length : Int) 1 7)) true (!(rising sites 0 (100 - 1)))) true (decide ((clients.length : Int) > 7))) true (!(clients.all (fun x => inB x 0 99))))) = true) ∧ (true = true) ∧ (((cond (cond (cond (!(inB (sites.length : Int) 1 7)) true (!(rising sites 0 (100 - 1)))) true (decide ((clients.length : Int) > 7))) true (!(clients.all (fun x => inB x 0 99)))) = true → true = true)) ∧ (((cond (cond (cond (!(inB (sites.length : Int) 1 7)) true (!(rising sites 0 (100 - 1)))) true (decide ((clients.length : Int) > 7))) true (!(clients.all (fun x => inB x 0 99)))) = false → (!(cond (cond (cond (!(inB (sites.length : Int) 1 7)) true (!(rising sites 0 (100 - 1)))) true (decide ((clients.length : Int) > 7))) true (!(clients.all (fun x => inB x 0 99))))) = true)) ∧ (((cond (cond (cond (cond (!(inB (sites.length : Int) 1 7)) true (!(rising sites 0 (100 - 1)))) true (decide ((clients.length : Int) > 7))) true (!(clients.all (fun x => inB x 0 99)))) true (!(srtB clients))) = true → (((lfO sites clients).length = 0) ∧ ((lfD sites clients).length = 0) ∧ (false = (goodL sites clients)))) ∧ ((cond (cond (cond (cond (!(inB (sites.length : Int) 1 7)) true (!(rising sites 0 (100 - 1)))) true (decide ((clients.length : Int) > 7))) true (!(clients.all (fun x => inB x 0 99)))) true (!(srtB clients))) = false → ((sites.length : Int) = (sites.length : Int)) ∧ ((0 : Int) ≤ (sites.length : Int)) ∧ (((sites.length : Int) : Int) * ((8 : Nat) : Int) ≤ 140737488355328) ∧ ((∃ i' : Int, ∃ op' : List Int, ∃ out' : List (List Int), (i_LineField_JJ0 sites clients i' op' out') ∧ (sites = sites) ∧ (clients = clients) ∧ ((clients.length : Int) = (clients.length : Int)) ∧ ((0 : Int) = i') ∧ ((List.replicate ((sites.length : Int).toNat) (0 : Int)) = op') ∧ ((out').length = 0) ∧ ((sites.length : Int).toNat = op'.length) ∧ ((0 : Nat) = out'.length)) ∧ (∀ i : Int, ∀ op : List Int, ∀ out : List (List Int), (i_LineField_JJ0 sites clients i op out) → (((decide (i < (clients.length : Int))) = true → ((0 : Int) ≤ i) ∧ ((i : Int) < clients.length) ∧ (i.toNat < clients.length) ∧ ((((∃ row' : List Int, ∃ a' : Int, (i_LineField_JJ1 sites clients i op out row' a') ∧ (sites = sites) ∧ ((clients.getD i.toNat 0) = (clients.getD i.toNat 0)) ∧ ((0 : Nat) = row'.length) ∧ (clients = clients) ∧ ((clients.length : Int) = (clients.length : Int)) ∧ (i = i) ∧ (sites = sites) ∧ ((sites.length : Int) = (sites.length : Int)) ∧ ((0 : Int) = a') ∧ ([] = row') ∧ (op.length = op.length) ∧ (out.length = out.length) ∧ (op = op) ∧ (out = out)) ∧ (∀ row : List Int, ∀ a : Int, (i_LineField_JJ1 sites clients i op out row a) → (((decide (a < (sites.length : Int))) = true → ((0 : Int) ≤ a) ∧ ((a : Int) < sites.length) ∧ (a.toNat < sites.length) ∧ (-9223372036854775808 ≤ ((clients.getD i.toNat 0) - (sites.getD a.toNat 0)) ∧ ((clients.getD i.toNat 0) - (sites.getD a.toNat 0)) ≤ 9223372036854775807) ∧ (-9223372036854775808 ≤ ((sites.getD a.toNat 0) - (clients.getD i.toNat 0)) ∧ ((sites.getD a.toNat 0) - (clients.getD i.toNat 0)) ≤ 9223372036854775807) ∧ (row.length = row.length) ∧ ((1 : Nat) = 1) ∧ ((row.length + 1) * 8 ≤ 140737488355328) ∧ (-9223372036854775808 ≤ (a + 1) ∧ (a + 1) ≤ 9223372036854775807) ∧ (∃ row' : List Int, ∃ a' : Int, (i_LineField_JJ1 sites clients i op out row' a') ∧ (i_LineField_mJ1 sites clients i op out row' a' < i_LineField_mJ1 sites clients i op out row a) ∧ (sites = sites) ∧ ((clients.getD i.toNat 0) = (clients.getD i.toNat 0)) ∧ ((row.length + 1) = row'.length) ∧ (clients = clients) ∧ ((clients.length : Int) = (clients.length : Int)) ∧ (i = i) ∧ (sites = sites) ∧ ((sites.length : Int) = (sites.length : Int)) ∧ ((a + 1) = a') ∧ ((row ++ [(max ((clients.getD i.toNat 0) - (sites.getD a.toNat 0)) ((sites.getD a.toNat 0) - (clients.getD i.toNat 0)))]) = row') ∧ (op.length = op.length) ∧ (out.length = out.length) ∧ (op = op) ∧ (out = out))) ∧ ((decide (a < (sites.length : Int))) = false → (∃ row2' : List Int, (i_LineField_JA1 sites clients i op out row2') ∧ (sites = sites) ∧ (row.length = row.length) ∧ (row = row2') ∧ (clients = clients) ∧ ((clients.length : Int) = (clients.length : Int)) ∧ (i = i) ∧ (op.length = op.length) ∧ (out.length = out.length) ∧ (op = op) ∧ (out = out))))))) ∧ (∀ row2 : List Int, (i_LineField_JA1 sites clients i op out row2) → (out.length = out.length) ∧ ((1 : Nat) = 1) ∧ ((out.length + 1) * 24 ≤ 140737488355328) ∧ (-9223372036854775808 ≤ (i + 1) ∧ (i + 1) ≤ 9223372036854775807) ∧ (∃ i' : Int, ∃ op' : List Int, ∃ out' : List (List Int), (i_LineField_JJ0 sites clients i' op' out') ∧ (i_LineField_mJ0 sites clients i' op' out' < i_LineField_mJ0 sites clients i op out) ∧ (sites = sites) ∧ (clients = clients) ∧ ((clients.length : Int) = (clients.length : Int)) ∧ ((i + 1) = i') ∧ (op = op') ∧ ((out ++ [row2]) = out') ∧ (op.length = op'.length) ∧ ((out.length + 1) = out'.length))))) ∧ ((decide (i < (clients.length : Int))) = false → ((op.length = op.length) ∧ (out.length = out.length) ∧ ((.agg [.sl (.ints op), .sl (.rows out)] : D) = .agg [.sl (.ints (lfO sites clients)), .sl (.rows (lfD sites clients))]) ∧ (true = (goodL sites clients)))))))))
theorem i_LineField_vc (sites : List Int) (clients : List Int)  (w_sites : (sites.length : Int) ≤ 9223372036854775807) (w_clients : (clients.length : Int) ≤ 9223372036854775807) : i_LineField_P sites clients := by
  unfold i_LineField_P
  refine ⟨i_between_pc (sites.length : Int) 1 7, id, ?_, id, rfl, fun _ => rfl, ?_, id, id, rfl, fun _ => rfl, ?_, id, fun _ => i_areBetween_pc clients 0 99, id, rfl, fun _ => rfl, ?_, id, fun _ => slices_IsSorted_int_int__pc clients, id, rfl, fun _ => rfl, ?_, ?_, ?_⟩
  · intro hg
    refine i_isRising_pc sites 100 ?_
    · first | omega | rfl | (intro hg; simp only [nrmT] at hg; omega) | (intro g1 g2; simp [g1, g2]; done) | (intro g1; simp at g1 ⊢; simp [g1]; done) | (simp only [nrmT] at *; omega) | (simp at * <;> omega) | (simp_all <;> omega) | (simp_all; done)
  · intro h; rw [h]; rfl
  · intro h; rw [h]; rfl
  · intro h; rw [h]; rfl
  · intro h; rw [h]; rfl
  · intro b1
    refine ⟨?_, ?_, ?_⟩
    · have hq : goodL sites clients = false := by rw [goodL_test, b1]; rfl
      first | (rw [lfO_no hq]; rfl) | (rw [lfD_no hq]; rfl)
    · have hq : goodL sites clients = false := by rw [goodL_test, b1]; rfl
      first | (rw [lfO_no hq]; rfl) | (rw [lfD_no hq]; rfl)
    · have hq : goodL sites clients = false := by rw [goodL_test, b1]; rfl
      exact hq.symm
  · intro b2
    refine ⟨rfl, ?_, ?_, ?_, ?_⟩
    · first | omega | rfl | (intro hg; simp only [nrmT] at hg; omega) | (intro g1 g2; simp [g1, g2]; done) | (intro g1; simp at g1 ⊢; simp [g1]; done) | (simp only [nrmT] at *; omega) | (simp at * <;> omega) | (simp_all <;> omega) | (simp_all; done)
    · have hg : goodL sites clients = true := by rw [goodL_test, b2]; rfl
      obtain ⟨g1, g2, g3, g4, g5⟩ := goodL_facts hg
      have sr := fun (k : Nat) (hk : k < sites.length) => rising_at g4 k hk
      omega
    · refine ⟨0, (List.replicate ((sites.length : Int).toNat) (0 : Int)), ([]), ?_⟩
      refine ⟨?_, rfl, rfl, rfl, rfl, rfl, ?_, ?_, rfl⟩
      · refine ⟨?_, ?_, ?_, ?_⟩
        · first | omega | rfl | (intro hg; simp only [nrmT] at hg; omega) | (intro g1 g2; simp [g1, g2]; done) | (intro g1; simp at g1 ⊢; simp [g1]; done) | (simp only [nrmT] at *; omega) | (simp at * <;> omega) | (simp_all <;> omega) | (simp_all; done)
        · first | omega | rfl | (intro hg; simp only [nrmT] at hg; omega) | (intro g1 g2; simp [g1, g2]; done) | (intro g1; simp at g1 ⊢; simp [g1]; done) | (simp only [nrmT] at *; omega) | (simp at * <;> omega) | (simp_all <;> omega) | (simp_all; done)
        · rw [Int.toNat_natCast]
        · first | omega | rfl | (intro hg; simp only [nrmT] at hg; omega) | (intro g1 g2; simp [g1, g2]; done) | (intro g1; simp at g1 ⊢; simp [g1]; done) | (simp only [nrmT] at *; omega) | (simp at * <;> omega) | (simp_all <;> omega) | (simp_all; done)
      · first | omega | rfl | (intro hg; simp only [nrmT] at hg; omega) | (intro g1 g2; simp [g1, g2]; done) | (intro g1; simp at g1 ⊢; simp [g1]; done) | (simp only [nrmT] at *; omega) | (simp at * <;> omega) | (simp_all <;> omega) | (simp_all; done)
      · first | omega | rfl | (intro hg; simp only [nrmT] at hg; omega) | (intro g1 g2; simp [g1, g2]; done) | (intro g1; simp at g1 ⊢; simp [g1]; done) | (simp only [nrmT] at *; omega) | (simp at * <;> omega) | (simp_all <;> omega) | (simp_all; done)
    · intro i op out hJ
      obtain ⟨h1, h2, hop, h3⟩ := hJ
      refine ⟨?_, ?_⟩
      · intro b3
        try simp only [nrmT] at b3
        refine ⟨?_, ?_, ?_, ?_, ?_⟩
        · first | omega | rfl | (intro hg; simp only [nrmT] at hg; omega) | (intro g1 g2; simp [g1, g2]; done) | (intro g1; simp at g1 ⊢; simp [g1]; done) | (simp only [nrmT] at *; omega) | (simp at * <;> omega) | (simp_all <;> omega) | (simp_all; done)
        · first | omega | rfl | (intro hg; simp only [nrmT] at hg; omega) | (intro g1 g2; simp [g1, g2]; done) | (intro g1; simp at g1 ⊢; simp [g1]; done) | (simp only [nrmT] at *; omega) | (simp at * <;> omega) | (simp_all <;> omega) | (simp_all; done)
        · first | omega | rfl | (intro hg; simp only [nrmT] at hg; omega) | (intro g1 g2; simp [g1, g2]; done) | (intro g1; simp at g1 ⊢; simp [g1]; done) | (simp only [nrmT] at *; omega) | (simp at * <;> omega) | (simp_all <;> omega) | (simp_all; done)
        · refine ⟨?_, ?_⟩
          · refine ⟨([]), 0, ?_⟩
            refine ⟨?_, rfl, rfl, rfl, rfl, rfl, rfl, rfl, rfl, rfl, ?_, rfl, rfl, rfl, rfl⟩
            · refine ⟨?_, ?_, ?_⟩
              · first | omega | rfl | (intro hg; simp only [nrmT] at hg; omega) | (intro g1 g2; simp [g1, g2]; done) | (intro g1; simp at g1 ⊢; simp [g1]; done) | (simp only [nrmT] at *; omega) | (simp at * <;> omega) | (simp_all <;> omega) | (simp_all; done)
              · first | omega | rfl | (intro hg; simp only [nrmT] at hg; omega) | (intro g1 g2; simp [g1, g2]; done) | (intro g1; simp at g1 ⊢; simp [g1]; done) | (simp only [nrmT] at *; omega) | (simp at * <;> omega) | (simp_all <;> omega) | (simp_all; done)
              · first | omega | rfl | (intro hg; simp only [nrmT] at hg; omega) | (intro g1 g2; simp [g1, g2]; done) | (intro g1; simp at g1 ⊢; simp [g1]; done) | (simp only [nrmT] at *; omega) | (simp at * <;> omega) | (simp_all <;> omega) | (simp_all; done)
            · first | omega | rfl | (intro hg; simp only [nrmT] at hg; omega) | (intro g1 g2; simp [g1, g2]; done) | (intro g1; simp at g1 ⊢; simp [g1]; done) | (simp only [nrmT] at *; omega) | (simp at * <;> omega) | (simp_all <;> omega) | (simp_all; done)
          · intro row a hJ
            obtain ⟨h4, h5, h6⟩ := hJ
            refine ⟨?_, ?_⟩
            · intro b4
              try simp only [nrmT] at b4
              refine ⟨?_, ?_, ?_, ?_, ?_, rfl, rfl, ?_, ?_, ?_⟩
              · first | omega | rfl | (intro hg; simp only [nrmT] at hg; omega) | (intro g1 g2; simp [g1, g2]; done) | (intro g1; simp at g1 ⊢; simp [g1]; done) | (simp only [nrmT] at *; omega) | (simp at * <;> omega) | (simp_all <;> omega) | (simp_all; done)
              · first | omega | rfl | (intro hg; simp only [nrmT] at hg; omega) | (intro g1 g2; simp [g1, g2]; done) | (intro g1; simp at g1 ⊢; simp [g1]; done) | (simp only [nrmT] at *; omega) | (simp at * <;> omega) | (simp_all <;> omega) | (simp_all; done)
              · first | omega | rfl | (intro hg; simp only [nrmT] at hg; omega) | (intro g1 g2; simp [g1, g2]; done) | (intro g1; simp at g1 ⊢; simp [g1]; done) | (simp only [nrmT] at *; omega) | (simp at * <;> omega) | (simp_all <;> omega) | (simp_all; done)
              · have hg : goodL sites clients = true := by rw [goodL_test, b2]; rfl
                obtain ⟨g1, g2, g3, g4, g5⟩ := goodL_facts hg
                have sr := fun (k : Nat) (hk : k < sites.length) => rising_at g4 k hk
                have q1 := g5 i.toNat (by omega)
                have q2 := sr a.toNat (by omega)
                omega
              · have hg : goodL sites clients = true := by rw [goodL_test, b2]; rfl
                obtain ⟨g1, g2, g3, g4, g5⟩ := goodL_facts hg
                have sr := fun (k : Nat) (hk : k < sites.length) => rising_at g4 k hk
                have q1 := g5 i.toNat (by omega)
                have q2 := sr a.toNat (by omega)
                omega
              · have hg0 : goodL sites clients = true := by first | exact hg | (rw [goodL_test, b2]; rfl)
                obtain ⟨q1, q2, q3, q4, q5⟩ := goodL_facts hg0
                rw [h6, tabTo_len]; omega
              · first | omega | rfl | (intro hg; simp only [nrmT] at hg; omega) | (intro g1 g2; simp [g1, g2]; done) | (intro g1; simp at g1 ⊢; simp [g1]; done) | (simp only [nrmT] at *; omega) | (simp at * <;> omega) | (simp_all <;> omega) | (simp_all; done)
              · refine ⟨(row ++ [(max ((clients.getD i.toNat 0) - (sites.getD a.toNat 0)) ((sites.getD a.toNat 0) - (clients.getD i.toNat 0)))]), (a + 1), ?_⟩
                refine ⟨?_, ?_, rfl, rfl, ?_, rfl, rfl, rfl, rfl, rfl, rfl, rfl, rfl, rfl, rfl, rfl⟩
                · refine ⟨?_, ?_, ?_⟩
                  · first | omega | rfl | (intro hg; simp only [nrmT] at hg; omega) | (intro g1 g2; simp [g1, g2]; done) | (intro g1; simp at g1 ⊢; simp [g1]; done) | (simp only [nrmT] at *; omega) | (simp at * <;> omega) | (simp_all <;> omega) | (simp_all; done)
                  · first | omega | rfl | (intro hg; simp only [nrmT] at hg; omega) | (intro g1 g2; simp [g1, g2]; done) | (intro g1; simp at g1 ⊢; simp [g1]; done) | (simp only [nrmT] at *; omega) | (simp at * <;> omega) | (simp_all <;> omega) | (simp_all; done)
                  · rw [show (a + 1).toNat = a.toNat + 1 by omega, tabTo_succ, h6]
                · first | (show _ < _; omega) | (simp only [i_LineField_mJ1]; omega) | (simp only [i_LineField_mJ1] at *; simp at *; omega)
                · first | omega | rfl | (intro hg; simp only [nrmT] at hg; omega) | (intro g1 g2; simp [g1, g2]; done) | (intro g1; simp at g1 ⊢; simp [g1]; done) | (simp only [nrmT] at *; omega) | (simp at * <;> omega) | (simp_all <;> omega) | (simp_all; done)
            · intro b5
              try simp only [nrmT] at b5
              refine ⟨row, ?_⟩
              refine ⟨?_, rfl, rfl, rfl, rfl, rfl, rfl, rfl, rfl, rfl, rfl⟩
              · unfold i_LineField_JA1
                rw [h6, show a.toNat = sites.length by omega]; rfl
        · intro row2 hJ
          have h8 := hJ
          refine ⟨rfl, rfl, ?_, ?_, ?_⟩
          · have hg0 : goodL sites clients = true := by first | exact hg | (rw [goodL_test, b2]; rfl)
            obtain ⟨q1, q2, q3, q4, q5⟩ := goodL_facts hg0
            rw [h3, tabTo_len]; omega
          · first | omega | rfl | (intro hg; simp only [nrmT] at hg; omega) | (intro g1 g2; simp [g1, g2]; done) | (intro g1; simp at g1 ⊢; simp [g1]; done) | (simp only [nrmT] at *; omega) | (simp at * <;> omega) | (simp_all <;> omega) | (simp_all; done)
          · refine ⟨(i + 1), op, (out ++ [row2]), ?_⟩
            refine ⟨?_, ?_, rfl, rfl, rfl, rfl, rfl, rfl, rfl, ?_⟩
            · refine ⟨?_, ?_, ?_, ?_⟩
              · first | omega | rfl | (intro hg; simp only [nrmT] at hg; omega) | (intro g1 g2; simp [g1, g2]; done) | (intro g1; simp at g1 ⊢; simp [g1]; done) | (simp only [nrmT] at *; omega) | (simp at * <;> omega) | (simp_all <;> omega) | (simp_all; done)
              · first | omega | rfl | (intro hg; simp only [nrmT] at hg; omega) | (intro g1 g2; simp [g1, g2]; done) | (intro g1; simp at g1 ⊢; simp [g1]; done) | (simp only [nrmT] at *; omega) | (simp at * <;> omega) | (simp_all <;> omega) | (simp_all; done)
              · first | omega | rfl | (intro hg; simp only [nrmT] at hg; omega) | (intro g1 g2; simp [g1, g2]; done) | (intro g1; simp at g1 ⊢; simp [g1]; done) | (simp only [nrmT] at *; omega) | (simp at * <;> omega) | (simp_all <;> omega) | (simp_all; done)
              · rw [h8, show (i + 1).toNat = i.toNat + 1 by omega, tabTo_succ, h3]
            · first | (show _ < _; omega) | (simp only [i_LineField_mJ0]; omega) | (simp only [i_LineField_mJ0] at *; simp at *; omega)
            · first | omega | rfl | (intro hg; simp only [nrmT] at hg; omega) | (intro g1 g2; simp [g1, g2]; done) | (intro g1; simp at g1 ⊢; simp [g1]; done) | (simp only [nrmT] at *; omega) | (simp at * <;> omega) | (simp_all <;> omega) | (simp_all; done)
      · intro b6
        try simp only [nrmT] at b6
        refine ⟨rfl, rfl, ?_, ?_⟩
        · have hg : goodL sites clients = true := by rw [goodL_test, b2]; rfl
          rw [hop, h3, show i.toNat = clients.length by omega, lfO_yes hg, lfD_yes hg]; rfl
        · have hg : goodL sites clients = true := by rw [goodL_test, b2]; rfl
          exact hg.symm
theorem i_LineField_pc (sites : List Int) (clients : List Int)  : PC Try.prog 72 [.sl (.ints sites), .sl (.ints clients)] (.tup [.d (.agg [.sl (.ints (lfO sites clients)), .sl (.rows (lfD sites clients))]), .d (.bool (goodL sites clients))]) :=
  pc_wf @Try.call72 fun hw => pc_by (by kernel_rfl) Try.func72 @Try.call72 (by kernel_rfl) i_LineField_C (i_LineField_A sites clients) (by kernel_rfl) (i_LineField_vc sites clients hw.1 hw.2.1) (by kernel_rfl)
def i_LineField_orc : List D → Orc := orcN [some .ints, some .ints] fun ds => match ds with
  | [.sl (.ints sites), .sl (.ints clients)] => some (.tup [.d (.agg [.sl (.ints (lfO sites clients)), .sl (.rows (lfD sites clients))]), .d (.bool (goodL sites clients))])
  | _ => none
def s_LineField_C (f : FuncId) (ds : List D) : Orc := bif Nat.beq f 134 then s_l4Line_orc ds else bif Nat.beq f 135 then s_l4Laid_orc ds else .no
def s_LineField_A (sites : List Int) (clients : List Int) : Ann := .none
def s_LineField_P (sites : List Int) (clients : List Int) : Prop :=
  (PC Try.prog 134 [.sl (.ints sites), .sl (.ints clients)] (.one (.d (.bool (goodL sites clients))))) ∧ (((!(goodL sites clients)) = true → (((lfO sites clients).length = 0) ∧ ((lfD sites clients).length = 0) ∧ (false = (goodL sites clients)))) ∧ ((!(goodL sites clients)) = false → (PC Try.prog 135 [.sl (.ints sites), .sl (.ints clients)] (.one (.d (.agg [.sl (.ints (List.replicate sites.length 0)), .sl (.rows (lineD sites clients))])))) ∧ (((.agg [.sl (.ints (List.replicate sites.length 0)), .sl (.rows (lineD sites clients))] : D) = .agg [.sl (.ints (lfO sites clients)), .sl (.rows (lfD sites clients))]) ∧ (true = (goodL sites clients)))))
theorem s_LineField_vc (sites : List Int) (clients : List Int)  (w_sites : (sites.length : Int) ≤ 9223372036854775807) (w_clients : (clients.length : Int) ≤ 9223372036854775807) : s_LineField_P sites clients := by
  unfold s_LineField_P
  refine ⟨s_l4Line_pc sites clients, ?_, ?_⟩
  · intro b1
    try simp only [nrmT] at b1
    refine ⟨?_, ?_, ?_⟩
    · first | (rw [lfO_no b1]; rfl) | (rw [lfD_no b1]; rfl)
    · first | (rw [lfO_no b1]; rfl) | (rw [lfD_no b1]; rfl)
    · exact b1.symm
  · intro b2
    try simp only [nrmT] at b2
    refine ⟨?_, ?_, ?_⟩
    · refine s_l4Laid_pc sites clients ?_
      · exact b2
    · rw [lfO_yes b2, lfD_yes b2]
    · exact b2.symm
theorem s_LineField_pc (sites : List Int) (clients : List Int)  : PC Try.prog 70 [.sl (.ints sites), .sl (.ints clients)] (.tup [.d (.agg [.sl (.ints (lfO sites clients)), .sl (.rows (lfD sites clients))]), .d (.bool (goodL sites clients))]) :=
  pc_wf @Try.call70 fun hw => pc_by (by kernel_rfl) Try.func70 @Try.call70 (by kernel_rfl) s_LineField_C (s_LineField_A sites clients) (by kernel_rfl) (s_LineField_vc sites clients hw.1 hw.2.1) (by kernel_rfl)
def s_LineField_orc : List D → Orc := orcN [some .ints, some .ints] fun ds => match ds with
  | [.sl (.ints sites), .sl (.ints clients)] => some (.tup [.d (.agg [.sl (.ints (lfO sites clients)), .sl (.rows (lfD sites clients))]), .d (.bool (goodL sites clients))])
  | _ => none
abbrev s_l5Reached_JJ0 (Open : List Int) (Dist : List (List Int)) (client : Int) (taken : List Int) (r : Int) (i : Int) : Prop := (0 ≤ i) ∧ (i ≤ (taken.length : Int)) ∧ (∀ k, k < i.toNat → (fun a : Int => decide ((Dist.getD client.toNat []).getD a.toNat 0 ≤ r)) (taken.getD k 0) = false)
abbrev s_l5Reached_mJ0 (Open : List Int) (Dist : List (List Int)) (client : Int) (taken : List Int) (r : Int) (i : Int) : Nat := (taken.length - i).toNat
def s_l5Reached_C (f : FuncId) (ds : List D) : Orc := .no
def s_l5Reached_A (Open : List Int) (Dist : List (List Int)) (client : Int) (taken : List Int) (r : Int) : Ann := .two (.none) (.two (.two (.none) (.loop (cut1 (fun (i : Int) => s_l5Reached_JJ0 Open Dist client taken r i) (fun (i : Int) => [(1, .d false (.int .i64 client)), (2, .d false (.sl (.ints taken))), (3, .d false (.int .i64 r)), (4, .ptr 4 0), (9, .d true (.int .i64 i))]) (fun (i : Int) => [(4, .box 37 [.d false (.sl (.ints Open)), .d false (.sl (.rows Dist))])])) (fun g => s_l5Reached_mJ0 Open Dist client taken r g) (fun _ => .none))) (.none))
def s_l5Reached_P (Open : List Int) (Dist : List (List Int)) (client : Int) (taken : List Int) (r : Int) : Prop :=
  ((∃ i' : Int, (s_l5Reached_JJ0 Open Dist client taken r i') ∧ (client = client) ∧ (taken = taken) ∧ (r = r) ∧ ((0 : Int) = i') ∧ (Open = Open) ∧ (Dist = Dist)) ∧ (∀ i : Int, (s_l5Reached_JJ0 Open Dist client taken r i) → (((decide (i < (taken.length : Int))) = true → (true = true) ∧ ((0 : Int) ≤ client) ∧ ((client : Int) < Dist.length) ∧ (client.toNat < Dist.length) ∧ ((0 : Int) ≤ i) ∧ ((i : Int) < taken.length) ∧ (i.toNat < taken.length) ∧ ((0 : Int) ≤ (taken.getD i.toNat 0)) ∧ (((taken.getD i.toNat 0) : Int) < (Dist.getD client.toNat []).length) ∧ ((taken.getD i.toNat 0).toNat < (Dist.getD client.toNat []).length) ∧ (((decide (((Dist.getD client.toNat []).getD ((taken.getD i.toNat 0).toNat) 0) ≤ r)) = true → ((true = (hasLe (Dist.getD client.toNat []) r taken)))) ∧ ((decide (((Dist.getD client.toNat []).getD ((taken.getD i.toNat 0).toNat) 0) ≤ r)) = false → (-9223372036854775808 ≤ (i + 1) ∧ (i + 1) ≤ 9223372036854775807) ∧ (∃ i' : Int, (s_l5Reached_JJ0 Open Dist client taken r i') ∧ (s_l5Reached_mJ0 Open Dist client taken r i' < s_l5Reached_mJ0 Open Dist client taken r i) ∧ (client = client) ∧ (taken = taken) ∧ (r = r) ∧ ((i + 1) = i') ∧ (Open = Open) ∧ (Dist = Dist))))) ∧ ((decide (i < (taken.length : Int))) = false → ((false = (hasLe (Dist.getD client.toNat []) r taken)))))))
theorem s_l5Reached_vc (Open : List Int) (Dist : List (List Int)) (client : Int) (taken : List Int) (r : Int) (hc : 0 ≤ client ∧ client < (Dist.length : Int)) (ht : ∀ a ∈ taken, 0 ≤ a ∧ a < ((Dist.getD client.toNat []).length : Int)) (w_Open : (Open.length : Int) ≤ 9223372036854775807) (w_Dist : (Dist.length : Int) ≤ 9223372036854775807) (v_Dist : ∀ x9 ∈ Dist, (x9.length : Int) ≤ 9223372036854775807) (w_taken : (taken.length : Int) ≤ 9223372036854775807) : s_l5Reached_P Open Dist client taken r := by
  unfold s_l5Reached_P
  refine ⟨?_, ?_⟩
  · refine ⟨0, ?_⟩
    refine ⟨?_, rfl, rfl, rfl, rfl, rfl, rfl⟩
    · refine ⟨?_, ?_, ?_⟩
      · first | omega | rfl | (intro hg; simp only [nrmT] at hg; omega) | (intro g1 g2; simp [g1, g2]; done) | (intro g1; simp at g1 ⊢; simp [g1]; done) | (simp only [nrmT] at *; omega) | (simp at * <;> omega) | (simp_all <;> omega) | (simp_all; done)
      · first | omega | rfl | (intro hg; simp only [nrmT] at hg; omega) | (intro g1 g2; simp [g1, g2]; done) | (intro g1; simp at g1 ⊢; simp [g1]; done) | (simp only [nrmT] at *; omega) | (simp at * <;> omega) | (simp_all <;> omega) | (simp_all; done)
      · intro k hk; exact absurd hk (by simp)
  · intro i hJ
    obtain ⟨h1, h2, h3⟩ := hJ
    refine ⟨?_, ?_⟩
    · intro b1
      try simp only [nrmT] at b1
      refine ⟨rfl, ?_, ?_, ?_, ?_, ?_, ?_, ?_, ?_, ?_, ?_, ?_⟩
      · first | omega | rfl | (intro hg; simp only [nrmT] at hg; omega) | (intro g1 g2; simp [g1, g2]; done) | (intro g1; simp at g1 ⊢; simp [g1]; done) | (simp only [nrmT] at *; omega) | (simp at * <;> omega) | (simp_all <;> omega) | (simp_all; done)
      · first | omega | rfl | (intro hg; simp only [nrmT] at hg; omega) | (intro g1 g2; simp [g1, g2]; done) | (intro g1; simp at g1 ⊢; simp [g1]; done) | (simp only [nrmT] at *; omega) | (simp at * <;> omega) | (simp_all <;> omega) | (simp_all; done)
      · first | omega | rfl | (intro hg; simp only [nrmT] at hg; omega) | (intro g1 g2; simp [g1, g2]; done) | (intro g1; simp at g1 ⊢; simp [g1]; done) | (simp only [nrmT] at *; omega) | (simp at * <;> omega) | (simp_all <;> omega) | (simp_all; done)
      · first | omega | rfl | (intro hg; simp only [nrmT] at hg; omega) | (intro g1 g2; simp [g1, g2]; done) | (intro g1; simp at g1 ⊢; simp [g1]; done) | (simp only [nrmT] at *; omega) | (simp at * <;> omega) | (simp_all <;> omega) | (simp_all; done)
      · first | omega | rfl | (intro hg; simp only [nrmT] at hg; omega) | (intro g1 g2; simp [g1, g2]; done) | (intro g1; simp at g1 ⊢; simp [g1]; done) | (simp only [nrmT] at *; omega) | (simp at * <;> omega) | (simp_all <;> omega) | (simp_all; done)
      · first | omega | rfl | (intro hg; simp only [nrmT] at hg; omega) | (intro g1 g2; simp [g1, g2]; done) | (intro g1; simp at g1 ⊢; simp [g1]; done) | (simp only [nrmT] at *; omega) | (simp at * <;> omega) | (simp_all <;> omega) | (simp_all; done)
      · have ht2 := ht _ (getD_mem (d := 0) (show i.toNat < taken.length by omega))
        omega
      · have ht2 := ht _ (getD_mem (d := 0) (show i.toNat < taken.length by omega))
        omega
      · have ht2 := ht _ (getD_mem (d := 0) (show i.toNat < taken.length by omega))
        omega
      · intro b2
        try simp only [nrmT] at b2
        rw [hasLe, ← idx_any, ← idx_found (p := fun a : Int => decide ((Dist.getD client.toNat []).getD a.toNat 0 ≤ r)) h1 (by omega) h3 (by simpa using b2)]
        exact (decide_eq_true (by omega)).symm
      · intro b3
        try simp only [nrmT] at b3
        refine ⟨?_, ?_⟩
        · first | omega | rfl | (intro hg; simp only [nrmT] at hg; omega) | (intro g1 g2; simp [g1, g2]; done) | (intro g1; simp at g1 ⊢; simp [g1]; done) | (simp only [nrmT] at *; omega) | (simp at * <;> omega) | (simp_all <;> omega) | (simp_all; done)
        · refine ⟨(i + 1), ?_⟩
          refine ⟨?_, ?_, rfl, rfl, rfl, rfl, rfl, rfl⟩
          · refine ⟨?_, ?_, ?_⟩
            · first | omega | rfl | (intro hg; simp only [nrmT] at hg; omega) | (intro g1 g2; simp [g1, g2]; done) | (intro g1; simp at g1 ⊢; simp [g1]; done) | (simp only [nrmT] at *; omega) | (simp at * <;> omega) | (simp_all <;> omega) | (simp_all; done)
            · first | omega | rfl | (intro hg; simp only [nrmT] at hg; omega) | (intro g1 g2; simp [g1, g2]; done) | (intro g1; simp at g1 ⊢; simp [g1]; done) | (simp only [nrmT] at *; omega) | (simp at * <;> omega) | (simp_all <;> omega) | (simp_all; done)
            · exact idx_step (p := fun a : Int => decide ((Dist.getD client.toNat []).getD a.toNat 0 ≤ r)) h1 h3 (by simpa using b3)
          · first | (show _ < _; omega) | (simp only [s_l5Reached_mJ0]; omega) | (simp only [s_l5Reached_mJ0] at *; simp at *; omega)
    · intro b4
      try simp only [nrmT] at b4
      rw [hasLe, ← idx_any, idx_none (p := fun a : Int => decide ((Dist.getD client.toNat []).getD a.toNat 0 ≤ r)) (by omega) h3]
      rfl
theorem s_l5Reached_pc (Open : List Int) (Dist : List (List Int)) (client : Int) (taken : List Int) (r : Int) (hc : 0 ≤ client ∧ client < (Dist.length : Int)) (ht : ∀ a ∈ taken, 0 ≤ a ∧ a < ((Dist.getD client.toNat []).length : Int)) : PC Try.prog 71 [.agg [.sl (.ints Open), .sl (.rows Dist)], .int .i64 client, .sl (.ints taken), .int .i64 r] (.one (.d (.bool (hasLe (Dist.getD client.toNat []) r taken)))) :=
  pc_wf @Try.call71 fun hw => pc_by (by kernel_rfl) Try.func71 @Try.call71 (by kernel_rfl) s_l5Reached_C (s_l5Reached_A Open Dist client taken r) (by kernel_rfl) (s_l5Reached_vc Open Dist client taken r hc ht hw.1.1 hw.1.2.1.1 hw.1.2.1.2 hw.2.2.1) (by kernel_rfl)
def s_l5Reached_orc : List D → Orc := orcN [none, none, some .ints, none] fun ds => match ds with
  | [.agg [.sl (.ints Open), .sl (.rows Dist)], .int .i64 client, .sl (.ints taken), .int .i64 r] => some (.one (.d (.bool (hasLe (Dist.getD client.toNat []) r taken))))
  | _ => none
theorem ls_test {sites clients : List Int} {r : Int} (h : cond (!(goodL sites clients)) true (decide (r < 0)) = false) : goodL sites clients = true ∧ 0 ≤ r := by
  revert h
  cases goodL sites clients <;> simp
theorem ls_no {sites clients : List Int} {r : Int} (h : cond (!(goodL sites clients)) true (decide (r < 0)) = true) : lsO sites clients r = none := by
  rw [lsO, if_neg]
  revert h
  cases goodL sites clients <;> simp <;> omega
theorem ls_some {sites clients : List Int} {r : Int} (hg : goodL sites clients = true) (hr : 0 ≤ r) : lsO sites clients r = lsTo (lfD sites clients) r clients.length := by
  rw [lsO, if_pos]
  rw [hg, decide_eq_true hr]; rfl
theorem lsL_none {sites clients : List Int} {r : Int} (h : lsO sites clients r = none) : lsL sites clients r = [] := by rw [lsL, h]; rfl
theorem lsL_some {sites clients : List Int} {r : Int} {out : List Int} (h : lsO sites clients r = some out) : lsL sites clients r = out := by rw [lsL, h]; rfl
abbrev s_LineSites_JJ0 (sites : List Int) (clients : List Int) (r : Int) (out : List Int) (j : Int) : Prop := (0 ≤ j) ∧ (j ≤ (clients.length : Int)) ∧ (lsTo (lfD sites clients) r j.toNat = some out)
abbrev s_LineSites_mJ0 (sites : List Int) (clients : List Int) (r : Int) (out : List Int) (j : Int) : Nat := ((clients.length : Int) - j).toNat
abbrev s_LineSites_JJ1 (sites : List Int) (clients : List Int) (r : Int) (out : List Int) (j : Int) (last : Int) (a : Int) : Prop := (0 ≤ a) ∧ (a ≤ (sites.length : Int)) ∧ (last = lastTo ((lfD sites clients).getD j.toNat []) r a.toNat)
abbrev s_LineSites_mJ1 (sites : List Int) (clients : List Int) (r : Int) (out : List Int) (j : Int) (last : Int) (a : Int) : Nat := ((sites.length : Int) - a).toNat
def s_LineSites_C (f : FuncId) (ds : List D) : Orc := bif Nat.beq f 70 then s_LineField_orc ds else bif Nat.beq f 71 then s_l5Reached_orc ds else .no
def s_LineSites_A (sites : List Int) (clients : List Int) (r : Int) : Ann := .two (.none) (.two (.none) (.two (.none) (.two (.none) (.two (.two (.none) (.loop (cut2 (fun (out : List Int) (j : Int) => s_LineSites_JJ0 sites clients r out j) (fun (out : List Int) (j : Int) => [(0, .d false (.sl (.ints sites))), (1, .d false (.sl (.ints clients))), (2, .d false (.int .i64 r)), (8, .ptr 8 0), (10, .own 1000000 out.length), (11, .d true (.int .i64 j))]) (fun (out : List Int) (j : Int) => [(1000000, .arr true 3 (.ints out)), (8, .box 37 [.d true (.sl (.ints (lfO sites clients))), .d true (.sl (.rows (lfD sites clients)))])])) (fun g => s_LineSites_mJ0 sites clients r g.1 g.2) (fun g => (fun (out : List Int) (j : Int) => .two (.none) (.two (.two (.none) (.two (.none) (.two (.two (.none) (.loop (cut2 (fun (last : Int) (a : Int) => s_LineSites_JJ1 sites clients r out j last a) (fun (last : Int) (a : Int) => [(0, .d false (.sl (.ints sites))), (1, .d false (.sl (.ints clients))), (2, .d false (.int .i64 r)), (8, .ptr 8 0), (10, .own 1000000 out.length), (11, .d true (.int .i64 j)), (12, .d true (.int .i64 last)), (13, .d true (.int .i64 a))]) (fun (last : Int) (a : Int) => [(8, .box 37 [.d true (.sl (.ints (lfO sites clients))), .d true (.sl (.rows (lfD sites clients)))]), (1000000, .arr true 3 (.ints out))])) (fun g => s_LineSites_mJ1 sites clients r out j g.1 g.2) (fun _ => .none))) (.none)))) (.none))) (g.1) (g.2)))) (.none)))))
def s_LineSites_P (sites : List Int) (clients : List Int) (r : Int) : Prop :=
  (PC Try.prog 70 [.sl (.ints sites), .sl (.ints clients)] (.tup [.d (.agg [.sl (.ints (lfO sites clients)), .sl (.rows (lfD sites clients))]), .d (.bool (goodL sites clients))])) ∧ ((!(!(goodL sites clients))) = true → (!(!(goodL sites clients))) = true) ∧ (true = true) ∧ (((!(goodL sites clients)) = true → true = true)) ∧ (((!(goodL sites clients)) = false → (!(!(goodL sites clients))) = true)) ∧ (((cond (!(goodL sites clients)) true (decide (r < 0))) = true → (((0 : Nat) = 0) ∧ (([] : List Int) = (lsL sites clients r)) ∧ (false = ((lsO sites clients r).isSome)))) ∧ ((cond (!(goodL sites clients)) true (decide (r < 0))) = false → ((∃ out' : List Int, ∃ j' : Int, (s_LineSites_JJ0 sites clients r out' j') ∧ (sites = sites) ∧ (clients = clients) ∧ (r = r) ∧ ((0 : Nat) = out'.length) ∧ ((0 : Int) = j') ∧ ([] = out') ∧ (lfO sites clients = lfO sites clients) ∧ (lfD sites clients = lfD sites clients)) ∧ (∀ out : List Int, ∀ j : Int, (s_LineSites_JJ0 sites clients r out j) → (((decide (j < (clients.length : Int))) = true → (out.length = out.length) ∧ (PC Try.prog 71 [.agg [.sl (.ints (lfO sites clients)), .sl (.rows (lfD sites clients))], .int .i64 j, .sl (.ints out), .int .i64 r] (.one (.d (.bool (hasLe ((lfD sites clients).getD j.toNat []) r out))))) ∧ (((hasLe ((lfD sites clients).getD j.toNat []) r out) = true → (-9223372036854775808 ≤ (j + 1) ∧ (j + 1) ≤ 9223372036854775807) ∧ (∃ out' : List Int, ∃ j' : Int, (s_LineSites_JJ0 sites clients r out' j') ∧ (s_LineSites_mJ0 sites clients r out' j' < s_LineSites_mJ0 sites clients r out j) ∧ (sites = sites) ∧ (clients = clients) ∧ (r = r) ∧ (out.length = out'.length) ∧ ((j + 1) = j') ∧ (out = out') ∧ (lfO sites clients = lfO sites clients) ∧ (lfD sites clients = lfD sites clients))) ∧ ((hasLe ((lfD sites clients).getD j.toNat []) r out) = false → ((∃ last' : Int, ∃ a' : Int, (s_LineSites_JJ1 sites clients r out j last' a') ∧ (sites = sites) ∧ (clients = clients) ∧ (r = r) ∧ (out.length = out.length) ∧ (j = j) ∧ (((-1) : Int) = last') ∧ ((0 : Int) = a') ∧ (lfO sites clients = lfO sites clients) ∧ (lfD sites clients = lfD sites clients) ∧ (out = out)) ∧ (∀ last : Int, ∀ a : Int, (s_LineSites_JJ1 sites clients r out j last a) → (((decide (a < (sites.length : Int))) = true → ((0 : Int) ≤ j) ∧ ((j : Int) < (lfD sites clients).length) ∧ (j.toNat < (lfD sites clients).length) ∧ ((0 : Int) ≤ a) ∧ ((a : Int) < ((lfD sites clients).getD j.toNat []).length) ∧ (a.toNat < ((lfD sites clients).getD j.toNat []).length) ∧ (((decide ((((lfD sites clients).getD j.toNat []).getD a.toNat 0) ≤ r)) = true → (-9223372036854775808 ≤ (a + 1) ∧ (a + 1) ≤ 9223372036854775807) ∧ (∃ last' : Int, ∃ a' : Int, (s_LineSites_JJ1 sites clients r out j last' a') ∧ (s_LineSites_mJ1 sites clients r out j last' a' < s_LineSites_mJ1 sites clients r out j last a) ∧ (sites = sites) ∧ (clients = clients) ∧ (r = r) ∧ (out.length = out.length) ∧ (j = j) ∧ (a = last') ∧ ((a + 1) = a') ∧ (lfO sites clients = lfO sites clients) ∧ (lfD sites clients = lfD sites clients) ∧ (out = out))) ∧ ((decide ((((lfD sites clients).getD j.toNat []).getD a.toNat 0) ≤ r)) = false → (-9223372036854775808 ≤ (a + 1) ∧ (a + 1) ≤ 9223372036854775807) ∧ (∃ last' : Int, ∃ a' : Int, (s_LineSites_JJ1 sites clients r out j last' a') ∧ (s_LineSites_mJ1 sites clients r out j last' a' < s_LineSites_mJ1 sites clients r out j last a) ∧ (sites = sites) ∧ (clients = clients) ∧ (r = r) ∧ (out.length = out.length) ∧ (j = j) ∧ (last = last') ∧ ((a + 1) = a') ∧ (lfO sites clients = lfO sites clients) ∧ (lfD sites clients = lfD sites clients) ∧ (out = out))))) ∧ ((decide (a < (sites.length : Int))) = false → (((decide (last < 0)) = true → (((0 : Nat) = 0) ∧ (([] : List Int) = (lsL sites clients r)) ∧ (false = ((lsO sites clients r).isSome)))) ∧ ((decide (last < 0)) = false → (out.length = out.length) ∧ ((1 : Nat) = 1) ∧ ((out.length + 1) * 8 ≤ 140737488355328) ∧ (-9223372036854775808 ≤ (j + 1) ∧ (j + 1) ≤ 9223372036854775807) ∧ (∃ out' : List Int, ∃ j' : Int, (s_LineSites_JJ0 sites clients r out' j') ∧ (s_LineSites_mJ0 sites clients r out' j' < s_LineSites_mJ0 sites clients r out j) ∧ (sites = sites) ∧ (clients = clients) ∧ (r = r) ∧ ((out.length + 1) = out'.length) ∧ ((j + 1) = j') ∧ ((out ++ [last]) = out') ∧ (lfO sites clients = lfO sites clients) ∧ (lfD sites clients = lfD sites clients))))))))))) ∧ ((decide (j < (clients.length : Int))) = false → ((out.length = out.length) ∧ ((out : List Int) = (lsL sites clients r)) ∧ (true = ((lsO sites clients r).isSome)))))))))
theorem s_LineSites_vc (sites : List Int) (clients : List Int) (r : Int)  (w_sites : (sites.length : Int) ≤ 9223372036854775807) (w_clients : (clients.length : Int) ≤ 9223372036854775807) : s_LineSites_P sites clients r := by
  unfold s_LineSites_P
  refine ⟨s_LineField_pc sites clients, id, rfl, fun _ => rfl, ?_, ?_, ?_⟩
  · intro h; rw [h]; rfl
  · intro b1
    refine ⟨rfl, ?_, ?_⟩
    · exact (lsL_none (ls_no b1)).symm
    · rw [ls_no b1]; rfl
  · intro b2
    refine ⟨?_, ?_⟩
    · refine ⟨([]), 0, ?_⟩
      refine ⟨?_, rfl, rfl, rfl, rfl, rfl, ?_, rfl, rfl⟩
      · refine ⟨?_, ?_, ?_⟩
        · first | omega | rfl | (intro hg; simp only [nrmT] at hg; omega) | (intro g1 g2; simp [g1, g2]; done) | (intro g1; simp at g1 ⊢; simp [g1]; done) | (simp only [nrmT] at *; omega) | (simp at * <;> omega) | (simp_all <;> omega) | (simp_all; done)
        · first | omega | rfl | (intro hg; simp only [nrmT] at hg; omega) | (intro g1 g2; simp [g1, g2]; done) | (intro g1; simp at g1 ⊢; simp [g1]; done) | (simp only [nrmT] at *; omega) | (simp at * <;> omega) | (simp_all <;> omega) | (simp_all; done)
        · rfl
      · first | omega | rfl | (intro hg; simp only [nrmT] at hg; omega) | (intro g1 g2; simp [g1, g2]; done) | (intro g1; simp at g1 ⊢; simp [g1]; done) | (simp only [nrmT] at *; omega) | (simp at * <;> omega) | (simp_all <;> omega) | (simp_all; done)
    · intro out j hJ
      obtain ⟨h1, h2, h3⟩ := hJ
      refine ⟨?_, ?_⟩
      · intro b3
        try simp only [nrmT] at b3
        refine ⟨rfl, ?_, ?_, ?_⟩
        · refine s_l5Reached_pc (lfO sites clients) (lfD sites clients) j out r ?_ ?_
          · obtain ⟨hg, hr⟩ := ls_test b2
            obtain ⟨g1, g2, g3, g4, g5⟩ := goodL_facts hg
            have e2 := lfD_len hg
            have e1 := lfD_row hg (j := j.toNat) (by omega)
            omega
          · obtain ⟨hg, hr⟩ := ls_test b2
            obtain ⟨g1, g2, g3, g4, g5⟩ := goodL_facts hg
            have e2 := lfD_len hg
            obtain ⟨f1, f2⟩ := lsTo_facts (m := sites.length) j.toNat out (fun k hk => lfD_row hg (by omega)) h3
            intro a9 ha
            have := f2 a9 ha
            rw [lfD_row hg (by omega)]
            exact this
        · intro b4
          try simp only [nrmT] at b4
          refine ⟨?_, ?_⟩
          · obtain ⟨hg, hr⟩ := ls_test b2
            obtain ⟨g1, g2, g3, g4, g5⟩ := goodL_facts hg
            have e2 := lfD_len hg
            have e1 := lfD_row hg (j := j.toNat) (by omega)
            omega
          · refine ⟨out, (j + 1), ?_⟩
            refine ⟨?_, ?_, rfl, rfl, rfl, rfl, rfl, rfl, rfl, rfl⟩
            · refine ⟨?_, ?_, ?_⟩
              · first | omega | rfl | (intro hg; simp only [nrmT] at hg; omega) | (intro g1 g2; simp [g1, g2]; done) | (intro g1; simp at g1 ⊢; simp [g1]; done) | (simp only [nrmT] at *; omega) | (simp at * <;> omega) | (simp_all <;> omega) | (simp_all; done)
              · first | omega | rfl | (intro hg; simp only [nrmT] at hg; omega) | (intro g1 g2; simp [g1, g2]; done) | (intro g1; simp at g1 ⊢; simp [g1]; done) | (simp only [nrmT] at *; omega) | (simp at * <;> omega) | (simp_all <;> omega) | (simp_all; done)
              · rw [show (j + 1).toNat = j.toNat + 1 by omega]
                exact lsTo_keep h3 (by first | (simpa using b4) | (unfold hasLe; simpa using b4))
            · first | (show _ < _; omega) | (simp only [s_LineSites_mJ0]; omega) | (simp only [s_LineSites_mJ0] at *; simp at *; omega)
        · intro b5
          try simp only [nrmT] at b5
          refine ⟨?_, ?_⟩
          · refine ⟨(-1), 0, ?_⟩
            refine ⟨?_, rfl, rfl, rfl, rfl, rfl, rfl, rfl, rfl, rfl, rfl⟩
            · refine ⟨?_, ?_, ?_⟩
              · first | omega | rfl | (intro hg; simp only [nrmT] at hg; omega) | (intro g1 g2; simp [g1, g2]; done) | (intro g1; simp at g1 ⊢; simp [g1]; done) | (simp only [nrmT] at *; omega) | (simp at * <;> omega) | (simp_all <;> omega) | (simp_all; done)
              · first | omega | rfl | (intro hg; simp only [nrmT] at hg; omega) | (intro g1 g2; simp [g1, g2]; done) | (intro g1; simp at g1 ⊢; simp [g1]; done) | (simp only [nrmT] at *; omega) | (simp at * <;> omega) | (simp_all <;> omega) | (simp_all; done)
              · rfl
          · intro last a hJ
            obtain ⟨h5, h6, h7⟩ := hJ
            refine ⟨?_, ?_⟩
            · intro b6
              try simp only [nrmT] at b6
              refine ⟨?_, ?_, ?_, ?_, ?_, ?_, ?_, ?_⟩
              · first | omega | rfl | (intro hg; simp only [nrmT] at hg; omega) | (intro g1 g2; simp [g1, g2]; done) | (intro g1; simp at g1 ⊢; simp [g1]; done) | (simp only [nrmT] at *; omega) | (simp at * <;> omega) | (simp_all <;> omega) | (simp_all; done)
              · obtain ⟨hg, hr⟩ := ls_test b2
                obtain ⟨g1, g2, g3, g4, g5⟩ := goodL_facts hg
                have e2 := lfD_len hg
                have e1 := lfD_row hg (j := j.toNat) (by omega)
                omega
              · obtain ⟨hg, hr⟩ := ls_test b2
                obtain ⟨g1, g2, g3, g4, g5⟩ := goodL_facts hg
                have e2 := lfD_len hg
                have e1 := lfD_row hg (j := j.toNat) (by omega)
                omega
              · first | omega | rfl | (intro hg; simp only [nrmT] at hg; omega) | (intro g1 g2; simp [g1, g2]; done) | (intro g1; simp at g1 ⊢; simp [g1]; done) | (simp only [nrmT] at *; omega) | (simp at * <;> omega) | (simp_all <;> omega) | (simp_all; done)
              · obtain ⟨hg, hr⟩ := ls_test b2
                obtain ⟨g1, g2, g3, g4, g5⟩ := goodL_facts hg
                have e2 := lfD_len hg
                have e1 := lfD_row hg (j := j.toNat) (by omega)
                omega
              · obtain ⟨hg, hr⟩ := ls_test b2
                obtain ⟨g1, g2, g3, g4, g5⟩ := goodL_facts hg
                have e2 := lfD_len hg
                have e1 := lfD_row hg (j := j.toNat) (by omega)
                omega
              · intro b7
                try simp only [nrmT] at b7
                refine ⟨?_, ?_⟩
                · obtain ⟨hg, hr⟩ := ls_test b2
                  obtain ⟨g1, g2, g3, g4, g5⟩ := goodL_facts hg
                  have e2 := lfD_len hg
                  have e1 := lfD_row hg (j := j.toNat) (by omega)
                  omega
                · refine ⟨a, (a + 1), ?_⟩
                  refine ⟨?_, ?_, rfl, rfl, rfl, rfl, rfl, rfl, rfl, rfl, rfl, rfl⟩
                  · refine ⟨?_, ?_, ?_⟩
                    · first | omega | rfl | (intro hg; simp only [nrmT] at hg; omega) | (intro g1 g2; simp [g1, g2]; done) | (intro g1; simp at g1 ⊢; simp [g1]; done) | (simp only [nrmT] at *; omega) | (simp at * <;> omega) | (simp_all <;> omega) | (simp_all; done)
                    · first | omega | rfl | (intro hg; simp only [nrmT] at hg; omega) | (intro g1 g2; simp [g1, g2]; done) | (intro g1; simp at g1 ⊢; simp [g1]; done) | (simp only [nrmT] at *; omega) | (simp at * <;> omega) | (simp_all <;> omega) | (simp_all; done)
                    · rw [show (a + 1).toNat = a.toNat + 1 by omega, lastTo_succ]
                      first | (rw [if_pos (by omega)]; omega) | (rw [if_neg (by omega)]; exact h7)
                  · first | (show _ < _; omega) | (simp only [s_LineSites_mJ1]; omega) | (simp only [s_LineSites_mJ1] at *; simp at *; omega)
              · intro b8
                try simp only [nrmT] at b8
                refine ⟨?_, ?_⟩
                · obtain ⟨hg, hr⟩ := ls_test b2
                  obtain ⟨g1, g2, g3, g4, g5⟩ := goodL_facts hg
                  have e2 := lfD_len hg
                  have e1 := lfD_row hg (j := j.toNat) (by omega)
                  omega
                · refine ⟨last, (a + 1), ?_⟩
                  refine ⟨?_, ?_, rfl, rfl, rfl, rfl, rfl, rfl, rfl, rfl, rfl, rfl⟩
                  · refine ⟨?_, ?_, ?_⟩
                    · first | omega | rfl | (intro hg; simp only [nrmT] at hg; omega) | (intro g1 g2; simp [g1, g2]; done) | (intro g1; simp at g1 ⊢; simp [g1]; done) | (simp only [nrmT] at *; omega) | (simp at * <;> omega) | (simp_all <;> omega) | (simp_all; done)
                    · first | omega | rfl | (intro hg; simp only [nrmT] at hg; omega) | (intro g1 g2; simp [g1, g2]; done) | (intro g1; simp at g1 ⊢; simp [g1]; done) | (simp only [nrmT] at *; omega) | (simp at * <;> omega) | (simp_all <;> omega) | (simp_all; done)
                    · rw [show (a + 1).toNat = a.toNat + 1 by omega, lastTo_succ]
                      first | (rw [if_pos (by omega)]; omega) | (rw [if_neg (by omega)]; exact h7)
                  · first | (show _ < _; omega) | (simp only [s_LineSites_mJ1]; omega) | (simp only [s_LineSites_mJ1] at *; simp at *; omega)
            · intro b9
              try simp only [nrmT] at b9
              refine ⟨?_, ?_⟩
              · intro b10
                try simp only [nrmT] at b10
                refine ⟨rfl, ?_, ?_⟩
                · have e4 : hasLe ((lfD sites clients).getD j.toNat []) r out = false := by first | (simpa using b5) | (unfold hasLe; simpa using b5)
                  obtain ⟨hg, hr⟩ := ls_test b2
                  obtain ⟨g1, g2, g3, g4, g5⟩ := goodL_facts hg
                  have e2 := lfD_len hg
                  have e1 := lfD_row hg (j := j.toNat) (by omega)
                  have e3 : last = lastTo ((lfD sites clients).getD j.toNat []) r ((lfD sites clients).getD j.toNat []).length := by rw [h7, e1, show a.toNat = sites.length by omega]
                  have e5 := lsTo_none (lsTo_fail h3 e4 (by rw [← e3]; omega)) clients.length (by omega)
                  rw [← ls_some hg hr] at e5
                  exact (lsL_none e5).symm
                · have e4 : hasLe ((lfD sites clients).getD j.toNat []) r out = false := by first | (simpa using b5) | (unfold hasLe; simpa using b5)
                  obtain ⟨hg, hr⟩ := ls_test b2
                  obtain ⟨g1, g2, g3, g4, g5⟩ := goodL_facts hg
                  have e2 := lfD_len hg
                  have e1 := lfD_row hg (j := j.toNat) (by omega)
                  have e3 : last = lastTo ((lfD sites clients).getD j.toNat []) r ((lfD sites clients).getD j.toNat []).length := by rw [h7, e1, show a.toNat = sites.length by omega]
                  have e5 := lsTo_none (lsTo_fail h3 e4 (by rw [← e3]; omega)) clients.length (by omega)
                  rw [← ls_some hg hr] at e5
                  rw [e5]; rfl
              · intro b11
                try simp only [nrmT] at b11
                refine ⟨rfl, rfl, ?_, ?_, ?_⟩
                · obtain ⟨hg, hr⟩ := ls_test b2
                  obtain ⟨g1, g2, g3, g4, g5⟩ := goodL_facts hg
                  have e2 := lfD_len hg
                  obtain ⟨f1, f2⟩ := lsTo_facts (m := sites.length) j.toNat out (fun k hk => lfD_row hg (by omega)) h3
                  omega
                · obtain ⟨hg, hr⟩ := ls_test b2
                  obtain ⟨g1, g2, g3, g4, g5⟩ := goodL_facts hg
                  have e2 := lfD_len hg
                  have e1 := lfD_row hg (j := j.toNat) (by omega)
                  omega
                · refine ⟨(out ++ [last]), (j + 1), ?_⟩
                  refine ⟨?_, ?_, rfl, rfl, rfl, ?_, rfl, rfl, rfl, rfl⟩
                  · refine ⟨?_, ?_, ?_⟩
                    · first | omega | rfl | (intro hg; simp only [nrmT] at hg; omega) | (intro g1 g2; simp [g1, g2]; done) | (intro g1; simp at g1 ⊢; simp [g1]; done) | (simp only [nrmT] at *; omega) | (simp at * <;> omega) | (simp_all <;> omega) | (simp_all; done)
                    · first | omega | rfl | (intro hg; simp only [nrmT] at hg; omega) | (intro g1 g2; simp [g1, g2]; done) | (intro g1; simp at g1 ⊢; simp [g1]; done) | (simp only [nrmT] at *; omega) | (simp at * <;> omega) | (simp_all <;> omega) | (simp_all; done)
                    · have e4 : hasLe ((lfD sites clients).getD j.toNat []) r out = false := by first | (simpa using b5) | (unfold hasLe; simpa using b5)
                      obtain ⟨hg, hr⟩ := ls_test b2
                      obtain ⟨g1, g2, g3, g4, g5⟩ := goodL_facts hg
                      have e2 := lfD_len hg
                      have e1 := lfD_row hg (j := j.toNat) (by omega)
                      have e3 : last = lastTo ((lfD sites clients).getD j.toNat []) r ((lfD sites clients).getD j.toNat []).length := by rw [h7, e1, show a.toNat = sites.length by omega]
                      rw [show (j + 1).toNat = j.toNat + 1 by omega, e3]
                      exact lsTo_app h3 e4 (by rw [← e3]; omega)
                  · first | (show _ < _; omega) | (simp only [s_LineSites_mJ0]; omega) | (simp only [s_LineSites_mJ0] at *; simp at *; omega)
                  · first | omega | rfl | (intro hg; simp only [nrmT] at hg; omega) | (intro g1 g2; simp [g1, g2]; done) | (intro g1; simp at g1 ⊢; simp [g1]; done) | (simp only [nrmT] at *; omega) | (simp at * <;> omega) | (simp_all <;> omega) | (simp_all; done)
      · intro b12
        try simp only [nrmT] at b12
        refine ⟨rfl, ?_, ?_⟩
        · obtain ⟨hg, hr⟩ := ls_test b2
          obtain ⟨g1, g2, g3, g4, g5⟩ := goodL_facts hg
          have e2 := lfD_len hg
          rw [show j.toNat = clients.length by omega, ← ls_some hg hr] at h3
          exact (lsL_some h3).symm
        · obtain ⟨hg, hr⟩ := ls_test b2
          obtain ⟨g1, g2, g3, g4, g5⟩ := goodL_facts hg
          have e2 := lfD_len hg
          rw [show j.toNat = clients.length by omega, ← ls_some hg hr] at h3
          rw [h3]; rfl
theorem s_LineSites_pc (sites : List Int) (clients : List Int) (r : Int)  : PC Try.prog 21 [.sl (.ints sites), .sl (.ints clients), .int .i64 r] (.tup [.d (.sl (.ints (lsL sites clients r))), .d (.bool ((lsO sites clients r).isSome))]) :=
  pc_wf @Try.call21 fun hw => pc_by (by kernel_rfl) Try.func21 @Try.call21 (by kernel_rfl) s_LineSites_C (s_LineSites_A sites clients r) (by kernel_rfl) (s_LineSites_vc sites clients r hw.1 hw.2.1) (by kernel_rfl)
def s_LineSites_orc : List D → Orc := orcN [some .ints, some .ints, none] fun ds => match ds with
  | [.sl (.ints sites), .sl (.ints clients), .int .i64 r] => some (.tup [.d (.sl (.ints (lsL sites clients r))), .d (.bool ((lsO sites clients r).isSome))])
  | _ => none
def i_LineSites_1_C (f : FuncId) (ds : List D) : Orc := .no
def i_LineSites_1_A (a : Int) (list : List Int) (r : Int) : Ann := .none
def i_LineSites_1_P (a : Int) (list : List Int) (r : Int) : Prop :=
  (true = true) ∧ ((0 : Int) ≤ a) ∧ ((a : Int) < list.length) ∧ (a.toNat < list.length) ∧ (((decide ((list.getD a.toNat 0) ≤ r)) = (decide (list.getD a.toNat 0 ≤ r))))
theorem i_LineSites_1_vc (a : Int) (list : List Int) (r : Int) (ha : 0 ≤ a ∧ a < (list.length : Int)) (w_list : (list.length : Int) ≤ 9223372036854775807) : i_LineSites_1_P a list r := by
  unfold i_LineSites_1_P
  refine ⟨rfl, ?_, ?_, ?_, ?_⟩
  · first | omega | rfl | (intro hg; simp only [nrmT] at hg; omega) | (intro g1 g2; simp [g1, g2]; done) | (intro g1; simp at g1 ⊢; simp [g1]; done) | (simp only [nrmT] at *; omega) | (simp at * <;> omega) | (simp_all <;> omega) | (simp_all; done)
  · first | omega | rfl | (intro hg; simp only [nrmT] at hg; omega) | (intro g1 g2; simp [g1, g2]; done) | (intro g1; simp at g1 ⊢; simp [g1]; done) | (simp only [nrmT] at *; omega) | (simp at * <;> omega) | (simp_all <;> omega) | (simp_all; done)
  · first | omega | rfl | (intro hg; simp only [nrmT] at hg; omega) | (intro g1 g2; simp [g1, g2]; done) | (intro g1; simp at g1 ⊢; simp [g1]; done) | (simp only [nrmT] at *; omega) | (simp at * <;> omega) | (simp_all <;> omega) | (simp_all; done)
  · first | omega | rfl | (intro hg; simp only [nrmT] at hg; omega) | (intro g1 g2; simp [g1, g2]; done) | (intro g1; simp at g1 ⊢; simp [g1]; done) | (simp only [nrmT] at *; omega) | (simp at * <;> omega) | (simp_all <;> omega) | (simp_all; done)
theorem i_LineSites_1_pc (a : Int) (list : List Int) (r : Int) (ha : 0 ≤ a ∧ a < (list.length : Int)) : PC Try.prog 74 [.int .i64 a, .bx [.sl (.ints list)] 0, .bx [.int .i64 r] 0] (.one (.d (.bool (decide (list.getD a.toNat 0 ≤ r))))) :=
  pc_wf @Try.call74 fun hw => pc_by (by kernel_rfl) Try.func74 @Try.call74 (by kernel_rfl) i_LineSites_1_C (i_LineSites_1_A a list r) (by kernel_rfl) (i_LineSites_1_vc a list r ha hw.2.1.1) (by kernel_rfl)
def i_LineSites_1_orc : List D → Orc := orcN [none, none, none] fun ds => match ds with
  | [.int .i64 a, .bx [.sl (.ints list)] 0, .bx [.int .i64 r] 0] => some (.one (.d (.bool (decide (list.getD a.toNat 0 ≤ r)))))
  | _ => none
abbrev slices_IndexFunc_int_int_iLS_JJ0 (xs : List Int) (list : List Int) (r : Int) (i : Int) : Prop := (0 ≤ i) ∧ (i ≤ (xs.length : Int)) ∧ (∀ k, k < i.toNat → (fun (a : Int) => decide (list.getD a.toNat 0 ≤ r)) (xs.getD k 0) = false)
abbrev slices_IndexFunc_int_int_iLS_mJ0 (xs : List Int) (list : List Int) (r : Int) (i : Int) : Nat := (xs.length - i).toNat
def slices_IndexFunc_int_int_iLS_C (f : FuncId) (ds : List D) : Orc := bif Nat.beq f 74 then i_LineSites_1_orc ds else .no
def slices_IndexFunc_int_int_iLS_A (xs : List Int) (list : List Int) (r : Int) : Ann := .two (.none) (.two (.two (.none) (.loop (cut1 (fun (i : Int) => slices_IndexFunc_int_int_iLS_JJ0 xs list r i) (fun (i : Int) => [(0, .d false (.sl (.ints xs))), (1, .d false (.fn 74 [.bx [.sl (.ints list)] 0, .bx [.int .i64 r] 0])), (7, .d true (.int .i64 (xs.length : Int))), (8, .d true (.int .i64 i))]) (fun (i : Int) => [])) (fun g => slices_IndexFunc_int_int_iLS_mJ0 xs list r g) (fun _ => .none))) (.none))
def slices_IndexFunc_int_int_iLS_P (xs : List Int) (list : List Int) (r : Int) : Prop :=
  ((∃ i' : Int, (slices_IndexFunc_int_int_iLS_JJ0 xs list r i') ∧ (xs = xs) ∧ ((.fn 74 [.bx [.sl (.ints list)] 0, .bx [.int .i64 r] 0] : D) = (.fn 74 [.bx [.sl (.ints list)] 0, .bx [.int .i64 r] 0] : D)) ∧ ((xs.length : Int) = (xs.length : Int)) ∧ ((0 : Int) = i')) ∧ (∀ i : Int, (slices_IndexFunc_int_int_iLS_JJ0 xs list r i) → (((decide (i < (xs.length : Int))) = true → ((0 : Int) ≤ i) ∧ ((i : Int) < xs.length) ∧ (i.toNat < xs.length) ∧ (PC Try.prog 74 [.int .i64 (xs.getD i.toNat 0), .bx [.sl (.ints list)] 0, .bx [.int .i64 r] 0] (.one (.d (.bool (decide (list.getD (xs.getD i.toNat 0).toNat 0 ≤ r)))))) ∧ (((decide (list.getD (xs.getD i.toNat 0).toNat 0 ≤ r)) = true → ((i = (idxI (fun (a : Int) => decide (list.getD a.toNat 0 ≤ r)) xs)))) ∧ ((decide (list.getD (xs.getD i.toNat 0).toNat 0 ≤ r)) = false → (-9223372036854775808 ≤ (i + 1) ∧ (i + 1) ≤ 9223372036854775807) ∧ (∃ i' : Int, (slices_IndexFunc_int_int_iLS_JJ0 xs list r i') ∧ (slices_IndexFunc_int_int_iLS_mJ0 xs list r i' < slices_IndexFunc_int_int_iLS_mJ0 xs list r i) ∧ (xs = xs) ∧ ((.fn 74 [.bx [.sl (.ints list)] 0, .bx [.int .i64 r] 0] : D) = (.fn 74 [.bx [.sl (.ints list)] 0, .bx [.int .i64 r] 0] : D)) ∧ ((xs.length : Int) = (xs.length : Int)) ∧ ((i + 1) = i'))))) ∧ ((decide (i < (xs.length : Int))) = false → ((((-1) : Int) = (idxI (fun (a : Int) => decide (list.getD a.toNat 0 ≤ r)) xs)))))))
theorem slices_IndexFunc_int_int_iLS_vc (xs : List Int) (list : List Int) (r : Int) (hx : ∀ a ∈ xs, 0 ≤ a ∧ a < (list.length : Int)) (w_xs : (xs.length : Int) ≤ 9223372036854775807) (w_list : (list.length : Int) ≤ 9223372036854775807) : slices_IndexFunc_int_int_iLS_P xs list r := by
  unfold slices_IndexFunc_int_int_iLS_P
  refine ⟨?_, ?_⟩
  · refine ⟨0, ?_⟩
    refine ⟨?_, rfl, rfl, rfl, rfl⟩
    · refine ⟨?_, ?_, ?_⟩
      · first | omega | rfl | (intro hg; simp only [nrmT] at hg; omega) | (intro g1 g2; simp [g1, g2]; done) | (intro g1; simp at g1 ⊢; simp [g1]; done) | (simp only [nrmT] at *; omega) | (simp at * <;> omega) | (simp_all <;> omega) | (simp_all; done)
      · first | omega | rfl | (intro hg; simp only [nrmT] at hg; omega) | (intro g1 g2; simp [g1, g2]; done) | (intro g1; simp at g1 ⊢; simp [g1]; done) | (simp only [nrmT] at *; omega) | (simp at * <;> omega) | (simp_all <;> omega) | (simp_all; done)
      · first | omega | rfl | (intro hg; simp only [nrmT] at hg; omega) | (intro g1 g2; simp [g1, g2]; done) | (intro g1; simp at g1 ⊢; simp [g1]; done) | (simp only [nrmT] at *; omega) | (simp at * <;> omega) | (simp_all <;> omega) | (simp_all; done)
  · intro i hJ
    obtain ⟨h1, h2, h3⟩ := hJ
    refine ⟨?_, ?_⟩
    · intro b1
      try simp only [nrmT] at b1
      refine ⟨?_, ?_, ?_, ?_, ?_, ?_⟩
      · first | omega | rfl | (intro hg; simp only [nrmT] at hg; omega) | (intro g1 g2; simp [g1, g2]; done) | (intro g1; simp at g1 ⊢; simp [g1]; done) | (simp only [nrmT] at *; omega) | (simp at * <;> omega) | (simp_all <;> omega) | (simp_all; done)
      · first | omega | rfl | (intro hg; simp only [nrmT] at hg; omega) | (intro g1 g2; simp [g1, g2]; done) | (intro g1; simp at g1 ⊢; simp [g1]; done) | (simp only [nrmT] at *; omega) | (simp at * <;> omega) | (simp_all <;> omega) | (simp_all; done)
      · first | omega | rfl | (intro hg; simp only [nrmT] at hg; omega) | (intro g1 g2; simp [g1, g2]; done) | (intro g1; simp at g1 ⊢; simp [g1]; done) | (simp only [nrmT] at *; omega) | (simp at * <;> omega) | (simp_all <;> omega) | (simp_all; done)
      · refine i_LineSites_1_pc (xs.getD i.toNat 0) list r ?_
        · exact hx _ (getD_memI h1 b1)
      · intro b2
        try simp only [nrmT] at b2
        exact idx_found (p := fun (a : Int) => decide (list.getD a.toNat 0 ≤ r)) h1 b1 h3 (by simpa using b2)
      · intro b3
        try simp only [nrmT] at b3
        refine ⟨?_, ?_⟩
        · first | omega | rfl | (intro hg; simp only [nrmT] at hg; omega) | (intro g1 g2; simp [g1, g2]; done) | (intro g1; simp at g1 ⊢; simp [g1]; done) | (simp only [nrmT] at *; omega) | (simp at * <;> omega) | (simp_all <;> omega) | (simp_all; done)
        · refine ⟨(i + 1), ?_⟩
          refine ⟨?_, ?_, rfl, rfl, rfl, rfl⟩
          · refine ⟨?_, ?_, ?_⟩
            · first | omega | rfl | (intro hg; simp only [nrmT] at hg; omega) | (intro g1 g2; simp [g1, g2]; done) | (intro g1; simp at g1 ⊢; simp [g1]; done) | (simp only [nrmT] at *; omega) | (simp at * <;> omega) | (simp_all <;> omega) | (simp_all; done)
            · first | omega | rfl | (intro hg; simp only [nrmT] at hg; omega) | (intro g1 g2; simp [g1, g2]; done) | (intro g1; simp at g1 ⊢; simp [g1]; done) | (simp only [nrmT] at *; omega) | (simp at * <;> omega) | (simp_all <;> omega) | (simp_all; done)
            · exact idx_step (p := fun (a : Int) => decide (list.getD a.toNat 0 ≤ r)) h1 h3 (by simpa using b3)
          · first | (show _ < _; omega) | (simp only [slices_IndexFunc_int_int_iLS_mJ0]; omega) | (simp only [slices_IndexFunc_int_int_iLS_mJ0] at *; simp at *; omega)
    · intro b4
      try simp only [nrmT] at b4
      exact (idx_none (by omega) h3).symm
theorem slices_IndexFunc_int_int_iLS_pc (xs : List Int) (list : List Int) (r : Int) (hx : ∀ a ∈ xs, 0 ≤ a ∧ a < (list.length : Int)) : PC Try.prog 139 [.sl (.ints xs), .fn 74 [.bx [.sl (.ints list)] 0, .bx [.int .i64 r] 0]] (.one (.d (.int .i64 (idxI (fun (a : Int) => decide (list.getD a.toNat 0 ≤ r)) xs)))) :=
  pc_wf @Try.call139 fun hw => pc_by (by kernel_rfl) Try.func139 @Try.call139 (by kernel_rfl) slices_IndexFunc_int_int_iLS_C (slices_IndexFunc_int_int_iLS_A xs list r) (by kernel_rfl) (slices_IndexFunc_int_int_iLS_vc xs list r hx hw.1 hw.2.1.1.1) (by kernel_rfl)
def slices_IndexFunc_int_int_iLS_orc : List D → Orc := orcN [some .ints, none] fun ds => match ds with
  | [.sl (.ints xs), .fn f0 [.bx [.sl (.ints list)] 0, .bx [.int .i64 r] 0]] => bif Nat.beq f0 74 then some (.one (.d (.int .i64 (idxI (fun (a : Int) => decide (list.getD a.toNat 0 ≤ r)) xs)))) else none
  | _ => none
def slices_ContainsFunc_int_int_iLS_C (f : FuncId) (ds : List D) : Orc := bif Nat.beq f 139 then slices_IndexFunc_int_int_iLS_orc ds else .no
def slices_ContainsFunc_int_int_iLS_A (xs : List Int) (list : List Int) (r : Int) : Ann := .none
def slices_ContainsFunc_int_int_iLS_P (xs : List Int) (list : List Int) (r : Int) : Prop :=
  (PC Try.prog 139 [.sl (.ints xs), .fn 74 [.bx [.sl (.ints list)] 0, .bx [.int .i64 r] 0]] (.one (.d (.int .i64 (idxI (fun (a : Int) => decide (list.getD a.toNat 0 ≤ r)) xs))))) ∧ (((decide ((idxI (fun (a : Int) => decide (list.getD a.toNat 0 ≤ r)) xs) ≥ 0)) = (xs.any (fun (a : Int) => decide (list.getD a.toNat 0 ≤ r)))))
theorem slices_ContainsFunc_int_int_iLS_vc (xs : List Int) (list : List Int) (r : Int) (hx : ∀ a ∈ xs, 0 ≤ a ∧ a < (list.length : Int)) (w_xs : (xs.length : Int) ≤ 9223372036854775807) (w_list : (list.length : Int) ≤ 9223372036854775807) : slices_ContainsFunc_int_int_iLS_P xs list r := by
  unfold slices_ContainsFunc_int_int_iLS_P
  refine ⟨?_, ?_⟩
  · refine slices_IndexFunc_int_int_iLS_pc xs list r ?_
    · exact hx
  · exact idx_any _ _
theorem slices_ContainsFunc_int_int_iLS_pc (xs : List Int) (list : List Int) (r : Int) (hx : ∀ a ∈ xs, 0 ≤ a ∧ a < (list.length : Int)) : PC Try.prog 73 [.sl (.ints xs), .fn 74 [.bx [.sl (.ints list)] 0, .bx [.int .i64 r] 0]] (.one (.d (.bool (xs.any (fun (a : Int) => decide (list.getD a.toNat 0 ≤ r)))))) :=
  pc_wf @Try.call73 fun hw => pc_by (by kernel_rfl) Try.func73 @Try.call73 (by kernel_rfl) slices_ContainsFunc_int_int_iLS_C (slices_ContainsFunc_int_int_iLS_A xs list r) (by kernel_rfl) (slices_ContainsFunc_int_int_iLS_vc xs list r hx hw.1 hw.2.1.1.1) (by kernel_rfl)
def slices_ContainsFunc_int_int_iLS_orc : List D → Orc := orcN [some .ints, none] fun ds => match ds with
  | [.sl (.ints xs), .fn f0 [.bx [.sl (.ints list)] 0, .bx [.int .i64 r] 0]] => bif Nat.beq f0 74 then some (.one (.d (.bool (xs.any (fun (a : Int) => decide (list.getD a.toNat 0 ≤ r)))))) else none
  | _ => none
abbrev i_LineSites_JJ0 (sites : List Int) (clients : List Int) (r : Int) (out : List Int) (j : Int) : Prop := (0 ≤ j) ∧ (j ≤ ((lfD sites clients).length : Int)) ∧ (lsTo (lfD sites clients) r j.toNat = some out)
abbrev i_LineSites_mJ0 (sites : List Int) (clients : List Int) (r : Int) (out : List Int) (j : Int) : Nat := (((lfD sites clients).length : Int) - j).toNat
abbrev i_LineSites_JJ1 (sites : List Int) (clients : List Int) (r : Int) (out : List Int) (j : Int) (last : Int) (a : Int) : Prop := (0 ≤ a) ∧ (a ≤ (((lfD sites clients).getD j.toNat []).length : Int)) ∧ (last = lastTo ((lfD sites clients).getD j.toNat []) r a.toNat)
abbrev i_LineSites_mJ1 (sites : List Int) (clients : List Int) (r : Int) (out : List Int) (j : Int) (last : Int) (a : Int) : Nat := ((((lfD sites clients).getD j.toNat []).length : Int) - a).toNat
def i_LineSites_C (f : FuncId) (ds : List D) : Orc := bif Nat.beq f 72 then i_LineField_orc ds else bif Nat.beq f 73 then slices_ContainsFunc_int_int_iLS_orc ds else .no
def i_LineSites_A (sites : List Int) (clients : List Int) (r : Int) : Ann := .two (.none) (.two (.none) (.two (.none) (.two (.none) (.two (.two (.none) (.loop (cut2 (fun (out : List Int) (j : Int) => i_LineSites_JJ0 sites clients r out j) (fun (out : List Int) (j : Int) => [(5, .ptr 5 0), (10, .own 1000000 out.length), (30, .d true (.sl (.rows (lfD sites clients)))), (31, .d true (.int .i64 (((lfD sites clients).length) : Int))), (32, .d true (.int .i64 j))]) (fun (out : List Int) (j : Int) => [(1000000, .arr true 3 (.ints out)), (5, .box 3 [.d false (.int .i64 r)])])) (fun g => i_LineSites_mJ0 sites clients r g.1 g.2) (fun g => (fun (out : List Int) (j : Int) => .two (.none) (.two (.none) (.two (.two (.none) (.two (.none) (.two (.none) (.two (.two (.none) (.loop (cut2 (fun (last : Int) (a : Int) => i_LineSites_JJ1 sites clients r out j last a) (fun (last : Int) (a : Int) => [(5, .ptr 5 0), (10, .own 1000000 out.length), (13, .d true (.int .i64 last)), (30, .d true (.sl (.rows (lfD sites clients)))), (31, .d true (.int .i64 (((lfD sites clients).length) : Int))), (32, .d true (.int .i64 j)), (39, .d true (.sl (.ints ((lfD sites clients).getD j.toNat [])))), (40, .d true (.int .i64 (((lfD sites clients).getD j.toNat []).length : Int))), (41, .d true (.int .i64 a))]) (fun (last : Int) (a : Int) => [(5, .box 3 [.d false (.int .i64 r)]), (1000000, .arr true 3 (.ints out))])) (fun g => i_LineSites_mJ1 sites clients r out j g.1 g.2) (fun _ => .none))) (.none))))) (.none)))) (g.1) (g.2)))) (.none)))))
def i_LineSites_P (sites : List Int) (clients : List Int) (r : Int) : Prop :=
  (PC Try.prog 72 [.sl (.ints sites), .sl (.ints clients)] (.tup [.d (.agg [.sl (.ints (lfO sites clients)), .sl (.rows (lfD sites clients))]), .d (.bool (goodL sites clients))])) ∧ ((!(!(goodL sites clients))) = true → (!(!(goodL sites clients))) = true) ∧ (true = true) ∧ (((!(goodL sites clients)) = true → true = true)) ∧ (((!(goodL sites clients)) = false → (!(!(goodL sites clients))) = true)) ∧ (((cond (!(goodL sites clients)) true (decide (r < 0))) = true → (((lsL sites clients r).length = 0) ∧ (false = ((lsO sites clients r).isSome)))) ∧ ((cond (!(goodL sites clients)) true (decide (r < 0))) = false → ((∃ out' : List Int, ∃ j' : Int, (i_LineSites_JJ0 sites clients r out' j') ∧ ((0 : Nat) = out'.length) ∧ (lfD sites clients = lfD sites clients) ∧ ((((lfD sites clients).length) : Int) = (((lfD sites clients).length) : Int)) ∧ ((0 : Int) = j') ∧ ([] = out') ∧ (r = r)) ∧ (∀ out : List Int, ∀ j : Int, (i_LineSites_JJ0 sites clients r out j) → (((decide (j < (((lfD sites clients).length) : Int))) = true → ((0 : Int) ≤ j) ∧ ((j : Int) < (lfD sites clients).length) ∧ (j.toNat < (lfD sites clients).length) ∧ (out.length = out.length) ∧ (PC Try.prog 73 [.sl (.ints out), .fn 74 [.bx [.sl (.ints ((lfD sites clients).getD j.toNat []))] 0, .bx [.int .i64 r] 0]] (.one (.d (.bool (out.any (fun (a : Int) => decide (((lfD sites clients).getD j.toNat []).getD a.toNat 0 ≤ r))))))) ∧ (((out.any (fun (a : Int) => decide (((lfD sites clients).getD j.toNat []).getD a.toNat 0 ≤ r))) = true → (-9223372036854775808 ≤ (j + 1) ∧ (j + 1) ≤ 9223372036854775807) ∧ (∃ out' : List Int, ∃ j' : Int, (i_LineSites_JJ0 sites clients r out' j') ∧ (i_LineSites_mJ0 sites clients r out' j' < i_LineSites_mJ0 sites clients r out j) ∧ (out.length = out'.length) ∧ (lfD sites clients = lfD sites clients) ∧ ((((lfD sites clients).length) : Int) = (((lfD sites clients).length) : Int)) ∧ ((j + 1) = j') ∧ (out = out') ∧ (r = r))) ∧ ((out.any (fun (a : Int) => decide (((lfD sites clients).getD j.toNat []).getD a.toNat 0 ≤ r))) = false → ((∃ last' : Int, ∃ a' : Int, (i_LineSites_JJ1 sites clients r out j last' a') ∧ (out.length = out.length) ∧ (((-1) : Int) = last') ∧ (lfD sites clients = lfD sites clients) ∧ ((((lfD sites clients).length) : Int) = (((lfD sites clients).length) : Int)) ∧ (j = j) ∧ (((lfD sites clients).getD j.toNat []) = ((lfD sites clients).getD j.toNat [])) ∧ ((((lfD sites clients).getD j.toNat []).length : Int) = (((lfD sites clients).getD j.toNat []).length : Int)) ∧ ((0 : Int) = a') ∧ (r = r) ∧ (out = out)) ∧ (∀ last : Int, ∀ a : Int, (i_LineSites_JJ1 sites clients r out j last a) → (((decide (a < (((lfD sites clients).getD j.toNat []).length : Int))) = true → ((0 : Int) ≤ a) ∧ ((a : Int) < ((lfD sites clients).getD j.toNat []).length) ∧ (a.toNat < ((lfD sites clients).getD j.toNat []).length) ∧ (((decide ((((lfD sites clients).getD j.toNat []).getD a.toNat 0) ≤ r)) = true → (-9223372036854775808 ≤ (a + 1) ∧ (a + 1) ≤ 9223372036854775807) ∧ (∃ last' : Int, ∃ a' : Int, (i_LineSites_JJ1 sites clients r out j last' a') ∧ (i_LineSites_mJ1 sites clients r out j last' a' < i_LineSites_mJ1 sites clients r out j last a) ∧ (out.length = out.length) ∧ (a = last') ∧ (lfD sites clients = lfD sites clients) ∧ ((((lfD sites clients).length) : Int) = (((lfD sites clients).length) : Int)) ∧ (j = j) ∧ (((lfD sites clients).getD j.toNat []) = ((lfD sites clients).getD j.toNat [])) ∧ ((((lfD sites clients).getD j.toNat []).length : Int) = (((lfD sites clients).getD j.toNat []).length : Int)) ∧ ((a + 1) = a') ∧ (r = r) ∧ (out = out))) ∧ ((decide ((((lfD sites clients).getD j.toNat []).getD a.toNat 0) ≤ r)) = false → (-9223372036854775808 ≤ (a + 1) ∧ (a + 1) ≤ 9223372036854775807) ∧ (∃ last' : Int, ∃ a' : Int, (i_LineSites_JJ1 sites clients r out j last' a') ∧ (i_LineSites_mJ1 sites clients r out j last' a' < i_LineSites_mJ1 sites clients r out j last a) ∧ (out.length = out.length) ∧ (last = last') ∧ (lfD sites clients = lfD sites clients) ∧ ((((lfD sites clients).length) : Int) = (((lfD sites clients).length) : Int)) ∧ (j = j) ∧ (((lfD sites clients).getD j.toNat []) = ((lfD sites clients).getD j.toNat [])) ∧ ((((lfD sites clients).getD j.toNat []).length : Int) = (((lfD sites clients).getD j.toNat []).length : Int)) ∧ ((a + 1) = a') ∧ (r = r) ∧ (out = out))))) ∧ ((decide (a < (((lfD sites clients).getD j.toNat []).length : Int))) = false → (((decide (last < 0)) = true → (((lsL sites clients r).length = 0) ∧ (false = ((lsO sites clients r).isSome)))) ∧ ((decide (last < 0)) = false → (out.length = out.length) ∧ ((1 : Nat) = 1) ∧ ((out.length + 1) * 8 ≤ 140737488355328) ∧ (-9223372036854775808 ≤ (j + 1) ∧ (j + 1) ≤ 9223372036854775807) ∧ (∃ out' : List Int, ∃ j' : Int, (i_LineSites_JJ0 sites clients r out' j') ∧ (i_LineSites_mJ0 sites clients r out' j' < i_LineSites_mJ0 sites clients r out j) ∧ ((out.length + 1) = out'.length) ∧ (lfD sites clients = lfD sites clients) ∧ ((((lfD sites clients).length) : Int) = (((lfD sites clients).length) : Int)) ∧ ((j + 1) = j') ∧ ((out ++ [last]) = out') ∧ (r = r))))))))))) ∧ ((decide (j < (((lfD sites clients).length) : Int))) = false → ((out.length = out.length) ∧ ((out : List Int) = lsL sites clients r) ∧ (true = ((lsO sites clients r).isSome)))))))))
theorem i_LineSites_vc (sites : List Int) (clients : List Int) (r : Int)  (w_sites : (sites.length : Int) ≤ 9223372036854775807) (w_clients : (clients.length : Int) ≤ 9223372036854775807) : i_LineSites_P sites clients r := by
  unfold i_LineSites_P
  refine ⟨i_LineField_pc sites clients, id, rfl, fun _ => rfl, ?_, ?_, ?_⟩
  · intro h; rw [h]; rfl
  · intro b1
    refine ⟨?_, ?_⟩
    · rw [lsL_none (ls_no b1)]; rfl
    · rw [ls_no b1]; rfl
  · intro b2
    refine ⟨?_, ?_⟩
    · refine ⟨([]), 0, ?_⟩
      refine ⟨?_, rfl, rfl, rfl, rfl, ?_, rfl⟩
      · refine ⟨?_, ?_, ?_⟩
        · first | omega | rfl | (intro hg; simp only [nrmT] at hg; omega) | (intro g1 g2; simp [g1, g2]; done) | (intro g1; simp at g1 ⊢; simp [g1]; done) | (simp only [nrmT] at *; omega) | (simp at * <;> omega) | (simp_all <;> omega) | (simp_all; done)
        · omega
        · rfl
      · first | omega | rfl | (intro hg; simp only [nrmT] at hg; omega) | (intro g1 g2; simp [g1, g2]; done) | (intro g1; simp at g1 ⊢; simp [g1]; done) | (simp only [nrmT] at *; omega) | (simp at * <;> omega) | (simp_all <;> omega) | (simp_all; done)
    · intro out j hJ
      obtain ⟨h1, h2, h3⟩ := hJ
      refine ⟨?_, ?_⟩
      · intro b3
        try simp only [nrmT] at b3
        refine ⟨?_, ?_, ?_, rfl, ?_, ?_, ?_⟩
        · first | omega | rfl | (intro hg; simp only [nrmT] at hg; omega) | (intro g1 g2; simp [g1, g2]; done) | (intro g1; simp at g1 ⊢; simp [g1]; done) | (simp only [nrmT] at *; omega) | (simp at * <;> omega) | (simp_all <;> omega) | (simp_all; done)
        · obtain ⟨hg, hr⟩ := ls_test b2
          obtain ⟨g1, g2, g3, g4, g5⟩ := goodL_facts hg
          have e2 := lfD_len hg
          have e1 := lfD_row hg (j := j.toNat) (by omega)
          omega
        · obtain ⟨hg, hr⟩ := ls_test b2
          obtain ⟨g1, g2, g3, g4, g5⟩ := goodL_facts hg
          have e2 := lfD_len hg
          have e1 := lfD_row hg (j := j.toNat) (by omega)
          omega
        · refine slices_ContainsFunc_int_int_iLS_pc out ((lfD sites clients).getD j.toNat []) r ?_
          · obtain ⟨hg, hr⟩ := ls_test b2
            obtain ⟨g1, g2, g3, g4, g5⟩ := goodL_facts hg
            have e2 := lfD_len hg
            obtain ⟨f1, f2⟩ := lsTo_facts (m := sites.length) j.toNat out (fun k hk => lfD_row hg (by omega)) h3
            intro a9 ha
            have := f2 a9 ha
            rw [lfD_row hg (by omega)]
            exact this
        · intro b4
          try simp only [nrmT] at b4
          refine ⟨?_, ?_⟩
          · obtain ⟨hg, hr⟩ := ls_test b2
            obtain ⟨g1, g2, g3, g4, g5⟩ := goodL_facts hg
            have e2 := lfD_len hg
            have e1 := lfD_row hg (j := j.toNat) (by omega)
            omega
          · refine ⟨out, (j + 1), ?_⟩
            refine ⟨?_, ?_, rfl, rfl, rfl, rfl, rfl, rfl⟩
            · refine ⟨?_, ?_, ?_⟩
              · first | omega | rfl | (intro hg; simp only [nrmT] at hg; omega) | (intro g1 g2; simp [g1, g2]; done) | (intro g1; simp at g1 ⊢; simp [g1]; done) | (simp only [nrmT] at *; omega) | (simp at * <;> omega) | (simp_all <;> omega) | (simp_all; done)
              · obtain ⟨hg, hr⟩ := ls_test b2
                obtain ⟨g1, g2, g3, g4, g5⟩ := goodL_facts hg
                have e2 := lfD_len hg
                have e1 := lfD_row hg (j := j.toNat) (by omega)
                omega
              · rw [show (j + 1).toNat = j.toNat + 1 by omega]
                exact lsTo_keep h3 (by first | (simpa using b4) | (unfold hasLe; simpa using b4))
            · first | (show _ < _; omega) | (simp only [i_LineSites_mJ0]; omega) | (simp only [i_LineSites_mJ0] at *; simp at *; omega)
        · intro b5
          try simp only [nrmT] at b5
          refine ⟨?_, ?_⟩
          · refine ⟨(-1), 0, ?_⟩
            refine ⟨?_, rfl, rfl, rfl, rfl, rfl, rfl, rfl, rfl, rfl, rfl⟩
            · refine ⟨?_, ?_, ?_⟩
              · first | omega | rfl | (intro hg; simp only [nrmT] at hg; omega) | (intro g1 g2; simp [g1, g2]; done) | (intro g1; simp at g1 ⊢; simp [g1]; done) | (simp only [nrmT] at *; omega) | (simp at * <;> omega) | (simp_all <;> omega) | (simp_all; done)
              · obtain ⟨hg, hr⟩ := ls_test b2
                obtain ⟨g1, g2, g3, g4, g5⟩ := goodL_facts hg
                have e2 := lfD_len hg
                have e1 := lfD_row hg (j := j.toNat) (by omega)
                omega
              · rfl
          · intro last a hJ
            obtain ⟨h5, h6, h7⟩ := hJ
            refine ⟨?_, ?_⟩
            · intro b6
              try simp only [nrmT] at b6
              refine ⟨?_, ?_, ?_, ?_, ?_⟩
              · first | omega | rfl | (intro hg; simp only [nrmT] at hg; omega) | (intro g1 g2; simp [g1, g2]; done) | (intro g1; simp at g1 ⊢; simp [g1]; done) | (simp only [nrmT] at *; omega) | (simp at * <;> omega) | (simp_all <;> omega) | (simp_all; done)
              · obtain ⟨hg, hr⟩ := ls_test b2
                obtain ⟨g1, g2, g3, g4, g5⟩ := goodL_facts hg
                have e2 := lfD_len hg
                have e1 := lfD_row hg (j := j.toNat) (by omega)
                omega
              · obtain ⟨hg, hr⟩ := ls_test b2
                obtain ⟨g1, g2, g3, g4, g5⟩ := goodL_facts hg
                have e2 := lfD_len hg
                have e1 := lfD_row hg (j := j.toNat) (by omega)
                omega
              · intro b7
                try simp only [nrmT] at b7
                refine ⟨?_, ?_⟩
                · obtain ⟨hg, hr⟩ := ls_test b2
                  obtain ⟨g1, g2, g3, g4, g5⟩ := goodL_facts hg
                  have e2 := lfD_len hg
                  have e1 := lfD_row hg (j := j.toNat) (by omega)
                  omega
                · refine ⟨a, (a + 1), ?_⟩
                  refine ⟨?_, ?_, rfl, rfl, rfl, rfl, rfl, rfl, rfl, rfl, rfl, rfl⟩
                  · refine ⟨?_, ?_, ?_⟩
                    · first | omega | rfl | (intro hg; simp only [nrmT] at hg; omega) | (intro g1 g2; simp [g1, g2]; done) | (intro g1; simp at g1 ⊢; simp [g1]; done) | (simp only [nrmT] at *; omega) | (simp at * <;> omega) | (simp_all <;> omega) | (simp_all; done)
                    · obtain ⟨hg, hr⟩ := ls_test b2
                      obtain ⟨g1, g2, g3, g4, g5⟩ := goodL_facts hg
                      have e2 := lfD_len hg
                      have e1 := lfD_row hg (j := j.toNat) (by omega)
                      omega
                    · rw [show (a + 1).toNat = a.toNat + 1 by omega, lastTo_succ]
                      first | (rw [if_pos (by omega)]; omega) | (rw [if_neg (by omega)]; exact h7)
                  · first | (show _ < _; omega) | (simp only [i_LineSites_mJ1]; omega) | (simp only [i_LineSites_mJ1] at *; simp at *; omega)
              · intro b8
                try simp only [nrmT] at b8
                refine ⟨?_, ?_⟩
                · obtain ⟨hg, hr⟩ := ls_test b2
                  obtain ⟨g1, g2, g3, g4, g5⟩ := goodL_facts hg
                  have e2 := lfD_len hg
                  have e1 := lfD_row hg (j := j.toNat) (by omega)
                  omega
                · refine ⟨last, (a + 1), ?_⟩
                  refine ⟨?_, ?_, rfl, rfl, rfl, rfl, rfl, rfl, rfl, rfl, rfl, rfl⟩
                  · refine ⟨?_, ?_, ?_⟩
                    · first | omega | rfl | (intro hg; simp only [nrmT] at hg; omega) | (intro g1 g2; simp [g1, g2]; done) | (intro g1; simp at g1 ⊢; simp [g1]; done) | (simp only [nrmT] at *; omega) | (simp at * <;> omega) | (simp_all <;> omega) | (simp_all; done)
                    · obtain ⟨hg, hr⟩ := ls_test b2
                      obtain ⟨g1, g2, g3, g4, g5⟩ := goodL_facts hg
                      have e2 := lfD_len hg
                      have e1 := lfD_row hg (j := j.toNat) (by omega)
                      omega
                    · rw [show (a + 1).toNat = a.toNat + 1 by omega, lastTo_succ]
                      first | (rw [if_pos (by omega)]; omega) | (rw [if_neg (by omega)]; exact h7)
                  · first | (show _ < _; omega) | (simp only [i_LineSites_mJ1]; omega) | (simp only [i_LineSites_mJ1] at *; simp at *; omega)
            · intro b9
              try simp only [nrmT] at b9
              refine ⟨?_, ?_⟩
              · intro b10
                try simp only [nrmT] at b10
                refine ⟨?_, ?_⟩
                · have e4 : hasLe ((lfD sites clients).getD j.toNat []) r out = false := by first | (simpa using b5) | (unfold hasLe; simpa using b5)
                  obtain ⟨hg, hr⟩ := ls_test b2
                  obtain ⟨g1, g2, g3, g4, g5⟩ := goodL_facts hg
                  have e2 := lfD_len hg
                  have e1 := lfD_row hg (j := j.toNat) (by omega)
                  have e3 : last = lastTo ((lfD sites clients).getD j.toNat []) r ((lfD sites clients).getD j.toNat []).length := by rw [h7, e1, show a.toNat = sites.length by omega]
                  have e5 := lsTo_none (lsTo_fail h3 e4 (by rw [← e3]; omega)) clients.length (by omega)
                  rw [← ls_some hg hr] at e5
                  rw [lsL_none e5]; rfl
                · have e4 : hasLe ((lfD sites clients).getD j.toNat []) r out = false := by first | (simpa using b5) | (unfold hasLe; simpa using b5)
                  obtain ⟨hg, hr⟩ := ls_test b2
                  obtain ⟨g1, g2, g3, g4, g5⟩ := goodL_facts hg
                  have e2 := lfD_len hg
                  have e1 := lfD_row hg (j := j.toNat) (by omega)
                  have e3 : last = lastTo ((lfD sites clients).getD j.toNat []) r ((lfD sites clients).getD j.toNat []).length := by rw [h7, e1, show a.toNat = sites.length by omega]
                  have e5 := lsTo_none (lsTo_fail h3 e4 (by rw [← e3]; omega)) clients.length (by omega)
                  rw [← ls_some hg hr] at e5
                  rw [e5]; rfl
              · intro b11
                try simp only [nrmT] at b11
                refine ⟨rfl, rfl, ?_, ?_, ?_⟩
                · obtain ⟨hg, hr⟩ := ls_test b2
                  obtain ⟨g1, g2, g3, g4, g5⟩ := goodL_facts hg
                  have e2 := lfD_len hg
                  obtain ⟨f1, f2⟩ := lsTo_facts (m := sites.length) j.toNat out (fun k hk => lfD_row hg (by omega)) h3
                  omega
                · obtain ⟨hg, hr⟩ := ls_test b2
                  obtain ⟨g1, g2, g3, g4, g5⟩ := goodL_facts hg
                  have e2 := lfD_len hg
                  have e1 := lfD_row hg (j := j.toNat) (by omega)
                  omega
                · refine ⟨(out ++ [last]), (j + 1), ?_⟩
                  refine ⟨?_, ?_, ?_, rfl, rfl, rfl, rfl, rfl⟩
                  · refine ⟨?_, ?_, ?_⟩
                    · first | omega | rfl | (intro hg; simp only [nrmT] at hg; omega) | (intro g1 g2; simp [g1, g2]; done) | (intro g1; simp at g1 ⊢; simp [g1]; done) | (simp only [nrmT] at *; omega) | (simp at * <;> omega) | (simp_all <;> omega) | (simp_all; done)
                    · obtain ⟨hg, hr⟩ := ls_test b2
                      obtain ⟨g1, g2, g3, g4, g5⟩ := goodL_facts hg
                      have e2 := lfD_len hg
                      have e1 := lfD_row hg (j := j.toNat) (by omega)
                      omega
                    · have e4 : hasLe ((lfD sites clients).getD j.toNat []) r out = false := by first | (simpa using b5) | (unfold hasLe; simpa using b5)
                      obtain ⟨hg, hr⟩ := ls_test b2
                      obtain ⟨g1, g2, g3, g4, g5⟩ := goodL_facts hg
                      have e2 := lfD_len hg
                      have e1 := lfD_row hg (j := j.toNat) (by omega)
                      have e3 : last = lastTo ((lfD sites clients).getD j.toNat []) r ((lfD sites clients).getD j.toNat []).length := by rw [h7, e1, show a.toNat = sites.length by omega]
                      rw [show (j + 1).toNat = j.toNat + 1 by omega, e3]
                      exact lsTo_app h3 e4 (by rw [← e3]; omega)
                  · first | (show _ < _; omega) | (simp only [i_LineSites_mJ0]; omega) | (simp only [i_LineSites_mJ0] at *; simp at *; omega)
                  · first | omega | rfl | (intro hg; simp only [nrmT] at hg; omega) | (intro g1 g2; simp [g1, g2]; done) | (intro g1; simp at g1 ⊢; simp [g1]; done) | (simp only [nrmT] at *; omega) | (simp at * <;> omega) | (simp_all <;> omega) | (simp_all; done)
      · intro b12
        try simp only [nrmT] at b12
        refine ⟨rfl, ?_, ?_⟩
        · obtain ⟨hg, hr⟩ := ls_test b2
          obtain ⟨g1, g2, g3, g4, g5⟩ := goodL_facts hg
          have e2 := lfD_len hg
          rw [show j.toNat = clients.length by omega, ← ls_some hg hr] at h3
          exact (lsL_some h3).symm
        · obtain ⟨hg, hr⟩ := ls_test b2
          obtain ⟨g1, g2, g3, g4, g5⟩ := goodL_facts hg
          have e2 := lfD_len hg
          rw [show j.toNat = clients.length by omega, ← ls_some hg hr] at h3
          rw [h3]; rfl
theorem i_LineSites_pc (sites : List Int) (clients : List Int) (r : Int)  : PC Try.prog 23 [.sl (.ints sites), .sl (.ints clients), .int .i64 r] (.tup [.own 3 (.ints (lsL sites clients r)), .d (.bool ((lsO sites clients r).isSome))]) :=
  pc_wf @Try.call23 fun hw => pc_by (by kernel_rfl) Try.func23 @Try.call23 (by kernel_rfl) i_LineSites_C (i_LineSites_A sites clients r) (by kernel_rfl) (i_LineSites_vc sites clients r hw.1 hw.2.1) (by kernel_rfl)
def i_LineSites_orc : List D → Orc := orcN [some .ints, some .ints, none] fun ds => match ds with
  | [.sl (.ints sites), .sl (.ints clients), .int .i64 r] => some (.tup [.own 3 (.ints (lsL sites clients r)), .d (.bool ((lsO sites clients r).isSome))])
  | _ => none
def l_FnExactLineSites_C (f : FuncId) (ds : List D) : Orc := bif Nat.beq f 22 then l_toIntS_orc ds else bif Nat.beq f 21 then s_LineSites_orc ds else bif Nat.beq f 23 then i_LineSites_orc ds else bif Nat.beq f 24 then l_eqIntS_orc ds else bif Nat.beq f 26 then l_heldIntS_orc ds else .no
def l_FnExactLineSites_A (aSites : List Int) (aClients : List Int) (aR : Int) : Ann := .two (.none) (.two (.none) (.two (.none) (.two (.reg [(1, .g), (3, .g)]) (.two (.reg [(1, .g)]) (.two (.reg [(1, .g)]) (.two (.none) (.two (.none) (.two (.two (.reg [(2, .g)]) (.none)) (.two (.two (.reg [(2, .g)]) (.none)) (.two (.none) (.two (.mark [] 2 (.kill (1 + (aSites.length : Int)))) (.two (.mark [] 2 (.kill ((1 + (aSites.length : Int)) + (aClients.length : Int)))) (.two (.none) (.two (.none) (.two (.mark [] 2 (.wr (marks 1 (lsL aSites aClients aR).length) (1 + ((lsL aSites aClients aR).length : Int)))) (.two (.none) (.two (.none) (.two (.none) (.two (.none) (.two (.reg [(1, .g), (3, .g)]) (.none)))))))))))))))))))))
def l_FnExactLineSites_P (aSites : List Int) (aClients : List Int) (aR : Int) : Prop :=
  (((decide ((aSites.length : Int) > 1048576)) = true → ((true = true))) ∧ ((decide ((aSites.length : Int) > 1048576)) = false → (((decide ((aClients.length : Int) > 1048576)) = true → ((true = true))) ∧ ((decide ((aClients.length : Int) > 1048576)) = false → (PC Try.prog 22 [.sl (.ints aSites)] (.one (.d (.sl (.ints aSites))))) ∧ (PC Try.prog 22 [.sl (.ints aClients)] (.one (.d (.sl (.ints aClients))))) ∧ (PC Try.prog 21 [.sl (.ints aSites), .sl (.ints aClients), .int .i64 aR] (.tup [.d (.sl (.ints (lsL aSites aClients aR))), .d (.bool ((lsO aSites aClients aR).isSome))])) ∧ (PC Try.prog 22 [.sl (.ints aSites)] (.one (.d (.sl (.ints aSites))))) ∧ (PC Try.prog 22 [.sl (.ints aClients)] (.one (.d (.sl (.ints aClients))))) ∧ (PC Try.prog 23 [.sl (.ints aSites), .sl (.ints aClients), .int .i64 aR] (.tup [.own 3 (.ints (lsL aSites aClients aR)), .d (.bool ((lsO aSites aClients aR).isSome))])) ∧ ((lsL aSites aClients aR).length = (lsL aSites aClients aR).length) ∧ (PC Try.prog 24 [.sl (.ints (lsL aSites aClients aR)), .sl (.ints (lsL aSites aClients aR))] (.one (.d (.bool ((lsL aSites aClients aR) == (lsL aSites aClients aR)))))) ∧ ((!(!((lsL aSites aClients aR) == (lsL aSites aClients aR)))) = true → (!(!((lsL aSites aClients aR) == (lsL aSites aClients aR)))) = true) ∧ ((!(!((lsL aSites aClients aR) == (lsL aSites aClients aR)))) = true → (!(!((lsL aSites aClients aR) == (lsL aSites aClients aR)))) = true) ∧ (true = true) ∧ (((!((lsL aSites aClients aR) == (lsL aSites aClients aR))) = true → true = true)) ∧ (((!((lsL aSites aClients aR) == (lsL aSites aClients aR))) = false → (!(!((lsL aSites aClients aR) == (lsL aSites aClients aR)))) = true)) ∧ (((cond (!((lsL aSites aClients aR) == (lsL aSites aClients aR))) true (((lsO aSites aClients aR).isSome) != ((lsO aSites aClients aR).isSome))) = true → ((false = true))) ∧ ((cond (!((lsL aSites aClients aR) == (lsL aSites aClients aR))) true (((lsO aSites aClients aR).isSome) != ((lsO aSites aClients aR).isSome))) = false → (PC Try.prog 22 [.sl (.ints aSites)] (.one (.d (.sl (.ints aSites))))) ∧ (PC Try.prog 24 [.sl (.ints aSites), .sl (.ints aSites)] (.one (.d (.bool (aSites == aSites))))) ∧ (((!(aSites == aSites)) = true → ((false = true))) ∧ ((!(aSites == aSites)) = false → (PC Try.prog 22 [.sl (.ints aClients)] (.one (.d (.sl (.ints aClients))))) ∧ (PC Try.prog 24 [.sl (.ints aClients), .sl (.ints aClients)] (.one (.d (.bool (aClients == aClients))))) ∧ (((!(aClients == aClients)) = true → ((false = true))) ∧ ((!(aClients == aClients)) = false → (PG Try.prog 25 [.shp (.ints aSites.length), .int 1] (1 + (aSites.length : Int))) ∧ (PG Try.prog 25 [.shp (.ints aClients.length), .int (1 + (aSites.length : Int))] ((1 + (aSites.length : Int)) + (aClients.length : Int))) ∧ ((!(decide (((1 + (aSites.length : Int)) + (aClients.length : Int)) < 0))) = true → (!(decide (((1 + (aSites.length : Int)) + (aClients.length : Int)) < 0))) = true) ∧ ((!(decide (((1 + (aSites.length : Int)) + (aClients.length : Int)) < 0))) = true → (!(decide (((1 + (aSites.length : Int)) + (aClients.length : Int)) < 0))) = true) ∧ (((!(decide (((1 + (aSites.length : Int)) + (aClients.length : Int)) < 0))) = true → (lsL aSites aClients aR).length = (lsL aSites aClients aR).length)) ∧ ((!(decide (((1 + (aSites.length : Int)) + (aClients.length : Int)) < 0))) = true → PC Try.prog 24 [.sl (.ints (lsL aSites aClients aR)), .sl (.ints (lsL aSites aClients aR))] (.one (.d (.bool ((lsL aSites aClients aR) == (lsL aSites aClients aR)))))) ∧ ((!(decide (((1 + (aSites.length : Int)) + (aClients.length : Int)) < 0))) = true → (!(decide (((1 + (aSites.length : Int)) + (aClients.length : Int)) < 0))) = true) ∧ (true = true) ∧ (((decide (((1 + (aSites.length : Int)) + (aClients.length : Int)) < 0)) = true → true = true)) ∧ (((decide (((1 + (aSites.length : Int)) + (aClients.length : Int)) < 0)) = false → (!(decide (((1 + (aSites.length : Int)) + (aClients.length : Int)) < 0))) = true)) ∧ ((!(cond (decide (((1 + (aSites.length : Int)) + (aClients.length : Int)) < 0)) true (!((lsL aSites aClients aR) == (lsL aSites aClients aR))))) = true → (!(cond (decide (((1 + (aSites.length : Int)) + (aClients.length : Int)) < 0)) true (!((lsL aSites aClients aR) == (lsL aSites aClients aR))))) = true) ∧ ((!(cond (decide (((1 + (aSites.length : Int)) + (aClients.length : Int)) < 0)) true (!((lsL aSites aClients aR) == (lsL aSites aClients aR))))) = true → (!(cond (decide (((1 + (aSites.length : Int)) + (aClients.length : Int)) < 0)) true (!((lsL aSites aClients aR) == (lsL aSites aClients aR))))) = true) ∧ (true = true) ∧ (((cond (decide (((1 + (aSites.length : Int)) + (aClients.length : Int)) < 0)) true (!((lsL aSites aClients aR) == (lsL aSites aClients aR)))) = true → true = true)) ∧ (((cond (decide (((1 + (aSites.length : Int)) + (aClients.length : Int)) < 0)) true (!((lsL aSites aClients aR) == (lsL aSites aClients aR)))) = false → (!(cond (decide (((1 + (aSites.length : Int)) + (aClients.length : Int)) < 0)) true (!((lsL aSites aClients aR) == (lsL aSites aClients aR))))) = true)) ∧ (((cond (cond (decide (((1 + (aSites.length : Int)) + (aClients.length : Int)) < 0)) true (!((lsL aSites aClients aR) == (lsL aSites aClients aR)))) true (((lsO aSites aClients aR).isSome) != ((lsO aSites aClients aR).isSome))) = true → ((false = true))) ∧ ((cond (cond (decide (((1 + (aSites.length : Int)) + (aClients.length : Int)) < 0)) true (!((lsL aSites aClients aR) == (lsL aSites aClients aR)))) true (((lsO aSites aClients aR).isSome) != ((lsO aSites aClients aR).isSome))) = false → ((lsL aSites aClients aR).length = (lsL aSites aClients aR).length) ∧ ((marks 1 (lsL aSites aClients aR).length).length = (lsL aSites aClients aR).length) ∧ (PW Try.prog 25 3 (lsL aSites aClients aR) (marks 1 (lsL aSites aClients aR).length) 1 (1 + ((lsL aSites aClients aR).length : Int))) ∧ ((lsL aSites aClients aR).length = (marks 1 (lsL aSites aClients aR).length).length) ∧ (PC Try.prog 26 [.sl (.ints (marks 1 (lsL aSites aClients aR).length)), .int .i64 1] (.one (.d (.int .i64 (1 + ((marks 1 (lsL aSites aClients aR).length).length : Int)))))) ∧ (((decide ((1 + ((marks 1 (lsL aSites aClients aR).length).length : Int)) < 0)) = true → ((false = true))) ∧ ((decide ((1 + ((marks 1 (lsL aSites aClients aR).length).length : Int)) < 0)) = false → ((((1 + ((marks 1 (lsL aSites aClients aR).length).length : Int)) != (1 + ((lsL aSites aClients aR).length : Int))) = true → ((false = true))) ∧ (((1 + ((marks 1 (lsL aSites aClients aR).length).length : Int)) != (1 + ((lsL aSites aClients aR).length : Int))) = false → (PC Try.prog 22 [.sl (.ints aSites)] (.one (.d (.sl (.ints aSites))))) ∧ (PC Try.prog 22 [.sl (.ints aClients)] (.one (.d (.sl (.ints aClients))))) ∧ (PC Try.prog 23 [.sl (.ints aSites), .sl (.ints aClients), .int .i64 aR] (.tup [.own 3 (.ints (lsL aSites aClients aR)), .d (.bool ((lsO aSites aClients aR).isSome))])) ∧ ((lsL aSites aClients aR).length = (lsL aSites aClients aR).length) ∧ (PC Try.prog 24 [.sl (.ints (lsL aSites aClients aR)), .sl (.ints (lsL aSites aClients aR))] (.one (.d (.bool ((lsL aSites aClients aR) == (lsL aSites aClients aR)))))) ∧ ((!(!((lsL aSites aClients aR) == (lsL aSites aClients aR)))) = true → (!(!((lsL aSites aClients aR) == (lsL aSites aClients aR)))) = true) ∧ ((!(!((lsL aSites aClients aR) == (lsL aSites aClients aR)))) = true → (!(!((lsL aSites aClients aR) == (lsL aSites aClients aR)))) = true) ∧ (true = true) ∧ (((!((lsL aSites aClients aR) == (lsL aSites aClients aR))) = true → true = true)) ∧ (((!((lsL aSites aClients aR) == (lsL aSites aClients aR))) = false → (!(!((lsL aSites aClients aR) == (lsL aSites aClients aR)))) = true)) ∧ (((cond (!((lsL aSites aClients aR) == (lsL aSites aClients aR))) true (((lsO aSites aClients aR).isSome) != ((lsO aSites aClients aR).isSome))) = true → ((false = true))) ∧ ((cond (!((lsL aSites aClients aR) == (lsL aSites aClients aR))) true (((lsO aSites aClients aR).isSome) != ((lsO aSites aClients aR).isSome))) = false → ((lsL aSites aClients aR).length = (marks 1 (lsL aSites aClients aR).length).length) ∧ (PC Try.prog 26 [.sl (.ints (marks 1 (lsL aSites aClients aR).length)), .int .i64 1] (.one (.d (.int .i64 (1 + ((marks 1 (lsL aSites aClients aR).length).length : Int)))))) ∧ (((decide ((1 + ((marks 1 (lsL aSites aClients aR).length).length : Int)) < 0)) = true → ((false = true))) ∧ ((decide ((1 + ((marks 1 (lsL aSites aClients aR).length).length : Int)) < 0)) = false → ((((1 + ((marks 1 (lsL aSites aClients aR).length).length : Int)) != (1 + ((lsL aSites aClients aR).length : Int))) = true → ((false = true))) ∧ (((1 + ((marks 1 (lsL aSites aClients aR).length).length : Int)) != (1 + ((lsL aSites aClients aR).length : Int))) = false → ((true = true))))))))))))))))))))))))
theorem l_FnExactLineSites_vc (aSites : List Int) (aClients : List Int) (aR : Int)  (w_aSites : (aSites.length : Int) ≤ 9223372036854775807) (w_aClients : (aClients.length : Int) ≤ 9223372036854775807) : l_FnExactLineSites_P aSites aClients aR := by
  unfold l_FnExactLineSites_P
  refine ⟨?_, ?_⟩
  · intro b1
    try simp only [nrmT] at b1
    exact rfl
  · intro b2
    try simp only [nrmT] at b2
    refine ⟨?_, ?_⟩
    · intro b3
      try simp only [nrmT] at b3
      exact rfl
    · intro b4
      try simp only [nrmT] at b4
      refine ⟨?_, ?_, s_LineSites_pc aSites aClients aR, ?_, ?_, i_LineSites_pc aSites aClients aR, rfl, l_eqIntS_pc (lsL aSites aClients aR) (lsL aSites aClients aR), id, id, rfl, fun _ => rfl, ?_, ?_, ?_⟩
      · refine l_toIntS_pc aSites ?_
        · first | omega | rfl | (intro hg; simp only [nrmT] at hg; omega) | (intro g1 g2; simp [g1, g2]; done) | (intro g1; simp at g1 ⊢; simp [g1]; done) | (simp only [nrmT] at *; omega) | (simp at * <;> omega) | (simp_all <;> omega) | (simp_all; done)
      · refine l_toIntS_pc aClients ?_
        · first | omega | rfl | (intro hg; simp only [nrmT] at hg; omega) | (intro g1 g2; simp [g1, g2]; done) | (intro g1; simp at g1 ⊢; simp [g1]; done) | (simp only [nrmT] at *; omega) | (simp at * <;> omega) | (simp_all <;> omega) | (simp_all; done)
      · refine l_toIntS_pc aSites ?_
        · first | omega | rfl | (intro hg; simp only [nrmT] at hg; omega) | (intro g1 g2; simp [g1, g2]; done) | (intro g1; simp at g1 ⊢; simp [g1]; done) | (simp only [nrmT] at *; omega) | (simp at * <;> omega) | (simp_all <;> omega) | (simp_all; done)
      · refine l_toIntS_pc aClients ?_
        · first | omega | rfl | (intro hg; simp only [nrmT] at hg; omega) | (intro g1 g2; simp [g1, g2]; done) | (intro g1; simp at g1 ⊢; simp [g1]; done) | (simp only [nrmT] at *; omega) | (simp at * <;> omega) | (simp_all <;> omega) | (simp_all; done)
      · intro h; rw [h]; rfl
      · intro b5
        first | (exfalso; simp only [marks_len] at b5; omega) | (simp at b5; done) | (exfalso; simp only [marks_len] at b5; simp at b5; done) | omega | rfl | (intro hg; simp only [nrmT] at hg; omega) | (intro g1 g2; simp [g1, g2]; done) | (intro g1; simp at g1 ⊢; simp [g1]; done) | (simp only [nrmT] at *; omega) | (simp at * <;> omega) | (simp_all <;> omega) | (simp_all; done)
      · intro b6
        refine ⟨?_, l_eqIntS_pc aSites aSites, ?_, ?_⟩
        · refine l_toIntS_pc aSites ?_
          · first | omega | rfl | (intro hg; simp only [nrmT] at hg; omega) | (intro g1 g2; simp [g1, g2]; done) | (intro g1; simp at g1 ⊢; simp [g1]; done) | (simp only [nrmT] at *; omega) | (simp at * <;> omega) | (simp_all <;> omega) | (simp_all; done)
        · intro b7
          try simp only [nrmT] at b7
          first | (exfalso; simp only [marks_len] at b7; omega) | (simp at b7; done) | (exfalso; simp only [marks_len] at b7; simp at b7; done) | omega | rfl | (intro hg; simp only [nrmT] at hg; omega) | (intro g1 g2; simp [g1, g2]; done) | (intro g1; simp at g1 ⊢; simp [g1]; done) | (simp only [nrmT] at *; omega) | (simp at * <;> omega) | (simp_all <;> omega) | (simp_all; done)
        · intro b8
          try simp only [nrmT] at b8
          refine ⟨?_, l_eqIntS_pc aClients aClients, ?_, ?_⟩
          · refine l_toIntS_pc aClients ?_
            · first | omega | rfl | (intro hg; simp only [nrmT] at hg; omega) | (intro g1 g2; simp [g1, g2]; done) | (intro g1; simp at g1 ⊢; simp [g1]; done) | (simp only [nrmT] at *; omega) | (simp at * <;> omega) | (simp_all <;> omega) | (simp_all; done)
          · intro b9
            try simp only [nrmT] at b9
            first | (exfalso; simp only [marks_len] at b9; omega) | (simp at b9; done) | (exfalso; simp only [marks_len] at b9; simp at b9; done) | omega | rfl | (intro hg; simp only [nrmT] at hg; omega) | (intro g1 g2; simp [g1, g2]; done) | (intro g1; simp at g1 ⊢; simp [g1]; done) | (simp only [nrmT] at *; omega) | (simp at * <;> omega) | (simp_all <;> omega) | (simp_all; done)
          · intro b10
            try simp only [nrmT] at b10
            refine ⟨?_, ?_, id, id, fun _ => rfl, fun _ => l_eqIntS_pc (lsL aSites aClients aR) (lsL aSites aClients aR), id, rfl, fun _ => rfl, ?_, id, id, rfl, fun _ => rfl, ?_, ?_, ?_⟩
            · refine laws_markIntS_g_pg aSites.length 1 ?_ ?_
              · first | omega | rfl | (intro hg; simp only [nrmT] at hg; omega) | (intro g1 g2; simp [g1, g2]; done) | (intro g1; simp at g1 ⊢; simp [g1]; done) | (simp only [nrmT] at *; omega) | (simp at * <;> omega) | (simp_all <;> omega) | (simp_all; done)
              · have := @lsL_len aSites aClients aR
                omega
            · refine laws_markIntS_g_pg aClients.length (1 + (aSites.length : Int)) ?_ ?_
              · first | omega | rfl | (intro hg; simp only [nrmT] at hg; omega) | (intro g1 g2; simp [g1, g2]; done) | (intro g1; simp at g1 ⊢; simp [g1]; done) | (simp only [nrmT] at *; omega) | (simp at * <;> omega) | (simp_all <;> omega) | (simp_all; done)
              · have := @lsL_len aSites aClients aR
                omega
            · first | omega | rfl | (intro hg; simp only [nrmT] at hg; omega) | (intro g1 g2; simp [g1, g2]; done) | (intro g1; simp at g1 ⊢; simp [g1]; done) | (simp only [nrmT] at *; omega) | (simp at * <;> omega) | (simp_all <;> omega) | (simp_all; done)
            · intro h; rw [h]; rfl
            · intro b11
              first | (exfalso; simp only [marks_len] at b11; omega) | (simp at b11; done) | (exfalso; simp only [marks_len] at b11; simp at b11; done) | omega | rfl | (intro hg; simp only [nrmT] at hg; omega) | (intro g1 g2; simp [g1, g2]; done) | (intro g1; simp at g1 ⊢; simp [g1]; done) | (simp only [nrmT] at *; omega) | (simp at * <;> omega) | (simp_all <;> omega) | (simp_all; done)
            · intro b12
              refine ⟨rfl, marks_len _ _, ?_, ?_, ?_, ?_, ?_⟩
              · refine laws_markIntS_w_pw (lsL aSites aClients aR) 1 ?_ ?_
                · first | omega | rfl | (intro hg; simp only [nrmT] at hg; omega) | (intro g1 g2; simp [g1, g2]; done) | (intro g1; simp at g1 ⊢; simp [g1]; done) | (simp only [nrmT] at *; omega) | (simp at * <;> omega) | (simp_all <;> omega) | (simp_all; done)
                · have := @lsL_len aSites aClients aR
                  omega
              · simp only [marks_len]
              · refine l_heldIntS_pc (marks 1 (lsL aSites aClients aR).length) 1 ?_ ?_ ?_
                · first | omega | rfl | (intro hg; simp only [nrmT] at hg; omega) | (intro g1 g2; simp [g1, g2]; done) | (intro g1; simp at g1 ⊢; simp [g1]; done) | (simp only [nrmT] at *; omega) | (simp at * <;> omega) | (simp_all <;> omega) | (simp_all; done)
                · simp only [marks_len]
                · simp only [marks_len]
                  have := @lsL_len aSites aClients aR
                  omega
              · intro b13
                try simp only [nrmT] at b13
                first | (exfalso; simp only [marks_len] at b13; omega) | (simp at b13; done) | (exfalso; simp only [marks_len] at b13; simp at b13; done) | omega | rfl | (intro hg; simp only [nrmT] at hg; omega) | (intro g1 g2; simp [g1, g2]; done) | (intro g1; simp at g1 ⊢; simp [g1]; done) | (simp only [nrmT] at *; omega) | (simp at * <;> omega) | (simp_all <;> omega) | (simp_all; done)
              · intro b14
                try simp only [nrmT] at b14
                refine ⟨?_, ?_⟩
                · intro b15
                  try simp only [nrmT] at b15
                  first | (exfalso; simp only [marks_len] at b15; omega) | (simp at b15; done) | (exfalso; simp only [marks_len] at b15; simp at b15; done) | omega | rfl | (intro hg; simp only [nrmT] at hg; omega) | (intro g1 g2; simp [g1, g2]; done) | (intro g1; simp at g1 ⊢; simp [g1]; done) | (simp only [nrmT] at *; omega) | (simp at * <;> omega) | (simp_all <;> omega) | (simp_all; done)
                · intro b16
                  try simp only [nrmT] at b16
                  refine ⟨?_, ?_, i_LineSites_pc aSites aClients aR, rfl, l_eqIntS_pc (lsL aSites aClients aR) (lsL aSites aClients aR), id, id, rfl, fun _ => rfl, ?_, ?_, ?_⟩
                  · refine l_toIntS_pc aSites ?_
                    · first | omega | rfl | (intro hg; simp only [nrmT] at hg; omega) | (intro g1 g2; simp [g1, g2]; done) | (intro g1; simp at g1 ⊢; simp [g1]; done) | (simp only [nrmT] at *; omega) | (simp at * <;> omega) | (simp_all <;> omega) | (simp_all; done)
                  · refine l_toIntS_pc aClients ?_
                    · first | omega | rfl | (intro hg; simp only [nrmT] at hg; omega) | (intro g1 g2; simp [g1, g2]; done) | (intro g1; simp at g1 ⊢; simp [g1]; done) | (simp only [nrmT] at *; omega) | (simp at * <;> omega) | (simp_all <;> omega) | (simp_all; done)
                  · intro h; rw [h]; rfl
                  · intro b17
                    first | (exfalso; simp only [marks_len] at b17; omega) | (simp at b17; done) | (exfalso; simp only [marks_len] at b17; simp at b17; done) | omega | rfl | (intro hg; simp only [nrmT] at hg; omega) | (intro g1 g2; simp [g1, g2]; done) | (intro g1; simp at g1 ⊢; simp [g1]; done) | (simp only [nrmT] at *; omega) | (simp at * <;> omega) | (simp_all <;> omega) | (simp_all; done)
                  · intro b18
                    refine ⟨?_, ?_, ?_, ?_⟩
                    · simp only [marks_len]
                    · refine l_heldIntS_pc (marks 1 (lsL aSites aClients aR).length) 1 ?_ ?_ ?_
                      · first | omega | rfl | (intro hg; simp only [nrmT] at hg; omega) | (intro g1 g2; simp [g1, g2]; done) | (intro g1; simp at g1 ⊢; simp [g1]; done) | (simp only [nrmT] at *; omega) | (simp at * <;> omega) | (simp_all <;> omega) | (simp_all; done)
                      · simp only [marks_len]
                      · simp only [marks_len]
                        have := @lsL_len aSites aClients aR
                        omega
                    · intro b19
                      try simp only [nrmT] at b19
                      first | (exfalso; simp only [marks_len] at b19; omega) | (simp at b19; done) | (exfalso; simp only [marks_len] at b19; simp at b19; done) | omega | rfl | (intro hg; simp only [nrmT] at hg; omega) | (intro g1 g2; simp [g1, g2]; done) | (intro g1; simp at g1 ⊢; simp [g1]; done) | (simp only [nrmT] at *; omega) | (simp at * <;> omega) | (simp_all <;> omega) | (simp_all; done)
                    · intro b20
                      try simp only [nrmT] at b20
                      refine ⟨?_, ?_⟩
                      · intro b21
                        try simp only [nrmT] at b21
                        first | (exfalso; simp only [marks_len] at b21; omega) | (simp at b21; done) | (exfalso; simp only [marks_len] at b21; simp at b21; done) | omega | rfl | (intro hg; simp only [nrmT] at hg; omega) | (intro g1 g2; simp [g1, g2]; done) | (intro g1; simp at g1 ⊢; simp [g1]; done) | (simp only [nrmT] at *; omega) | (simp at * <;> omega) | (simp_all <;> omega) | (simp_all; done)
                      · intro b22
                        try simp only [nrmT] at b22
                        exact rfl
theorem l_FnExactLineSites_pc (aSites : List Int) (aClients : List Int) (aR : Int)  : PC Try.prog 3 [.sl (.ints aSites), .sl (.ints aClients), .int .i64 aR] (.one (.d (.bool true))) :=
  pc_wf @Try.call3 fun hw => pc_by (by kernel_rfl) Try.func3 @Try.call3 (by kernel_rfl) l_FnExactLineSites_C (l_FnExactLineSites_A aSites aClients aR) (by kernel_rfl) (l_FnExactLineSites_vc aSites aClients aR hw.1 hw.2.1) (by kernel_rfl)
end Go.Proofs.Ytmmoejdglnnmcaa
