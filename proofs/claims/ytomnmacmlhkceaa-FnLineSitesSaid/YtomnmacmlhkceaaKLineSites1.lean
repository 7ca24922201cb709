/- Contracts of the functions that the law reaches. -/
import Derived.Test.YtomnmacmlhkceaaPw
import Derived.Test.YtomnmacmlhkceaaPma
import Derived.Test.YtomnmacmlhkceaaPua
import Derived.Test.YtomnmacmlhkceaaSh
import Derived.Test.YtomnmacmlhkceaaProg
import Derived.KernelRfl
set_option linter.unusedVariables false
set_option linter.unusedSimpArgs false
namespace Go.Proofs.Ytomnmacmlhkceaa
open Go

def s_l1In_C (f : FuncId) (ds : List D) : Orc := .no
def s_l1In_A (x : Int) (a : Int) (b : Int) : Ann := .none
def s_l1In_P (x : Int) (a : Int) (b : Int) : Prop :=
  ((decide (x ≥ a)) = true → (decide (x ≥ a)) = true) ∧ ((decide (x ≥ a)) = true → (decide (x ≥ a)) = true) ∧ (true = true) ∧ (((decide (x ≥ a)) = true → (decide (x ≥ a)) = true)) ∧ (((decide (x ≥ a)) = false → true = true)) ∧ (((cond (decide (x ≥ a)) (decide (x ≤ b)) false) = (inB x a b)))
theorem s_l1In_vc (x : Int) (a : Int) (b : Int)   : s_l1In_P x a b := by
  unfold s_l1In_P
  refine ⟨id, id, rfl, id, fun _ => rfl, ?_⟩
  · first | omega | rfl | (intro hg; simp only [nrmT] at hg; omega) | (intro g1 g2; simp [g1, g2]; done) | (intro g1; simp at g1 ⊢; simp [g1]; done) | (simp only [nrmT] at *; omega) | (simp at * <;> omega) | (simp_all <;> omega) | (simp_all; done) | (simp [inB]; omega) | (simp only [inB]; by_cases h : a ≤ x <;> simp_all)
theorem s_l1In_pc (x : Int) (a : Int) (b : Int)  : PC Try.prog 116 [.int .i64 x, .int .i64 a, .int .i64 b] (.one (.d (.bool (inB x a b)))) :=
  pc_wf @Try.call116 fun _ => pc_by (by kernel_rfl) Try.func116 @Try.call116 (by kernel_rfl) s_l1In_C (s_l1In_A x a b) (by kernel_rfl) (s_l1In_vc x a b) (by kernel_rfl)
def s_l1In_orc : List D → Orc := orcN [none, none, none] fun ds => match ds with
  | [.int .i64 x, .int .i64 a, .int .i64 b] => some (.one (.d (.bool (inB x a b))))
  | _ => none
def i_between_C (f : FuncId) (ds : List D) : Orc := .no
def i_between_A (x : Int) (a : Int) (b : Int) : Ann := .none
def i_between_P (x : Int) (a : Int) (b : Int) : Prop :=
  ((decide (x ≥ a)) = true → (decide (x ≥ a)) = true) ∧ ((decide (x ≥ a)) = true → (decide (x ≥ a)) = true) ∧ (true = true) ∧ (((decide (x ≥ a)) = true → (decide (x ≥ a)) = true)) ∧ (((decide (x ≥ a)) = false → true = true)) ∧ (((cond (decide (x ≥ a)) (decide (x ≤ b)) false) = (inB x a b)))
theorem i_between_vc (x : Int) (a : Int) (b : Int)   : i_between_P x a b := by
  unfold i_between_P
  refine ⟨id, id, rfl, id, fun _ => rfl, ?_⟩
  · first | omega | rfl | (intro hg; simp only [nrmT] at hg; omega) | (intro g1 g2; simp [g1, g2]; done) | (intro g1; simp at g1 ⊢; simp [g1]; done) | (simp only [nrmT] at *; omega) | (simp at * <;> omega) | (simp_all <;> omega) | (simp_all; done) | (simp [inB]; omega) | (simp only [inB]; by_cases h : a ≤ x <;> simp_all)
theorem i_between_pc (x : Int) (a : Int) (b : Int)  : PC Try.prog 120 [.int .i64 x, .int .i64 a, .int .i64 b] (.one (.d (.bool (inB x a b)))) :=
  pc_wf @Try.call120 fun _ => pc_by (by kernel_rfl) Try.func120 @Try.call120 (by kernel_rfl) i_between_C (i_between_A x a b) (by kernel_rfl) (i_between_vc x a b) (by kernel_rfl)
def i_between_orc : List D → Orc := orcN [none, none, none] fun ds => match ds with
  | [.int .i64 x, .int .i64 a, .int .i64 b] => some (.one (.d (.bool (inB x a b))))
  | _ => none
def risingP (xs : List Int) (lo hi : Int) (k : Nat) : Bool := inB (xs.getD k 0) lo hi && (decide (k = 0) || decide (xs.getD (k - 1) 0 < xs.getD k 0))
def rising (xs : List Int) (lo hi : Int) : Bool := allTo (risingP xs lo hi) xs.length
theorem rising_step {xs : List Int} {lo hi i : Int} (h0 : 0 ≤ i) {c : Bool} (hc : (cond (!(inB (xs.getD i.toNat 0) lo hi)) true (cond (decide (i > 0)) (decide (xs.getD (i - 1).toNat 0 ≥ xs.getD i.toNat 0)) false)) = c) :
    risingP xs lo hi i.toNat = !c := by
  subst hc
  have e : (i - 1).toNat = i.toNat - 1 := by omega
  unfold risingP
  rw [e]
  cases inB (xs.getD i.toNat 0) lo hi
  · rfl
  · by_cases h : i > 0
    · have h2 : ¬ i.toNat = 0 := by omega
      simp [h, h2]
      by_cases h3 : xs[i.toNat - 1]?.getD 0 < xs[i.toNat]?.getD 0
      · simp [h3]
      · simp [h3]; omega
    · have h2 : i.toNat = 0 := by omega
      simp [h, h2]
abbrev s_l1Rising_JJ0 (xs : List Int) (lo : Int) (hi : Int) (i : Int) : Prop := (0 ≤ i) ∧ (i ≤ (xs.length : Int)) ∧ (allTo (risingP xs lo hi) i.toNat = true)
abbrev s_l1Rising_mJ0 (xs : List Int) (lo : Int) (hi : Int) (i : Int) : Nat := (xs.length - i).toNat
def s_l1Rising_C (f : FuncId) (ds : List D) : Orc := bif Nat.beq f 116 then s_l1In_orc ds else .no
def s_l1Rising_A (xs : List Int) (lo : Int) (hi : Int) : Ann := .two (.none) (.two (.two (.none) (.loop (cut1 (fun (i : Int) => s_l1Rising_JJ0 xs lo hi i) (fun (i : Int) => [(0, .d false (.sl (.ints xs))), (1, .d false (.int .i64 lo)), (2, .d false (.int .i64 hi)), (7, .d true (.int .i64 i))]) (fun (i : Int) => [])) (fun g => s_l1Rising_mJ0 xs lo hi g) (fun _ => .none))) (.none))
def s_l1Rising_P (xs : List Int) (lo : Int) (hi : Int) : Prop :=
  ((∃ i' : Int, (s_l1Rising_JJ0 xs lo hi i') ∧ (xs = xs) ∧ (lo = lo) ∧ (hi = hi) ∧ ((0 : Int) = i')) ∧ (∀ i : Int, (s_l1Rising_JJ0 xs lo hi i) → (((decide (i < (xs.length : Int))) = true → (true = true) ∧ ((0 : Int) ≤ i) ∧ ((i : Int) < xs.length) ∧ (i.toNat < xs.length) ∧ (PC Try.prog 116 [.int .i64 (xs.getD i.toNat 0), .int .i64 lo, .int .i64 hi] (.one (.d (.bool (inB (xs.getD i.toNat 0) lo hi))))) ∧ ((!(!(inB (xs.getD i.toNat 0) lo hi))) = true → (!(!(inB (xs.getD i.toNat 0) lo hi))) = true) ∧ ((!(!(inB (xs.getD i.toNat 0) lo hi))) = true → (!(!(inB (xs.getD i.toNat 0) lo hi))) = true) ∧ (((!(!(inB (xs.getD i.toNat 0) lo hi))) && (decide (i > 0))) = true → ((!(!(inB (xs.getD i.toNat 0) lo hi))) && (decide (i > 0))) = true) ∧ ((((!(!(inB (xs.getD i.toNat 0) lo hi))) && (decide (i > 0))) = true → -9223372036854775808 ≤ (i - 1) ∧ (i - 1) ≤ 9223372036854775807)) ∧ (((!(!(inB (xs.getD i.toNat 0) lo hi))) && (decide (i > 0))) = true → ((!(!(inB (xs.getD i.toNat 0) lo hi))) && (decide (i > 0))) = true) ∧ (((!(!(inB (xs.getD i.toNat 0) lo hi))) && (decide (i > 0))) = true → ((!(!(inB (xs.getD i.toNat 0) lo hi))) && (decide (i > 0))) = true) ∧ ((((!(!(inB (xs.getD i.toNat 0) lo hi))) && (decide (i > 0))) = true → (0 : Int) ≤ (i - 1))) ∧ ((((!(!(inB (xs.getD i.toNat 0) lo hi))) && (decide (i > 0))) = true → ((i - 1) : Int) < xs.length)) ∧ (((!(!(inB (xs.getD i.toNat 0) lo hi))) && (decide (i > 0))) = true → ((!(!(inB (xs.getD i.toNat 0) lo hi))) && (decide (i > 0))) = true) ∧ ((((!(!(inB (xs.getD i.toNat 0) lo hi))) && (decide (i > 0))) = true → (i - 1).toNat < xs.length)) ∧ (((!(!(inB (xs.getD i.toNat 0) lo hi))) && (decide (i > 0))) = true → ((!(!(inB (xs.getD i.toNat 0) lo hi))) && (decide (i > 0))) = true) ∧ (((!(!(inB (xs.getD i.toNat 0) lo hi))) && (decide (i > 0))) = true → ((!(!(inB (xs.getD i.toNat 0) lo hi))) && (decide (i > 0))) = true) ∧ ((((!(!(inB (xs.getD i.toNat 0) lo hi))) && (decide (i > 0))) = true → (0 : Int) ≤ i)) ∧ ((((!(!(inB (xs.getD i.toNat 0) lo hi))) && (decide (i > 0))) = true → (i : Int) < xs.length)) ∧ (((!(!(inB (xs.getD i.toNat 0) lo hi))) && (decide (i > 0))) = true → ((!(!(inB (xs.getD i.toNat 0) lo hi))) && (decide (i > 0))) = true) ∧ ((((!(!(inB (xs.getD i.toNat 0) lo hi))) && (decide (i > 0))) = true → i.toNat < xs.length)) ∧ (((!(!(inB (xs.getD i.toNat 0) lo hi))) && (decide (i > 0))) = true → ((!(!(inB (xs.getD i.toNat 0) lo hi))) && (decide (i > 0))) = true) ∧ (((!(!(inB (xs.getD i.toNat 0) lo hi))) && (decide (i > 0))) = true → ((!(!(inB (xs.getD i.toNat 0) lo hi))) && (decide (i > 0))) = true) ∧ (((!(!(inB (xs.getD i.toNat 0) lo hi))) = true → (!(!(inB (xs.getD i.toNat 0) lo hi))) = true)) ∧ (((!(!(inB (xs.getD i.toNat 0) lo hi))) = true → (decide (i > 0)) = true → ((!(!(inB (xs.getD i.toNat 0) lo hi))) && (decide (i > 0))) = true)) ∧ (((!(!(inB (xs.getD i.toNat 0) lo hi))) = true → (decide (i > 0)) = false → true = true)) ∧ (true = true) ∧ (((!(inB (xs.getD i.toNat 0) lo hi)) = true → true = true)) ∧ (((!(inB (xs.getD i.toNat 0) lo hi)) = false → (!(!(inB (xs.getD i.toNat 0) lo hi))) = true)) ∧ (((cond (!(inB (xs.getD i.toNat 0) lo hi)) true (cond (decide (i > 0)) (decide ((xs.getD ((i - 1).toNat) 0) ≥ (xs.getD i.toNat 0))) false)) = true → ((false = (rising xs lo hi)))) ∧ ((cond (!(inB (xs.getD i.toNat 0) lo hi)) true (cond (decide (i > 0)) (decide ((xs.getD ((i - 1).toNat) 0) ≥ (xs.getD i.toNat 0))) false)) = false → (-9223372036854775808 ≤ (i + 1) ∧ (i + 1) ≤ 9223372036854775807) ∧ (∃ i' : Int, (s_l1Rising_JJ0 xs lo hi i') ∧ (s_l1Rising_mJ0 xs lo hi i' < s_l1Rising_mJ0 xs lo hi i) ∧ (xs = xs) ∧ (lo = lo) ∧ (hi = hi) ∧ ((i + 1) = i'))))) ∧ ((decide (i < (xs.length : Int))) = false → ((true = (rising xs lo hi)))))))
theorem s_l1Rising_vc (xs : List Int) (lo : Int) (hi : Int)  (w_xs : (xs.length : Int) ≤ 9223372036854775807) : s_l1Rising_P xs lo hi := by
  unfold s_l1Rising_P
  refine ⟨?_, ?_⟩
  · refine ⟨0, ?_⟩
    refine ⟨?_, rfl, rfl, rfl, rfl⟩
    · refine ⟨?_, ?_, ?_⟩
      · first | omega | rfl | (intro hg; simp only [nrmT] at hg; omega) | (intro g1 g2; simp [g1, g2]; done) | (intro g1; simp at g1 ⊢; simp [g1]; done) | (simp only [nrmT] at *; omega) | (simp at * <;> omega) | (simp_all <;> omega) | (simp_all; done)
      · first | omega | rfl | (intro hg; simp only [nrmT] at hg; omega) | (intro g1 g2; simp [g1, g2]; done) | (intro g1; simp at g1 ⊢; simp [g1]; done) | (simp only [nrmT] at *; omega) | (simp at * <;> omega) | (simp_all <;> omega) | (simp_all; done)
      · first | omega | rfl | (intro hg; simp only [nrmT] at hg; omega) | (intro g1 g2; simp [g1, g2]; done) | (intro g1; simp at g1 ⊢; simp [g1]; done) | (simp only [nrmT] at *; omega) | (simp at * <;> omega) | (simp_all <;> omega) | (simp_all; done)
  · intro i hJ
    obtain ⟨h1, h2, h3⟩ := hJ
    refine ⟨?_, ?_⟩
    · intro b1
      try simp only [nrmT] at b1
      refine ⟨rfl, ?_, ?_, ?_, s_l1In_pc (xs.getD i.toNat 0) lo hi, id, id, id, ?_, id, id, ?_, ?_, id, ?_, id, id, ?_, ?_, id, ?_, id, id, id, ?_, fun _ _ => rfl, rfl, fun _ => rfl, ?_, ?_, ?_⟩
      · first | omega | rfl | (intro hg; simp only [nrmT] at hg; omega) | (intro g1 g2; simp [g1, g2]; done) | (intro g1; simp at g1 ⊢; simp [g1]; done) | (simp only [nrmT] at *; omega) | (simp at * <;> omega) | (simp_all <;> omega) | (simp_all; done)
      · first | omega | rfl | (intro hg; simp only [nrmT] at hg; omega) | (intro g1 g2; simp [g1, g2]; done) | (intro g1; simp at g1 ⊢; simp [g1]; done) | (simp only [nrmT] at *; omega) | (simp at * <;> omega) | (simp_all <;> omega) | (simp_all; done)
      · first | omega | rfl | (intro hg; simp only [nrmT] at hg; omega) | (intro g1 g2; simp [g1, g2]; done) | (intro g1; simp at g1 ⊢; simp [g1]; done) | (simp only [nrmT] at *; omega) | (simp at * <;> omega) | (simp_all <;> omega) | (simp_all; done)
      · first | omega | rfl | (intro hg; simp only [nrmT] at hg; omega) | (intro g1 g2; simp [g1, g2]; done) | (intro g1; simp at g1 ⊢; simp [g1]; done) | (simp only [nrmT] at *; omega) | (simp at * <;> omega) | (simp_all <;> omega) | (simp_all; done)
      · first | omega | rfl | (intro hg; simp only [nrmT] at hg; omega) | (intro g1 g2; simp [g1, g2]; done) | (intro g1; simp at g1 ⊢; simp [g1]; done) | (simp only [nrmT] at *; omega) | (simp at * <;> omega) | (simp_all <;> omega) | (simp_all; done)
      · first | omega | rfl | (intro hg; simp only [nrmT] at hg; omega) | (intro g1 g2; simp [g1, g2]; done) | (intro g1; simp at g1 ⊢; simp [g1]; done) | (simp only [nrmT] at *; omega) | (simp at * <;> omega) | (simp_all <;> omega) | (simp_all; done)
      · first | omega | rfl | (intro hg; simp only [nrmT] at hg; omega) | (intro g1 g2; simp [g1, g2]; done) | (intro g1; simp at g1 ⊢; simp [g1]; done) | (simp only [nrmT] at *; omega) | (simp at * <;> omega) | (simp_all <;> omega) | (simp_all; done)
      · first | omega | rfl | (intro hg; simp only [nrmT] at hg; omega) | (intro g1 g2; simp [g1, g2]; done) | (intro g1; simp at g1 ⊢; simp [g1]; done) | (simp only [nrmT] at *; omega) | (simp at * <;> omega) | (simp_all <;> omega) | (simp_all; done)
      · first | omega | rfl | (intro hg; simp only [nrmT] at hg; omega) | (intro g1 g2; simp [g1, g2]; done) | (intro g1; simp at g1 ⊢; simp [g1]; done) | (simp only [nrmT] at *; omega) | (simp at * <;> omega) | (simp_all <;> omega) | (simp_all; done)
      · first | omega | rfl | (intro hg; simp only [nrmT] at hg; omega) | (intro g1 g2; simp [g1, g2]; done) | (intro g1; simp at g1 ⊢; simp [g1]; done) | (simp only [nrmT] at *; omega) | (simp at * <;> omega) | (simp_all <;> omega) | (simp_all; done)
      · first | omega | rfl | (intro hg; simp only [nrmT] at hg; omega) | (intro g1 g2; simp [g1, g2]; done) | (intro g1; simp at g1 ⊢; simp [g1]; done) | (simp only [nrmT] at *; omega) | (simp at * <;> omega) | (simp_all <;> omega) | (simp_all; done)
      · first | omega | rfl | (intro hg; simp only [nrmT] at hg; omega) | (intro g1 g2; simp [g1, g2]; done) | (intro g1; simp at g1 ⊢; simp [g1]; done) | (simp only [nrmT] at *; omega) | (simp at * <;> omega) | (simp_all <;> omega) | (simp_all; done)
      · intro b2
        have e := rising_step h1 b2
        exact (allTo_falseI h1 (by omega) e).symm
      · intro b3
        refine ⟨?_, ?_⟩
        · first | omega | rfl | (intro hg; simp only [nrmT] at hg; omega) | (intro g1 g2; simp [g1, g2]; done) | (intro g1; simp at g1 ⊢; simp [g1]; done) | (simp only [nrmT] at *; omega) | (simp at * <;> omega) | (simp_all <;> omega) | (simp_all; done)
        · refine ⟨(i + 1), ?_⟩
          refine ⟨?_, ?_, rfl, rfl, rfl, rfl⟩
          · refine ⟨?_, ?_, ?_⟩
            · first | omega | rfl | (intro hg; simp only [nrmT] at hg; omega) | (intro g1 g2; simp [g1, g2]; done) | (intro g1; simp at g1 ⊢; simp [g1]; done) | (simp only [nrmT] at *; omega) | (simp at * <;> omega) | (simp_all <;> omega) | (simp_all; done)
            · first | omega | rfl | (intro hg; simp only [nrmT] at hg; omega) | (intro g1 g2; simp [g1, g2]; done) | (intro g1; simp at g1 ⊢; simp [g1]; done) | (simp only [nrmT] at *; omega) | (simp at * <;> omega) | (simp_all <;> omega) | (simp_all; done)
            · have e := rising_step h1 b3
              exact allTo_step h1 h3 e
          · first | (show _ < _; omega) | (simp only [s_l1Rising_mJ0]; omega) | (simp only [s_l1Rising_mJ0] at *; simp at *; omega)
    · intro b4
      try simp only [nrmT] at b4
      have e : i.toNat = xs.length := by omega
      rw [e] at h3
      exact h3.symm
theorem s_l1Rising_pc (xs : List Int) (lo : Int) (hi : Int)  : PC Try.prog 167 [.sl (.ints xs), .int .i64 lo, .int .i64 hi] (.one (.d (.bool (rising xs lo hi)))) :=
  pc_wf @Try.call167 fun hw => pc_by (by kernel_rfl) Try.func167 @Try.call167 (by kernel_rfl) s_l1Rising_C (s_l1Rising_A xs lo hi) (by kernel_rfl) (s_l1Rising_vc xs lo hi hw.1) (by kernel_rfl)
def s_l1Rising_orc : List D → Orc := orcN [some .ints, none, none] fun ds => match ds with
  | [.sl (.ints xs), .int .i64 lo, .int .i64 hi] => some (.one (.d (.bool (rising xs lo hi))))
  | _ => none
abbrev i_isRising_JJ0 (xs : List Int) (below : Int) (i : Int) : Prop := (0 ≤ i) ∧ (i ≤ (xs.length : Int)) ∧ (allTo (risingP xs 0 (below - 1)) i.toNat = true)
abbrev i_isRising_mJ0 (xs : List Int) (below : Int) (i : Int) : Nat := (xs.length - i).toNat
def i_isRising_C (f : FuncId) (ds : List D) : Orc := bif Nat.beq f 120 then i_between_orc ds else .no
def i_isRising_A (xs : List Int) (below : Int) : Ann := .two (.none) (.two (.two (.none) (.loop (cut1 (fun (i : Int) => i_isRising_JJ0 xs below i) (fun (i : Int) => [(0, .d false (.sl (.ints xs))), (1, .d false (.int .i64 below)), (7, .d false (.sl (.ints xs))), (8, .d true (.int .i64 (xs.length : Int))), (9, .d true (.int .i64 i))]) (fun (i : Int) => [])) (fun g => i_isRising_mJ0 xs below g) (fun _ => .none))) (.none))
def i_isRising_P (xs : List Int) (below : Int) : Prop :=
  ((∃ i' : Int, (i_isRising_JJ0 xs below i') ∧ (xs = xs) ∧ (below = below) ∧ (xs = xs) ∧ ((xs.length : Int) = (xs.length : Int)) ∧ ((0 : Int) = i')) ∧ (∀ i : Int, (i_isRising_JJ0 xs below i) → (((decide (i < (xs.length : Int))) = true → ((0 : Int) ≤ i) ∧ ((i : Int) < xs.length) ∧ (i.toNat < xs.length) ∧ (-9223372036854775808 ≤ (below - 1) ∧ (below - 1) ≤ 9223372036854775807) ∧ (PC Try.prog 120 [.int .i64 (xs.getD i.toNat 0), .int .i64 0, .int .i64 (below - 1)] (.one (.d (.bool (inB (xs.getD i.toNat 0) 0 (below - 1)))))) ∧ ((!(!(inB (xs.getD i.toNat 0) 0 (below - 1)))) = true → (!(!(inB (xs.getD i.toNat 0) 0 (below - 1)))) = true) ∧ ((!(!(inB (xs.getD i.toNat 0) 0 (below - 1)))) = true → (!(!(inB (xs.getD i.toNat 0) 0 (below - 1)))) = true) ∧ (((!(!(inB (xs.getD i.toNat 0) 0 (below - 1)))) && (decide (i > 0))) = true → ((!(!(inB (xs.getD i.toNat 0) 0 (below - 1)))) && (decide (i > 0))) = true) ∧ ((((!(!(inB (xs.getD i.toNat 0) 0 (below - 1)))) && (decide (i > 0))) = true → -9223372036854775808 ≤ (i - 1) ∧ (i - 1) ≤ 9223372036854775807)) ∧ (((!(!(inB (xs.getD i.toNat 0) 0 (below - 1)))) && (decide (i > 0))) = true → ((!(!(inB (xs.getD i.toNat 0) 0 (below - 1)))) && (decide (i > 0))) = true) ∧ (((!(!(inB (xs.getD i.toNat 0) 0 (below - 1)))) && (decide (i > 0))) = true → ((!(!(inB (xs.getD i.toNat 0) 0 (below - 1)))) && (decide (i > 0))) = true) ∧ ((((!(!(inB (xs.getD i.toNat 0) 0 (below - 1)))) && (decide (i > 0))) = true → (0 : Int) ≤ (i - 1))) ∧ ((((!(!(inB (xs.getD i.toNat 0) 0 (below - 1)))) && (decide (i > 0))) = true → ((i - 1) : Int) < xs.length)) ∧ (((!(!(inB (xs.getD i.toNat 0) 0 (below - 1)))) && (decide (i > 0))) = true → ((!(!(inB (xs.getD i.toNat 0) 0 (below - 1)))) && (decide (i > 0))) = true) ∧ ((((!(!(inB (xs.getD i.toNat 0) 0 (below - 1)))) && (decide (i > 0))) = true → (i - 1).toNat < xs.length)) ∧ (((!(!(inB (xs.getD i.toNat 0) 0 (below - 1)))) && (decide (i > 0))) = true → ((!(!(inB (xs.getD i.toNat 0) 0 (below - 1)))) && (decide (i > 0))) = true) ∧ (((!(!(inB (xs.getD i.toNat 0) 0 (below - 1)))) && (decide (i > 0))) = true → ((!(!(inB (xs.getD i.toNat 0) 0 (below - 1)))) && (decide (i > 0))) = true) ∧ (((!(!(inB (xs.getD i.toNat 0) 0 (below - 1)))) = true → (!(!(inB (xs.getD i.toNat 0) 0 (below - 1)))) = true)) ∧ (((!(!(inB (xs.getD i.toNat 0) 0 (below - 1)))) = true → (decide (i > 0)) = true → ((!(!(inB (xs.getD i.toNat 0) 0 (below - 1)))) && (decide (i > 0))) = true)) ∧ (((!(!(inB (xs.getD i.toNat 0) 0 (below - 1)))) = true → (decide (i > 0)) = false → true = true)) ∧ (true = true) ∧ (((!(inB (xs.getD i.toNat 0) 0 (below - 1))) = true → true = true)) ∧ (((!(inB (xs.getD i.toNat 0) 0 (below - 1))) = false → (!(!(inB (xs.getD i.toNat 0) 0 (below - 1)))) = true)) ∧ (((cond (!(inB (xs.getD i.toNat 0) 0 (below - 1))) true (cond (decide (i > 0)) (decide ((xs.getD i.toNat 0) ≤ (xs.getD ((i - 1).toNat) 0))) false)) = true → ((false = (rising xs 0 (below - 1))))) ∧ ((cond (!(inB (xs.getD i.toNat 0) 0 (below - 1))) true (cond (decide (i > 0)) (decide ((xs.getD i.toNat 0) ≤ (xs.getD ((i - 1).toNat) 0))) false)) = false → (-9223372036854775808 ≤ (i + 1) ∧ (i + 1) ≤ 9223372036854775807) ∧ (∃ i' : Int, (i_isRising_JJ0 xs below i') ∧ (i_isRising_mJ0 xs below i' < i_isRising_mJ0 xs below i) ∧ (xs = xs) ∧ (below = below) ∧ (xs = xs) ∧ ((xs.length : Int) = (xs.length : Int)) ∧ ((i + 1) = i'))))) ∧ ((decide (i < (xs.length : Int))) = false → ((true = (rising xs 0 (below - 1))))))))
theorem i_isRising_vc (xs : List Int) (below : Int) (hb : -9223372036854775808 < below ∧ below ≤ 9223372036854775807) (w_xs : (xs.length : Int) ≤ 9223372036854775807) : i_isRising_P xs below := by
  unfold i_isRising_P
  refine ⟨?_, ?_⟩
  · refine ⟨0, ?_⟩
    refine ⟨?_, rfl, rfl, rfl, rfl, rfl⟩
    · refine ⟨?_, ?_, ?_⟩
      · first | omega | rfl | (intro hg; simp only [nrmT] at hg; omega) | (intro g1 g2; simp [g1, g2]; done) | (intro g1; simp at g1 ⊢; simp [g1]; done) | (simp only [nrmT] at *; omega) | (simp at * <;> omega) | (simp_all <;> omega) | (simp_all; done)
      · first | omega | rfl | (intro hg; simp only [nrmT] at hg; omega) | (intro g1 g2; simp [g1, g2]; done) | (intro g1; simp at g1 ⊢; simp [g1]; done) | (simp only [nrmT] at *; omega) | (simp at * <;> omega) | (simp_all <;> omega) | (simp_all; done)
      · first | omega | rfl | (intro hg; simp only [nrmT] at hg; omega) | (intro g1 g2; simp [g1, g2]; done) | (intro g1; simp at g1 ⊢; simp [g1]; done) | (simp only [nrmT] at *; omega) | (simp at * <;> omega) | (simp_all <;> omega) | (simp_all; done)
  · intro i hJ
    obtain ⟨h1, h2, h3⟩ := hJ
    refine ⟨?_, ?_⟩
    · intro b1
      try simp only [nrmT] at b1
      refine ⟨?_, ?_, ?_, ?_, i_between_pc (xs.getD i.toNat 0) 0 (below - 1), id, id, id, ?_, id, id, ?_, ?_, id, ?_, id, id, id, ?_, fun _ _ => rfl, rfl, fun _ => rfl, ?_, ?_, ?_⟩
      · first | omega | rfl | (intro hg; simp only [nrmT] at hg; omega) | (intro g1 g2; simp [g1, g2]; done) | (intro g1; simp at g1 ⊢; simp [g1]; done) | (simp only [nrmT] at *; omega) | (simp at * <;> omega) | (simp_all <;> omega) | (simp_all; done)
      · first | omega | rfl | (intro hg; simp only [nrmT] at hg; omega) | (intro g1 g2; simp [g1, g2]; done) | (intro g1; simp at g1 ⊢; simp [g1]; done) | (simp only [nrmT] at *; omega) | (simp at * <;> omega) | (simp_all <;> omega) | (simp_all; done)
      · first | omega | rfl | (intro hg; simp only [nrmT] at hg; omega) | (intro g1 g2; simp [g1, g2]; done) | (intro g1; simp at g1 ⊢; simp [g1]; done) | (simp only [nrmT] at *; omega) | (simp at * <;> omega) | (simp_all <;> omega) | (simp_all; done)
      · first | omega | rfl | (intro hg; simp only [nrmT] at hg; omega) | (intro g1 g2; simp [g1, g2]; done) | (intro g1; simp at g1 ⊢; simp [g1]; done) | (simp only [nrmT] at *; omega) | (simp at * <;> omega) | (simp_all <;> omega) | (simp_all; done)
      · first | omega | rfl | (intro hg; simp only [nrmT] at hg; omega) | (intro g1 g2; simp [g1, g2]; done) | (intro g1; simp at g1 ⊢; simp [g1]; done) | (simp only [nrmT] at *; omega) | (simp at * <;> omega) | (simp_all <;> omega) | (simp_all; done)
      · first | omega | rfl | (intro hg; simp only [nrmT] at hg; omega) | (intro g1 g2; simp [g1, g2]; done) | (intro g1; simp at g1 ⊢; simp [g1]; done) | (simp only [nrmT] at *; omega) | (simp at * <;> omega) | (simp_all <;> omega) | (simp_all; done)
      · first | omega | rfl | (intro hg; simp only [nrmT] at hg; omega) | (intro g1 g2; simp [g1, g2]; done) | (intro g1; simp at g1 ⊢; simp [g1]; done) | (simp only [nrmT] at *; omega) | (simp at * <;> omega) | (simp_all <;> omega) | (simp_all; done)
      · first | omega | rfl | (intro hg; simp only [nrmT] at hg; omega) | (intro g1 g2; simp [g1, g2]; done) | (intro g1; simp at g1 ⊢; simp [g1]; done) | (simp only [nrmT] at *; omega) | (simp at * <;> omega) | (simp_all <;> omega) | (simp_all; done)
      · first | omega | rfl | (intro hg; simp only [nrmT] at hg; omega) | (intro g1 g2; simp [g1, g2]; done) | (intro g1; simp at g1 ⊢; simp [g1]; done) | (simp only [nrmT] at *; omega) | (simp at * <;> omega) | (simp_all <;> omega) | (simp_all; done)
      · first | omega | rfl | (intro hg; simp only [nrmT] at hg; omega) | (intro g1 g2; simp [g1, g2]; done) | (intro g1; simp at g1 ⊢; simp [g1]; done) | (simp only [nrmT] at *; omega) | (simp at * <;> omega) | (simp_all <;> omega) | (simp_all; done)
      · intro b2
        have e := rising_step h1 b2
        exact (allTo_falseI h1 (by omega) e).symm
      · intro b3
        refine ⟨?_, ?_⟩
        · first | omega | rfl | (intro hg; simp only [nrmT] at hg; omega) | (intro g1 g2; simp [g1, g2]; done) | (intro g1; simp at g1 ⊢; simp [g1]; done) | (simp only [nrmT] at *; omega) | (simp at * <;> omega) | (simp_all <;> omega) | (simp_all; done)
        · refine ⟨(i + 1), ?_⟩
          refine ⟨?_, ?_, rfl, rfl, rfl, rfl, rfl⟩
          · refine ⟨?_, ?_, ?_⟩
            · first | omega | rfl | (intro hg; simp only [nrmT] at hg; omega) | (intro g1 g2; simp [g1, g2]; done) | (intro g1; simp at g1 ⊢; simp [g1]; done) | (simp only [nrmT] at *; omega) | (simp at * <;> omega) | (simp_all <;> omega) | (simp_all; done)
            · first | omega | rfl | (intro hg; simp only [nrmT] at hg; omega) | (intro g1 g2; simp [g1, g2]; done) | (intro g1; simp at g1 ⊢; simp [g1]; done) | (simp only [nrmT] at *; omega) | (simp at * <;> omega) | (simp_all <;> omega) | (simp_all; done)
            · have e := rising_step h1 b3
              exact allTo_step h1 h3 e
          · first | (show _ < _; omega) | (simp only [i_isRising_mJ0]; omega) | (simp only [i_isRising_mJ0] at *; simp at *; omega)
    · intro b4
      try simp only [nrmT] at b4
      have e : i.toNat = xs.length := by omega
      rw [e] at h3
      exact h3.symm
theorem i_isRising_pc (xs : List Int) (below : Int) (hb : -9223372036854775808 < below ∧ below ≤ 9223372036854775807) : PC Try.prog 130 [.sl (.ints xs), .int .i64 below] (.one (.d (.bool (rising xs 0 (below - 1))))) :=
  pc_wf @Try.call130 fun hw => pc_by (by kernel_rfl) Try.func130 @Try.call130 (by kernel_rfl) i_isRising_C (i_isRising_A xs below) (by kernel_rfl) (i_isRising_vc xs below hb hw.1) (by kernel_rfl)
def i_isRising_orc : List D → Orc := orcN [some .ints, none] fun ds => match ds with
  | [.sl (.ints xs), .int .i64 below] => some (.one (.d (.bool (rising xs 0 (below - 1)))))
  | _ => none
theorem len_le (m n : Nat) : decide ((m : Int) ≤ (n : Int)) = decide (m ≤ n) := by
  rw [Bool.eq_iff_iff]; simp only [decide_eq_true_eq]; omega
theorem all_end {α : Type} {p : α → Bool} {d : α} {xs : List α} {i : Int} (h2 : (xs.length : Int) ≤ i) (h2' : i ≤ (xs.length : Int)) (h3 : allTo (fun k => p (xs.getD k d)) i.toNat = true) : xs.all p = true := by
  have e : i.toNat = xs.length := by omega
  rw [e, allTo_list] at h3; exact h3
theorem all_no {α : Type} {p : α → Bool} {d : α} {xs : List α} {i : Int} (h0 : 0 ≤ i) (h : i < (xs.length : Int)) (h3 : p (xs.getD i.toNat d) = false) : xs.all p = false := by
  rw [← allTo_list (d := d)]; exact allTo_falseI h0 h h3
theorem inB_le {x lo hi : Int} (h : inB x lo hi = true) : lo ≤ x ∧ x ≤ hi := of_decide_eq_true h
def i_areBetween_1_C (f : FuncId) (ds : List D) : Orc := bif Nat.beq f 120 then i_between_orc ds else .no
def i_areBetween_1_A (x : Int) (lo : Int) (hi : Int) : Ann := .none
def i_areBetween_1_P (x : Int) (lo : Int) (hi : Int) : Prop :=
  (PC Try.prog 120 [.int .i64 x, .int .i64 lo, .int .i64 hi] (.one (.d (.bool (inB x lo hi))))) ∧ (((!(inB x lo hi)) = (!(inB x lo hi))))
theorem i_areBetween_1_vc (x : Int) (lo : Int) (hi : Int)   : i_areBetween_1_P x lo hi := by
  unfold i_areBetween_1_P
  refine ⟨i_between_pc x lo hi, rfl⟩
theorem i_areBetween_1_pc (x : Int) (lo : Int) (hi : Int)  : PC Try.prog 205 [.int .i64 x, .bx [.int .i64 lo] 0, .bx [.int .i64 hi] 0] (.one (.d (.bool (!(inB x lo hi))))) :=
  pc_wf @Try.call205 fun _ => pc_by (by kernel_rfl) Try.func205 @Try.call205 (by kernel_rfl) i_areBetween_1_C (i_areBetween_1_A x lo hi) (by kernel_rfl) (i_areBetween_1_vc x lo hi) (by kernel_rfl)
def i_areBetween_1_orc : List D → Orc := orcN [none, none, none] fun ds => match ds with
  | [.int .i64 x, .bx [.int .i64 lo] 0, .bx [.int .i64 hi] 0] => some (.one (.d (.bool (!(inB x lo hi)))))
  | _ => none
abbrev slices_IndexFunc_int_int_aB_JJ0 (xs : List Int) (lo : Int) (hi : Int) (i : Int) : Prop := (0 ≤ i) ∧ (i ≤ (xs.length : Int)) ∧ (∀ k, k < i.toNat → (fun x => !(inB x lo hi)) (xs.getD k 0) = false)
abbrev slices_IndexFunc_int_int_aB_mJ0 (xs : List Int) (lo : Int) (hi : Int) (i : Int) : Nat := (xs.length - i).toNat
def slices_IndexFunc_int_int_aB_C (f : FuncId) (ds : List D) : Orc := bif Nat.beq f 205 then i_areBetween_1_orc ds else .no
def slices_IndexFunc_int_int_aB_A (xs : List Int) (lo : Int) (hi : Int) : Ann := .two (.none) (.two (.two (.none) (.loop (cut1 (fun (i : Int) => slices_IndexFunc_int_int_aB_JJ0 xs lo hi i) (fun (i : Int) => [(0, .d false (.sl (.ints xs))), (1, .d false (.fn 205 0 [.bx [.int .i64 lo] 0, .bx [.int .i64 hi] 0])), (7, .d true (.int .i64 (xs.length : Int))), (8, .d true (.int .i64 i))]) (fun (i : Int) => [])) (fun g => slices_IndexFunc_int_int_aB_mJ0 xs lo hi g) (fun _ => .none))) (.none))
def slices_IndexFunc_int_int_aB_P (xs : List Int) (lo : Int) (hi : Int) : Prop :=
  ((∃ i' : Int, (slices_IndexFunc_int_int_aB_JJ0 xs lo hi i') ∧ (xs = xs) ∧ ((.fn 205 0 [.bx [.int .i64 lo] 0, .bx [.int .i64 hi] 0] : D) = (.fn 205 0 [.bx [.int .i64 lo] 0, .bx [.int .i64 hi] 0] : D)) ∧ ((xs.length : Int) = (xs.length : Int)) ∧ ((0 : Int) = i')) ∧ (∀ i : Int, (slices_IndexFunc_int_int_aB_JJ0 xs lo hi i) → (((decide (i < (xs.length : Int))) = true → ((0 : Int) ≤ i) ∧ ((i : Int) < xs.length) ∧ (i.toNat < xs.length) ∧ (PC Try.prog 205 [.int .i64 (xs.getD i.toNat 0), .bx [.int .i64 lo] 0, .bx [.int .i64 hi] 0] (.one (.d (.bool (!(inB (xs.getD i.toNat 0) lo hi)))))) ∧ (((!(inB (xs.getD i.toNat 0) lo hi)) = true → ((i = (idxI (fun x => !(inB x lo hi)) xs)))) ∧ ((!(inB (xs.getD i.toNat 0) lo hi)) = false → (-9223372036854775808 ≤ (i + 1) ∧ (i + 1) ≤ 9223372036854775807) ∧ (∃ i' : Int, (slices_IndexFunc_int_int_aB_JJ0 xs lo hi i') ∧ (slices_IndexFunc_int_int_aB_mJ0 xs lo hi i' < slices_IndexFunc_int_int_aB_mJ0 xs lo hi i) ∧ (xs = xs) ∧ ((.fn 205 0 [.bx [.int .i64 lo] 0, .bx [.int .i64 hi] 0] : D) = (.fn 205 0 [.bx [.int .i64 lo] 0, .bx [.int .i64 hi] 0] : D)) ∧ ((xs.length : Int) = (xs.length : Int)) ∧ ((i + 1) = i'))))) ∧ ((decide (i < (xs.length : Int))) = false → ((((-1) : Int) = (idxI (fun x => !(inB x lo hi)) xs)))))))
theorem slices_IndexFunc_int_int_aB_vc (xs : List Int) (lo : Int) (hi : Int)  (w_xs : (xs.length : Int) ≤ 9223372036854775807) : slices_IndexFunc_int_int_aB_P xs lo hi := by
  unfold slices_IndexFunc_int_int_aB_P
  refine ⟨?_, ?_⟩
  · refine ⟨0, ?_⟩
    refine ⟨?_, rfl, rfl, rfl, rfl⟩
    · refine ⟨?_, ?_, ?_⟩
      · first | omega | rfl | (intro hg; simp only [nrmT] at hg; omega) | (intro g1 g2; simp [g1, g2]; done) | (intro g1; simp at g1 ⊢; simp [g1]; done) | (simp only [nrmT] at *; omega) | (simp at * <;> omega) | (simp_all <;> omega) | (simp_all; done)
      · first | omega | rfl | (intro hg; simp only [nrmT] at hg; omega) | (intro g1 g2; simp [g1, g2]; done) | (intro g1; simp at g1 ⊢; simp [g1]; done) | (simp only [nrmT] at *; omega) | (simp at * <;> omega) | (simp_all <;> omega) | (simp_all; done)
      · first | omega | rfl | (intro hg; simp only [nrmT] at hg; omega) | (intro g1 g2; simp [g1, g2]; done) | (intro g1; simp at g1 ⊢; simp [g1]; done) | (simp only [nrmT] at *; omega) | (simp at * <;> omega) | (simp_all <;> omega) | (simp_all; done)
  · intro i hJ
    obtain ⟨h1, h2, h3⟩ := hJ
    refine ⟨?_, ?_⟩
    · intro b1
      try simp only [nrmT] at b1
      refine ⟨?_, ?_, ?_, i_areBetween_1_pc (xs.getD i.toNat 0) lo hi, ?_, ?_⟩
      · first | omega | rfl | (intro hg; simp only [nrmT] at hg; omega) | (intro g1 g2; simp [g1, g2]; done) | (intro g1; simp at g1 ⊢; simp [g1]; done) | (simp only [nrmT] at *; omega) | (simp at * <;> omega) | (simp_all <;> omega) | (simp_all; done)
      · first | omega | rfl | (intro hg; simp only [nrmT] at hg; omega) | (intro g1 g2; simp [g1, g2]; done) | (intro g1; simp at g1 ⊢; simp [g1]; done) | (simp only [nrmT] at *; omega) | (simp at * <;> omega) | (simp_all <;> omega) | (simp_all; done)
      · first | omega | rfl | (intro hg; simp only [nrmT] at hg; omega) | (intro g1 g2; simp [g1, g2]; done) | (intro g1; simp at g1 ⊢; simp [g1]; done) | (simp only [nrmT] at *; omega) | (simp at * <;> omega) | (simp_all <;> omega) | (simp_all; done)
      · intro b2
        try simp only [nrmT] at b2
        exact idx_found (p := fun x => !(inB x lo hi)) h1 b1 h3 (by simpa using b2)
      · intro b3
        try simp only [nrmT] at b3
        refine ⟨?_, ?_⟩
        · first | omega | rfl | (intro hg; simp only [nrmT] at hg; omega) | (intro g1 g2; simp [g1, g2]; done) | (intro g1; simp at g1 ⊢; simp [g1]; done) | (simp only [nrmT] at *; omega) | (simp at * <;> omega) | (simp_all <;> omega) | (simp_all; done)
        · refine ⟨(i + 1), ?_⟩
          refine ⟨?_, ?_, rfl, rfl, rfl, rfl⟩
          · refine ⟨?_, ?_, ?_⟩
            · first | omega | rfl | (intro hg; simp only [nrmT] at hg; omega) | (intro g1 g2; simp [g1, g2]; done) | (intro g1; simp at g1 ⊢; simp [g1]; done) | (simp only [nrmT] at *; omega) | (simp at * <;> omega) | (simp_all <;> omega) | (simp_all; done)
            · first | omega | rfl | (intro hg; simp only [nrmT] at hg; omega) | (intro g1 g2; simp [g1, g2]; done) | (intro g1; simp at g1 ⊢; simp [g1]; done) | (simp only [nrmT] at *; omega) | (simp at * <;> omega) | (simp_all <;> omega) | (simp_all; done)
            · exact idx_step (p := fun x => !(inB x lo hi)) h1 h3 (by simpa using b3)
          · first | (show _ < _; omega) | (simp only [slices_IndexFunc_int_int_aB_mJ0]; omega) | (simp only [slices_IndexFunc_int_int_aB_mJ0] at *; simp at *; omega)
    · intro b4
      try simp only [nrmT] at b4
      exact (idx_none (by omega) h3).symm
theorem slices_IndexFunc_int_int_aB_pc (xs : List Int) (lo : Int) (hi : Int)  : PC Try.prog 204 [.sl (.ints xs), .fn 205 0 [.bx [.int .i64 lo] 0, .bx [.int .i64 hi] 0]] (.one (.d (.int .i64 (idxI (fun x => !(inB x lo hi)) xs)))) :=
  pc_wf @Try.call204 fun hw => pc_by (by kernel_rfl) Try.func204 @Try.call204 (by kernel_rfl) slices_IndexFunc_int_int_aB_C (slices_IndexFunc_int_int_aB_A xs lo hi) (by kernel_rfl) (slices_IndexFunc_int_int_aB_vc xs lo hi hw.1) (by kernel_rfl)
def slices_IndexFunc_int_int_aB_orc : List D → Orc := orcN [some .ints, none] fun ds => match ds with
  | [.sl (.ints xs), .fn f0 0 [.bx [.int .i64 lo] 0, .bx [.int .i64 hi] 0]] => bif Nat.beq f0 205 then some (.one (.d (.int .i64 (idxI (fun x => !(inB x lo hi)) xs)))) else none
  | _ => none
def slices_ContainsFunc_int_int_aB_C (f : FuncId) (ds : List D) : Orc := bif Nat.beq f 204 then slices_IndexFunc_int_int_aB_orc ds else .no
def slices_ContainsFunc_int_int_aB_A (xs : List Int) (lo : Int) (hi : Int) : Ann := .none
def slices_ContainsFunc_int_int_aB_P (xs : List Int) (lo : Int) (hi : Int) : Prop :=
  (PC Try.prog 204 [.sl (.ints xs), .fn 205 0 [.bx [.int .i64 lo] 0, .bx [.int .i64 hi] 0]] (.one (.d (.int .i64 (idxI (fun x => !(inB x lo hi)) xs))))) ∧ (((decide ((idxI (fun x => !(inB x lo hi)) xs) ≥ 0)) = (xs.any (fun x => !(inB x lo hi)))))
theorem slices_ContainsFunc_int_int_aB_vc (xs : List Int) (lo : Int) (hi : Int)  (w_xs : (xs.length : Int) ≤ 9223372036854775807) : slices_ContainsFunc_int_int_aB_P xs lo hi := by
  unfold slices_ContainsFunc_int_int_aB_P
  refine ⟨slices_IndexFunc_int_int_aB_pc xs lo hi, ?_⟩
  · exact idx_any _ _
theorem slices_ContainsFunc_int_int_aB_pc (xs : List Int) (lo : Int) (hi : Int)  : PC Try.prog 127 [.sl (.ints xs), .fn 205 0 [.bx [.int .i64 lo] 0, .bx [.int .i64 hi] 0]] (.one (.d (.bool (xs.any (fun x => !(inB x lo hi)))))) :=
  pc_wf @Try.call127 fun hw => pc_by (by kernel_rfl) Try.func127 @Try.call127 (by kernel_rfl) slices_ContainsFunc_int_int_aB_C (slices_ContainsFunc_int_int_aB_A xs lo hi) (by kernel_rfl) (slices_ContainsFunc_int_int_aB_vc xs lo hi hw.1) (by kernel_rfl)
def slices_ContainsFunc_int_int_aB_orc : List D → Orc := orcN [some .ints, none] fun ds => match ds with
  | [.sl (.ints xs), .fn f0 0 [.bx [.int .i64 lo] 0, .bx [.int .i64 hi] 0]] => bif Nat.beq f0 205 then some (.one (.d (.bool (xs.any (fun x => !(inB x lo hi)))))) else none
  | _ => none
def i_areBetween_C (f : FuncId) (ds : List D) : Orc := bif Nat.beq f 127 then slices_ContainsFunc_int_int_aB_orc ds else .no
def i_areBetween_A (xs : List Int) (lo : Int) (hi : Int) : Ann := .none
def i_areBetween_P (xs : List Int) (lo : Int) (hi : Int) : Prop :=
  (PC Try.prog 127 [.sl (.ints xs), .fn 205 0 [.bx [.int .i64 lo] 0, .bx [.int .i64 hi] 0]] (.one (.d (.bool (xs.any (fun x => !(inB x lo hi))))))) ∧ (((!(xs.any (fun x => !(inB x lo hi)))) = (xs.all (fun x => inB x lo hi))))
theorem i_areBetween_vc (xs : List Int) (lo : Int) (hi : Int)  (w_xs : (xs.length : Int) ≤ 9223372036854775807) : i_areBetween_P xs lo hi := by
  unfold i_areBetween_P
  refine ⟨slices_ContainsFunc_int_int_aB_pc xs lo hi, ?_⟩
  · exact any_not _ _
theorem i_areBetween_pc (xs : List Int) (lo : Int) (hi : Int)  : PC Try.prog 131 [.sl (.ints xs), .int .i64 lo, .int .i64 hi] (.one (.d (.bool (xs.all (fun x => inB x lo hi))))) :=
  pc_wf @Try.call131 fun hw => pc_by (by kernel_rfl) Try.func131 @Try.call131 (by kernel_rfl) i_areBetween_C (i_areBetween_A xs lo hi) (by kernel_rfl) (i_areBetween_vc xs lo hi hw.1) (by kernel_rfl)
def i_areBetween_orc : List D → Orc := orcN [some .ints, none, none] fun ds => match ds with
  | [.sl (.ints xs), .int .i64 lo, .int .i64 hi] => some (.one (.d (.bool (xs.all (fun x => inB x lo hi)))))
  | _ => none
theorem beq_of_all {α : Type} [BEq α] [LawfulBEq α] {d : α} {xs ys : List α} (hl : xs.length = ys.length) : allTo (fun k => xs.getD k d == ys.getD k d) xs.length = (xs == ys) := by
  rw [Bool.eq_iff_iff, allTo_iff]
  simp only [beq_iff_eq]
  constructor
  · intro h
    refine List.ext_getElem hl fun k h1 h2 => ?_
    have := h k h1
    simpa [h1, h2] using this
  · intro h k _
    rw [h]
theorem len_ne {α : Type} [BEq α] [LawfulBEq α] {xs ys : List α} (h : ¬ xs.length = ys.length) : (xs == ys) = false := by
  rw [Bool.eq_false_iff]; intro h2; simp only [beq_iff_eq] at h2; exact h (by rw [h2])
def rowOk (row : List Int) (n most : Int) : Bool := row.all (fun x => inB x 0 most) && decide ((row.length : Int) = n)
def goodField (Open : List Int) (Dist : List (List Int)) : Bool :=
  inB (Open.length : Int) 1 7 && Open.all (fun x => inB x 0 99) && decide (Dist.length ≤ 7) && Dist.all (fun l => rowOk l (Open.length : Int) 99)
theorem gf_open {Open : List Int} {Dist : List (List Int)} (h : goodField Open Dist = true) : 1 ≤ Open.length ∧ Open.length ≤ 7 ∧ Dist.length ≤ 7 := by
  simp only [goodField, Bool.and_eq_true, decide_eq_true_eq] at h
  have := inB_le h.1.1.1
  omega
theorem gf_row {Open : List Int} {Dist : List (List Int)} (h : goodField Open Dist = true) {i : Nat} (hi : i < Dist.length) : (Dist.getD i []).length = Open.length ∧ ∀ a, a < Open.length → 0 ≤ (Dist.getD i []).getD a 0 ∧ (Dist.getD i []).getD a 0 ≤ 99 := by
  simp only [goodField, Bool.and_eq_true, decide_eq_true_eq] at h
  have h2 := List.all_eq_true.1 h.2 _ (getD_mem (d := []) hi)
  simp only [rowOk, Bool.and_eq_true, decide_eq_true_eq] at h2
  refine ⟨by omega, fun a ha => ?_⟩
  exact inB_le (List.all_eq_true.1 h2.1 _ (getD_mem (by omega)))
abbrev s_l2Row_JJ0 (row : List Int) (n : Int) (most : Int) (i : Int) : Prop := (0 ≤ i) ∧ (i ≤ (row.length : Int)) ∧ (allTo (fun k => inB (row.getD k 0) 0 most) i.toNat = true)
abbrev s_l2Row_mJ0 (row : List Int) (n : Int) (most : Int) (i : Int) : Nat := (row.length - i).toNat
def s_l2Row_C (f : FuncId) (ds : List D) : Orc := bif Nat.beq f 116 then s_l1In_orc ds else .no
def s_l2Row_A (row : List Int) (n : Int) (most : Int) : Ann := .two (.none) (.two (.two (.none) (.loop (cut1 (fun (i : Int) => s_l2Row_JJ0 row n most i) (fun (i : Int) => [(0, .d false (.sl (.ints row))), (1, .d false (.int .i64 n)), (2, .d false (.int .i64 most)), (7, .d true (.int .i64 i))]) (fun (i : Int) => [])) (fun g => s_l2Row_mJ0 row n most g) (fun _ => .none))) (.none))
def s_l2Row_P (row : List Int) (n : Int) (most : Int) : Prop :=
  ((∃ i' : Int, (s_l2Row_JJ0 row n most i') ∧ (row = row) ∧ (n = n) ∧ (most = most) ∧ ((0 : Int) = i')) ∧ (∀ i : Int, (s_l2Row_JJ0 row n most i) → (((decide (i < (row.length : Int))) = true → ((0 : Int) ≤ i) ∧ ((i : Int) < row.length) ∧ (i.toNat < row.length) ∧ (PC Try.prog 116 [.int .i64 (row.getD i.toNat 0), .int .i64 0, .int .i64 most] (.one (.d (.bool (inB (row.getD i.toNat 0) 0 most))))) ∧ (((!(inB (row.getD i.toNat 0) 0 most)) = true → ((false = (rowOk row n most)))) ∧ ((!(inB (row.getD i.toNat 0) 0 most)) = false → (-9223372036854775808 ≤ (i + 1) ∧ (i + 1) ≤ 9223372036854775807) ∧ (∃ i' : Int, (s_l2Row_JJ0 row n most i') ∧ (s_l2Row_mJ0 row n most i' < s_l2Row_mJ0 row n most i) ∧ (row = row) ∧ (n = n) ∧ (most = most) ∧ ((i + 1) = i'))))) ∧ ((decide (i < (row.length : Int))) = false → ((((row.length : Int) == n) = (rowOk row n most)))))))
theorem s_l2Row_vc (row : List Int) (n : Int) (most : Int)  (w_row : (row.length : Int) ≤ 9223372036854775807) : s_l2Row_P row n most := by
  unfold s_l2Row_P
  refine ⟨?_, ?_⟩
  · refine ⟨0, ?_⟩
    refine ⟨?_, rfl, rfl, rfl, rfl⟩
    · refine ⟨?_, ?_, ?_⟩
      · first | omega | rfl | (intro hg; simp only [nrmT] at hg; omega) | (intro g1 g2; simp [g1, g2]; done) | (intro g1; simp at g1 ⊢; simp [g1]; done) | (simp only [nrmT] at *; omega) | (simp at * <;> omega) | (simp_all <;> omega) | (simp_all; done)
      · first | omega | rfl | (intro hg; simp only [nrmT] at hg; omega) | (intro g1 g2; simp [g1, g2]; done) | (intro g1; simp at g1 ⊢; simp [g1]; done) | (simp only [nrmT] at *; omega) | (simp at * <;> omega) | (simp_all <;> omega) | (simp_all; done)
      · first | omega | rfl | (intro hg; simp only [nrmT] at hg; omega) | (intro g1 g2; simp [g1, g2]; done) | (intro g1; simp at g1 ⊢; simp [g1]; done) | (simp only [nrmT] at *; omega) | (simp at * <;> omega) | (simp_all <;> omega) | (simp_all; done)
  · intro i hJ
    obtain ⟨h1, h2, h3⟩ := hJ
    refine ⟨?_, ?_⟩
    · intro b1
      try simp only [nrmT] at b1
      refine ⟨?_, ?_, ?_, s_l1In_pc (row.getD i.toNat 0) 0 most, ?_, ?_⟩
      · first | omega | rfl | (intro hg; simp only [nrmT] at hg; omega) | (intro g1 g2; simp [g1, g2]; done) | (intro g1; simp at g1 ⊢; simp [g1]; done) | (simp only [nrmT] at *; omega) | (simp at * <;> omega) | (simp_all <;> omega) | (simp_all; done)
      · first | omega | rfl | (intro hg; simp only [nrmT] at hg; omega) | (intro g1 g2; simp [g1, g2]; done) | (intro g1; simp at g1 ⊢; simp [g1]; done) | (simp only [nrmT] at *; omega) | (simp at * <;> omega) | (simp_all <;> omega) | (simp_all; done)
      · first | omega | rfl | (intro hg; simp only [nrmT] at hg; omega) | (intro g1 g2; simp [g1, g2]; done) | (intro g1; simp at g1 ⊢; simp [g1]; done) | (simp only [nrmT] at *; omega) | (simp at * <;> omega) | (simp_all <;> omega) | (simp_all; done)
      · intro b2
        try simp only [nrmT] at b2
        unfold rowOk
        rw [all_no (p := fun x => inB x 0 most) (d := 0) h1 (by omega) b2]; rfl
      · intro b3
        try simp only [nrmT] at b3
        refine ⟨?_, ?_⟩
        · first | omega | rfl | (intro hg; simp only [nrmT] at hg; omega) | (intro g1 g2; simp [g1, g2]; done) | (intro g1; simp at g1 ⊢; simp [g1]; done) | (simp only [nrmT] at *; omega) | (simp at * <;> omega) | (simp_all <;> omega) | (simp_all; done)
        · refine ⟨(i + 1), ?_⟩
          refine ⟨?_, ?_, rfl, rfl, rfl, rfl⟩
          · refine ⟨?_, ?_, ?_⟩
            · first | omega | rfl | (intro hg; simp only [nrmT] at hg; omega) | (intro g1 g2; simp [g1, g2]; done) | (intro g1; simp at g1 ⊢; simp [g1]; done) | (simp only [nrmT] at *; omega) | (simp at * <;> omega) | (simp_all <;> omega) | (simp_all; done)
            · first | omega | rfl | (intro hg; simp only [nrmT] at hg; omega) | (intro g1 g2; simp [g1, g2]; done) | (intro g1; simp at g1 ⊢; simp [g1]; done) | (simp only [nrmT] at *; omega) | (simp at * <;> omega) | (simp_all <;> omega) | (simp_all; done)
            · exact allTo_step h1 h3 b3
          · first | (show _ < _; omega) | (simp only [s_l2Row_mJ0]; omega) | (simp only [s_l2Row_mJ0] at *; simp at *; omega)
    · intro b4
      try simp only [nrmT] at b4
      unfold rowOk
      rw [all_end (p := fun x => inB x 0 most) (d := 0) (by omega) h2 h3, Bool.true_and]; rfl
theorem s_l2Row_pc (row : List Int) (n : Int) (most : Int)  : PC Try.prog 150 [.sl (.ints row), .int .i64 n, .int .i64 most] (.one (.d (.bool (rowOk row n most)))) :=
  pc_wf @Try.call150 fun hw => pc_by (by kernel_rfl) Try.func150 @Try.call150 (by kernel_rfl) s_l2Row_C (s_l2Row_A row n most) (by kernel_rfl) (s_l2Row_vc row n most hw.1) (by kernel_rfl)
def s_l2Row_orc : List D → Orc := orcN [some .ints, none, none] fun ds => match ds with
  | [.sl (.ints row), .int .i64 n, .int .i64 most] => some (.one (.d (.bool (rowOk row n most))))
  | _ => none
abbrev s_l2Good_JJ0 (Open : List Int) (Dist : List (List Int)) (i : Int) : Prop := (0 ≤ i) ∧ (i ≤ (Dist.length : Int)) ∧ (allTo (fun k => rowOk (Dist.getD k []) (Open.length : Int) 99) i.toNat = true)
abbrev s_l2Good_mJ0 (Open : List Int) (Dist : List (List Int)) (i : Int) : Nat := (Dist.length - i).toNat
def s_l2Good_C (f : FuncId) (ds : List D) : Orc := bif Nat.beq f 150 then s_l2Row_orc ds else bif Nat.beq f 116 then s_l1In_orc ds else .no
def s_l2Good_A (Open : List Int) (Dist : List (List Int)) : Ann := .two (.none) (.two (.none) (.two (.two (.none) (.loop (cut1 (fun (i : Int) => s_l2Good_JJ0 Open Dist i) (fun (i : Int) => [(1, .ptr 1 0), (3, .d true (.int .i64 (Open.length : Int))), (4, .d true (.int .i64 i))]) (fun (i : Int) => [(1, .box 39 [.d false (.sl (.ints Open)), .d false (.sl (.rows Dist))])])) (fun g => s_l2Good_mJ0 Open Dist g) (fun _ => .none))) (.none)))
def s_l2Good_P (Open : List Int) (Dist : List (List Int)) : Prop :=
  ((∃ i' : Int, (s_l2Good_JJ0 Open Dist i') ∧ ((Open.length : Int) = (Open.length : Int)) ∧ ((0 : Int) = i') ∧ (Open = Open) ∧ (Dist = Dist)) ∧ (∀ i : Int, (s_l2Good_JJ0 Open Dist i) → (((decide (i < (Dist.length : Int))) = true → ((0 : Int) ≤ i) ∧ ((i : Int) < Dist.length) ∧ (i.toNat < Dist.length) ∧ (PC Try.prog 150 [.sl (.ints (Dist.getD i.toNat [])), .int .i64 (Open.length : Int), .int .i64 99] (.one (.d (.bool (rowOk (Dist.getD i.toNat []) (Open.length : Int) 99))))) ∧ (((!(rowOk (Dist.getD i.toNat []) (Open.length : Int) 99)) = true → ((false = (goodField Open Dist)))) ∧ ((!(rowOk (Dist.getD i.toNat []) (Open.length : Int) 99)) = false → (-9223372036854775808 ≤ (i + 1) ∧ (i + 1) ≤ 9223372036854775807) ∧ (∃ i' : Int, (s_l2Good_JJ0 Open Dist i') ∧ (s_l2Good_mJ0 Open Dist i' < s_l2Good_mJ0 Open Dist i) ∧ ((Open.length : Int) = (Open.length : Int)) ∧ ((i + 1) = i') ∧ (Open = Open) ∧ (Dist = Dist))))) ∧ ((decide (i < (Dist.length : Int))) = false → (PC Try.prog 116 [.int .i64 (Open.length : Int), .int .i64 1, .int .i64 7] (.one (.d (.bool (inB (Open.length : Int) 1 7))))) ∧ ((inB (Open.length : Int) 1 7) = true → (inB (Open.length : Int) 1 7) = true) ∧ ((inB (Open.length : Int) 1 7) = true → (inB (Open.length : Int) 1 7) = true) ∧ ((inB (Open.length : Int) 1 7) = true → (inB (Open.length : Int) 1 7) = true) ∧ ((inB (Open.length : Int) 1 7) = true → PC Try.prog 150 [.sl (.ints Open), .int .i64 (Open.length : Int), .int .i64 99] (.one (.d (.bool (rowOk Open (Open.length : Int) 99))))) ∧ (true = true) ∧ (((inB (Open.length : Int) 1 7) = true → (inB (Open.length : Int) 1 7) = true)) ∧ (((inB (Open.length : Int) 1 7) = false → true = true)) ∧ ((cond (inB (Open.length : Int) 1 7) (rowOk Open (Open.length : Int) 99) false) = true → (cond (inB (Open.length : Int) 1 7) (rowOk Open (Open.length : Int) 99) false) = true) ∧ ((cond (inB (Open.length : Int) 1 7) (rowOk Open (Open.length : Int) 99) false) = true → (cond (inB (Open.length : Int) 1 7) (rowOk Open (Open.length : Int) 99) false) = true) ∧ ((cond (inB (Open.length : Int) 1 7) (rowOk Open (Open.length : Int) 99) false) = true → (cond (inB (Open.length : Int) 1 7) (rowOk Open (Open.length : Int) 99) false) = true) ∧ (true = true) ∧ (((cond (inB (Open.length : Int) 1 7) (rowOk Open (Open.length : Int) 99) false) = true → (cond (inB (Open.length : Int) 1 7) (rowOk Open (Open.length : Int) 99) false) = true)) ∧ (((cond (inB (Open.length : Int) 1 7) (rowOk Open (Open.length : Int) 99) false) = false → true = true)) ∧ (((cond (cond (inB (Open.length : Int) 1 7) (rowOk Open (Open.length : Int) 99) false) (decide ((Dist.length : Int) ≤ 7)) false) = (goodField Open Dist)))))))
theorem s_l2Good_vc (Open : List Int) (Dist : List (List Int))  (w_Open : (Open.length : Int) ≤ 9223372036854775807) (w_Dist : (Dist.length : Int) ≤ 9223372036854775807) (v_Dist : ∀ x9 ∈ Dist, (x9.length : Int) ≤ 9223372036854775807) : s_l2Good_P Open Dist := by
  unfold s_l2Good_P
  refine ⟨?_, ?_⟩
  · refine ⟨0, ?_⟩
    refine ⟨?_, rfl, rfl, rfl, rfl⟩
    · refine ⟨?_, ?_, ?_⟩
      · first | omega | rfl | (intro hg; simp only [nrmT] at hg; omega) | (intro g1 g2; simp [g1, g2]; done) | (intro g1; simp at g1 ⊢; simp [g1]; done) | (simp only [nrmT] at *; omega) | (simp at * <;> omega) | (simp_all <;> omega) | (simp_all; done)
      · first | omega | rfl | (intro hg; simp only [nrmT] at hg; omega) | (intro g1 g2; simp [g1, g2]; done) | (intro g1; simp at g1 ⊢; simp [g1]; done) | (simp only [nrmT] at *; omega) | (simp at * <;> omega) | (simp_all <;> omega) | (simp_all; done)
      · first | omega | rfl | (intro hg; simp only [nrmT] at hg; omega) | (intro g1 g2; simp [g1, g2]; done) | (intro g1; simp at g1 ⊢; simp [g1]; done) | (simp only [nrmT] at *; omega) | (simp at * <;> omega) | (simp_all <;> omega) | (simp_all; done)
  · intro i hJ
    obtain ⟨h1, h2, h3⟩ := hJ
    refine ⟨?_, ?_⟩
    · intro b1
      try simp only [nrmT] at b1
      refine ⟨?_, ?_, ?_, s_l2Row_pc (Dist.getD i.toNat []) (Open.length : Int) 99, ?_, ?_⟩
      · first | omega | rfl | (intro hg; simp only [nrmT] at hg; omega) | (intro g1 g2; simp [g1, g2]; done) | (intro g1; simp at g1 ⊢; simp [g1]; done) | (simp only [nrmT] at *; omega) | (simp at * <;> omega) | (simp_all <;> omega) | (simp_all; done)
      · first | omega | rfl | (intro hg; simp only [nrmT] at hg; omega) | (intro g1 g2; simp [g1, g2]; done) | (intro g1; simp at g1 ⊢; simp [g1]; done) | (simp only [nrmT] at *; omega) | (simp at * <;> omega) | (simp_all <;> omega) | (simp_all; done)
      · first | omega | rfl | (intro hg; simp only [nrmT] at hg; omega) | (intro g1 g2; simp [g1, g2]; done) | (intro g1; simp at g1 ⊢; simp [g1]; done) | (simp only [nrmT] at *; omega) | (simp at * <;> omega) | (simp_all <;> omega) | (simp_all; done)
      · intro b2
        try simp only [nrmT] at b2
        unfold goodField
        rw [all_no (p := fun l => rowOk l (Open.length : Int) 99) (d := []) h1 (by omega) b2, Bool.and_false]
      · intro b3
        try simp only [nrmT] at b3
        refine ⟨?_, ?_⟩
        · first | omega | rfl | (intro hg; simp only [nrmT] at hg; omega) | (intro g1 g2; simp [g1, g2]; done) | (intro g1; simp at g1 ⊢; simp [g1]; done) | (simp only [nrmT] at *; omega) | (simp at * <;> omega) | (simp_all <;> omega) | (simp_all; done)
        · refine ⟨(i + 1), ?_⟩
          refine ⟨?_, ?_, rfl, rfl, rfl, rfl⟩
          · refine ⟨?_, ?_, ?_⟩
            · first | omega | rfl | (intro hg; simp only [nrmT] at hg; omega) | (intro g1 g2; simp [g1, g2]; done) | (intro g1; simp at g1 ⊢; simp [g1]; done) | (simp only [nrmT] at *; omega) | (simp at * <;> omega) | (simp_all <;> omega) | (simp_all; done)
            · first | omega | rfl | (intro hg; simp only [nrmT] at hg; omega) | (intro g1 g2; simp [g1, g2]; done) | (intro g1; simp at g1 ⊢; simp [g1]; done) | (simp only [nrmT] at *; omega) | (simp at * <;> omega) | (simp_all <;> omega) | (simp_all; done)
            · exact allTo_step h1 h3 b3
          · first | (show _ < _; omega) | (simp only [s_l2Good_mJ0]; omega) | (simp only [s_l2Good_mJ0] at *; simp at *; omega)
    · intro b4
      try simp only [nrmT] at b4
      refine ⟨s_l1In_pc (Open.length : Int) 1 7, id, id, id, fun _ => s_l2Row_pc Open (Open.length : Int) 99, rfl, id, fun _ => rfl, id, id, id, rfl, id, fun _ => rfl, ?_⟩
      · unfold goodField
        rw [all_end (p := fun l => rowOk l (Open.length : Int) 99) (d := []) (by omega) h2 h3, show decide ((Dist.length : Int) ≤ 7) = decide (Dist.length ≤ 7) from len_le _ 7]
        unfold rowOk
        cases inB (Open.length : Int) 1 7 <;> cases Open.all (fun x => inB x 0 99) <;> cases decide (Dist.length ≤ 7) <;> simp
theorem s_l2Good_pc (Open : List Int) (Dist : List (List Int))  : PC Try.prog 115 [.agg [.sl (.ints Open), .sl (.rows Dist)]] (.one (.d (.bool (goodField Open Dist)))) :=
  pc_wf @Try.call115 fun hw => pc_by (by kernel_rfl) Try.func115 @Try.call115 (by kernel_rfl) s_l2Good_C (s_l2Good_A Open Dist) (by kernel_rfl) (s_l2Good_vc Open Dist hw.1.1 hw.1.2.1.1 hw.1.2.1.2) (by kernel_rfl)
def s_l2Good_orc : List D → Orc := orcN [none] fun ds => match ds with
  | [.agg [.sl (.ints Open), .sl (.rows Dist)]] => some (.one (.d (.bool (goodField Open Dist))))
  | _ => none
def i_IsField_1_C (f : FuncId) (ds : List D) : Orc := bif Nat.beq f 131 then i_areBetween_orc ds else .no
def i_IsField_1_A (xs : List Int) (Open : List Int) (Dist : List (List Int)) : Ann := .none
def i_IsField_1_P (xs : List Int) (Open : List Int) (Dist : List (List Int)) : Prop :=
  ((!((xs.length : Int) != (Open.length : Int))) = true → (!((xs.length : Int) != (Open.length : Int))) = true) ∧ ((!((xs.length : Int) != (Open.length : Int))) = true → PC Try.prog 131 [.sl (.ints xs), .int .i64 0, .int .i64 99] (.one (.d (.bool (xs.all (fun x => inB x 0 99)))))) ∧ ((!((xs.length : Int) != (Open.length : Int))) = true → (!((xs.length : Int) != (Open.length : Int))) = true) ∧ (true = true) ∧ ((((xs.length : Int) != (Open.length : Int)) = true → true = true)) ∧ ((((xs.length : Int) != (Open.length : Int)) = false → (!((xs.length : Int) != (Open.length : Int))) = true)) ∧ (((cond ((xs.length : Int) != (Open.length : Int)) true (!(xs.all (fun x => inB x 0 99)))) = (!(rowOk xs (Open.length : Int) 99))))
theorem i_IsField_1_vc (xs : List Int) (Open : List Int) (Dist : List (List Int))  (w_xs : (xs.length : Int) ≤ 9223372036854775807) (w_Open : (Open.length : Int) ≤ 9223372036854775807) (w_Dist : (Dist.length : Int) ≤ 9223372036854775807) (v_Dist : ∀ x9 ∈ Dist, (x9.length : Int) ≤ 9223372036854775807) : i_IsField_1_P xs Open Dist := by
  unfold i_IsField_1_P
  refine ⟨id, fun _ => i_areBetween_pc xs 0 99, id, rfl, fun _ => rfl, ?_, ?_⟩
  · first | omega | rfl | (intro hg; simp only [nrmT] at hg; omega) | (intro g1 g2; simp [g1, g2]; done) | (intro g1; simp at g1 ⊢; simp [g1]; done) | (simp only [nrmT] at *; omega) | (simp at * <;> omega) | (simp_all <;> omega) | (simp_all; done)
  · unfold rowOk
    by_cases h : (xs.length : Int) = (Open.length : Int)
    · simp [h]
    · simp [h]
theorem i_IsField_1_pc (xs : List Int) (Open : List Int) (Dist : List (List Int))  : PC Try.prog 200 [.sl (.ints xs), .bx [.sl (.ints Open), .sl (.rows Dist)] 0] (.one (.d (.bool (!(rowOk xs (Open.length : Int) 99))))) :=
  pc_wf @Try.call200 fun hw => pc_by (by kernel_rfl) Try.func200 @Try.call200 (by kernel_rfl) i_IsField_1_C (i_IsField_1_A xs Open Dist) (by kernel_rfl) (i_IsField_1_vc xs Open Dist hw.1 hw.2.1.1 hw.2.1.2.1.1 hw.2.1.2.1.2) (by kernel_rfl)
def i_IsField_1_orc : List D → Orc := orcN [some .ints, none] fun ds => match ds with
  | [.sl (.ints xs), .bx [.sl (.ints Open), .sl (.rows Dist)] 0] => some (.one (.d (.bool (!(rowOk xs (Open.length : Int) 99)))))
  | _ => none
abbrev slices_IndexFunc_int_int_iF_JJ0 (xs : List (List Int)) (Open : List Int) (Dist : List (List Int)) (i : Int) : Prop := (0 ≤ i) ∧ (i ≤ (xs.length : Int)) ∧ (∀ k, k < i.toNat → (fun x => !(rowOk x (Open.length : Int) 99)) (xs.getD k []) = false)
abbrev slices_IndexFunc_int_int_iF_mJ0 (xs : List (List Int)) (Open : List Int) (Dist : List (List Int)) (i : Int) : Nat := (xs.length - i).toNat
def slices_IndexFunc_int_int_iF_C (f : FuncId) (ds : List D) : Orc := bif Nat.beq f 200 then i_IsField_1_orc ds else .no
def slices_IndexFunc_int_int_iF_A (xs : List (List Int)) (Open : List Int) (Dist : List (List Int)) : Ann := .two (.none) (.two (.two (.none) (.loop (cut1 (fun (i : Int) => slices_IndexFunc_int_int_iF_JJ0 xs Open Dist i) (fun (i : Int) => [(0, .d false (.sl (.rows xs))), (1, .d false (.fn 200 0 [.bx [.sl (.ints Open), .sl (.rows Dist)] 0])), (7, .d true (.int .i64 (xs.length : Int))), (8, .d true (.int .i64 i))]) (fun (i : Int) => [])) (fun g => slices_IndexFunc_int_int_iF_mJ0 xs Open Dist g) (fun _ => .none))) (.none))
def slices_IndexFunc_int_int_iF_P (xs : List (List Int)) (Open : List Int) (Dist : List (List Int)) : Prop :=
  ((∃ i' : Int, (slices_IndexFunc_int_int_iF_JJ0 xs Open Dist i') ∧ (xs = xs) ∧ ((.fn 200 0 [.bx [.sl (.ints Open), .sl (.rows Dist)] 0] : D) = (.fn 200 0 [.bx [.sl (.ints Open), .sl (.rows Dist)] 0] : D)) ∧ ((xs.length : Int) = (xs.length : Int)) ∧ ((0 : Int) = i')) ∧ (∀ i : Int, (slices_IndexFunc_int_int_iF_JJ0 xs Open Dist i) → (((decide (i < (xs.length : Int))) = true → ((0 : Int) ≤ i) ∧ ((i : Int) < xs.length) ∧ (i.toNat < xs.length) ∧ (PC Try.prog 200 [.sl (.ints (xs.getD i.toNat [])), .bx [.sl (.ints Open), .sl (.rows Dist)] 0] (.one (.d (.bool (!(rowOk (xs.getD i.toNat []) (Open.length : Int) 99)))))) ∧ (((!(rowOk (xs.getD i.toNat []) (Open.length : Int) 99)) = true → ((i = (idxI (fun x => !(rowOk x (Open.length : Int) 99)) xs)))) ∧ ((!(rowOk (xs.getD i.toNat []) (Open.length : Int) 99)) = false → (-9223372036854775808 ≤ (i + 1) ∧ (i + 1) ≤ 9223372036854775807) ∧ (∃ i' : Int, (slices_IndexFunc_int_int_iF_JJ0 xs Open Dist i') ∧ (slices_IndexFunc_int_int_iF_mJ0 xs Open Dist i' < slices_IndexFunc_int_int_iF_mJ0 xs Open Dist i) ∧ (xs = xs) ∧ ((.fn 200 0 [.bx [.sl (.ints Open), .sl (.rows Dist)] 0] : D) = (.fn 200 0 [.bx [.sl (.ints Open), .sl (.rows Dist)] 0] : D)) ∧ ((xs.length : Int) = (xs.length : Int)) ∧ ((i + 1) = i'))))) ∧ ((decide (i < (xs.length : Int))) = false → ((((-1) : Int) = (idxI (fun x => !(rowOk x (Open.length : Int) 99)) xs)))))))
theorem slices_IndexFunc_int_int_iF_vc (xs : List (List Int)) (Open : List Int) (Dist : List (List Int))  (w_xs : (xs.length : Int) ≤ 9223372036854775807) (v_xs : ∀ x9 ∈ xs, (x9.length : Int) ≤ 9223372036854775807) (w_Open : (Open.length : Int) ≤ 9223372036854775807) (w_Dist : (Dist.length : Int) ≤ 9223372036854775807) (v_Dist : ∀ x9 ∈ Dist, (x9.length : Int) ≤ 9223372036854775807) : slices_IndexFunc_int_int_iF_P xs Open Dist := by
  unfold slices_IndexFunc_int_int_iF_P
  refine ⟨?_, ?_⟩
  · refine ⟨0, ?_⟩
    refine ⟨?_, rfl, rfl, rfl, rfl⟩
    · refine ⟨?_, ?_, ?_⟩
      · first | omega | rfl | (intro hg; simp only [nrmT] at hg; omega) | (intro g1 g2; simp [g1, g2]; done) | (intro g1; simp at g1 ⊢; simp [g1]; done) | (simp only [nrmT] at *; omega) | (simp at * <;> omega) | (simp_all <;> omega) | (simp_all; done)
      · first | omega | rfl | (intro hg; simp only [nrmT] at hg; omega) | (intro g1 g2; simp [g1, g2]; done) | (intro g1; simp at g1 ⊢; simp [g1]; done) | (simp only [nrmT] at *; omega) | (simp at * <;> omega) | (simp_all <;> omega) | (simp_all; done)
      · first | omega | rfl | (intro hg; simp only [nrmT] at hg; omega) | (intro g1 g2; simp [g1, g2]; done) | (intro g1; simp at g1 ⊢; simp [g1]; done) | (simp only [nrmT] at *; omega) | (simp at * <;> omega) | (simp_all <;> omega) | (simp_all; done)
  · intro i hJ
    obtain ⟨h1, h2, h3⟩ := hJ
    refine ⟨?_, ?_⟩
    · intro b1
      try simp only [nrmT] at b1
      refine ⟨?_, ?_, ?_, i_IsField_1_pc (xs.getD i.toNat []) Open Dist, ?_, ?_⟩
      · first | omega | rfl | (intro hg; simp only [nrmT] at hg; omega) | (intro g1 g2; simp [g1, g2]; done) | (intro g1; simp at g1 ⊢; simp [g1]; done) | (simp only [nrmT] at *; omega) | (simp at * <;> omega) | (simp_all <;> omega) | (simp_all; done)
      · first | omega | rfl | (intro hg; simp only [nrmT] at hg; omega) | (intro g1 g2; simp [g1, g2]; done) | (intro g1; simp at g1 ⊢; simp [g1]; done) | (simp only [nrmT] at *; omega) | (simp at * <;> omega) | (simp_all <;> omega) | (simp_all; done)
      · first | omega | rfl | (intro hg; simp only [nrmT] at hg; omega) | (intro g1 g2; simp [g1, g2]; done) | (intro g1; simp at g1 ⊢; simp [g1]; done) | (simp only [nrmT] at *; omega) | (simp at * <;> omega) | (simp_all <;> omega) | (simp_all; done)
      · intro b2
        try simp only [nrmT] at b2
        exact idx_found (p := fun x => !(rowOk x (Open.length : Int) 99)) h1 b1 h3 (by simpa using b2)
      · intro b3
        try simp only [nrmT] at b3
        refine ⟨?_, ?_⟩
        · first | omega | rfl | (intro hg; simp only [nrmT] at hg; omega) | (intro g1 g2; simp [g1, g2]; done) | (intro g1; simp at g1 ⊢; simp [g1]; done) | (simp only [nrmT] at *; omega) | (simp at * <;> omega) | (simp_all <;> omega) | (simp_all; done)
        · refine ⟨(i + 1), ?_⟩
          refine ⟨?_, ?_, rfl, rfl, rfl, rfl⟩
          · refine ⟨?_, ?_, ?_⟩
            · first | omega | rfl | (intro hg; simp only [nrmT] at hg; omega) | (intro g1 g2; simp [g1, g2]; done) | (intro g1; simp at g1 ⊢; simp [g1]; done) | (simp only [nrmT] at *; omega) | (simp at * <;> omega) | (simp_all <;> omega) | (simp_all; done)
            · first | omega | rfl | (intro hg; simp only [nrmT] at hg; omega) | (intro g1 g2; simp [g1, g2]; done) | (intro g1; simp at g1 ⊢; simp [g1]; done) | (simp only [nrmT] at *; omega) | (simp at * <;> omega) | (simp_all <;> omega) | (simp_all; done)
            · exact idx_step (p := fun x => !(rowOk x (Open.length : Int) 99)) h1 h3 (by simpa using b3)
          · first | (show _ < _; omega) | (simp only [slices_IndexFunc_int_int_iF_mJ0]; omega) | (simp only [slices_IndexFunc_int_int_iF_mJ0] at *; simp at *; omega)
    · intro b4
      try simp only [nrmT] at b4
      exact (idx_none (by omega) h3).symm
theorem slices_IndexFunc_int_int_iF_pc (xs : List (List Int)) (Open : List Int) (Dist : List (List Int))  : PC Try.prog 224 [.sl (.rows xs), .fn 200 0 [.bx [.sl (.ints Open), .sl (.rows Dist)] 0]] (.one (.d (.int .i64 (idxI (fun x => !(rowOk x (Open.length : Int) 99)) xs)))) :=
  pc_wf @Try.call224 fun hw => pc_by (by kernel_rfl) Try.func224 @Try.call224 (by kernel_rfl) slices_IndexFunc_int_int_iF_C (slices_IndexFunc_int_int_iF_A xs Open Dist) (by kernel_rfl) (slices_IndexFunc_int_int_iF_vc xs Open Dist hw.1.1 hw.1.2 hw.2.1.1.1 hw.2.1.1.2.1.1 hw.2.1.1.2.1.2) (by kernel_rfl)
def slices_IndexFunc_int_int_iF_orc : List D → Orc := orcN [some .rows, none] fun ds => match ds with
  | [.sl (.rows xs), .fn f0 0 [.bx [.sl (.ints Open), .sl (.rows Dist)] 0]] => bif Nat.beq f0 200 then some (.one (.d (.int .i64 (idxI (fun x => !(rowOk x (Open.length : Int) 99)) xs)))) else none
  | _ => none
def slices_ContainsFunc_int_int_iF_C (f : FuncId) (ds : List D) : Orc := bif Nat.beq f 224 then slices_IndexFunc_int_int_iF_orc ds else .no
def slices_ContainsFunc_int_int_iF_A (xs : List (List Int)) (Open : List Int) (Dist : List (List Int)) : Ann := .none
def slices_ContainsFunc_int_int_iF_P (xs : List (List Int)) (Open : List Int) (Dist : List (List Int)) : Prop :=
  (PC Try.prog 224 [.sl (.rows xs), .fn 200 0 [.bx [.sl (.ints Open), .sl (.rows Dist)] 0]] (.one (.d (.int .i64 (idxI (fun x => !(rowOk x (Open.length : Int) 99)) xs))))) ∧ (((decide ((idxI (fun x => !(rowOk x (Open.length : Int) 99)) xs) ≥ 0)) = (xs.any (fun x => !(rowOk x (Open.length : Int) 99)))))
theorem slices_ContainsFunc_int_int_iF_vc (xs : List (List Int)) (Open : List Int) (Dist : List (List Int))  (w_xs : (xs.length : Int) ≤ 9223372036854775807) (v_xs : ∀ x9 ∈ xs, (x9.length : Int) ≤ 9223372036854775807) (w_Open : (Open.length : Int) ≤ 9223372036854775807) (w_Dist : (Dist.length : Int) ≤ 9223372036854775807) (v_Dist : ∀ x9 ∈ Dist, (x9.length : Int) ≤ 9223372036854775807) : slices_ContainsFunc_int_int_iF_P xs Open Dist := by
  unfold slices_ContainsFunc_int_int_iF_P
  refine ⟨slices_IndexFunc_int_int_iF_pc xs Open Dist, ?_⟩
  · exact idx_any _ _
theorem slices_ContainsFunc_int_int_iF_pc (xs : List (List Int)) (Open : List Int) (Dist : List (List Int))  : PC Try.prog 169 [.sl (.rows xs), .fn 200 0 [.bx [.sl (.ints Open), .sl (.rows Dist)] 0]] (.one (.d (.bool (xs.any (fun x => !(rowOk x (Open.length : Int) 99)))))) :=
  pc_wf @Try.call169 fun hw => pc_by (by kernel_rfl) Try.func169 @Try.call169 (by kernel_rfl) slices_ContainsFunc_int_int_iF_C (slices_ContainsFunc_int_int_iF_A xs Open Dist) (by kernel_rfl) (slices_ContainsFunc_int_int_iF_vc xs Open Dist hw.1.1 hw.1.2 hw.2.1.1.1 hw.2.1.1.2.1.1 hw.2.1.1.2.1.2) (by kernel_rfl)
def slices_ContainsFunc_int_int_iF_orc : List D → Orc := orcN [some .rows, none] fun ds => match ds with
  | [.sl (.rows xs), .fn f0 0 [.bx [.sl (.ints Open), .sl (.rows Dist)] 0]] => bif Nat.beq f0 200 then some (.one (.d (.bool (xs.any (fun x => !(rowOk x (Open.length : Int) 99)))))) else none
  | _ => none
def i_IsField_C (f : FuncId) (ds : List D) : Orc := bif Nat.beq f 120 then i_between_orc ds else bif Nat.beq f 131 then i_areBetween_orc ds else bif Nat.beq f 169 then slices_ContainsFunc_int_int_iF_orc ds else .no
def i_IsField_A (Open : List Int) (Dist : List (List Int)) : Ann := .none
def i_IsField_P (Open : List Int) (Dist : List (List Int)) : Prop :=
  (PC Try.prog 120 [.int .i64 (Open.length : Int), .int .i64 1, .int .i64 7] (.one (.d (.bool (inB (Open.length : Int) 1 7))))) ∧ ((inB (Open.length : Int) 1 7) = true → (inB (Open.length : Int) 1 7) = true) ∧ ((inB (Open.length : Int) 1 7) = true → (inB (Open.length : Int) 1 7) = true) ∧ ((inB (Open.length : Int) 1 7) = true → PC Try.prog 131 [.sl (.ints Open), .int .i64 0, .int .i64 99] (.one (.d (.bool (Open.all (fun x => inB x 0 99)))))) ∧ (true = true) ∧ (((inB (Open.length : Int) 1 7) = true → (inB (Open.length : Int) 1 7) = true)) ∧ (((inB (Open.length : Int) 1 7) = false → true = true)) ∧ ((cond (inB (Open.length : Int) 1 7) (Open.all (fun x => inB x 0 99)) false) = true → (cond (inB (Open.length : Int) 1 7) (Open.all (fun x => inB x 0 99)) false) = true) ∧ ((cond (inB (Open.length : Int) 1 7) (Open.all (fun x => inB x 0 99)) false) = true → (cond (inB (Open.length : Int) 1 7) (Open.all (fun x => inB x 0 99)) false) = true) ∧ ((cond (inB (Open.length : Int) 1 7) (Open.all (fun x => inB x 0 99)) false) = true → (cond (inB (Open.length : Int) 1 7) (Open.all (fun x => inB x 0 99)) false) = true) ∧ (true = true) ∧ (((cond (inB (Open.length : Int) 1 7) (Open.all (fun x => inB x 0 99)) false) = true → (cond (inB (Open.length : Int) 1 7) (Open.all (fun x => inB x 0 99)) false) = true)) ∧ (((cond (inB (Open.length : Int) 1 7) (Open.all (fun x => inB x 0 99)) false) = false → true = true)) ∧ ((cond (cond (inB (Open.length : Int) 1 7) (Open.all (fun x => inB x 0 99)) false) (decide ((Dist.length : Int) ≤ 7)) false) = true → (cond (cond (inB (Open.length : Int) 1 7) (Open.all (fun x => inB x 0 99)) false) (decide ((Dist.length : Int) ≤ 7)) false) = true) ∧ ((cond (cond (inB (Open.length : Int) 1 7) (Open.all (fun x => inB x 0 99)) false) (decide ((Dist.length : Int) ≤ 7)) false) = true → (cond (cond (inB (Open.length : Int) 1 7) (Open.all (fun x => inB x 0 99)) false) (decide ((Dist.length : Int) ≤ 7)) false) = true) ∧ ((cond (cond (inB (Open.length : Int) 1 7) (Open.all (fun x => inB x 0 99)) false) (decide ((Dist.length : Int) ≤ 7)) false) = true → (cond (cond (inB (Open.length : Int) 1 7) (Open.all (fun x => inB x 0 99)) false) (decide ((Dist.length : Int) ≤ 7)) false) = true) ∧ ((cond (cond (inB (Open.length : Int) 1 7) (Open.all (fun x => inB x 0 99)) false) (decide ((Dist.length : Int) ≤ 7)) false) = true → PC Try.prog 169 [.sl (.rows Dist), .fn 200 0 [.bx [.sl (.ints Open), .sl (.rows Dist)] 0]] (.one (.d (.bool (Dist.any (fun x => !(rowOk x (Open.length : Int) 99))))))) ∧ ((cond (cond (inB (Open.length : Int) 1 7) (Open.all (fun x => inB x 0 99)) false) (decide ((Dist.length : Int) ≤ 7)) false) = true → (cond (cond (inB (Open.length : Int) 1 7) (Open.all (fun x => inB x 0 99)) false) (decide ((Dist.length : Int) ≤ 7)) false) = true) ∧ (true = true) ∧ (((cond (cond (inB (Open.length : Int) 1 7) (Open.all (fun x => inB x 0 99)) false) (decide ((Dist.length : Int) ≤ 7)) false) = true → (cond (cond (inB (Open.length : Int) 1 7) (Open.all (fun x => inB x 0 99)) false) (decide ((Dist.length : Int) ≤ 7)) false) = true)) ∧ (((cond (cond (inB (Open.length : Int) 1 7) (Open.all (fun x => inB x 0 99)) false) (decide ((Dist.length : Int) ≤ 7)) false) = false → true = true)) ∧ (((cond (cond (cond (inB (Open.length : Int) 1 7) (Open.all (fun x => inB x 0 99)) false) (decide ((Dist.length : Int) ≤ 7)) false) (!(Dist.any (fun x => !(rowOk x (Open.length : Int) 99)))) false) = (goodField Open Dist)))
theorem i_IsField_vc (Open : List Int) (Dist : List (List Int))  (w_Open : (Open.length : Int) ≤ 9223372036854775807) (w_Dist : (Dist.length : Int) ≤ 9223372036854775807) (v_Dist : ∀ x9 ∈ Dist, (x9.length : Int) ≤ 9223372036854775807) : i_IsField_P Open Dist := by
  unfold i_IsField_P
  refine ⟨i_between_pc (Open.length : Int) 1 7, id, id, fun _ => i_areBetween_pc Open 0 99, rfl, id, fun _ => rfl, id, id, id, rfl, id, fun _ => rfl, id, id, id, fun _ => slices_ContainsFunc_int_int_iF_pc Dist Open Dist, id, rfl, id, fun _ => rfl, ?_⟩
  · unfold goodField
    rw [any_not, show decide ((Dist.length : Int) ≤ 7) = decide (Dist.length ≤ 7) from len_le _ 7]
    cases inB (Open.length : Int) 1 7 <;> cases Open.all (fun x => inB x 0 99) <;> cases decide (Dist.length ≤ 7) <;> simp
theorem i_IsField_pc (Open : List Int) (Dist : List (List Int))  : PC Try.prog 119 [.agg [.sl (.ints Open), .sl (.rows Dist)]] (.one (.d (.bool (goodField Open Dist)))) :=
  pc_wf @Try.call119 fun hw => pc_by (by kernel_rfl) Try.func119 @Try.call119 (by kernel_rfl) i_IsField_C (i_IsField_A Open Dist) (by kernel_rfl) (i_IsField_vc Open Dist hw.1.1 hw.1.2.1.1 hw.1.2.1.2) (by kernel_rfl)
def i_IsField_orc : List D → Orc := orcN [none] fun ds => match ds with
  | [.agg [.sl (.ints Open), .sl (.rows Dist)]] => some (.one (.d (.bool (goodField Open Dist))))
  | _ => none
theorem rising_at {xs : List Int} {lo hi : Int} (h : rising xs lo hi = true) : ∀ k, k < xs.length → lo + k ≤ xs.getD k 0 ∧ xs.getD k 0 ≤ hi := by
  intro k
  induction k with
  | zero =>
    intro hk
    have h1 := allTo_iff.1 h 0 hk
    simp only [risingP, Bool.and_eq_true] at h1
    have := inB_le h1.1
    omega
  | succ k ih =>
    intro hk
    have h0 := ih (by omega)
    have h1 := allTo_iff.1 h (k + 1) hk
    simp only [risingP, Bool.and_eq_true, Bool.or_eq_true, decide_eq_true_eq, Nat.add_sub_cancel] at h1
    have := inB_le h1.1
    have h2 := h1.2
    omega
def i_isRadius_C (f : FuncId) (ds : List D) : Orc := bif Nat.beq f 119 then i_IsField_orc ds else .no
def i_isRadius_A (Open : List Int) (Dist : List (List Int)) (r : Int) : Ann := .none
def i_isRadius_P (Open : List Int) (Dist : List (List Int)) (r : Int) : Prop :=
  (PC Try.prog 119 [.agg [.sl (.ints Open), .sl (.rows Dist)]] (.one (.d (.bool (goodField Open Dist))))) ∧ ((goodField Open Dist) = true → (goodField Open Dist) = true) ∧ (true = true) ∧ (((goodField Open Dist) = true → (goodField Open Dist) = true)) ∧ (((goodField Open Dist) = false → true = true)) ∧ (((cond (goodField Open Dist) (decide (r ≥ 0)) false) = (goodField Open Dist && decide (0 ≤ r))))
theorem i_isRadius_vc (Open : List Int) (Dist : List (List Int)) (r : Int)  (w_Open : (Open.length : Int) ≤ 9223372036854775807) (w_Dist : (Dist.length : Int) ≤ 9223372036854775807) (v_Dist : ∀ x9 ∈ Dist, (x9.length : Int) ≤ 9223372036854775807) : i_isRadius_P Open Dist r := by
  unfold i_isRadius_P
  refine ⟨i_IsField_pc Open Dist, id, rfl, id, fun _ => rfl, ?_⟩
  · cases goodField Open Dist <;> rfl
theorem i_isRadius_pc (Open : List Int) (Dist : List (List Int)) (r : Int)  : PC Try.prog 133 [.agg [.sl (.ints Open), .sl (.rows Dist)], .int .i64 r] (.one (.d (.bool (goodField Open Dist && decide (0 ≤ r))))) :=
  pc_wf @Try.call133 fun hw => pc_by (by kernel_rfl) Try.func133 @Try.call133 (by kernel_rfl) i_isRadius_C (i_isRadius_A Open Dist r) (by kernel_rfl) (i_isRadius_vc Open Dist r hw.1.1 hw.1.2.1.1 hw.1.2.1.2) (by kernel_rfl)
def i_isRadius_orc : List D → Orc := orcN [none, none] fun ds => match ds with
  | [.agg [.sl (.ints Open), .sl (.rows Dist)], .int .i64 r] => some (.one (.d (.bool (goodField Open Dist && decide (0 ≤ r)))))
  | _ => none
def i_bag_has_C (f : FuncId) (ds : List D) : Orc := .no
def i_bag_has_A (b : Int) (x : Int) : Ann := .none
def i_bag_has_P (b : Int) (x : Int) : Prop :=
  ((0 : Int) ≤ b ∧ (b : Int) ≤ 18446744073709551615) ∧ ((0 : Int) ≤ x) ∧ ((0 : Int) ≤ (b / 2 ^ x.toNat) ∧ ((b / 2 ^ x.toNat) : Int) ≤ 18446744073709551615) ∧ ((0 : Int) ≤ 1 ∧ (1 : Int) ≤ 18446744073709551615) ∧ ((((((b / 2 ^ x.toNat).toNat &&& 1 : Nat) : Int) == 1) = (b.toNat.testBit x.toNat)))
theorem i_bag_has_vc (b : Int) (x : Int) (hb : 0 ≤ b ∧ b ≤ 4611686018427387903) (hx : 0 ≤ x)  : i_bag_has_P b x := by
  unfold i_bag_has_P
  refine ⟨?_, ?_, ?_, ?_, ?_⟩
  · first | omega | rfl | (intro hg; simp only [nrmT] at hg; omega) | (intro g1 g2; simp [g1, g2]; done) | (intro g1; simp at g1 ⊢; simp [g1]; done) | (simp only [nrmT] at *; omega) | (simp at * <;> omega) | (simp_all <;> omega) | (simp_all; done)
  · first | omega | rfl | (intro hg; simp only [nrmT] at hg; omega) | (intro g1 g2; simp [g1, g2]; done) | (intro g1; simp at g1 ⊢; simp [g1]; done) | (simp only [nrmT] at *; omega) | (simp at * <;> omega) | (simp_all <;> omega) | (simp_all; done)
  · have h1 : 0 ≤ b / 2 ^ x.toNat := Int.ediv_nonneg hb.1 (Int.le_of_lt (Int.pow_pos (by omega)))
    have h2 : b / 2 ^ x.toNat ≤ b := Int.ediv_le_self _ hb.1
    omega
  · first | omega | rfl | (intro hg; simp only [nrmT] at hg; omega) | (intro g1 g2; simp [g1, g2]; done) | (intro g1; simp at g1 ⊢; simp [g1]; done) | (simp only [nrmT] at *; omega) | (simp at * <;> omega) | (simp_all <;> omega) | (simp_all; done)
  · have e : b = ((b.toNat : Nat) : Int) := by omega
    have h := shr_bit (n := b.toNat) (k := x.toNat)
    rw [← e] at h
    rw [h]
    cases b.toNat.testBit x.toNat <;> rfl
theorem i_bag_has_pc (b : Int) (x : Int) (hb : 0 ≤ b ∧ b ≤ 4611686018427387903) (hx : 0 ≤ x) : PC Try.prog 226 [.int .u64 b, .int .i64 x] (.one (.d (.bool (b.toNat.testBit x.toNat)))) :=
  pc_wf @Try.call226 fun _ => pc_by (by kernel_rfl) Try.func226 @Try.call226 (by kernel_rfl) i_bag_has_C (i_bag_has_A b x) (by kernel_rfl) (i_bag_has_vc b x hb hx) (by kernel_rfl)
def i_bag_has_orc : List D → Orc := orcN [none, none] fun ds => match ds with
  | [.int .u64 b, .int .i64 x] => some (.one (.d (.bool (b.toNat.testBit x.toNat))))
  | _ => none
theorem pow8 {n : Nat} (h : n ≤ 8) : (2 : Nat) ^ n ≤ 256 := Nat.le_trans (Nat.pow_le_pow_right (by omega) h) (by decide)
abbrev s_l1Put_JJ0 (l : List Int) (n : Int) (k : Int) : Prop := (0 ≤ k) ∧ (k ≤ (l.length : Int)) ∧ (∀ j, j < k.toNat → l.getD j 0 < n)
abbrev s_l1Put_mJ0 (l : List Int) (n : Int) (k : Int) : Nat := (l.length - k).toNat
def s_l1Put_C (f : FuncId) (ds : List D) : Orc := .no
def s_l1Put_A (l : List Int) (n : Int) : Ann := .two (.none) (.two (.none) (.two (.loop (cut1 (fun (k : Int) => s_l1Put_JJ0 l n k) (fun (k : Int) => [(0, .d true (.sl (.ints l))), (1, .d false (.int .i64 n)), (5, .d true (.int .i64 k))]) (fun (k : Int) => [])) (fun g => s_l1Put_mJ0 l n g) (fun _ => .none)) (.two (.none) (.two (.reg [(6, .frz)]) (.none)))))
def s_l1Put_P (l : List Int) (n : Int) : Prop :=
  ((∃ k' : Int, (s_l1Put_JJ0 l n k') ∧ (l = l) ∧ (n = n) ∧ ((0 : Int) = k')) ∧ (∀ k : Int, (s_l1Put_JJ0 l n k) → ((decide (k < (l.length : Int))) = true → (decide (k < (l.length : Int))) = true) ∧ ((decide (k < (l.length : Int))) = true → (decide (k < (l.length : Int))) = true) ∧ (((decide (k < (l.length : Int))) = true → (0 : Int) ≤ k)) ∧ (((decide (k < (l.length : Int))) = true → (k : Int) < l.length)) ∧ ((decide (k < (l.length : Int))) = true → (decide (k < (l.length : Int))) = true) ∧ (((decide (k < (l.length : Int))) = true → k.toNat < l.length)) ∧ ((decide (k < (l.length : Int))) = true → (decide (k < (l.length : Int))) = true) ∧ ((decide (k < (l.length : Int))) = true → (decide (k < (l.length : Int))) = true) ∧ (true = true) ∧ (((decide (k < (l.length : Int))) = true → (decide (k < (l.length : Int))) = true)) ∧ (((decide (k < (l.length : Int))) = false → true = true)) ∧ (((cond (decide (k < (l.length : Int))) (decide ((l.getD k.toNat 0) < n)) false) = true → (-9223372036854775808 ≤ (k + 1) ∧ (k + 1) ≤ 9223372036854775807) ∧ (∃ k' : Int, (s_l1Put_JJ0 l n k') ∧ (s_l1Put_mJ0 l n k' < s_l1Put_mJ0 l n k) ∧ (l = l) ∧ (n = n) ∧ ((k + 1) = k'))) ∧ ((cond (decide (k < (l.length : Int))) (decide ((l.getD k.toNat 0) < n)) false) = false → ((decide (k < (l.length : Int))) = true → (decide (k < (l.length : Int))) = true) ∧ ((decide (k < (l.length : Int))) = true → (decide (k < (l.length : Int))) = true) ∧ (((decide (k < (l.length : Int))) = true → (0 : Int) ≤ k)) ∧ (((decide (k < (l.length : Int))) = true → (k : Int) < l.length)) ∧ ((decide (k < (l.length : Int))) = true → (decide (k < (l.length : Int))) = true) ∧ (((decide (k < (l.length : Int))) = true → k.toNat < l.length)) ∧ ((decide (k < (l.length : Int))) = true → (decide (k < (l.length : Int))) = true) ∧ ((decide (k < (l.length : Int))) = true → (decide (k < (l.length : Int))) = true) ∧ (true = true) ∧ (((decide (k < (l.length : Int))) = true → (decide (k < (l.length : Int))) = true)) ∧ (((decide (k < (l.length : Int))) = false → true = true)) ∧ (((cond (decide (k < (l.length : Int))) ((l.getD k.toNat 0) == n) false) = true → (((l : List Int) = (putL l n)))) ∧ ((cond (decide (k < (l.length : Int))) ((l.getD k.toNat 0) == n) false) = false → (true = true) ∧ ((0 : Int) ≤ k) ∧ ((k : Int) ≤ l.length) ∧ ((0 : Nat) = 0) ∧ (True) ∧ ((0 + ((l.take k.toNat).drop 0).length) * 8 ≤ 140737488355328) ∧ ((0 + ((l.take k.toNat).drop 0).length) = ([] ++ ((l.take k.toNat).drop 0)).length) ∧ (True) ∧ ((([] ++ ((l.take k.toNat).drop 0)).length + 1) * 8 ≤ 140737488355328) ∧ ((0 : Int) ≤ k) ∧ ((k : Int) ≤ l.length) ∧ (((0 + ((l.take k.toNat).drop 0).length) + 1) = (([] ++ ((l.take k.toNat).drop 0)) ++ [n]).length) ∧ (True) ∧ (((([] ++ ((l.take k.toNat).drop 0)) ++ [n]).length + ((l.take l.length).drop k.toNat).length) * 8 ≤ 140737488355328) ∧ (((((0 + ((l.take k.toNat).drop 0).length) + 1) + ((l.take l.length).drop k.toNat).length) = ((([] ++ ((l.take k.toNat).drop 0)) ++ [n]) ++ ((l.take l.length).drop k.toNat)).length) ∧ ((((([] ++ ((l.take k.toNat).drop 0)) ++ [n]) ++ ((l.take l.length).drop k.toNat)) : List Int) = (putL l n)))))))))
theorem s_l1Put_vc (l : List Int) (n : Int) (hl : l.length ≤ 1048576) (w_l : (l.length : Int) ≤ 9223372036854775807) : s_l1Put_P l n := by
  unfold s_l1Put_P
  refine ⟨?_, ?_⟩
  · refine ⟨0, ?_⟩
    refine ⟨?_, rfl, rfl, rfl⟩
    · refine ⟨?_, ?_, ?_⟩
      · first | omega | rfl | (intro hg; simp only [nrmT] at hg; omega) | (intro g1 g2; simp [g1, g2]; done) | (intro g1; simp at g1 ⊢; simp [g1]; done) | (simp only [nrmT] at *; omega) | (simp at * <;> omega) | (simp_all <;> omega) | (simp_all; done)
      · first | omega | rfl | (intro hg; simp only [nrmT] at hg; omega) | (intro g1 g2; simp [g1, g2]; done) | (intro g1; simp at g1 ⊢; simp [g1]; done) | (simp only [nrmT] at *; omega) | (simp at * <;> omega) | (simp_all <;> omega) | (simp_all; done)
      · first | omega | rfl | (intro hg; simp only [nrmT] at hg; omega) | (intro g1 g2; simp [g1, g2]; done) | (intro g1; simp at g1 ⊢; simp [g1]; done) | (simp only [nrmT] at *; omega) | (simp at * <;> omega) | (simp_all <;> omega) | (simp_all; done)
  · intro k hJ
    obtain ⟨h1, h2, h3⟩ := hJ
    refine ⟨id, id, ?_, ?_, id, ?_, id, id, rfl, id, fun _ => rfl, ?_, ?_⟩
    · first | omega | rfl | (intro hg; simp only [nrmT] at hg; omega) | (intro g1 g2; simp [g1, g2]; done) | (intro g1; simp at g1 ⊢; simp [g1]; done) | (simp only [nrmT] at *; omega) | (simp at * <;> omega) | (simp_all <;> omega) | (simp_all; done)
    · first | omega | rfl | (intro hg; simp only [nrmT] at hg; omega) | (intro g1 g2; simp [g1, g2]; done) | (intro g1; simp at g1 ⊢; simp [g1]; done) | (simp only [nrmT] at *; omega) | (simp at * <;> omega) | (simp_all <;> omega) | (simp_all; done)
    · first | omega | rfl | (intro hg; simp only [nrmT] at hg; omega) | (intro g1 g2; simp [g1, g2]; done) | (intro g1; simp at g1 ⊢; simp [g1]; done) | (simp only [nrmT] at *; omega) | (simp at * <;> omega) | (simp_all <;> omega) | (simp_all; done)
    · intro b1
      refine ⟨?_, ?_⟩
      · have h5 : k < (l.length : Int) ∧ l.getD k.toNat 0 < n := by
          revert b1; by_cases h : k < (l.length : Int)
          · rw [decide_eq_true h]; intro g; exact ⟨h, by simpa using g⟩
          · rw [decide_eq_false h]; intro g; cases g
        omega
      · refine ⟨(k + 1), ?_⟩
        refine ⟨?_, ?_, rfl, rfl, rfl⟩
        · refine ⟨?_, ?_, ?_⟩
          · omega
          · have h5 : k < (l.length : Int) ∧ l.getD k.toNat 0 < n := by
              revert b1; by_cases h : k < (l.length : Int)
              · rw [decide_eq_true h]; intro g; exact ⟨h, by simpa using g⟩
              · rw [decide_eq_false h]; intro g; cases g
            omega
          · have h5 : k < (l.length : Int) ∧ l.getD k.toNat 0 < n := by
              revert b1; by_cases h : k < (l.length : Int)
              · rw [decide_eq_true h]; intro g; exact ⟨h, by simpa using g⟩
              · rw [decide_eq_false h]; intro g; cases g
            intro j hj
            by_cases e : j = k.toNat
            · rw [e]; exact h5.2
            · exact h3 j (by omega)
        · have h5 : k < (l.length : Int) ∧ l.getD k.toNat 0 < n := by
            revert b1; by_cases h : k < (l.length : Int)
            · rw [decide_eq_true h]; intro g; exact ⟨h, by simpa using g⟩
            · rw [decide_eq_false h]; intro g; cases g
          first | (show _ < _; omega) | (simp only [s_l1Put_mJ0]; omega) | (simp only [s_l1Put_mJ0] at *; simp at *; omega)
    · intro b2
      refine ⟨id, id, ?_, ?_, id, ?_, id, id, rfl, id, fun _ => rfl, ?_, ?_⟩
      · first | omega | rfl | (intro hg; simp only [nrmT] at hg; omega) | (intro g1 g2; simp [g1, g2]; done) | (intro g1; simp at g1 ⊢; simp [g1]; done) | (simp only [nrmT] at *; omega) | (simp at * <;> omega) | (simp_all <;> omega) | (simp_all; done)
      · first | omega | rfl | (intro hg; simp only [nrmT] at hg; omega) | (intro g1 g2; simp [g1, g2]; done) | (intro g1; simp at g1 ⊢; simp [g1]; done) | (simp only [nrmT] at *; omega) | (simp at * <;> omega) | (simp_all <;> omega) | (simp_all; done)
      · first | omega | rfl | (intro hg; simp only [nrmT] at hg; omega) | (intro g1 g2; simp [g1, g2]; done) | (intro g1; simp at g1 ⊢; simp [g1]; done) | (simp only [nrmT] at *; omega) | (simp at * <;> omega) | (simp_all <;> omega) | (simp_all; done)
      · intro b3
        have h6 : k.toNat < l.length → ¬ l.getD k.toNat 0 < n := by
          intro g1 g2
          rw [decide_eq_true (show k < (l.length : Int) by omega), decide_eq_true g2] at b2
          cases b2
        have h7 : k < (l.length : Int) ∧ l.getD k.toNat 0 = n := by
          revert b3; by_cases h : k < (l.length : Int)
          · rw [decide_eq_true h]; intro g; exact ⟨h, by simpa using g⟩
          · rw [decide_eq_false h]; intro g; cases g
        rw [putL_at l n k.toNat (by omega) h3 h6, if_pos ⟨by omega, h7.2⟩]
      · intro b4
        refine ⟨rfl, ?_, ?_, rfl, trivial, ?_, ?_, trivial, ?_, ?_, ?_, ?_, trivial, ?_, ?_, ?_⟩
        · first | omega | rfl | (intro hg; simp only [nrmT] at hg; omega) | (intro g1 g2; simp [g1, g2]; done) | (intro g1; simp at g1 ⊢; simp [g1]; done) | (simp only [nrmT] at *; omega) | (simp at * <;> omega) | (simp_all <;> omega) | (simp_all; done)
        · first | omega | rfl | (intro hg; simp only [nrmT] at hg; omega) | (intro g1 g2; simp [g1, g2]; done) | (intro g1; simp at g1 ⊢; simp [g1]; done) | (simp only [nrmT] at *; omega) | (simp at * <;> omega) | (simp_all <;> omega) | (simp_all; done)
        · first | (simp only [List.length_append, List.length_take, List.length_drop, List.length_cons, List.length_nil]; done) | (simp only [List.length_append, List.length_take, List.length_drop, List.length_cons, List.length_nil]; omega)
        · first | (simp only [List.length_append, List.length_take, List.length_drop, List.length_cons, List.length_nil]; done) | (simp only [List.length_append, List.length_take, List.length_drop, List.length_cons, List.length_nil]; omega)
        · first | (simp only [List.length_append, List.length_take, List.length_drop, List.length_cons, List.length_nil]; done) | (simp only [List.length_append, List.length_take, List.length_drop, List.length_cons, List.length_nil]; omega)
        · first | omega | rfl | (intro hg; simp only [nrmT] at hg; omega) | (intro g1 g2; simp [g1, g2]; done) | (intro g1; simp at g1 ⊢; simp [g1]; done) | (simp only [nrmT] at *; omega) | (simp at * <;> omega) | (simp_all <;> omega) | (simp_all; done)
        · first | omega | rfl | (intro hg; simp only [nrmT] at hg; omega) | (intro g1 g2; simp [g1, g2]; done) | (intro g1; simp at g1 ⊢; simp [g1]; done) | (simp only [nrmT] at *; omega) | (simp at * <;> omega) | (simp_all <;> omega) | (simp_all; done)
        · first | (simp only [List.length_append, List.length_take, List.length_drop, List.length_cons, List.length_nil]; done) | (simp only [List.length_append, List.length_take, List.length_drop, List.length_cons, List.length_nil]; omega)
        · first | (simp only [List.length_append, List.length_take, List.length_drop, List.length_cons, List.length_nil]; done) | (simp only [List.length_append, List.length_take, List.length_drop, List.length_cons, List.length_nil]; omega)
        · first | (simp only [List.length_append, List.length_take, List.length_drop, List.length_cons, List.length_nil]; done) | (simp only [List.length_append, List.length_take, List.length_drop, List.length_cons, List.length_nil]; omega)
        · have h6 : k.toNat < l.length → ¬ l.getD k.toNat 0 < n := by
            intro g1 g2
            rw [decide_eq_true (show k < (l.length : Int) by omega), decide_eq_true g2] at b2
            cases b2
          have h7 : ¬ (k.toNat < l.length ∧ l.getD k.toNat 0 = n) := by
            rintro ⟨g1, g2⟩
            rw [decide_eq_true (show k < (l.length : Int) by omega), g2] at b4
            simp at b4
          rw [putL_at l n k.toNat (by omega) h3 h6, if_neg h7]
          simp
theorem s_l1Put_pc (l : List Int) (n : Int) (hl : l.length ≤ 1048576) : PCs Try.prog 202 [.sl (.ints l), .int .i64 n] 0 (.sl (.ints (putL l n))) :=
  pcs_wf @Try.call202 fun hw => pcs_by (by kernel_rfl) Try.func202 @Try.call202 (by kernel_rfl) s_l1Put_C (s_l1Put_A l n) (by kernel_rfl) (s_l1Put_vc l n hl hw.1) (by kernel_rfl)
def s_l1Put_orc : List D → Orc := orcS 0 fun ds => match ds with
  | [.sl (.ints l), .int .i64 n] => some (.sl (.ints (putL l n)))
  | _ => none
theorem getD_get {α : Type} {xs : List α} {k : Nat} {d : α} (h : k < xs.length) : xs.getD k d = xs[k] := by simp [h]
theorem has_end {xs : List Int} {x i : Int} (h2 : (xs.length : Int) ≤ i) (h3 : ∀ k, k < i.toNat → (fun y => x == y) (xs.getD k 0) = false) : xs.contains x = false := by
  rw [List.contains_eq_any_beq, List.any_eq_false]
  intro y hy
  obtain ⟨k, hk, rfl⟩ := List.mem_iff_getElem.1 hy
  have := h3 k (by omega)
  simp [hk] at this
  simpa using this
theorem has_found {xs : List Int} {x i : Int} (h1 : 0 ≤ i) (h2 : i < (xs.length : Int)) (h : xs.getD i.toNat 0 = x) : xs.contains x = true := by
  rw [List.contains_iff_mem, ← h]; exact getD_memI h1 h2
def i_Field_isSet_C (f : FuncId) (ds : List D) : Orc := bif Nat.beq f 130 then i_isRising_orc ds else .no
def i_Field_isSet_A (Open : List Int) (Dist : List (List Int)) (set : List Int) : Ann := .none
def i_Field_isSet_P (Open : List Int) (Dist : List (List Int)) (set : List Int) : Prop :=
  ((decide ((set.length : Int) > 0)) = true → (decide ((set.length : Int) > 0)) = true) ∧ ((decide ((set.length : Int) > 0)) = true → (decide ((set.length : Int) > 0)) = true) ∧ ((decide ((set.length : Int) > 0)) = true → (decide ((set.length : Int) > 0)) = true) ∧ ((decide ((set.length : Int) > 0)) = true → (decide ((set.length : Int) > 0)) = true) ∧ ((decide ((set.length : Int) > 0)) = true → PC Try.prog 130 [.sl (.ints set), .int .i64 (Open.length : Int)] (.one (.d (.bool (rising set 0 ((Open.length : Int) - 1)))))) ∧ (true = true) ∧ (((decide ((set.length : Int) > 0)) = true → (decide ((set.length : Int) > 0)) = true)) ∧ (((decide ((set.length : Int) > 0)) = false → true = true)) ∧ (((cond (decide ((set.length : Int) > 0)) (rising set 0 ((Open.length : Int) - 1)) false) = (rising set 0 ((Open.length : Int) - 1) && decide (0 < set.length))))
theorem i_Field_isSet_vc (Open : List Int) (Dist : List (List Int)) (set : List Int)  (w_Open : (Open.length : Int) ≤ 9223372036854775807) (w_Dist : (Dist.length : Int) ≤ 9223372036854775807) (v_Dist : ∀ x9 ∈ Dist, (x9.length : Int) ≤ 9223372036854775807) (w_set : (set.length : Int) ≤ 9223372036854775807) : i_Field_isSet_P Open Dist set := by
  unfold i_Field_isSet_P
  refine ⟨id, id, id, id, ?_, rfl, id, fun _ => rfl, ?_⟩
  · intro hg
    refine i_isRising_pc set (Open.length : Int) ?_
    · first | omega | rfl | (intro hg; simp only [nrmT] at hg; omega) | (intro g1 g2; simp [g1, g2]; done) | (intro g1; simp at g1 ⊢; simp [g1]; done) | (simp only [nrmT] at *; omega) | (simp at * <;> omega) | (simp_all <;> omega) | (simp_all; done)
  · rw [(show decide ((set.length : Int) > 0) = decide (0 < set.length) by rw [Bool.eq_iff_iff]; simp only [decide_eq_true_eq]; omega)]
    cases rising set 0 ((Open.length : Int) - 1) <;> cases decide (0 < set.length) <;> rfl
theorem i_Field_isSet_pc (Open : List Int) (Dist : List (List Int)) (set : List Int)  : PC Try.prog 211 [.agg [.sl (.ints Open), .sl (.rows Dist)], .sl (.ints set)] (.one (.d (.bool (rising set 0 ((Open.length : Int) - 1) && decide (0 < set.length))))) :=
  pc_wf @Try.call211 fun hw => pc_by (by kernel_rfl) Try.func211 @Try.call211 (by kernel_rfl) i_Field_isSet_C (i_Field_isSet_A Open Dist set) (by kernel_rfl) (i_Field_isSet_vc Open Dist set hw.1.1 hw.1.2.1.1 hw.1.2.1.2 hw.2.1) (by kernel_rfl)
def i_Field_isSet_orc : List D → Orc := orcN [none, some .ints] fun ds => match ds with
  | [.agg [.sl (.ints Open), .sl (.rows Dist)], .sl (.ints set)] => some (.one (.d (.bool (rising set 0 ((Open.length : Int) - 1) && decide (0 < set.length)))))
  | _ => none
def i_isOpened_C (f : FuncId) (ds : List D) : Orc := bif Nat.beq f 119 then i_IsField_orc ds else bif Nat.beq f 211 then i_Field_isSet_orc ds else .no
def i_isOpened_A (Open : List Int) (Dist : List (List Int)) (set : List Int) : Ann := .none
def i_isOpened_P (Open : List Int) (Dist : List (List Int)) (set : List Int) : Prop :=
  (PC Try.prog 119 [.agg [.sl (.ints Open), .sl (.rows Dist)]] (.one (.d (.bool (goodField Open Dist))))) ∧ ((goodField Open Dist) = true → (goodField Open Dist) = true) ∧ ((goodField Open Dist) = true → (goodField Open Dist) = true) ∧ ((goodField Open Dist) = true → PC Try.prog 211 [.agg [.sl (.ints Open), .sl (.rows Dist)], .sl (.ints set)] (.one (.d (.bool (rising set 0 ((Open.length : Int) - 1) && decide (0 < set.length)))))) ∧ (true = true) ∧ (((goodField Open Dist) = true → (goodField Open Dist) = true)) ∧ (((goodField Open Dist) = false → true = true)) ∧ (((cond (goodField Open Dist) (rising set 0 ((Open.length : Int) - 1) && decide (0 < set.length)) false) = (goodField Open Dist && rising set 0 ((Open.length : Int) - 1) && decide (0 < set.length))))
theorem i_isOpened_vc (Open : List Int) (Dist : List (List Int)) (set : List Int)  (w_Open : (Open.length : Int) ≤ 9223372036854775807) (w_Dist : (Dist.length : Int) ≤ 9223372036854775807) (v_Dist : ∀ x9 ∈ Dist, (x9.length : Int) ≤ 9223372036854775807) (w_set : (set.length : Int) ≤ 9223372036854775807) : i_isOpened_P Open Dist set := by
  unfold i_isOpened_P
  refine ⟨i_IsField_pc Open Dist, id, id, fun _ => i_Field_isSet_pc Open Dist set, rfl, id, fun _ => rfl, ?_⟩
  · cases goodField Open Dist <;> cases rising set 0 ((Open.length : Int) - 1) <;> cases decide (0 < set.length) <;> rfl
theorem i_isOpened_pc (Open : List Int) (Dist : List (List Int)) (set : List Int)  : PC Try.prog 136 [.agg [.sl (.ints Open), .sl (.rows Dist)], .sl (.ints set)] (.one (.d (.bool (goodField Open Dist && rising set 0 ((Open.length : Int) - 1) && decide (0 < set.length))))) :=
  pc_wf @Try.call136 fun hw => pc_by (by kernel_rfl) Try.func136 @Try.call136 (by kernel_rfl) i_isOpened_C (i_isOpened_A Open Dist set) (by kernel_rfl) (i_isOpened_vc Open Dist set hw.1.1 hw.1.2.1.1 hw.1.2.1.2 hw.2.1) (by kernel_rfl)
def i_isOpened_orc : List D → Orc := orcN [none, some .ints] fun ds => match ds with
  | [.agg [.sl (.ints Open), .sl (.rows Dist)], .sl (.ints set)] => some (.one (.d (.bool (goodField Open Dist && rising set 0 ((Open.length : Int) - 1) && decide (0 < set.length)))))
  | _ => none
theorem two_facts {Open set : List Int} {Dist : List (List Int)} (h : (goodField Open Dist && rising set 0 ((Open.length : Int) - 1) && decide (0 < set.length)) = true) :
    goodField Open Dist = true ∧ rising set 0 ((Open.length : Int) - 1) = true ∧ 0 < set.length := by
  simp only [Bool.and_eq_true, decide_eq_true_eq] at h
  exact ⟨h.1.1, h.1.2, h.2⟩
theorem lt62 {b x : Int} (hb : 0 ≤ b ∧ b ≤ 4611686018427387903) (h2 : x ≤ 62) (h : 0 < b / 2 ^ x.toNat) : x < 62 := by
  by_cases e : x = 62
  · subst e
    have e2 : (2 : Int) ^ (62 : Int).toNat = 4611686018427387904 := by decide
    rw [e2] at h
    omega
  · omega
theorem bit_out {b : Int} {m : Nat} (hb : 0 ≤ b) (h : ¬ 0 < b / 2 ^ m) (k : Nat) (hk : m ≤ k) : b.toNat.testBit k = false := by
  have h1 : b.toNat / 2 ^ m = 0 := by
    have h2 : ((b.toNat / 2 ^ m : Nat) : Int) = b / 2 ^ m := by
      rw [Int.natCast_ediv, Int.toNat_of_nonneg hb]; simp
    have h3 : (0 : Int) ≤ ((b.toNat / 2 ^ m : Nat) : Int) := Int.natCast_nonneg _
    omega
  have h4 : b.toNat < 2 ^ m := (Nat.div_eq_zero_iff_lt (Nat.two_pow_pos m)).1 h1
  exact Nat.testBit_lt_two_pow (Nat.lt_of_lt_of_le h4 (Nat.pow_le_pow_right (by omega) hk))
theorem members_stop {p : Nat → Bool} {m : Nat} (h : ∀ k, m ≤ k → p k = false) : ∀ n, m ≤ n → members p n = members p m
  | 0, hn => by have : m = 0 := by omega
                rw [this]
  | n + 1, hn => by
    by_cases e : m = n + 1
    · rw [e]
    · rw [members_succ, members_stop h n (by omega), h n (by omega)]; simp
def siteF (row set : List Int) (b : Int) (k : Nat) : Int := if row.getD (set.getD k 0).toNat 0 < row.getD b.toNat 0 then set.getD k 0 else b
def siteTo (row set : List Int) (k : Nat) : Int := foldTo (siteF row set) (set.getD 0 0) k
theorem siteTo_succ (row set : List Int) (k : Nat) : siteTo row set (k + 1) = siteF row set (siteTo row set k) k := rfl
theorem siteTo_in {row set : List Int} {n : Int} (h : ∀ k, k < set.length → 0 ≤ set.getD k 0 ∧ set.getD k 0 < n) (hp : 0 < set.length) : ∀ k, k ≤ set.length → 0 ≤ siteTo row set k ∧ siteTo row set k < n
  | 0, _ => h 0 hp
  | k + 1, hk => by
    rw [siteTo_succ]
    unfold siteF
    split
    · exact h k (by omega)
    · exact siteTo_in h hp k (by omega)
abbrev i_Field_server_JJ0 (Open : List Int) (Dist : List (List Int)) (client : Int) (set : List Int) (best : Int) (k : Int) : Prop := (0 ≤ k) ∧ (k ≤ (set.length : Int)) ∧ (best = siteTo (Dist.getD client.toNat []) set k.toNat)
abbrev i_Field_server_mJ0 (Open : List Int) (Dist : List (List Int)) (client : Int) (set : List Int) (best : Int) (k : Int) : Nat := (set.length - k).toNat
def i_Field_server_C (f : FuncId) (ds : List D) : Orc := .no
def i_Field_server_A (Open : List Int) (Dist : List (List Int)) (client : Int) (set : List Int) : Ann := .two (.none) (.two (.none) (.two (.two (.none) (.loop (cut2 (fun (best : Int) (k : Int) => i_Field_server_JJ0 Open Dist client set best k) (fun (best : Int) (k : Int) => [(1, .d false (.int .i64 client)), (3, .ptr 3 0), (7, .d true (.int .i64 best)), (13, .d false (.sl (.ints set))), (14, .d true (.int .i64 (set.length : Int))), (15, .d true (.int .i64 k))]) (fun (best : Int) (k : Int) => [(3, .box 39 [.d false (.sl (.ints Open)), .d false (.sl (.rows Dist))])])) (fun g => i_Field_server_mJ0 Open Dist client set g.1 g.2) (fun _ => .none))) (.none)))
def i_Field_server_P (Open : List Int) (Dist : List (List Int)) (client : Int) (set : List Int) : Prop :=
  ((0 : Int) ≤ 0) ∧ ((0 : Int) < set.length) ∧ (0 < set.length) ∧ ((∃ best' : Int, ∃ k' : Int, (i_Field_server_JJ0 Open Dist client set best' k') ∧ (client = client) ∧ ((set.getD 0 0) = best') ∧ (set = set) ∧ ((set.length : Int) = (set.length : Int)) ∧ ((0 : Int) = k') ∧ (Open = Open) ∧ (Dist = Dist)) ∧ (∀ best : Int, ∀ k : Int, (i_Field_server_JJ0 Open Dist client set best k) → (((decide (k < (set.length : Int))) = true → ((0 : Int) ≤ k) ∧ ((k : Int) < set.length) ∧ (k.toNat < set.length) ∧ (true = true) ∧ ((0 : Int) ≤ client) ∧ ((client : Int) < Dist.length) ∧ (client.toNat < Dist.length) ∧ ((0 : Int) ≤ (set.getD k.toNat 0)) ∧ (((set.getD k.toNat 0) : Int) < (Dist.getD client.toNat []).length) ∧ ((set.getD k.toNat 0).toNat < (Dist.getD client.toNat []).length) ∧ ((0 : Int) ≤ client) ∧ ((client : Int) < Dist.length) ∧ (client.toNat < Dist.length) ∧ ((0 : Int) ≤ best) ∧ ((best : Int) < (Dist.getD client.toNat []).length) ∧ (best.toNat < (Dist.getD client.toNat []).length) ∧ (((decide (((Dist.getD client.toNat []).getD ((set.getD k.toNat 0).toNat) 0) < ((Dist.getD client.toNat []).getD best.toNat 0))) = true → (-9223372036854775808 ≤ (k + 1) ∧ (k + 1) ≤ 9223372036854775807) ∧ (∃ best' : Int, ∃ k' : Int, (i_Field_server_JJ0 Open Dist client set best' k') ∧ (i_Field_server_mJ0 Open Dist client set best' k' < i_Field_server_mJ0 Open Dist client set best k) ∧ (client = client) ∧ ((set.getD k.toNat 0) = best') ∧ (set = set) ∧ ((set.length : Int) = (set.length : Int)) ∧ ((k + 1) = k') ∧ (Open = Open) ∧ (Dist = Dist))) ∧ ((decide (((Dist.getD client.toNat []).getD ((set.getD k.toNat 0).toNat) 0) < ((Dist.getD client.toNat []).getD best.toNat 0))) = false → (-9223372036854775808 ≤ (k + 1) ∧ (k + 1) ≤ 9223372036854775807) ∧ (∃ best' : Int, ∃ k' : Int, (i_Field_server_JJ0 Open Dist client set best' k') ∧ (i_Field_server_mJ0 Open Dist client set best' k' < i_Field_server_mJ0 Open Dist client set best k) ∧ (client = client) ∧ (best = best') ∧ (set = set) ∧ ((set.length : Int) = (set.length : Int)) ∧ ((k + 1) = k') ∧ (Open = Open) ∧ (Dist = Dist))))) ∧ ((decide (k < (set.length : Int))) = false → ((best = (siteTo (Dist.getD client.toNat []) set set.length)))))))
theorem i_Field_server_vc (Open : List Int) (Dist : List (List Int)) (client : Int) (set : List Int) (ht : (goodField Open Dist && rising set 0 ((Open.length : Int) - 1) && decide (0 < set.length)) = true) (hc : 0 ≤ client ∧ client < (Dist.length : Int)) (w_Open : (Open.length : Int) ≤ 9223372036854775807) (w_Dist : (Dist.length : Int) ≤ 9223372036854775807) (v_Dist : ∀ x9 ∈ Dist, (x9.length : Int) ≤ 9223372036854775807) (w_set : (set.length : Int) ≤ 9223372036854775807) : i_Field_server_P Open Dist client set := by
  unfold i_Field_server_P
  obtain ⟨hg, hs, hp⟩ := two_facts ht
  obtain ⟨g1, g2, g3⟩ := gf_open hg
  have cs := fun k => rising_at hs k
  obtain ⟨rl, rb⟩ := gf_row (i := client.toNat) hg (by omega)
  have si := siteTo_in (row := Dist.getD client.toNat []) (set := set) (n := (Open.length : Int)) (fun k hk => by have := cs k hk; omega) hp
  refine ⟨?_, ?_, ?_, ?_, ?_⟩
  · first | omega | rfl | (intro hg; simp only [nrmT] at hg; omega) | (intro g1 g2; simp [g1, g2]; done) | (intro g1; simp at g1 ⊢; simp [g1]; done) | (simp only [nrmT] at *; omega) | (simp at * <;> omega) | (simp_all <;> omega) | (simp_all; done)
  · first | omega | rfl | (intro hg; simp only [nrmT] at hg; omega) | (intro g1 g2; simp [g1, g2]; done) | (intro g1; simp at g1 ⊢; simp [g1]; done) | (simp only [nrmT] at *; omega) | (simp at * <;> omega) | (simp_all <;> omega) | (simp_all; done)
  · first | omega | rfl | (intro hg; simp only [nrmT] at hg; omega) | (intro g1 g2; simp [g1, g2]; done) | (intro g1; simp at g1 ⊢; simp [g1]; done) | (simp only [nrmT] at *; omega) | (simp at * <;> omega) | (simp_all <;> omega) | (simp_all; done)
  · refine ⟨(set.getD 0 0), 0, ?_⟩
    refine ⟨?_, rfl, rfl, rfl, rfl, rfl, rfl, rfl⟩
    · refine ⟨?_, ?_, ?_⟩
      · first | omega | rfl | (intro hg; simp only [nrmT] at hg; omega) | (intro g1 g2; simp [g1, g2]; done) | (intro g1; simp at g1 ⊢; simp [g1]; done) | (simp only [nrmT] at *; omega) | (simp at * <;> omega) | (simp_all <;> omega) | (simp_all; done)
      · first | omega | rfl | (intro hg; simp only [nrmT] at hg; omega) | (intro g1 g2; simp [g1, g2]; done) | (intro g1; simp at g1 ⊢; simp [g1]; done) | (simp only [nrmT] at *; omega) | (simp at * <;> omega) | (simp_all <;> omega) | (simp_all; done)
      · rfl
  · intro best k hJ
    obtain ⟨h1, h2, h3⟩ := hJ
    refine ⟨?_, ?_⟩
    · intro b1
      try simp only [nrmT] at b1
      refine ⟨?_, ?_, ?_, rfl, ?_, ?_, ?_, ?_, ?_, ?_, ?_, ?_, ?_, ?_, ?_, ?_, ?_, ?_⟩
      · first | omega | rfl | (intro hg; simp only [nrmT] at hg; omega) | (intro g1 g2; simp [g1, g2]; done) | (intro g1; simp at g1 ⊢; simp [g1]; done) | (simp only [nrmT] at *; omega) | (simp at * <;> omega) | (simp_all <;> omega) | (simp_all; done)
      · first | omega | rfl | (intro hg; simp only [nrmT] at hg; omega) | (intro g1 g2; simp [g1, g2]; done) | (intro g1; simp at g1 ⊢; simp [g1]; done) | (simp only [nrmT] at *; omega) | (simp at * <;> omega) | (simp_all <;> omega) | (simp_all; done)
      · first | omega | rfl | (intro hg; simp only [nrmT] at hg; omega) | (intro g1 g2; simp [g1, g2]; done) | (intro g1; simp at g1 ⊢; simp [g1]; done) | (simp only [nrmT] at *; omega) | (simp at * <;> omega) | (simp_all <;> omega) | (simp_all; done)
      · first | omega | rfl | (intro hg; simp only [nrmT] at hg; omega) | (intro g1 g2; simp [g1, g2]; done) | (intro g1; simp at g1 ⊢; simp [g1]; done) | (simp only [nrmT] at *; omega) | (simp at * <;> omega) | (simp_all <;> omega) | (simp_all; done)
      · first | omega | rfl | (intro hg; simp only [nrmT] at hg; omega) | (intro g1 g2; simp [g1, g2]; done) | (intro g1; simp at g1 ⊢; simp [g1]; done) | (simp only [nrmT] at *; omega) | (simp at * <;> omega) | (simp_all <;> omega) | (simp_all; done)
      · first | omega | rfl | (intro hg; simp only [nrmT] at hg; omega) | (intro g1 g2; simp [g1, g2]; done) | (intro g1; simp at g1 ⊢; simp [g1]; done) | (simp only [nrmT] at *; omega) | (simp at * <;> omega) | (simp_all <;> omega) | (simp_all; done)
      · have := cs k.toNat (by omega)
        omega
      · have := cs k.toNat (by omega)
        omega
      · have := cs k.toNat (by omega)
        omega
      · first | omega | rfl | (intro hg; simp only [nrmT] at hg; omega) | (intro g1 g2; simp [g1, g2]; done) | (intro g1; simp at g1 ⊢; simp [g1]; done) | (simp only [nrmT] at *; omega) | (simp at * <;> omega) | (simp_all <;> omega) | (simp_all; done)
      · first | omega | rfl | (intro hg; simp only [nrmT] at hg; omega) | (intro g1 g2; simp [g1, g2]; done) | (intro g1; simp at g1 ⊢; simp [g1]; done) | (simp only [nrmT] at *; omega) | (simp at * <;> omega) | (simp_all <;> omega) | (simp_all; done)
      · first | omega | rfl | (intro hg; simp only [nrmT] at hg; omega) | (intro g1 g2; simp [g1, g2]; done) | (intro g1; simp at g1 ⊢; simp [g1]; done) | (simp only [nrmT] at *; omega) | (simp at * <;> omega) | (simp_all <;> omega) | (simp_all; done)
      · have := si k.toNat (by omega)
        omega
      · have := si k.toNat (by omega)
        omega
      · have := si k.toNat (by omega)
        omega
      · intro b2
        try simp only [nrmT] at b2
        refine ⟨?_, ?_⟩
        · first | omega | rfl | (intro hg; simp only [nrmT] at hg; omega) | (intro g1 g2; simp [g1, g2]; done) | (intro g1; simp at g1 ⊢; simp [g1]; done) | (simp only [nrmT] at *; omega) | (simp at * <;> omega) | (simp_all <;> omega) | (simp_all; done)
        · refine ⟨(set.getD k.toNat 0), (k + 1), ?_⟩
          refine ⟨?_, ?_, rfl, rfl, rfl, rfl, rfl, rfl, rfl⟩
          · refine ⟨?_, ?_, ?_⟩
            · first | omega | rfl | (intro hg; simp only [nrmT] at hg; omega) | (intro g1 g2; simp [g1, g2]; done) | (intro g1; simp at g1 ⊢; simp [g1]; done) | (simp only [nrmT] at *; omega) | (simp at * <;> omega) | (simp_all <;> omega) | (simp_all; done)
            · first | omega | rfl | (intro hg; simp only [nrmT] at hg; omega) | (intro g1 g2; simp [g1, g2]; done) | (intro g1; simp at g1 ⊢; simp [g1]; done) | (simp only [nrmT] at *; omega) | (simp at * <;> omega) | (simp_all <;> omega) | (simp_all; done)
            · rw [show (k + 1).toNat = k.toNat + 1 by omega, siteTo_succ, ← h3]; unfold siteF; rw [if_pos b2]
          · first | (show _ < _; omega) | (simp only [i_Field_server_mJ0]; omega) | (simp only [i_Field_server_mJ0] at *; simp at *; omega)
      · intro b3
        try simp only [nrmT] at b3
        refine ⟨?_, ?_⟩
        · first | omega | rfl | (intro hg; simp only [nrmT] at hg; omega) | (intro g1 g2; simp [g1, g2]; done) | (intro g1; simp at g1 ⊢; simp [g1]; done) | (simp only [nrmT] at *; omega) | (simp at * <;> omega) | (simp_all <;> omega) | (simp_all; done)
        · refine ⟨best, (k + 1), ?_⟩
          refine ⟨?_, ?_, rfl, rfl, rfl, rfl, rfl, rfl, rfl⟩
          · refine ⟨?_, ?_, ?_⟩
            · first | omega | rfl | (intro hg; simp only [nrmT] at hg; omega) | (intro g1 g2; simp [g1, g2]; done) | (intro g1; simp at g1 ⊢; simp [g1]; done) | (simp only [nrmT] at *; omega) | (simp at * <;> omega) | (simp_all <;> omega) | (simp_all; done)
            · first | omega | rfl | (intro hg; simp only [nrmT] at hg; omega) | (intro g1 g2; simp [g1, g2]; done) | (intro g1; simp at g1 ⊢; simp [g1]; done) | (simp only [nrmT] at *; omega) | (simp at * <;> omega) | (simp_all <;> omega) | (simp_all; done)
            · rw [show (k + 1).toNat = k.toNat + 1 by omega, siteTo_succ, ← h3]; unfold siteF; rw [if_neg (by omega)]
          · first | (show _ < _; omega) | (simp only [i_Field_server_mJ0]; omega) | (simp only [i_Field_server_mJ0] at *; simp at *; omega)
    · intro b4
      try simp only [nrmT] at b4
      rw [h3, show k.toNat = set.length by omega]
theorem i_Field_server_pc (Open : List Int) (Dist : List (List Int)) (client : Int) (set : List Int) (ht : (goodField Open Dist && rising set 0 ((Open.length : Int) - 1) && decide (0 < set.length)) = true) (hc : 0 ≤ client ∧ client < (Dist.length : Int)) : PC Try.prog 240 [.agg [.sl (.ints Open), .sl (.rows Dist)], .int .i64 client, .sl (.ints set)] (.one (.d (.int .i64 (siteTo (Dist.getD client.toNat []) set set.length)))) :=
  pc_wf @Try.call240 fun hw => pc_by (by kernel_rfl) Try.func240 @Try.call240 (by kernel_rfl) i_Field_server_C (i_Field_server_A Open Dist client set) (by kernel_rfl) (i_Field_server_vc Open Dist client set ht hc hw.1.1 hw.1.2.1.1 hw.1.2.1.2 hw.2.2.1) (by kernel_rfl)
def i_Field_server_orc : List D → Orc := orcN [none, none, some .ints] fun ds => match ds with
  | [.agg [.sl (.ints Open), .sl (.rows Dist)], .int .i64 client, .sl (.ints set)] => some (.one (.d (.int .i64 (siteTo (Dist.getD client.toNat []) set set.length))))
  | _ => none
def servL (Dist : List (List Int)) (set : List Int) (n : Nat) : List Int := (List.range n).map fun i => siteTo (Dist.getD i []) set set.length
def lenAt (Dist : List (List Int)) (set : List Int) (i : Nat) : Int := (Dist.getD i []).getD (siteTo (Dist.getD i []) set set.length).toNat 0
def lensL (Dist : List (List Int)) (set : List Int) (n : Nat) : List Int := (List.range n).map (lenAt Dist set)
theorem servL_len (Dist : List (List Int)) (set : List Int) (n : Nat) : (servL Dist set n).length = n := by simp [servL]
theorem lensL_len (Dist : List (List Int)) (set : List Int) (n : Nat) : (lensL Dist set n).length = n := by simp [lensL]
theorem servL_getD (Dist : List (List Int)) (set : List Int) (n i : Nat) (h : i < n) : (servL Dist set n).getD i 0 = siteTo (Dist.getD i []) set set.length := by simp [servL, h]
theorem lensL_getD (Dist : List (List Int)) (set : List Int) (n i : Nat) (h : i < n) : (lensL Dist set n).getD i 0 = lenAt Dist set i := by simp [lensL, h]
theorem servL_succ (Dist : List (List Int)) (set : List Int) (n : Nat) : servL Dist set (n + 1) = servL Dist set n ++ [siteTo (Dist.getD n []) set set.length] := by simp [servL, List.range_succ]
theorem lensL_succ (Dist : List (List Int)) (set : List Int) (n : Nat) : lensL Dist set (n + 1) = lensL Dist set n ++ [lenAt Dist set n] := by simp [lensL, List.range_succ]
abbrev i_Field_served_JJ0 (Open : List Int) (Dist : List (List Int)) (set : List Int) (out : List Int) (i : Int) : Prop := (0 ≤ i) ∧ (i ≤ (Dist.length : Int)) ∧ (out = servL Dist set i.toNat)
abbrev i_Field_served_mJ0 (Open : List Int) (Dist : List (List Int)) (set : List Int) (out : List Int) (i : Int) : Nat := (Dist.length - i).toNat
def i_Field_served_C (f : FuncId) (ds : List D) : Orc := bif Nat.beq f 240 then i_Field_server_orc ds else .no
def i_Field_served_A (Open : List Int) (Dist : List (List Int)) (set : List Int) : Ann := .two (.none) (.two (.none) (.two (.two (.none) (.loop (cut2 (fun (out : List Int) (i : Int) => i_Field_served_JJ0 Open Dist set out i) (fun (out : List Int) (i : Int) => [(1, .d false (.sl (.ints set))), (2, .ptr 2 0), (5, .own 1000000 out.length), (10, .d true (.int .i64 (Dist.length : Int))), (11, .d true (.int .i64 i))]) (fun (out : List Int) (i : Int) => [(1000000, .arr true 3 (.ints out)), (2, .box 39 [.d false (.sl (.ints Open)), .d false (.sl (.rows Dist))])])) (fun g => i_Field_served_mJ0 Open Dist set g.1 g.2) (fun _ => .none))) (.none)))
def i_Field_served_P (Open : List Int) (Dist : List (List Int)) (set : List Int) : Prop :=
  ((∃ out' : List Int, ∃ i' : Int, (i_Field_served_JJ0 Open Dist set out' i') ∧ (set = set) ∧ ((0 : Nat) = out'.length) ∧ ((Dist.length : Int) = (Dist.length : Int)) ∧ ((0 : Int) = i') ∧ ([] = out') ∧ (Open = Open) ∧ (Dist = Dist)) ∧ (∀ out : List Int, ∀ i : Int, (i_Field_served_JJ0 Open Dist set out i) → (((decide (i < (Dist.length : Int))) = true → (PC Try.prog 240 [.agg [.sl (.ints Open), .sl (.rows Dist)], .int .i64 i, .sl (.ints set)] (.one (.d (.int .i64 (siteTo (Dist.getD i.toNat []) set set.length))))) ∧ (out.length = out.length) ∧ ((1 : Nat) = 1) ∧ ((out.length + 1) * 8 ≤ 140737488355328) ∧ (-9223372036854775808 ≤ (i + 1) ∧ (i + 1) ≤ 9223372036854775807) ∧ (∃ out' : List Int, ∃ i' : Int, (i_Field_served_JJ0 Open Dist set out' i') ∧ (i_Field_served_mJ0 Open Dist set out' i' < i_Field_served_mJ0 Open Dist set out i) ∧ (set = set) ∧ ((out.length + 1) = out'.length) ∧ ((Dist.length : Int) = (Dist.length : Int)) ∧ ((i + 1) = i') ∧ ((out ++ [(siteTo (Dist.getD i.toNat []) set set.length)]) = out') ∧ (Open = Open) ∧ (Dist = Dist))) ∧ ((decide (i < (Dist.length : Int))) = false → ((out.length = out.length) ∧ ((out : List Int) = servL Dist set Dist.length))))))
theorem i_Field_served_vc (Open : List Int) (Dist : List (List Int)) (set : List Int) (ht : (goodField Open Dist && rising set 0 ((Open.length : Int) - 1) && decide (0 < set.length)) = true) (w_Open : (Open.length : Int) ≤ 9223372036854775807) (w_Dist : (Dist.length : Int) ≤ 9223372036854775807) (v_Dist : ∀ x9 ∈ Dist, (x9.length : Int) ≤ 9223372036854775807) (w_set : (set.length : Int) ≤ 9223372036854775807) : i_Field_served_P Open Dist set := by
  unfold i_Field_served_P
  obtain ⟨hg, hs, hp⟩ := two_facts ht
  obtain ⟨g1, g2, g3⟩ := gf_open hg
  have cs := fun k => rising_at hs k
  have si := fun (i : Nat) (hi : i < Dist.length) => siteTo_in (row := Dist.getD i []) (set := set) (n := (Open.length : Int)) (fun k hk => by have := cs k hk; omega) hp set.length (Nat.le_refl _)
  refine ⟨?_, ?_⟩
  · refine ⟨([]), 0, ?_⟩
    refine ⟨?_, rfl, rfl, rfl, rfl, ?_, rfl, rfl⟩
    · refine ⟨?_, ?_, ?_⟩
      · first | omega | rfl | (intro hg; simp only [nrmT] at hg; omega) | (intro g1 g2; simp [g1, g2]; done) | (intro g1; simp at g1 ⊢; simp [g1]; done) | (simp only [nrmT] at *; omega) | (simp at * <;> omega) | (simp_all <;> omega) | (simp_all; done)
      · first | omega | rfl | (intro hg; simp only [nrmT] at hg; omega) | (intro g1 g2; simp [g1, g2]; done) | (intro g1; simp at g1 ⊢; simp [g1]; done) | (simp only [nrmT] at *; omega) | (simp at * <;> omega) | (simp_all <;> omega) | (simp_all; done)
      · first | omega | rfl | (intro hg; simp only [nrmT] at hg; omega) | (intro g1 g2; simp [g1, g2]; done) | (intro g1; simp at g1 ⊢; simp [g1]; done) | (simp only [nrmT] at *; omega) | (simp at * <;> omega) | (simp_all <;> omega) | (simp_all; done)
    · first | omega | rfl | (intro hg; simp only [nrmT] at hg; omega) | (intro g1 g2; simp [g1, g2]; done) | (intro g1; simp at g1 ⊢; simp [g1]; done) | (simp only [nrmT] at *; omega) | (simp at * <;> omega) | (simp_all <;> omega) | (simp_all; done)
  · intro out i hJ
    obtain ⟨h1, h2, h3⟩ := hJ
    refine ⟨?_, ?_⟩
    · intro b1
      try simp only [nrmT] at b1
      refine ⟨?_, rfl, rfl, ?_, ?_, ?_⟩
      · refine i_Field_server_pc Open Dist i set ?_ ?_
        · first | omega | rfl | (intro hg; simp only [nrmT] at hg; omega) | (intro g1 g2; simp [g1, g2]; done) | (intro g1; simp at g1 ⊢; simp [g1]; done) | (simp only [nrmT] at *; omega) | (simp at * <;> omega) | (simp_all <;> omega) | (simp_all; done)
        · first | omega | rfl | (intro hg; simp only [nrmT] at hg; omega) | (intro g1 g2; simp [g1, g2]; done) | (intro g1; simp at g1 ⊢; simp [g1]; done) | (simp only [nrmT] at *; omega) | (simp at * <;> omega) | (simp_all <;> omega) | (simp_all; done)
      · rw [h3, servL_len]; omega
      · first | omega | rfl | (intro hg; simp only [nrmT] at hg; omega) | (intro g1 g2; simp [g1, g2]; done) | (intro g1; simp at g1 ⊢; simp [g1]; done) | (simp only [nrmT] at *; omega) | (simp at * <;> omega) | (simp_all <;> omega) | (simp_all; done)
      · refine ⟨(out ++ [(siteTo (Dist.getD i.toNat []) set set.length)]), (i + 1), ?_⟩
        refine ⟨?_, ?_, rfl, ?_, rfl, rfl, rfl, rfl, rfl⟩
        · refine ⟨?_, ?_, ?_⟩
          · first | omega | rfl | (intro hg; simp only [nrmT] at hg; omega) | (intro g1 g2; simp [g1, g2]; done) | (intro g1; simp at g1 ⊢; simp [g1]; done) | (simp only [nrmT] at *; omega) | (simp at * <;> omega) | (simp_all <;> omega) | (simp_all; done)
          · first | omega | rfl | (intro hg; simp only [nrmT] at hg; omega) | (intro g1 g2; simp [g1, g2]; done) | (intro g1; simp at g1 ⊢; simp [g1]; done) | (simp only [nrmT] at *; omega) | (simp at * <;> omega) | (simp_all <;> omega) | (simp_all; done)
          · rw [h3, show (i + 1).toNat = i.toNat + 1 by omega, servL_succ]
        · first | (show _ < _; omega) | (simp only [i_Field_served_mJ0]; omega) | (simp only [i_Field_served_mJ0] at *; simp at *; omega)
        · first | omega | rfl | (intro hg; simp only [nrmT] at hg; omega) | (intro g1 g2; simp [g1, g2]; done) | (intro g1; simp at g1 ⊢; simp [g1]; done) | (simp only [nrmT] at *; omega) | (simp at * <;> omega) | (simp_all <;> omega) | (simp_all; done)
    · intro b2
      try simp only [nrmT] at b2
      refine ⟨rfl, ?_⟩
      · rw [h3, show i.toNat = Dist.length by omega]
theorem i_Field_served_pc (Open : List Int) (Dist : List (List Int)) (set : List Int) (ht : (goodField Open Dist && rising set 0 ((Open.length : Int) - 1) && decide (0 < set.length)) = true) : PC Try.prog 215 [.agg [.sl (.ints Open), .sl (.rows Dist)], .sl (.ints set)] (.one (.own 3 (.ints (servL Dist set Dist.length)))) :=
  pc_wf @Try.call215 fun hw => pc_by (by kernel_rfl) Try.func215 @Try.call215 (by kernel_rfl) i_Field_served_C (i_Field_served_A Open Dist set) (by kernel_rfl) (i_Field_served_vc Open Dist set ht hw.1.1 hw.1.2.1.1 hw.1.2.1.2 hw.2.1) (by kernel_rfl)
def i_Field_served_orc : List D → Orc := orcN [none, some .ints] fun ds => match ds with
  | [.agg [.sl (.ints Open), .sl (.rows Dist)], .sl (.ints set)] => some (.one (.own 3 (.ints (servL Dist set Dist.length))))
  | _ => none
abbrev i_Field_lengths_JJ0 (Open : List Int) (Dist : List (List Int)) (set : List Int) (out : List Int) (i : Int) : Prop := (0 ≤ i) ∧ (i ≤ (Dist.length : Int)) ∧ (out = lensL Dist set i.toNat)
abbrev i_Field_lengths_mJ0 (Open : List Int) (Dist : List (List Int)) (set : List Int) (out : List Int) (i : Int) : Nat := (Dist.length - i).toNat
def i_Field_lengths_C (f : FuncId) (ds : List D) : Orc := bif Nat.beq f 215 then i_Field_served_orc ds else .no
def i_Field_lengths_A (Open : List Int) (Dist : List (List Int)) (set : List Int) : Ann := .two (.none) (.two (.none) (.two (.two (.none) (.loop (cut2 (fun (out : List Int) (i : Int) => i_Field_lengths_JJ0 Open Dist set out i) (fun (out : List Int) (i : Int) => [(2, .ptr 2 0), (5, .own 1000000 out.length), (11, .own 11 ((servL Dist set Dist.length).length)), (12, .d true (.int .i64 (((servL Dist set Dist.length).length) : Int))), (13, .d true (.int .i64 i))]) (fun (out : List Int) (i : Int) => [(1000000, .arr true 3 (.ints out)), (2, .box 39 [.d false (.sl (.ints Open)), .d false (.sl (.rows Dist))]), (11, .arr true 3 (.ints (servL Dist set Dist.length)))])) (fun g => i_Field_lengths_mJ0 Open Dist set g.1 g.2) (fun _ => .none))) (.none)))
def i_Field_lengths_P (Open : List Int) (Dist : List (List Int)) (set : List Int) : Prop :=
  (PC Try.prog 215 [.agg [.sl (.ints Open), .sl (.rows Dist)], .sl (.ints set)] (.one (.own 3 (.ints (servL Dist set Dist.length))))) ∧ ((∃ out' : List Int, ∃ i' : Int, (i_Field_lengths_JJ0 Open Dist set out' i') ∧ ((0 : Nat) = out'.length) ∧ ((servL Dist set Dist.length).length = (servL Dist set Dist.length).length) ∧ ((((servL Dist set Dist.length).length) : Int) = (((servL Dist set Dist.length).length) : Int)) ∧ ((0 : Int) = i') ∧ ([] = out') ∧ (Open = Open) ∧ (Dist = Dist) ∧ (servL Dist set Dist.length = servL Dist set Dist.length)) ∧ (∀ out : List Int, ∀ i : Int, (i_Field_lengths_JJ0 Open Dist set out i) → (((decide (i < (((servL Dist set Dist.length).length) : Int))) = true → ((0 : Int) ≤ i) ∧ ((i : Int) < (((servL Dist set Dist.length).length) : Int)) ∧ (i.toNat < (servL Dist set Dist.length).length) ∧ ((0 : Int) ≤ i) ∧ ((i : Int) < Dist.length) ∧ (i.toNat < Dist.length) ∧ ((0 : Int) ≤ ((servL Dist set Dist.length).getD i.toNat 0)) ∧ ((((servL Dist set Dist.length).getD i.toNat 0) : Int) < (Dist.getD i.toNat []).length) ∧ (((servL Dist set Dist.length).getD i.toNat 0).toNat < (Dist.getD i.toNat []).length) ∧ (out.length = out.length) ∧ ((1 : Nat) = 1) ∧ ((out.length + 1) * 8 ≤ 140737488355328) ∧ (-9223372036854775808 ≤ (i + 1) ∧ (i + 1) ≤ 9223372036854775807) ∧ (∃ out' : List Int, ∃ i' : Int, (i_Field_lengths_JJ0 Open Dist set out' i') ∧ (i_Field_lengths_mJ0 Open Dist set out' i' < i_Field_lengths_mJ0 Open Dist set out i) ∧ ((out.length + 1) = out'.length) ∧ ((servL Dist set Dist.length).length = (servL Dist set Dist.length).length) ∧ ((((servL Dist set Dist.length).length) : Int) = (((servL Dist set Dist.length).length) : Int)) ∧ ((i + 1) = i') ∧ ((out ++ [((Dist.getD i.toNat []).getD (((servL Dist set Dist.length).getD i.toNat 0).toNat) 0)]) = out') ∧ (Open = Open) ∧ (Dist = Dist) ∧ (servL Dist set Dist.length = servL Dist set Dist.length))) ∧ ((decide (i < (((servL Dist set Dist.length).length) : Int))) = false → ((out.length = out.length) ∧ ((out : List Int) = lensL Dist set Dist.length))))))
theorem i_Field_lengths_vc (Open : List Int) (Dist : List (List Int)) (set : List Int) (ht : (goodField Open Dist && rising set 0 ((Open.length : Int) - 1) && decide (0 < set.length)) = true) (w_Open : (Open.length : Int) ≤ 9223372036854775807) (w_Dist : (Dist.length : Int) ≤ 9223372036854775807) (v_Dist : ∀ x9 ∈ Dist, (x9.length : Int) ≤ 9223372036854775807) (w_set : (set.length : Int) ≤ 9223372036854775807) : i_Field_lengths_P Open Dist set := by
  unfold i_Field_lengths_P
  obtain ⟨hg, hs, hp⟩ := two_facts ht
  obtain ⟨g1, g2, g3⟩ := gf_open hg
  have cs := fun k => rising_at hs k
  have si := fun (i : Nat) (hi : i < Dist.length) => siteTo_in (row := Dist.getD i []) (set := set) (n := (Open.length : Int)) (fun k hk => by have := cs k hk; omega) hp set.length (Nat.le_refl _)
  have e0 := servL_len Dist set Dist.length
  refine ⟨?_, ?_, ?_⟩
  · refine i_Field_served_pc Open Dist set ?_
    · first | omega | rfl | (intro hg; simp only [nrmT] at hg; omega) | (intro g1 g2; simp [g1, g2]; done) | (intro g1; simp at g1 ⊢; simp [g1]; done) | (simp only [nrmT] at *; omega) | (simp at * <;> omega) | (simp_all <;> omega) | (simp_all; done)
  · refine ⟨([]), 0, ?_⟩
    refine ⟨?_, rfl, rfl, rfl, rfl, ?_, rfl, rfl, rfl⟩
    · refine ⟨?_, ?_, ?_⟩
      · first | omega | rfl | (intro hg; simp only [nrmT] at hg; omega) | (intro g1 g2; simp [g1, g2]; done) | (intro g1; simp at g1 ⊢; simp [g1]; done) | (simp only [nrmT] at *; omega) | (simp at * <;> omega) | (simp_all <;> omega) | (simp_all; done)
      · first | omega | rfl | (intro hg; simp only [nrmT] at hg; omega) | (intro g1 g2; simp [g1, g2]; done) | (intro g1; simp at g1 ⊢; simp [g1]; done) | (simp only [nrmT] at *; omega) | (simp at * <;> omega) | (simp_all <;> omega) | (simp_all; done)
      · first | omega | rfl | (intro hg; simp only [nrmT] at hg; omega) | (intro g1 g2; simp [g1, g2]; done) | (intro g1; simp at g1 ⊢; simp [g1]; done) | (simp only [nrmT] at *; omega) | (simp at * <;> omega) | (simp_all <;> omega) | (simp_all; done)
    · first | omega | rfl | (intro hg; simp only [nrmT] at hg; omega) | (intro g1 g2; simp [g1, g2]; done) | (intro g1; simp at g1 ⊢; simp [g1]; done) | (simp only [nrmT] at *; omega) | (simp at * <;> omega) | (simp_all <;> omega) | (simp_all; done)
  · intro out i hJ
    obtain ⟨h1, h2, h3⟩ := hJ
    refine ⟨?_, ?_⟩
    · intro b1
      try simp only [nrmT] at b1
      refine ⟨?_, ?_, ?_, ?_, ?_, ?_, ?_, ?_, ?_, rfl, rfl, ?_, ?_, ?_⟩
      · first | omega | rfl | (intro hg; simp only [nrmT] at hg; omega) | (intro g1 g2; simp [g1, g2]; done) | (intro g1; simp at g1 ⊢; simp [g1]; done) | (simp only [nrmT] at *; omega) | (simp at * <;> omega) | (simp_all <;> omega) | (simp_all; done)
      · first | omega | rfl | (intro hg; simp only [nrmT] at hg; omega) | (intro g1 g2; simp [g1, g2]; done) | (intro g1; simp at g1 ⊢; simp [g1]; done) | (simp only [nrmT] at *; omega) | (simp at * <;> omega) | (simp_all <;> omega) | (simp_all; done)
      · first | omega | rfl | (intro hg; simp only [nrmT] at hg; omega) | (intro g1 g2; simp [g1, g2]; done) | (intro g1; simp at g1 ⊢; simp [g1]; done) | (simp only [nrmT] at *; omega) | (simp at * <;> omega) | (simp_all <;> omega) | (simp_all; done)
      · first | omega | rfl | (intro hg; simp only [nrmT] at hg; omega) | (intro g1 g2; simp [g1, g2]; done) | (intro g1; simp at g1 ⊢; simp [g1]; done) | (simp only [nrmT] at *; omega) | (simp at * <;> omega) | (simp_all <;> omega) | (simp_all; done)
      · first | omega | rfl | (intro hg; simp only [nrmT] at hg; omega) | (intro g1 g2; simp [g1, g2]; done) | (intro g1; simp at g1 ⊢; simp [g1]; done) | (simp only [nrmT] at *; omega) | (simp at * <;> omega) | (simp_all <;> omega) | (simp_all; done)
      · first | omega | rfl | (intro hg; simp only [nrmT] at hg; omega) | (intro g1 g2; simp [g1, g2]; done) | (intro g1; simp at g1 ⊢; simp [g1]; done) | (simp only [nrmT] at *; omega) | (simp at * <;> omega) | (simp_all <;> omega) | (simp_all; done)
      · rw [servL_getD _ _ _ _ (by omega)]; obtain ⟨rl, rb⟩ := gf_row (i := i.toNat) hg (by omega); have := si i.toNat (by omega); omega
      · rw [servL_getD _ _ _ _ (by omega)]; obtain ⟨rl, rb⟩ := gf_row (i := i.toNat) hg (by omega); have := si i.toNat (by omega); omega
      · rw [servL_getD _ _ _ _ (by omega)]; obtain ⟨rl, rb⟩ := gf_row (i := i.toNat) hg (by omega); have := si i.toNat (by omega); omega
      · rw [h3, lensL_len]; omega
      · first | omega | rfl | (intro hg; simp only [nrmT] at hg; omega) | (intro g1 g2; simp [g1, g2]; done) | (intro g1; simp at g1 ⊢; simp [g1]; done) | (simp only [nrmT] at *; omega) | (simp at * <;> omega) | (simp_all <;> omega) | (simp_all; done)
      · refine ⟨(out ++ [((Dist.getD i.toNat []).getD (((servL Dist set Dist.length).getD i.toNat 0).toNat) 0)]), (i + 1), ?_⟩
        refine ⟨?_, ?_, ?_, rfl, rfl, rfl, rfl, rfl, rfl, rfl⟩
        · refine ⟨?_, ?_, ?_⟩
          · first | omega | rfl | (intro hg; simp only [nrmT] at hg; omega) | (intro g1 g2; simp [g1, g2]; done) | (intro g1; simp at g1 ⊢; simp [g1]; done) | (simp only [nrmT] at *; omega) | (simp at * <;> omega) | (simp_all <;> omega) | (simp_all; done)
          · first | omega | rfl | (intro hg; simp only [nrmT] at hg; omega) | (intro g1 g2; simp [g1, g2]; done) | (intro g1; simp at g1 ⊢; simp [g1]; done) | (simp only [nrmT] at *; omega) | (simp at * <;> omega) | (simp_all <;> omega) | (simp_all; done)
          · rw [h3, show (i + 1).toNat = i.toNat + 1 by omega, lensL_succ, servL_getD _ _ _ _ (by omega)]; rfl
        · first | (show _ < _; omega) | (simp only [i_Field_lengths_mJ0]; omega) | (simp only [i_Field_lengths_mJ0] at *; simp at *; omega)
        · first | omega | rfl | (intro hg; simp only [nrmT] at hg; omega) | (intro g1 g2; simp [g1, g2]; done) | (intro g1; simp at g1 ⊢; simp [g1]; done) | (simp only [nrmT] at *; omega) | (simp at * <;> omega) | (simp_all <;> omega) | (simp_all; done)
    · intro b2
      try simp only [nrmT] at b2
      refine ⟨rfl, ?_⟩
      · rw [h3, show i.toNat = Dist.length by omega]
theorem i_Field_lengths_pc (Open : List Int) (Dist : List (List Int)) (set : List Int) (ht : (goodField Open Dist && rising set 0 ((Open.length : Int) - 1) && decide (0 < set.length)) = true) : PC Try.prog 210 [.agg [.sl (.ints Open), .sl (.rows Dist)], .sl (.ints set)] (.one (.own 3 (.ints (lensL Dist set Dist.length)))) :=
  pc_wf @Try.call210 fun hw => pc_by (by kernel_rfl) Try.func210 @Try.call210 (by kernel_rfl) i_Field_lengths_C (i_Field_lengths_A Open Dist set) (by kernel_rfl) (i_Field_lengths_vc Open Dist set ht hw.1.1 hw.1.2.1.1 hw.1.2.1.2 hw.2.1) (by kernel_rfl)
def i_Field_lengths_orc : List D → Orc := orcN [none, some .ints] fun ds => match ds with
  | [.agg [.sl (.ints Open), .sl (.rows Dist)], .sl (.ints set)] => some (.one (.own 3 (.ints (lensL Dist set Dist.length))))
  | _ => none
theorem siteTo_mem {row set : List Int} (hp : 0 < set.length) : ∀ k, k ≤ set.length → siteTo row set k ∈ set
  | 0, _ => getD_mem hp
  | k + 1, hk => by
    rw [siteTo_succ]
    unfold siteF
    split
    · exact getD_mem (by omega)
    · exact siteTo_mem hp k (by omega)
theorem rising_lt {xs : List Int} {lo hi : Int} (h : rising xs lo hi = true) {i : Nat} : ∀ {j : Nat}, i < j → j < xs.length → xs.getD i 0 < xs.getD j 0
  | 0, hi, _ => by omega
  | j + 1, hi, hj => by
    have h1 := allTo_iff.1 h (j + 1) hj
    simp only [risingP, Bool.and_eq_true, Bool.or_eq_true, decide_eq_true_eq, Nat.add_sub_cancel] at h1
    have h2 := h1.2
    by_cases e : i = j
    · subst e; omega
    · have := rising_lt h (i := i) (j := j) (by omega) (by omega)
      omega
def s_l1Most_C (f : FuncId) (ds : List D) : Orc := .no
def s_l1Most_A (a : Int) (b : Int) : Ann := .none
def s_l1Most_P (a : Int) (b : Int) : Prop :=
  (((decide (a > b)) = true → ((a = (max a b)))) ∧ ((decide (a > b)) = false → ((b = (max a b)))))
theorem s_l1Most_vc (a : Int) (b : Int)   : s_l1Most_P a b := by
  unfold s_l1Most_P
  refine ⟨?_, ?_⟩
  · intro b1
    try simp only [nrmT] at b1
    first | omega | rfl | (intro hg; simp only [nrmT] at hg; omega) | (intro g1 g2; simp [g1, g2]; done) | (intro g1; simp at g1 ⊢; simp [g1]; done) | (simp only [nrmT] at *; omega) | (simp at * <;> omega) | (simp_all <;> omega) | (simp_all; done)
  · intro b2
    try simp only [nrmT] at b2
    first | omega | rfl | (intro hg; simp only [nrmT] at hg; omega) | (intro g1 g2; simp [g1, g2]; done) | (intro g1; simp at g1 ⊢; simp [g1]; done) | (simp only [nrmT] at *; omega) | (simp at * <;> omega) | (simp_all <;> omega) | (simp_all; done)
theorem s_l1Most_pc (a : Int) (b : Int)  : PC Try.prog 152 [.int .i64 a, .int .i64 b] (.one (.d (.int .i64 (max a b)))) :=
  pc_wf @Try.call152 fun _ => pc_by (by kernel_rfl) Try.func152 @Try.call152 (by kernel_rfl) s_l1Most_C (s_l1Most_A a b) (by kernel_rfl) (s_l1Most_vc a b) (by kernel_rfl)
def s_l1Most_orc : List D → Orc := orcN [none, none] fun ds => match ds with
  | [.int .i64 a, .int .i64 b] => some (.one (.d (.int .i64 (max a b))))
  | _ => none
def cmpI (a b : Int) : Int := if a < b then -1 else if a > b then 1 else 0
def cmpL : List Int → List Int → Int
  | [], [] => 0
  | [], _ :: _ => -1
  | _ :: _, [] => 1
  | x :: r, y :: s => if x < y then -1 else if x > y then 1 else cmpL r s
theorem cmpL_drop {xs ys : List Int} {i : Nat} (h : cmpL xs ys = cmpL (xs.drop i) (ys.drop i)) (h1 : i < xs.length) (h2 : i < ys.length) :
    cmpL xs ys = if xs.getD i 0 < ys.getD i 0 then -1 else if xs.getD i 0 > ys.getD i 0 then 1 else cmpL (xs.drop (i + 1)) (ys.drop (i + 1)) := by
  rw [h, List.drop_eq_getElem_cons h1, List.drop_eq_getElem_cons h2, getD_get h1, getD_get h2]
  rfl
theorem cmpL_short {xs ys : List Int} {i : Nat} (h : cmpL xs ys = cmpL (xs.drop i) (ys.drop i)) (h1 : i < xs.length) (h2 : ys.length ≤ i) : cmpL xs ys = 1 := by
  rw [h, List.drop_eq_getElem_cons h1, List.drop_eq_nil_of_le h2]
  rfl
theorem cmpL_end {xs ys : List Int} {i : Nat} (h : cmpL xs ys = cmpL (xs.drop i) (ys.drop i)) (h1 : xs.length ≤ i) (h2 : i ≤ ys.length) (h3 : i = xs.length) : cmpL xs ys = if xs.length < ys.length then -1 else 0 := by
  rw [h, List.drop_eq_nil_of_le h1]
  by_cases e : xs.length < ys.length
  · rw [if_pos e, List.drop_eq_getElem_cons (by omega)]
    rfl
  · rw [if_neg e, List.drop_eq_nil_of_le (by omega)]
    rfl
def cmp_isNaN_int__C (f : FuncId) (ds : List D) : Orc := .no
def cmp_isNaN_int__A (x : Int) : Ann := .none
def cmp_isNaN_int__P (x : Int) : Prop :=
  (((x != x) = false))
theorem cmp_isNaN_int__vc (x : Int)   : cmp_isNaN_int__P x := by
  unfold cmp_isNaN_int__P
  simp
theorem cmp_isNaN_int__pc (x : Int)  : PC Try.prog 231 [.int .i64 x] (.one (.d (.bool false))) :=
  pc_wf @Try.call231 fun _ => pc_by (by kernel_rfl) Try.func231 @Try.call231 (by kernel_rfl) cmp_isNaN_int__C (cmp_isNaN_int__A x) (by kernel_rfl) (cmp_isNaN_int__vc x) (by kernel_rfl)
def cmp_isNaN_int__orc : List D → Orc := orcN [none] fun ds => match ds with
  | [.int .i64 x] => some (.one (.d (.bool false)))
  | _ => none
def cmp_Compare_int__C (f : FuncId) (ds : List D) : Orc := bif Nat.beq f 231 then cmp_isNaN_int__orc ds else .no
def cmp_Compare_int__A (a : Int) (b : Int) : Ann := .two (.none) (.two (.none) (.two (.none) (.two (.two (.none) (.goF (.none))) (.two (.two (.none) (.goF (.none))) (.none)))))
def cmp_Compare_int__P (a : Int) (b : Int) : Prop :=
  (PC Try.prog 231 [.int .i64 a] (.one (.d (.bool false)))) ∧ (PC Try.prog 231 [.int .i64 b] (.one (.d (.bool false)))) ∧ (false = false) ∧ (false = false) ∧ (((decide (a < b)) = true → ((((-1) : Int) = (cmpI a b)))) ∧ ((decide (a < b)) = false → (((decide (a > b)) = true → (((1 : Int) = (cmpI a b)))) ∧ ((decide (a > b)) = false → (((0 : Int) = (cmpI a b)))))))
theorem cmp_Compare_int__vc (a : Int) (b : Int)   : cmp_Compare_int__P a b := by
  unfold cmp_Compare_int__P
  refine ⟨cmp_isNaN_int__pc a, cmp_isNaN_int__pc b, rfl, rfl, ?_, ?_⟩
  · intro b1
    try simp only [nrmT] at b1
    unfold cmpI; first | rw [if_pos (by omega)] | rw [if_neg (by omega), if_pos (by omega)] | rw [if_neg (by omega), if_neg (by omega)]
  · intro b2
    try simp only [nrmT] at b2
    refine ⟨?_, ?_⟩
    · intro b3
      try simp only [nrmT] at b3
      unfold cmpI; first | rw [if_pos (by omega)] | rw [if_neg (by omega), if_pos (by omega)] | rw [if_neg (by omega), if_neg (by omega)]
    · intro b4
      try simp only [nrmT] at b4
      unfold cmpI; first | rw [if_pos (by omega)] | rw [if_neg (by omega), if_pos (by omega)] | rw [if_neg (by omega), if_neg (by omega)]
theorem cmp_Compare_int__pc (a : Int) (b : Int)  : PC Try.prog 235 [.int .i64 a, .int .i64 b] (.one (.d (.int .i64 (cmpI a b)))) :=
  pc_wf @Try.call235 fun _ => pc_by (by kernel_rfl) Try.func235 @Try.call235 (by kernel_rfl) cmp_Compare_int__C (cmp_Compare_int__A a b) (by kernel_rfl) (cmp_Compare_int__vc a b) (by kernel_rfl)
def cmp_Compare_int__orc : List D → Orc := orcN [none, none] fun ds => match ds with
  | [.int .i64 a, .int .i64 b] => some (.one (.d (.int .i64 (cmpI a b))))
  | _ => none
abbrev slices_Compare_int_int__JJ0 (xs : List Int) (ys : List Int) (i : Int) : Prop := (0 ≤ i) ∧ (i ≤ (xs.length : Int)) ∧ (i ≤ (ys.length : Int)) ∧ (cmpL xs ys = cmpL (xs.drop i.toNat) (ys.drop i.toNat))
abbrev slices_Compare_int_int__mJ0 (xs : List Int) (ys : List Int) (i : Int) : Nat := (xs.length - i).toNat
def slices_Compare_int_int__C (f : FuncId) (ds : List D) : Orc := bif Nat.beq f 235 then cmp_Compare_int__orc ds else .no
def slices_Compare_int_int__A (xs : List Int) (ys : List Int) : Ann := .two (.none) (.two (.two (.none) (.loop (cut1 (fun (i : Int) => slices_Compare_int_int__JJ0 xs ys i) (fun (i : Int) => [(0, .d false (.sl (.ints xs))), (1, .d false (.sl (.ints ys))), (9, .d false (.sl (.ints xs))), (10, .d true (.int .i64 (xs.length : Int))), (11, .d true (.int .i64 i))]) (fun (i : Int) => [])) (fun g => slices_Compare_int_int__mJ0 xs ys g) (fun _ => .none))) (.none))
def slices_Compare_int_int__P (xs : List Int) (ys : List Int) : Prop :=
  ((∃ i' : Int, (slices_Compare_int_int__JJ0 xs ys i') ∧ (xs = xs) ∧ (ys = ys) ∧ (xs = xs) ∧ ((xs.length : Int) = (xs.length : Int)) ∧ ((0 : Int) = i')) ∧ (∀ i : Int, (slices_Compare_int_int__JJ0 xs ys i) → (((decide (i < (xs.length : Int))) = true → ((0 : Int) ≤ i) ∧ ((i : Int) < xs.length) ∧ (i.toNat < xs.length) ∧ (((decide (i ≥ (ys.length : Int))) = true → (((1 : Int) = (cmpL xs ys)))) ∧ ((decide (i ≥ (ys.length : Int))) = false → ((0 : Int) ≤ i) ∧ ((i : Int) < ys.length) ∧ (i.toNat < ys.length) ∧ (PC Try.prog 235 [.int .i64 (xs.getD i.toNat 0), .int .i64 (ys.getD i.toNat 0)] (.one (.d (.int .i64 (cmpI (xs.getD i.toNat 0) (ys.getD i.toNat 0)))))) ∧ ((((cmpI (xs.getD i.toNat 0) (ys.getD i.toNat 0)) != 0) = true → (((cmpI (xs.getD i.toNat 0) (ys.getD i.toNat 0)) = (cmpL xs ys)))) ∧ (((cmpI (xs.getD i.toNat 0) (ys.getD i.toNat 0)) != 0) = false → (-9223372036854775808 ≤ (i + 1) ∧ (i + 1) ≤ 9223372036854775807) ∧ (∃ i' : Int, (slices_Compare_int_int__JJ0 xs ys i') ∧ (slices_Compare_int_int__mJ0 xs ys i' < slices_Compare_int_int__mJ0 xs ys i) ∧ (xs = xs) ∧ (ys = ys) ∧ (xs = xs) ∧ ((xs.length : Int) = (xs.length : Int)) ∧ ((i + 1) = i'))))))) ∧ ((decide (i < (xs.length : Int))) = false → (((decide ((xs.length : Int) < (ys.length : Int))) = true → ((((-1) : Int) = (cmpL xs ys)))) ∧ ((decide ((xs.length : Int) < (ys.length : Int))) = false → (((0 : Int) = (cmpL xs ys)))))))))
theorem slices_Compare_int_int__vc (xs : List Int) (ys : List Int)  (w_xs : (xs.length : Int) ≤ 9223372036854775807) (w_ys : (ys.length : Int) ≤ 9223372036854775807) : slices_Compare_int_int__P xs ys := by
  unfold slices_Compare_int_int__P
  refine ⟨?_, ?_⟩
  · refine ⟨0, ?_⟩
    refine ⟨?_, rfl, rfl, rfl, rfl, rfl⟩
    · refine ⟨?_, ?_, ?_, ?_⟩
      · first | omega | rfl | (intro hg; simp only [nrmT] at hg; omega) | (intro g1 g2; simp [g1, g2]; done) | (intro g1; simp at g1 ⊢; simp [g1]; done) | (simp only [nrmT] at *; omega) | (simp at * <;> omega) | (simp_all <;> omega) | (simp_all; done)
      · first | omega | rfl | (intro hg; simp only [nrmT] at hg; omega) | (intro g1 g2; simp [g1, g2]; done) | (intro g1; simp at g1 ⊢; simp [g1]; done) | (simp only [nrmT] at *; omega) | (simp at * <;> omega) | (simp_all <;> omega) | (simp_all; done)
      · first | omega | rfl | (intro hg; simp only [nrmT] at hg; omega) | (intro g1 g2; simp [g1, g2]; done) | (intro g1; simp at g1 ⊢; simp [g1]; done) | (simp only [nrmT] at *; omega) | (simp at * <;> omega) | (simp_all <;> omega) | (simp_all; done)
      · rfl
  · intro i hJ
    obtain ⟨h1, h2, h2y, h3⟩ := hJ
    refine ⟨?_, ?_⟩
    · intro b1
      try simp only [nrmT] at b1
      refine ⟨?_, ?_, ?_, ?_, ?_⟩
      · first | omega | rfl | (intro hg; simp only [nrmT] at hg; omega) | (intro g1 g2; simp [g1, g2]; done) | (intro g1; simp at g1 ⊢; simp [g1]; done) | (simp only [nrmT] at *; omega) | (simp at * <;> omega) | (simp_all <;> omega) | (simp_all; done)
      · first | omega | rfl | (intro hg; simp only [nrmT] at hg; omega) | (intro g1 g2; simp [g1, g2]; done) | (intro g1; simp at g1 ⊢; simp [g1]; done) | (simp only [nrmT] at *; omega) | (simp at * <;> omega) | (simp_all <;> omega) | (simp_all; done)
      · first | omega | rfl | (intro hg; simp only [nrmT] at hg; omega) | (intro g1 g2; simp [g1, g2]; done) | (intro g1; simp at g1 ⊢; simp [g1]; done) | (simp only [nrmT] at *; omega) | (simp at * <;> omega) | (simp_all <;> omega) | (simp_all; done)
      · intro b2
        try simp only [nrmT] at b2
        exact (cmpL_short h3 (by omega) (by omega)).symm
      · intro b3
        try simp only [nrmT] at b3
        refine ⟨?_, ?_, ?_, cmp_Compare_int__pc (xs.getD i.toNat 0) (ys.getD i.toNat 0), ?_, ?_⟩
        · first | omega | rfl | (intro hg; simp only [nrmT] at hg; omega) | (intro g1 g2; simp [g1, g2]; done) | (intro g1; simp at g1 ⊢; simp [g1]; done) | (simp only [nrmT] at *; omega) | (simp at * <;> omega) | (simp_all <;> omega) | (simp_all; done)
        · first | omega | rfl | (intro hg; simp only [nrmT] at hg; omega) | (intro g1 g2; simp [g1, g2]; done) | (intro g1; simp at g1 ⊢; simp [g1]; done) | (simp only [nrmT] at *; omega) | (simp at * <;> omega) | (simp_all <;> omega) | (simp_all; done)
        · first | omega | rfl | (intro hg; simp only [nrmT] at hg; omega) | (intro g1 g2; simp [g1, g2]; done) | (intro g1; simp at g1 ⊢; simp [g1]; done) | (simp only [nrmT] at *; omega) | (simp at * <;> omega) | (simp_all <;> omega) | (simp_all; done)
        · intro b4
          try simp only [nrmT] at b4
          rw [cmpL_drop h3 (by omega) (by omega)]
          unfold cmpI at b4 ⊢
          by_cases h5 : xs.getD i.toNat 0 < ys.getD i.toNat 0
          · rw [if_pos h5, if_pos h5]
          · rw [if_neg h5] at b4 ⊢
            by_cases h6 : xs.getD i.toNat 0 > ys.getD i.toNat 0
            · rw [if_pos h6, if_neg h5, if_pos h6]
            · rw [if_neg h6] at b4; omega
        · intro b5
          try simp only [nrmT] at b5
          refine ⟨?_, ?_⟩
          · first | omega | rfl | (intro hg; simp only [nrmT] at hg; omega) | (intro g1 g2; simp [g1, g2]; done) | (intro g1; simp at g1 ⊢; simp [g1]; done) | (simp only [nrmT] at *; omega) | (simp at * <;> omega) | (simp_all <;> omega) | (simp_all; done)
          · refine ⟨(i + 1), ?_⟩
            refine ⟨?_, ?_, rfl, rfl, rfl, rfl, rfl⟩
            · refine ⟨?_, ?_, ?_, ?_⟩
              · first | omega | rfl | (intro hg; simp only [nrmT] at hg; omega) | (intro g1 g2; simp [g1, g2]; done) | (intro g1; simp at g1 ⊢; simp [g1]; done) | (simp only [nrmT] at *; omega) | (simp at * <;> omega) | (simp_all <;> omega) | (simp_all; done)
              · first | omega | rfl | (intro hg; simp only [nrmT] at hg; omega) | (intro g1 g2; simp [g1, g2]; done) | (intro g1; simp at g1 ⊢; simp [g1]; done) | (simp only [nrmT] at *; omega) | (simp at * <;> omega) | (simp_all <;> omega) | (simp_all; done)
              · first | omega | rfl | (intro hg; simp only [nrmT] at hg; omega) | (intro g1 g2; simp [g1, g2]; done) | (intro g1; simp at g1 ⊢; simp [g1]; done) | (simp only [nrmT] at *; omega) | (simp at * <;> omega) | (simp_all <;> omega) | (simp_all; done)
              · have h7 := cmpL_drop h3 (by omega) (by omega)
                unfold cmpI at b5
                rw [h7, show (i + 1).toNat = i.toNat + 1 by omega]
                by_cases h5 : xs.getD i.toNat 0 < ys.getD i.toNat 0
                · rw [if_pos h5] at b5; omega
                · rw [if_neg h5] at b5 ⊢
                  by_cases h6 : xs.getD i.toNat 0 > ys.getD i.toNat 0
                  · rw [if_pos h6] at b5; omega
                  · rw [if_neg h6]
            · first | (show _ < _; omega) | (simp only [slices_Compare_int_int__mJ0]; omega) | (simp only [slices_Compare_int_int__mJ0] at *; simp at *; omega)
    · intro b6
      try simp only [nrmT] at b6
      refine ⟨?_, ?_⟩
      · intro b7
        try simp only [nrmT] at b7
        rw [cmpL_end h3 (by omega) (by omega) (by omega), if_pos (by omega)]
      · intro b8
        try simp only [nrmT] at b8
        rw [cmpL_end h3 (by omega) (by omega) (by omega), if_neg (by omega)]
theorem slices_Compare_int_int__pc (xs : List Int) (ys : List Int)  : PC Try.prog 236 [.sl (.ints xs), .sl (.ints ys)] (.one (.d (.int .i64 (cmpL xs ys)))) :=
  pc_wf @Try.call236 fun hw => pc_by (by kernel_rfl) Try.func236 @Try.call236 (by kernel_rfl) slices_Compare_int_int__C (slices_Compare_int_int__A xs ys) (by kernel_rfl) (slices_Compare_int_int__vc xs ys hw.1 hw.2.1) (by kernel_rfl)
def slices_Compare_int_int__orc : List D → Orc := orcN [some .ints, some .ints] fun ds => match ds with
  | [.sl (.ints xs), .sl (.ints ys)] => some (.one (.d (.int .i64 (cmpL xs ys))))
  | _ => none
def lst (n code : Nat) : List Int := members (fun k => code.testBit k) n
theorem lst_in {n code : Nat} : ∀ x ∈ lst n code, 0 ≤ x ∧ x < (n : Int) := fun x hx => by
  have := mem_members.1 hx
  omega
theorem lst_len {n code : Nat} : (lst n code).length ≤ n := members_len_le _ _
theorem one_shl (n : Nat) : (1 : Int) * 2 ^ ((n : Int)).toNat = ((2 ^ n : Nat) : Int) := by
  rw [Int.toNat_natCast]; simp
def srtB (xs : List Int) : Bool := allTo (fun k => decide (xs.getD k 0 ≤ xs.getD (k + 1) 0)) (xs.length - 1)
theorem srtB_no {xs : List Int} {i : Int} (h1 : 0 < i) (h2 : i < (xs.length : Int)) (h : xs.getD i.toNat 0 < xs.getD (i - 1).toNat 0) : srtB xs = false := by
  unfold srtB
  refine allTo_false (k := (i - 1).toNat) (by omega) ?_
  rw [show (i - 1).toNat + 1 = i.toNat by omega]
  exact decide_eq_false (by omega)
theorem srtB_yes {xs : List Int} {i : Int} (h1 : i ≤ 0) (h : ∀ k : Nat, i ≤ (k : Int) → k + 1 < xs.length → xs.getD k 0 ≤ xs.getD (k + 1) 0) : srtB xs = true :=
  allTo_iff.2 fun k hk => decide_eq_true (h k (by omega) (by omega))
def lineP (c : List Int) (k : Nat) : Bool := inB (c.getD k 0) 0 99 && (decide (k = 0) || !(decide (c.getD (k - 1) 0 > c.getD k 0)))
def goodL (sites clients : List Int) : Bool := allTo (lineP clients) clients.length && (inB (sites.length : Int) 1 7 && rising sites 0 99 && decide (clients.length ≤ 7))
theorem lineP_all {c : List Int} : allTo (lineP c) c.length = (c.all (fun x => inB x 0 99) && srtB c) := by
  rw [Bool.eq_iff_iff, allTo_iff, Bool.and_eq_true, ← allTo_list (d := 0), allTo_iff, srtB, allTo_iff]
  constructor
  · intro h
    refine ⟨fun k hk => ?_, fun k hk => ?_⟩
    · have := h k hk
      rw [lineP, Bool.and_eq_true] at this
      exact this.1
    · have := h (k + 1) (by omega)
      rw [lineP, Bool.and_eq_true, decide_eq_false (by omega), Bool.false_or, Nat.add_sub_cancel, Bool.not_eq_true', decide_eq_false_iff_not] at this
      exact decide_eq_true (by omega)
  · rintro ⟨h1, h2⟩ k hk
    rw [lineP, h1 k hk, Bool.true_and]
    by_cases e : k = 0
    · rw [decide_eq_true e]; rfl
    · have h3 := h2 (k - 1) (by omega)
      rw [show k - 1 + 1 = k by omega, decide_eq_true_eq] at h3
      rw [decide_eq_false e, decide_eq_false (by omega)]; rfl
theorem lineP_step {c : List Int} {i : Int} (h : 0 ≤ i) {b : Bool} (hb : (!(inB (c.getD i.toNat 0) 0 99) || (decide (i > 0) && decide (c.getD (i - 1).toNat 0 > c.getD i.toNat 0))) = b) : lineP c i.toNat = !b := by
  rw [← hb, lineP]
  by_cases e : i = 0
  · subst e
    cases inB (c.getD (0 : Int).toNat 0) 0 99 <;> simp
  · rw [decide_eq_false (by omega), decide_eq_true (show i > 0 by omega), show (i - 1).toNat = i.toNat - 1 by omega]
    cases inB (c.getD i.toNat 0) 0 99 <;> simp
def lineRow (sites : List Int) (c : Int) : List Int := tabTo (fun a => max (c - sites.getD a 0) (sites.getD a 0 - c)) sites.length
def lineD (sites clients : List Int) : List (List Int) := tabTo (fun j => lineRow sites (clients.getD j 0)) clients.length
theorem lineRow_len (sites : List Int) (c : Int) : (lineRow sites c).length = sites.length := tabTo_len _ _
theorem lineD_len (sites clients : List Int) : (lineD sites clients).length = clients.length := tabTo_len _ _
theorem lineD_get {sites clients : List Int} {j : Nat} (h : j < clients.length) : (lineD sites clients).getD j [] = lineRow sites (clients.getD j 0) := tabTo_get h
theorem goodL_facts {sites clients : List Int} (h : goodL sites clients = true) : 1 ≤ sites.length ∧ sites.length ≤ 7 ∧ clients.length ≤ 7 ∧ rising sites 0 99 = true ∧ ∀ k, k < clients.length → 0 ≤ clients.getD k 0 ∧ clients.getD k 0 ≤ 99 := by
  rw [goodL, Bool.and_eq_true, Bool.and_eq_true, Bool.and_eq_true, decide_eq_true_eq] at h
  obtain ⟨h1, ⟨h2, h3⟩, h4⟩ := h
  have h5 := inB_le h2
  refine ⟨by omega, by omega, h4, h3, fun k hk => ?_⟩
  have h6 := allTo_iff.1 h1 k hk
  rw [lineP, Bool.and_eq_true] at h6
  have := inB_le h6.1
  omega
def lastF (row : List Int) (r : Int) (b : Int) (a : Nat) : Int := if row.getD a 0 ≤ r then (a : Int) else b
def lastTo (row : List Int) (r : Int) (k : Nat) : Int := foldTo (lastF row r) (-1) k
theorem lastTo_succ (row : List Int) (r : Int) (k : Nat) : lastTo row r (k + 1) = if row.getD k 0 ≤ r then (k : Int) else lastTo row r k := rfl
theorem lastTo_in (row : List Int) (r : Int) : ∀ k, -1 ≤ lastTo row r k ∧ lastTo row r k < k
  | 0 => by simp [lastTo, foldTo]
  | k + 1 => by
    have := lastTo_in row r k
    rw [lastTo_succ]
    split <;> omega
def hasLe (row : List Int) (r : Int) (out : List Int) : Bool := out.any (fun a => decide (row.getD a.toNat 0 ≤ r))
def lsF (Dist : List (List Int)) (r : Int) (o : Option (List Int)) (j : Nat) : Option (List Int) :=
  match o with
  | none => none
  | some out => if hasLe (Dist.getD j []) r out = true then some out else if lastTo (Dist.getD j []) r (Dist.getD j []).length < 0 then none else some (out ++ [lastTo (Dist.getD j []) r (Dist.getD j []).length])
def lsTo (Dist : List (List Int)) (r : Int) (k : Nat) : Option (List Int) := foldTo (lsF Dist r) (some []) k
theorem lsTo_succ (Dist : List (List Int)) (r : Int) (k : Nat) : lsTo Dist r (k + 1) = lsF Dist r (lsTo Dist r k) k := rfl
theorem lsTo_none {Dist : List (List Int)} {r : Int} {k : Nat} (h : lsTo Dist r k = none) : ∀ n, k ≤ n → lsTo Dist r n = none
  | 0, hn => by have : k = 0 := by omega
                subst this; exact h
  | n + 1, hn => by
    by_cases e : k = n + 1
    · subst e; exact h
    · rw [lsTo_succ, lsTo_none h n (by omega)]; rfl
theorem lsTo_facts {Dist : List (List Int)} {r : Int} {m : Nat} : ∀ k out, (∀ j, j < k → (Dist.getD j []).length = m) → lsTo Dist r k = some out → out.length ≤ k ∧ ∀ a ∈ out, 0 ≤ a ∧ a < (m : Int)
  | 0, out, _, h => by
    have : out = [] := by simpa [lsTo, foldTo] using h.symm
    subst this; simp
  | k + 1, out, hm, h => by
    rw [lsTo_succ] at h
    cases ho : lsTo Dist r k with
    | none => rw [ho] at h; cases h
    | some o =>
      obtain ⟨i1, i2⟩ := lsTo_facts k o (fun j hj => hm j (by omega)) ho
      have hl := lastTo_in (Dist.getD k []) r (Dist.getD k []).length
      have hk := hm k (by omega)
      rw [ho] at h
      unfold lsF at h
      dsimp only at h
      split at h
      · cases h; exact ⟨by omega, i2⟩
      · split at h
        · cases h
        · rename_i hneg
          cases h
          refine ⟨by simp; omega, fun a ha => ?_⟩
          rcases List.mem_append.1 ha with ha | ha
          · exact i2 a ha
          · have : a = lastTo (Dist.getD k []) r (Dist.getD k []).length := by simpa using ha
            omega
theorem lsTo_keep {Dist : List (List Int)} {r : Int} {k : Nat} {out : List Int} (h : lsTo Dist r k = some out) (hh : hasLe (Dist.getD k []) r out = true) : lsTo Dist r (k + 1) = some out := by
  rw [lsTo_succ, h]; unfold lsF; dsimp only; rw [if_pos hh]
theorem lsTo_fail {Dist : List (List Int)} {r : Int} {k : Nat} {out : List Int} (h : lsTo Dist r k = some out) (hh : hasLe (Dist.getD k []) r out = false) (hl : lastTo (Dist.getD k []) r (Dist.getD k []).length < 0) : lsTo Dist r (k + 1) = none := by
  rw [lsTo_succ, h]; unfold lsF; dsimp only; rw [hh, if_neg (by simp), if_pos hl]
theorem lsTo_app {Dist : List (List Int)} {r : Int} {k : Nat} {out : List Int} (h : lsTo Dist r k = some out) (hh : hasLe (Dist.getD k []) r out = false) (hl : ¬ lastTo (Dist.getD k []) r (Dist.getD k []).length < 0) : lsTo Dist r (k + 1) = some (out ++ [lastTo (Dist.getD k []) r (Dist.getD k []).length]) := by
  rw [lsTo_succ, h]; unfold lsF; dsimp only; rw [hh, if_neg (by simp), if_neg hl]
def lfO (sites clients : List Int) : List Int := if goodL sites clients = true then List.replicate sites.length 0 else []
def lfD (sites clients : List Int) : List (List Int) := if goodL sites clients = true then lineD sites clients else []
theorem lfO_yes {sites clients : List Int} (h : goodL sites clients = true) : lfO sites clients = List.replicate sites.length 0 := by rw [lfO, if_pos h]
theorem lfD_yes {sites clients : List Int} (h : goodL sites clients = true) : lfD sites clients = lineD sites clients := by rw [lfD, if_pos h]
theorem lfO_no {sites clients : List Int} (h : goodL sites clients = false) : lfO sites clients = [] := by rw [lfO, h]; rfl
theorem lfD_no {sites clients : List Int} (h : goodL sites clients = false) : lfD sites clients = [] := by rw [lfD, h]; rfl
theorem lfD_row {sites clients : List Int} (h : goodL sites clients = true) {j : Nat} (hj : j < clients.length) : ((lfD sites clients).getD j []).length = sites.length := by rw [lfD_yes h, lineD_get hj, lineRow_len]
theorem lfD_len {sites clients : List Int} (h : goodL sites clients = true) : (lfD sites clients).length = clients.length := by rw [lfD_yes h, lineD_len]
theorem lfO_len {sites clients : List Int} (h : goodL sites clients = true) : (lfO sites clients).length = sites.length := by rw [lfO_yes h]; simp
def lsO (sites clients : List Int) (r : Int) : Option (List Int) := if (goodL sites clients && decide (0 ≤ r)) = true then lsTo (lfD sites clients) r clients.length else none
def lsL (sites clients : List Int) (r : Int) : List Int := (lsO sites clients r).getD []
def cmp_Less_int__C (f : FuncId) (ds : List D) : Orc := bif Nat.beq f 231 then cmp_isNaN_int__orc ds else .no
def cmp_Less_int__A (a : Int) (b : Int) : Ann := .none
def cmp_Less_int__P (a : Int) (b : Int) : Prop :=
  (PC Try.prog 231 [.int .i64 a] (.one (.d (.bool false)))) ∧ (false = true → false = true) ∧ (false = true → PC Try.prog 231 [.int .i64 b] (.one (.d (.bool false)))) ∧ (false = true → false = true) ∧ (true = true) ∧ ((false = true → false = true)) ∧ ((false = false → true = true)) ∧ ((!(cond false true false)) = true → (!(cond false true false)) = true) ∧ ((!(cond false true false)) = true → (!(cond false true false)) = true) ∧ (true = true) ∧ (((cond false true false) = true → true = true)) ∧ (((cond false true false) = false → (!(cond false true false)) = true)) ∧ (((cond (cond false true false) true (decide (a < b))) = (decide (a < b))))
theorem cmp_Less_int__vc (a : Int) (b : Int)   : cmp_Less_int__P a b := by
  unfold cmp_Less_int__P
  refine ⟨cmp_isNaN_int__pc a, id, fun _ => cmp_isNaN_int__pc b, id, rfl, id, fun _ => rfl, id, id, rfl, fun _ => rfl, ?_, ?_⟩
  · simp
  · simp
theorem cmp_Less_int__pc (a : Int) (b : Int)  : PC Try.prog 206 [.int .i64 a, .int .i64 b] (.one (.d (.bool (decide (a < b))))) :=
  pc_wf @Try.call206 fun _ => pc_by (by kernel_rfl) Try.func206 @Try.call206 (by kernel_rfl) cmp_Less_int__C (cmp_Less_int__A a b) (by kernel_rfl) (cmp_Less_int__vc a b) (by kernel_rfl)
def cmp_Less_int__orc : List D → Orc := orcN [none, none] fun ds => match ds with
  | [.int .i64 a, .int .i64 b] => some (.one (.d (.bool (decide (a < b)))))
  | _ => none
abbrev slices_IsSorted_int_int__JJ0 (xs : List Int) (i : Int) : Prop := (-1 ≤ i) ∧ (i < (xs.length : Int)) ∧ (∀ k : Nat, i ≤ (k : Int) → k + 1 < xs.length → xs.getD k 0 ≤ xs.getD (k + 1) 0)
abbrev slices_IsSorted_int_int__mJ0 (xs : List Int) (i : Int) : Nat := (i + 1).toNat
def slices_IsSorted_int_int__C (f : FuncId) (ds : List D) : Orc := bif Nat.beq f 206 then cmp_Less_int__orc ds else .no
def slices_IsSorted_int_int__A (xs : List Int) : Ann := .two (.none) (.two (.two (.none) (.loop (cut1 (fun (i : Int) => slices_IsSorted_int_int__JJ0 xs i) (fun (i : Int) => [(0, .d false (.sl (.ints xs))), (3, .d true (.int .i64 i))]) (fun (i : Int) => [])) (fun g => slices_IsSorted_int_int__mJ0 xs g) (fun _ => .none))) (.none))
def slices_IsSorted_int_int__P (xs : List Int) : Prop :=
  (-9223372036854775808 ≤ ((xs.length : Int) - 1) ∧ ((xs.length : Int) - 1) ≤ 9223372036854775807) ∧ ((∃ i' : Int, (slices_IsSorted_int_int__JJ0 xs i') ∧ (xs = xs) ∧ (((xs.length : Int) - 1) = i')) ∧ (∀ i : Int, (slices_IsSorted_int_int__JJ0 xs i) → (((decide (i > 0)) = true → (true = true) ∧ ((0 : Int) ≤ i) ∧ ((i : Int) < xs.length) ∧ (i.toNat < xs.length) ∧ (-9223372036854775808 ≤ (i - 1) ∧ (i - 1) ≤ 9223372036854775807) ∧ ((0 : Int) ≤ (i - 1)) ∧ (((i - 1) : Int) < xs.length) ∧ ((i - 1).toNat < xs.length) ∧ (PC Try.prog 206 [.int .i64 (xs.getD i.toNat 0), .int .i64 (xs.getD ((i - 1).toNat) 0)] (.one (.d (.bool (decide ((xs.getD i.toNat 0) < (xs.getD ((i - 1).toNat) 0))))))) ∧ (((decide ((xs.getD i.toNat 0) < (xs.getD ((i - 1).toNat) 0))) = true → ((false = (srtB xs)))) ∧ ((decide ((xs.getD i.toNat 0) < (xs.getD ((i - 1).toNat) 0))) = false → (-9223372036854775808 ≤ (i - 1) ∧ (i - 1) ≤ 9223372036854775807) ∧ (∃ i' : Int, (slices_IsSorted_int_int__JJ0 xs i') ∧ (slices_IsSorted_int_int__mJ0 xs i' < slices_IsSorted_int_int__mJ0 xs i) ∧ (xs = xs) ∧ ((i - 1) = i'))))) ∧ ((decide (i > 0)) = false → ((true = (srtB xs)))))))
theorem slices_IsSorted_int_int__vc (xs : List Int)  (w_xs : (xs.length : Int) ≤ 9223372036854775807) : slices_IsSorted_int_int__P xs := by
  unfold slices_IsSorted_int_int__P
  refine ⟨?_, ?_, ?_⟩
  · first | omega | rfl | (intro hg; simp only [nrmT] at hg; omega) | (intro g1 g2; simp [g1, g2]; done) | (intro g1; simp at g1 ⊢; simp [g1]; done) | (simp only [nrmT] at *; omega) | (simp at * <;> omega) | (simp_all <;> omega) | (simp_all; done)
  · refine ⟨((xs.length : Int) - 1), ?_⟩
    refine ⟨?_, rfl, rfl⟩
    · refine ⟨?_, ?_, ?_⟩
      · first | omega | rfl | (intro hg; simp only [nrmT] at hg; omega) | (intro g1 g2; simp [g1, g2]; done) | (intro g1; simp at g1 ⊢; simp [g1]; done) | (simp only [nrmT] at *; omega) | (simp at * <;> omega) | (simp_all <;> omega) | (simp_all; done)
      · first | omega | rfl | (intro hg; simp only [nrmT] at hg; omega) | (intro g1 g2; simp [g1, g2]; done) | (intro g1; simp at g1 ⊢; simp [g1]; done) | (simp only [nrmT] at *; omega) | (simp at * <;> omega) | (simp_all <;> omega) | (simp_all; done)
      · intro k h4 h5; omega
  · intro i hJ
    obtain ⟨h1, h2, h3⟩ := hJ
    refine ⟨?_, ?_⟩
    · intro b1
      try simp only [nrmT] at b1
      refine ⟨rfl, ?_, ?_, ?_, ?_, ?_, ?_, ?_, cmp_Less_int__pc (xs.getD i.toNat 0) (xs.getD ((i - 1).toNat) 0), ?_, ?_⟩
      · first | omega | rfl | (intro hg; simp only [nrmT] at hg; omega) | (intro g1 g2; simp [g1, g2]; done) | (intro g1; simp at g1 ⊢; simp [g1]; done) | (simp only [nrmT] at *; omega) | (simp at * <;> omega) | (simp_all <;> omega) | (simp_all; done)
      · first | omega | rfl | (intro hg; simp only [nrmT] at hg; omega) | (intro g1 g2; simp [g1, g2]; done) | (intro g1; simp at g1 ⊢; simp [g1]; done) | (simp only [nrmT] at *; omega) | (simp at * <;> omega) | (simp_all <;> omega) | (simp_all; done)
      · first | omega | rfl | (intro hg; simp only [nrmT] at hg; omega) | (intro g1 g2; simp [g1, g2]; done) | (intro g1; simp at g1 ⊢; simp [g1]; done) | (simp only [nrmT] at *; omega) | (simp at * <;> omega) | (simp_all <;> omega) | (simp_all; done)
      · first | omega | rfl | (intro hg; simp only [nrmT] at hg; omega) | (intro g1 g2; simp [g1, g2]; done) | (intro g1; simp at g1 ⊢; simp [g1]; done) | (simp only [nrmT] at *; omega) | (simp at * <;> omega) | (simp_all <;> omega) | (simp_all; done)
      · first | omega | rfl | (intro hg; simp only [nrmT] at hg; omega) | (intro g1 g2; simp [g1, g2]; done) | (intro g1; simp at g1 ⊢; simp [g1]; done) | (simp only [nrmT] at *; omega) | (simp at * <;> omega) | (simp_all <;> omega) | (simp_all; done)
      · first | omega | rfl | (intro hg; simp only [nrmT] at hg; omega) | (intro g1 g2; simp [g1, g2]; done) | (intro g1; simp at g1 ⊢; simp [g1]; done) | (simp only [nrmT] at *; omega) | (simp at * <;> omega) | (simp_all <;> omega) | (simp_all; done)
      · first | omega | rfl | (intro hg; simp only [nrmT] at hg; omega) | (intro g1 g2; simp [g1, g2]; done) | (intro g1; simp at g1 ⊢; simp [g1]; done) | (simp only [nrmT] at *; omega) | (simp at * <;> omega) | (simp_all <;> omega) | (simp_all; done)
      · intro b2
        try simp only [nrmT] at b2
        exact (srtB_no (by omega) h2 b2).symm
      · intro b3
        try simp only [nrmT] at b3
        refine ⟨?_, ?_⟩
        · first | omega | rfl | (intro hg; simp only [nrmT] at hg; omega) | (intro g1 g2; simp [g1, g2]; done) | (intro g1; simp at g1 ⊢; simp [g1]; done) | (simp only [nrmT] at *; omega) | (simp at * <;> omega) | (simp_all <;> omega) | (simp_all; done)
        · refine ⟨(i - 1), ?_⟩
          refine ⟨?_, ?_, rfl, rfl⟩
          · refine ⟨?_, ?_, ?_⟩
            · first | omega | rfl | (intro hg; simp only [nrmT] at hg; omega) | (intro g1 g2; simp [g1, g2]; done) | (intro g1; simp at g1 ⊢; simp [g1]; done) | (simp only [nrmT] at *; omega) | (simp at * <;> omega) | (simp_all <;> omega) | (simp_all; done)
            · first | omega | rfl | (intro hg; simp only [nrmT] at hg; omega) | (intro g1 g2; simp [g1, g2]; done) | (intro g1; simp at g1 ⊢; simp [g1]; done) | (simp only [nrmT] at *; omega) | (simp at * <;> omega) | (simp_all <;> omega) | (simp_all; done)
            · intro k h4 h5
              by_cases e : i ≤ (k : Int)
              · exact h3 k e h5
              · have e1 : k = (i - 1).toNat := by omega
                have e2 : k + 1 = i.toNat := by omega
                rw [e2, e1]
                omega
          · first | (show _ < _; omega) | (simp only [slices_IsSorted_int_int__mJ0]; omega) | (simp only [slices_IsSorted_int_int__mJ0] at *; simp at *; omega)
    · intro b4
      try simp only [nrmT] at b4
      exact (srtB_yes (by omega) h3).symm
theorem slices_IsSorted_int_int__pc (xs : List Int)  : PC Try.prog 132 [.sl (.ints xs)] (.one (.d (.bool (srtB xs)))) :=
  pc_wf @Try.call132 fun hw => pc_by (by kernel_rfl) Try.func132 @Try.call132 (by kernel_rfl) slices_IsSorted_int_int__C (slices_IsSorted_int_int__A xs) (by kernel_rfl) (slices_IsSorted_int_int__vc xs hw.1) (by kernel_rfl)
def slices_IsSorted_int_int__orc : List D → Orc := orcN [some .ints] fun ds => match ds with
  | [.sl (.ints xs)] => some (.one (.d (.bool (srtB xs))))
  | _ => none
theorem goodL_test {sites clients : List Int} : goodL sites clients = !(cond (cond (cond (cond (!(inB (sites.length : Int) 1 7)) true (!(rising sites 0 (100 - 1)))) true (decide ((clients.length : Int) > 7))) true (!(clients.all (fun x => inB x 0 99)))) true (!(srtB clients))) := by
  have d : decide ((clients.length : Int) > 7) = !(decide (clients.length ≤ 7)) := by
    by_cases h : clients.length ≤ 7
    · rw [decide_eq_true h, decide_eq_false (by omega)]; rfl
    · rw [decide_eq_false h, decide_eq_true (by omega)]; rfl
  unfold goodL
  rw [lineP_all, d, show (100 - 1 : Int) = 99 from rfl]
  cases clients.all (fun x => inB x 0 99) <;> cases srtB clients <;> cases inB (sites.length : Int) 1 7 <;> cases rising sites 0 99 <;> cases decide (clients.length ≤ 7) <;> rfl
theorem lineRow_get {sites : List Int} {c : Int} {a : Nat} (h : a < sites.length) : (lineRow sites c).getD a 0 = max (c - sites.getD a 0) (sites.getD a 0 - c) := tabTo_get h
abbrev s_l4Line_JJ0 (sites : List Int) (clients : List Int) (i : Int) : Prop := (0 ≤ i) ∧ (i ≤ (clients.length : Int)) ∧ (allTo (lineP clients) i.toNat = true)
abbrev s_l4Line_mJ0 (sites : List Int) (clients : List Int) (i : Int) : Nat := (clients.length - i).toNat
def s_l4Line_C (f : FuncId) (ds : List D) : Orc := bif Nat.beq f 116 then s_l1In_orc ds else bif Nat.beq f 167 then s_l1Rising_orc ds else .no
def s_l4Line_A (sites : List Int) (clients : List Int) : Ann := .two (.none) (.two (.two (.none) (.loop (cut1 (fun (i : Int) => s_l4Line_JJ0 sites clients i) (fun (i : Int) => [(0, .d false (.sl (.ints sites))), (1, .d false (.sl (.ints clients))), (5, .d true (.int .i64 i))]) (fun (i : Int) => [])) (fun g => s_l4Line_mJ0 sites clients g) (fun _ => .none))) (.none))
def s_l4Line_P (sites : List Int) (clients : List Int) : Prop :=
  ((∃ i' : Int, (s_l4Line_JJ0 sites clients i') ∧ (sites = sites) ∧ (clients = clients) ∧ ((0 : Int) = i')) ∧ (∀ i : Int, (s_l4Line_JJ0 sites clients i) → (((decide (i < (clients.length : Int))) = true → (true = true) ∧ ((0 : Int) ≤ i) ∧ ((i : Int) < clients.length) ∧ (i.toNat < clients.length) ∧ (PC Try.prog 116 [.int .i64 (clients.getD i.toNat 0), .int .i64 0, .int .i64 99] (.one (.d (.bool (inB (clients.getD i.toNat 0) 0 99))))) ∧ ((!(!(inB (clients.getD i.toNat 0) 0 99))) = true → (!(!(inB (clients.getD i.toNat 0) 0 99))) = true) ∧ ((!(!(inB (clients.getD i.toNat 0) 0 99))) = true → (!(!(inB (clients.getD i.toNat 0) 0 99))) = true) ∧ (((!(!(inB (clients.getD i.toNat 0) 0 99))) && (decide (i > 0))) = true → ((!(!(inB (clients.getD i.toNat 0) 0 99))) && (decide (i > 0))) = true) ∧ ((((!(!(inB (clients.getD i.toNat 0) 0 99))) && (decide (i > 0))) = true → -9223372036854775808 ≤ (i - 1) ∧ (i - 1) ≤ 9223372036854775807)) ∧ (((!(!(inB (clients.getD i.toNat 0) 0 99))) && (decide (i > 0))) = true → ((!(!(inB (clients.getD i.toNat 0) 0 99))) && (decide (i > 0))) = true) ∧ (((!(!(inB (clients.getD i.toNat 0) 0 99))) && (decide (i > 0))) = true → ((!(!(inB (clients.getD i.toNat 0) 0 99))) && (decide (i > 0))) = true) ∧ ((((!(!(inB (clients.getD i.toNat 0) 0 99))) && (decide (i > 0))) = true → (0 : Int) ≤ (i - 1))) ∧ ((((!(!(inB (clients.getD i.toNat 0) 0 99))) && (decide (i > 0))) = true → ((i - 1) : Int) < clients.length)) ∧ (((!(!(inB (clients.getD i.toNat 0) 0 99))) && (decide (i > 0))) = true → ((!(!(inB (clients.getD i.toNat 0) 0 99))) && (decide (i > 0))) = true) ∧ ((((!(!(inB (clients.getD i.toNat 0) 0 99))) && (decide (i > 0))) = true → (i - 1).toNat < clients.length)) ∧ (((!(!(inB (clients.getD i.toNat 0) 0 99))) && (decide (i > 0))) = true → ((!(!(inB (clients.getD i.toNat 0) 0 99))) && (decide (i > 0))) = true) ∧ (((!(!(inB (clients.getD i.toNat 0) 0 99))) && (decide (i > 0))) = true → ((!(!(inB (clients.getD i.toNat 0) 0 99))) && (decide (i > 0))) = true) ∧ ((((!(!(inB (clients.getD i.toNat 0) 0 99))) && (decide (i > 0))) = true → (0 : Int) ≤ i)) ∧ ((((!(!(inB (clients.getD i.toNat 0) 0 99))) && (decide (i > 0))) = true → (i : Int) < clients.length)) ∧ (((!(!(inB (clients.getD i.toNat 0) 0 99))) && (decide (i > 0))) = true → ((!(!(inB (clients.getD i.toNat 0) 0 99))) && (decide (i > 0))) = true) ∧ ((((!(!(inB (clients.getD i.toNat 0) 0 99))) && (decide (i > 0))) = true → i.toNat < clients.length)) ∧ (((!(!(inB (clients.getD i.toNat 0) 0 99))) && (decide (i > 0))) = true → ((!(!(inB (clients.getD i.toNat 0) 0 99))) && (decide (i > 0))) = true) ∧ (((!(!(inB (clients.getD i.toNat 0) 0 99))) && (decide (i > 0))) = true → ((!(!(inB (clients.getD i.toNat 0) 0 99))) && (decide (i > 0))) = true) ∧ (((!(!(inB (clients.getD i.toNat 0) 0 99))) = true → (!(!(inB (clients.getD i.toNat 0) 0 99))) = true)) ∧ (((!(!(inB (clients.getD i.toNat 0) 0 99))) = true → (decide (i > 0)) = true → ((!(!(inB (clients.getD i.toNat 0) 0 99))) && (decide (i > 0))) = true)) ∧ (((!(!(inB (clients.getD i.toNat 0) 0 99))) = true → (decide (i > 0)) = false → true = true)) ∧ (true = true) ∧ (((!(inB (clients.getD i.toNat 0) 0 99)) = true → true = true)) ∧ (((!(inB (clients.getD i.toNat 0) 0 99)) = false → (!(!(inB (clients.getD i.toNat 0) 0 99))) = true)) ∧ (((cond (!(inB (clients.getD i.toNat 0) 0 99)) true (cond (decide (i > 0)) (decide ((clients.getD ((i - 1).toNat) 0) > (clients.getD i.toNat 0))) false)) = true → ((false = (goodL sites clients)))) ∧ ((cond (!(inB (clients.getD i.toNat 0) 0 99)) true (cond (decide (i > 0)) (decide ((clients.getD ((i - 1).toNat) 0) > (clients.getD i.toNat 0))) false)) = false → (-9223372036854775808 ≤ (i + 1) ∧ (i + 1) ≤ 9223372036854775807) ∧ (∃ i' : Int, (s_l4Line_JJ0 sites clients i') ∧ (s_l4Line_mJ0 sites clients i' < s_l4Line_mJ0 sites clients i) ∧ (sites = sites) ∧ (clients = clients) ∧ ((i + 1) = i'))))) ∧ ((decide (i < (clients.length : Int))) = false → (PC Try.prog 116 [.int .i64 (sites.length : Int), .int .i64 1, .int .i64 7] (.one (.d (.bool (inB (sites.length : Int) 1 7))))) ∧ ((inB (sites.length : Int) 1 7) = true → (inB (sites.length : Int) 1 7) = true) ∧ ((inB (sites.length : Int) 1 7) = true → PC Try.prog 167 [.sl (.ints sites), .int .i64 0, .int .i64 99] (.one (.d (.bool (rising sites 0 99))))) ∧ (true = true) ∧ (((inB (sites.length : Int) 1 7) = true → (inB (sites.length : Int) 1 7) = true)) ∧ (((inB (sites.length : Int) 1 7) = false → true = true)) ∧ ((cond (inB (sites.length : Int) 1 7) (rising sites 0 99) false) = true → (cond (inB (sites.length : Int) 1 7) (rising sites 0 99) false) = true) ∧ ((cond (inB (sites.length : Int) 1 7) (rising sites 0 99) false) = true → (cond (inB (sites.length : Int) 1 7) (rising sites 0 99) false) = true) ∧ (true = true) ∧ (((cond (inB (sites.length : Int) 1 7) (rising sites 0 99) false) = true → (cond (inB (sites.length : Int) 1 7) (rising sites 0 99) false) = true)) ∧ (((cond (inB (sites.length : Int) 1 7) (rising sites 0 99) false) = false → true = true)) ∧ (((cond (cond (inB (sites.length : Int) 1 7) (rising sites 0 99) false) (decide ((clients.length : Int) ≤ 7)) false) = (goodL sites clients)))))))
theorem s_l4Line_vc (sites : List Int) (clients : List Int)  (w_sites : (sites.length : Int) ≤ 9223372036854775807) (w_clients : (clients.length : Int) ≤ 9223372036854775807) : s_l4Line_P sites clients := by
  unfold s_l4Line_P
  refine ⟨?_, ?_⟩
  · refine ⟨0, ?_⟩
    refine ⟨?_, rfl, rfl, rfl⟩
    · refine ⟨?_, ?_, ?_⟩
      · first | omega | rfl | (intro hg; simp only [nrmT] at hg; omega) | (intro g1 g2; simp [g1, g2]; done) | (intro g1; simp at g1 ⊢; simp [g1]; done) | (simp only [nrmT] at *; omega) | (simp at * <;> omega) | (simp_all <;> omega) | (simp_all; done)
      · first | omega | rfl | (intro hg; simp only [nrmT] at hg; omega) | (intro g1 g2; simp [g1, g2]; done) | (intro g1; simp at g1 ⊢; simp [g1]; done) | (simp only [nrmT] at *; omega) | (simp at * <;> omega) | (simp_all <;> omega) | (simp_all; done)
      · first | omega | rfl | (intro hg; simp only [nrmT] at hg; omega) | (intro g1 g2; simp [g1, g2]; done) | (intro g1; simp at g1 ⊢; simp [g1]; done) | (simp only [nrmT] at *; omega) | (simp at * <;> omega) | (simp_all <;> omega) | (simp_all; done)
  · intro i hJ
    obtain ⟨h1, h2, h3⟩ := hJ
    refine ⟨?_, ?_⟩
    · intro b1
      try simp only [nrmT] at b1
      refine ⟨rfl, ?_, ?_, ?_, s_l1In_pc (clients.getD i.toNat 0) 0 99, id, id, id, ?_, id, id, ?_, ?_, id, ?_, id, id, ?_, ?_, id, ?_, id, id, id, ?_, fun _ _ => rfl, rfl, fun _ => rfl, ?_, ?_, ?_⟩
      · first | omega | rfl | (intro hg; simp only [nrmT] at hg; omega) | (intro g1 g2; simp [g1, g2]; done) | (intro g1; simp at g1 ⊢; simp [g1]; done) | (simp only [nrmT] at *; omega) | (simp at * <;> omega) | (simp_all <;> omega) | (simp_all; done)
      · first | omega | rfl | (intro hg; simp only [nrmT] at hg; omega) | (intro g1 g2; simp [g1, g2]; done) | (intro g1; simp at g1 ⊢; simp [g1]; done) | (simp only [nrmT] at *; omega) | (simp at * <;> omega) | (simp_all <;> omega) | (simp_all; done)
      · first | omega | rfl | (intro hg; simp only [nrmT] at hg; omega) | (intro g1 g2; simp [g1, g2]; done) | (intro g1; simp at g1 ⊢; simp [g1]; done) | (simp only [nrmT] at *; omega) | (simp at * <;> omega) | (simp_all <;> omega) | (simp_all; done)
      · first | omega | rfl | (intro hg; simp only [nrmT] at hg; omega) | (intro g1 g2; simp [g1, g2]; done) | (intro g1; simp at g1 ⊢; simp [g1]; done) | (simp only [nrmT] at *; omega) | (simp at * <;> omega) | (simp_all <;> omega) | (simp_all; done)
      · first | omega | rfl | (intro hg; simp only [nrmT] at hg; omega) | (intro g1 g2; simp [g1, g2]; done) | (intro g1; simp at g1 ⊢; simp [g1]; done) | (simp only [nrmT] at *; omega) | (simp at * <;> omega) | (simp_all <;> omega) | (simp_all; done)
      · first | omega | rfl | (intro hg; simp only [nrmT] at hg; omega) | (intro g1 g2; simp [g1, g2]; done) | (intro g1; simp at g1 ⊢; simp [g1]; done) | (simp only [nrmT] at *; omega) | (simp at * <;> omega) | (simp_all <;> omega) | (simp_all; done)
      · first | omega | rfl | (intro hg; simp only [nrmT] at hg; omega) | (intro g1 g2; simp [g1, g2]; done) | (intro g1; simp at g1 ⊢; simp [g1]; done) | (simp only [nrmT] at *; omega) | (simp at * <;> omega) | (simp_all <;> omega) | (simp_all; done)
      · first | omega | rfl | (intro hg; simp only [nrmT] at hg; omega) | (intro g1 g2; simp [g1, g2]; done) | (intro g1; simp at g1 ⊢; simp [g1]; done) | (simp only [nrmT] at *; omega) | (simp at * <;> omega) | (simp_all <;> omega) | (simp_all; done)
      · first | omega | rfl | (intro hg; simp only [nrmT] at hg; omega) | (intro g1 g2; simp [g1, g2]; done) | (intro g1; simp at g1 ⊢; simp [g1]; done) | (simp only [nrmT] at *; omega) | (simp at * <;> omega) | (simp_all <;> omega) | (simp_all; done)
      · first | omega | rfl | (intro hg; simp only [nrmT] at hg; omega) | (intro g1 g2; simp [g1, g2]; done) | (intro g1; simp at g1 ⊢; simp [g1]; done) | (simp only [nrmT] at *; omega) | (simp at * <;> omega) | (simp_all <;> omega) | (simp_all; done)
      · first | omega | rfl | (intro hg; simp only [nrmT] at hg; omega) | (intro g1 g2; simp [g1, g2]; done) | (intro g1; simp at g1 ⊢; simp [g1]; done) | (simp only [nrmT] at *; omega) | (simp at * <;> omega) | (simp_all <;> omega) | (simp_all; done)
      · first | omega | rfl | (intro hg; simp only [nrmT] at hg; omega) | (intro g1 g2; simp [g1, g2]; done) | (intro g1; simp at g1 ⊢; simp [g1]; done) | (simp only [nrmT] at *; omega) | (simp at * <;> omega) | (simp_all <;> omega) | (simp_all; done)
      · intro b2
        unfold goodL
        rw [allTo_falseI h1 (by omega) (by rw [lineP_step h1 (b := true) (by revert b2; cases inB (clients.getD i.toNat 0) 0 99 <;> simp)]; rfl)]
        rfl
      · intro b3
        refine ⟨?_, ?_⟩
        · first | omega | rfl | (intro hg; simp only [nrmT] at hg; omega) | (intro g1 g2; simp [g1, g2]; done) | (intro g1; simp at g1 ⊢; simp [g1]; done) | (simp only [nrmT] at *; omega) | (simp at * <;> omega) | (simp_all <;> omega) | (simp_all; done)
        · refine ⟨(i + 1), ?_⟩
          refine ⟨?_, ?_, rfl, rfl, rfl⟩
          · refine ⟨?_, ?_, ?_⟩
            · first | omega | rfl | (intro hg; simp only [nrmT] at hg; omega) | (intro g1 g2; simp [g1, g2]; done) | (intro g1; simp at g1 ⊢; simp [g1]; done) | (simp only [nrmT] at *; omega) | (simp at * <;> omega) | (simp_all <;> omega) | (simp_all; done)
            · first | omega | rfl | (intro hg; simp only [nrmT] at hg; omega) | (intro g1 g2; simp [g1, g2]; done) | (intro g1; simp at g1 ⊢; simp [g1]; done) | (simp only [nrmT] at *; omega) | (simp at * <;> omega) | (simp_all <;> omega) | (simp_all; done)
            · exact allTo_step h1 h3 (by rw [lineP_step h1 (b := false) (by revert b3; cases inB (clients.getD i.toNat 0) 0 99 <;> simp)]; rfl)
          · first | (show _ < _; omega) | (simp only [s_l4Line_mJ0]; omega) | (simp only [s_l4Line_mJ0] at *; simp at *; omega)
    · intro b4
      try simp only [nrmT] at b4
      refine ⟨s_l1In_pc (sites.length : Int) 1 7, id, fun _ => s_l1Rising_pc sites 0 99, rfl, id, fun _ => rfl, id, id, rfl, id, fun _ => rfl, ?_⟩
      · unfold goodL
        rw [← show allTo (lineP clients) i.toNat = allTo (lineP clients) clients.length by rw [show i.toNat = clients.length by omega], h3, Bool.true_and]
        rw [show decide ((clients.length : Int) ≤ 7) = decide (clients.length ≤ 7) by congr 1; exact propext ⟨fun h => by omega, fun h => by omega⟩]
        cases inB (sites.length : Int) 1 7 <;> cases rising sites 0 99 <;> rfl
theorem s_l4Line_pc (sites : List Int) (clients : List Int)  : PC Try.prog 137 [.sl (.ints sites), .sl (.ints clients)] (.one (.d (.bool (goodL sites clients)))) :=
  pc_wf @Try.call137 fun hw => pc_by (by kernel_rfl) Try.func137 @Try.call137 (by kernel_rfl) s_l4Line_C (s_l4Line_A sites clients) (by kernel_rfl) (s_l4Line_vc sites clients hw.1 hw.2.1) (by kernel_rfl)
def s_l4Line_orc : List D → Orc := orcN [some .ints, some .ints] fun ds => match ds with
  | [.sl (.ints sites), .sl (.ints clients)] => some (.one (.d (.bool (goodL sites clients))))
  | _ => none
abbrev s_l4Laid_JJ0 (sites : List Int) (clients : List Int) (i : Int) (op : List Int) (out : List (List Int)) : Prop := (0 ≤ i) ∧ (i ≤ (clients.length : Int)) ∧ (op = List.replicate sites.length 0) ∧ (out = tabTo (fun j => lineRow sites (clients.getD j 0)) i.toNat)
abbrev s_l4Laid_mJ0 (sites : List Int) (clients : List Int) (i : Int) (op : List Int) (out : List (List Int)) : Nat := (clients.length - i).toNat
abbrev s_l4Laid_JJ1 (sites : List Int) (clients : List Int) (i : Int) (op : List Int) (out : List (List Int)) (row : List Int) (a : Int) : Prop := (0 ≤ a) ∧ (a ≤ (sites.length : Int)) ∧ (row = tabTo (fun c => max (clients.getD i.toNat 0 - sites.getD c 0) (sites.getD c 0 - clients.getD i.toNat 0)) a.toNat)
abbrev s_l4Laid_mJ1 (sites : List Int) (clients : List Int) (i : Int) (op : List Int) (out : List (List Int)) (row : List Int) (a : Int) : Nat := (sites.length - a).toNat
abbrev s_l4Laid_JA1 (sites : List Int) (clients : List Int) (i : Int) (op : List Int) (out : List (List Int)) (row2 : List Int) : Prop := (row2 = lineRow sites (clients.getD i.toNat 0))
def s_l4Laid_C (f : FuncId) (ds : List D) : Orc := bif Nat.beq f 152 then s_l1Most_orc ds else .no
def s_l4Laid_A (sites : List Int) (clients : List Int) : Ann := .two (.none) (.two (.none) (.two (.two (.none) (.loop (cut3 (fun (i : Int) (op : List Int) (out : List (List Int)) => s_l4Laid_JJ0 sites clients i op out) (fun (i : Int) (op : List Int) (out : List (List Int)) => [(0, .d false (.sl (.ints sites))), (1, .d false (.sl (.ints clients))), (4, .ptr 4 0), (5, .ptr 5 0), (6, .d true (.int .i64 i))]) (fun (i : Int) (op : List Int) (out : List (List Int)) => [(4, .box 39 [.d true (.nil), .d true (.nil)]), (1000001, .arr true 3 (.ints op)), (1000002, .arr true 26 (.rows out)), (5, .box 39 [.own 1000001 op.length, .own 1000002 out.length])])) (fun g => s_l4Laid_mJ0 sites clients g.1 g.2.1 g.2.2) (fun g => (fun (i : Int) (op : List Int) (out : List (List Int)) => .two (.none) (.two (.two (.none) (.cut (.two (.none) (.loop (cut2 (fun (row : List Int) (a : Int) => s_l4Laid_JJ1 sites clients i op out row a) (fun (row : List Int) (a : Int) => [(0, .d false (.sl (.ints sites))), (1, .d false (.sl (.ints clients))), (4, .ptr 4 0), (5, .ptr 5 0), (6, .d true (.int .i64 i)), (7, .own 1000100 row.length), (8, .d true (.int .i64 a))]) (fun (row : List Int) (a : Int) => [(1000100, .arr true 3 (.ints row)), (4, .box 39 [.d true (.nil), .d true (.nil)]), (5, .box 39 [.own 1000001 op.length, .own 1000002 out.length]), (1000001, .arr true 3 (.ints op)), (1000002, .arr true 26 (.rows out))])) (fun g => s_l4Laid_mJ1 sites clients i op out g.1 g.2) (fun _ => .none))) (cut1 (fun (row2 : List Int) => s_l4Laid_JA1 sites clients i op out row2) (fun (row2 : List Int) => [(0, .d false (.sl (.ints sites))), (1, .d false (.sl (.ints clients))), (4, .ptr 4 0), (5, .ptr 5 0), (6, .d true (.int .i64 i)), (7, .d true (.sl (.ints row2)))]) (fun (row2 : List Int) => [(4, .box 39 [.d true (.nil), .d true (.nil)]), (5, .box 39 [.own 1000001 op.length, .own 1000002 out.length]), (1000001, .arr true 3 (.ints op)), (1000002, .arr true 26 (.rows out))])) (fun _ => .none))) (.none))) (g.1) (g.2.1) (g.2.2)))) (.none)))
def s_l4Laid_P (sites : List Int) (clients : List Int) : Prop :=
  ((sites.length : Int) = (sites.length : Int)) ∧ ((0 : Int) ≤ (sites.length : Int)) ∧ (((sites.length : Int) : Int) * ((8 : Nat) : Int) ≤ 140737488355328) ∧ ((∃ i' : Int, ∃ op' : List Int, ∃ out' : List (List Int), (s_l4Laid_JJ0 sites clients i' op' out') ∧ (sites = sites) ∧ (clients = clients) ∧ ((0 : Int) = i') ∧ ((List.replicate ((sites.length : Int).toNat) (0 : Int)) = op') ∧ ([] = out') ∧ ((sites.length : Int).toNat = op'.length) ∧ ((0 : Nat) = out'.length)) ∧ (∀ i : Int, ∀ op : List Int, ∀ out : List (List Int), (s_l4Laid_JJ0 sites clients i op out) → (((decide (i < (clients.length : Int))) = true → ((((∃ row' : List Int, ∃ a' : Int, (s_l4Laid_JJ1 sites clients i op out row' a') ∧ (sites = sites) ∧ (clients = clients) ∧ (i = i) ∧ ((0 : Nat) = row'.length) ∧ ((0 : Int) = a') ∧ ([] = row') ∧ (op.length = op.length) ∧ (out.length = out.length) ∧ (op = op) ∧ (out = out)) ∧ (∀ row : List Int, ∀ a : Int, (s_l4Laid_JJ1 sites clients i op out row a) → (((decide (a < (sites.length : Int))) = true → (true = true) ∧ ((0 : Int) ≤ i) ∧ ((i : Int) < clients.length) ∧ (i.toNat < clients.length) ∧ ((0 : Int) ≤ a) ∧ ((a : Int) < sites.length) ∧ (a.toNat < sites.length) ∧ (-9223372036854775808 ≤ ((clients.getD i.toNat 0) - (sites.getD a.toNat 0)) ∧ ((clients.getD i.toNat 0) - (sites.getD a.toNat 0)) ≤ 9223372036854775807) ∧ ((0 : Int) ≤ a) ∧ ((a : Int) < sites.length) ∧ (a.toNat < sites.length) ∧ ((0 : Int) ≤ i) ∧ ((i : Int) < clients.length) ∧ (i.toNat < clients.length) ∧ (-9223372036854775808 ≤ ((sites.getD a.toNat 0) - (clients.getD i.toNat 0)) ∧ ((sites.getD a.toNat 0) - (clients.getD i.toNat 0)) ≤ 9223372036854775807) ∧ (PC Try.prog 152 [.int .i64 ((clients.getD i.toNat 0) - (sites.getD a.toNat 0)), .int .i64 ((sites.getD a.toNat 0) - (clients.getD i.toNat 0))] (.one (.d (.int .i64 (max ((clients.getD i.toNat 0) - (sites.getD a.toNat 0)) ((sites.getD a.toNat 0) - (clients.getD i.toNat 0))))))) ∧ (row.length = row.length) ∧ ((1 : Nat) = 1) ∧ ((row.length + 1) * 8 ≤ 140737488355328) ∧ (-9223372036854775808 ≤ (a + 1) ∧ (a + 1) ≤ 9223372036854775807) ∧ (∃ row' : List Int, ∃ a' : Int, (s_l4Laid_JJ1 sites clients i op out row' a') ∧ (s_l4Laid_mJ1 sites clients i op out row' a' < s_l4Laid_mJ1 sites clients i op out row a) ∧ (sites = sites) ∧ (clients = clients) ∧ (i = i) ∧ ((row.length + 1) = row'.length) ∧ ((a + 1) = a') ∧ ((row ++ [(max ((clients.getD i.toNat 0) - (sites.getD a.toNat 0)) ((sites.getD a.toNat 0) - (clients.getD i.toNat 0)))]) = row') ∧ (op.length = op.length) ∧ (out.length = out.length) ∧ (op = op) ∧ (out = out))) ∧ ((decide (a < (sites.length : Int))) = false → (∃ row2' : List Int, (s_l4Laid_JA1 sites clients i op out row2') ∧ (sites = sites) ∧ (clients = clients) ∧ (i = i) ∧ (row.length = row.length) ∧ (row = row2') ∧ (op.length = op.length) ∧ (out.length = out.length) ∧ (op = op) ∧ (out = out))))))) ∧ (∀ row2 : List Int, (s_l4Laid_JA1 sites clients i op out row2) → (out.length = out.length) ∧ ((1 : Nat) = 1) ∧ ((out.length + 1) * 24 ≤ 140737488355328) ∧ (-9223372036854775808 ≤ (i + 1) ∧ (i + 1) ≤ 9223372036854775807) ∧ (∃ i' : Int, ∃ op' : List Int, ∃ out' : List (List Int), (s_l4Laid_JJ0 sites clients i' op' out') ∧ (s_l4Laid_mJ0 sites clients i' op' out' < s_l4Laid_mJ0 sites clients i op out) ∧ (sites = sites) ∧ (clients = clients) ∧ ((i + 1) = i') ∧ (op = op') ∧ ((out ++ [row2]) = out') ∧ (op.length = op'.length) ∧ ((out.length + 1) = out'.length))))) ∧ ((decide (i < (clients.length : Int))) = false → ((op.length = op.length) ∧ (out.length = out.length) ∧ ((.agg [.sl (.ints op), .sl (.rows out)] : D) = .agg [.sl (.ints (List.replicate sites.length 0)), .sl (.rows (lineD sites clients))]))))))
theorem s_l4Laid_vc (sites : List Int) (clients : List Int) (hg : goodL sites clients = true) (w_sites : (sites.length : Int) ≤ 9223372036854775807) (w_clients : (clients.length : Int) ≤ 9223372036854775807) : s_l4Laid_P sites clients := by
  unfold s_l4Laid_P
  obtain ⟨g1, g2, g3, g4, g5⟩ := goodL_facts hg
  have sr := fun (k : Nat) (hk : k < sites.length) => rising_at g4 k hk
  refine ⟨rfl, ?_, ?_, ?_, ?_⟩
  · first | omega | rfl | (intro hg; simp only [nrmT] at hg; omega) | (intro g1 g2; simp [g1, g2]; done) | (intro g1; simp at g1 ⊢; simp [g1]; done) | (simp only [nrmT] at *; omega) | (simp at * <;> omega) | (simp_all <;> omega) | (simp_all; done)
  · first | omega | rfl | (intro hg; simp only [nrmT] at hg; omega) | (intro g1 g2; simp [g1, g2]; done) | (intro g1; simp at g1 ⊢; simp [g1]; done) | (simp only [nrmT] at *; omega) | (simp at * <;> omega) | (simp_all <;> omega) | (simp_all; done)
  · refine ⟨0, (List.replicate ((sites.length : Int).toNat) (0 : Int)), ([]), ?_⟩
    refine ⟨?_, rfl, rfl, rfl, rfl, ?_, ?_, rfl⟩
    · refine ⟨?_, ?_, ?_, ?_⟩
      · first | omega | rfl | (intro hg; simp only [nrmT] at hg; omega) | (intro g1 g2; simp [g1, g2]; done) | (intro g1; simp at g1 ⊢; simp [g1]; done) | (simp only [nrmT] at *; omega) | (simp at * <;> omega) | (simp_all <;> omega) | (simp_all; done)
      · first | omega | rfl | (intro hg; simp only [nrmT] at hg; omega) | (intro g1 g2; simp [g1, g2]; done) | (intro g1; simp at g1 ⊢; simp [g1]; done) | (simp only [nrmT] at *; omega) | (simp at * <;> omega) | (simp_all <;> omega) | (simp_all; done)
      · first | omega | rfl | (intro hg; simp only [nrmT] at hg; omega) | (intro g1 g2; simp [g1, g2]; done) | (intro g1; simp at g1 ⊢; simp [g1]; done) | (simp only [nrmT] at *; omega) | (simp at * <;> omega) | (simp_all <;> omega) | (simp_all; done)
      · first | omega | rfl | (intro hg; simp only [nrmT] at hg; omega) | (intro g1 g2; simp [g1, g2]; done) | (intro g1; simp at g1 ⊢; simp [g1]; done) | (simp only [nrmT] at *; omega) | (simp at * <;> omega) | (simp_all <;> omega) | (simp_all; done)
    · first | omega | rfl | (intro hg; simp only [nrmT] at hg; omega) | (intro g1 g2; simp [g1, g2]; done) | (intro g1; simp at g1 ⊢; simp [g1]; done) | (simp only [nrmT] at *; omega) | (simp at * <;> omega) | (simp_all <;> omega) | (simp_all; done)
    · first | omega | rfl | (intro hg; simp only [nrmT] at hg; omega) | (intro g1 g2; simp [g1, g2]; done) | (intro g1; simp at g1 ⊢; simp [g1]; done) | (simp only [nrmT] at *; omega) | (simp at * <;> omega) | (simp_all <;> omega) | (simp_all; done)
  · intro i op out hJ
    obtain ⟨h1, h2, hop, h3⟩ := hJ
    refine ⟨?_, ?_⟩
    · intro b1
      try simp only [nrmT] at b1
      refine ⟨?_, ?_⟩
      · refine ⟨?_, ?_⟩
        · refine ⟨([]), 0, ?_⟩
          refine ⟨?_, rfl, rfl, rfl, rfl, rfl, ?_, rfl, rfl, rfl, rfl⟩
          · refine ⟨?_, ?_, ?_⟩
            · first | omega | rfl | (intro hg; simp only [nrmT] at hg; omega) | (intro g1 g2; simp [g1, g2]; done) | (intro g1; simp at g1 ⊢; simp [g1]; done) | (simp only [nrmT] at *; omega) | (simp at * <;> omega) | (simp_all <;> omega) | (simp_all; done)
            · first | omega | rfl | (intro hg; simp only [nrmT] at hg; omega) | (intro g1 g2; simp [g1, g2]; done) | (intro g1; simp at g1 ⊢; simp [g1]; done) | (simp only [nrmT] at *; omega) | (simp at * <;> omega) | (simp_all <;> omega) | (simp_all; done)
            · first | omega | rfl | (intro hg; simp only [nrmT] at hg; omega) | (intro g1 g2; simp [g1, g2]; done) | (intro g1; simp at g1 ⊢; simp [g1]; done) | (simp only [nrmT] at *; omega) | (simp at * <;> omega) | (simp_all <;> omega) | (simp_all; done)
          · first | omega | rfl | (intro hg; simp only [nrmT] at hg; omega) | (intro g1 g2; simp [g1, g2]; done) | (intro g1; simp at g1 ⊢; simp [g1]; done) | (simp only [nrmT] at *; omega) | (simp at * <;> omega) | (simp_all <;> omega) | (simp_all; done)
        · intro row a hJ
          obtain ⟨h4, h5, h6⟩ := hJ
          refine ⟨?_, ?_⟩
          · intro b2
            try simp only [nrmT] at b2
            refine ⟨rfl, ?_, ?_, ?_, ?_, ?_, ?_, ?_, ?_, ?_, ?_, ?_, ?_, ?_, ?_, s_l1Most_pc ((clients.getD i.toNat 0) - (sites.getD a.toNat 0)) ((sites.getD a.toNat 0) - (clients.getD i.toNat 0)), rfl, rfl, ?_, ?_, ?_⟩
            · first | omega | rfl | (intro hg; simp only [nrmT] at hg; omega) | (intro g1 g2; simp [g1, g2]; done) | (intro g1; simp at g1 ⊢; simp [g1]; done) | (simp only [nrmT] at *; omega) | (simp at * <;> omega) | (simp_all <;> omega) | (simp_all; done)
            · first | omega | rfl | (intro hg; simp only [nrmT] at hg; omega) | (intro g1 g2; simp [g1, g2]; done) | (intro g1; simp at g1 ⊢; simp [g1]; done) | (simp only [nrmT] at *; omega) | (simp at * <;> omega) | (simp_all <;> omega) | (simp_all; done)
            · first | omega | rfl | (intro hg; simp only [nrmT] at hg; omega) | (intro g1 g2; simp [g1, g2]; done) | (intro g1; simp at g1 ⊢; simp [g1]; done) | (simp only [nrmT] at *; omega) | (simp at * <;> omega) | (simp_all <;> omega) | (simp_all; done)
            · first | omega | rfl | (intro hg; simp only [nrmT] at hg; omega) | (intro g1 g2; simp [g1, g2]; done) | (intro g1; simp at g1 ⊢; simp [g1]; done) | (simp only [nrmT] at *; omega) | (simp at * <;> omega) | (simp_all <;> omega) | (simp_all; done)
            · first | omega | rfl | (intro hg; simp only [nrmT] at hg; omega) | (intro g1 g2; simp [g1, g2]; done) | (intro g1; simp at g1 ⊢; simp [g1]; done) | (simp only [nrmT] at *; omega) | (simp at * <;> omega) | (simp_all <;> omega) | (simp_all; done)
            · first | omega | rfl | (intro hg; simp only [nrmT] at hg; omega) | (intro g1 g2; simp [g1, g2]; done) | (intro g1; simp at g1 ⊢; simp [g1]; done) | (simp only [nrmT] at *; omega) | (simp at * <;> omega) | (simp_all <;> omega) | (simp_all; done)
            · have q1 := g5 i.toNat (by omega)
              have q2 := sr a.toNat (by omega)
              omega
            · first | omega | rfl | (intro hg; simp only [nrmT] at hg; omega) | (intro g1 g2; simp [g1, g2]; done) | (intro g1; simp at g1 ⊢; simp [g1]; done) | (simp only [nrmT] at *; omega) | (simp at * <;> omega) | (simp_all <;> omega) | (simp_all; done)
            · first | omega | rfl | (intro hg; simp only [nrmT] at hg; omega) | (intro g1 g2; simp [g1, g2]; done) | (intro g1; simp at g1 ⊢; simp [g1]; done) | (simp only [nrmT] at *; omega) | (simp at * <;> omega) | (simp_all <;> omega) | (simp_all; done)
            · first | omega | rfl | (intro hg; simp only [nrmT] at hg; omega) | (intro g1 g2; simp [g1, g2]; done) | (intro g1; simp at g1 ⊢; simp [g1]; done) | (simp only [nrmT] at *; omega) | (simp at * <;> omega) | (simp_all <;> omega) | (simp_all; done)
            · first | omega | rfl | (intro hg; simp only [nrmT] at hg; omega) | (intro g1 g2; simp [g1, g2]; done) | (intro g1; simp at g1 ⊢; simp [g1]; done) | (simp only [nrmT] at *; omega) | (simp at * <;> omega) | (simp_all <;> omega) | (simp_all; done)
            · first | omega | rfl | (intro hg; simp only [nrmT] at hg; omega) | (intro g1 g2; simp [g1, g2]; done) | (intro g1; simp at g1 ⊢; simp [g1]; done) | (simp only [nrmT] at *; omega) | (simp at * <;> omega) | (simp_all <;> omega) | (simp_all; done)
            · first | omega | rfl | (intro hg; simp only [nrmT] at hg; omega) | (intro g1 g2; simp [g1, g2]; done) | (intro g1; simp at g1 ⊢; simp [g1]; done) | (simp only [nrmT] at *; omega) | (simp at * <;> omega) | (simp_all <;> omega) | (simp_all; done)
            · have q1 := g5 i.toNat (by omega)
              have q2 := sr a.toNat (by omega)
              omega
            · have hg0 : goodL sites clients = true := by first | exact hg | (rw [goodL_test, b2]; rfl)
              obtain ⟨q1, q2, q3, q4, q5⟩ := goodL_facts hg0
              rw [h6, tabTo_len]; omega
            · first | omega | rfl | (intro hg; simp only [nrmT] at hg; omega) | (intro g1 g2; simp [g1, g2]; done) | (intro g1; simp at g1 ⊢; simp [g1]; done) | (simp only [nrmT] at *; omega) | (simp at * <;> omega) | (simp_all <;> omega) | (simp_all; done)
            · refine ⟨(row ++ [(max ((clients.getD i.toNat 0) - (sites.getD a.toNat 0)) ((sites.getD a.toNat 0) - (clients.getD i.toNat 0)))]), (a + 1), ?_⟩
              refine ⟨?_, ?_, rfl, rfl, rfl, ?_, rfl, rfl, rfl, rfl, rfl, rfl⟩
              · refine ⟨?_, ?_, ?_⟩
                · first | omega | rfl | (intro hg; simp only [nrmT] at hg; omega) | (intro g1 g2; simp [g1, g2]; done) | (intro g1; simp at g1 ⊢; simp [g1]; done) | (simp only [nrmT] at *; omega) | (simp at * <;> omega) | (simp_all <;> omega) | (simp_all; done)
                · first | omega | rfl | (intro hg; simp only [nrmT] at hg; omega) | (intro g1 g2; simp [g1, g2]; done) | (intro g1; simp at g1 ⊢; simp [g1]; done) | (simp only [nrmT] at *; omega) | (simp at * <;> omega) | (simp_all <;> omega) | (simp_all; done)
                · rw [show (a + 1).toNat = a.toNat + 1 by omega, tabTo_succ, h6]
              · first | (show _ < _; omega) | (simp only [s_l4Laid_mJ1]; omega) | (simp only [s_l4Laid_mJ1] at *; simp at *; omega)
              · first | omega | rfl | (intro hg; simp only [nrmT] at hg; omega) | (intro g1 g2; simp [g1, g2]; done) | (intro g1; simp at g1 ⊢; simp [g1]; done) | (simp only [nrmT] at *; omega) | (simp at * <;> omega) | (simp_all <;> omega) | (simp_all; done)
          · intro b3
            try simp only [nrmT] at b3
            refine ⟨row, ?_⟩
            refine ⟨?_, rfl, rfl, rfl, rfl, rfl, rfl, rfl, rfl, rfl⟩
            · unfold s_l4Laid_JA1
              rw [h6, show a.toNat = sites.length by omega]; rfl
      · intro row2 hJ
        have h8 := hJ
        refine ⟨rfl, rfl, ?_, ?_, ?_⟩
        · have hg0 : goodL sites clients = true := by first | exact hg | (rw [goodL_test, b2]; rfl)
          obtain ⟨q1, q2, q3, q4, q5⟩ := goodL_facts hg0
          rw [h3, tabTo_len]; omega
        · first | omega | rfl | (intro hg; simp only [nrmT] at hg; omega) | (intro g1 g2; simp [g1, g2]; done) | (intro g1; simp at g1 ⊢; simp [g1]; done) | (simp only [nrmT] at *; omega) | (simp at * <;> omega) | (simp_all <;> omega) | (simp_all; done)
        · refine ⟨(i + 1), op, (out ++ [row2]), ?_⟩
          refine ⟨?_, ?_, rfl, rfl, rfl, rfl, rfl, rfl, ?_⟩
          · refine ⟨?_, ?_, ?_, ?_⟩
            · first | omega | rfl | (intro hg; simp only [nrmT] at hg; omega) | (intro g1 g2; simp [g1, g2]; done) | (intro g1; simp at g1 ⊢; simp [g1]; done) | (simp only [nrmT] at *; omega) | (simp at * <;> omega) | (simp_all <;> omega) | (simp_all; done)
            · first | omega | rfl | (intro hg; simp only [nrmT] at hg; omega) | (intro g1 g2; simp [g1, g2]; done) | (intro g1; simp at g1 ⊢; simp [g1]; done) | (simp only [nrmT] at *; omega) | (simp at * <;> omega) | (simp_all <;> omega) | (simp_all; done)
            · first | omega | rfl | (intro hg; simp only [nrmT] at hg; omega) | (intro g1 g2; simp [g1, g2]; done) | (intro g1; simp at g1 ⊢; simp [g1]; done) | (simp only [nrmT] at *; omega) | (simp at * <;> omega) | (simp_all <;> omega) | (simp_all; done)
            · rw [h8, show (i + 1).toNat = i.toNat + 1 by omega, tabTo_succ, h3]
          · first | (show _ < _; omega) | (simp only [s_l4Laid_mJ0]; omega) | (simp only [s_l4Laid_mJ0] at *; simp at *; omega)
          · first | omega | rfl | (intro hg; simp only [nrmT] at hg; omega) | (intro g1 g2; simp [g1, g2]; done) | (intro g1; simp at g1 ⊢; simp [g1]; done) | (simp only [nrmT] at *; omega) | (simp at * <;> omega) | (simp_all <;> omega) | (simp_all; done)
    · intro b4
      try simp only [nrmT] at b4
      refine ⟨rfl, rfl, ?_⟩
      · rw [hop, h3, show i.toNat = clients.length by omega]; rfl
theorem s_l4Laid_pc (sites : List Int) (clients : List Int) (hg : goodL sites clients = true) : PC Try.prog 138 [.sl (.ints sites), .sl (.ints clients)] (.one (.d (.agg [.sl (.ints (List.replicate sites.length 0)), .sl (.rows (lineD sites clients))]))) :=
  pc_wf @Try.call138 fun hw => pc_by (by kernel_rfl) Try.func138 @Try.call138 (by kernel_rfl) s_l4Laid_C (s_l4Laid_A sites clients) (by kernel_rfl) (s_l4Laid_vc sites clients hg hw.1 hw.2.1) (by kernel_rfl)
def s_l4Laid_orc : List D → Orc := orcN [some .ints, some .ints] fun ds => match ds with
  | [.sl (.ints sites), .sl (.ints clients)] => some (.one (.d (.agg [.sl (.ints (List.replicate sites.length 0)), .sl (.rows (lineD sites clients))])))
  | _ => none
abbrev i_LineField_JJ0 (sites : List Int) (clients : List Int) (i : Int) (op : List Int) (out : List (List Int)) : Prop := (0 ≤ i) ∧ (i ≤ (clients.length : Int)) ∧ (op = List.replicate sites.length 0) ∧ (out = tabTo (fun j => lineRow sites (clients.getD j 0)) i.toNat)
abbrev i_LineField_mJ0 (sites : List Int) (clients : List Int) (i : Int) (op : List Int) (out : List (List Int)) : Nat := (clients.length - i).toNat
abbrev i_LineField_JJ1 (sites : List Int) (clients : List Int) (i : Int) (op : List Int) (out : List (List Int)) (row : List Int) (a : Int) : Prop := (0 ≤ a) ∧ (a ≤ (sites.length : Int)) ∧ (row = tabTo (fun c => max (clients.getD i.toNat 0 - sites.getD c 0) (sites.getD c 0 - clients.getD i.toNat 0)) a.toNat)
abbrev i_LineField_mJ1 (sites : List Int) (clients : List Int) (i : Int) (op : List Int) (out : List (List Int)) (row : List Int) (a : Int) : Nat := (sites.length - a).toNat
abbrev i_LineField_JA1 (sites : List Int) (clients : List Int) (i : Int) (op : List Int) (out : List (List Int)) (row2 : List Int) : Prop := (row2 = lineRow sites (clients.getD i.toNat 0))
def i_LineField_C (f : FuncId) (ds : List D) : Orc := bif Nat.beq f 120 then i_between_orc ds else bif Nat.beq f 130 then i_isRising_orc ds else bif Nat.beq f 131 then i_areBetween_orc ds else bif Nat.beq f 132 then slices_IsSorted_int_int__orc ds else .no
def i_LineField_A (sites : List Int) (clients : List Int) : Ann := .two (.none) (.two (.none) (.two (.none) (.two (.two (.none) (.loop (cut3 (fun (i : Int) (op : List Int) (out : List (List Int)) => i_LineField_JJ0 sites clients i op out) (fun (i : Int) (op : List Int) (out : List (List Int)) => [(0, .d false (.sl (.ints sites))), (4, .ptr 4 0), (6, .ptr 6 0), (41, .d false (.sl (.ints clients))), (42, .d true (.int .i64 (clients.length : Int))), (43, .d true (.int .i64 i))]) (fun (i : Int) (op : List Int) (out : List (List Int)) => [(4, .box 39 [.d true (.nil), .d true (.nil)]), (1000001, .arr true 3 (.ints op)), (1000002, .arr true 26 (.rows out)), (6, .box 39 [.own 1000001 op.length, .own 1000002 out.length])])) (fun g => i_LineField_mJ0 sites clients g.1 g.2.1 g.2.2) (fun g => (fun (i : Int) (op : List Int) (out : List (List Int)) => .two (.none) (.two (.none) (.two (.two (.none) (.two (.none) (.cut (.two (.none) (.loop (cut2 (fun (row : List Int) (a : Int) => i_LineField_JJ1 sites clients i op out row a) (fun (row : List Int) (a : Int) => [(0, .d false (.sl (.ints sites))), (4, .ptr 4 0), (6, .ptr 6 0), (8, .d false (.int .i64 (clients.getD i.toNat 0))), (9, .own 1000100 row.length), (41, .d false (.sl (.ints clients))), (42, .d true (.int .i64 (clients.length : Int))), (43, .d true (.int .i64 i)), (48, .d false (.sl (.ints sites))), (49, .d true (.int .i64 (sites.length : Int))), (50, .d true (.int .i64 a))]) (fun (row : List Int) (a : Int) => [(1000100, .arr true 3 (.ints row)), (4, .box 39 [.d true (.nil), .d true (.nil)]), (6, .box 39 [.own 1000001 op.length, .own 1000002 out.length]), (1000001, .arr true 3 (.ints op)), (1000002, .arr true 26 (.rows out))])) (fun g => i_LineField_mJ1 sites clients i op out g.1 g.2) (fun _ => .none))) (cut1 (fun (row2 : List Int) => i_LineField_JA1 sites clients i op out row2) (fun (row2 : List Int) => [(0, .d false (.sl (.ints sites))), (4, .ptr 4 0), (6, .ptr 6 0), (9, .d true (.sl (.ints row2))), (41, .d false (.sl (.ints clients))), (42, .d true (.int .i64 (clients.length : Int))), (43, .d true (.int .i64 i))]) (fun (row2 : List Int) => [(4, .box 39 [.d true (.nil), .d true (.nil)]), (6, .box 39 [.own 1000001 op.length, .own 1000002 out.length]), (1000001, .arr true 3 (.ints op)), (1000002, .arr true 26 (.rows out))])) (fun _ => .none)))) (.none)))) (g.1) (g.2.1) (g.2.2)))) (.none))))
def i_LineField_P (sites : List Int) (clients : List Int) : Prop :=
  (PC Try.prog 120 [.int .i64 (sites.length : Int), .int .i64 1, .int .i64 7] (.one (.d (.bool (inB (sites.length : Int) 1 7))))) ∧ ((!(!(inB (sites.length : Int) 1 7))) = true → (!(!(inB (sites.length : Int) 1 7))) = true) ∧ ((!(!(inB (sites.length : Int) 1 7))) = true → PC Try.prog 130 [.sl (.ints sites), .int .i64 100] (.one (.d (.bool (rising sites 0 (100 - 1)))))) ∧ ((!(!(inB (sites.length : Int) 1 7))) = true → (!(!(inB (sites.length : Int) 1 7))) = true) ∧ (true = true) ∧ (((!(inB (sites.length : Int) 1 7)) = true → true = true)) ∧ (((!(inB (sites.length : Int) 1 7)) = false → (!(!(inB (sites.length : Int) 1 7))) = true)) ∧ ((!(cond (!(inB (sites.length : Int) 1 7)) true (!(rising sites 0 (100 - 1))))) = true → (!(cond (!(inB (sites.length : Int) 1 7)) true (!(rising sites 0 (100 - 1))))) = true) ∧ ((!(cond (!(inB (sites.length : Int) 1 7)) true (!(rising sites 0 (100 - 1))))) = true → (!(cond (!(inB (sites.length : Int) 1 7)) true (!(rising sites 0 (100 - 1))))) = true) ∧ (true = true) ∧ (((cond (!(inB (sites.length : Int) 1 7)) true (!(rising sites 0 (100 - 1)))) = true → true = true)) ∧ (((cond (!(inB (sites.length : Int) 1 7)) true (!(rising sites 0 (100 - 1)))) = false → (!(cond (!(inB (sites.length : Int) 1 7)) true (!(rising sites 0 (100 - 1))))) = true)) ∧ ((!(cond (cond (!(inB (sites.length : Int) 1 7)) true (!(rising sites 0 (100 - 1)))) true (decide ((clients.length : Int) > 7)))) = true → (!(cond (cond (!(inB (sites.length : Int) 1 7)) true (!(rising sites 0 (100 - 1)))) true (decide ((clients.length : Int) > 7)))) = true) ∧ ((!(cond (cond (!(inB (sites.length : Int) 1 7)) true (!(rising sites 0 (100 - 1)))) true (decide ((clients.length : Int) > 7)))) = true → PC Try.prog 131 [.sl (.ints clients), .int .i64 0, .int .i64 99] (.one (.d (.bool (clients.all (fun x => inB x 0 99)))))) ∧ ((!(cond (cond (!(inB (sites.length : Int) 1 7)) true (!(rising sites 0 (100 - 1)))) true (decide ((clients.length : Int) > 7)))) = true → (!(cond (cond (!(inB (sites.length : Int) 1 7)) true (!(rising sites 0 (100 - 1)))) true (decide ((clients.length : Int) > 7)))) = true) ∧ (true = true) ∧ (((cond (cond (!(inB (sites.length : Int) 1 7)) true (!(rising sites 0 (100 - 1)))) true (decide ((clients.length : Int) > 7))) = true → true = true)) ∧ (((cond (cond (!(inB (sites.length : Int) 1 7)) true (!(rising sites 0 (100 - 1)))) true (decide ((clients.length : Int) > 7))) = false → (!(cond (cond (!(inB (sites.length : Int) 1 7)) true (!(rising sites 0 (100 - 1)))) true (decide ((clients.length : Int) > 7)))) = true)) ∧ ((!(cond (cond (cond (!(inB (sites.length : Int) 1 7)) true (!(rising sites 0 (100 - 1)))) true (decide ((clients.length : Int) > 7))) true (!(clients.all (fun x => inB x 0 99))))) = true → (!(cond (cond (cond (!(inB (sites.length : Int) 1 7)) true (!(rising sites 0 (100 - 1)))) true (decide ((clients.length : Int) > 7))) true (!(clients.all (fun x => inB x 0 99))))) = true) ∧ ((!(cond (cond (cond (!(inB (sites.length : Int) 1 7)) true (!(rising sites 0 (100 - 1)))) true (decide ((clients.length : Int) > 7))) true (!(clients.all (fun x => inB x 0 99))))) = true → PC Try.prog 132 [.sl (.ints clients)] (.one (.d (.bool (srtB clients))))) ∧ ((!(cond (cond (cond (!(inB (sites.length : Int) 1 7)) true (!(rising sites 0 (100 - 1)))) true (decide ((clients.length : Int) > 7))) true (!(clients.all (fun x => inB x 0 99))))) = true → (!(cond (cond (cond (!(inB (sites.length : Int) 1 7)) true (!(rising sites 0 (100 - 1)))) true (decide ((clients.length : Int) > 7))) true (!(clients.all (fun x => inB x 0 99))))) = true) ∧ (true = true) ∧ (((cond (cond (cond (!(inB (sites.length : Int) 1 7)) true (!(rising sites 0 (100 - 1)))) true (decide ((clients.length : Int) > 7))) true (!(clients.all (fun x => inB x 0 99)))) = true → true = true)) ∧ (((cond (cond (cond (!(inB (sites.length : Int) 1 7)) true (!(rising sites 0 (100 - 1)))) true (decide ((clients.length : Int) > 7))) true (!(clients.all (fun x => inB x 0 99)))) = false → (!(cond (cond (cond (!(inB (sites.length : Int) 1 7)) true (!(rising sites 0 (100 - 1)))) true (decide ((clients.length : Int) > 7))) true (!(clients.all (fun x => inB x 0 99))))) = true)) ∧ (((cond (cond (cond (cond (!(inB (sites.length : Int) 1 7)) true (!(rising sites 0 (100 - 1)))) true (decide ((clients.length : Int) > 7))) true (!(clients.all (fun x => inB x 0 99)))) true (!(srtB clients))) = true → (((lfO sites clients).length = 0) ∧ ((lfD sites clients).length = 0) ∧ (false = (goodL sites clients)))) ∧ ((cond (cond (cond (cond (!(inB (sites.length : Int) 1 7)) true (!(rising sites 0 (100 - 1)))) true (decide ((clients.length : Int) > 7))) true (!(clients.all (fun x => inB x 0 99)))) true (!(srtB clients))) = false → ((sites.length : Int) = (sites.length : Int)) ∧ ((0 : Int) ≤ (sites.length : Int)) ∧ (((sites.length : Int) : Int) * ((8 : Nat) : Int) ≤ 140737488355328) ∧ ((∃ i' : Int, ∃ op' : List Int, ∃ out' : List (List Int), (i_LineField_JJ0 sites clients i' op' out') ∧ (sites = sites) ∧ (clients = clients) ∧ ((clients.length : Int) = (clients.length : Int)) ∧ ((0 : Int) = i') ∧ ((List.replicate ((sites.length : Int).toNat) (0 : Int)) = op') ∧ ((out').length = 0) ∧ ((sites.length : Int).toNat = op'.length) ∧ ((0 : Nat) = out'.length)) ∧ (∀ i : Int, ∀ op : List Int, ∀ out : List (List Int), (i_LineField_JJ0 sites clients i op out) → (((decide (i < (clients.length : Int))) = true → ((0 : Int) ≤ i) ∧ ((i : Int) < clients.length) ∧ (i.toNat < clients.length) ∧ ((((∃ row' : List Int, ∃ a' : Int, (i_LineField_JJ1 sites clients i op out row' a') ∧ (sites = sites) ∧ ((clients.getD i.toNat 0) = (clients.getD i.toNat 0)) ∧ ((0 : Nat) = row'.length) ∧ (clients = clients) ∧ ((clients.length : Int) = (clients.length : Int)) ∧ (i = i) ∧ (sites = sites) ∧ ((sites.length : Int) = (sites.length : Int)) ∧ ((0 : Int) = a') ∧ ([] = row') ∧ (op.length = op.length) ∧ (out.length = out.length) ∧ (op = op) ∧ (out = out)) ∧ (∀ row : List Int, ∀ a : Int, (i_LineField_JJ1 sites clients i op out row a) → (((decide (a < (sites.length : Int))) = true → ((0 : Int) ≤ a) ∧ ((a : Int) < sites.length) ∧ (a.toNat < sites.length) ∧ (-9223372036854775808 ≤ ((clients.getD i.toNat 0) - (sites.getD a.toNat 0)) ∧ ((clients.getD i.toNat 0) - (sites.getD a.toNat 0)) ≤ 9223372036854775807) ∧ (-9223372036854775808 ≤ ((sites.getD a.toNat 0) - (clients.getD i.toNat 0)) ∧ ((sites.getD a.toNat 0) - (clients.getD i.toNat 0)) ≤ 9223372036854775807) ∧ (row.length = row.length) ∧ ((1 : Nat) = 1) ∧ ((row.length + 1) * 8 ≤ 140737488355328) ∧ (-9223372036854775808 ≤ (a + 1) ∧ (a + 1) ≤ 9223372036854775807) ∧ (∃ row' : List Int, ∃ a' : Int, (i_LineField_JJ1 sites clients i op out row' a') ∧ (i_LineField_mJ1 sites clients i op out row' a' < i_LineField_mJ1 sites clients i op out row a) ∧ (sites = sites) ∧ ((clients.getD i.toNat 0) = (clients.getD i.toNat 0)) ∧ ((row.length + 1) = row'.length) ∧ (clients = clients) ∧ ((clients.length : Int) = (clients.length : Int)) ∧ (i = i) ∧ (sites = sites) ∧ ((sites.length : Int) = (sites.length : Int)) ∧ ((a + 1) = a') ∧ ((row ++ [(max ((clients.getD i.toNat 0) - (sites.getD a.toNat 0)) ((sites.getD a.toNat 0) - (clients.getD i.toNat 0)))]) = row') ∧ (op.length = op.length) ∧ (out.length = out.length) ∧ (op = op) ∧ (out = out))) ∧ ((decide (a < (sites.length : Int))) = false → (∃ row2' : List Int, (i_LineField_JA1 sites clients i op out row2') ∧ (sites = sites) ∧ (row.length = row.length) ∧ (row = row2') ∧ (clients = clients) ∧ ((clients.length : Int) = (clients.length : Int)) ∧ (i = i) ∧ (op.length = op.length) ∧ (out.length = out.length) ∧ (op = op) ∧ (out = out))))))) ∧ (∀ row2 : List Int, (i_LineField_JA1 sites clients i op out row2) → (out.length = out.length) ∧ ((1 : Nat) = 1) ∧ ((out.length + 1) * 24 ≤ 140737488355328) ∧ (-9223372036854775808 ≤ (i + 1) ∧ (i + 1) ≤ 9223372036854775807) ∧ (∃ i' : Int, ∃ op' : List Int, ∃ out' : List (List Int), (i_LineField_JJ0 sites clients i' op' out') ∧ (i_LineField_mJ0 sites clients i' op' out' < i_LineField_mJ0 sites clients i op out) ∧ (sites = sites) ∧ (clients = clients) ∧ ((clients.length : Int) = (clients.length : Int)) ∧ ((i + 1) = i') ∧ (op = op') ∧ ((out ++ [row2]) = out') ∧ (op.length = op'.length) ∧ ((out.length + 1) = out'.length))))) ∧ ((decide (i < (clients.length : Int))) = false → ((op.length = op.length) ∧ (out.length = out.length) ∧ ((.agg [.sl (.ints op), .sl (.rows out)] : D) = .agg [.sl (.ints (lfO sites clients)), .sl (.rows (lfD sites clients))]) ∧ (true = (goodL sites clients)))))))))
theorem i_LineField_vc (sites : List Int) (clients : List Int)  (w_sites : (sites.length : Int) ≤ 9223372036854775807) (w_clients : (clients.length : Int) ≤ 9223372036854775807) : i_LineField_P sites clients := by
  unfold i_LineField_P
  refine ⟨i_between_pc (sites.length : Int) 1 7, id, ?_, id, rfl, fun _ => rfl, ?_, id, id, rfl, fun _ => rfl, ?_, id, fun _ => i_areBetween_pc clients 0 99, id, rfl, fun _ => rfl, ?_, id, fun _ => slices_IsSorted_int_int__pc clients, id, rfl, fun _ => rfl, ?_, ?_, ?_⟩
  · intro hg
    refine i_isRising_pc sites 100 ?_
    · first | omega | rfl | (intro hg; simp only [nrmT] at hg; omega) | (intro g1 g2; simp [g1, g2]; done) | (intro g1; simp at g1 ⊢; simp [g1]; done) | (simp only [nrmT] at *; omega) | (simp at * <;> omega) | (simp_all <;> omega) | (simp_all; done)
  · intro h; rw [h]; rfl
  · intro h; rw [h]; rfl
  · intro h; rw [h]; rfl
  · intro h; rw [h]; rfl
  · intro b1
    refine ⟨?_, ?_, ?_⟩
    · have hq : goodL sites clients = false := by rw [goodL_test, b1]; rfl
      first | (rw [lfO_no hq]; rfl) | (rw [lfD_no hq]; rfl)
    · have hq : goodL sites clients = false := by rw [goodL_test, b1]; rfl
      first | (rw [lfO_no hq]; rfl) | (rw [lfD_no hq]; rfl)
    · have hq : goodL sites clients = false := by rw [goodL_test, b1]; rfl
      exact hq.symm
  · intro b2
    refine ⟨rfl, ?_, ?_, ?_, ?_⟩
    · first | omega | rfl | (intro hg; simp only [nrmT] at hg; omega) | (intro g1 g2; simp [g1, g2]; done) | (intro g1; simp at g1 ⊢; simp [g1]; done) | (simp only [nrmT] at *; omega) | (simp at * <;> omega) | (simp_all <;> omega) | (simp_all; done)
    · have hg : goodL sites clients = true := by rw [goodL_test, b2]; rfl
      obtain ⟨g1, g2, g3, g4, g5⟩ := goodL_facts hg
      have sr := fun (k : Nat) (hk : k < sites.length) => rising_at g4 k hk
      omega
    · refine ⟨0, (List.replicate ((sites.length : Int).toNat) (0 : Int)), ([]), ?_⟩
      refine ⟨?_, rfl, rfl, rfl, rfl, rfl, ?_, ?_, rfl⟩
      · refine ⟨?_, ?_, ?_, ?_⟩
        · first | omega | rfl | (intro hg; simp only [nrmT] at hg; omega) | (intro g1 g2; simp [g1, g2]; done) | (intro g1; simp at g1 ⊢; simp [g1]; done) | (simp only [nrmT] at *; omega) | (simp at * <;> omega) | (simp_all <;> omega) | (simp_all; done)
        · first | omega | rfl | (intro hg; simp only [nrmT] at hg; omega) | (intro g1 g2; simp [g1, g2]; done) | (intro g1; simp at g1 ⊢; simp [g1]; done) | (simp only [nrmT] at *; omega) | (simp at * <;> omega) | (simp_all <;> omega) | (simp_all; done)
        · rw [Int.toNat_natCast]
        · first | omega | rfl | (intro hg; simp only [nrmT] at hg; omega) | (intro g1 g2; simp [g1, g2]; done) | (intro g1; simp at g1 ⊢; simp [g1]; done) | (simp only [nrmT] at *; omega) | (simp at * <;> omega) | (simp_all <;> omega) | (simp_all; done)
      · first | omega | rfl | (intro hg; simp only [nrmT] at hg; omega) | (intro g1 g2; simp [g1, g2]; done) | (intro g1; simp at g1 ⊢; simp [g1]; done) | (simp only [nrmT] at *; omega) | (simp at * <;> omega) | (simp_all <;> omega) | (simp_all; done)
      · first | omega | rfl | (intro hg; simp only [nrmT] at hg; omega) | (intro g1 g2; simp [g1, g2]; done) | (intro g1; simp at g1 ⊢; simp [g1]; done) | (simp only [nrmT] at *; omega) | (simp at * <;> omega) | (simp_all <;> omega) | (simp_all; done)
    · intro i op out hJ
      obtain ⟨h1, h2, hop, h3⟩ := hJ
      refine ⟨?_, ?_⟩
      · intro b3
        try simp only [nrmT] at b3
        refine ⟨?_, ?_, ?_, ?_, ?_⟩
        · first | omega | rfl | (intro hg; simp only [nrmT] at hg; omega) | (intro g1 g2; simp [g1, g2]; done) | (intro g1; simp at g1 ⊢; simp [g1]; done) | (simp only [nrmT] at *; omega) | (simp at * <;> omega) | (simp_all <;> omega) | (simp_all; done)
        · first | omega | rfl | (intro hg; simp only [nrmT] at hg; omega) | (intro g1 g2; simp [g1, g2]; done) | (intro g1; simp at g1 ⊢; simp [g1]; done) | (simp only [nrmT] at *; omega) | (simp at * <;> omega) | (simp_all <;> omega) | (simp_all; done)
        · first | omega | rfl | (intro hg; simp only [nrmT] at hg; omega) | (intro g1 g2; simp [g1, g2]; done) | (intro g1; simp at g1 ⊢; simp [g1]; done) | (simp only [nrmT] at *; omega) | (simp at * <;> omega) | (simp_all <;> omega) | (simp_all; done)
        · refine ⟨?_, ?_⟩
          · refine ⟨([]), 0, ?_⟩
            refine ⟨?_, rfl, rfl, rfl, rfl, rfl, rfl, rfl, rfl, rfl, ?_, rfl, rfl, rfl, rfl⟩
            · refine ⟨?_, ?_, ?_⟩
              · first | omega | rfl | (intro hg; simp only [nrmT] at hg; omega) | (intro g1 g2; simp [g1, g2]; done) | (intro g1; simp at g1 ⊢; simp [g1]; done) | (simp only [nrmT] at *; omega) | (simp at * <;> omega) | (simp_all <;> omega) | (simp_all; done)
              · first | omega | rfl | (intro hg; simp only [nrmT] at hg; omega) | (intro g1 g2; simp [g1, g2]; done) | (intro g1; simp at g1 ⊢; simp [g1]; done) | (simp only [nrmT] at *; omega) | (simp at * <;> omega) | (simp_all <;> omega) | (simp_all; done)
              · first | omega | rfl | (intro hg; simp only [nrmT] at hg; omega) | (intro g1 g2; simp [g1, g2]; done) | (intro g1; simp at g1 ⊢; simp [g1]; done) | (simp only [nrmT] at *; omega) | (simp at * <;> omega) | (simp_all <;> omega) | (simp_all; done)
            · first | omega | rfl | (intro hg; simp only [nrmT] at hg; omega) | (intro g1 g2; simp [g1, g2]; done) | (intro g1; simp at g1 ⊢; simp [g1]; done) | (simp only [nrmT] at *; omega) | (simp at * <;> omega) | (simp_all <;> omega) | (simp_all; done)
          · intro row a hJ
            obtain ⟨h4, h5, h6⟩ := hJ
            refine ⟨?_, ?_⟩
            · intro b4
              try simp only [nrmT] at b4
              refine ⟨?_, ?_, ?_, ?_, ?_, rfl, rfl, ?_, ?_, ?_⟩
              · first | omega | rfl | (intro hg; simp only [nrmT] at hg; omega) | (intro g1 g2; simp [g1, g2]; done) | (intro g1; simp at g1 ⊢; simp [g1]; done) | (simp only [nrmT] at *; omega) | (simp at * <;> omega) | (simp_all <;> omega) | (simp_all; done)
              · first | omega | rfl | (intro hg; simp only [nrmT] at hg; omega) | (intro g1 g2; simp [g1, g2]; done) | (intro g1; simp at g1 ⊢; simp [g1]; done) | (simp only [nrmT] at *; omega) | (simp at * <;> omega) | (simp_all <;> omega) | (simp_all; done)
              · first | omega | rfl | (intro hg; simp only [nrmT] at hg; omega) | (intro g1 g2; simp [g1, g2]; done) | (intro g1; simp at g1 ⊢; simp [g1]; done) | (simp only [nrmT] at *; omega) | (simp at * <;> omega) | (simp_all <;> omega) | (simp_all; done)
              · have hg : goodL sites clients = true := by rw [goodL_test, b2]; rfl
                obtain ⟨g1, g2, g3, g4, g5⟩ := goodL_facts hg
                have sr := fun (k : Nat) (hk : k < sites.length) => rising_at g4 k hk
                have q1 := g5 i.toNat (by omega)
                have q2 := sr a.toNat (by omega)
                omega
              · have hg : goodL sites clients = true := by rw [goodL_test, b2]; rfl
                obtain ⟨g1, g2, g3, g4, g5⟩ := goodL_facts hg
                have sr := fun (k : Nat) (hk : k < sites.length) => rising_at g4 k hk
                have q1 := g5 i.toNat (by omega)
                have q2 := sr a.toNat (by omega)
                omega
              · have hg0 : goodL sites clients = true := by first | exact hg | (rw [goodL_test, b2]; rfl)
                obtain ⟨q1, q2, q3, q4, q5⟩ := goodL_facts hg0
                rw [h6, tabTo_len]; omega
              · first | omega | rfl | (intro hg; simp only [nrmT] at hg; omega) | (intro g1 g2; simp [g1, g2]; done) | (intro g1; simp at g1 ⊢; simp [g1]; done) | (simp only [nrmT] at *; omega) | (simp at * <;> omega) | (simp_all <;> omega) | (simp_all; done)
              · refine ⟨(row ++ [(max ((clients.getD i.toNat 0) - (sites.getD a.toNat 0)) ((sites.getD a.toNat 0) - (clients.getD i.toNat 0)))]), (a + 1), ?_⟩
                refine ⟨?_, ?_, rfl, rfl, ?_, rfl, rfl, rfl, rfl, rfl, rfl, rfl, rfl, rfl, rfl, rfl⟩
                · refine ⟨?_, ?_, ?_⟩
                  · first | omega | rfl | (intro hg; simp only [nrmT] at hg; omega) | (intro g1 g2; simp [g1, g2]; done) | (intro g1; simp at g1 ⊢; simp [g1]; done) | (simp only [nrmT] at *; omega) | (simp at * <;> omega) | (simp_all <;> omega) | (simp_all; done)
                  · first | omega | rfl | (intro hg; simp only [nrmT] at hg; omega) | (intro g1 g2; simp [g1, g2]; done) | (intro g1; simp at g1 ⊢; simp [g1]; done) | (simp only [nrmT] at *; omega) | (simp at * <;> omega) | (simp_all <;> omega) | (simp_all; done)
                  · rw [show (a + 1).toNat = a.toNat + 1 by omega, tabTo_succ, h6]
                · first | (show _ < _; omega) | (simp only [i_LineField_mJ1]; omega) | (simp only [i_LineField_mJ1] at *; simp at *; omega)
                · first | omega | rfl | (intro hg; simp only [nrmT] at hg; omega) | (intro g1 g2; simp [g1, g2]; done) | (intro g1; simp at g1 ⊢; simp [g1]; done) | (simp only [nrmT] at *; omega) | (simp at * <;> omega) | (simp_all <;> omega) | (simp_all; done)
            · intro b5
              try simp only [nrmT] at b5
              refine ⟨row, ?_⟩
              refine ⟨?_, rfl, rfl, rfl, rfl, rfl, rfl, rfl, rfl, rfl, rfl⟩
              · unfold i_LineField_JA1
                rw [h6, show a.toNat = sites.length by omega]; rfl
        · intro row2 hJ
          have h8 := hJ
          refine ⟨rfl, rfl, ?_, ?_, ?_⟩
          · have hg0 : goodL sites clients = true := by first | exact hg | (rw [goodL_test, b2]; rfl)
            obtain ⟨q1, q2, q3, q4, q5⟩ := goodL_facts hg0
            rw [h3, tabTo_len]; omega
          · first | omega | rfl | (intro hg; simp only [nrmT] at hg; omega) | (intro g1 g2; simp [g1, g2]; done) | (intro g1; simp at g1 ⊢; simp [g1]; done) | (simp only [nrmT] at *; omega) | (simp at * <;> omega) | (simp_all <;> omega) | (simp_all; done)
          · refine ⟨(i + 1), op, (out ++ [row2]), ?_⟩
            refine ⟨?_, ?_, rfl, rfl, rfl, rfl, rfl, rfl, rfl, ?_⟩
            · refine ⟨?_, ?_, ?_, ?_⟩
              · first | omega | rfl | (intro hg; simp only [nrmT] at hg; omega) | (intro g1 g2; simp [g1, g2]; done) | (intro g1; simp at g1 ⊢; simp [g1]; done) | (simp only [nrmT] at *; omega) | (simp at * <;> omega) | (simp_all <;> omega) | (simp_all; done)
              · first | omega | rfl | (intro hg; simp only [nrmT] at hg; omega) | (intro g1 g2; simp [g1, g2]; done) | (intro g1; simp at g1 ⊢; simp [g1]; done) | (simp only [nrmT] at *; omega) | (simp at * <;> omega) | (simp_all <;> omega) | (simp_all; done)
              · first | omega | rfl | (intro hg; simp only [nrmT] at hg; omega) | (intro g1 g2; simp [g1, g2]; done) | (intro g1; simp at g1 ⊢; simp [g1]; done) | (simp only [nrmT] at *; omega) | (simp at * <;> omega) | (simp_all <;> omega) | (simp_all; done)
              · rw [h8, show (i + 1).toNat = i.toNat + 1 by omega, tabTo_succ, h3]
            · first | (show _ < _; omega) | (simp only [i_LineField_mJ0]; omega) | (simp only [i_LineField_mJ0] at *; simp at *; omega)
            · first | omega | rfl | (intro hg; simp only [nrmT] at hg; omega) | (intro g1 g2; simp [g1, g2]; done) | (intro g1; simp at g1 ⊢; simp [g1]; done) | (simp only [nrmT] at *; omega) | (simp at * <;> omega) | (simp_all <;> omega) | (simp_all; done)
      · intro b6
        try simp only [nrmT] at b6
        refine ⟨rfl, rfl, ?_, ?_⟩
        · have hg : goodL sites clients = true := by rw [goodL_test, b2]; rfl
          rw [hop, h3, show i.toNat = clients.length by omega, lfO_yes hg, lfD_yes hg]; rfl
        · have hg : goodL sites clients = true := by rw [goodL_test, b2]; rfl
          exact hg.symm
theorem i_LineField_pc (sites : List Int) (clients : List Int)  : PC Try.prog 39 [.sl (.ints sites), .sl (.ints clients)] (.tup [.d (.agg [.sl (.ints (lfO sites clients)), .sl (.rows (lfD sites clients))]), .d (.bool (goodL sites clients))]) :=
  pc_wf @Try.call39 fun hw => pc_by (by kernel_rfl) Try.func39 @Try.call39 (by kernel_rfl) i_LineField_C (i_LineField_A sites clients) (by kernel_rfl) (i_LineField_vc sites clients hw.1 hw.2.1) (by kernel_rfl)
def i_LineField_orc : List D → Orc := orcN [some .ints, some .ints] fun ds => match ds with
  | [.sl (.ints sites), .sl (.ints clients)] => some (.tup [.d (.agg [.sl (.ints (lfO sites clients)), .sl (.rows (lfD sites clients))]), .d (.bool (goodL sites clients))])
  | _ => none
def s_LineField_C (f : FuncId) (ds : List D) : Orc := bif Nat.beq f 137 then s_l4Line_orc ds else bif Nat.beq f 138 then s_l4Laid_orc ds else .no
def s_LineField_A (sites : List Int) (clients : List Int) : Ann := .none
def s_LineField_P (sites : List Int) (clients : List Int) : Prop :=
  (PC Try.prog 137 [.sl (.ints sites), .sl (.ints clients)] (.one (.d (.bool (goodL sites clients))))) ∧ (((!(goodL sites clients)) = true → (((lfO sites clients).length = 0) ∧ ((lfD sites clients).length = 0) ∧ (false = (goodL sites clients)))) ∧ ((!(goodL sites clients)) = false → (PC Try.prog 138 [.sl (.ints sites), .sl (.ints clients)] (.one (.d (.agg [.sl (.ints (List.replicate sites.length 0)), .sl (.rows (lineD sites clients))])))) ∧ (((.agg [.sl (.ints (List.replicate sites.length 0)), .sl (.rows (lineD sites clients))] : D) = .agg [.sl (.ints (lfO sites clients)), .sl (.rows (lfD sites clients))]) ∧ (true = (goodL sites clients)))))
theorem s_LineField_vc (sites : List Int) (clients : List Int)  (w_sites : (sites.length : Int) ≤ 9223372036854775807) (w_clients : (clients.length : Int) ≤ 9223372036854775807) : s_LineField_P sites clients := by
  unfold s_LineField_P
  refine ⟨s_l4Line_pc sites clients, ?_, ?_⟩
  · intro b1
    try simp only [nrmT] at b1
    refine ⟨?_, ?_, ?_⟩
    · first | (rw [lfO_no b1]; rfl) | (rw [lfD_no b1]; rfl)
    · first | (rw [lfO_no b1]; rfl) | (rw [lfD_no b1]; rfl)
    · exact b1.symm
  · intro b2
    try simp only [nrmT] at b2
    refine ⟨?_, ?_, ?_⟩
    · refine s_l4Laid_pc sites clients ?_
      · exact b2
    · rw [lfO_yes b2, lfD_yes b2]
    · exact b2.symm
theorem s_LineField_pc (sites : List Int) (clients : List Int)  : PC Try.prog 72 [.sl (.ints sites), .sl (.ints clients)] (.tup [.d (.agg [.sl (.ints (lfO sites clients)), .sl (.rows (lfD sites clients))]), .d (.bool (goodL sites clients))]) :=
  pc_wf @Try.call72 fun hw => pc_by (by kernel_rfl) Try.func72 @Try.call72 (by kernel_rfl) s_LineField_C (s_LineField_A sites clients) (by kernel_rfl) (s_LineField_vc sites clients hw.1 hw.2.1) (by kernel_rfl)
def s_LineField_orc : List D → Orc := orcN [some .ints, some .ints] fun ds => match ds with
  | [.sl (.ints sites), .sl (.ints clients)] => some (.tup [.d (.agg [.sl (.ints (lfO sites clients)), .sl (.rows (lfD sites clients))]), .d (.bool (goodL sites clients))])
  | _ => none
abbrev s_l5Reached_JJ0 (Open : List Int) (Dist : List (List Int)) (client : Int) (taken : List Int) (r : Int) (i : Int) : Prop := (0 ≤ i) ∧ (i ≤ (taken.length : Int)) ∧ (∀ k, k < i.toNat → (fun a : Int => decide ((Dist.getD client.toNat []).getD a.toNat 0 ≤ r)) (taken.getD k 0) = false)
abbrev s_l5Reached_mJ0 (Open : List Int) (Dist : List (List Int)) (client : Int) (taken : List Int) (r : Int) (i : Int) : Nat := (taken.length - i).toNat
def s_l5Reached_C (f : FuncId) (ds : List D) : Orc := .no
def s_l5Reached_A (Open : List Int) (Dist : List (List Int)) (client : Int) (taken : List Int) (r : Int) : Ann := .two (.none) (.two (.two (.none) (.loop (cut1 (fun (i : Int) => s_l5Reached_JJ0 Open Dist client taken r i) (fun (i : Int) => [(1, .d false (.int .i64 client)), (2, .d false (.sl (.ints taken))), (3, .d false (.int .i64 r)), (4, .ptr 4 0), (9, .d true (.int .i64 i))]) (fun (i : Int) => [(4, .box 39 [.d false (.sl (.ints Open)), .d false (.sl (.rows Dist))])])) (fun g => s_l5Reached_mJ0 Open Dist client taken r g) (fun _ => .none))) (.none))
def s_l5Reached_P (Open : List Int) (Dist : List (List Int)) (client : Int) (taken : List Int) (r : Int) : Prop :=
  ((∃ i' : Int, (s_l5Reached_JJ0 Open Dist client taken r i') ∧ (client = client) ∧ (taken = taken) ∧ (r = r) ∧ ((0 : Int) = i') ∧ (Open = Open) ∧ (Dist = Dist)) ∧ (∀ i : Int, (s_l5Reached_JJ0 Open Dist client taken r i) → (((decide (i < (taken.length : Int))) = true → (true = true) ∧ ((0 : Int) ≤ client) ∧ ((client : Int) < Dist.length) ∧ (client.toNat < Dist.length) ∧ ((0 : Int) ≤ i) ∧ ((i : Int) < taken.length) ∧ (i.toNat < taken.length) ∧ ((0 : Int) ≤ (taken.getD i.toNat 0)) ∧ (((taken.getD i.toNat 0) : Int) < (Dist.getD client.toNat []).length) ∧ ((taken.getD i.toNat 0).toNat < (Dist.getD client.toNat []).length) ∧ (((decide (((Dist.getD client.toNat []).getD ((taken.getD i.toNat 0).toNat) 0) ≤ r)) = true → ((true = (hasLe (Dist.getD client.toNat []) r taken)))) ∧ ((decide (((Dist.getD client.toNat []).getD ((taken.getD i.toNat 0).toNat) 0) ≤ r)) = false → (-9223372036854775808 ≤ (i + 1) ∧ (i + 1) ≤ 9223372036854775807) ∧ (∃ i' : Int, (s_l5Reached_JJ0 Open Dist client taken r i') ∧ (s_l5Reached_mJ0 Open Dist client taken r i' < s_l5Reached_mJ0 Open Dist client taken r i) ∧ (client = client) ∧ (taken = taken) ∧ (r = r) ∧ ((i + 1) = i') ∧ (Open = Open) ∧ (Dist = Dist))))) ∧ ((decide (i < (taken.length : Int))) = false → ((false = (hasLe (Dist.getD client.toNat []) r taken)))))))
theorem s_l5Reached_vc (Open : List Int) (Dist : List (List Int)) (client : Int) (taken : List Int) (r : Int) (hc : 0 ≤ client ∧ client < (Dist.length : Int)) (ht : ∀ a ∈ taken, 0 ≤ a ∧ a < ((Dist.getD client.toNat []).length : Int)) (w_Open : (Open.length : Int) ≤ 9223372036854775807) (w_Dist : (Dist.length : Int) ≤ 9223372036854775807) (v_Dist : ∀ x9 ∈ Dist, (x9.length : Int) ≤ 9223372036854775807) (w_taken : (taken.length : Int) ≤ 9223372036854775807) : s_l5Reached_P Open Dist client taken r := by
  unfold s_l5Reached_P
  refine ⟨?_, ?_⟩
  · refine ⟨0, ?_⟩
    refine ⟨?_, rfl, rfl, rfl, rfl, rfl, rfl⟩
    · refine ⟨?_, ?_, ?_⟩
      · first | omega | rfl | (intro hg; simp only [nrmT] at hg; omega) | (intro g1 g2; simp [g1, g2]; done) | (intro g1; simp at g1 ⊢; simp [g1]; done) | (simp only [nrmT] at *; omega) | (simp at * <;> omega) | (simp_all <;> omega) | (simp_all; done)
      · first | omega | rfl | (intro hg; simp only [nrmT] at hg; omega) | (intro g1 g2; simp [g1, g2]; done) | (intro g1; simp at g1 ⊢; simp [g1]; done) | (simp only [nrmT] at *; omega) | (simp at * <;> omega) | (simp_all <;> omega) | (simp_all; done)
      · intro k hk; exact absurd hk (by simp)
  · intro i hJ
    obtain ⟨h1, h2, h3⟩ := hJ
    refine ⟨?_, ?_⟩
    · intro b1
      try simp only [nrmT] at b1
      refine ⟨rfl, ?_, ?_, ?_, ?_, ?_, ?_, ?_, ?_, ?_, ?_, ?_⟩
      · first | omega | rfl | (intro hg; simp only [nrmT] at hg; omega) | (intro g1 g2; simp [g1, g2]; done) | (intro g1; simp at g1 ⊢; simp [g1]; done) | (simp only [nrmT] at *; omega) | (simp at * <;> omega) | (simp_all <;> omega) | (simp_all; done)
      · first | omega | rfl | (intro hg; simp only [nrmT] at hg; omega) | (intro g1 g2; simp [g1, g2]; done) | (intro g1; simp at g1 ⊢; simp [g1]; done) | (simp only [nrmT] at *; omega) | (simp at * <;> omega) | (simp_all <;> omega) | (simp_all; done)
      · first | omega | rfl | (intro hg; simp only [nrmT] at hg; omega) | (intro g1 g2; simp [g1, g2]; done) | (intro g1; simp at g1 ⊢; simp [g1]; done) | (simp only [nrmT] at *; omega) | (simp at * <;> omega) | (simp_all <;> omega) | (simp_all; done)
      · first | omega | rfl | (intro hg; simp only [nrmT] at hg; omega) | (intro g1 g2; simp [g1, g2]; done) | (intro g1; simp at g1 ⊢; simp [g1]; done) | (simp only [nrmT] at *; omega) | (simp at * <;> omega) | (simp_all <;> omega) | (simp_all; done)
      · first | omega | rfl | (intro hg; simp only [nrmT] at hg; omega) | (intro g1 g2; simp [g1, g2]; done) | (intro g1; simp at g1 ⊢; simp [g1]; done) | (simp only [nrmT] at *; omega) | (simp at * <;> omega) | (simp_all <;> omega) | (simp_all; done)
      · first | omega | rfl | (intro hg; simp only [nrmT] at hg; omega) | (intro g1 g2; simp [g1, g2]; done) | (intro g1; simp at g1 ⊢; simp [g1]; done) | (simp only [nrmT] at *; omega) | (simp at * <;> omega) | (simp_all <;> omega) | (simp_all; done)
      · have ht2 := ht _ (getD_mem (d := 0) (show i.toNat < taken.length by omega))
        omega
      · have ht2 := ht _ (getD_mem (d := 0) (show i.toNat < taken.length by omega))
        omega
      · have ht2 := ht _ (getD_mem (d := 0) (show i.toNat < taken.length by omega))
        omega
      · intro b2
        try simp only [nrmT] at b2
        rw [hasLe, ← idx_any, ← idx_found (p := fun a : Int => decide ((Dist.getD client.toNat []).getD a.toNat 0 ≤ r)) h1 (by omega) h3 (by simpa using b2)]
        exact (decide_eq_true (by omega)).symm
      · intro b3
        try simp only [nrmT] at b3
        refine ⟨?_, ?_⟩
        · first | omega | rfl | (intro hg; simp only [nrmT] at hg; omega) | (intro g1 g2; simp [g1, g2]; done) | (intro g1; simp at g1 ⊢; simp [g1]; done) | (simp only [nrmT] at *; omega) | (simp at * <;> omega) | (simp_all <;> omega) | (simp_all; done)
        · refine ⟨(i + 1), ?_⟩
          refine ⟨?_, ?_, rfl, rfl, rfl, rfl, rfl, rfl⟩
          · refine ⟨?_, ?_, ?_⟩
            · first | omega | rfl | (intro hg; simp only [nrmT] at hg; omega) | (intro g1 g2; simp [g1, g2]; done) | (intro g1; simp at g1 ⊢; simp [g1]; done) | (simp only [nrmT] at *; omega) | (simp at * <;> omega) | (simp_all <;> omega) | (simp_all; done)
            · first | omega | rfl | (intro hg; simp only [nrmT] at hg; omega) | (intro g1 g2; simp [g1, g2]; done) | (intro g1; simp at g1 ⊢; simp [g1]; done) | (simp only [nrmT] at *; omega) | (simp at * <;> omega) | (simp_all <;> omega) | (simp_all; done)
            · exact idx_step (p := fun a : Int => decide ((Dist.getD client.toNat []).getD a.toNat 0 ≤ r)) h1 h3 (by simpa using b3)
          · first | (show _ < _; omega) | (simp only [s_l5Reached_mJ0]; omega) | (simp only [s_l5Reached_mJ0] at *; simp at *; omega)
    · intro b4
      try simp only [nrmT] at b4
      rw [hasLe, ← idx_any, idx_none (p := fun a : Int => decide ((Dist.getD client.toNat []).getD a.toNat 0 ≤ r)) (by omega) h3]
      rfl
theorem s_l5Reached_pc (Open : List Int) (Dist : List (List Int)) (client : Int) (taken : List Int) (r : Int) (hc : 0 ≤ client ∧ client < (Dist.length : Int)) (ht : ∀ a ∈ taken, 0 ≤ a ∧ a < ((Dist.getD client.toNat []).length : Int)) : PC Try.prog 129 [.agg [.sl (.ints Open), .sl (.rows Dist)], .int .i64 client, .sl (.ints taken), .int .i64 r] (.one (.d (.bool (hasLe (Dist.getD client.toNat []) r taken)))) :=
  pc_wf @Try.call129 fun hw => pc_by (by kernel_rfl) Try.func129 @Try.call129 (by kernel_rfl) s_l5Reached_C (s_l5Reached_A Open Dist client taken r) (by kernel_rfl) (s_l5Reached_vc Open Dist client taken r hc ht hw.1.1 hw.1.2.1.1 hw.1.2.1.2 hw.2.2.1) (by kernel_rfl)
def s_l5Reached_orc : List D → Orc := orcN [none, none, some .ints, none] fun ds => match ds with
  | [.agg [.sl (.ints Open), .sl (.rows Dist)], .int .i64 client, .sl (.ints taken), .int .i64 r] => some (.one (.d (.bool (hasLe (Dist.getD client.toNat []) r taken))))
  | _ => none
theorem ls_test {sites clients : List Int} {r : Int} (h : cond (!(goodL sites clients)) true (decide (r < 0)) = false) : goodL sites clients = true ∧ 0 ≤ r := by
  revert h
  cases goodL sites clients <;> simp
theorem ls_no {sites clients : List Int} {r : Int} (h : cond (!(goodL sites clients)) true (decide (r < 0)) = true) : lsO sites clients r = none := by
  rw [lsO, if_neg]
  revert h
  cases goodL sites clients <;> simp <;> omega
theorem ls_some {sites clients : List Int} {r : Int} (hg : goodL sites clients = true) (hr : 0 ≤ r) : lsO sites clients r = lsTo (lfD sites clients) r clients.length := by
  rw [lsO, if_pos]
  rw [hg, decide_eq_true hr]; rfl
theorem lsL_none {sites clients : List Int} {r : Int} (h : lsO sites clients r = none) : lsL sites clients r = [] := by rw [lsL, h]; rfl
theorem lsL_some {sites clients : List Int} {r : Int} {out : List Int} (h : lsO sites clients r = some out) : lsL sites clients r = out := by rw [lsL, h]; rfl
abbrev s_LineSites_JJ0 (sites : List Int) (clients : List Int) (r : Int) (out : List Int) (j : Int) : Prop := (0 ≤ j) ∧ (j ≤ (clients.length : Int)) ∧ (lsTo (lfD sites clients) r j.toNat = some out)
abbrev s_LineSites_mJ0 (sites : List Int) (clients : List Int) (r : Int) (out : List Int) (j : Int) : Nat := ((clients.length : Int) - j).toNat
abbrev s_LineSites_JJ1 (sites : List Int) (clients : List Int) (r : Int) (out : List Int) (j : Int) (last : Int) (a : Int) : Prop := (0 ≤ a) ∧ (a ≤ (sites.length : Int)) ∧ (last = lastTo ((lfD sites clients).getD j.toNat []) r a.toNat)
abbrev s_LineSites_mJ1 (sites : List Int) (clients : List Int) (r : Int) (out : List Int) (j : Int) (last : Int) (a : Int) : Nat := ((sites.length : Int) - a).toNat
def s_LineSites_C (f : FuncId) (ds : List D) : Orc := bif Nat.beq f 72 then s_LineField_orc ds else bif Nat.beq f 129 then s_l5Reached_orc ds else .no
def s_LineSites_A (sites : List Int) (clients : List Int) (r : Int) : Ann := .two (.none) (.two (.none) (.two (.none) (.two (.none) (.two (.two (.none) (.loop (cut2 (fun (out : List Int) (j : Int) => s_LineSites_JJ0 sites clients r out j) (fun (out : List Int) (j : Int) => [(0, .d false (.sl (.ints sites))), (1, .d false (.sl (.ints clients))), (2, .d false (.int .i64 r)), (8, .ptr 8 0), (10, .own 1000000 out.length), (11, .d true (.int .i64 j))]) (fun (out : List Int) (j : Int) => [(1000000, .arr true 3 (.ints out)), (8, .box 39 [.d true (.sl (.ints (lfO sites clients))), .d true (.sl (.rows (lfD sites clients)))])])) (fun g => s_LineSites_mJ0 sites clients r g.1 g.2) (fun g => (fun (out : List Int) (j : Int) => .two (.none) (.two (.two (.none) (.two (.none) (.two (.two (.none) (.loop (cut2 (fun (last : Int) (a : Int) => s_LineSites_JJ1 sites clients r out j last a) (fun (last : Int) (a : Int) => [(0, .d false (.sl (.ints sites))), (1, .d false (.sl (.ints clients))), (2, .d false (.int .i64 r)), (8, .ptr 8 0), (10, .own 1000000 out.length), (11, .d true (.int .i64 j)), (12, .d true (.int .i64 last)), (13, .d true (.int .i64 a))]) (fun (last : Int) (a : Int) => [(8, .box 39 [.d true (.sl (.ints (lfO sites clients))), .d true (.sl (.rows (lfD sites clients)))]), (1000000, .arr true 3 (.ints out))])) (fun g => s_LineSites_mJ1 sites clients r out j g.1 g.2) (fun _ => .none))) (.none)))) (.none))) (g.1) (g.2)))) (.none)))))
def s_LineSites_P (sites : List Int) (clients : List Int) (r : Int) : Prop :=
  (PC Try.prog 72 [.sl (.ints sites), .sl (.ints clients)] (.tup [.d (.agg [.sl (.ints (lfO sites clients)), .sl (.rows (lfD sites clients))]), .d (.bool (goodL sites clients))])) ∧ ((!(!(goodL sites clients))) = true → (!(!(goodL sites clients))) = true) ∧ (true = true) ∧ (((!(goodL sites clients)) = true → true = true)) ∧ (((!(goodL sites clients)) = false → (!(!(goodL sites clients))) = true)) ∧ (((cond (!(goodL sites clients)) true (decide (r < 0))) = true → (((0 : Nat) = 0) ∧ (([] : List Int) = (lsL sites clients r)) ∧ (false = ((lsO sites clients r).isSome)))) ∧ ((cond (!(goodL sites clients)) true (decide (r < 0))) = false → ((∃ out' : List Int, ∃ j' : Int, (s_LineSites_JJ0 sites clients r out' j') ∧ (sites = sites) ∧ (clients = clients) ∧ (r = r) ∧ ((0 : Nat) = out'.length) ∧ ((0 : Int) = j') ∧ ([] = out') ∧ (lfO sites clients = lfO sites clients) ∧ (lfD sites clients = lfD sites clients)) ∧ (∀ out : List Int, ∀ j : Int, (s_LineSites_JJ0 sites clients r out j) → (((decide (j < (clients.length : Int))) = true → (out.length = out.length) ∧ (PC Try.prog 129 [.agg [.sl (.ints (lfO sites clients)), .sl (.rows (lfD sites clients))], .int .i64 j, .sl (.ints out), .int .i64 r] (.one (.d (.bool (hasLe ((lfD sites clients).getD j.toNat []) r out))))) ∧ (((hasLe ((lfD sites clients).getD j.toNat []) r out) = true → (-9223372036854775808 ≤ (j + 1) ∧ (j + 1) ≤ 9223372036854775807) ∧ (∃ out' : List Int, ∃ j' : Int, (s_LineSites_JJ0 sites clients r out' j') ∧ (s_LineSites_mJ0 sites clients r out' j' < s_LineSites_mJ0 sites clients r out j) ∧ (sites = sites) ∧ (clients = clients) ∧ (r = r) ∧ (out.length = out'.length) ∧ ((j + 1) = j') ∧ (out = out') ∧ (lfO sites clients = lfO sites clients) ∧ (lfD sites clients = lfD sites clients))) ∧ ((hasLe ((lfD sites clients).getD j.toNat []) r out) = false → ((∃ last' : Int, ∃ a' : Int, (s_LineSites_JJ1 sites clients r out j last' a') ∧ (sites = sites) ∧ (clients = clients) ∧ (r = r) ∧ (out.length = out.length) ∧ (j = j) ∧ (((-1) : Int) = last') ∧ ((0 : Int) = a') ∧ (lfO sites clients = lfO sites clients) ∧ (lfD sites clients = lfD sites clients) ∧ (out = out)) ∧ (∀ last : Int, ∀ a : Int, (s_LineSites_JJ1 sites clients r out j last a) → (((decide (a < (sites.length : Int))) = true → ((0 : Int) ≤ j) ∧ ((j : Int) < (lfD sites clients).length) ∧ (j.toNat < (lfD sites clients).length) ∧ ((0 : Int) ≤ a) ∧ ((a : Int) < ((lfD sites clients).getD j.toNat []).length) ∧ (a.toNat < ((lfD sites clients).getD j.toNat []).length) ∧ (((decide ((((lfD sites clients).getD j.toNat []).getD a.toNat 0) ≤ r)) = true → (-9223372036854775808 ≤ (a + 1) ∧ (a + 1) ≤ 9223372036854775807) ∧ (∃ last' : Int, ∃ a' : Int, (s_LineSites_JJ1 sites clients r out j last' a') ∧ (s_LineSites_mJ1 sites clients r out j last' a' < s_LineSites_mJ1 sites clients r out j last a) ∧ (sites = sites) ∧ (clients = clients) ∧ (r = r) ∧ (out.length = out.length) ∧ (j = j) ∧ (a = last') ∧ ((a + 1) = a') ∧ (lfO sites clients = lfO sites clients) ∧ (lfD sites clients = lfD sites clients) ∧ (out = out))) ∧ ((decide ((((lfD sites clients).getD j.toNat []).getD a.toNat 0) ≤ r)) = false → (-9223372036854775808 ≤ (a + 1) ∧ (a + 1) ≤ 9223372036854775807) ∧ (∃ last' : Int, ∃ a' : Int, (s_LineSites_JJ1 sites clients r out j last' a') ∧ (s_LineSites_mJ1 sites clients r out j last' a' < s_LineSites_mJ1 sites clients r out j last a) ∧ (sites = sites) ∧ (clients = clients) ∧ (r = r) ∧ (out.length = out.length) ∧ (j = j) ∧ (last = last') ∧ ((a + 1) = a') ∧ (lfO sites clients = lfO sites clients) ∧ (lfD sites clients = lfD sites clients) ∧ (out = out))))) ∧ ((decide (a < (sites.length : Int))) = false → (((decide (last < 0)) = true → (((0 : Nat) = 0) ∧ (([] : List Int) = (lsL sites clients r)) ∧ (false = ((lsO sites clients r).isSome)))) ∧ ((decide (last < 0)) = false → (out.length = out.length) ∧ ((1 : Nat) = 1) ∧ ((out.length + 1) * 8 ≤ 140737488355328) ∧ (-9223372036854775808 ≤ (j + 1) ∧ (j + 1) ≤ 9223372036854775807) ∧ (∃ out' : List Int, ∃ j' : Int, (s_LineSites_JJ0 sites clients r out' j') ∧ (s_LineSites_mJ0 sites clients r out' j' < s_LineSites_mJ0 sites clients r out j) ∧ (sites = sites) ∧ (clients = clients) ∧ (r = r) ∧ ((out.length + 1) = out'.length) ∧ ((j + 1) = j') ∧ ((out ++ [last]) = out') ∧ (lfO sites clients = lfO sites clients) ∧ (lfD sites clients = lfD sites clients))))))))))) ∧ ((decide (j < (clients.length : Int))) = false → ((out.length = out.length) ∧ ((out : List Int) = (lsL sites clients r)) ∧ (true = ((lsO sites clients r).isSome)))))))))
theorem s_LineSites_vc (sites : List Int) (clients : List Int) (r : Int)  (w_sites : (sites.length : Int) ≤ 9223372036854775807) (w_clients : (clients.length : Int) ≤ 9223372036854775807) : s_LineSites_P sites clients r := by
  unfold s_LineSites_P
  refine ⟨s_LineField_pc sites clients, id, rfl, fun _ => rfl, ?_, ?_, ?_⟩
  · intro h; rw [h]; rfl
  · intro b1
    refine ⟨rfl, ?_, ?_⟩
    · exact (lsL_none (ls_no b1)).symm
    · rw [ls_no b1]; rfl
  · intro b2
    refine ⟨?_, ?_⟩
    · refine ⟨([]), 0, ?_⟩
      refine ⟨?_, rfl, rfl, rfl, rfl, rfl, ?_, rfl, rfl⟩
      · refine ⟨?_, ?_, ?_⟩
        · first | omega | rfl | (intro hg; simp only [nrmT] at hg; omega) | (intro g1 g2; simp [g1, g2]; done) | (intro g1; simp at g1 ⊢; simp [g1]; done) | (simp only [nrmT] at *; omega) | (simp at * <;> omega) | (simp_all <;> omega) | (simp_all; done)
        · first | omega | rfl | (intro hg; simp only [nrmT] at hg; omega) | (intro g1 g2; simp [g1, g2]; done) | (intro g1; simp at g1 ⊢; simp [g1]; done) | (simp only [nrmT] at *; omega) | (simp at * <;> omega) | (simp_all <;> omega) | (simp_all; done)
        · rfl
      · first | omega | rfl | (intro hg; simp only [nrmT] at hg; omega) | (intro g1 g2; simp [g1, g2]; done) | (intro g1; simp at g1 ⊢; simp [g1]; done) | (simp only [nrmT] at *; omega) | (simp at * <;> omega) | (simp_all <;> omega) | (simp_all; done)
    · intro out j hJ
      obtain ⟨h1, h2, h3⟩ := hJ
      refine ⟨?_, ?_⟩
      · intro b3
        try simp only [nrmT] at b3
        refine ⟨rfl, ?_, ?_, ?_⟩
        · refine s_l5Reached_pc (lfO sites clients) (lfD sites clients) j out r ?_ ?_
          · obtain ⟨hg, hr⟩ := ls_test b2
            obtain ⟨g1, g2, g3, g4, g5⟩ := goodL_facts hg
            have e2 := lfD_len hg
            have e1 := lfD_row hg (j := j.toNat) (by omega)
            omega
          · obtain ⟨hg, hr⟩ := ls_test b2
            obtain ⟨g1, g2, g3, g4, g5⟩ := goodL_facts hg
            have e2 := lfD_len hg
            obtain ⟨f1, f2⟩ := lsTo_facts (m := sites.length) j.toNat out (fun k hk => lfD_row hg (by omega)) h3
            intro a9 ha
            have := f2 a9 ha
            rw [lfD_row hg (by omega)]
            exact this
        · intro b4
          try simp only [nrmT] at b4
          refine ⟨?_, ?_⟩
          · obtain ⟨hg, hr⟩ := ls_test b2
            obtain ⟨g1, g2, g3, g4, g5⟩ := goodL_facts hg
            have e2 := lfD_len hg
            have e1 := lfD_row hg (j := j.toNat) (by omega)
            omega
          · refine ⟨out, (j + 1), ?_⟩
            refine ⟨?_, ?_, rfl, rfl, rfl, rfl, rfl, rfl, rfl, rfl⟩
            · refine ⟨?_, ?_, ?_⟩
              · first | omega | rfl | (intro hg; simp only [nrmT] at hg; omega) | (intro g1 g2; simp [g1, g2]; done) | (intro g1; simp at g1 ⊢; simp [g1]; done) | (simp only [nrmT] at *; omega) | (simp at * <;> omega) | (simp_all <;> omega) | (simp_all; done)
              · first | omega | rfl | (intro hg; simp only [nrmT] at hg; omega) | (intro g1 g2; simp [g1, g2]; done) | (intro g1; simp at g1 ⊢; simp [g1]; done) | (simp only [nrmT] at *; omega) | (simp at * <;> omega) | (simp_all <;> omega) | (simp_all; done)
              · rw [show (j + 1).toNat = j.toNat + 1 by omega]
                exact lsTo_keep h3 (by first | (simpa using b4) | (unfold hasLe; simpa using b4))
            · first | (show _ < _; omega) | (simp only [s_LineSites_mJ0]; omega) | (simp only [s_LineSites_mJ0] at *; simp at *; omega)
        · intro b5
          try simp only [nrmT] at b5
          refine ⟨?_, ?_⟩
          · refine ⟨(-1), 0, ?_⟩
            refine ⟨?_, rfl, rfl, rfl, rfl, rfl, rfl, rfl, rfl, rfl, rfl⟩
            · refine ⟨?_, ?_, ?_⟩
              · first | omega | rfl | (intro hg; simp only [nrmT] at hg; omega) | (intro g1 g2; simp [g1, g2]; done) | (intro g1; simp at g1 ⊢; simp [g1]; done) | (simp only [nrmT] at *; omega) | (simp at * <;> omega) | (simp_all <;> omega) | (simp_all; done)
              · first | omega | rfl | (intro hg; simp only [nrmT] at hg; omega) | (intro g1 g2; simp [g1, g2]; done) | (intro g1; simp at g1 ⊢; simp [g1]; done) | (simp only [nrmT] at *; omega) | (simp at * <;> omega) | (simp_all <;> omega) | (simp_all; done)
              · rfl
          · intro last a hJ
            obtain ⟨h5, h6, h7⟩ := hJ
            refine ⟨?_, ?_⟩
            · intro b6
              try simp only [nrmT] at b6
              refine ⟨?_, ?_, ?_, ?_, ?_, ?_, ?_, ?_⟩
              · first | omega | rfl | (intro hg; simp only [nrmT] at hg; omega) | (intro g1 g2; simp [g1, g2]; done) | (intro g1; simp at g1 ⊢; simp [g1]; done) | (simp only [nrmT] at *; omega) | (simp at * <;> omega) | (simp_all <;> omega) | (simp_all; done)
              · obtain ⟨hg, hr⟩ := ls_test b2
                obtain ⟨g1, g2, g3, g4, g5⟩ := goodL_facts hg
                have e2 := lfD_len hg
                have e1 := lfD_row hg (j := j.toNat) (by omega)
                omega
              · obtain ⟨hg, hr⟩ := ls_test b2
                obtain ⟨g1, g2, g3, g4, g5⟩ := goodL_facts hg
                have e2 := lfD_len hg
                have e1 := lfD_row hg (j := j.toNat) (by omega)
                omega
              · first | omega | rfl | (intro hg; simp only [nrmT] at hg; omega) | (intro g1 g2; simp [g1, g2]; done) | (intro g1; simp at g1 ⊢; simp [g1]; done) | (simp only [nrmT] at *; omega) | (simp at * <;> omega) | (simp_all <;> omega) | (simp_all; done)
              · obtain ⟨hg, hr⟩ := ls_test b2
                obtain ⟨g1, g2, g3, g4, g5⟩ := goodL_facts hg
                have e2 := lfD_len hg
                have e1 := lfD_row hg (j := j.toNat) (by omega)
                omega
              · obtain ⟨hg, hr⟩ := ls_test b2
                obtain ⟨g1, g2, g3, g4, g5⟩ := goodL_facts hg
                have e2 := lfD_len hg
                have e1 := lfD_row hg (j := j.toNat) (by omega)
                omega
              · intro b7
                try simp only [nrmT] at b7
                refine ⟨?_, ?_⟩
                · obtain ⟨hg, hr⟩ := ls_test b2
                  obtain ⟨g1, g2, g3, g4, g5⟩ := goodL_facts hg
                  have e2 := lfD_len hg
                  have e1 := lfD_row hg (j := j.toNat) (by omega)
                  omega
                · refine ⟨a, (a + 1), ?_⟩
                  refine ⟨?_, ?_, rfl, rfl, rfl, rfl, rfl, rfl, rfl, rfl, rfl, rfl⟩
                  · refine ⟨?_, ?_, ?_⟩
                    · first | omega | rfl | (intro hg; simp only [nrmT] at hg; omega) | (intro g1 g2; simp [g1, g2]; done) | (intro g1; simp at g1 ⊢; simp [g1]; done) | (simp only [nrmT] at *; omega) | (simp at * <;> omega) | (simp_all <;> omega) | (simp_all; done)
                    · first | omega | rfl | (intro hg; simp only [nrmT] at hg; omega) | (intro g1 g2; simp [g1, g2]; done) | (intro g1; simp at g1 ⊢; simp [g1]; done) | (simp only [nrmT] at *; omega) | (simp at * <;> omega) | (simp_all <;> omega) | (simp_all; done)
                    · rw [show (a + 1).toNat = a.toNat + 1 by omega, lastTo_succ]
                      first | (rw [if_pos (by omega)]; omega) | (rw [if_neg (by omega)]; exact h7)
                  · first | (show _ < _; omega) | (simp only [s_LineSites_mJ1]; omega) | (simp only [s_LineSites_mJ1] at *; simp at *; omega)
              · intro b8
                try simp only [nrmT] at b8
                refine ⟨?_, ?_⟩
                · obtain ⟨hg, hr⟩ := ls_test b2
                  obtain ⟨g1, g2, g3, g4, g5⟩ := goodL_facts hg
                  have e2 := lfD_len hg
                  have e1 := lfD_row hg (j := j.toNat) (by omega)
                  omega
                · refine ⟨last, (a + 1), ?_⟩
                  refine ⟨?_, ?_, rfl, rfl, rfl, rfl, rfl, rfl, rfl, rfl, rfl, rfl⟩
                  · refine ⟨?_, ?_, ?_⟩
                    · first | omega | rfl | (intro hg; simp only [nrmT] at hg; omega) | (intro g1 g2; simp [g1, g2]; done) | (intro g1; simp at g1 ⊢; simp [g1]; done) | (simp only [nrmT] at *; omega) | (simp at * <;> omega) | (simp_all <;> omega) | (simp_all; done)
                    · first | omega | rfl | (intro hg; simp only [nrmT] at hg; omega) | (intro g1 g2; simp [g1, g2]; done) | (intro g1; simp at g1 ⊢; simp [g1]; done) | (simp only [nrmT] at *; omega) | (simp at * <;> omega) | (simp_all <;> omega) | (simp_all; done)
                    · rw [show (a + 1).toNat = a.toNat + 1 by omega, lastTo_succ]
                      first | (rw [if_pos (by omega)]; omega) | (rw [if_neg (by omega)]; exact h7)
                  · first | (show _ < _; omega) | (simp only [s_LineSites_mJ1]; omega) | (simp only [s_LineSites_mJ1] at *; simp at *; omega)
            · intro b9
              try simp only [nrmT] at b9
              refine ⟨?_, ?_⟩
              · intro b10
                try simp only [nrmT] at b10
                refine ⟨rfl, ?_, ?_⟩
                · have e4 : hasLe ((lfD sites clients).getD j.toNat []) r out = false := by first | (simpa using b5) | (unfold hasLe; simpa using b5)
                  obtain ⟨hg, hr⟩ := ls_test b2
                  obtain ⟨g1, g2, g3, g4, g5⟩ := goodL_facts hg
                  have e2 := lfD_len hg
                  have e1 := lfD_row hg (j := j.toNat) (by omega)
                  have e3 : last = lastTo ((lfD sites clients).getD j.toNat []) r ((lfD sites clients).getD j.toNat []).length := by rw [h7, e1, show a.toNat = sites.length by omega]
                  have e5 := lsTo_none (lsTo_fail h3 e4 (by rw [← e3]; omega)) clients.length (by omega)
                  rw [← ls_some hg hr] at e5
                  exact (lsL_none e5).symm
                · have e4 : hasLe ((lfD sites clients).getD j.toNat []) r out = false := by first | (simpa using b5) | (unfold hasLe; simpa using b5)
                  obtain ⟨hg, hr⟩ := ls_test b2
                  obtain ⟨g1, g2, g3, g4, g5⟩ := goodL_facts hg
                  have e2 := lfD_len hg
                  have e1 := lfD_row hg (j := j.toNat) (by omega)
                  have e3 : last = lastTo ((lfD sites clients).getD j.toNat []) r ((lfD sites clients).getD j.toNat []).length := by rw [h7, e1, show a.toNat = sites.length by omega]
                  have e5 := lsTo_none (lsTo_fail h3 e4 (by rw [← e3]; omega)) clients.length (by omega)
                  rw [← ls_some hg hr] at e5
                  rw [e5]; rfl
              · intro b11
                try simp only [nrmT] at b11
                refine ⟨rfl, rfl, ?_, ?_, ?_⟩
                · obtain ⟨hg, hr⟩ := ls_test b2
                  obtain ⟨g1, g2, g3, g4, g5⟩ := goodL_facts hg
                  have e2 := lfD_len hg
                  obtain ⟨f1, f2⟩ := lsTo_facts (m := sites.length) j.toNat out (fun k hk => lfD_row hg (by omega)) h3
                  omega
                · obtain ⟨hg, hr⟩ := ls_test b2
                  obtain ⟨g1, g2, g3, g4, g5⟩ := goodL_facts hg
                  have e2 := lfD_len hg
                  have e1 := lfD_row hg (j := j.toNat) (by omega)
                  omega
                · refine ⟨(out ++ [last]), (j + 1), ?_⟩
                  refine ⟨?_, ?_, rfl, rfl, rfl, ?_, rfl, rfl, rfl, rfl⟩
                  · refine ⟨?_, ?_, ?_⟩
                    · first | omega | rfl | (intro hg; simp only [nrmT] at hg; omega) | (intro g1 g2; simp [g1, g2]; done) | (intro g1; simp at g1 ⊢; simp [g1]; done) | (simp only [nrmT] at *; omega) | (simp at * <;> omega) | (simp_all <;> omega) | (simp_all; done)
                    · first | omega | rfl | (intro hg; simp only [nrmT] at hg; omega) | (intro g1 g2; simp [g1, g2]; done) | (intro g1; simp at g1 ⊢; simp [g1]; done) | (simp only [nrmT] at *; omega) | (simp at * <;> omega) | (simp_all <;> omega) | (simp_all; done)
                    · have e4 : hasLe ((lfD sites clients).getD j.toNat []) r out = false := by first | (simpa using b5) | (unfold hasLe; simpa using b5)
                      obtain ⟨hg, hr⟩ := ls_test b2
                      obtain ⟨g1, g2, g3, g4, g5⟩ := goodL_facts hg
                      have e2 := lfD_len hg
                      have e1 := lfD_row hg (j := j.toNat) (by omega)
                      have e3 : last = lastTo ((lfD sites clients).getD j.toNat []) r ((lfD sites clients).getD j.toNat []).length := by rw [h7, e1, show a.toNat = sites.length by omega]
                      rw [show (j + 1).toNat = j.toNat + 1 by omega, e3]
                      exact lsTo_app h3 e4 (by rw [← e3]; omega)
                  · first | (show _ < _; omega) | (simp only [s_LineSites_mJ0]; omega) | (simp only [s_LineSites_mJ0] at *; simp at *; omega)
                  · first | omega | rfl | (intro hg; simp only [nrmT] at hg; omega) | (intro g1 g2; simp [g1, g2]; done) | (intro g1; simp at g1 ⊢; simp [g1]; done) | (simp only [nrmT] at *; omega) | (simp at * <;> omega) | (simp_all <;> omega) | (simp_all; done)
      · intro b12
        try simp only [nrmT] at b12
        refine ⟨rfl, ?_, ?_⟩
        · obtain ⟨hg, hr⟩ := ls_test b2
          obtain ⟨g1, g2, g3, g4, g5⟩ := goodL_facts hg
          have e2 := lfD_len hg
          rw [show j.toNat = clients.length by omega, ← ls_some hg hr] at h3
          exact (lsL_some h3).symm
        · obtain ⟨hg, hr⟩ := ls_test b2
          obtain ⟨g1, g2, g3, g4, g5⟩ := goodL_facts hg
          have e2 := lfD_len hg
          rw [show j.toNat = clients.length by omega, ← ls_some hg hr] at h3
          rw [h3]; rfl
theorem s_LineSites_pc (sites : List Int) (clients : List Int) (r : Int)  : PC Try.prog 37 [.sl (.ints sites), .sl (.ints clients), .int .i64 r] (.tup [.d (.sl (.ints (lsL sites clients r))), .d (.bool ((lsO sites clients r).isSome))]) :=
  pc_wf @Try.call37 fun hw => pc_by (by kernel_rfl) Try.func37 @Try.call37 (by kernel_rfl) s_LineSites_C (s_LineSites_A sites clients r) (by kernel_rfl) (s_LineSites_vc sites clients r hw.1 hw.2.1) (by kernel_rfl)
def s_LineSites_orc : List D → Orc := orcN [some .ints, some .ints, none] fun ds => match ds with
  | [.sl (.ints sites), .sl (.ints clients), .int .i64 r] => some (.tup [.d (.sl (.ints (lsL sites clients r))), .d (.bool ((lsO sites clients r).isSome))])
  | _ => none
def i_LineSites_1_C (f : FuncId) (ds : List D) : Orc := .no
def i_LineSites_1_A (a : Int) (list : List Int) (r : Int) : Ann := .none
def i_LineSites_1_P (a : Int) (list : List Int) (r : Int) : Prop :=
  (true = true) ∧ ((0 : Int) ≤ a) ∧ ((a : Int) < list.length) ∧ (a.toNat < list.length) ∧ (((decide ((list.getD a.toNat 0) ≤ r)) = (decide (list.getD a.toNat 0 ≤ r))))
theorem i_LineSites_1_vc (a : Int) (list : List Int) (r : Int) (ha : 0 ≤ a ∧ a < (list.length : Int)) (w_list : (list.length : Int) ≤ 9223372036854775807) : i_LineSites_1_P a list r := by
  unfold i_LineSites_1_P
  refine ⟨rfl, ?_, ?_, ?_, ?_⟩
  · first | omega | rfl | (intro hg; simp only [nrmT] at hg; omega) | (intro g1 g2; simp [g1, g2]; done) | (intro g1; simp at g1 ⊢; simp [g1]; done) | (simp only [nrmT] at *; omega) | (simp at * <;> omega) | (simp_all <;> omega) | (simp_all; done)
  · first | omega | rfl | (intro hg; simp only [nrmT] at hg; omega) | (intro g1 g2; simp [g1, g2]; done) | (intro g1; simp at g1 ⊢; simp [g1]; done) | (simp only [nrmT] at *; omega) | (simp at * <;> omega) | (simp_all <;> omega) | (simp_all; done)
  · first | omega | rfl | (intro hg; simp only [nrmT] at hg; omega) | (intro g1 g2; simp [g1, g2]; done) | (intro g1; simp at g1 ⊢; simp [g1]; done) | (simp only [nrmT] at *; omega) | (simp at * <;> omega) | (simp_all <;> omega) | (simp_all; done)
  · first | omega | rfl | (intro hg; simp only [nrmT] at hg; omega) | (intro g1 g2; simp [g1, g2]; done) | (intro g1; simp at g1 ⊢; simp [g1]; done) | (simp only [nrmT] at *; omega) | (simp at * <;> omega) | (simp_all <;> omega) | (simp_all; done)
theorem i_LineSites_1_pc (a : Int) (list : List Int) (r : Int) (ha : 0 ≤ a ∧ a < (list.length : Int)) : PC Try.prog 128 [.int .i64 a, .bx [.sl (.ints list)] 0, .bx [.int .i64 r] 0] (.one (.d (.bool (decide (list.getD a.toNat 0 ≤ r))))) :=
  pc_wf @Try.call128 fun hw => pc_by (by kernel_rfl) Try.func128 @Try.call128 (by kernel_rfl) i_LineSites_1_C (i_LineSites_1_A a list r) (by kernel_rfl) (i_LineSites_1_vc a list r ha hw.2.1.1) (by kernel_rfl)
def i_LineSites_1_orc : List D → Orc := orcN [none, none, none] fun ds => match ds with
  | [.int .i64 a, .bx [.sl (.ints list)] 0, .bx [.int .i64 r] 0] => some (.one (.d (.bool (decide (list.getD a.toNat 0 ≤ r)))))
  | _ => none
abbrev slices_IndexFunc_int_int_iLS_JJ0 (xs : List Int) (list : List Int) (r : Int) (i : Int) : Prop := (0 ≤ i) ∧ (i ≤ (xs.length : Int)) ∧ (∀ k, k < i.toNat → (fun (a : Int) => decide (list.getD a.toNat 0 ≤ r)) (xs.getD k 0) = false)
abbrev slices_IndexFunc_int_int_iLS_mJ0 (xs : List Int) (list : List Int) (r : Int) (i : Int) : Nat := (xs.length - i).toNat
def slices_IndexFunc_int_int_iLS_C (f : FuncId) (ds : List D) : Orc := bif Nat.beq f 128 then i_LineSites_1_orc ds else .no
def slices_IndexFunc_int_int_iLS_A (xs : List Int) (list : List Int) (r : Int) : Ann := .two (.none) (.two (.two (.none) (.loop (cut1 (fun (i : Int) => slices_IndexFunc_int_int_iLS_JJ0 xs list r i) (fun (i : Int) => [(0, .d false (.sl (.ints xs))), (1, .d false (.fn 128 0 [.bx [.sl (.ints list)] 0, .bx [.int .i64 r] 0])), (7, .d true (.int .i64 (xs.length : Int))), (8, .d true (.int .i64 i))]) (fun (i : Int) => [])) (fun g => slices_IndexFunc_int_int_iLS_mJ0 xs list r g) (fun _ => .none))) (.none))
def slices_IndexFunc_int_int_iLS_P (xs : List Int) (list : List Int) (r : Int) : Prop :=
  ((∃ i' : Int, (slices_IndexFunc_int_int_iLS_JJ0 xs list r i') ∧ (xs = xs) ∧ ((.fn 128 0 [.bx [.sl (.ints list)] 0, .bx [.int .i64 r] 0] : D) = (.fn 128 0 [.bx [.sl (.ints list)] 0, .bx [.int .i64 r] 0] : D)) ∧ ((xs.length : Int) = (xs.length : Int)) ∧ ((0 : Int) = i')) ∧ (∀ i : Int, (slices_IndexFunc_int_int_iLS_JJ0 xs list r i) → (((decide (i < (xs.length : Int))) = true → ((0 : Int) ≤ i) ∧ ((i : Int) < xs.length) ∧ (i.toNat < xs.length) ∧ (PC Try.prog 128 [.int .i64 (xs.getD i.toNat 0), .bx [.sl (.ints list)] 0, .bx [.int .i64 r] 0] (.one (.d (.bool (decide (list.getD (xs.getD i.toNat 0).toNat 0 ≤ r)))))) ∧ (((decide (list.getD (xs.getD i.toNat 0).toNat 0 ≤ r)) = true → ((i = (idxI (fun (a : Int) => decide (list.getD a.toNat 0 ≤ r)) xs)))) ∧ ((decide (list.getD (xs.getD i.toNat 0).toNat 0 ≤ r)) = false → (-9223372036854775808 ≤ (i + 1) ∧ (i + 1) ≤ 9223372036854775807) ∧ (∃ i' : Int, (slices_IndexFunc_int_int_iLS_JJ0 xs list r i') ∧ (slices_IndexFunc_int_int_iLS_mJ0 xs list r i' < slices_IndexFunc_int_int_iLS_mJ0 xs list r i) ∧ (xs = xs) ∧ ((.fn 128 0 [.bx [.sl (.ints list)] 0, .bx [.int .i64 r] 0] : D) = (.fn 128 0 [.bx [.sl (.ints list)] 0, .bx [.int .i64 r] 0] : D)) ∧ ((xs.length : Int) = (xs.length : Int)) ∧ ((i + 1) = i'))))) ∧ ((decide (i < (xs.length : Int))) = false → ((((-1) : Int) = (idxI (fun (a : Int) => decide (list.getD a.toNat 0 ≤ r)) xs)))))))
theorem slices_IndexFunc_int_int_iLS_vc (xs : List Int) (list : List Int) (r : Int) (hx : ∀ a ∈ xs, 0 ≤ a ∧ a < (list.length : Int)) (w_xs : (xs.length : Int) ≤ 9223372036854775807) (w_list : (list.length : Int) ≤ 9223372036854775807) : slices_IndexFunc_int_int_iLS_P xs list r := by
  unfold slices_IndexFunc_int_int_iLS_P
  refine ⟨?_, ?_⟩
  · refine ⟨0, ?_⟩
    refine ⟨?_, rfl, rfl, rfl, rfl⟩
    · refine ⟨?_, ?_, ?_⟩
      · first | omega | rfl | (intro hg; simp only [nrmT] at hg; omega) | (intro g1 g2; simp [g1, g2]; done) | (intro g1; simp at g1 ⊢; simp [g1]; done) | (simp only [nrmT] at *; omega) | (simp at * <;> omega) | (simp_all <;> omega) | (simp_all; done)
      · first | omega | rfl | (intro hg; simp only [nrmT] at hg; omega) | (intro g1 g2; simp [g1, g2]; done) | (intro g1; simp at g1 ⊢; simp [g1]; done) | (simp only [nrmT] at *; omega) | (simp at * <;> omega) | (simp_all <;> omega) | (simp_all; done)
      · first | omega | rfl | (intro hg; simp only [nrmT] at hg; omega) | (intro g1 g2; simp [g1, g2]; done) | (intro g1; simp at g1 ⊢; simp [g1]; done) | (simp only [nrmT] at *; omega) | (simp at * <;> omega) | (simp_all <;> omega) | (simp_all; done)
  · intro i hJ
    obtain ⟨h1, h2, h3⟩ := hJ
    refine ⟨?_, ?_⟩
    · intro b1
      try simp only [nrmT] at b1
      refine ⟨?_, ?_, ?_, ?_, ?_, ?_⟩
      · first | omega | rfl | (intro hg; simp only [nrmT] at hg; omega) | (intro g1 g2; simp [g1, g2]; done) | (intro g1; simp at g1 ⊢; simp [g1]; done) | (simp only [nrmT] at *; omega) | (simp at * <;> omega) | (simp_all <;> omega) | (simp_all; done)
      · first | omega | rfl | (intro hg; simp only [nrmT] at hg; omega) | (intro g1 g2; simp [g1, g2]; done) | (intro g1; simp at g1 ⊢; simp [g1]; done) | (simp only [nrmT] at *; omega) | (simp at * <;> omega) | (simp_all <;> omega) | (simp_all; done)
      · first | omega | rfl | (intro hg; simp only [nrmT] at hg; omega) | (intro g1 g2; simp [g1, g2]; done) | (intro g1; simp at g1 ⊢; simp [g1]; done) | (simp only [nrmT] at *; omega) | (simp at * <;> omega) | (simp_all <;> omega) | (simp_all; done)
      · refine i_LineSites_1_pc (xs.getD i.toNat 0) list r ?_
        · exact hx _ (getD_memI h1 b1)
      · intro b2
        try simp only [nrmT] at b2
        exact idx_found (p := fun (a : Int) => decide (list.getD a.toNat 0 ≤ r)) h1 b1 h3 (by simpa using b2)
      · intro b3
        try simp only [nrmT] at b3
        refine ⟨?_, ?_⟩
        · first | omega | rfl | (intro hg; simp only [nrmT] at hg; omega) | (intro g1 g2; simp [g1, g2]; done) | (intro g1; simp at g1 ⊢; simp [g1]; done) | (simp only [nrmT] at *; omega) | (simp at * <;> omega) | (simp_all <;> omega) | (simp_all; done)
        · refine ⟨(i + 1), ?_⟩
          refine ⟨?_, ?_, rfl, rfl, rfl, rfl⟩
          · refine ⟨?_, ?_, ?_⟩
            · first | omega | rfl | (intro hg; simp only [nrmT] at hg; omega) | (intro g1 g2; simp [g1, g2]; done) | (intro g1; simp at g1 ⊢; simp [g1]; done) | (simp only [nrmT] at *; omega) | (simp at * <;> omega) | (simp_all <;> omega) | (simp_all; done)
            · first | omega | rfl | (intro hg; simp only [nrmT] at hg; omega) | (intro g1 g2; simp [g1, g2]; done) | (intro g1; simp at g1 ⊢; simp [g1]; done) | (simp only [nrmT] at *; omega) | (simp at * <;> omega) | (simp_all <;> omega) | (simp_all; done)
            · exact idx_step (p := fun (a : Int) => decide (list.getD a.toNat 0 ≤ r)) h1 h3 (by simpa using b3)
          · first | (show _ < _; omega) | (simp only [slices_IndexFunc_int_int_iLS_mJ0]; omega) | (simp only [slices_IndexFunc_int_int_iLS_mJ0] at *; simp at *; omega)
    · intro b4
      try simp only [nrmT] at b4
      exact (idx_none (by omega) h3).symm
theorem slices_IndexFunc_int_int_iLS_pc (xs : List Int) (list : List Int) (r : Int) (hx : ∀ a ∈ xs, 0 ≤ a ∧ a < (list.length : Int)) : PC Try.prog 204 [.sl (.ints xs), .fn 128 0 [.bx [.sl (.ints list)] 0, .bx [.int .i64 r] 0]] (.one (.d (.int .i64 (idxI (fun (a : Int) => decide (list.getD a.toNat 0 ≤ r)) xs)))) :=
  pc_wf @Try.call204 fun hw => pc_by (by kernel_rfl) Try.func204 @Try.call204 (by kernel_rfl) slices_IndexFunc_int_int_iLS_C (slices_IndexFunc_int_int_iLS_A xs list r) (by kernel_rfl) (slices_IndexFunc_int_int_iLS_vc xs list r hx hw.1 hw.2.1.1.1) (by kernel_rfl)
def slices_IndexFunc_int_int_iLS_orc : List D → Orc := orcN [some .ints, none] fun ds => match ds with
  | [.sl (.ints xs), .fn f0 0 [.bx [.sl (.ints list)] 0, .bx [.int .i64 r] 0]] => bif Nat.beq f0 128 then some (.one (.d (.int .i64 (idxI (fun (a : Int) => decide (list.getD a.toNat 0 ≤ r)) xs)))) else none
  | _ => none
def slices_ContainsFunc_int_int_iLS_C (f : FuncId) (ds : List D) : Orc := bif Nat.beq f 204 then slices_IndexFunc_int_int_iLS_orc ds else .no
def slices_ContainsFunc_int_int_iLS_A (xs : List Int) (list : List Int) (r : Int) : Ann := .none
def slices_ContainsFunc_int_int_iLS_P (xs : List Int) (list : List Int) (r : Int) : Prop :=
  (PC Try.prog 204 [.sl (.ints xs), .fn 128 0 [.bx [.sl (.ints list)] 0, .bx [.int .i64 r] 0]] (.one (.d (.int .i64 (idxI (fun (a : Int) => decide (list.getD a.toNat 0 ≤ r)) xs))))) ∧ (((decide ((idxI (fun (a : Int) => decide (list.getD a.toNat 0 ≤ r)) xs) ≥ 0)) = (xs.any (fun (a : Int) => decide (list.getD a.toNat 0 ≤ r)))))
theorem slices_ContainsFunc_int_int_iLS_vc (xs : List Int) (list : List Int) (r : Int) (hx : ∀ a ∈ xs, 0 ≤ a ∧ a < (list.length : Int)) (w_xs : (xs.length : Int) ≤ 9223372036854775807) (w_list : (list.length : Int) ≤ 9223372036854775807) : slices_ContainsFunc_int_int_iLS_P xs list r := by
  unfold slices_ContainsFunc_int_int_iLS_P
  refine ⟨?_, ?_⟩
  · refine slices_IndexFunc_int_int_iLS_pc xs list r ?_
    · exact hx
  · exact idx_any _ _
theorem slices_ContainsFunc_int_int_iLS_pc (xs : List Int) (list : List Int) (r : Int) (hx : ∀ a ∈ xs, 0 ≤ a ∧ a < (list.length : Int)) : PC Try.prog 127 [.sl (.ints xs), .fn 128 0 [.bx [.sl (.ints list)] 0, .bx [.int .i64 r] 0]] (.one (.d (.bool (xs.any (fun (a : Int) => decide (list.getD a.toNat 0 ≤ r)))))) :=
  pc_wf @Try.call127 fun hw => pc_by (by kernel_rfl) Try.func127 @Try.call127 (by kernel_rfl) slices_ContainsFunc_int_int_iLS_C (slices_ContainsFunc_int_int_iLS_A xs list r) (by kernel_rfl) (slices_ContainsFunc_int_int_iLS_vc xs list r hx hw.1 hw.2.1.1.1) (by kernel_rfl)
def slices_ContainsFunc_int_int_iLS_orc : List D → Orc := orcN [some .ints, none] fun ds => match ds with
  | [.sl (.ints xs), .fn f0 0 [.bx [.sl (.ints list)] 0, .bx [.int .i64 r] 0]] => bif Nat.beq f0 128 then some (.one (.d (.bool (xs.any (fun (a : Int) => decide (list.getD a.toNat 0 ≤ r)))))) else none
  | _ => none
abbrev i_LineSites_JJ0 (sites : List Int) (clients : List Int) (r : Int) (out : List Int) (j : Int) : Prop := (0 ≤ j) ∧ (j ≤ ((lfD sites clients).length : Int)) ∧ (lsTo (lfD sites clients) r j.toNat = some out)
abbrev i_LineSites_mJ0 (sites : List Int) (clients : List Int) (r : Int) (out : List Int) (j : Int) : Nat := (((lfD sites clients).length : Int) - j).toNat
abbrev i_LineSites_JJ1 (sites : List Int) (clients : List Int) (r : Int) (out : List Int) (j : Int) (last : Int) (a : Int) : Prop := (0 ≤ a) ∧ (a ≤ (((lfD sites clients).getD j.toNat []).length : Int)) ∧ (last = lastTo ((lfD sites clients).getD j.toNat []) r a.toNat)
abbrev i_LineSites_mJ1 (sites : List Int) (clients : List Int) (r : Int) (out : List Int) (j : Int) (last : Int) (a : Int) : Nat := ((((lfD sites clients).getD j.toNat []).length : Int) - a).toNat
def i_LineSites_C (f : FuncId) (ds : List D) : Orc := bif Nat.beq f 39 then i_LineField_orc ds else bif Nat.beq f 127 then slices_ContainsFunc_int_int_iLS_orc ds else .no
def i_LineSites_A (sites : List Int) (clients : List Int) (r : Int) : Ann := .two (.none) (.two (.none) (.two (.none) (.two (.none) (.two (.two (.none) (.loop (cut2 (fun (out : List Int) (j : Int) => i_LineSites_JJ0 sites clients r out j) (fun (out : List Int) (j : Int) => [(5, .ptr 5 0), (10, .own 1000000 out.length), (30, .d true (.sl (.rows (lfD sites clients)))), (31, .d true (.int .i64 (((lfD sites clients).length) : Int))), (32, .d true (.int .i64 j))]) (fun (out : List Int) (j : Int) => [(1000000, .arr true 3 (.ints out)), (5, .box 3 [.d false (.int .i64 r)])])) (fun g => i_LineSites_mJ0 sites clients r g.1 g.2) (fun g => (fun (out : List Int) (j : Int) => .two (.none) (.two (.none) (.two (.two (.none) (.two (.none) (.two (.none) (.two (.two (.none) (.loop (cut2 (fun (last : Int) (a : Int) => i_LineSites_JJ1 sites clients r out j last a) (fun (last : Int) (a : Int) => [(5, .ptr 5 0), (10, .own 1000000 out.length), (13, .d true (.int .i64 last)), (30, .d true (.sl (.rows (lfD sites clients)))), (31, .d true (.int .i64 (((lfD sites clients).length) : Int))), (32, .d true (.int .i64 j)), (39, .d true (.sl (.ints ((lfD sites clients).getD j.toNat [])))), (40, .d true (.int .i64 (((lfD sites clients).getD j.toNat []).length : Int))), (41, .d true (.int .i64 a))]) (fun (last : Int) (a : Int) => [(5, .box 3 [.d false (.int .i64 r)]), (1000000, .arr true 3 (.ints out))])) (fun g => i_LineSites_mJ1 sites clients r out j g.1 g.2) (fun _ => .none))) (.none))))) (.none)))) (g.1) (g.2)))) (.none)))))
def i_LineSites_P (sites : List Int) (clients : List Int) (r : Int) : Prop :=
  (PC Try.prog 39 [.sl (.ints sites), .sl (.ints clients)] (.tup [.d (.agg [.sl (.ints (lfO sites clients)), .sl (.rows (lfD sites clients))]), .d (.bool (goodL sites clients))])) ∧ ((!(!(goodL sites clients))) = true → (!(!(goodL sites clients))) = true) ∧ (true = true) ∧ (((!(goodL sites clients)) = true → true = true)) ∧ (((!(goodL sites clients)) = false → (!(!(goodL sites clients))) = true)) ∧ (((cond (!(goodL sites clients)) true (decide (r < 0))) = true → (((lsL sites clients r).length = 0) ∧ (false = ((lsO sites clients r).isSome)))) ∧ ((cond (!(goodL sites clients)) true (decide (r < 0))) = false → ((∃ out' : List Int, ∃ j' : Int, (i_LineSites_JJ0 sites clients r out' j') ∧ ((0 : Nat) = out'.length) ∧ (lfD sites clients = lfD sites clients) ∧ ((((lfD sites clients).length) : Int) = (((lfD sites clients).length) : Int)) ∧ ((0 : Int) = j') ∧ ([] = out') ∧ (r = r)) ∧ (∀ out : List Int, ∀ j : Int, (i_LineSites_JJ0 sites clients r out j) → (((decide (j < (((lfD sites clients).length) : Int))) = true → ((0 : Int) ≤ j) ∧ ((j : Int) < (lfD sites clients).length) ∧ (j.toNat < (lfD sites clients).length) ∧ (out.length = out.length) ∧ (PC Try.prog 127 [.sl (.ints out), .fn 128 0 [.bx [.sl (.ints ((lfD sites clients).getD j.toNat []))] 0, .bx [.int .i64 r] 0]] (.one (.d (.bool (out.any (fun (a : Int) => decide (((lfD sites clients).getD j.toNat []).getD a.toNat 0 ≤ r))))))) ∧ (((out.any (fun (a : Int) => decide (((lfD sites clients).getD j.toNat []).getD a.toNat 0 ≤ r))) = true → (-9223372036854775808 ≤ (j + 1) ∧ (j + 1) ≤ 9223372036854775807) ∧ (∃ out' : List Int, ∃ j' : Int, (i_LineSites_JJ0 sites clients r out' j') ∧ (i_LineSites_mJ0 sites clients r out' j' < i_LineSites_mJ0 sites clients r out j) ∧ (out.length = out'.length) ∧ (lfD sites clients = lfD sites clients) ∧ ((((lfD sites clients).length) : Int) = (((lfD sites clients).length) : Int)) ∧ ((j + 1) = j') ∧ (out = out') ∧ (r = r))) ∧ ((out.any (fun (a : Int) => decide (((lfD sites clients).getD j.toNat []).getD a.toNat 0 ≤ r))) = false → ((∃ last' : Int, ∃ a' : Int, (i_LineSites_JJ1 sites clients r out j last' a') ∧ (out.length = out.length) ∧ (((-1) : Int) = last') ∧ (lfD sites clients = lfD sites clients) ∧ ((((lfD sites clients).length) : Int) = (((lfD sites clients).length) : Int)) ∧ (j = j) ∧ (((lfD sites clients).getD j.toNat []) = ((lfD sites clients).getD j.toNat [])) ∧ ((((lfD sites clients).getD j.toNat []).length : Int) = (((lfD sites clients).getD j.toNat []).length : Int)) ∧ ((0 : Int) = a') ∧ (r = r) ∧ (out = out)) ∧ (∀ last : Int, ∀ a : Int, (i_LineSites_JJ1 sites clients r out j last a) → (((decide (a < (((lfD sites clients).getD j.toNat []).length : Int))) = true → ((0 : Int) ≤ a) ∧ ((a : Int) < ((lfD sites clients).getD j.toNat []).length) ∧ (a.toNat < ((lfD sites clients).getD j.toNat []).length) ∧ (((decide ((((lfD sites clients).getD j.toNat []).getD a.toNat 0) ≤ r)) = true → (-9223372036854775808 ≤ (a + 1) ∧ (a + 1) ≤ 9223372036854775807) ∧ (∃ last' : Int, ∃ a' : Int, (i_LineSites_JJ1 sites clients r out j last' a') ∧ (i_LineSites_mJ1 sites clients r out j last' a' < i_LineSites_mJ1 sites clients r out j last a) ∧ (out.length = out.length) ∧ (a = last') ∧ (lfD sites clients = lfD sites clients) ∧ ((((lfD sites clients).length) : Int) = (((lfD sites clients).length) : Int)) ∧ (j = j) ∧ (((lfD sites clients).getD j.toNat []) = ((lfD sites clients).getD j.toNat [])) ∧ ((((lfD sites clients).getD j.toNat []).length : Int) = (((lfD sites clients).getD j.toNat []).length : Int)) ∧ ((a + 1) = a') ∧ (r = r) ∧ (out = out))) ∧ ((decide ((((lfD sites clients).getD j.toNat []).getD a.toNat 0) ≤ r)) = false → (-9223372036854775808 ≤ (a + 1) ∧ (a + 1) ≤ 9223372036854775807) ∧ (∃ last' : Int, ∃ a' : Int, (i_LineSites_JJ1 sites clients r out j last' a') ∧ (i_LineSites_mJ1 sites clients r out j last' a' < i_LineSites_mJ1 sites clients r out j last a) ∧ (out.length = out.length) ∧ (last = last') ∧ (lfD sites clients = lfD sites clients) ∧ ((((lfD sites clients).length) : Int) = (((lfD sites clients).length) : Int)) ∧ (j = j) ∧ (((lfD sites clients).getD j.toNat []) = ((lfD sites clients).getD j.toNat [])) ∧ ((((lfD sites clients).getD j.toNat []).length : Int) = (((lfD sites clients).getD j.toNat []).length : Int)) ∧ ((a + 1) = a') ∧ (r = r) ∧ (out = out))))) ∧ ((decide (a < (((lfD sites clients).getD j.toNat []).length : Int))) = false → (((decide (last < 0)) = true → (((lsL sites clients r).length = 0) ∧ (false = ((lsO sites clients r).isSome)))) ∧ ((decide (last < 0)) = false → (out.length = out.length) ∧ ((1 : Nat) = 1) ∧ ((out.length + 1) * 8 ≤ 140737488355328) ∧ (-9223372036854775808 ≤ (j + 1) ∧ (j + 1) ≤ 9223372036854775807) ∧ (∃ out' : List Int, ∃ j' : Int, (i_LineSites_JJ0 sites clients r out' j') ∧ (i_LineSites_mJ0 sites clients r out' j' < i_LineSites_mJ0 sites clients r out j) ∧ ((out.length + 1) = out'.length) ∧ (lfD sites clients = lfD sites clients) ∧ ((((lfD sites clients).length) : Int) = (((lfD sites clients).length) : Int)) ∧ ((j + 1) = j') ∧ ((out ++ [last]) = out') ∧ (r = r))))))))))) ∧ ((decide (j < (((lfD sites clients).length) : Int))) = false → ((out.length = out.length) ∧ ((out : List Int) = lsL sites clients r) ∧ (true = ((lsO sites clients r).isSome)))))))))
end Go.Proofs.Ytomnmacmlhkceaa
