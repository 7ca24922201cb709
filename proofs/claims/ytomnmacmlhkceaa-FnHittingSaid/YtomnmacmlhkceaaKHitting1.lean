/- Contracts of the functions that the law reaches. -/
import Derived.Test.YtomnmacmlhkceaaPw
import Derived.Test.YtomnmacmlhkceaaPua
import Derived.Test.YtomnmacmlhkceaaSh
import Derived.Test.YtomnmacmlhkceaaProg
import Derived.KernelRfl
set_option linter.unusedVariables false
set_option linter.unusedSimpArgs false
namespace Go.Proofs.Ytomnmacmlhkceaa
open Go

def s_l1In_C (f : FuncId) (ds : List D) : Orc := .no
def s_l1In_A (x : Int) (a : Int) (b : Int) : Ann := .none
def s_l1In_P (x : Int) (a : Int) (b : Int) : Prop :=
  ((decide (x ≥ a)) = true → (decide (x ≥ a)) = true) ∧ ((decide (x ≥ a)) = true → (decide (x ≥ a)) = true) ∧ (true = true) ∧ (((decide (x ≥ a)) = true → (decide (x ≥ a)) = true)) ∧ (((decide (x ≥ a)) = false → true = true)) ∧ (((cond (decide (x ≥ a)) (decide (x ≤ b)) false) = (inB x a b)))
theorem s_l1In_vc (x : Int) (a : Int) (b : Int)   : s_l1In_P x a b := by
  unfold s_l1In_P
  refine ⟨id, id, rfl, id, fun _ => rfl, ?_⟩
  · first | omega | rfl | (intro hg; simp only [nrmT] at hg; omega) | (intro g1 g2; simp [g1, g2]; done) | (intro g1; simp at g1 ⊢; simp [g1]; done) | (simp only [nrmT] at *; omega) | (simp at * <;> omega) | (simp_all <;> omega) | (simp_all; done) | (simp [inB]; omega) | (simp only [inB]; by_cases h : a ≤ x <;> simp_all)
theorem s_l1In_pc (x : Int) (a : Int) (b : Int)  : PC Try.prog 116 [.int .i64 x, .int .i64 a, .int .i64 b] (.one (.d (.bool (inB x a b)))) :=
  pc_wf @Try.call116 fun _ => pc_by (by kernel_rfl) Try.func116 @Try.call116 (by kernel_rfl) s_l1In_C (s_l1In_A x a b) (by kernel_rfl) (s_l1In_vc x a b) (by kernel_rfl)
def s_l1In_orc : List D → Orc := orcN [none, none, none] fun ds => match ds with
  | [.int .i64 x, .int .i64 a, .int .i64 b] => some (.one (.d (.bool (inB x a b))))
  | _ => none
def i_between_C (f : FuncId) (ds : List D) : Orc := .no
def i_between_A (x : Int) (a : Int) (b : Int) : Ann := .none
def i_between_P (x : Int) (a : Int) (b : Int) : Prop :=
  ((decide (x ≥ a)) = true → (decide (x ≥ a)) = true) ∧ ((decide (x ≥ a)) = true → (decide (x ≥ a)) = true) ∧ (true = true) ∧ (((decide (x ≥ a)) = true → (decide (x ≥ a)) = true)) ∧ (((decide (x ≥ a)) = false → true = true)) ∧ (((cond (decide (x ≥ a)) (decide (x ≤ b)) false) = (inB x a b)))
theorem i_between_vc (x : Int) (a : Int) (b : Int)   : i_between_P x a b := by
  unfold i_between_P
  refine ⟨id, id, rfl, id, fun _ => rfl, ?_⟩
  · first | omega | rfl | (intro hg; simp only [nrmT] at hg; omega) | (intro g1 g2; simp [g1, g2]; done) | (intro g1; simp at g1 ⊢; simp [g1]; done) | (simp only [nrmT] at *; omega) | (simp at * <;> omega) | (simp_all <;> omega) | (simp_all; done) | (simp [inB]; omega) | (simp only [inB]; by_cases h : a ≤ x <;> simp_all)
theorem i_between_pc (x : Int) (a : Int) (b : Int)  : PC Try.prog 120 [.int .i64 x, .int .i64 a, .int .i64 b] (.one (.d (.bool (inB x a b)))) :=
  pc_wf @Try.call120 fun _ => pc_by (by kernel_rfl) Try.func120 @Try.call120 (by kernel_rfl) i_between_C (i_between_A x a b) (by kernel_rfl) (i_between_vc x a b) (by kernel_rfl)
def i_between_orc : List D → Orc := orcN [none, none, none] fun ds => match ds with
  | [.int .i64 x, .int .i64 a, .int .i64 b] => some (.one (.d (.bool (inB x a b))))
  | _ => none
def sz1 (n : Nat) (left : Int) : Int := if left - n < 0 then -1 else left - n
def risingP (xs : List Int) (lo hi : Int) (k : Nat) : Bool := inB (xs.getD k 0) lo hi && (decide (k = 0) || decide (xs.getD (k - 1) 0 < xs.getD k 0))
def rising (xs : List Int) (lo hi : Int) : Bool := allTo (risingP xs lo hi) xs.length
theorem rising_step {xs : List Int} {lo hi i : Int} (h0 : 0 ≤ i) {c : Bool} (hc : (cond (!(inB (xs.getD i.toNat 0) lo hi)) true (cond (decide (i > 0)) (decide (xs.getD (i - 1).toNat 0 ≥ xs.getD i.toNat 0)) false)) = c) :
    risingP xs lo hi i.toNat = !c := by
  subst hc
  have e : (i - 1).toNat = i.toNat - 1 := by omega
  unfold risingP
  rw [e]
  cases inB (xs.getD i.toNat 0) lo hi
  · rfl
  · by_cases h : i > 0
    · have h2 : ¬ i.toNat = 0 := by omega
      simp [h, h2]
      by_cases h3 : xs[i.toNat - 1]?.getD 0 < xs[i.toNat]?.getD 0
      · simp [h3]
      · simp [h3]; omega
    · have h2 : i.toNat = 0 := by omega
      simp [h, h2]
abbrev s_l1Rising_JJ0 (xs : List Int) (lo : Int) (hi : Int) (i : Int) : Prop := (0 ≤ i) ∧ (i ≤ (xs.length : Int)) ∧ (allTo (risingP xs lo hi) i.toNat = true)
abbrev s_l1Rising_mJ0 (xs : List Int) (lo : Int) (hi : Int) (i : Int) : Nat := (xs.length - i).toNat
def s_l1Rising_C (f : FuncId) (ds : List D) : Orc := bif Nat.beq f 116 then s_l1In_orc ds else .no
def s_l1Rising_A (xs : List Int) (lo : Int) (hi : Int) : Ann := .two (.none) (.two (.two (.none) (.loop (cut1 (fun (i : Int) => s_l1Rising_JJ0 xs lo hi i) (fun (i : Int) => [(0, .d false (.sl (.ints xs))), (1, .d false (.int .i64 lo)), (2, .d false (.int .i64 hi)), (7, .d true (.int .i64 i))]) (fun (i : Int) => [])) (fun g => s_l1Rising_mJ0 xs lo hi g) (fun _ => .none))) (.none))
def s_l1Rising_P (xs : List Int) (lo : Int) (hi : Int) : Prop :=
  ((∃ i' : Int, (s_l1Rising_JJ0 xs lo hi i') ∧ (xs = xs) ∧ (lo = lo) ∧ (hi = hi) ∧ ((0 : Int) = i')) ∧ (∀ i : Int, (s_l1Rising_JJ0 xs lo hi i) → (((decide (i < (xs.length : Int))) = true → (true = true) ∧ ((0 : Int) ≤ i) ∧ ((i : Int) < xs.length) ∧ (i.toNat < xs.length) ∧ (PC Try.prog 116 [.int .i64 (xs.getD i.toNat 0), .int .i64 lo, .int .i64 hi] (.one (.d (.bool (inB (xs.getD i.toNat 0) lo hi))))) ∧ ((!(!(inB (xs.getD i.toNat 0) lo hi))) = true → (!(!(inB (xs.getD i.toNat 0) lo hi))) = true) ∧ ((!(!(inB (xs.getD i.toNat 0) lo hi))) = true → (!(!(inB (xs.getD i.toNat 0) lo hi))) = true) ∧ (((!(!(inB (xs.getD i.toNat 0) lo hi))) && (decide (i > 0))) = true → ((!(!(inB (xs.getD i.toNat 0) lo hi))) && (decide (i > 0))) = true) ∧ ((((!(!(inB (xs.getD i.toNat 0) lo hi))) && (decide (i > 0))) = true → -9223372036854775808 ≤ (i - 1) ∧ (i - 1) ≤ 9223372036854775807)) ∧ (((!(!(inB (xs.getD i.toNat 0) lo hi))) && (decide (i > 0))) = true → ((!(!(inB (xs.getD i.toNat 0) lo hi))) && (decide (i > 0))) = true) ∧ (((!(!(inB (xs.getD i.toNat 0) lo hi))) && (decide (i > 0))) = true → ((!(!(inB (xs.getD i.toNat 0) lo hi))) && (decide (i > 0))) = true) ∧ ((((!(!(inB (xs.getD i.toNat 0) lo hi))) && (decide (i > 0))) = true → (0 : Int) ≤ (i - 1))) ∧ ((((!(!(inB (xs.getD i.toNat 0) lo hi))) && (decide (i > 0))) = true → ((i - 1) : Int) < xs.length)) ∧ (((!(!(inB (xs.getD i.toNat 0) lo hi))) && (decide (i > 0))) = true → ((!(!(inB (xs.getD i.toNat 0) lo hi))) && (decide (i > 0))) = true) ∧ ((((!(!(inB (xs.getD i.toNat 0) lo hi))) && (decide (i > 0))) = true → (i - 1).toNat < xs.length)) ∧ (((!(!(inB (xs.getD i.toNat 0) lo hi))) && (decide (i > 0))) = true → ((!(!(inB (xs.getD i.toNat 0) lo hi))) && (decide (i > 0))) = true) ∧ (((!(!(inB (xs.getD i.toNat 0) lo hi))) && (decide (i > 0))) = true → ((!(!(inB (xs.getD i.toNat 0) lo hi))) && (decide (i > 0))) = true) ∧ ((((!(!(inB (xs.getD i.toNat 0) lo hi))) && (decide (i > 0))) = true → (0 : Int) ≤ i)) ∧ ((((!(!(inB (xs.getD i.toNat 0) lo hi))) && (decide (i > 0))) = true → (i : Int) < xs.length)) ∧ (((!(!(inB (xs.getD i.toNat 0) lo hi))) && (decide (i > 0))) = true → ((!(!(inB (xs.getD i.toNat 0) lo hi))) && (decide (i > 0))) = true) ∧ ((((!(!(inB (xs.getD i.toNat 0) lo hi))) && (decide (i > 0))) = true → i.toNat < xs.length)) ∧ (((!(!(inB (xs.getD i.toNat 0) lo hi))) && (decide (i > 0))) = true → ((!(!(inB (xs.getD i.toNat 0) lo hi))) && (decide (i > 0))) = true) ∧ (((!(!(inB (xs.getD i.toNat 0) lo hi))) && (decide (i > 0))) = true → ((!(!(inB (xs.getD i.toNat 0) lo hi))) && (decide (i > 0))) = true) ∧ (((!(!(inB (xs.getD i.toNat 0) lo hi))) = true → (!(!(inB (xs.getD i.toNat 0) lo hi))) = true)) ∧ (((!(!(inB (xs.getD i.toNat 0) lo hi))) = true → (decide (i > 0)) = true → ((!(!(inB (xs.getD i.toNat 0) lo hi))) && (decide (i > 0))) = true)) ∧ (((!(!(inB (xs.getD i.toNat 0) lo hi))) = true → (decide (i > 0)) = false → true = true)) ∧ (true = true) ∧ (((!(inB (xs.getD i.toNat 0) lo hi)) = true → true = true)) ∧ (((!(inB (xs.getD i.toNat 0) lo hi)) = false → (!(!(inB (xs.getD i.toNat 0) lo hi))) = true)) ∧ (((cond (!(inB (xs.getD i.toNat 0) lo hi)) true (cond (decide (i > 0)) (decide ((xs.getD ((i - 1).toNat) 0) ≥ (xs.getD i.toNat 0))) false)) = true → ((false = (rising xs lo hi)))) ∧ ((cond (!(inB (xs.getD i.toNat 0) lo hi)) true (cond (decide (i > 0)) (decide ((xs.getD ((i - 1).toNat) 0) ≥ (xs.getD i.toNat 0))) false)) = false → (-9223372036854775808 ≤ (i + 1) ∧ (i + 1) ≤ 9223372036854775807) ∧ (∃ i' : Int, (s_l1Rising_JJ0 xs lo hi i') ∧ (s_l1Rising_mJ0 xs lo hi i' < s_l1Rising_mJ0 xs lo hi i) ∧ (xs = xs) ∧ (lo = lo) ∧ (hi = hi) ∧ ((i + 1) = i'))))) ∧ ((decide (i < (xs.length : Int))) = false → ((true = (rising xs lo hi)))))))
theorem s_l1Rising_vc (xs : List Int) (lo : Int) (hi : Int)  (w_xs : (xs.length : Int) ≤ 9223372036854775807) : s_l1Rising_P xs lo hi := by
  unfold s_l1Rising_P
  refine ⟨?_, ?_⟩
  · refine ⟨0, ?_⟩
    refine ⟨?_, rfl, rfl, rfl, rfl⟩
    · refine ⟨?_, ?_, ?_⟩
      · omega
      · omega
      · first | omega | rfl | (intro hg; simp only [nrmT] at hg; omega) | (intro g1 g2; simp [g1, g2]; done) | (intro g1; simp at g1 ⊢; simp [g1]; done) | (simp only [nrmT] at *; omega) | (simp at * <;> omega) | (simp_all <;> omega) | (simp_all; done)
  · intro i hJ
    obtain ⟨h1, h2, h3⟩ := hJ
    refine ⟨?_, ?_⟩
    · intro b1
      try simp only [nrmT] at b1
      refine ⟨rfl, ?_, ?_, ?_, s_l1In_pc (xs.getD i.toNat 0) lo hi, id, id, id, ?_, id, id, ?_, ?_, id, ?_, id, id, ?_, ?_, id, ?_, id, id, id, ?_, fun _ _ => rfl, rfl, fun _ => rfl, ?_, ?_, ?_⟩
      · omega
      · omega
      · omega
      · omega
      · first | omega | rfl | (intro hg; simp only [nrmT] at hg; omega) | (intro g1 g2; simp [g1, g2]; done) | (intro g1; simp at g1 ⊢; simp [g1]; done) | (simp only [nrmT] at *; omega) | (simp at * <;> omega) | (simp_all <;> omega) | (simp_all; done)
      · omega
      · omega
      · omega
      · omega
      · omega
      · first | omega | rfl | (intro hg; simp only [nrmT] at hg; omega) | (intro g1 g2; simp [g1, g2]; done) | (intro g1; simp at g1 ⊢; simp [g1]; done) | (simp only [nrmT] at *; omega) | (simp at * <;> omega) | (simp_all <;> omega) | (simp_all; done)
      · first | omega | rfl | (intro hg; simp only [nrmT] at hg; omega) | (intro g1 g2; simp [g1, g2]; done) | (intro g1; simp at g1 ⊢; simp [g1]; done) | (simp only [nrmT] at *; omega) | (simp at * <;> omega) | (simp_all <;> omega) | (simp_all; done)
      · intro b2
        have e := rising_step h1 b2
        exact (allTo_falseI h1 (by omega) e).symm
      · intro b3
        refine ⟨?_, ?_⟩
        · omega
        · refine ⟨(i + 1), ?_⟩
          refine ⟨?_, ?_, rfl, rfl, rfl, rfl⟩
          · refine ⟨?_, ?_, ?_⟩
            · omega
            · omega
            · have e := rising_step h1 b3
              exact allTo_step h1 h3 e
          · first | (show _ < _; omega) | (simp only [s_l1Rising_mJ0]; omega) | (simp only [s_l1Rising_mJ0] at *; simp at *; omega)
    · intro b4
      try simp only [nrmT] at b4
      have e : i.toNat = xs.length := by omega
      rw [e] at h3
      exact h3.symm
theorem s_l1Rising_pc (xs : List Int) (lo : Int) (hi : Int)  : PC Try.prog 167 [.sl (.ints xs), .int .i64 lo, .int .i64 hi] (.one (.d (.bool (rising xs lo hi)))) :=
  pc_wf @Try.call167 fun hw => pc_by (by kernel_rfl) Try.func167 @Try.call167 (by kernel_rfl) s_l1Rising_C (s_l1Rising_A xs lo hi) (by kernel_rfl) (s_l1Rising_vc xs lo hi hw.1) (by kernel_rfl)
def s_l1Rising_orc : List D → Orc := orcN [some .ints, none, none] fun ds => match ds with
  | [.sl (.ints xs), .int .i64 lo, .int .i64 hi] => some (.one (.d (.bool (rising xs lo hi))))
  | _ => none
abbrev i_isRising_JJ0 (xs : List Int) (below : Int) (i : Int) : Prop := (0 ≤ i) ∧ (i ≤ (xs.length : Int)) ∧ (allTo (risingP xs 0 (below - 1)) i.toNat = true)
abbrev i_isRising_mJ0 (xs : List Int) (below : Int) (i : Int) : Nat := (xs.length - i).toNat
def i_isRising_C (f : FuncId) (ds : List D) : Orc := bif Nat.beq f 120 then i_between_orc ds else .no
def i_isRising_A (xs : List Int) (below : Int) : Ann := .two (.none) (.two (.two (.none) (.loop (cut1 (fun (i : Int) => i_isRising_JJ0 xs below i) (fun (i : Int) => [(0, .d false (.sl (.ints xs))), (1, .d false (.int .i64 below)), (7, .d false (.sl (.ints xs))), (8, .d true (.int .i64 (xs.length : Int))), (9, .d true (.int .i64 i))]) (fun (i : Int) => [])) (fun g => i_isRising_mJ0 xs below g) (fun _ => .none))) (.none))
def i_isRising_P (xs : List Int) (below : Int) : Prop :=
  ((∃ i' : Int, (i_isRising_JJ0 xs below i') ∧ (xs = xs) ∧ (below = below) ∧ (xs = xs) ∧ ((xs.length : Int) = (xs.length : Int)) ∧ ((0 : Int) = i')) ∧ (∀ i : Int, (i_isRising_JJ0 xs below i) → (((decide (i < (xs.length : Int))) = true → ((0 : Int) ≤ i) ∧ ((i : Int) < xs.length) ∧ (i.toNat < xs.length) ∧ (-9223372036854775808 ≤ (below - 1) ∧ (below - 1) ≤ 9223372036854775807) ∧ (PC Try.prog 120 [.int .i64 (xs.getD i.toNat 0), .int .i64 0, .int .i64 (below - 1)] (.one (.d (.bool (inB (xs.getD i.toNat 0) 0 (below - 1)))))) ∧ ((!(!(inB (xs.getD i.toNat 0) 0 (below - 1)))) = true → (!(!(inB (xs.getD i.toNat 0) 0 (below - 1)))) = true) ∧ ((!(!(inB (xs.getD i.toNat 0) 0 (below - 1)))) = true → (!(!(inB (xs.getD i.toNat 0) 0 (below - 1)))) = true) ∧ (((!(!(inB (xs.getD i.toNat 0) 0 (below - 1)))) && (decide (i > 0))) = true → ((!(!(inB (xs.getD i.toNat 0) 0 (below - 1)))) && (decide (i > 0))) = true) ∧ ((((!(!(inB (xs.getD i.toNat 0) 0 (below - 1)))) && (decide (i > 0))) = true → -9223372036854775808 ≤ (i - 1) ∧ (i - 1) ≤ 9223372036854775807)) ∧ (((!(!(inB (xs.getD i.toNat 0) 0 (below - 1)))) && (decide (i > 0))) = true → ((!(!(inB (xs.getD i.toNat 0) 0 (below - 1)))) && (decide (i > 0))) = true) ∧ (((!(!(inB (xs.getD i.toNat 0) 0 (below - 1)))) && (decide (i > 0))) = true → ((!(!(inB (xs.getD i.toNat 0) 0 (below - 1)))) && (decide (i > 0))) = true) ∧ ((((!(!(inB (xs.getD i.toNat 0) 0 (below - 1)))) && (decide (i > 0))) = true → (0 : Int) ≤ (i - 1))) ∧ ((((!(!(inB (xs.getD i.toNat 0) 0 (below - 1)))) && (decide (i > 0))) = true → ((i - 1) : Int) < xs.length)) ∧ (((!(!(inB (xs.getD i.toNat 0) 0 (below - 1)))) && (decide (i > 0))) = true → ((!(!(inB (xs.getD i.toNat 0) 0 (below - 1)))) && (decide (i > 0))) = true) ∧ ((((!(!(inB (xs.getD i.toNat 0) 0 (below - 1)))) && (decide (i > 0))) = true → (i - 1).toNat < xs.length)) ∧ (((!(!(inB (xs.getD i.toNat 0) 0 (below - 1)))) && (decide (i > 0))) = true → ((!(!(inB (xs.getD i.toNat 0) 0 (below - 1)))) && (decide (i > 0))) = true) ∧ (((!(!(inB (xs.getD i.toNat 0) 0 (below - 1)))) && (decide (i > 0))) = true → ((!(!(inB (xs.getD i.toNat 0) 0 (below - 1)))) && (decide (i > 0))) = true) ∧ (((!(!(inB (xs.getD i.toNat 0) 0 (below - 1)))) = true → (!(!(inB (xs.getD i.toNat 0) 0 (below - 1)))) = true)) ∧ (((!(!(inB (xs.getD i.toNat 0) 0 (below - 1)))) = true → (decide (i > 0)) = true → ((!(!(inB (xs.getD i.toNat 0) 0 (below - 1)))) && (decide (i > 0))) = true)) ∧ (((!(!(inB (xs.getD i.toNat 0) 0 (below - 1)))) = true → (decide (i > 0)) = false → true = true)) ∧ (true = true) ∧ (((!(inB (xs.getD i.toNat 0) 0 (below - 1))) = true → true = true)) ∧ (((!(inB (xs.getD i.toNat 0) 0 (below - 1))) = false → (!(!(inB (xs.getD i.toNat 0) 0 (below - 1)))) = true)) ∧ (((cond (!(inB (xs.getD i.toNat 0) 0 (below - 1))) true (cond (decide (i > 0)) (decide ((xs.getD i.toNat 0) ≤ (xs.getD ((i - 1).toNat) 0))) false)) = true → ((false = (rising xs 0 (below - 1))))) ∧ ((cond (!(inB (xs.getD i.toNat 0) 0 (below - 1))) true (cond (decide (i > 0)) (decide ((xs.getD i.toNat 0) ≤ (xs.getD ((i - 1).toNat) 0))) false)) = false → (-9223372036854775808 ≤ (i + 1) ∧ (i + 1) ≤ 9223372036854775807) ∧ (∃ i' : Int, (i_isRising_JJ0 xs below i') ∧ (i_isRising_mJ0 xs below i' < i_isRising_mJ0 xs below i) ∧ (xs = xs) ∧ (below = below) ∧ (xs = xs) ∧ ((xs.length : Int) = (xs.length : Int)) ∧ ((i + 1) = i'))))) ∧ ((decide (i < (xs.length : Int))) = false → ((true = (rising xs 0 (below - 1))))))))
theorem i_isRising_vc (xs : List Int) (below : Int) (hb : -9223372036854775808 < below ∧ below ≤ 9223372036854775807) (w_xs : (xs.length : Int) ≤ 9223372036854775807) : i_isRising_P xs below := by
  unfold i_isRising_P
  refine ⟨?_, ?_⟩
  · refine ⟨0, ?_⟩
    refine ⟨?_, rfl, rfl, rfl, rfl, rfl⟩
    · refine ⟨?_, ?_, ?_⟩
      · omega
      · omega
      · first | omega | rfl | (intro hg; simp only [nrmT] at hg; omega) | (intro g1 g2; simp [g1, g2]; done) | (intro g1; simp at g1 ⊢; simp [g1]; done) | (simp only [nrmT] at *; omega) | (simp at * <;> omega) | (simp_all <;> omega) | (simp_all; done)
  · intro i hJ
    obtain ⟨h1, h2, h3⟩ := hJ
    refine ⟨?_, ?_⟩
    · intro b1
      try simp only [nrmT] at b1
      refine ⟨?_, ?_, ?_, ?_, i_between_pc (xs.getD i.toNat 0) 0 (below - 1), id, id, id, ?_, id, id, ?_, ?_, id, ?_, id, id, id, ?_, fun _ _ => rfl, rfl, fun _ => rfl, ?_, ?_, ?_⟩
      · omega
      · omega
      · omega
      · omega
      · omega
      · first | omega | rfl | (intro hg; simp only [nrmT] at hg; omega) | (intro g1 g2; simp [g1, g2]; done) | (intro g1; simp at g1 ⊢; simp [g1]; done) | (simp only [nrmT] at *; omega) | (simp at * <;> omega) | (simp_all <;> omega) | (simp_all; done)
      · omega
      · omega
      · first | omega | rfl | (intro hg; simp only [nrmT] at hg; omega) | (intro g1 g2; simp [g1, g2]; done) | (intro g1; simp at g1 ⊢; simp [g1]; done) | (simp only [nrmT] at *; omega) | (simp at * <;> omega) | (simp_all <;> omega) | (simp_all; done)
      · first | omega | rfl | (intro hg; simp only [nrmT] at hg; omega) | (intro g1 g2; simp [g1, g2]; done) | (intro g1; simp at g1 ⊢; simp [g1]; done) | (simp only [nrmT] at *; omega) | (simp at * <;> omega) | (simp_all <;> omega) | (simp_all; done)
      · intro b2
        have e := rising_step h1 b2
        exact (allTo_falseI h1 (by omega) e).symm
      · intro b3
        refine ⟨?_, ?_⟩
        · omega
        · refine ⟨(i + 1), ?_⟩
          refine ⟨?_, ?_, rfl, rfl, rfl, rfl, rfl⟩
          · refine ⟨?_, ?_, ?_⟩
            · omega
            · omega
            · have e := rising_step h1 b3
              exact allTo_step h1 h3 e
          · first | (show _ < _; omega) | (simp only [i_isRising_mJ0]; omega) | (simp only [i_isRising_mJ0] at *; simp at *; omega)
    · intro b4
      try simp only [nrmT] at b4
      have e : i.toNat = xs.length := by omega
      rw [e] at h3
      exact h3.symm
theorem i_isRising_pc (xs : List Int) (below : Int) (hb : -9223372036854775808 < below ∧ below ≤ 9223372036854775807) : PC Try.prog 130 [.sl (.ints xs), .int .i64 below] (.one (.d (.bool (rising xs 0 (below - 1))))) :=
  pc_wf @Try.call130 fun hw => pc_by (by kernel_rfl) Try.func130 @Try.call130 (by kernel_rfl) i_isRising_C (i_isRising_A xs below) (by kernel_rfl) (i_isRising_vc xs below hb hw.1) (by kernel_rfl)
def i_isRising_orc : List D → Orc := orcN [some .ints, none] fun ds => match ds with
  | [.sl (.ints xs), .int .i64 below] => some (.one (.d (.bool (rising xs 0 (below - 1)))))
  | _ => none
theorem len_beq (m n : Nat) : ((m : Int) == (n : Int)) = decide (m = n) := by
  rw [Bool.eq_iff_iff]; simp only [beq_iff_eq, decide_eq_true_eq]; omega
theorem len_le (m n : Nat) : decide ((m : Int) ≤ (n : Int)) = decide (m ≤ n) := by
  rw [Bool.eq_iff_iff]; simp only [decide_eq_true_eq]; omega
theorem all_end {α : Type} {p : α → Bool} {d : α} {xs : List α} {i : Int} (h2 : (xs.length : Int) ≤ i) (h2' : i ≤ (xs.length : Int)) (h3 : allTo (fun k => p (xs.getD k d)) i.toNat = true) : xs.all p = true := by
  have e : i.toNat = xs.length := by omega
  rw [e, allTo_list] at h3; exact h3
theorem all_no {α : Type} {p : α → Bool} {d : α} {xs : List α} {i : Int} (h0 : 0 ≤ i) (h : i < (xs.length : Int)) (h3 : p (xs.getD i.toNat d) = false) : xs.all p = false := by
  rw [← allTo_list (d := d)]; exact allTo_falseI h0 h h3
abbrev s_l6Sets_JJ0 (size : Int) (xss : List (List Int)) (i : Int) : Prop := (0 ≤ i) ∧ (i ≤ (xss.length : Int)) ∧ (allTo (fun k => rising (xss.getD k []) 0 (size - 1)) i.toNat = true)
abbrev s_l6Sets_mJ0 (size : Int) (xss : List (List Int)) (i : Int) : Nat := (xss.length - i).toNat
def s_l6Sets_C (f : FuncId) (ds : List D) : Orc := bif Nat.beq f 167 then s_l1Rising_orc ds else .no
def s_l6Sets_A (size : Int) (xss : List (List Int)) : Ann := .two (.none) (.two (.two (.none) (.loop (cut1 (fun (i : Int) => s_l6Sets_JJ0 size xss i) (fun (i : Int) => [(0, .d false (.int .i64 size)), (1, .d false (.sl (.rows xss))), (5, .d true (.int .i64 i))]) (fun (i : Int) => [])) (fun g => s_l6Sets_mJ0 size xss g) (fun _ => .none))) (.none))
def s_l6Sets_P (size : Int) (xss : List (List Int)) : Prop :=
  ((∃ i' : Int, (s_l6Sets_JJ0 size xss i') ∧ (size = size) ∧ (xss = xss) ∧ ((0 : Int) = i')) ∧ (∀ i : Int, (s_l6Sets_JJ0 size xss i) → (((decide (i < (xss.length : Int))) = true → ((0 : Int) ≤ i) ∧ ((i : Int) < xss.length) ∧ (i.toNat < xss.length) ∧ (-9223372036854775808 ≤ (size - 1) ∧ (size - 1) ≤ 9223372036854775807) ∧ (PC Try.prog 167 [.sl (.ints (xss.getD i.toNat [])), .int .i64 0, .int .i64 (size - 1)] (.one (.d (.bool (rising (xss.getD i.toNat []) 0 (size - 1)))))) ∧ (((!(rising (xss.getD i.toNat []) 0 (size - 1))) = true → ((false = (xss.all (fun xs => rising xs 0 (size - 1)) && decide (xss.length ≤ 8))))) ∧ ((!(rising (xss.getD i.toNat []) 0 (size - 1))) = false → (-9223372036854775808 ≤ (i + 1) ∧ (i + 1) ≤ 9223372036854775807) ∧ (∃ i' : Int, (s_l6Sets_JJ0 size xss i') ∧ (s_l6Sets_mJ0 size xss i' < s_l6Sets_mJ0 size xss i) ∧ (size = size) ∧ (xss = xss) ∧ ((i + 1) = i'))))) ∧ ((decide (i < (xss.length : Int))) = false → (((decide ((xss.length : Int) ≤ 8)) = (xss.all (fun xs => rising xs 0 (size - 1)) && decide (xss.length ≤ 8))))))))
theorem s_l6Sets_vc (size : Int) (xss : List (List Int)) (hb : 0 ≤ size ∧ size ≤ 8) (w_xss : (xss.length : Int) ≤ 9223372036854775807) (v_xss : ∀ x9 ∈ xss, (x9.length : Int) ≤ 9223372036854775807) : s_l6Sets_P size xss := by
  unfold s_l6Sets_P
  refine ⟨?_, ?_⟩
  · refine ⟨0, ?_⟩
    refine ⟨?_, rfl, rfl, rfl⟩
    · refine ⟨?_, ?_, ?_⟩
      · omega
      · omega
      · first | omega | rfl | (intro hg; simp only [nrmT] at hg; omega) | (intro g1 g2; simp [g1, g2]; done) | (intro g1; simp at g1 ⊢; simp [g1]; done) | (simp only [nrmT] at *; omega) | (simp at * <;> omega) | (simp_all <;> omega) | (simp_all; done)
  · intro i hJ
    obtain ⟨h1, h2, h3⟩ := hJ
    refine ⟨?_, ?_⟩
    · intro b1
      try simp only [nrmT] at b1
      refine ⟨?_, ?_, ?_, ?_, s_l1Rising_pc (xss.getD i.toNat []) 0 (size - 1), ?_, ?_⟩
      · omega
      · omega
      · omega
      · omega
      · intro b2
        try simp only [nrmT] at b2
        rw [all_no (d := []) h1 (by omega) b2]; rfl
      · intro b3
        try simp only [nrmT] at b3
        refine ⟨?_, ?_⟩
        · omega
        · refine ⟨(i + 1), ?_⟩
          refine ⟨?_, ?_, rfl, rfl, rfl⟩
          · refine ⟨?_, ?_, ?_⟩
            · omega
            · omega
            · exact allTo_step h1 h3 b3
          · first | (show _ < _; omega) | (simp only [s_l6Sets_mJ0]; omega) | (simp only [s_l6Sets_mJ0] at *; simp at *; omega)
    · intro b4
      try simp only [nrmT] at b4
      rw [all_end (p := fun xs => rising xs 0 (size - 1)) (d := []) (by omega) h2 h3, Bool.true_and]; exact len_le _ 8
theorem s_l6Sets_pc (size : Int) (xss : List (List Int)) (hb : 0 ≤ size ∧ size ≤ 8) : PC Try.prog 201 [.int .i64 size, .sl (.rows xss)] (.one (.d (.bool (xss.all (fun xs => rising xs 0 (size - 1)) && decide (xss.length ≤ 8))))) :=
  pc_wf @Try.call201 fun hw => pc_by (by kernel_rfl) Try.func201 @Try.call201 (by kernel_rfl) s_l6Sets_C (s_l6Sets_A size xss) (by kernel_rfl) (s_l6Sets_vc size xss hb hw.2.1.1 hw.2.1.2) (by kernel_rfl)
def s_l6Sets_orc : List D → Orc := orcN [none, some .rows] fun ds => match ds with
  | [.int .i64 size, .sl (.rows xss)] => some (.one (.d (.bool (xss.all (fun xs => rising xs 0 (size - 1)) && decide (xss.length ≤ 8)))))
  | _ => none
def goodSys (size : Int) (sets : List (List Int)) (costs : List Int) : Bool :=
  inB size 0 8 && decide (sets.length ≤ 8) && decide (costs.length = sets.length) && costs.all (fun x => inB x 1 99) && sets.all (fun xs => rising xs 0 (size - 1))
theorem inB_le {x lo hi : Int} (h : inB x lo hi = true) : lo ≤ x ∧ x ≤ hi := of_decide_eq_true h
abbrev s_l6Good_JJ0 (Size : Int) (Sets : List (List Int)) (Costs : List Int) (i : Int) : Prop := (0 ≤ i) ∧ (i ≤ (Costs.length : Int)) ∧ (allTo (fun k => inB (Costs.getD k 0) 1 99) i.toNat = true)
abbrev s_l6Good_mJ0 (Size : Int) (Sets : List (List Int)) (Costs : List Int) (i : Int) : Nat := (Costs.length - i).toNat
def s_l6Good_C (f : FuncId) (ds : List D) : Orc := bif Nat.beq f 116 then s_l1In_orc ds else bif Nat.beq f 201 then s_l6Sets_orc ds else .no
def s_l6Good_A (Size : Int) (Sets : List (List Int)) (Costs : List Int) : Ann := .two (.none) (.two (.two (.none) (.loop (cut1 (fun (i : Int) => s_l6Good_JJ0 Size Sets Costs i) (fun (i : Int) => [(1, .ptr 1 0), (3, .d true (.int .i64 i))]) (fun (i : Int) => [(1, .box 36 [.d false (.int .i64 Size), .d false (.sl (.rows Sets)), .d false (.sl (.ints Costs))])])) (fun g => s_l6Good_mJ0 Size Sets Costs g) (fun _ => .none))) (.none))
def s_l6Good_P (Size : Int) (Sets : List (List Int)) (Costs : List Int) : Prop :=
  ((∃ i' : Int, (s_l6Good_JJ0 Size Sets Costs i') ∧ ((0 : Int) = i') ∧ (Size = Size) ∧ (Sets = Sets) ∧ (Costs = Costs)) ∧ (∀ i : Int, (s_l6Good_JJ0 Size Sets Costs i) → (((decide (i < (Costs.length : Int))) = true → ((0 : Int) ≤ i) ∧ ((i : Int) < Costs.length) ∧ (i.toNat < Costs.length) ∧ (PC Try.prog 116 [.int .i64 (Costs.getD i.toNat 0), .int .i64 1, .int .i64 99] (.one (.d (.bool (inB (Costs.getD i.toNat 0) 1 99))))) ∧ (((!(inB (Costs.getD i.toNat 0) 1 99)) = true → ((false = (goodSys Size Sets Costs)))) ∧ ((!(inB (Costs.getD i.toNat 0) 1 99)) = false → (-9223372036854775808 ≤ (i + 1) ∧ (i + 1) ≤ 9223372036854775807) ∧ (∃ i' : Int, (s_l6Good_JJ0 Size Sets Costs i') ∧ (s_l6Good_mJ0 Size Sets Costs i' < s_l6Good_mJ0 Size Sets Costs i) ∧ ((i + 1) = i') ∧ (Size = Size) ∧ (Sets = Sets) ∧ (Costs = Costs))))) ∧ ((decide (i < (Costs.length : Int))) = false → (PC Try.prog 116 [.int .i64 Size, .int .i64 0, .int .i64 8] (.one (.d (.bool (inB Size 0 8))))) ∧ ((inB Size 0 8) = true → (inB Size 0 8) = true) ∧ ((inB Size 0 8) = true → (inB Size 0 8) = true) ∧ ((inB Size 0 8) = true → (inB Size 0 8) = true) ∧ ((inB Size 0 8) = true → (inB Size 0 8) = true) ∧ ((inB Size 0 8) = true → PC Try.prog 201 [.int .i64 Size, .sl (.rows Sets)] (.one (.d (.bool (Sets.all (fun xs => rising xs 0 (Size - 1)) && decide (Sets.length ≤ 8)))))) ∧ (true = true) ∧ (((inB Size 0 8) = true → (inB Size 0 8) = true)) ∧ (((inB Size 0 8) = false → true = true)) ∧ ((cond (inB Size 0 8) (Sets.all (fun xs => rising xs 0 (Size - 1)) && decide (Sets.length ≤ 8)) false) = true → (cond (inB Size 0 8) (Sets.all (fun xs => rising xs 0 (Size - 1)) && decide (Sets.length ≤ 8)) false) = true) ∧ ((cond (inB Size 0 8) (Sets.all (fun xs => rising xs 0 (Size - 1)) && decide (Sets.length ≤ 8)) false) = true → (cond (inB Size 0 8) (Sets.all (fun xs => rising xs 0 (Size - 1)) && decide (Sets.length ≤ 8)) false) = true) ∧ ((cond (inB Size 0 8) (Sets.all (fun xs => rising xs 0 (Size - 1)) && decide (Sets.length ≤ 8)) false) = true → (cond (inB Size 0 8) (Sets.all (fun xs => rising xs 0 (Size - 1)) && decide (Sets.length ≤ 8)) false) = true) ∧ ((cond (inB Size 0 8) (Sets.all (fun xs => rising xs 0 (Size - 1)) && decide (Sets.length ≤ 8)) false) = true → (cond (inB Size 0 8) (Sets.all (fun xs => rising xs 0 (Size - 1)) && decide (Sets.length ≤ 8)) false) = true) ∧ ((cond (inB Size 0 8) (Sets.all (fun xs => rising xs 0 (Size - 1)) && decide (Sets.length ≤ 8)) false) = true → (cond (inB Size 0 8) (Sets.all (fun xs => rising xs 0 (Size - 1)) && decide (Sets.length ≤ 8)) false) = true) ∧ ((cond (inB Size 0 8) (Sets.all (fun xs => rising xs 0 (Size - 1)) && decide (Sets.length ≤ 8)) false) = true → (cond (inB Size 0 8) (Sets.all (fun xs => rising xs 0 (Size - 1)) && decide (Sets.length ≤ 8)) false) = true) ∧ (true = true) ∧ (((cond (inB Size 0 8) (Sets.all (fun xs => rising xs 0 (Size - 1)) && decide (Sets.length ≤ 8)) false) = true → (cond (inB Size 0 8) (Sets.all (fun xs => rising xs 0 (Size - 1)) && decide (Sets.length ≤ 8)) false) = true)) ∧ (((cond (inB Size 0 8) (Sets.all (fun xs => rising xs 0 (Size - 1)) && decide (Sets.length ≤ 8)) false) = false → true = true)) ∧ (((cond (cond (inB Size 0 8) (Sets.all (fun xs => rising xs 0 (Size - 1)) && decide (Sets.length ≤ 8)) false) ((Costs.length : Int) == (Sets.length : Int)) false) = (goodSys Size Sets Costs)))))))
theorem s_l6Good_vc (Size : Int) (Sets : List (List Int)) (Costs : List Int)  (w_Sets : (Sets.length : Int) ≤ 9223372036854775807) (v_Sets : ∀ x9 ∈ Sets, (x9.length : Int) ≤ 9223372036854775807) (w_Costs : (Costs.length : Int) ≤ 9223372036854775807) : s_l6Good_P Size Sets Costs := by
  unfold s_l6Good_P
  refine ⟨?_, ?_⟩
  · refine ⟨0, ?_⟩
    refine ⟨?_, rfl, rfl, rfl, rfl⟩
    · refine ⟨?_, ?_, ?_⟩
      · omega
      · omega
      · first | omega | rfl | (intro hg; simp only [nrmT] at hg; omega) | (intro g1 g2; simp [g1, g2]; done) | (intro g1; simp at g1 ⊢; simp [g1]; done) | (simp only [nrmT] at *; omega) | (simp at * <;> omega) | (simp_all <;> omega) | (simp_all; done)
  · intro i hJ
    obtain ⟨h1, h2, h3⟩ := hJ
    refine ⟨?_, ?_⟩
    · intro b1
      try simp only [nrmT] at b1
      refine ⟨?_, ?_, ?_, s_l1In_pc (Costs.getD i.toNat 0) 1 99, ?_, ?_⟩
      · omega
      · omega
      · omega
      · intro b2
        try simp only [nrmT] at b2
        unfold goodSys
        rw [all_no (p := fun x => inB x 1 99) (d := 0) h1 (by omega) b2]
        simp
      · intro b3
        try simp only [nrmT] at b3
        refine ⟨?_, ?_⟩
        · omega
        · refine ⟨(i + 1), ?_⟩
          refine ⟨?_, ?_, rfl, rfl, rfl, rfl⟩
          · refine ⟨?_, ?_, ?_⟩
            · omega
            · omega
            · exact allTo_step h1 h3 b3
          · first | (show _ < _; omega) | (simp only [s_l6Good_mJ0]; omega) | (simp only [s_l6Good_mJ0] at *; simp at *; omega)
    · intro b4
      try simp only [nrmT] at b4
      refine ⟨s_l1In_pc Size 0 8, id, id, id, id, ?_, rfl, id, fun _ => rfl, id, id, id, id, id, id, rfl, id, fun _ => rfl, ?_⟩
      · intro hg
        refine s_l6Sets_pc Size Sets ?_
        · exact inB_le hg
      · unfold goodSys
        rw [all_end (p := fun x => inB x 1 99) (d := 0) (by omega) h2 h3, len_beq]
        cases inB Size 0 8 <;> cases decide (Sets.length ≤ 8) <;> cases Sets.all (fun xs => rising xs 0 (Size - 1)) <;> cases decide (Costs.length = Sets.length) <;> rfl
theorem s_l6Good_pc (Size : Int) (Sets : List (List Int)) (Costs : List Int)  : PC Try.prog 122 [.agg [.int .i64 Size, .sl (.rows Sets), .sl (.ints Costs)]] (.one (.d (.bool (goodSys Size Sets Costs)))) :=
  pc_wf @Try.call122 fun hw => pc_by (by kernel_rfl) Try.func122 @Try.call122 (by kernel_rfl) s_l6Good_C (s_l6Good_A Size Sets Costs) (by kernel_rfl) (s_l6Good_vc Size Sets Costs hw.1.2.1.1 hw.1.2.1.2 hw.1.2.2.1) (by kernel_rfl)
def s_l6Good_orc : List D → Orc := orcN [none] fun ds => match ds with
  | [.agg [.int .i64 Size, .sl (.rows Sets), .sl (.ints Costs)]] => some (.one (.d (.bool (goodSys Size Sets Costs))))
  | _ => none
def i_areBetween_1_C (f : FuncId) (ds : List D) : Orc := bif Nat.beq f 120 then i_between_orc ds else .no
def i_areBetween_1_A (x : Int) (lo : Int) (hi : Int) : Ann := .none
def i_areBetween_1_P (x : Int) (lo : Int) (hi : Int) : Prop :=
  (PC Try.prog 120 [.int .i64 x, .int .i64 lo, .int .i64 hi] (.one (.d (.bool (inB x lo hi))))) ∧ (((!(inB x lo hi)) = (!(inB x lo hi))))
theorem i_areBetween_1_vc (x : Int) (lo : Int) (hi : Int)   : i_areBetween_1_P x lo hi := by
  unfold i_areBetween_1_P
  refine ⟨i_between_pc x lo hi, rfl⟩
theorem i_areBetween_1_pc (x : Int) (lo : Int) (hi : Int)  : PC Try.prog 205 [.int .i64 x, .bx [.int .i64 lo] 0, .bx [.int .i64 hi] 0] (.one (.d (.bool (!(inB x lo hi))))) :=
  pc_wf @Try.call205 fun _ => pc_by (by kernel_rfl) Try.func205 @Try.call205 (by kernel_rfl) i_areBetween_1_C (i_areBetween_1_A x lo hi) (by kernel_rfl) (i_areBetween_1_vc x lo hi) (by kernel_rfl)
def i_areBetween_1_orc : List D → Orc := orcN [none, none, none] fun ds => match ds with
  | [.int .i64 x, .bx [.int .i64 lo] 0, .bx [.int .i64 hi] 0] => some (.one (.d (.bool (!(inB x lo hi)))))
  | _ => none
abbrev slices_IndexFunc_int_int_aB_JJ0 (xs : List Int) (lo : Int) (hi : Int) (i : Int) : Prop := (0 ≤ i) ∧ (i ≤ (xs.length : Int)) ∧ (∀ k, k < i.toNat → (fun x => !(inB x lo hi)) (xs.getD k 0) = false)
abbrev slices_IndexFunc_int_int_aB_mJ0 (xs : List Int) (lo : Int) (hi : Int) (i : Int) : Nat := (xs.length - i).toNat
def slices_IndexFunc_int_int_aB_C (f : FuncId) (ds : List D) : Orc := bif Nat.beq f 205 then i_areBetween_1_orc ds else .no
def slices_IndexFunc_int_int_aB_A (xs : List Int) (lo : Int) (hi : Int) : Ann := .two (.none) (.two (.two (.none) (.loop (cut1 (fun (i : Int) => slices_IndexFunc_int_int_aB_JJ0 xs lo hi i) (fun (i : Int) => [(0, .d false (.sl (.ints xs))), (1, .d false (.fn 205 0 [.bx [.int .i64 lo] 0, .bx [.int .i64 hi] 0])), (7, .d true (.int .i64 (xs.length : Int))), (8, .d true (.int .i64 i))]) (fun (i : Int) => [])) (fun g => slices_IndexFunc_int_int_aB_mJ0 xs lo hi g) (fun _ => .none))) (.none))
def slices_IndexFunc_int_int_aB_P (xs : List Int) (lo : Int) (hi : Int) : Prop :=
  ((∃ i' : Int, (slices_IndexFunc_int_int_aB_JJ0 xs lo hi i') ∧ (xs = xs) ∧ ((.fn 205 0 [.bx [.int .i64 lo] 0, .bx [.int .i64 hi] 0] : D) = (.fn 205 0 [.bx [.int .i64 lo] 0, .bx [.int .i64 hi] 0] : D)) ∧ ((xs.length : Int) = (xs.length : Int)) ∧ ((0 : Int) = i')) ∧ (∀ i : Int, (slices_IndexFunc_int_int_aB_JJ0 xs lo hi i) → (((decide (i < (xs.length : Int))) = true → ((0 : Int) ≤ i) ∧ ((i : Int) < xs.length) ∧ (i.toNat < xs.length) ∧ (PC Try.prog 205 [.int .i64 (xs.getD i.toNat 0), .bx [.int .i64 lo] 0, .bx [.int .i64 hi] 0] (.one (.d (.bool (!(inB (xs.getD i.toNat 0) lo hi)))))) ∧ (((!(inB (xs.getD i.toNat 0) lo hi)) = true → ((i = (idxI (fun x => !(inB x lo hi)) xs)))) ∧ ((!(inB (xs.getD i.toNat 0) lo hi)) = false → (-9223372036854775808 ≤ (i + 1) ∧ (i + 1) ≤ 9223372036854775807) ∧ (∃ i' : Int, (slices_IndexFunc_int_int_aB_JJ0 xs lo hi i') ∧ (slices_IndexFunc_int_int_aB_mJ0 xs lo hi i' < slices_IndexFunc_int_int_aB_mJ0 xs lo hi i) ∧ (xs = xs) ∧ ((.fn 205 0 [.bx [.int .i64 lo] 0, .bx [.int .i64 hi] 0] : D) = (.fn 205 0 [.bx [.int .i64 lo] 0, .bx [.int .i64 hi] 0] : D)) ∧ ((xs.length : Int) = (xs.length : Int)) ∧ ((i + 1) = i'))))) ∧ ((decide (i < (xs.length : Int))) = false → ((((-1) : Int) = (idxI (fun x => !(inB x lo hi)) xs)))))))
theorem slices_IndexFunc_int_int_aB_vc (xs : List Int) (lo : Int) (hi : Int)  (w_xs : (xs.length : Int) ≤ 9223372036854775807) : slices_IndexFunc_int_int_aB_P xs lo hi := by
  unfold slices_IndexFunc_int_int_aB_P
  refine ⟨?_, ?_⟩
  · refine ⟨0, ?_⟩
    refine ⟨?_, rfl, rfl, rfl, rfl⟩
    · refine ⟨?_, ?_, ?_⟩
      · omega
      · omega
      · omega
  · intro i hJ
    obtain ⟨h1, h2, h3⟩ := hJ
    refine ⟨?_, ?_⟩
    · intro b1
      try simp only [nrmT] at b1
      refine ⟨?_, ?_, ?_, i_areBetween_1_pc (xs.getD i.toNat 0) lo hi, ?_, ?_⟩
      · omega
      · omega
      · omega
      · intro b2
        try simp only [nrmT] at b2
        exact idx_found (p := fun x => !(inB x lo hi)) h1 b1 h3 (by simpa using b2)
      · intro b3
        try simp only [nrmT] at b3
        refine ⟨?_, ?_⟩
        · omega
        · refine ⟨(i + 1), ?_⟩
          refine ⟨?_, ?_, rfl, rfl, rfl, rfl⟩
          · refine ⟨?_, ?_, ?_⟩
            · omega
            · omega
            · exact idx_step (p := fun x => !(inB x lo hi)) h1 h3 (by simpa using b3)
          · first | (show _ < _; omega) | (simp only [slices_IndexFunc_int_int_aB_mJ0]; omega) | (simp only [slices_IndexFunc_int_int_aB_mJ0] at *; simp at *; omega)
    · intro b4
      try simp only [nrmT] at b4
      exact (idx_none (by omega) h3).symm
theorem slices_IndexFunc_int_int_aB_pc (xs : List Int) (lo : Int) (hi : Int)  : PC Try.prog 204 [.sl (.ints xs), .fn 205 0 [.bx [.int .i64 lo] 0, .bx [.int .i64 hi] 0]] (.one (.d (.int .i64 (idxI (fun x => !(inB x lo hi)) xs)))) :=
  pc_wf @Try.call204 fun hw => pc_by (by kernel_rfl) Try.func204 @Try.call204 (by kernel_rfl) slices_IndexFunc_int_int_aB_C (slices_IndexFunc_int_int_aB_A xs lo hi) (by kernel_rfl) (slices_IndexFunc_int_int_aB_vc xs lo hi hw.1) (by kernel_rfl)
def slices_IndexFunc_int_int_aB_orc : List D → Orc := orcN [some .ints, none] fun ds => match ds with
  | [.sl (.ints xs), .fn f0 0 [.bx [.int .i64 lo] 0, .bx [.int .i64 hi] 0]] => bif Nat.beq f0 205 then some (.one (.d (.int .i64 (idxI (fun x => !(inB x lo hi)) xs)))) else none
  | _ => none
def slices_ContainsFunc_int_int_aB_C (f : FuncId) (ds : List D) : Orc := bif Nat.beq f 204 then slices_IndexFunc_int_int_aB_orc ds else .no
def slices_ContainsFunc_int_int_aB_A (xs : List Int) (lo : Int) (hi : Int) : Ann := .none
def slices_ContainsFunc_int_int_aB_P (xs : List Int) (lo : Int) (hi : Int) : Prop :=
  (PC Try.prog 204 [.sl (.ints xs), .fn 205 0 [.bx [.int .i64 lo] 0, .bx [.int .i64 hi] 0]] (.one (.d (.int .i64 (idxI (fun x => !(inB x lo hi)) xs))))) ∧ (((decide ((idxI (fun x => !(inB x lo hi)) xs) ≥ 0)) = (xs.any (fun x => !(inB x lo hi)))))
theorem slices_ContainsFunc_int_int_aB_vc (xs : List Int) (lo : Int) (hi : Int)  (w_xs : (xs.length : Int) ≤ 9223372036854775807) : slices_ContainsFunc_int_int_aB_P xs lo hi := by
  unfold slices_ContainsFunc_int_int_aB_P
  refine ⟨slices_IndexFunc_int_int_aB_pc xs lo hi, ?_⟩
  · exact idx_any _ _
theorem slices_ContainsFunc_int_int_aB_pc (xs : List Int) (lo : Int) (hi : Int)  : PC Try.prog 127 [.sl (.ints xs), .fn 205 0 [.bx [.int .i64 lo] 0, .bx [.int .i64 hi] 0]] (.one (.d (.bool (xs.any (fun x => !(inB x lo hi)))))) :=
  pc_wf @Try.call127 fun hw => pc_by (by kernel_rfl) Try.func127 @Try.call127 (by kernel_rfl) slices_ContainsFunc_int_int_aB_C (slices_ContainsFunc_int_int_aB_A xs lo hi) (by kernel_rfl) (slices_ContainsFunc_int_int_aB_vc xs lo hi hw.1) (by kernel_rfl)
def slices_ContainsFunc_int_int_aB_orc : List D → Orc := orcN [some .ints, none] fun ds => match ds with
  | [.sl (.ints xs), .fn f0 0 [.bx [.int .i64 lo] 0, .bx [.int .i64 hi] 0]] => bif Nat.beq f0 205 then some (.one (.d (.bool (xs.any (fun x => !(inB x lo hi)))))) else none
  | _ => none
def i_areBetween_C (f : FuncId) (ds : List D) : Orc := bif Nat.beq f 127 then slices_ContainsFunc_int_int_aB_orc ds else .no
def i_areBetween_A (xs : List Int) (lo : Int) (hi : Int) : Ann := .none
def i_areBetween_P (xs : List Int) (lo : Int) (hi : Int) : Prop :=
  (PC Try.prog 127 [.sl (.ints xs), .fn 205 0 [.bx [.int .i64 lo] 0, .bx [.int .i64 hi] 0]] (.one (.d (.bool (xs.any (fun x => !(inB x lo hi))))))) ∧ (((!(xs.any (fun x => !(inB x lo hi)))) = (xs.all (fun x => inB x lo hi))))
theorem i_areBetween_vc (xs : List Int) (lo : Int) (hi : Int)  (w_xs : (xs.length : Int) ≤ 9223372036854775807) : i_areBetween_P xs lo hi := by
  unfold i_areBetween_P
  refine ⟨slices_ContainsFunc_int_int_aB_pc xs lo hi, ?_⟩
  · exact any_not _ _
theorem i_areBetween_pc (xs : List Int) (lo : Int) (hi : Int)  : PC Try.prog 131 [.sl (.ints xs), .int .i64 lo, .int .i64 hi] (.one (.d (.bool (xs.all (fun x => inB x lo hi))))) :=
  pc_wf @Try.call131 fun hw => pc_by (by kernel_rfl) Try.func131 @Try.call131 (by kernel_rfl) i_areBetween_C (i_areBetween_A xs lo hi) (by kernel_rfl) (i_areBetween_vc xs lo hi hw.1) (by kernel_rfl)
def i_areBetween_orc : List D → Orc := orcN [some .ints, none, none] fun ds => match ds with
  | [.sl (.ints xs), .int .i64 lo, .int .i64 hi] => some (.one (.d (.bool (xs.all (fun x => inB x lo hi)))))
  | _ => none
def i_IsSystem_1_C (f : FuncId) (ds : List D) : Orc := bif Nat.beq f 130 then i_isRising_orc ds else .no
def i_IsSystem_1_A (xs : List Int) (Size : Int) (Sets : List (List Int)) (Costs : List Int) : Ann := .none
def i_IsSystem_1_P (xs : List Int) (Size : Int) (Sets : List (List Int)) (Costs : List Int) : Prop :=
  (PC Try.prog 130 [.sl (.ints xs), .int .i64 Size] (.one (.d (.bool (rising xs 0 (Size - 1)))))) ∧ (((!(rising xs 0 (Size - 1))) = (!(rising xs 0 (Size - 1)))))
theorem i_IsSystem_1_vc (xs : List Int) (Size : Int) (Sets : List (List Int)) (Costs : List Int) (hb : -9223372036854775808 < Size ∧ Size ≤ 9223372036854775807) (w_xs : (xs.length : Int) ≤ 9223372036854775807) (w_Sets : (Sets.length : Int) ≤ 9223372036854775807) (v_Sets : ∀ x9 ∈ Sets, (x9.length : Int) ≤ 9223372036854775807) (w_Costs : (Costs.length : Int) ≤ 9223372036854775807) : i_IsSystem_1_P xs Size Sets Costs := by
  unfold i_IsSystem_1_P
  refine ⟨?_, rfl⟩
  · refine i_isRising_pc xs Size ?_
    · omega
theorem i_IsSystem_1_pc (xs : List Int) (Size : Int) (Sets : List (List Int)) (Costs : List Int) (hb : -9223372036854775808 < Size ∧ Size ≤ 9223372036854775807) : PC Try.prog 170 [.sl (.ints xs), .bx [.int .i64 Size, .sl (.rows Sets), .sl (.ints Costs)] 0] (.one (.d (.bool (!(rising xs 0 (Size - 1)))))) :=
  pc_wf @Try.call170 fun hw => pc_by (by kernel_rfl) Try.func170 @Try.call170 (by kernel_rfl) i_IsSystem_1_C (i_IsSystem_1_A xs Size Sets Costs) (by kernel_rfl) (i_IsSystem_1_vc xs Size Sets Costs hb hw.1 hw.2.1.2.1.1 hw.2.1.2.1.2 hw.2.1.2.2.1) (by kernel_rfl)
def i_IsSystem_1_orc : List D → Orc := orcN [some .ints, none] fun ds => match ds with
  | [.sl (.ints xs), .bx [.int .i64 Size, .sl (.rows Sets), .sl (.ints Costs)] 0] => some (.one (.d (.bool (!(rising xs 0 (Size - 1))))))
  | _ => none
abbrev slices_IndexFunc_int_int_iS_JJ0 (xs : List (List Int)) (Size : Int) (Sets : List (List Int)) (Costs : List Int) (i : Int) : Prop := (0 ≤ i) ∧ (i ≤ (xs.length : Int)) ∧ (∀ k, k < i.toNat → (fun x => !(rising x 0 (Size - 1))) (xs.getD k []) = false)
abbrev slices_IndexFunc_int_int_iS_mJ0 (xs : List (List Int)) (Size : Int) (Sets : List (List Int)) (Costs : List Int) (i : Int) : Nat := (xs.length - i).toNat
def slices_IndexFunc_int_int_iS_C (f : FuncId) (ds : List D) : Orc := bif Nat.beq f 170 then i_IsSystem_1_orc ds else .no
def slices_IndexFunc_int_int_iS_A (xs : List (List Int)) (Size : Int) (Sets : List (List Int)) (Costs : List Int) : Ann := .two (.none) (.two (.two (.none) (.loop (cut1 (fun (i : Int) => slices_IndexFunc_int_int_iS_JJ0 xs Size Sets Costs i) (fun (i : Int) => [(0, .d false (.sl (.rows xs))), (1, .d false (.fn 170 0 [.bx [.int .i64 Size, .sl (.rows Sets), .sl (.ints Costs)] 0])), (7, .d true (.int .i64 (xs.length : Int))), (8, .d true (.int .i64 i))]) (fun (i : Int) => [])) (fun g => slices_IndexFunc_int_int_iS_mJ0 xs Size Sets Costs g) (fun _ => .none))) (.none))
def slices_IndexFunc_int_int_iS_P (xs : List (List Int)) (Size : Int) (Sets : List (List Int)) (Costs : List Int) : Prop :=
  ((∃ i' : Int, (slices_IndexFunc_int_int_iS_JJ0 xs Size Sets Costs i') ∧ (xs = xs) ∧ ((.fn 170 0 [.bx [.int .i64 Size, .sl (.rows Sets), .sl (.ints Costs)] 0] : D) = (.fn 170 0 [.bx [.int .i64 Size, .sl (.rows Sets), .sl (.ints Costs)] 0] : D)) ∧ ((xs.length : Int) = (xs.length : Int)) ∧ ((0 : Int) = i')) ∧ (∀ i : Int, (slices_IndexFunc_int_int_iS_JJ0 xs Size Sets Costs i) → (((decide (i < (xs.length : Int))) = true → ((0 : Int) ≤ i) ∧ ((i : Int) < xs.length) ∧ (i.toNat < xs.length) ∧ (PC Try.prog 170 [.sl (.ints (xs.getD i.toNat [])), .bx [.int .i64 Size, .sl (.rows Sets), .sl (.ints Costs)] 0] (.one (.d (.bool (!(rising (xs.getD i.toNat []) 0 (Size - 1))))))) ∧ (((!(rising (xs.getD i.toNat []) 0 (Size - 1))) = true → ((i = (idxI (fun x => !(rising x 0 (Size - 1))) xs)))) ∧ ((!(rising (xs.getD i.toNat []) 0 (Size - 1))) = false → (-9223372036854775808 ≤ (i + 1) ∧ (i + 1) ≤ 9223372036854775807) ∧ (∃ i' : Int, (slices_IndexFunc_int_int_iS_JJ0 xs Size Sets Costs i') ∧ (slices_IndexFunc_int_int_iS_mJ0 xs Size Sets Costs i' < slices_IndexFunc_int_int_iS_mJ0 xs Size Sets Costs i) ∧ (xs = xs) ∧ ((.fn 170 0 [.bx [.int .i64 Size, .sl (.rows Sets), .sl (.ints Costs)] 0] : D) = (.fn 170 0 [.bx [.int .i64 Size, .sl (.rows Sets), .sl (.ints Costs)] 0] : D)) ∧ ((xs.length : Int) = (xs.length : Int)) ∧ ((i + 1) = i'))))) ∧ ((decide (i < (xs.length : Int))) = false → ((((-1) : Int) = (idxI (fun x => !(rising x 0 (Size - 1))) xs)))))))
theorem slices_IndexFunc_int_int_iS_vc (xs : List (List Int)) (Size : Int) (Sets : List (List Int)) (Costs : List Int) (hb : -9223372036854775808 < Size ∧ Size ≤ 9223372036854775807) (w_xs : (xs.length : Int) ≤ 9223372036854775807) (v_xs : ∀ x9 ∈ xs, (x9.length : Int) ≤ 9223372036854775807) (w_Sets : (Sets.length : Int) ≤ 9223372036854775807) (v_Sets : ∀ x9 ∈ Sets, (x9.length : Int) ≤ 9223372036854775807) (w_Costs : (Costs.length : Int) ≤ 9223372036854775807) : slices_IndexFunc_int_int_iS_P xs Size Sets Costs := by
  unfold slices_IndexFunc_int_int_iS_P
  refine ⟨?_, ?_⟩
  · refine ⟨0, ?_⟩
    refine ⟨?_, rfl, rfl, rfl, rfl⟩
    · refine ⟨?_, ?_, ?_⟩
      · omega
      · omega
      · omega
  · intro i hJ
    obtain ⟨h1, h2, h3⟩ := hJ
    refine ⟨?_, ?_⟩
    · intro b1
      try simp only [nrmT] at b1
      refine ⟨?_, ?_, ?_, ?_, ?_, ?_⟩
      · omega
      · omega
      · omega
      · refine i_IsSystem_1_pc (xs.getD i.toNat []) Size Sets Costs ?_
        · omega
      · intro b2
        try simp only [nrmT] at b2
        exact idx_found (p := fun x => !(rising x 0 (Size - 1))) h1 b1 h3 (by simpa using b2)
      · intro b3
        try simp only [nrmT] at b3
        refine ⟨?_, ?_⟩
        · omega
        · refine ⟨(i + 1), ?_⟩
          refine ⟨?_, ?_, rfl, rfl, rfl, rfl⟩
          · refine ⟨?_, ?_, ?_⟩
            · omega
            · omega
            · exact idx_step (p := fun x => !(rising x 0 (Size - 1))) h1 h3 (by simpa using b3)
          · first | (show _ < _; omega) | (simp only [slices_IndexFunc_int_int_iS_mJ0]; omega) | (simp only [slices_IndexFunc_int_int_iS_mJ0] at *; simp at *; omega)
    · intro b4
      try simp only [nrmT] at b4
      exact (idx_none (by omega) h3).symm
theorem slices_IndexFunc_int_int_iS_pc (xs : List (List Int)) (Size : Int) (Sets : List (List Int)) (Costs : List Int) (hb : -9223372036854775808 < Size ∧ Size ≤ 9223372036854775807) : PC Try.prog 224 [.sl (.rows xs), .fn 170 0 [.bx [.int .i64 Size, .sl (.rows Sets), .sl (.ints Costs)] 0]] (.one (.d (.int .i64 (idxI (fun x => !(rising x 0 (Size - 1))) xs)))) :=
  pc_wf @Try.call224 fun hw => pc_by (by kernel_rfl) Try.func224 @Try.call224 (by kernel_rfl) slices_IndexFunc_int_int_iS_C (slices_IndexFunc_int_int_iS_A xs Size Sets Costs) (by kernel_rfl) (slices_IndexFunc_int_int_iS_vc xs Size Sets Costs hb hw.1.1 hw.1.2 hw.2.1.1.2.1.1 hw.2.1.1.2.1.2 hw.2.1.1.2.2.1) (by kernel_rfl)
def slices_IndexFunc_int_int_iS_orc : List D → Orc := orcN [some .rows, none] fun ds => match ds with
  | [.sl (.rows xs), .fn f0 0 [.bx [.int .i64 Size, .sl (.rows Sets), .sl (.ints Costs)] 0]] => bif Nat.beq f0 170 then some (.one (.d (.int .i64 (idxI (fun x => !(rising x 0 (Size - 1))) xs)))) else none
  | _ => none
def slices_ContainsFunc_int_int_iS_C (f : FuncId) (ds : List D) : Orc := bif Nat.beq f 224 then slices_IndexFunc_int_int_iS_orc ds else .no
def slices_ContainsFunc_int_int_iS_A (xs : List (List Int)) (Size : Int) (Sets : List (List Int)) (Costs : List Int) : Ann := .none
def slices_ContainsFunc_int_int_iS_P (xs : List (List Int)) (Size : Int) (Sets : List (List Int)) (Costs : List Int) : Prop :=
  (PC Try.prog 224 [.sl (.rows xs), .fn 170 0 [.bx [.int .i64 Size, .sl (.rows Sets), .sl (.ints Costs)] 0]] (.one (.d (.int .i64 (idxI (fun x => !(rising x 0 (Size - 1))) xs))))) ∧ (((decide ((idxI (fun x => !(rising x 0 (Size - 1))) xs) ≥ 0)) = (xs.any (fun x => !(rising x 0 (Size - 1))))))
theorem slices_ContainsFunc_int_int_iS_vc (xs : List (List Int)) (Size : Int) (Sets : List (List Int)) (Costs : List Int) (hb : -9223372036854775808 < Size ∧ Size ≤ 9223372036854775807) (w_xs : (xs.length : Int) ≤ 9223372036854775807) (v_xs : ∀ x9 ∈ xs, (x9.length : Int) ≤ 9223372036854775807) (w_Sets : (Sets.length : Int) ≤ 9223372036854775807) (v_Sets : ∀ x9 ∈ Sets, (x9.length : Int) ≤ 9223372036854775807) (w_Costs : (Costs.length : Int) ≤ 9223372036854775807) : slices_ContainsFunc_int_int_iS_P xs Size Sets Costs := by
  unfold slices_ContainsFunc_int_int_iS_P
  refine ⟨?_, ?_⟩
  · refine slices_IndexFunc_int_int_iS_pc xs Size Sets Costs ?_
    · omega
  · exact idx_any _ _
theorem slices_ContainsFunc_int_int_iS_pc (xs : List (List Int)) (Size : Int) (Sets : List (List Int)) (Costs : List Int) (hb : -9223372036854775808 < Size ∧ Size ≤ 9223372036854775807) : PC Try.prog 169 [.sl (.rows xs), .fn 170 0 [.bx [.int .i64 Size, .sl (.rows Sets), .sl (.ints Costs)] 0]] (.one (.d (.bool (xs.any (fun x => !(rising x 0 (Size - 1))))))) :=
  pc_wf @Try.call169 fun hw => pc_by (by kernel_rfl) Try.func169 @Try.call169 (by kernel_rfl) slices_ContainsFunc_int_int_iS_C (slices_ContainsFunc_int_int_iS_A xs Size Sets Costs) (by kernel_rfl) (slices_ContainsFunc_int_int_iS_vc xs Size Sets Costs hb hw.1.1 hw.1.2 hw.2.1.1.2.1.1 hw.2.1.1.2.1.2 hw.2.1.1.2.2.1) (by kernel_rfl)
def slices_ContainsFunc_int_int_iS_orc : List D → Orc := orcN [some .rows, none] fun ds => match ds with
  | [.sl (.rows xs), .fn f0 0 [.bx [.int .i64 Size, .sl (.rows Sets), .sl (.ints Costs)] 0]] => bif Nat.beq f0 170 then some (.one (.d (.bool (xs.any (fun x => !(rising x 0 (Size - 1))))))) else none
  | _ => none
def i_IsSystem_C (f : FuncId) (ds : List D) : Orc := bif Nat.beq f 120 then i_between_orc ds else bif Nat.beq f 131 then i_areBetween_orc ds else bif Nat.beq f 169 then slices_ContainsFunc_int_int_iS_orc ds else .no
def i_IsSystem_A (Size : Int) (Sets : List (List Int)) (Costs : List Int) : Ann := .none
def i_IsSystem_P (Size : Int) (Sets : List (List Int)) (Costs : List Int) : Prop :=
  (PC Try.prog 120 [.int .i64 Size, .int .i64 0, .int .i64 8] (.one (.d (.bool (inB Size 0 8))))) ∧ ((inB Size 0 8) = true → (inB Size 0 8) = true) ∧ ((inB Size 0 8) = true → (inB Size 0 8) = true) ∧ ((inB Size 0 8) = true → (inB Size 0 8) = true) ∧ (true = true) ∧ (((inB Size 0 8) = true → (inB Size 0 8) = true)) ∧ (((inB Size 0 8) = false → true = true)) ∧ ((cond (inB Size 0 8) (decide ((Sets.length : Int) ≤ 8)) false) = true → (cond (inB Size 0 8) (decide ((Sets.length : Int) ≤ 8)) false) = true) ∧ ((cond (inB Size 0 8) (decide ((Sets.length : Int) ≤ 8)) false) = true → (cond (inB Size 0 8) (decide ((Sets.length : Int) ≤ 8)) false) = true) ∧ ((cond (inB Size 0 8) (decide ((Sets.length : Int) ≤ 8)) false) = true → (cond (inB Size 0 8) (decide ((Sets.length : Int) ≤ 8)) false) = true) ∧ ((cond (inB Size 0 8) (decide ((Sets.length : Int) ≤ 8)) false) = true → (cond (inB Size 0 8) (decide ((Sets.length : Int) ≤ 8)) false) = true) ∧ ((cond (inB Size 0 8) (decide ((Sets.length : Int) ≤ 8)) false) = true → (cond (inB Size 0 8) (decide ((Sets.length : Int) ≤ 8)) false) = true) ∧ ((cond (inB Size 0 8) (decide ((Sets.length : Int) ≤ 8)) false) = true → (cond (inB Size 0 8) (decide ((Sets.length : Int) ≤ 8)) false) = true) ∧ (true = true) ∧ (((cond (inB Size 0 8) (decide ((Sets.length : Int) ≤ 8)) false) = true → (cond (inB Size 0 8) (decide ((Sets.length : Int) ≤ 8)) false) = true)) ∧ (((cond (inB Size 0 8) (decide ((Sets.length : Int) ≤ 8)) false) = false → true = true)) ∧ ((cond (cond (inB Size 0 8) (decide ((Sets.length : Int) ≤ 8)) false) ((Costs.length : Int) == (Sets.length : Int)) false) = true → (cond (cond (inB Size 0 8) (decide ((Sets.length : Int) ≤ 8)) false) ((Costs.length : Int) == (Sets.length : Int)) false) = true) ∧ ((cond (cond (inB Size 0 8) (decide ((Sets.length : Int) ≤ 8)) false) ((Costs.length : Int) == (Sets.length : Int)) false) = true → (cond (cond (inB Size 0 8) (decide ((Sets.length : Int) ≤ 8)) false) ((Costs.length : Int) == (Sets.length : Int)) false) = true) ∧ ((cond (cond (inB Size 0 8) (decide ((Sets.length : Int) ≤ 8)) false) ((Costs.length : Int) == (Sets.length : Int)) false) = true → PC Try.prog 131 [.sl (.ints Costs), .int .i64 1, .int .i64 99] (.one (.d (.bool (Costs.all (fun x => inB x 1 99)))))) ∧ (true = true) ∧ (((cond (cond (inB Size 0 8) (decide ((Sets.length : Int) ≤ 8)) false) ((Costs.length : Int) == (Sets.length : Int)) false) = true → (cond (cond (inB Size 0 8) (decide ((Sets.length : Int) ≤ 8)) false) ((Costs.length : Int) == (Sets.length : Int)) false) = true)) ∧ (((cond (cond (inB Size 0 8) (decide ((Sets.length : Int) ≤ 8)) false) ((Costs.length : Int) == (Sets.length : Int)) false) = false → true = true)) ∧ ((cond (cond (cond (inB Size 0 8) (decide ((Sets.length : Int) ≤ 8)) false) ((Costs.length : Int) == (Sets.length : Int)) false) (Costs.all (fun x => inB x 1 99)) false) = true → (cond (cond (cond (inB Size 0 8) (decide ((Sets.length : Int) ≤ 8)) false) ((Costs.length : Int) == (Sets.length : Int)) false) (Costs.all (fun x => inB x 1 99)) false) = true) ∧ ((cond (cond (cond (inB Size 0 8) (decide ((Sets.length : Int) ≤ 8)) false) ((Costs.length : Int) == (Sets.length : Int)) false) (Costs.all (fun x => inB x 1 99)) false) = true → (cond (cond (cond (inB Size 0 8) (decide ((Sets.length : Int) ≤ 8)) false) ((Costs.length : Int) == (Sets.length : Int)) false) (Costs.all (fun x => inB x 1 99)) false) = true) ∧ ((cond (cond (cond (inB Size 0 8) (decide ((Sets.length : Int) ≤ 8)) false) ((Costs.length : Int) == (Sets.length : Int)) false) (Costs.all (fun x => inB x 1 99)) false) = true → (cond (cond (cond (inB Size 0 8) (decide ((Sets.length : Int) ≤ 8)) false) ((Costs.length : Int) == (Sets.length : Int)) false) (Costs.all (fun x => inB x 1 99)) false) = true) ∧ ((cond (cond (cond (inB Size 0 8) (decide ((Sets.length : Int) ≤ 8)) false) ((Costs.length : Int) == (Sets.length : Int)) false) (Costs.all (fun x => inB x 1 99)) false) = true → PC Try.prog 169 [.sl (.rows Sets), .fn 170 0 [.bx [.int .i64 Size, .sl (.rows Sets), .sl (.ints Costs)] 0]] (.one (.d (.bool (Sets.any (fun x => !(rising x 0 (Size - 1)))))))) ∧ ((cond (cond (cond (inB Size 0 8) (decide ((Sets.length : Int) ≤ 8)) false) ((Costs.length : Int) == (Sets.length : Int)) false) (Costs.all (fun x => inB x 1 99)) false) = true → (cond (cond (cond (inB Size 0 8) (decide ((Sets.length : Int) ≤ 8)) false) ((Costs.length : Int) == (Sets.length : Int)) false) (Costs.all (fun x => inB x 1 99)) false) = true) ∧ (true = true) ∧ (((cond (cond (cond (inB Size 0 8) (decide ((Sets.length : Int) ≤ 8)) false) ((Costs.length : Int) == (Sets.length : Int)) false) (Costs.all (fun x => inB x 1 99)) false) = true → (cond (cond (cond (inB Size 0 8) (decide ((Sets.length : Int) ≤ 8)) false) ((Costs.length : Int) == (Sets.length : Int)) false) (Costs.all (fun x => inB x 1 99)) false) = true)) ∧ (((cond (cond (cond (inB Size 0 8) (decide ((Sets.length : Int) ≤ 8)) false) ((Costs.length : Int) == (Sets.length : Int)) false) (Costs.all (fun x => inB x 1 99)) false) = false → true = true)) ∧ (((cond (cond (cond (cond (inB Size 0 8) (decide ((Sets.length : Int) ≤ 8)) false) ((Costs.length : Int) == (Sets.length : Int)) false) (Costs.all (fun x => inB x 1 99)) false) (!(Sets.any (fun x => !(rising x 0 (Size - 1))))) false) = (goodSys Size Sets Costs)))
theorem i_IsSystem_vc (Size : Int) (Sets : List (List Int)) (Costs : List Int)  (w_Sets : (Sets.length : Int) ≤ 9223372036854775807) (v_Sets : ∀ x9 ∈ Sets, (x9.length : Int) ≤ 9223372036854775807) (w_Costs : (Costs.length : Int) ≤ 9223372036854775807) : i_IsSystem_P Size Sets Costs := by
  unfold i_IsSystem_P
  refine ⟨i_between_pc Size 0 8, id, id, id, rfl, id, fun _ => rfl, id, id, id, id, id, id, rfl, id, fun _ => rfl, id, id, fun _ => i_areBetween_pc Costs 1 99, rfl, id, fun _ => rfl, id, id, id, ?_, id, rfl, id, fun _ => rfl, ?_⟩
  · intro hg
    refine slices_ContainsFunc_int_int_iS_pc Sets Size Sets Costs ?_
    · simp only [inB] at hg; simp at hg; omega
  · unfold goodSys
    rw [any_not, len_beq, show decide ((Sets.length : Int) ≤ 8) = decide (Sets.length ≤ 8) from len_le _ 8]
    cases inB Size 0 8 <;> cases decide (Sets.length ≤ 8) <;> cases Sets.all (fun xs => rising xs 0 (Size - 1)) <;> cases decide (Costs.length = Sets.length) <;> cases Costs.all (fun x => inB x 1 99) <;> rfl
theorem i_IsSystem_pc (Size : Int) (Sets : List (List Int)) (Costs : List Int)  : PC Try.prog 76 [.agg [.int .i64 Size, .sl (.rows Sets), .sl (.ints Costs)]] (.one (.d (.bool (goodSys Size Sets Costs)))) :=
  pc_wf @Try.call76 fun hw => pc_by (by kernel_rfl) Try.func76 @Try.call76 (by kernel_rfl) i_IsSystem_C (i_IsSystem_A Size Sets Costs) (by kernel_rfl) (i_IsSystem_vc Size Sets Costs hw.1.2.1.1 hw.1.2.1.2 hw.1.2.2.1) (by kernel_rfl)
def i_IsSystem_orc : List D → Orc := orcN [none] fun ds => match ds with
  | [.agg [.int .i64 Size, .sl (.rows Sets), .sl (.ints Costs)]] => some (.one (.d (.bool (goodSys Size Sets Costs))))
  | _ => none
theorem beq_of_all {α : Type} [BEq α] [LawfulBEq α] {d : α} {xs ys : List α} (hl : xs.length = ys.length) : allTo (fun k => xs.getD k d == ys.getD k d) xs.length = (xs == ys) := by
  rw [Bool.eq_iff_iff, allTo_iff]
  simp only [beq_iff_eq]
  constructor
  · intro h
    refine List.ext_getElem hl fun k h1 h2 => ?_
    have := h k h1
    simpa [h1, h2] using this
  · intro h k _
    rw [h]
theorem len_ne {α : Type} [BEq α] [LawfulBEq α] {xs ys : List α} (h : ¬ xs.length = ys.length) : (xs == ys) = false := by
  rw [Bool.eq_false_iff]; intro h2; simp only [beq_iff_eq] at h2; exact h (by rw [h2])
def s_l1Least_C (f : FuncId) (ds : List D) : Orc := .no
def s_l1Least_A (a : Int) (b : Int) : Ann := .none
def s_l1Least_P (a : Int) (b : Int) : Prop :=
  (((decide (a < b)) = true → ((a = (min a b)))) ∧ ((decide (a < b)) = false → ((b = (min a b)))))
theorem s_l1Least_vc (a : Int) (b : Int)   : s_l1Least_P a b := by
  unfold s_l1Least_P
  refine ⟨?_, ?_⟩
  · intro b1
    try simp only [nrmT] at b1
    omega
  · intro b2
    try simp only [nrmT] at b2
    omega
theorem s_l1Least_pc (a : Int) (b : Int)  : PC Try.prog 165 [.int .i64 a, .int .i64 b] (.one (.d (.int .i64 (min a b)))) :=
  pc_wf @Try.call165 fun _ => pc_by (by kernel_rfl) Try.func165 @Try.call165 (by kernel_rfl) s_l1Least_C (s_l1Least_A a b) (by kernel_rfl) (s_l1Least_vc a b) (by kernel_rfl)
def s_l1Least_orc : List D → Orc := orcN [none, none] fun ds => match ds with
  | [.int .i64 a, .int .i64 b] => some (.one (.d (.int .i64 (min a b))))
  | _ => none
def sumTo (f : Nat → Int) (n : Nat) : Int := foldTo (fun s k => s + f k) 0 n
theorem sumTo_step {f : Nat → Int} {i : Int} (h : 0 ≤ i) : sumTo f (i + 1).toNat = sumTo f i.toNat + f i.toNat := foldTo_step h
theorem sumTo_bound {f : Nat → Int} {m : Int} (n : Nat) (h : ∀ k, k < n → 0 ≤ f k ∧ f k ≤ m) : 0 ≤ sumTo f n ∧ sumTo f n ≤ m * n := by
  induction n with
  | zero => simp [sumTo, foldTo]
  | succ n ih =>
    have h1 := ih fun k hk => h k (Nat.lt_succ_of_lt hk)
    have h2 := h n (Nat.lt_succ_self n)
    have e : sumTo f (n + 1) = sumTo f n + f n := rfl
    rw [e]
    have e2 : m * ((n + 1 : Nat) : Int) = m * (n : Int) + m := by rw [Int.natCast_succ, Int.mul_add, Int.mul_one]
    rw [e2]
    omega
theorem rising_at {xs : List Int} {lo hi : Int} (h : rising xs lo hi = true) : ∀ k, k < xs.length → lo + k ≤ xs.getD k 0 ∧ xs.getD k 0 ≤ hi := by
  intro k
  induction k with
  | zero =>
    intro hk
    have h1 := allTo_iff.1 h 0 hk
    simp only [risingP, Bool.and_eq_true] at h1
    have := inB_le h1.1
    omega
  | succ k ih =>
    intro hk
    have h0 := ih (by omega)
    have h1 := allTo_iff.1 h (k + 1) hk
    simp only [risingP, Bool.and_eq_true, Bool.or_eq_true, decide_eq_true_eq, Nat.add_sub_cancel] at h1
    have := inB_le h1.1
    have h2 := h1.2
    omega
theorem rising_len {xs : List Int} {lo hi : Int} (h : rising xs lo hi = true) (hlo : lo ≤ hi + 1) : (xs.length : Int) ≤ hi - lo + 1 := by
  by_cases h0 : xs.length = 0
  · omega
  · have := rising_at h (xs.length - 1) (by omega)
    omega
theorem gs_facts {size : Int} {sets : List (List Int)} {costs : List Int} (h : goodSys size sets costs = true) : 0 ≤ size ∧ size ≤ 8 ∧ sets.length ≤ 8 ∧ costs.length = sets.length := by
  simp only [goodSys, Bool.and_eq_true, decide_eq_true_eq] at h
  have := inB_le h.1.1.1.1
  omega
theorem gs_cost {size : Int} {sets : List (List Int)} {costs : List Int} (h : goodSys size sets costs = true) {k : Nat} (hk : k < costs.length) : 1 ≤ costs.getD k 0 ∧ costs.getD k 0 ≤ 99 := by
  simp only [goodSys, Bool.and_eq_true, decide_eq_true_eq] at h
  exact inB_le (List.all_eq_true.1 h.1.2 _ (getD_mem hk))
theorem gs_set {size : Int} {sets : List (List Int)} {costs : List Int} (h : goodSys size sets costs = true) {k : Nat} (hk : k < sets.length) : rising (sets.getD k []) 0 (size - 1) = true := by
  simp only [goodSys, Bool.and_eq_true, decide_eq_true_eq] at h
  exact List.all_eq_true.1 h.2 _ (getD_mem hk)
def costAt (Costs choice : List Int) (k : Nat) : Int := Costs.getD (choice.getD k 0).toNat 0
def costOf (Costs choice : List Int) : Int := sumTo (costAt Costs choice) choice.length
theorem costAt_bound {size : Int} {sets : List (List Int)} {costs choice : List Int} (h : goodSys size sets costs = true) (hc : rising choice 0 ((sets.length : Int) - 1) = true) {k : Nat} (hk : k < choice.length) :
    0 ≤ costAt costs choice k ∧ costAt costs choice k ≤ 99 := by
  have h1 := rising_at hc k hk
  have h2 := gs_facts h
  have := gs_cost h (k := (choice.getD k 0).toNat) (by omega)
  unfold costAt
  omega
abbrev s_l6Cost_JJ0 (Size : Int) (Sets : List (List Int)) (Costs : List Int) (choice : List Int) (out : Int) (i : Int) : Prop := (0 ≤ i) ∧ (i ≤ (choice.length : Int)) ∧ (out = sumTo (costAt Costs choice) i.toNat)
abbrev s_l6Cost_mJ0 (Size : Int) (Sets : List (List Int)) (Costs : List Int) (choice : List Int) (out : Int) (i : Int) : Nat := (choice.length - i).toNat
def s_l6Cost_C (f : FuncId) (ds : List D) : Orc := .no
def s_l6Cost_A (Size : Int) (Sets : List (List Int)) (Costs : List Int) (choice : List Int) : Ann := .two (.none) (.two (.none) (.two (.two (.none) (.loop (cut2 (fun (out : Int) (i : Int) => s_l6Cost_JJ0 Size Sets Costs choice out i) (fun (out : Int) (i : Int) => [(1, .d false (.sl (.ints choice))), (2, .ptr 2 0), (5, .d true (.int .i64 out)), (6, .d true (.int .i64 i))]) (fun (out : Int) (i : Int) => [(2, .box 36 [.d false (.int .i64 Size), .d false (.sl (.rows Sets)), .d false (.sl (.ints Costs))])])) (fun g => s_l6Cost_mJ0 Size Sets Costs choice g.1 g.2) (fun _ => .none))) (.none)))
def s_l6Cost_P (Size : Int) (Sets : List (List Int)) (Costs : List Int) (choice : List Int) : Prop :=
  ((∃ out' : Int, ∃ i' : Int, (s_l6Cost_JJ0 Size Sets Costs choice out' i') ∧ (choice = choice) ∧ ((0 : Int) = out') ∧ ((0 : Int) = i') ∧ (Size = Size) ∧ (Sets = Sets) ∧ (Costs = Costs)) ∧ (∀ out : Int, ∀ i : Int, (s_l6Cost_JJ0 Size Sets Costs choice out i) → (((decide (i < (choice.length : Int))) = true → (true = true) ∧ ((0 : Int) ≤ i) ∧ ((i : Int) < choice.length) ∧ (i.toNat < choice.length) ∧ ((0 : Int) ≤ (choice.getD i.toNat 0)) ∧ (((choice.getD i.toNat 0) : Int) < Costs.length) ∧ ((choice.getD i.toNat 0).toNat < Costs.length) ∧ (-9223372036854775808 ≤ (out + (Costs.getD ((choice.getD i.toNat 0).toNat) 0)) ∧ (out + (Costs.getD ((choice.getD i.toNat 0).toNat) 0)) ≤ 9223372036854775807) ∧ (-9223372036854775808 ≤ (i + 1) ∧ (i + 1) ≤ 9223372036854775807) ∧ (∃ out' : Int, ∃ i' : Int, (s_l6Cost_JJ0 Size Sets Costs choice out' i') ∧ (s_l6Cost_mJ0 Size Sets Costs choice out' i' < s_l6Cost_mJ0 Size Sets Costs choice out i) ∧ (choice = choice) ∧ ((out + (Costs.getD ((choice.getD i.toNat 0).toNat) 0)) = out') ∧ ((i + 1) = i') ∧ (Size = Size) ∧ (Sets = Sets) ∧ (Costs = Costs))) ∧ ((decide (i < (choice.length : Int))) = false → ((out = (costOf Costs choice)))))))
theorem s_l6Cost_vc (Size : Int) (Sets : List (List Int)) (Costs : List Int) (choice : List Int) (hg : goodSys Size Sets Costs = true) (hc : rising choice 0 ((Sets.length : Int) - 1) = true) (w_Sets : (Sets.length : Int) ≤ 9223372036854775807) (v_Sets : ∀ x9 ∈ Sets, (x9.length : Int) ≤ 9223372036854775807) (w_Costs : (Costs.length : Int) ≤ 9223372036854775807) (w_choice : (choice.length : Int) ≤ 9223372036854775807) : s_l6Cost_P Size Sets Costs choice := by
  unfold s_l6Cost_P
  have gf := gs_facts hg
  have cl := rising_len hc (by omega)
  have ca := fun k => rising_at hc k
  have cb := fun k (hk : k < choice.length) => costAt_bound hg hc hk
  refine ⟨?_, ?_⟩
  · refine ⟨0, 0, ?_⟩
    refine ⟨?_, rfl, rfl, rfl, rfl, rfl, rfl⟩
    · refine ⟨?_, ?_, ?_⟩
      · omega
      · omega
      · first | omega | rfl | (intro hg; simp only [nrmT] at hg; omega) | (intro g1 g2; simp [g1, g2]; done) | (intro g1; simp at g1 ⊢; simp [g1]; done) | (simp only [nrmT] at *; omega) | (simp at * <;> omega) | (simp_all <;> omega) | (simp_all; done)
  · intro out i hJ
    obtain ⟨h1, h2, h3⟩ := hJ
    refine ⟨?_, ?_⟩
    · intro b1
      try simp only [nrmT] at b1
      refine ⟨rfl, ?_, ?_, ?_, ?_, ?_, ?_, ?_, ?_, ?_⟩
      · omega
      · omega
      · omega
      · have := ca i.toNat (by omega)
        omega
      · have := ca i.toNat (by omega)
        omega
      · have := ca i.toNat (by omega)
        omega
      · have h6 := sumTo_bound i.toNat (fun k hk => cb k (by omega))
        have h7 := cb i.toNat (by omega)
        unfold costAt at h7
        omega
      · omega
      · refine ⟨(out + (Costs.getD ((choice.getD i.toNat 0).toNat) 0)), (i + 1), ?_⟩
        refine ⟨?_, ?_, rfl, rfl, rfl, rfl, rfl, rfl⟩
        · refine ⟨?_, ?_, ?_⟩
          · omega
          · omega
          · rw [sumTo_step h1, h3]; rfl
        · first | (show _ < _; omega) | (simp only [s_l6Cost_mJ0]; omega) | (simp only [s_l6Cost_mJ0] at *; simp at *; omega)
    · intro b2
      try simp only [nrmT] at b2
      unfold costOf
      rw [h3]
      congr 1
      omega
theorem s_l6Cost_pc (Size : Int) (Sets : List (List Int)) (Costs : List Int) (choice : List Int) (hg : goodSys Size Sets Costs = true) (hc : rising choice 0 ((Sets.length : Int) - 1) = true) : PC Try.prog 190 [.agg [.int .i64 Size, .sl (.rows Sets), .sl (.ints Costs)], .sl (.ints choice)] (.one (.d (.int .i64 (costOf Costs choice)))) :=
  pc_wf @Try.call190 fun hw => pc_by (by kernel_rfl) Try.func190 @Try.call190 (by kernel_rfl) s_l6Cost_C (s_l6Cost_A Size Sets Costs choice) (by kernel_rfl) (s_l6Cost_vc Size Sets Costs choice hg hc hw.1.2.1.1 hw.1.2.1.2 hw.1.2.2.1 hw.2.1) (by kernel_rfl)
def s_l6Cost_orc : List D → Orc := orcN [none, some .ints] fun ds => match ds with
  | [.agg [.int .i64 Size, .sl (.rows Sets), .sl (.ints Costs)], .sl (.ints choice)] => some (.one (.d (.int .i64 (costOf Costs choice))))
  | _ => none
abbrev i_System_cost_JJ0 (Size : Int) (Sets : List (List Int)) (Costs : List Int) (choice : List Int) (out : Int) (i : Int) : Prop := (0 ≤ i) ∧ (i ≤ (choice.length : Int)) ∧ (out = sumTo (costAt Costs choice) i.toNat)
abbrev i_System_cost_mJ0 (Size : Int) (Sets : List (List Int)) (Costs : List Int) (choice : List Int) (out : Int) (i : Int) : Nat := (choice.length - i).toNat
def i_System_cost_C (f : FuncId) (ds : List D) : Orc := .no
def i_System_cost_A (Size : Int) (Sets : List (List Int)) (Costs : List Int) (choice : List Int) : Ann := .two (.none) (.two (.none) (.two (.two (.none) (.loop (cut2 (fun (out : Int) (i : Int) => i_System_cost_JJ0 Size Sets Costs choice out i) (fun (out : Int) (i : Int) => [(2, .ptr 2 0), (5, .d true (.int .i64 out)), (8, .d false (.sl (.ints choice))), (9, .d true (.int .i64 (choice.length : Int))), (10, .d true (.int .i64 i))]) (fun (out : Int) (i : Int) => [(2, .box 36 [.d false (.int .i64 Size), .d false (.sl (.rows Sets)), .d false (.sl (.ints Costs))])])) (fun g => i_System_cost_mJ0 Size Sets Costs choice g.1 g.2) (fun _ => .none))) (.none)))
def i_System_cost_P (Size : Int) (Sets : List (List Int)) (Costs : List Int) (choice : List Int) : Prop :=
  ((∃ out' : Int, ∃ i' : Int, (i_System_cost_JJ0 Size Sets Costs choice out' i') ∧ ((0 : Int) = out') ∧ (choice = choice) ∧ ((choice.length : Int) = (choice.length : Int)) ∧ ((0 : Int) = i') ∧ (Size = Size) ∧ (Sets = Sets) ∧ (Costs = Costs)) ∧ (∀ out : Int, ∀ i : Int, (i_System_cost_JJ0 Size Sets Costs choice out i) → (((decide (i < (choice.length : Int))) = true → ((0 : Int) ≤ i) ∧ ((i : Int) < choice.length) ∧ (i.toNat < choice.length) ∧ ((0 : Int) ≤ (choice.getD i.toNat 0)) ∧ (((choice.getD i.toNat 0) : Int) < Costs.length) ∧ ((choice.getD i.toNat 0).toNat < Costs.length) ∧ (-9223372036854775808 ≤ (out + (Costs.getD ((choice.getD i.toNat 0).toNat) 0)) ∧ (out + (Costs.getD ((choice.getD i.toNat 0).toNat) 0)) ≤ 9223372036854775807) ∧ (-9223372036854775808 ≤ (i + 1) ∧ (i + 1) ≤ 9223372036854775807) ∧ (∃ out' : Int, ∃ i' : Int, (i_System_cost_JJ0 Size Sets Costs choice out' i') ∧ (i_System_cost_mJ0 Size Sets Costs choice out' i' < i_System_cost_mJ0 Size Sets Costs choice out i) ∧ ((out + (Costs.getD ((choice.getD i.toNat 0).toNat) 0)) = out') ∧ (choice = choice) ∧ ((choice.length : Int) = (choice.length : Int)) ∧ ((i + 1) = i') ∧ (Size = Size) ∧ (Sets = Sets) ∧ (Costs = Costs))) ∧ ((decide (i < (choice.length : Int))) = false → ((out = (costOf Costs choice)))))))
theorem i_System_cost_vc (Size : Int) (Sets : List (List Int)) (Costs : List Int) (choice : List Int) (hg : goodSys Size Sets Costs = true) (hc : rising choice 0 ((Sets.length : Int) - 1) = true) (w_Sets : (Sets.length : Int) ≤ 9223372036854775807) (v_Sets : ∀ x9 ∈ Sets, (x9.length : Int) ≤ 9223372036854775807) (w_Costs : (Costs.length : Int) ≤ 9223372036854775807) (w_choice : (choice.length : Int) ≤ 9223372036854775807) : i_System_cost_P Size Sets Costs choice := by
  unfold i_System_cost_P
  have gf := gs_facts hg
  have cl := rising_len hc (by omega)
  have ca := fun k => rising_at hc k
  have cb := fun k (hk : k < choice.length) => costAt_bound hg hc hk
  refine ⟨?_, ?_⟩
  · refine ⟨0, 0, ?_⟩
    refine ⟨?_, rfl, rfl, rfl, rfl, rfl, rfl, rfl⟩
    · refine ⟨?_, ?_, ?_⟩
      · omega
      · omega
      · first | omega | rfl | (intro hg; simp only [nrmT] at hg; omega) | (intro g1 g2; simp [g1, g2]; done) | (intro g1; simp at g1 ⊢; simp [g1]; done) | (simp only [nrmT] at *; omega) | (simp at * <;> omega) | (simp_all <;> omega) | (simp_all; done)
  · intro out i hJ
    obtain ⟨h1, h2, h3⟩ := hJ
    refine ⟨?_, ?_⟩
    · intro b1
      try simp only [nrmT] at b1
      refine ⟨?_, ?_, ?_, ?_, ?_, ?_, ?_, ?_, ?_⟩
      · omega
      · omega
      · omega
      · have := ca i.toNat (by omega)
        omega
      · have := ca i.toNat (by omega)
        omega
      · have := ca i.toNat (by omega)
        omega
      · have h6 := sumTo_bound i.toNat (fun k hk => cb k (by omega))
        have h7 := cb i.toNat (by omega)
        unfold costAt at h7
        omega
      · omega
      · refine ⟨(out + (Costs.getD ((choice.getD i.toNat 0).toNat) 0)), (i + 1), ?_⟩
        refine ⟨?_, ?_, rfl, rfl, rfl, rfl, rfl, rfl, rfl⟩
        · refine ⟨?_, ?_, ?_⟩
          · omega
          · omega
          · rw [sumTo_step h1, h3]; rfl
        · first | (show _ < _; omega) | (simp only [i_System_cost_mJ0]; omega) | (simp only [i_System_cost_mJ0] at *; simp at *; omega)
    · intro b2
      try simp only [nrmT] at b2
      unfold costOf
      rw [h3]
      congr 1
      omega
theorem i_System_cost_pc (Size : Int) (Sets : List (List Int)) (Costs : List Int) (choice : List Int) (hg : goodSys Size Sets Costs = true) (hc : rising choice 0 ((Sets.length : Int) - 1) = true) : PC Try.prog 178 [.agg [.int .i64 Size, .sl (.rows Sets), .sl (.ints Costs)], .sl (.ints choice)] (.one (.d (.int .i64 (costOf Costs choice)))) :=
  pc_wf @Try.call178 fun hw => pc_by (by kernel_rfl) Try.func178 @Try.call178 (by kernel_rfl) i_System_cost_C (i_System_cost_A Size Sets Costs choice) (by kernel_rfl) (i_System_cost_vc Size Sets Costs choice hg hc hw.1.2.1.1 hw.1.2.1.2 hw.1.2.2.1 hw.2.1) (by kernel_rfl)
def i_System_cost_orc : List D → Orc := orcN [none, some .ints] fun ds => match ds with
  | [.agg [.int .i64 Size, .sl (.rows Sets), .sl (.ints Costs)], .sl (.ints choice)] => some (.one (.d (.int .i64 (costOf Costs choice))))
  | _ => none
abbrev i_bagOf_JJ0 (list : List Int) (out : Int) (i : Int) : Prop := (0 ≤ i) ∧ (i ≤ (list.length : Int)) ∧ (out = ((bagTo list i.toNat : Nat) : Int))
abbrev i_bagOf_mJ0 (list : List Int) (out : Int) (i : Int) : Nat := (list.length - i).toNat
def i_bagOf_C (f : FuncId) (ds : List D) : Orc := .no
def i_bagOf_A (list : List Int) : Ann := .two (.none) (.two (.none) (.two (.two (.none) (.loop (cut2 (fun (out : Int) (i : Int) => i_bagOf_JJ0 list out i) (fun (out : Int) (i : Int) => [(3, .d true (.int .u64 out)), (6, .d false (.sl (.ints list))), (7, .d true (.int .i64 (list.length : Int))), (8, .d true (.int .i64 i))]) (fun (out : Int) (i : Int) => [])) (fun g => i_bagOf_mJ0 list g.1 g.2) (fun _ => .none))) (.none)))
def i_bagOf_P (list : List Int) : Prop :=
  ((∃ out' : Int, ∃ i' : Int, (i_bagOf_JJ0 list out' i') ∧ ((0 : Int) = out') ∧ (list = list) ∧ ((list.length : Int) = (list.length : Int)) ∧ ((0 : Int) = i')) ∧ (∀ out : Int, ∀ i : Int, (i_bagOf_JJ0 list out i) → (((decide (i < (list.length : Int))) = true → ((0 : Int) ≤ i) ∧ ((i : Int) < list.length) ∧ (i.toNat < list.length) ∧ ((0 : Int) ≤ 1) ∧ ((0 : Int) ≤ (list.getD i.toNat 0)) ∧ ((0 : Int) ≤ ((1 : Int) * 2 ^ ((list.getD i.toNat 0).toNat)) ∧ (((1 : Int) * 2 ^ ((list.getD i.toNat 0).toNat)) : Int) ≤ 18446744073709551615) ∧ ((0 : Int) ≤ out ∧ (out : Int) ≤ 18446744073709551615) ∧ ((0 : Int) ≤ ((1 : Int) * 2 ^ ((list.getD i.toNat 0).toNat)) ∧ (((1 : Int) * 2 ^ ((list.getD i.toNat 0).toNat)) : Int) ≤ 18446744073709551615) ∧ (-9223372036854775808 ≤ (i + 1) ∧ (i + 1) ≤ 9223372036854775807) ∧ (∃ out' : Int, ∃ i' : Int, (i_bagOf_JJ0 list out' i') ∧ (i_bagOf_mJ0 list out' i' < i_bagOf_mJ0 list out i) ∧ (((out.toNat ||| ((1 : Int) * 2 ^ ((list.getD i.toNat 0).toNat)).toNat : Nat) : Int) = out') ∧ (list = list) ∧ ((list.length : Int) = (list.length : Int)) ∧ ((i + 1) = i'))) ∧ ((decide (i < (list.length : Int))) = false → ((out = ((bagN list : Nat) : Int)))))))
theorem i_bagOf_vc (list : List Int) (hb : ∀ x ∈ list, 0 ≤ x ∧ x < 62) (w_list : (list.length : Int) ≤ 9223372036854775807) : i_bagOf_P list := by
  unfold i_bagOf_P
  have lt := bagTo_lt (m := 62) hb
  have he : (2 : Nat) ^ 62 = 4611686018427387904 := by decide
  refine ⟨?_, ?_⟩
  · refine ⟨0, 0, ?_⟩
    refine ⟨?_, rfl, rfl, rfl, rfl⟩
    · refine ⟨?_, ?_, ?_⟩
      · omega
      · omega
      · first | omega | rfl | (intro hg; simp only [nrmT] at hg; omega) | (intro g1 g2; simp [g1, g2]; done) | (intro g1; simp at g1 ⊢; simp [g1]; done) | (simp only [nrmT] at *; omega) | (simp at * <;> omega) | (simp_all <;> omega) | (simp_all; done)
  · intro out i hJ
    obtain ⟨h1, h2, h3⟩ := hJ
    refine ⟨?_, ?_⟩
    · intro b1
      try simp only [nrmT] at b1
      refine ⟨?_, ?_, ?_, ?_, ?_, ?_, ?_, ?_, ?_, ?_⟩
      · omega
      · omega
      · omega
      · omega
      · have := hb _ (getD_memI (d := 0) h1 (by omega))
        omega
      · have h7 := hb _ (getD_memI (d := 0) h1 (by omega))
        have h8 := pow_le (x := list.getD i.toNat 0) (m := 62) (by omega)
        rw [he] at h8
        omega
      · have := lt i.toNat (by omega)
        omega
      · have h7 := hb _ (getD_memI (d := 0) h1 (by omega))
        have h8 := pow_le (x := list.getD i.toNat 0) (m := 62) (by omega)
        rw [he] at h8
        omega
      · omega
      · refine ⟨((out.toNat ||| ((1 : Int) * 2 ^ ((list.getD i.toNat 0).toNat)).toNat : Nat) : Int), (i + 1), ?_⟩
        refine ⟨?_, ?_, rfl, rfl, rfl, rfl⟩
        · refine ⟨?_, ?_, ?_⟩
          · omega
          · omega
          · have e : (i + 1).toNat = i.toNat + 1 := by omega
            rw [one_pow, h3, Int.toNat_natCast, e]
            rfl
        · first | (show _ < _; omega) | (simp only [i_bagOf_mJ0]; omega) | (simp only [i_bagOf_mJ0] at *; simp at *; omega)
    · intro b2
      try simp only [nrmT] at b2
      rw [h3]
      unfold bagN
      rw [show i.toNat = list.length by omega]
theorem i_bagOf_pc (list : List Int) (hb : ∀ x ∈ list, 0 ≤ x ∧ x < 62) : PC Try.prog 194 [.sl (.ints list)] (.one (.d (.int .u64 ((bagN list : Nat) : Int)))) :=
  pc_wf @Try.call194 fun hw => pc_by (by kernel_rfl) Try.func194 @Try.call194 (by kernel_rfl) i_bagOf_C (i_bagOf_A list) (by kernel_rfl) (i_bagOf_vc list hb hw.1) (by kernel_rfl)
def i_bagOf_orc : List D → Orc := orcN [some .ints] fun ds => match ds with
  | [.sl (.ints list)] => some (.one (.d (.int .u64 ((bagN list : Nat) : Int))))
  | _ => none
def i_bag_has_C (f : FuncId) (ds : List D) : Orc := .no
def i_bag_has_A (b : Int) (x : Int) : Ann := .none
def i_bag_has_P (b : Int) (x : Int) : Prop :=
  ((0 : Int) ≤ b ∧ (b : Int) ≤ 18446744073709551615) ∧ ((0 : Int) ≤ x) ∧ ((0 : Int) ≤ (b / 2 ^ x.toNat) ∧ ((b / 2 ^ x.toNat) : Int) ≤ 18446744073709551615) ∧ ((0 : Int) ≤ 1 ∧ (1 : Int) ≤ 18446744073709551615) ∧ ((((((b / 2 ^ x.toNat).toNat &&& 1 : Nat) : Int) == 1) = (b.toNat.testBit x.toNat)))
theorem i_bag_has_vc (b : Int) (x : Int) (hb : 0 ≤ b ∧ b ≤ 4611686018427387903) (hx : 0 ≤ x)  : i_bag_has_P b x := by
  unfold i_bag_has_P
  refine ⟨?_, ?_, ?_, ?_, ?_⟩
  · omega
  · omega
  · have h1 : 0 ≤ b / 2 ^ x.toNat := Int.ediv_nonneg hb.1 (Int.le_of_lt (Int.pow_pos (by omega)))
    have h2 : b / 2 ^ x.toNat ≤ b := Int.ediv_le_self _ hb.1
    omega
  · omega
  · have e : b = ((b.toNat : Nat) : Int) := by omega
    have h := shr_bit (n := b.toNat) (k := x.toNat)
    rw [← e] at h
    rw [h]
    cases b.toNat.testBit x.toNat <;> rfl
theorem i_bag_has_pc (b : Int) (x : Int) (hb : 0 ≤ b ∧ b ≤ 4611686018427387903) (hx : 0 ≤ x) : PC Try.prog 226 [.int .u64 b, .int .i64 x] (.one (.d (.bool (b.toNat.testBit x.toNat)))) :=
  pc_wf @Try.call226 fun _ => pc_by (by kernel_rfl) Try.func226 @Try.call226 (by kernel_rfl) i_bag_has_C (i_bag_has_A b x) (by kernel_rfl) (i_bag_has_vc b x hb hx) (by kernel_rfl)
def i_bag_has_orc : List D → Orc := orcN [none, none] fun ds => match ds with
  | [.int .u64 b, .int .i64 x] => some (.one (.d (.bool (b.toNat.testBit x.toNat))))
  | _ => none
def covTo (Sets : List (List Int)) (choice : List Int) (i : Nat) : Nat := foldTo (fun s k => s ||| bagN (Sets.getD (choice.getD k 0).toNat [])) 0 i
def covB (Sets : List (List Int)) (choice : List Int) (x : Nat) : Bool := choice.any fun c => (Sets.getD c.toNat []).contains (x : Int)
def coverB (Size : Int) (Sets : List (List Int)) (choice : List Int) : Bool := allTo (covB Sets choice) Size.toNat
theorem rising_mem {xs : List Int} {lo hi : Int} (h : rising xs lo hi = true) : ∀ x ∈ xs, lo ≤ x ∧ x ≤ hi := by
  intro x hx
  obtain ⟨k, hk, rfl⟩ := List.mem_iff_getElem.1 hx
  have := rising_at h k hk
  simp [hk] at this
  omega
theorem set_mem {Size : Int} {Sets : List (List Int)} {Costs : List Int} (h : goodSys Size Sets Costs = true) {k : Nat} (hk : k < Sets.length) : ∀ x ∈ Sets.getD k [], 0 ≤ x ∧ x < 8 := by
  intro x hx
  have h1 := rising_mem (gs_set h hk) x hx
  have h2 := gs_facts h
  omega
theorem set_memS {Size : Int} {Sets : List (List Int)} {Costs : List Int} (h : goodSys Size Sets Costs = true) {k : Nat} (hk : k < Sets.length) : ∀ x ∈ Sets.getD k [], 0 ≤ x ∧ x < (Size.toNat : Int) := by
  intro x hx
  have h1 := rising_mem (gs_set h hk) x hx
  have h2 := gs_facts h
  omega
theorem covTo_bit {Size : Int} {Sets : List (List Int)} {Costs choice : List Int} (h : goodSys Size Sets Costs = true) (hc : rising choice 0 ((Sets.length : Int) - 1) = true) {x : Nat} : ∀ k, k ≤ choice.length →
    ((covTo Sets choice k).testBit x = true ↔ ∃ j, j < k ∧ (x : Int) ∈ Sets.getD (choice.getD j 0).toNat [])
  | 0, _ => by simp [covTo, foldTo]
  | k + 1, hk => by
    have e : covTo Sets choice (k + 1) = covTo Sets choice k ||| bagN (Sets.getD (choice.getD k 0).toNat []) := rfl
    have h1 := rising_at hc k (by omega)
    rw [e, Nat.testBit_or, Bool.or_eq_true, covTo_bit h hc k (by omega), bagN_bit (fun y hy => (set_mem h (k := (choice.getD k 0).toNat) (by omega) y hy).1), List.contains_iff_mem]
    constructor
    · rintro (⟨j, h1, h2⟩ | h)
      · exact ⟨j, by omega, h2⟩
      · exact ⟨k, by omega, h⟩
    · rintro ⟨j, h1, h2⟩
      by_cases e : j = k
      · subst e; exact .inr h2
      · exact .inl ⟨j, by omega, h2⟩
theorem covB_iff {Sets : List (List Int)} {choice : List Int} {x : Nat} : covB Sets choice x = true ↔ ∃ j, j < choice.length ∧ (x : Int) ∈ Sets.getD (choice.getD j 0).toNat [] := by
  unfold covB
  rw [List.any_eq_true]
  constructor
  · rintro ⟨c, hc, hx⟩
    rw [List.contains_iff_mem] at hx
    obtain ⟨j, hj, rfl⟩ := List.mem_iff_getElem.1 hc
    exact ⟨j, hj, by simpa [hj] using hx⟩
  · rintro ⟨j, hj, hx⟩
    exact ⟨_, getD_mem (d := 0) hj, by rw [List.contains_iff_mem]; exact hx⟩
theorem covN_bit {Size : Int} {Sets : List (List Int)} {Costs choice : List Int} (h : goodSys Size Sets Costs = true) (hc : rising choice 0 ((Sets.length : Int) - 1) = true) (x : Nat) : (covTo Sets choice choice.length).testBit x = covB Sets choice x := by
  rw [Bool.eq_iff_iff, covTo_bit h hc _ (Nat.le_refl _), covB_iff]
theorem covTo_lt {Size : Int} {Sets : List (List Int)} {Costs choice : List Int} (h : goodSys Size Sets Costs = true) (hc : rising choice 0 ((Sets.length : Int) - 1) = true) : ∀ k, k ≤ choice.length → covTo Sets choice k < 2 ^ Size.toNat
  | 0, _ => Nat.two_pow_pos _
  | k + 1, hk => by
    have e : covTo Sets choice (k + 1) = covTo Sets choice k ||| bagN (Sets.getD (choice.getD k 0).toNat []) := rfl
    rw [e]
    have h1 := rising_at hc k (by omega)
    exact Nat.or_lt_two_pow (covTo_lt h hc k (by omega)) (bagN_lt (m := Size.toNat) fun y hy => set_memS h (k := (choice.getD k 0).toNat) (by omega) y hy)
theorem pow8 {n : Nat} (h : n ≤ 8) : (2 : Nat) ^ n ≤ 256 := Nat.le_trans (Nat.pow_le_pow_right (by omega) h) (by decide)
abbrev i_System_covered_JJ0 (Size : Int) (Sets : List (List Int)) (Costs : List Int) (choice : List Int) (out : Int) (i : Int) : Prop := (0 ≤ i) ∧ (i ≤ (choice.length : Int)) ∧ (out = ((covTo Sets choice i.toNat : Nat) : Int))
abbrev i_System_covered_mJ0 (Size : Int) (Sets : List (List Int)) (Costs : List Int) (choice : List Int) (out : Int) (i : Int) : Nat := (choice.length - i).toNat
def i_System_covered_C (f : FuncId) (ds : List D) : Orc := bif Nat.beq f 194 then i_bagOf_orc ds else .no
def i_System_covered_A (Size : Int) (Sets : List (List Int)) (Costs : List Int) (choice : List Int) : Ann := .two (.none) (.two (.none) (.two (.two (.none) (.loop (cut2 (fun (out : Int) (i : Int) => i_System_covered_JJ0 Size Sets Costs choice out i) (fun (out : Int) (i : Int) => [(2, .ptr 2 0), (5, .d true (.int .u64 out)), (8, .d false (.sl (.ints choice))), (9, .d true (.int .i64 (choice.length : Int))), (10, .d true (.int .i64 i))]) (fun (out : Int) (i : Int) => [(2, .box 36 [.d false (.int .i64 Size), .d false (.sl (.rows Sets)), .d false (.sl (.ints Costs))])])) (fun g => i_System_covered_mJ0 Size Sets Costs choice g.1 g.2) (fun _ => .none))) (.none)))
def i_System_covered_P (Size : Int) (Sets : List (List Int)) (Costs : List Int) (choice : List Int) : Prop :=
  ((∃ out' : Int, ∃ i' : Int, (i_System_covered_JJ0 Size Sets Costs choice out' i') ∧ ((0 : Int) = out') ∧ (choice = choice) ∧ ((choice.length : Int) = (choice.length : Int)) ∧ ((0 : Int) = i') ∧ (Size = Size) ∧ (Sets = Sets) ∧ (Costs = Costs)) ∧ (∀ out : Int, ∀ i : Int, (i_System_covered_JJ0 Size Sets Costs choice out i) → (((decide (i < (choice.length : Int))) = true → ((0 : Int) ≤ i) ∧ ((i : Int) < choice.length) ∧ (i.toNat < choice.length) ∧ ((0 : Int) ≤ (choice.getD i.toNat 0)) ∧ (((choice.getD i.toNat 0) : Int) < Sets.length) ∧ ((choice.getD i.toNat 0).toNat < Sets.length) ∧ (PC Try.prog 194 [.sl (.ints (Sets.getD ((choice.getD i.toNat 0).toNat) []))] (.one (.d (.int .u64 ((bagN (Sets.getD ((choice.getD i.toNat 0).toNat) []) : Nat) : Int))))) ∧ ((0 : Int) ≤ out ∧ (out : Int) ≤ 18446744073709551615) ∧ ((0 : Int) ≤ ((bagN (Sets.getD ((choice.getD i.toNat 0).toNat) []) : Nat) : Int) ∧ (((bagN (Sets.getD ((choice.getD i.toNat 0).toNat) []) : Nat) : Int) : Int) ≤ 18446744073709551615) ∧ (-9223372036854775808 ≤ (i + 1) ∧ (i + 1) ≤ 9223372036854775807) ∧ (∃ out' : Int, ∃ i' : Int, (i_System_covered_JJ0 Size Sets Costs choice out' i') ∧ (i_System_covered_mJ0 Size Sets Costs choice out' i' < i_System_covered_mJ0 Size Sets Costs choice out i) ∧ (((out.toNat ||| ((bagN (Sets.getD ((choice.getD i.toNat 0).toNat) []) : Nat) : Int).toNat : Nat) : Int) = out') ∧ (choice = choice) ∧ ((choice.length : Int) = (choice.length : Int)) ∧ ((i + 1) = i') ∧ (Size = Size) ∧ (Sets = Sets) ∧ (Costs = Costs))) ∧ ((decide (i < (choice.length : Int))) = false → ((out = ((covTo Sets choice choice.length : Nat) : Int)))))))
theorem i_System_covered_vc (Size : Int) (Sets : List (List Int)) (Costs : List Int) (choice : List Int) (hg : goodSys Size Sets Costs = true) (hc : rising choice 0 ((Sets.length : Int) - 1) = true) (w_Sets : (Sets.length : Int) ≤ 9223372036854775807) (v_Sets : ∀ x9 ∈ Sets, (x9.length : Int) ≤ 9223372036854775807) (w_Costs : (Costs.length : Int) ≤ 9223372036854775807) (w_choice : (choice.length : Int) ≤ 9223372036854775807) : i_System_covered_P Size Sets Costs choice := by
  unfold i_System_covered_P
  have gf := gs_facts hg
  have cl := rising_len hc (by omega)
  have ca := fun k => rising_at hc k
  have lt := covTo_lt hg hc
  have p8 := pow8 (n := Size.toNat) (by omega)
  refine ⟨?_, ?_⟩
  · refine ⟨0, 0, ?_⟩
    refine ⟨?_, rfl, rfl, rfl, rfl, rfl, rfl, rfl⟩
    · refine ⟨?_, ?_, ?_⟩
      · omega
      · omega
      · first | omega | rfl | (intro hg; simp only [nrmT] at hg; omega) | (intro g1 g2; simp [g1, g2]; done) | (intro g1; simp at g1 ⊢; simp [g1]; done) | (simp only [nrmT] at *; omega) | (simp at * <;> omega) | (simp_all <;> omega) | (simp_all; done)
  · intro out i hJ
    obtain ⟨h1, h2, h3⟩ := hJ
    refine ⟨?_, ?_⟩
    · intro b1
      try simp only [nrmT] at b1
      refine ⟨?_, ?_, ?_, ?_, ?_, ?_, ?_, ?_, ?_, ?_, ?_⟩
      · omega
      · omega
      · omega
      · have := ca i.toNat (by omega)
        omega
      · have := ca i.toNat (by omega)
        omega
      · have := ca i.toNat (by omega)
        omega
      · refine i_bagOf_pc (Sets.getD ((choice.getD i.toNat 0).toNat) []) ?_
        · have h7 := ca i.toNat (by omega)
          intro x hx
          have := set_mem hg (k := (choice.getD i.toNat 0).toNat) (by omega) x hx
          omega
      · have := lt i.toNat (by omega)
        omega
      · have h7 := ca i.toNat (by omega)
        have h8 := bagN_lt (m := 8) (list := Sets.getD (choice.getD i.toNat 0).toNat []) fun y hy => set_mem hg (by omega) y hy
        have he : (2 : Nat) ^ 8 = 256 := by decide
        omega
      · omega
      · refine ⟨((out.toNat ||| ((bagN (Sets.getD ((choice.getD i.toNat 0).toNat) []) : Nat) : Int).toNat : Nat) : Int), (i + 1), ?_⟩
        refine ⟨?_, ?_, rfl, rfl, rfl, rfl, rfl, rfl, rfl⟩
        · refine ⟨?_, ?_, ?_⟩
          · omega
          · omega
          · have e : (i + 1).toNat = i.toNat + 1 := by omega
            rw [h3, Int.toNat_natCast, Int.toNat_natCast, e]
            rfl
        · first | (show _ < _; omega) | (simp only [i_System_covered_mJ0]; omega) | (simp only [i_System_covered_mJ0] at *; simp at *; omega)
    · intro b2
      try simp only [nrmT] at b2
      rw [h3]
      rw [show i.toNat = choice.length by omega]
theorem i_System_covered_pc (Size : Int) (Sets : List (List Int)) (Costs : List Int) (choice : List Int) (hg : goodSys Size Sets Costs = true) (hc : rising choice 0 ((Sets.length : Int) - 1) = true) : PC Try.prog 187 [.agg [.int .i64 Size, .sl (.rows Sets), .sl (.ints Costs)], .sl (.ints choice)] (.one (.d (.int .u64 ((covTo Sets choice choice.length : Nat) : Int)))) :=
  pc_wf @Try.call187 fun hw => pc_by (by kernel_rfl) Try.func187 @Try.call187 (by kernel_rfl) i_System_covered_C (i_System_covered_A Size Sets Costs choice) (by kernel_rfl) (i_System_covered_vc Size Sets Costs choice hg hc hw.1.2.1.1 hw.1.2.1.2 hw.1.2.2.1 hw.2.1) (by kernel_rfl)
def i_System_covered_orc : List D → Orc := orcN [none, some .ints] fun ds => match ds with
  | [.agg [.int .i64 Size, .sl (.rows Sets), .sl (.ints Costs)], .sl (.ints choice)] => some (.one (.d (.int .u64 ((covTo Sets choice choice.length : Nat) : Int))))
  | _ => none
def i_System_all_C (f : FuncId) (ds : List D) : Orc := .no
def i_System_all_A (Size : Int) (Sets : List (List Int)) (Costs : List Int) : Ann := .none
def i_System_all_P (Size : Int) (Sets : List (List Int)) (Costs : List Int) : Prop :=
  ((0 : Int) ≤ 1) ∧ ((0 : Int) ≤ Size) ∧ ((0 : Int) ≤ ((1 : Int) * 2 ^ Size.toNat) ∧ (((1 : Int) * 2 ^ Size.toNat) : Int) ≤ 18446744073709551615) ∧ (0 ≤ (((1 : Int) * 2 ^ Size.toNat) - 1) ∧ (((1 : Int) * 2 ^ Size.toNat) - 1) ≤ 18446744073709551615) ∧ (((((1 : Int) * 2 ^ Size.toNat) - 1) = ((2 ^ Size.toNat - 1 : Nat) : Int)))
theorem i_System_all_vc (Size : Int) (Sets : List (List Int)) (Costs : List Int) (hg : 0 ≤ Size ∧ Size ≤ 8) (w_Sets : (Sets.length : Int) ≤ 9223372036854775807) (v_Sets : ∀ x9 ∈ Sets, (x9.length : Int) ≤ 9223372036854775807) (w_Costs : (Costs.length : Int) ≤ 9223372036854775807) : i_System_all_P Size Sets Costs := by
  unfold i_System_all_P
  have p8 := pow8 (n := Size.toNat) (by omega)
  have h7 := pow_le (x := Size) (m := 8) (by omega)
  have h8 := one_pow (x := Size)
  have h9 := Nat.two_pow_pos Size.toNat
  have he : (2 : Nat) ^ 8 = 256 := by decide
  refine ⟨?_, ?_, ?_, ?_, ?_⟩
  · omega
  · omega
  · omega
  · omega
  · omega
theorem i_System_all_pc (Size : Int) (Sets : List (List Int)) (Costs : List Int) (hg : 0 ≤ Size ∧ Size ≤ 8) : PC Try.prog 222 [.agg [.int .i64 Size, .sl (.rows Sets), .sl (.ints Costs)]] (.one (.d (.int .u64 ((2 ^ Size.toNat - 1 : Nat) : Int)))) :=
  pc_wf @Try.call222 fun hw => pc_by (by kernel_rfl) Try.func222 @Try.call222 (by kernel_rfl) i_System_all_C (i_System_all_A Size Sets Costs) (by kernel_rfl) (i_System_all_vc Size Sets Costs hg hw.1.2.1.1 hw.1.2.1.2 hw.1.2.2.1) (by kernel_rfl)
def i_System_all_orc : List D → Orc := orcN [none] fun ds => match ds with
  | [.agg [.int .i64 Size, .sl (.rows Sets), .sl (.ints Costs)]] => some (.one (.d (.int .u64 ((2 ^ Size.toNat - 1 : Nat) : Int))))
  | _ => none
def i_System_isCover_C (f : FuncId) (ds : List D) : Orc := bif Nat.beq f 187 then i_System_covered_orc ds else bif Nat.beq f 222 then i_System_all_orc ds else .no
def i_System_isCover_A (Size : Int) (Sets : List (List Int)) (Costs : List Int) (choice : List Int) : Ann := .none
def i_System_isCover_P (Size : Int) (Sets : List (List Int)) (Costs : List Int) (choice : List Int) : Prop :=
  (true = true) ∧ (PC Try.prog 187 [.agg [.int .i64 Size, .sl (.rows Sets), .sl (.ints Costs)], .sl (.ints choice)] (.one (.d (.int .u64 ((covTo Sets choice choice.length : Nat) : Int))))) ∧ (PC Try.prog 222 [.agg [.int .i64 Size, .sl (.rows Sets), .sl (.ints Costs)]] (.one (.d (.int .u64 ((2 ^ Size.toNat - 1 : Nat) : Int))))) ∧ (((((covTo Sets choice choice.length : Nat) : Int) == ((2 ^ Size.toNat - 1 : Nat) : Int)) = (coverB Size Sets choice)))
theorem i_System_isCover_vc (Size : Int) (Sets : List (List Int)) (Costs : List Int) (choice : List Int) (hg : goodSys Size Sets Costs = true) (hc : rising choice 0 ((Sets.length : Int) - 1) = true) (w_Sets : (Sets.length : Int) ≤ 9223372036854775807) (v_Sets : ∀ x9 ∈ Sets, (x9.length : Int) ≤ 9223372036854775807) (w_Costs : (Costs.length : Int) ≤ 9223372036854775807) (w_choice : (choice.length : Int) ≤ 9223372036854775807) : i_System_isCover_P Size Sets Costs choice := by
  unfold i_System_isCover_P
  have gf := gs_facts hg
  have cl := rising_len hc (by omega)
  have ca := fun k => rising_at hc k
  have lt := covTo_lt hg hc
  have p8 := pow8 (n := Size.toNat) (by omega)
  refine ⟨rfl, ?_, ?_, ?_⟩
  · refine i_System_covered_pc Size Sets Costs choice ?_ ?_
    · omega
    · omega
  · refine i_System_all_pc Size Sets Costs ?_
    · omega
  · have h1 := covTo_lt hg hc choice.length (Nat.le_refl _)
    have h2 := all_bits h1
    unfold coverB
    rw [← allTo_congr (p := fun x => (covTo Sets choice choice.length).testBit x) (q := covB Sets choice) (fun x _ => covN_bit hg hc x), Bool.eq_iff_iff, ← h2]
    simp only [beq_iff_eq]
    omega
theorem i_System_isCover_pc (Size : Int) (Sets : List (List Int)) (Costs : List Int) (choice : List Int) (hg : goodSys Size Sets Costs = true) (hc : rising choice 0 ((Sets.length : Int) - 1) = true) : PC Try.prog 166 [.agg [.int .i64 Size, .sl (.rows Sets), .sl (.ints Costs)], .sl (.ints choice)] (.one (.d (.bool (coverB Size Sets choice)))) :=
  pc_wf @Try.call166 fun hw => pc_by (by kernel_rfl) Try.func166 @Try.call166 (by kernel_rfl) i_System_isCover_C (i_System_isCover_A Size Sets Costs choice) (by kernel_rfl) (i_System_isCover_vc Size Sets Costs choice hg hc hw.1.2.1.1 hw.1.2.1.2 hw.1.2.2.1 hw.2.1) (by kernel_rfl)
def i_System_isCover_orc : List D → Orc := orcN [none, some .ints] fun ds => match ds with
  | [.agg [.int .i64 Size, .sl (.rows Sets), .sl (.ints Costs)], .sl (.ints choice)] => some (.one (.d (.bool (coverB Size Sets choice))))
  | _ => none
abbrev s_l1Put_JJ0 (l : List Int) (n : Int) (k : Int) : Prop := (0 ≤ k) ∧ (k ≤ (l.length : Int)) ∧ (∀ j, j < k.toNat → l.getD j 0 < n)
abbrev s_l1Put_mJ0 (l : List Int) (n : Int) (k : Int) : Nat := (l.length - k).toNat
def s_l1Put_C (f : FuncId) (ds : List D) : Orc := .no
def s_l1Put_A (l : List Int) (n : Int) : Ann := .two (.none) (.two (.none) (.two (.loop (cut1 (fun (k : Int) => s_l1Put_JJ0 l n k) (fun (k : Int) => [(0, .d true (.sl (.ints l))), (1, .d false (.int .i64 n)), (5, .d true (.int .i64 k))]) (fun (k : Int) => [])) (fun g => s_l1Put_mJ0 l n g) (fun _ => .none)) (.two (.none) (.two (.reg [(6, .frz)]) (.none)))))
def s_l1Put_P (l : List Int) (n : Int) : Prop :=
  ((∃ k' : Int, (s_l1Put_JJ0 l n k') ∧ (l = l) ∧ (n = n) ∧ ((0 : Int) = k')) ∧ (∀ k : Int, (s_l1Put_JJ0 l n k) → ((decide (k < (l.length : Int))) = true → (decide (k < (l.length : Int))) = true) ∧ ((decide (k < (l.length : Int))) = true → (decide (k < (l.length : Int))) = true) ∧ (((decide (k < (l.length : Int))) = true → (0 : Int) ≤ k)) ∧ (((decide (k < (l.length : Int))) = true → (k : Int) < l.length)) ∧ ((decide (k < (l.length : Int))) = true → (decide (k < (l.length : Int))) = true) ∧ (((decide (k < (l.length : Int))) = true → k.toNat < l.length)) ∧ ((decide (k < (l.length : Int))) = true → (decide (k < (l.length : Int))) = true) ∧ ((decide (k < (l.length : Int))) = true → (decide (k < (l.length : Int))) = true) ∧ (true = true) ∧ (((decide (k < (l.length : Int))) = true → (decide (k < (l.length : Int))) = true)) ∧ (((decide (k < (l.length : Int))) = false → true = true)) ∧ (((cond (decide (k < (l.length : Int))) (decide ((l.getD k.toNat 0) < n)) false) = true → (-9223372036854775808 ≤ (k + 1) ∧ (k + 1) ≤ 9223372036854775807) ∧ (∃ k' : Int, (s_l1Put_JJ0 l n k') ∧ (s_l1Put_mJ0 l n k' < s_l1Put_mJ0 l n k) ∧ (l = l) ∧ (n = n) ∧ ((k + 1) = k'))) ∧ ((cond (decide (k < (l.length : Int))) (decide ((l.getD k.toNat 0) < n)) false) = false → ((decide (k < (l.length : Int))) = true → (decide (k < (l.length : Int))) = true) ∧ ((decide (k < (l.length : Int))) = true → (decide (k < (l.length : Int))) = true) ∧ (((decide (k < (l.length : Int))) = true → (0 : Int) ≤ k)) ∧ (((decide (k < (l.length : Int))) = true → (k : Int) < l.length)) ∧ ((decide (k < (l.length : Int))) = true → (decide (k < (l.length : Int))) = true) ∧ (((decide (k < (l.length : Int))) = true → k.toNat < l.length)) ∧ ((decide (k < (l.length : Int))) = true → (decide (k < (l.length : Int))) = true) ∧ ((decide (k < (l.length : Int))) = true → (decide (k < (l.length : Int))) = true) ∧ (true = true) ∧ (((decide (k < (l.length : Int))) = true → (decide (k < (l.length : Int))) = true)) ∧ (((decide (k < (l.length : Int))) = false → true = true)) ∧ (((cond (decide (k < (l.length : Int))) ((l.getD k.toNat 0) == n) false) = true → (((l : List Int) = (putL l n)))) ∧ ((cond (decide (k < (l.length : Int))) ((l.getD k.toNat 0) == n) false) = false → (true = true) ∧ ((0 : Int) ≤ k) ∧ ((k : Int) ≤ l.length) ∧ ((0 : Nat) = 0) ∧ (True) ∧ ((0 + ((l.take k.toNat).drop 0).length) * 8 ≤ 140737488355328) ∧ ((0 + ((l.take k.toNat).drop 0).length) = ([] ++ ((l.take k.toNat).drop 0)).length) ∧ (True) ∧ ((([] ++ ((l.take k.toNat).drop 0)).length + 1) * 8 ≤ 140737488355328) ∧ ((0 : Int) ≤ k) ∧ ((k : Int) ≤ l.length) ∧ (((0 + ((l.take k.toNat).drop 0).length) + 1) = (([] ++ ((l.take k.toNat).drop 0)) ++ [n]).length) ∧ (True) ∧ (((([] ++ ((l.take k.toNat).drop 0)) ++ [n]).length + ((l.take l.length).drop k.toNat).length) * 8 ≤ 140737488355328) ∧ (((((0 + ((l.take k.toNat).drop 0).length) + 1) + ((l.take l.length).drop k.toNat).length) = ((([] ++ ((l.take k.toNat).drop 0)) ++ [n]) ++ ((l.take l.length).drop k.toNat)).length) ∧ ((((([] ++ ((l.take k.toNat).drop 0)) ++ [n]) ++ ((l.take l.length).drop k.toNat)) : List Int) = (putL l n)))))))))
theorem s_l1Put_vc (l : List Int) (n : Int) (hl : l.length ≤ 1048576) (w_l : (l.length : Int) ≤ 9223372036854775807) : s_l1Put_P l n := by
  unfold s_l1Put_P
  refine ⟨?_, ?_⟩
  · refine ⟨0, ?_⟩
    refine ⟨?_, rfl, rfl, rfl⟩
    · refine ⟨?_, ?_, ?_⟩
      · omega
      · omega
      · omega
  · intro k hJ
    obtain ⟨h1, h2, h3⟩ := hJ
    refine ⟨id, id, ?_, ?_, id, ?_, id, id, rfl, id, fun _ => rfl, ?_, ?_⟩
    · omega
    · first | omega | rfl | (intro hg; simp only [nrmT] at hg; omega) | (intro g1 g2; simp [g1, g2]; done) | (intro g1; simp at g1 ⊢; simp [g1]; done) | (simp only [nrmT] at *; omega) | (simp at * <;> omega) | (simp_all <;> omega) | (simp_all; done)
    · first | omega | rfl | (intro hg; simp only [nrmT] at hg; omega) | (intro g1 g2; simp [g1, g2]; done) | (intro g1; simp at g1 ⊢; simp [g1]; done) | (simp only [nrmT] at *; omega) | (simp at * <;> omega) | (simp_all <;> omega) | (simp_all; done)
    · intro b1
      refine ⟨?_, ?_⟩
      · have h5 : k < (l.length : Int) ∧ l.getD k.toNat 0 < n := by
          revert b1; by_cases h : k < (l.length : Int)
          · rw [decide_eq_true h]; intro g; exact ⟨h, by simpa using g⟩
          · rw [decide_eq_false h]; intro g; cases g
        omega
      · refine ⟨(k + 1), ?_⟩
        refine ⟨?_, ?_, rfl, rfl, rfl⟩
        · refine ⟨?_, ?_, ?_⟩
          · omega
          · have h5 : k < (l.length : Int) ∧ l.getD k.toNat 0 < n := by
              revert b1; by_cases h : k < (l.length : Int)
              · rw [decide_eq_true h]; intro g; exact ⟨h, by simpa using g⟩
              · rw [decide_eq_false h]; intro g; cases g
            omega
          · have h5 : k < (l.length : Int) ∧ l.getD k.toNat 0 < n := by
              revert b1; by_cases h : k < (l.length : Int)
              · rw [decide_eq_true h]; intro g; exact ⟨h, by simpa using g⟩
              · rw [decide_eq_false h]; intro g; cases g
            intro j hj
            by_cases e : j = k.toNat
            · rw [e]; exact h5.2
            · exact h3 j (by omega)
        · have h5 : k < (l.length : Int) ∧ l.getD k.toNat 0 < n := by
            revert b1; by_cases h : k < (l.length : Int)
            · rw [decide_eq_true h]; intro g; exact ⟨h, by simpa using g⟩
            · rw [decide_eq_false h]; intro g; cases g
          first | (show _ < _; omega) | (simp only [s_l1Put_mJ0]; omega) | (simp only [s_l1Put_mJ0] at *; simp at *; omega)
    · intro b2
      refine ⟨id, id, ?_, ?_, id, ?_, id, id, rfl, id, fun _ => rfl, ?_, ?_⟩
      · omega
      · first | omega | rfl | (intro hg; simp only [nrmT] at hg; omega) | (intro g1 g2; simp [g1, g2]; done) | (intro g1; simp at g1 ⊢; simp [g1]; done) | (simp only [nrmT] at *; omega) | (simp at * <;> omega) | (simp_all <;> omega) | (simp_all; done)
      · first | omega | rfl | (intro hg; simp only [nrmT] at hg; omega) | (intro g1 g2; simp [g1, g2]; done) | (intro g1; simp at g1 ⊢; simp [g1]; done) | (simp only [nrmT] at *; omega) | (simp at * <;> omega) | (simp_all <;> omega) | (simp_all; done)
      · intro b3
        have h6 : k.toNat < l.length → ¬ l.getD k.toNat 0 < n := by
          intro g1 g2
          rw [decide_eq_true (show k < (l.length : Int) by omega), decide_eq_true g2] at b2
          cases b2
        have h7 : k < (l.length : Int) ∧ l.getD k.toNat 0 = n := by
          revert b3; by_cases h : k < (l.length : Int)
          · rw [decide_eq_true h]; intro g; exact ⟨h, by simpa using g⟩
          · rw [decide_eq_false h]; intro g; cases g
        rw [putL_at l n k.toNat (by omega) h3 h6, if_pos ⟨by omega, h7.2⟩]
      · intro b4
        refine ⟨rfl, ?_, ?_, rfl, trivial, ?_, ?_, trivial, ?_, ?_, ?_, ?_, trivial, ?_, ?_, ?_⟩
        · omega
        · omega
        · first | (simp only [List.length_append, List.length_take, List.length_drop, List.length_cons, List.length_nil]; done) | (simp only [List.length_append, List.length_take, List.length_drop, List.length_cons, List.length_nil]; omega)
        · first | (simp only [List.length_append, List.length_take, List.length_drop, List.length_cons, List.length_nil]; done) | (simp only [List.length_append, List.length_take, List.length_drop, List.length_cons, List.length_nil]; omega)
        · first | (simp only [List.length_append, List.length_take, List.length_drop, List.length_cons, List.length_nil]; done) | (simp only [List.length_append, List.length_take, List.length_drop, List.length_cons, List.length_nil]; omega)
        · omega
        · omega
        · first | (simp only [List.length_append, List.length_take, List.length_drop, List.length_cons, List.length_nil]; done) | (simp only [List.length_append, List.length_take, List.length_drop, List.length_cons, List.length_nil]; omega)
        · first | (simp only [List.length_append, List.length_take, List.length_drop, List.length_cons, List.length_nil]; done) | (simp only [List.length_append, List.length_take, List.length_drop, List.length_cons, List.length_nil]; omega)
        · first | (simp only [List.length_append, List.length_take, List.length_drop, List.length_cons, List.length_nil]; done) | (simp only [List.length_append, List.length_take, List.length_drop, List.length_cons, List.length_nil]; omega)
        · have h6 : k.toNat < l.length → ¬ l.getD k.toNat 0 < n := by
            intro g1 g2
            rw [decide_eq_true (show k < (l.length : Int) by omega), decide_eq_true g2] at b2
            cases b2
          have h7 : ¬ (k.toNat < l.length ∧ l.getD k.toNat 0 = n) := by
            rintro ⟨g1, g2⟩
            rw [decide_eq_true (show k < (l.length : Int) by omega), g2] at b4
            simp at b4
          rw [putL_at l n k.toNat (by omega) h3 h6, if_neg h7]
          simp
theorem s_l1Put_pc (l : List Int) (n : Int) (hl : l.length ≤ 1048576) : PCs Try.prog 202 [.sl (.ints l), .int .i64 n] 0 (.sl (.ints (putL l n))) :=
  pcs_wf @Try.call202 fun hw => pcs_by (by kernel_rfl) Try.func202 @Try.call202 (by kernel_rfl) s_l1Put_C (s_l1Put_A l n) (by kernel_rfl) (s_l1Put_vc l n hl hw.1) (by kernel_rfl)
def s_l1Put_orc : List D → Orc := orcS 0 fun ds => match ds with
  | [.sl (.ints l), .int .i64 n] => some (.sl (.ints (putL l n)))
  | _ => none
theorem getD_get {α : Type} {xs : List α} {k : Nat} {d : α} (h : k < xs.length) : xs.getD k d = xs[k] := by simp [h]
def putAll (l set : List Int) (k : Nat) : List Int := foldTo (fun l j => putL l (set.getD j 0)) l k
def covL (Sets : List (List Int)) (choice : List Int) (i : Nat) : List Int := foldTo (fun l k => putAll l (Sets.getD (choice.getD k 0).toNat []) (Sets.getD (choice.getD k 0).toNat []).length) [] i
theorem mem_putAll {l set : List Int} {y : Int} : ∀ k, k ≤ set.length → (y ∈ putAll l set k ↔ y ∈ l ∨ ∃ j, j < k ∧ set.getD j 0 = y)
  | 0, _ => by simp [putAll, foldTo]
  | k + 1, hk => by
    have e : putAll l set (k + 1) = putL (putAll l set k) (set.getD k 0) := rfl
    rw [e, mem_putL, mem_putAll k (by omega)]
    constructor
    · rintro (h | h | ⟨j, h1, h2⟩)
      · exact .inr ⟨k, by omega, h.symm⟩
      · exact .inl h
      · exact .inr ⟨j, by omega, h2⟩
    · rintro (h | ⟨j, h1, h2⟩)
      · exact .inr (.inl h)
      · by_cases e : j = k
        · subst e; exact .inl h2.symm
        · exact .inr (.inr ⟨j, by omega, h2⟩)
theorem asc_putAll {l set : List Int} (h : Asc l) : ∀ k, Asc (putAll l set k)
  | 0 => h
  | k + 1 => asc_putL (asc_putAll h k)
theorem mem_covL {Sets : List (List Int)} {choice : List Int} {y : Int} : ∀ i, y ∈ covL Sets choice i ↔ ∃ j, j < i ∧ y ∈ Sets.getD (choice.getD j 0).toNat []
  | 0 => by simp [covL, foldTo]
  | i + 1 => by
    have e : covL Sets choice (i + 1) = putAll (covL Sets choice i) (Sets.getD (choice.getD i 0).toNat []) (Sets.getD (choice.getD i 0).toNat []).length := rfl
    rw [e, mem_putAll _ (Nat.le_refl _), mem_covL i]
    constructor
    · rintro (⟨j, h1, h2⟩ | ⟨j, h1, h2⟩)
      · exact ⟨j, by omega, h2⟩
      · exact ⟨i, by omega, by rw [← h2]; exact getD_mem h1⟩
    · rintro ⟨j, h1, h2⟩
      by_cases e : j = i
      · subst e
        obtain ⟨k, hk, h3⟩ := List.mem_iff_getElem.1 h2
        exact .inr ⟨k, hk, by rw [← h3]; exact getD_get hk⟩
      · exact .inl ⟨j, by omega, h2⟩
theorem asc_covL {Sets : List (List Int)} {choice : List Int} : ∀ i, Asc (covL Sets choice i)
  | 0 => List.Pairwise.nil
  | i + 1 => asc_putAll (asc_covL i) _
theorem covL_members {Size : Int} {Sets : List (List Int)} {Costs choice : List Int} (h : goodSys Size Sets Costs = true) (hc : rising choice 0 ((Sets.length : Int) - 1) = true) : covL Sets choice choice.length = members (covB Sets choice) Size.toNat := by
  refine asc_ext (asc_covL _) (asc_members _ _) fun x => ?_
  rw [mem_covL, mem_members]
  constructor
  · rintro ⟨j, h1, h2⟩
    have h3 := rising_at hc j h1
    have h4 := set_memS h (k := (choice.getD j 0).toNat) (by omega) x h2
    refine ⟨h4.1, h4.2, covB_iff.2 ⟨j, h1, ?_⟩⟩
    rwa [show ((x.toNat : Nat) : Int) = x by omega]
  · rintro ⟨h1, h2, h3⟩
    obtain ⟨j, h4, h5⟩ := covB_iff.1 h3
    exact ⟨j, h4, by rwa [show ((x.toNat : Nat) : Int) = x by omega] at h5⟩
abbrev s_l6Covered_JJ0 (Size : Int) (Sets : List (List Int)) (Costs : List Int) (choice : List Int) (out : List Int) (i : Int) : Prop := (0 ≤ i) ∧ (i ≤ (choice.length : Int)) ∧ (out = covL Sets choice i.toNat) ∧ ((out.length : Int) ≤ 8 * i)
abbrev s_l6Covered_mJ0 (Size : Int) (Sets : List (List Int)) (Costs : List Int) (choice : List Int) (out : List Int) (i : Int) : Nat := (choice.length - i).toNat
abbrev s_l6Covered_JJ1 (Size : Int) (Sets : List (List Int)) (Costs : List Int) (choice : List Int) (out : List Int) (i : Int) (out1 : List Int) (k : Int) : Prop := (0 ≤ k) ∧ (k ≤ ((Sets.getD (choice.getD i.toNat 0).toNat []).length : Int)) ∧ (out1 = putAll out (Sets.getD (choice.getD i.toNat 0).toNat []) k.toNat) ∧ ((out1.length : Int) ≤ 8 * i + k)
abbrev s_l6Covered_mJ1 (Size : Int) (Sets : List (List Int)) (Costs : List Int) (choice : List Int) (out : List Int) (i : Int) (out1 : List Int) (k : Int) : Nat := ((Sets.getD (choice.getD i.toNat 0).toNat []).length - k).toNat
def s_l6Covered_C (f : FuncId) (ds : List D) : Orc := bif Nat.beq f 202 then s_l1Put_orc ds else .no
def s_l6Covered_A (Size : Int) (Sets : List (List Int)) (Costs : List Int) (choice : List Int) : Ann := .two (.none) (.two (.reg [(0, .frz)]) (.two (.two (.none) (.loop (cut2 (fun (out : List Int) (i : Int) => s_l6Covered_JJ0 Size Sets Costs choice out i) (fun (out : List Int) (i : Int) => [(1, .d false (.sl (.ints choice))), (2, .ptr 2 0), (5, .d true (.sl (.ints out))), (6, .d true (.int .i64 i))]) (fun (out : List Int) (i : Int) => [(2, .box 36 [.d false (.int .i64 Size), .d false (.sl (.rows Sets)), .d false (.sl (.ints Costs))])])) (fun g => s_l6Covered_mJ0 Size Sets Costs choice g.1 g.2) (fun g => (fun (out : List Int) (i : Int) => .two (.none) (.two (.two (.none) (.two (.none) (.loop (cut2 (fun (out1 : List Int) (k : Int) => s_l6Covered_JJ1 Size Sets Costs choice out i out1 k) (fun (out1 : List Int) (k : Int) => [(1, .d false (.sl (.ints choice))), (2, .ptr 2 0), (5, .d true (.sl (.ints out1))), (6, .d true (.int .i64 i)), (7, .d false (.sl (.ints (Sets.getD ((choice.getD i.toNat 0).toNat) [])))), (8, .d true (.int .i64 k))]) (fun (out1 : List Int) (k : Int) => [(2, .box 36 [.d false (.int .i64 Size), .d false (.sl (.rows Sets)), .d false (.sl (.ints Costs))])])) (fun g => s_l6Covered_mJ1 Size Sets Costs choice out i g.1 g.2) (fun _ => .none)))) (.none))) (g.1) (g.2)))) (.none)))
def s_l6Covered_P (Size : Int) (Sets : List (List Int)) (Costs : List Int) (choice : List Int) : Prop :=
  ((∃ out' : List Int, ∃ i' : Int, (s_l6Covered_JJ0 Size Sets Costs choice out' i') ∧ (choice = choice) ∧ ([] = out') ∧ ((0 : Int) = i') ∧ (Size = Size) ∧ (Sets = Sets) ∧ (Costs = Costs)) ∧ (∀ out : List Int, ∀ i : Int, (s_l6Covered_JJ0 Size Sets Costs choice out i) → (((decide (i < (choice.length : Int))) = true → (true = true) ∧ ((0 : Int) ≤ i) ∧ ((i : Int) < choice.length) ∧ (i.toNat < choice.length) ∧ ((0 : Int) ≤ (choice.getD i.toNat 0)) ∧ (((choice.getD i.toNat 0) : Int) < Sets.length) ∧ ((choice.getD i.toNat 0).toNat < Sets.length) ∧ ((∃ out1' : List Int, ∃ k' : Int, (s_l6Covered_JJ1 Size Sets Costs choice out i out1' k') ∧ (choice = choice) ∧ (out = out1') ∧ (i = i) ∧ ((Sets.getD ((choice.getD i.toNat 0).toNat) []) = (Sets.getD ((choice.getD i.toNat 0).toNat) [])) ∧ ((0 : Int) = k') ∧ (Size = Size) ∧ (Sets = Sets) ∧ (Costs = Costs)) ∧ (∀ out1 : List Int, ∀ k : Int, (s_l6Covered_JJ1 Size Sets Costs choice out i out1 k) → (((decide (k < (((Sets.getD ((choice.getD i.toNat 0).toNat) []).length) : Int))) = true → ((0 : Int) ≤ k) ∧ ((k : Int) < (Sets.getD ((choice.getD i.toNat 0).toNat) []).length) ∧ (k.toNat < (Sets.getD ((choice.getD i.toNat 0).toNat) []).length) ∧ (PCs Try.prog 202 [.sl (.ints out1), .int .i64 ((Sets.getD ((choice.getD i.toNat 0).toNat) []).getD k.toNat 0)] 0 (.sl (.ints (putL out1 ((Sets.getD ((choice.getD i.toNat 0).toNat) []).getD k.toNat 0))))) ∧ (-9223372036854775808 ≤ (k + 1) ∧ (k + 1) ≤ 9223372036854775807) ∧ (∃ out1' : List Int, ∃ k' : Int, (s_l6Covered_JJ1 Size Sets Costs choice out i out1' k') ∧ (s_l6Covered_mJ1 Size Sets Costs choice out i out1' k' < s_l6Covered_mJ1 Size Sets Costs choice out i out1 k) ∧ (choice = choice) ∧ ((putL out1 ((Sets.getD ((choice.getD i.toNat 0).toNat) []).getD k.toNat 0)) = out1') ∧ (i = i) ∧ ((Sets.getD ((choice.getD i.toNat 0).toNat) []) = (Sets.getD ((choice.getD i.toNat 0).toNat) [])) ∧ ((k + 1) = k') ∧ (Size = Size) ∧ (Sets = Sets) ∧ (Costs = Costs))) ∧ ((decide (k < (((Sets.getD ((choice.getD i.toNat 0).toNat) []).length) : Int))) = false → (-9223372036854775808 ≤ (i + 1) ∧ (i + 1) ≤ 9223372036854775807) ∧ (∃ out' : List Int, ∃ i' : Int, (s_l6Covered_JJ0 Size Sets Costs choice out' i') ∧ (s_l6Covered_mJ0 Size Sets Costs choice out' i' < s_l6Covered_mJ0 Size Sets Costs choice out i) ∧ (choice = choice) ∧ (out1 = out') ∧ ((i + 1) = i') ∧ (Size = Size) ∧ (Sets = Sets) ∧ (Costs = Costs))))))) ∧ ((decide (i < (choice.length : Int))) = false → (((out : List Int) = (covL Sets choice choice.length)))))))
theorem s_l6Covered_vc (Size : Int) (Sets : List (List Int)) (Costs : List Int) (choice : List Int) (hg : goodSys Size Sets Costs = true) (hc : rising choice 0 ((Sets.length : Int) - 1) = true) (w_Sets : (Sets.length : Int) ≤ 9223372036854775807) (v_Sets : ∀ x9 ∈ Sets, (x9.length : Int) ≤ 9223372036854775807) (w_Costs : (Costs.length : Int) ≤ 9223372036854775807) (w_choice : (choice.length : Int) ≤ 9223372036854775807) : s_l6Covered_P Size Sets Costs choice := by
  unfold s_l6Covered_P
  have gf := gs_facts hg
  have cl := rising_len hc (by omega)
  have ca := fun k => rising_at hc k
  have sl := fun (k : Nat) (hk : k < Sets.length) => rising_len (gs_set hg hk) (by omega)
  refine ⟨?_, ?_⟩
  · refine ⟨([]), 0, ?_⟩
    refine ⟨?_, rfl, ?_, rfl, rfl, rfl, rfl⟩
    · refine ⟨?_, ?_, ?_, ?_⟩
      · omega
      · omega
      · first | omega | rfl | (intro hg; simp only [nrmT] at hg; omega) | (intro g1 g2; simp [g1, g2]; done) | (intro g1; simp at g1 ⊢; simp [g1]; done) | (simp only [nrmT] at *; omega) | (simp at * <;> omega) | (simp_all <;> omega) | (simp_all; done)
      · first | omega | rfl | (intro hg; simp only [nrmT] at hg; omega) | (intro g1 g2; simp [g1, g2]; done) | (intro g1; simp at g1 ⊢; simp [g1]; done) | (simp only [nrmT] at *; omega) | (simp at * <;> omega) | (simp_all <;> omega) | (simp_all; done)
    · first | omega | rfl | (intro hg; simp only [nrmT] at hg; omega) | (intro g1 g2; simp [g1, g2]; done) | (intro g1; simp at g1 ⊢; simp [g1]; done) | (simp only [nrmT] at *; omega) | (simp at * <;> omega) | (simp_all <;> omega) | (simp_all; done)
  · intro out i hJ
    obtain ⟨h1, h2, h3, h3l⟩ := hJ
    refine ⟨?_, ?_⟩
    · intro b1
      try simp only [nrmT] at b1
      refine ⟨rfl, ?_, ?_, ?_, ?_, ?_, ?_, ?_, ?_⟩
      · omega
      · omega
      · omega
      · have := ca i.toNat (by omega)
        omega
      · have := ca i.toNat (by omega)
        omega
      · have := ca i.toNat (by omega)
        omega
      · refine ⟨out, 0, ?_⟩
        refine ⟨?_, rfl, rfl, rfl, rfl, rfl, rfl, rfl, rfl⟩
        · refine ⟨?_, ?_, ?_, ?_⟩
          · omega
          · omega
          · first | omega | rfl | (intro hg; simp only [nrmT] at hg; omega) | (intro g1 g2; simp [g1, g2]; done) | (intro g1; simp at g1 ⊢; simp [g1]; done) | (simp only [nrmT] at *; omega) | (simp at * <;> omega) | (simp_all <;> omega) | (simp_all; done)
          · omega
      · intro out1 k hJ
        obtain ⟨h4, h5, h6, h6l⟩ := hJ
        refine ⟨?_, ?_⟩
        · intro b2
          try simp only [nrmT] at b2
          refine ⟨?_, ?_, ?_, ?_, ?_, ?_⟩
          · omega
          · omega
          · omega
          · refine s_l1Put_pc out1 ((Sets.getD ((choice.getD i.toNat 0).toNat) []).getD k.toNat 0) ?_
            · have h7 := ca i.toNat (by omega)
              have h8 := sl (choice.getD i.toNat 0).toNat (by omega)
              have h9 := putL_len out1 ((Sets.getD (choice.getD i.toNat 0).toNat []).getD k.toNat 0)
              omega
          · have h7 := ca i.toNat (by omega)
            have h8 := sl (choice.getD i.toNat 0).toNat (by omega)
            omega
          · refine ⟨(putL out1 ((Sets.getD ((choice.getD i.toNat 0).toNat) []).getD k.toNat 0)), (k + 1), ?_⟩
            refine ⟨?_, ?_, rfl, rfl, rfl, rfl, rfl, rfl, rfl, rfl⟩
            · refine ⟨?_, ?_, ?_, ?_⟩
              · omega
              · omega
              · rw [h6, show (k + 1).toNat = k.toNat + 1 by omega]; rfl
              · have h7 := ca i.toNat (by omega)
                have h8 := sl (choice.getD i.toNat 0).toNat (by omega)
                have h9 := putL_len out1 ((Sets.getD (choice.getD i.toNat 0).toNat []).getD k.toNat 0)
                omega
            · first | (show _ < _; omega) | (simp only [s_l6Covered_mJ1]; omega) | (simp only [s_l6Covered_mJ1] at *; simp at *; omega)
        · intro b3
          try simp only [nrmT] at b3
          refine ⟨?_, ?_⟩
          · omega
          · refine ⟨out1, (i + 1), ?_⟩
            refine ⟨?_, ?_, rfl, rfl, rfl, rfl, rfl, rfl⟩
            · refine ⟨?_, ?_, ?_, ?_⟩
              · omega
              · omega
              · rw [h6, h3, show (i + 1).toNat = i.toNat + 1 by omega, show k.toNat = (Sets.getD (choice.getD i.toNat 0).toNat []).length by omega]; rfl
              · have h7 := ca i.toNat (by omega)
                have h8 := sl (choice.getD i.toNat 0).toNat (by omega)
                omega
            · first | (show _ < _; omega) | (simp only [s_l6Covered_mJ0]; omega) | (simp only [s_l6Covered_mJ0] at *; simp at *; omega)
    · intro b4
      try simp only [nrmT] at b4
      rw [h3, show i.toNat = choice.length by omega]
theorem s_l6Covered_pc (Size : Int) (Sets : List (List Int)) (Costs : List Int) (choice : List Int) (hg : goodSys Size Sets Costs = true) (hc : rising choice 0 ((Sets.length : Int) - 1) = true) : PC Try.prog 189 [.agg [.int .i64 Size, .sl (.rows Sets), .sl (.ints Costs)], .sl (.ints choice)] (.one (.d (.sl (.ints (covL Sets choice choice.length))))) :=
  pc_wf @Try.call189 fun hw => pc_by (by kernel_rfl) Try.func189 @Try.call189 (by kernel_rfl) s_l6Covered_C (s_l6Covered_A Size Sets Costs choice) (by kernel_rfl) (s_l6Covered_vc Size Sets Costs choice hg hc hw.1.2.1.1 hw.1.2.1.2 hw.1.2.2.1 hw.2.1) (by kernel_rfl)
def s_l6Covered_orc : List D → Orc := orcN [none, some .ints] fun ds => match ds with
  | [.agg [.int .i64 Size, .sl (.rows Sets), .sl (.ints Costs)], .sl (.ints choice)] => some (.one (.d (.sl (.ints (covL Sets choice choice.length)))))
  | _ => none
def s_l6Cover_C (f : FuncId) (ds : List D) : Orc := bif Nat.beq f 189 then s_l6Covered_orc ds else .no
def s_l6Cover_A (Size : Int) (Sets : List (List Int)) (Costs : List Int) (choice : List Int) : Ann := .none
def s_l6Cover_P (Size : Int) (Sets : List (List Int)) (Costs : List Int) (choice : List Int) : Prop :=
  (true = true) ∧ (PC Try.prog 189 [.agg [.int .i64 Size, .sl (.rows Sets), .sl (.ints Costs)], .sl (.ints choice)] (.one (.d (.sl (.ints (covL Sets choice choice.length)))))) ∧ ((((((covL Sets choice choice.length).length) : Int) == Size) = (coverB Size Sets choice)))
theorem s_l6Cover_vc (Size : Int) (Sets : List (List Int)) (Costs : List Int) (choice : List Int) (hg : goodSys Size Sets Costs = true) (hc : rising choice 0 ((Sets.length : Int) - 1) = true) (w_Sets : (Sets.length : Int) ≤ 9223372036854775807) (v_Sets : ∀ x9 ∈ Sets, (x9.length : Int) ≤ 9223372036854775807) (w_Costs : (Costs.length : Int) ≤ 9223372036854775807) (w_choice : (choice.length : Int) ≤ 9223372036854775807) : s_l6Cover_P Size Sets Costs choice := by
  unfold s_l6Cover_P
  refine ⟨rfl, ?_, ?_⟩
  · refine s_l6Covered_pc Size Sets Costs choice ?_ ?_
    · omega
    · omega
  · rw [covL_members hg hc]
    have gf := gs_facts hg
    have h1 := members_full (covB Sets choice) Size.toNat
    unfold coverB
    rw [Bool.eq_iff_iff, ← h1, beq_iff_eq]
    omega
theorem s_l6Cover_pc (Size : Int) (Sets : List (List Int)) (Costs : List Int) (choice : List Int) (hg : goodSys Size Sets Costs = true) (hc : rising choice 0 ((Sets.length : Int) - 1) = true) : PC Try.prog 186 [.agg [.int .i64 Size, .sl (.rows Sets), .sl (.ints Costs)], .sl (.ints choice)] (.one (.d (.bool (coverB Size Sets choice)))) :=
  pc_wf @Try.call186 fun hw => pc_by (by kernel_rfl) Try.func186 @Try.call186 (by kernel_rfl) s_l6Cover_C (s_l6Cover_A Size Sets Costs choice) (by kernel_rfl) (s_l6Cover_vc Size Sets Costs choice hg hc hw.1.2.1.1 hw.1.2.1.2 hw.1.2.2.1 hw.2.1) (by kernel_rfl)
def s_l6Cover_orc : List D → Orc := orcN [none, some .ints] fun ds => match ds with
  | [.agg [.int .i64 Size, .sl (.rows Sets), .sl (.ints Costs)], .sl (.ints choice)] => some (.one (.d (.bool (coverB Size Sets choice))))
  | _ => none
abbrev slices_Index_int_int__JJ0 (xs : List Int) (x : Int) (i : Int) : Prop := (0 ≤ i) ∧ (i ≤ (xs.length : Int)) ∧ (∀ k, k < i.toNat → (fun y => x == y) (xs.getD k 0) = false)
abbrev slices_Index_int_int__mJ0 (xs : List Int) (x : Int) (i : Int) : Nat := (xs.length - i).toNat
def slices_Index_int_int__C (f : FuncId) (ds : List D) : Orc := .no
def slices_Index_int_int__A (xs : List Int) (x : Int) : Ann := .two (.none) (.two (.two (.none) (.loop (cut1 (fun (i : Int) => slices_Index_int_int__JJ0 xs x i) (fun (i : Int) => [(0, .d false (.sl (.ints xs))), (1, .d false (.int .i64 x)), (7, .d true (.int .i64 (xs.length : Int))), (8, .d true (.int .i64 i))]) (fun (i : Int) => [])) (fun g => slices_Index_int_int__mJ0 xs x g) (fun _ => .none))) (.none))
def slices_Index_int_int__P (xs : List Int) (x : Int) : Prop :=
  ((∃ i' : Int, (slices_Index_int_int__JJ0 xs x i') ∧ (xs = xs) ∧ (x = x) ∧ ((xs.length : Int) = (xs.length : Int)) ∧ ((0 : Int) = i')) ∧ (∀ i : Int, (slices_Index_int_int__JJ0 xs x i) → (((decide (i < (xs.length : Int))) = true → ((0 : Int) ≤ i) ∧ ((i : Int) < xs.length) ∧ (i.toNat < xs.length) ∧ (((x == (xs.getD i.toNat 0)) = true → ((i = (idxI (fun y => x == y) xs)))) ∧ ((x == (xs.getD i.toNat 0)) = false → (-9223372036854775808 ≤ (i + 1) ∧ (i + 1) ≤ 9223372036854775807) ∧ (∃ i' : Int, (slices_Index_int_int__JJ0 xs x i') ∧ (slices_Index_int_int__mJ0 xs x i' < slices_Index_int_int__mJ0 xs x i) ∧ (xs = xs) ∧ (x = x) ∧ ((xs.length : Int) = (xs.length : Int)) ∧ ((i + 1) = i'))))) ∧ ((decide (i < (xs.length : Int))) = false → ((((-1) : Int) = (idxI (fun y => x == y) xs)))))))
theorem slices_Index_int_int__vc (xs : List Int) (x : Int)  (w_xs : (xs.length : Int) ≤ 9223372036854775807) : slices_Index_int_int__P xs x := by
  unfold slices_Index_int_int__P
  refine ⟨?_, ?_⟩
  · refine ⟨0, ?_⟩
    refine ⟨?_, rfl, rfl, rfl, rfl⟩
    · refine ⟨?_, ?_, ?_⟩
      · omega
      · omega
      · omega
  · intro i hJ
    obtain ⟨h1, h2, h3⟩ := hJ
    refine ⟨?_, ?_⟩
    · intro b1
      try simp only [nrmT] at b1
      refine ⟨?_, ?_, ?_, ?_, ?_⟩
      · omega
      · omega
      · omega
      · intro b2
        try simp only [nrmT] at b2
        exact idx_found (p := fun y => x == y) h1 b1 h3 (by simpa using b2)
      · intro b3
        try simp only [nrmT] at b3
        refine ⟨?_, ?_⟩
        · omega
        · refine ⟨(i + 1), ?_⟩
          refine ⟨?_, ?_, rfl, rfl, rfl, rfl⟩
          · refine ⟨?_, ?_, ?_⟩
            · omega
            · omega
            · exact idx_step (p := fun y => x == y) h1 h3 (by simpa using b3)
          · first | (show _ < _; omega) | (simp only [slices_Index_int_int__mJ0]; omega) | (simp only [slices_Index_int_int__mJ0] at *; simp at *; omega)
    · intro b4
      try simp only [nrmT] at b4
      exact (idx_none (by omega) h3).symm
theorem slices_Index_int_int__pc (xs : List Int) (x : Int)  : PC Try.prog 216 [.sl (.ints xs), .int .i64 x] (.one (.d (.int .i64 (idxI (fun y => x == y) xs)))) :=
  pc_wf @Try.call216 fun hw => pc_by (by kernel_rfl) Try.func216 @Try.call216 (by kernel_rfl) slices_Index_int_int__C (slices_Index_int_int__A xs x) (by kernel_rfl) (slices_Index_int_int__vc xs x hw.1) (by kernel_rfl)
def slices_Index_int_int__orc : List D → Orc := orcN [some .ints, none] fun ds => match ds with
  | [.sl (.ints xs), .int .i64 x] => some (.one (.d (.int .i64 (idxI (fun y => x == y) xs))))
  | _ => none
def slices_Contains_int_int__C (f : FuncId) (ds : List D) : Orc := bif Nat.beq f 216 then slices_Index_int_int__orc ds else .no
def slices_Contains_int_int__A (xs : List Int) (x : Int) : Ann := .none
def slices_Contains_int_int__P (xs : List Int) (x : Int) : Prop :=
  (PC Try.prog 216 [.sl (.ints xs), .int .i64 x] (.one (.d (.int .i64 (idxI (fun y => x == y) xs))))) ∧ (((decide ((idxI (fun y => x == y) xs) ≥ 0)) = (xs.contains x)))
theorem slices_Contains_int_int__vc (xs : List Int) (x : Int)  (w_xs : (xs.length : Int) ≤ 9223372036854775807) : slices_Contains_int_int__P xs x := by
  unfold slices_Contains_int_int__P
  refine ⟨slices_Index_int_int__pc xs x, ?_⟩
  · rw [idx_any, List.contains_eq_any_beq]
theorem slices_Contains_int_int__pc (xs : List Int) (x : Int)  : PC Try.prog 181 [.sl (.ints xs), .int .i64 x] (.one (.d (.bool (xs.contains x)))) :=
  pc_wf @Try.call181 fun hw => pc_by (by kernel_rfl) Try.func181 @Try.call181 (by kernel_rfl) slices_Contains_int_int__C (slices_Contains_int_int__A xs x) (by kernel_rfl) (slices_Contains_int_int__vc xs x hw.1) (by kernel_rfl)
def slices_Contains_int_int__orc : List D → Orc := orcN [some .ints, none] fun ds => match ds with
  | [.sl (.ints xs), .int .i64 x] => some (.one (.d (.bool (xs.contains x))))
  | _ => none
theorem has_end {xs : List Int} {x i : Int} (h2 : (xs.length : Int) ≤ i) (h3 : ∀ k, k < i.toNat → (fun y => x == y) (xs.getD k 0) = false) : xs.contains x = false := by
  rw [List.contains_eq_any_beq, List.any_eq_false]
  intro y hy
  obtain ⟨k, hk, rfl⟩ := List.mem_iff_getElem.1 hy
  have := h3 k (by omega)
  simp [hk] at this
  simpa using this
theorem has_found {xs : List Int} {x i : Int} (h1 : 0 ≤ i) (h2 : i < (xs.length : Int)) (h : xs.getD i.toNat 0 = x) : xs.contains x = true := by
  rw [List.contains_iff_mem, ← h]; exact getD_memI h1 h2
abbrev s_l1Has_JJ0 (xs : List Int) (x : Int) (i : Int) : Prop := (0 ≤ i) ∧ (i ≤ (xs.length : Int)) ∧ (∀ k, k < i.toNat → (fun y => x == y) (xs.getD k 0) = false)
abbrev s_l1Has_mJ0 (xs : List Int) (x : Int) (i : Int) : Nat := (xs.length - i).toNat
def s_l1Has_C (f : FuncId) (ds : List D) : Orc := .no
def s_l1Has_A (xs : List Int) (x : Int) : Ann := .two (.none) (.two (.two (.none) (.loop (cut1 (fun (i : Int) => s_l1Has_JJ0 xs x i) (fun (i : Int) => [(0, .d false (.sl (.ints xs))), (1, .d false (.int .i64 x)), (5, .d true (.int .i64 i))]) (fun (i : Int) => [])) (fun g => s_l1Has_mJ0 xs x g) (fun _ => .none))) (.none))
def s_l1Has_P (xs : List Int) (x : Int) : Prop :=
  ((∃ i' : Int, (s_l1Has_JJ0 xs x i') ∧ (xs = xs) ∧ (x = x) ∧ ((0 : Int) = i')) ∧ (∀ i : Int, (s_l1Has_JJ0 xs x i) → (((decide (i < (xs.length : Int))) = true → ((0 : Int) ≤ i) ∧ ((i : Int) < xs.length) ∧ (i.toNat < xs.length) ∧ ((((xs.getD i.toNat 0) == x) = true → ((true = (xs.contains x)))) ∧ (((xs.getD i.toNat 0) == x) = false → (-9223372036854775808 ≤ (i + 1) ∧ (i + 1) ≤ 9223372036854775807) ∧ (∃ i' : Int, (s_l1Has_JJ0 xs x i') ∧ (s_l1Has_mJ0 xs x i' < s_l1Has_mJ0 xs x i) ∧ (xs = xs) ∧ (x = x) ∧ ((i + 1) = i'))))) ∧ ((decide (i < (xs.length : Int))) = false → ((false = (xs.contains x)))))))
theorem s_l1Has_vc (xs : List Int) (x : Int)  (w_xs : (xs.length : Int) ≤ 9223372036854775807) : s_l1Has_P xs x := by
  unfold s_l1Has_P
  refine ⟨?_, ?_⟩
  · refine ⟨0, ?_⟩
    refine ⟨?_, rfl, rfl, rfl⟩
    · refine ⟨?_, ?_, ?_⟩
      · omega
      · omega
      · omega
  · intro i hJ
    obtain ⟨h1, h2, h3⟩ := hJ
    refine ⟨?_, ?_⟩
    · intro b1
      try simp only [nrmT] at b1
      refine ⟨?_, ?_, ?_, ?_, ?_⟩
      · omega
      · omega
      · omega
      · intro b2
        try simp only [nrmT] at b2
        exact (has_found h1 b1 b2).symm
      · intro b3
        try simp only [nrmT] at b3
        refine ⟨?_, ?_⟩
        · omega
        · refine ⟨(i + 1), ?_⟩
          refine ⟨?_, ?_, rfl, rfl, rfl⟩
          · refine ⟨?_, ?_, ?_⟩
            · omega
            · omega
            · exact idx_step (p := fun y => x == y) h1 h3 (by simp only [beq_eq_false_iff_ne]; exact fun h => b3 h.symm)
          · first | (show _ < _; omega) | (simp only [s_l1Has_mJ0]; omega) | (simp only [s_l1Has_mJ0] at *; simp at *; omega)
    · intro b4
      try simp only [nrmT] at b4
      exact (has_end (by omega) h3).symm
theorem s_l1Has_pc (xs : List Int) (x : Int)  : PC Try.prog 182 [.sl (.ints xs), .int .i64 x] (.one (.d (.bool (xs.contains x)))) :=
  pc_wf @Try.call182 fun hw => pc_by (by kernel_rfl) Try.func182 @Try.call182 (by kernel_rfl) s_l1Has_C (s_l1Has_A xs x) (by kernel_rfl) (s_l1Has_vc xs x hw.1) (by kernel_rfl)
def s_l1Has_orc : List D → Orc := orcN [some .ints, none] fun ds => match ds with
  | [.sl (.ints xs), .int .i64 x] => some (.one (.d (.bool (xs.contains x))))
  | _ => none
def newAt (set cov : List Int) (k : Nat) : Int := if cov.contains (set.getD k 0) then 0 else 1
def newOf (set cov : List Int) : Int := sumTo (newAt set cov) set.length
theorem newTo_bound {set cov : List Int} (k : Nat) : 0 ≤ sumTo (newAt set cov) k ∧ sumTo (newAt set cov) k ≤ 1 * k := sumTo_bound k fun j _ => by unfold newAt; split <;> omega
theorem newTo_all {set cov : List Int} : ∀ k, sumTo (newAt set cov) k = k ↔ ∀ j, j < k → cov.contains (set.getD j 0) = false
  | 0 => by simp [sumTo, foldTo]
  | k + 1 => by
    have e : sumTo (newAt set cov) (k + 1) = sumTo (newAt set cov) k + newAt set cov k := rfl
    have b := newTo_bound (set := set) (cov := cov) k
    have ih := newTo_all (set := set) (cov := cov) k
    rw [e]
    cases hc : cov.contains (set.getD k 0) with
    | true =>
      have e2 : newAt set cov k = 0 := by unfold newAt; rw [hc]; rfl
      rw [e2]
      constructor
      · intro h; omega
      · intro h
        have := h k (Nat.lt_succ_self k)
        rw [hc] at this; cases this
    | false =>
      have e2 : newAt set cov k = 1 := by unfold newAt; rw [hc]; rfl
      rw [e2]
      constructor
      · intro h j hj
        have h3 := ih.1 (by omega)
        by_cases ej : j = k
        · rw [ej]; exact hc
        · exact h3 j (by omega)
      · intro h
        have := ih.2 fun j hj => h j (by omega)
        omega
def hitsB (Sets : List (List Int)) (els : List Int) : Bool := allTo (fun i => !(newOf (Sets.getD i []) els == ((Sets.getD i []).length : Int))) Sets.length
def turnAt (Sets : List (List Int)) (x : Nat) : List Int := members (fun k => (Sets.getD k []).contains (x : Int)) Sets.length
def turnR (Sets : List (List Int)) (n : Nat) : List (List Int) := tabTo (turnAt Sets) n
theorem turn_get {Sets : List (List Int)} {n x : Nat} (h : x < n) : (turnR Sets n).getD x [] = turnAt Sets x := tabTo_get h
theorem hits_turn {Size : Int} {Sets : List (List Int)} {els : List Int} (he : rising els 0 (Size - 1) = true) : coverB (Sets.length : Int) (turnR Sets Size.toNat) els = hitsB Sets els := by
  unfold coverB hitsB
  rw [Int.toNat_natCast]
  refine allTo_congr fun k hk => ?_
  rw [Bool.eq_iff_iff, Bool.not_eq_true', beq_eq_false_iff_ne, covB_iff]
  unfold newOf
  rw [Ne, newTo_all]
  constructor
  · rintro ⟨j, h1, h2⟩ h3
    have h4 := rising_at he j h1
    rw [turn_get (by omega), turnAt, mem_members] at h2
    have h5 := h2.2.2
    rw [List.contains_iff_mem, Int.toNat_natCast, show (((els.getD j 0).toNat : Nat) : Int) = els.getD j 0 by omega] at h5
    obtain ⟨i, hi, h6⟩ := List.mem_iff_getElem.1 h5
    have h7 := h3 i hi
    rw [getD_get hi, h6] at h7
    have h8 : els.contains (els.getD j 0) = true := by rw [List.contains_iff_mem]; exact getD_mem h1
    rw [h7] at h8; cases h8
  · intro h
    have h2 : ∃ i, i < (Sets.getD k []).length ∧ els.contains ((Sets.getD k []).getD i 0) = true := by
      apply Classical.byContradiction
      intro h3
      refine h fun i hi => ?_
      cases hc : els.contains ((Sets.getD k []).getD i 0) with
      | false => rfl
      | true => exact absurd ⟨i, hi, hc⟩ h3
    obtain ⟨i, hi, h4⟩ := h2
    rw [List.contains_iff_mem] at h4
    obtain ⟨j, hj, h5⟩ := List.mem_iff_getElem.1 h4
    have h6 := rising_at he j hj
    refine ⟨j, hj, ?_⟩
    rw [turn_get (by omega), turnAt, mem_members]
    refine ⟨by omega, by omega, ?_⟩
    rw [List.contains_iff_mem, Int.toNat_natCast, show (((els.getD j 0).toNat : Nat) : Int) = els.getD j 0 by omega, getD_get hj, h5]
    exact getD_mem hi
theorem rising_asc {l : List Int} {lo hi : Int} (h : Asc l) (hb : ∀ x ∈ l, lo ≤ x ∧ x ≤ hi) : rising l lo hi = true := by
  unfold rising
  rw [allTo_iff]
  intro k hk
  unfold risingP
  simp only [Bool.and_eq_true, Bool.or_eq_true, decide_eq_true_eq]
  have h1 := hb _ (getD_mem (d := 0) hk)
  refine ⟨decide_eq_true h1, ?_⟩
  by_cases e : k = 0
  · exact .inl e
  · refine .inr ?_
    have h2 := List.pairwise_iff_getElem.1 h (k - 1) k (by omega) hk (by omega)
    rw [getD_get hk, getD_get (show k - 1 < l.length by omega)]
    exact h2
theorem turn_good {Size : Int} {Sets : List (List Int)} {Costs : List Int} (h : goodSys Size Sets Costs = true) : goodSys (Sets.length : Int) (turnR Sets Size.toNat) (List.replicate Size.toNat 1) = true := by
  have gf := gs_facts h
  have hl : (turnR Sets Size.toNat).length = Size.toNat := tabTo_len _ _
  simp only [goodSys, Bool.and_eq_true, decide_eq_true_eq]
  refine ⟨⟨⟨⟨decide_eq_true (by omega), by omega⟩, by rw [hl]; simp⟩, ?_⟩, ?_⟩
  · rw [List.all_eq_true]
    intro x hx
    rw [(List.mem_replicate.1 hx).2]
    rfl
  · rw [List.all_eq_true]
    intro l hl2
    obtain ⟨k, hk, rfl⟩ := List.mem_iff_getElem.1 hl2
    rw [← getD_get (d := []) hk, turn_get (by omega)]
    refine rising_asc (asc_members _ _) fun x hx => ?_
    have := mem_members.1 hx
    omega
abbrev s_l6New_JJ0 (set : List Int) (cov : List Int) (out : Int) (i : Int) : Prop := (0 ≤ i) ∧ (i ≤ (set.length : Int)) ∧ (out = sumTo (newAt set cov) i.toNat)
abbrev s_l6New_mJ0 (set : List Int) (cov : List Int) (out : Int) (i : Int) : Nat := (set.length - i).toNat
def s_l6New_C (f : FuncId) (ds : List D) : Orc := bif Nat.beq f 182 then s_l1Has_orc ds else .no
def s_l6New_A (set : List Int) (cov : List Int) : Ann := .two (.none) (.two (.none) (.two (.two (.none) (.loop (cut2 (fun (out : Int) (i : Int) => s_l6New_JJ0 set cov out i) (fun (out : Int) (i : Int) => [(0, .d false (.sl (.ints set))), (1, .d false (.sl (.ints cov))), (5, .d true (.int .i64 out)), (6, .d true (.int .i64 i))]) (fun (out : Int) (i : Int) => [])) (fun g => s_l6New_mJ0 set cov g.1 g.2) (fun _ => .none))) (.none)))
def s_l6New_P (set : List Int) (cov : List Int) : Prop :=
  ((∃ out' : Int, ∃ i' : Int, (s_l6New_JJ0 set cov out' i') ∧ (set = set) ∧ (cov = cov) ∧ ((0 : Int) = out') ∧ ((0 : Int) = i')) ∧ (∀ out : Int, ∀ i : Int, (s_l6New_JJ0 set cov out i) → (((decide (i < (set.length : Int))) = true → ((0 : Int) ≤ i) ∧ ((i : Int) < set.length) ∧ (i.toNat < set.length) ∧ (PC Try.prog 182 [.sl (.ints cov), .int .i64 (set.getD i.toNat 0)] (.one (.d (.bool (cov.contains (set.getD i.toNat 0)))))) ∧ (((!(cov.contains (set.getD i.toNat 0))) = true → (-9223372036854775808 ≤ (out + 1) ∧ (out + 1) ≤ 9223372036854775807) ∧ (-9223372036854775808 ≤ (i + 1) ∧ (i + 1) ≤ 9223372036854775807) ∧ (∃ out' : Int, ∃ i' : Int, (s_l6New_JJ0 set cov out' i') ∧ (s_l6New_mJ0 set cov out' i' < s_l6New_mJ0 set cov out i) ∧ (set = set) ∧ (cov = cov) ∧ ((out + 1) = out') ∧ ((i + 1) = i'))) ∧ ((!(cov.contains (set.getD i.toNat 0))) = false → (-9223372036854775808 ≤ (i + 1) ∧ (i + 1) ≤ 9223372036854775807) ∧ (∃ out' : Int, ∃ i' : Int, (s_l6New_JJ0 set cov out' i') ∧ (s_l6New_mJ0 set cov out' i' < s_l6New_mJ0 set cov out i) ∧ (set = set) ∧ (cov = cov) ∧ (out = out') ∧ ((i + 1) = i'))))) ∧ ((decide (i < (set.length : Int))) = false → ((out = (newOf set cov)))))))
theorem s_l6New_vc (set : List Int) (cov : List Int)  (w_set : (set.length : Int) ≤ 9223372036854775807) (w_cov : (cov.length : Int) ≤ 9223372036854775807) : s_l6New_P set cov := by
  unfold s_l6New_P
  refine ⟨?_, ?_⟩
  · refine ⟨0, 0, ?_⟩
    refine ⟨?_, rfl, rfl, rfl, rfl⟩
    · refine ⟨?_, ?_, ?_⟩
      · omega
      · omega
      · first | omega | rfl | (intro hg; simp only [nrmT] at hg; omega) | (intro g1 g2; simp [g1, g2]; done) | (intro g1; simp at g1 ⊢; simp [g1]; done) | (simp only [nrmT] at *; omega) | (simp at * <;> omega) | (simp_all <;> omega) | (simp_all; done)
  · intro out i hJ
    obtain ⟨h1, h2, h3⟩ := hJ
    refine ⟨?_, ?_⟩
    · intro b1
      try simp only [nrmT] at b1
      refine ⟨?_, ?_, ?_, s_l1Has_pc cov (set.getD i.toNat 0), ?_, ?_⟩
      · omega
      · omega
      · omega
      · intro b2
        try simp only [nrmT] at b2
        refine ⟨?_, ?_, ?_⟩
        · have := newTo_bound (set := set) (cov := cov) i.toNat
          omega
        · omega
        · refine ⟨(out + 1), (i + 1), ?_⟩
          refine ⟨?_, ?_, rfl, rfl, rfl, rfl⟩
          · refine ⟨?_, ?_, ?_⟩
            · omega
            · omega
            · rw [sumTo_step h1, h3]
              unfold newAt
              rw [b2]
              rfl
          · first | (show _ < _; omega) | (simp only [s_l6New_mJ0]; omega) | (simp only [s_l6New_mJ0] at *; simp at *; omega)
      · intro b3
        try simp only [nrmT] at b3
        refine ⟨?_, ?_⟩
        · omega
        · refine ⟨out, (i + 1), ?_⟩
          refine ⟨?_, ?_, rfl, rfl, rfl, rfl⟩
          · refine ⟨?_, ?_, ?_⟩
            · omega
            · omega
            · rw [sumTo_step h1, h3]
              unfold newAt
              rw [b3]
              exact (Int.add_zero _).symm
          · first | (show _ < _; omega) | (simp only [s_l6New_mJ0]; omega) | (simp only [s_l6New_mJ0] at *; simp at *; omega)
    · intro b4
      try simp only [nrmT] at b4
      unfold newOf
      rw [h3, show i.toNat = set.length by omega]
theorem s_l6New_pc (set : List Int) (cov : List Int)  : PC Try.prog 223 [.sl (.ints set), .sl (.ints cov)] (.one (.d (.int .i64 (newOf set cov)))) :=
  pc_wf @Try.call223 fun hw => pc_by (by kernel_rfl) Try.func223 @Try.call223 (by kernel_rfl) s_l6New_C (s_l6New_A set cov) (by kernel_rfl) (s_l6New_vc set cov hw.1 hw.2.1) (by kernel_rfl)
def s_l6New_orc : List D → Orc := orcN [some .ints, some .ints] fun ds => match ds with
  | [.sl (.ints set), .sl (.ints cov)] => some (.one (.d (.int .i64 (newOf set cov))))
  | _ => none
abbrev s_l6Hits_JJ0 (Size : Int) (Sets : List (List Int)) (Costs : List Int) (els : List Int) (i : Int) : Prop := (0 ≤ i) ∧ (i ≤ (Sets.length : Int)) ∧ (allTo (fun i => !(newOf (Sets.getD i []) els == ((Sets.getD i []).length : Int))) i.toNat = true)
abbrev s_l6Hits_mJ0 (Size : Int) (Sets : List (List Int)) (Costs : List Int) (els : List Int) (i : Int) : Nat := (Sets.length - i).toNat
def s_l6Hits_C (f : FuncId) (ds : List D) : Orc := bif Nat.beq f 223 then s_l6New_orc ds else .no
def s_l6Hits_A (Size : Int) (Sets : List (List Int)) (Costs : List Int) (els : List Int) : Ann := .two (.none) (.two (.two (.none) (.loop (cut1 (fun (i : Int) => s_l6Hits_JJ0 Size Sets Costs els i) (fun (i : Int) => [(1, .d false (.sl (.ints els))), (2, .ptr 2 0), (5, .d true (.int .i64 i))]) (fun (i : Int) => [(2, .box 36 [.d false (.int .i64 Size), .d false (.sl (.rows Sets)), .d false (.sl (.ints Costs))])])) (fun g => s_l6Hits_mJ0 Size Sets Costs els g) (fun _ => .none))) (.none))
def s_l6Hits_P (Size : Int) (Sets : List (List Int)) (Costs : List Int) (els : List Int) : Prop :=
  ((∃ i' : Int, (s_l6Hits_JJ0 Size Sets Costs els i') ∧ (els = els) ∧ ((0 : Int) = i') ∧ (Size = Size) ∧ (Sets = Sets) ∧ (Costs = Costs)) ∧ (∀ i : Int, (s_l6Hits_JJ0 Size Sets Costs els i) → (((decide (i < (Sets.length : Int))) = true → (true = true) ∧ ((0 : Int) ≤ i) ∧ ((i : Int) < Sets.length) ∧ (i.toNat < Sets.length) ∧ (PC Try.prog 223 [.sl (.ints (Sets.getD i.toNat [])), .sl (.ints els)] (.one (.d (.int .i64 (newOf (Sets.getD i.toNat []) els))))) ∧ ((0 : Int) ≤ i) ∧ ((i : Int) < Sets.length) ∧ (i.toNat < Sets.length) ∧ ((((newOf (Sets.getD i.toNat []) els) == (((Sets.getD i.toNat []).length) : Int)) = true → ((false = (hitsB Sets els)))) ∧ (((newOf (Sets.getD i.toNat []) els) == (((Sets.getD i.toNat []).length) : Int)) = false → (-9223372036854775808 ≤ (i + 1) ∧ (i + 1) ≤ 9223372036854775807) ∧ (∃ i' : Int, (s_l6Hits_JJ0 Size Sets Costs els i') ∧ (s_l6Hits_mJ0 Size Sets Costs els i' < s_l6Hits_mJ0 Size Sets Costs els i) ∧ (els = els) ∧ ((i + 1) = i') ∧ (Size = Size) ∧ (Sets = Sets) ∧ (Costs = Costs))))) ∧ ((decide (i < (Sets.length : Int))) = false → ((true = (hitsB Sets els)))))))
theorem s_l6Hits_vc (Size : Int) (Sets : List (List Int)) (Costs : List Int) (els : List Int)  (w_Sets : (Sets.length : Int) ≤ 9223372036854775807) (v_Sets : ∀ x9 ∈ Sets, (x9.length : Int) ≤ 9223372036854775807) (w_Costs : (Costs.length : Int) ≤ 9223372036854775807) (w_els : (els.length : Int) ≤ 9223372036854775807) : s_l6Hits_P Size Sets Costs els := by
  unfold s_l6Hits_P
  refine ⟨?_, ?_⟩
  · refine ⟨0, ?_⟩
    refine ⟨?_, rfl, rfl, rfl, rfl, rfl⟩
    · refine ⟨?_, ?_, ?_⟩
      · omega
      · omega
      · first | omega | rfl | (intro hg; simp only [nrmT] at hg; omega) | (intro g1 g2; simp [g1, g2]; done) | (intro g1; simp at g1 ⊢; simp [g1]; done) | (simp only [nrmT] at *; omega) | (simp at * <;> omega) | (simp_all <;> omega) | (simp_all; done)
  · intro i hJ
    obtain ⟨h1, h2, h3⟩ := hJ
    refine ⟨?_, ?_⟩
    · intro b1
      try simp only [nrmT] at b1
      refine ⟨rfl, ?_, ?_, ?_, s_l6New_pc (Sets.getD i.toNat []) els, ?_, ?_, ?_, ?_, ?_⟩
      · omega
      · omega
      · omega
      · omega
      · omega
      · omega
      · intro b2
        try simp only [nrmT] at b2
        exact (allTo_falseI h1 (by omega) (by rw [Bool.not_eq_false', beq_iff_eq]; exact b2)).symm
      · intro b3
        try simp only [nrmT] at b3
        refine ⟨?_, ?_⟩
        · omega
        · refine ⟨(i + 1), ?_⟩
          refine ⟨?_, ?_, rfl, rfl, rfl, rfl, rfl⟩
          · refine ⟨?_, ?_, ?_⟩
            · omega
            · omega
            · exact allTo_step h1 h3 (by rw [Bool.not_eq_true', beq_eq_false_iff_ne]; exact b3)
          · first | (show _ < _; omega) | (simp only [s_l6Hits_mJ0]; omega) | (simp only [s_l6Hits_mJ0] at *; simp at *; omega)
    · intro b4
      try simp only [nrmT] at b4
      unfold hitsB
      rw [← h3]; congr 1; omega
theorem s_l6Hits_pc (Size : Int) (Sets : List (List Int)) (Costs : List Int) (els : List Int)  : PC Try.prog 168 [.agg [.int .i64 Size, .sl (.rows Sets), .sl (.ints Costs)], .sl (.ints els)] (.one (.d (.bool (hitsB Sets els)))) :=
  pc_wf @Try.call168 fun hw => pc_by (by kernel_rfl) Try.func168 @Try.call168 (by kernel_rfl) s_l6Hits_C (s_l6Hits_A Size Sets Costs els) (by kernel_rfl) (s_l6Hits_vc Size Sets Costs els hw.1.2.1.1 hw.1.2.1.2 hw.1.2.2.1 hw.2.1) (by kernel_rfl)
def s_l6Hits_orc : List D → Orc := orcN [none, some .ints] fun ds => match ds with
  | [.agg [.int .i64 Size, .sl (.rows Sets), .sl (.ints Costs)], .sl (.ints els)] => some (.one (.d (.bool (hitsB Sets els))))
  | _ => none
def s_IsHitting_C (f : FuncId) (ds : List D) : Orc := bif Nat.beq f 122 then s_l6Good_orc ds else bif Nat.beq f 167 then s_l1Rising_orc ds else bif Nat.beq f 168 then s_l6Hits_orc ds else .no
def s_IsHitting_A (Size : Int) (Sets : List (List Int)) (Costs : List Int) (els : List Int) : Ann := .none
def s_IsHitting_P (Size : Int) (Sets : List (List Int)) (Costs : List Int) (els : List Int) : Prop :=
  (PC Try.prog 122 [.agg [.int .i64 Size, .sl (.rows Sets), .sl (.ints Costs)]] (.one (.d (.bool (goodSys Size Sets Costs))))) ∧ ((!(!(goodSys Size Sets Costs))) = true → (!(!(goodSys Size Sets Costs))) = true) ∧ ((!(!(goodSys Size Sets Costs))) = true → (!(!(goodSys Size Sets Costs))) = true) ∧ (((!(!(goodSys Size Sets Costs))) = true → -9223372036854775808 ≤ (Size - 1) ∧ (Size - 1) ≤ 9223372036854775807)) ∧ ((!(!(goodSys Size Sets Costs))) = true → (!(!(goodSys Size Sets Costs))) = true) ∧ ((!(!(goodSys Size Sets Costs))) = true → (!(!(goodSys Size Sets Costs))) = true) ∧ ((!(!(goodSys Size Sets Costs))) = true → PC Try.prog 167 [.sl (.ints els), .int .i64 0, .int .i64 (Size - 1)] (.one (.d (.bool (rising els 0 (Size - 1)))))) ∧ ((!(!(goodSys Size Sets Costs))) = true → (!(!(goodSys Size Sets Costs))) = true) ∧ (true = true) ∧ (((!(goodSys Size Sets Costs)) = true → true = true)) ∧ (((!(goodSys Size Sets Costs)) = false → (!(!(goodSys Size Sets Costs))) = true)) ∧ (((cond (!(goodSys Size Sets Costs)) true (!(rising els 0 (Size - 1)))) = true → ((false = ((goodSys Size Sets Costs && rising els 0 (Size - 1)) && hitsB Sets els)) ∧ (false = (goodSys Size Sets Costs && rising els 0 (Size - 1))))) ∧ ((cond (!(goodSys Size Sets Costs)) true (!(rising els 0 (Size - 1)))) = false → (PC Try.prog 168 [.agg [.int .i64 Size, .sl (.rows Sets), .sl (.ints Costs)], .sl (.ints els)] (.one (.d (.bool (hitsB Sets els))))) ∧ (((hitsB Sets els) = ((goodSys Size Sets Costs && rising els 0 (Size - 1)) && hitsB Sets els)) ∧ (true = (goodSys Size Sets Costs && rising els 0 (Size - 1))))))
theorem s_IsHitting_vc (Size : Int) (Sets : List (List Int)) (Costs : List Int) (els : List Int)  (w_Sets : (Sets.length : Int) ≤ 9223372036854775807) (v_Sets : ∀ x9 ∈ Sets, (x9.length : Int) ≤ 9223372036854775807) (w_Costs : (Costs.length : Int) ≤ 9223372036854775807) (w_els : (els.length : Int) ≤ 9223372036854775807) : s_IsHitting_P Size Sets Costs els := by
  unfold s_IsHitting_P
  refine ⟨s_l6Good_pc Size Sets Costs, id, id, ?_, id, id, fun _ => s_l1Rising_pc els 0 (Size - 1), id, rfl, fun _ => rfl, ?_, ?_, ?_⟩
  · intro hg; simp only [Bool.not_not] at hg; have := gs_facts hg; omega
  · first | omega | rfl | (intro hg; simp only [nrmT] at hg; omega) | (intro g1 g2; simp [g1, g2]; done) | (intro g1; simp at g1 ⊢; simp [g1]; done) | (simp only [nrmT] at *; omega) | (simp at * <;> omega) | (simp_all <;> omega) | (simp_all; done)
  · intro b1
    refine ⟨?_, ?_⟩
    · have hq : (goodSys Size Sets Costs && rising els 0 (Size - 1)) = false := by
        revert b1; cases goodSys Size Sets Costs <;> cases rising els 0 (Size - 1) <;> simp
      rw [hq]; rfl
    · have hq : (goodSys Size Sets Costs && rising els 0 (Size - 1)) = false := by
        revert b1; cases goodSys Size Sets Costs <;> cases rising els 0 (Size - 1) <;> simp
      exact hq.symm
  · intro b2
    refine ⟨s_l6Hits_pc Size Sets Costs els, ?_, ?_⟩
    · have hq : goodSys Size Sets Costs = true ∧ rising els 0 (Size - 1) = true := by
        revert b2; cases goodSys Size Sets Costs <;> cases rising els 0 (Size - 1) <;> simp
      rw [hq.1, hq.2]; rfl
    · have hq : goodSys Size Sets Costs = true ∧ rising els 0 (Size - 1) = true := by
        revert b2; cases goodSys Size Sets Costs <;> cases rising els 0 (Size - 1) <;> simp
      rw [hq.1, hq.2]; rfl
theorem s_IsHitting_pc (Size : Int) (Sets : List (List Int)) (Costs : List Int) (els : List Int)  : PC Try.prog 75 [.agg [.int .i64 Size, .sl (.rows Sets), .sl (.ints Costs)], .sl (.ints els)] (.tup [.d (.bool ((goodSys Size Sets Costs && rising els 0 (Size - 1)) && hitsB Sets els)), .d (.bool (goodSys Size Sets Costs && rising els 0 (Size - 1)))]) :=
  pc_wf @Try.call75 fun hw => pc_by (by kernel_rfl) Try.func75 @Try.call75 (by kernel_rfl) s_IsHitting_C (s_IsHitting_A Size Sets Costs els) (by kernel_rfl) (s_IsHitting_vc Size Sets Costs els hw.1.2.1.1 hw.1.2.1.2 hw.1.2.2.1 hw.2.1) (by kernel_rfl)
def s_IsHitting_orc : List D → Orc := orcN [none, some .ints] fun ds => match ds with
  | [.agg [.int .i64 Size, .sl (.rows Sets), .sl (.ints Costs)], .sl (.ints els)] => some (.tup [.d (.bool ((goodSys Size Sets Costs && rising els 0 (Size - 1)) && hitsB Sets els)), .d (.bool (goodSys Size Sets Costs && rising els 0 (Size - 1)))])
  | _ => none
abbrev i_System_turned_JJ0 (Size : Int) (Sets : List (List Int)) (Costs : List Int) (i : Int) (sz : Int) (rs : List (List Int)) (cs : List Int) : Prop := (sz = (Sets.length : Int)) ∧ (0 ≤ i) ∧ (i ≤ Size) ∧ (rs = tabTo (turnAt Sets) i.toNat) ∧ (cs = List.replicate i.toNat 1)
abbrev i_System_turned_mJ0 (Size : Int) (Sets : List (List Int)) (Costs : List Int) (i : Int) (sz : Int) (rs : List (List Int)) (cs : List Int) : Nat := (Size - i).toNat
abbrev i_System_turned_JJ1 (Size : Int) (Sets : List (List Int)) (Costs : List Int) (i : Int) (sz : Int) (rs : List (List Int)) (cs : List Int) (own : List Int) (k : Int) : Prop := (0 ≤ k) ∧ (k ≤ (Sets.length : Int)) ∧ (own = members (fun k => (Sets.getD k []).contains i) k.toNat)
abbrev i_System_turned_mJ1 (Size : Int) (Sets : List (List Int)) (Costs : List Int) (i : Int) (sz : Int) (rs : List (List Int)) (cs : List Int) (own : List Int) (k : Int) : Nat := (Sets.length - k).toNat
abbrev i_System_turned_JA1 (Size : Int) (Sets : List (List Int)) (Costs : List Int) (i : Int) (sz : Int) (rs : List (List Int)) (cs : List Int) (row : List Int) : Prop := (row = turnAt Sets i.toNat)
def i_System_turned_C (f : FuncId) (ds : List D) : Orc := bif Nat.beq f 181 then slices_Contains_int_int__orc ds else .no
def i_System_turned_A (Size : Int) (Sets : List (List Int)) (Costs : List Int) : Ann := .two (.none) (.two (.none) (.two (.two (.none) (.loop (cut4 (fun (i : Int) (sz : Int) (rs : List (List Int)) (cs : List Int) => i_System_turned_JJ0 Size Sets Costs i sz rs cs) (fun (i : Int) (sz : Int) (rs : List (List Int)) (cs : List Int) => [(1, .ptr 1 0), (2, .ptr 2 0), (3, .ptr 3 0), (13, .d false (.int .i64 Size)), (14, .d true (.int .i64 i))]) (fun (i : Int) (sz : Int) (rs : List (List Int)) (cs : List Int) => [(1, .box 36 [.d false (.int .i64 Size), .d false (.sl (.rows Sets)), .d false (.sl (.ints Costs))]), (2, .box 36 [.d true (.int .i64 0), .d true (.nil), .d true (.nil)]), (1000002, .arr true 26 (.rows rs)), (1000003, .arr true 3 (.ints cs)), (3, .box 36 [.d true (.int .i64 sz), .own 1000002 rs.length, .own 1000003 cs.length])])) (fun g => i_System_turned_mJ0 Size Sets Costs g.1 g.2.1 g.2.2.1 g.2.2.2) (fun g => (fun (i : Int) (sz : Int) (rs : List (List Int)) (cs : List Int) => .two (.none) (.two (.none) (.two (.two (.none) (.two (.none) (.cut (.two (.none) (.loop (cut2 (fun (own : List Int) (k : Int) => i_System_turned_JJ1 Size Sets Costs i sz rs cs own k) (fun (own : List Int) (k : Int) => [(1, .ptr 1 0), (2, .ptr 2 0), (3, .ptr 3 0), (4, .d true (.int .i64 i)), (5, .own 1000100 own.length), (13, .d false (.int .i64 Size)), (14, .d true (.int .i64 i)), (19, .d false (.sl (.rows Sets))), (20, .d true (.int .i64 (Sets.length : Int))), (21, .d true (.int .i64 k))]) (fun (own : List Int) (k : Int) => [(1000100, .arr true 3 (.ints own)), (1, .box 36 [.d false (.int .i64 Size), .d false (.sl (.rows Sets)), .d false (.sl (.ints Costs))]), (2, .box 36 [.d true (.int .i64 0), .d true (.nil), .d true (.nil)]), (3, .box 36 [.d true (.int .i64 sz), .own 1000002 rs.length, .own 1000003 cs.length]), (1000002, .arr true 26 (.rows rs)), (1000003, .arr true 3 (.ints cs))])) (fun g => i_System_turned_mJ1 Size Sets Costs i sz rs cs g.1 g.2) (fun _ => .none))) (cut1 (fun (row : List Int) => i_System_turned_JA1 Size Sets Costs i sz rs cs row) (fun (row : List Int) => [(1, .ptr 1 0), (2, .ptr 2 0), (3, .ptr 3 0), (5, .d true (.sl (.ints row))), (13, .d false (.int .i64 Size)), (14, .d true (.int .i64 i))]) (fun (row : List Int) => [(1, .box 36 [.d false (.int .i64 Size), .d false (.sl (.rows Sets)), .d false (.sl (.ints Costs))]), (2, .box 36 [.d true (.int .i64 0), .d true (.nil), .d true (.nil)]), (3, .box 36 [.d true (.int .i64 sz), .own 1000002 rs.length, .own 1000003 cs.length]), (1000002, .arr true 26 (.rows rs)), (1000003, .arr true 3 (.ints cs))])) (fun _ => .none)))) (.none)))) (g.1) (g.2.1) (g.2.2.1) (g.2.2.2)))) (.none)))
def i_System_turned_P (Size : Int) (Sets : List (List Int)) (Costs : List Int) : Prop :=
  ((∃ i' : Int, ∃ sz' : Int, ∃ rs' : List (List Int), ∃ cs' : List Int, (i_System_turned_JJ0 Size Sets Costs i' sz' rs' cs') ∧ (Size = Size) ∧ ((0 : Int) = i') ∧ (Size = Size) ∧ (Sets = Sets) ∧ (Costs = Costs) ∧ ((0 : Int) = 0) ∧ ((rs').length = 0) ∧ ((cs').length = 0) ∧ ((Sets.length : Int) = sz') ∧ ((0 : Nat) = rs'.length) ∧ ((0 : Nat) = cs'.length)) ∧ (∀ i : Int, ∀ sz : Int, ∀ rs : List (List Int), ∀ cs : List Int, (i_System_turned_JJ0 Size Sets Costs i sz rs cs) → (((decide (i < Size)) = true → ((((∃ own' : List Int, ∃ k' : Int, (i_System_turned_JJ1 Size Sets Costs i sz rs cs own' k') ∧ (i = i) ∧ ((0 : Nat) = own'.length) ∧ (Size = Size) ∧ (i = i) ∧ (Sets = Sets) ∧ ((Sets.length : Int) = (Sets.length : Int)) ∧ ((0 : Int) = k') ∧ ([] = own') ∧ (Size = Size) ∧ (Sets = Sets) ∧ (Costs = Costs) ∧ ((0 : Int) = 0) ∧ (sz = sz) ∧ (rs.length = rs.length) ∧ (cs.length = cs.length) ∧ (rs = rs) ∧ (cs = cs)) ∧ (∀ own : List Int, ∀ k : Int, (i_System_turned_JJ1 Size Sets Costs i sz rs cs own k) → (((decide (k < (Sets.length : Int))) = true → ((0 : Int) ≤ k) ∧ ((k : Int) < Sets.length) ∧ (k.toNat < Sets.length) ∧ (PC Try.prog 181 [.sl (.ints (Sets.getD k.toNat [])), .int .i64 i] (.one (.d (.bool ((Sets.getD k.toNat []).contains i))))) ∧ ((((Sets.getD k.toNat []).contains i) = true → (own.length = own.length) ∧ ((1 : Nat) = 1) ∧ ((own.length + 1) * 8 ≤ 140737488355328) ∧ (-9223372036854775808 ≤ (k + 1) ∧ (k + 1) ≤ 9223372036854775807) ∧ (∃ own' : List Int, ∃ k' : Int, (i_System_turned_JJ1 Size Sets Costs i sz rs cs own' k') ∧ (i_System_turned_mJ1 Size Sets Costs i sz rs cs own' k' < i_System_turned_mJ1 Size Sets Costs i sz rs cs own k) ∧ (i = i) ∧ ((own.length + 1) = own'.length) ∧ (Size = Size) ∧ (i = i) ∧ (Sets = Sets) ∧ ((Sets.length : Int) = (Sets.length : Int)) ∧ ((k + 1) = k') ∧ ((own ++ [k]) = own') ∧ (Size = Size) ∧ (Sets = Sets) ∧ (Costs = Costs) ∧ ((0 : Int) = 0) ∧ (sz = sz) ∧ (rs.length = rs.length) ∧ (cs.length = cs.length) ∧ (rs = rs) ∧ (cs = cs))) ∧ (((Sets.getD k.toNat []).contains i) = false → (-9223372036854775808 ≤ (k + 1) ∧ (k + 1) ≤ 9223372036854775807) ∧ (∃ own' : List Int, ∃ k' : Int, (i_System_turned_JJ1 Size Sets Costs i sz rs cs own' k') ∧ (i_System_turned_mJ1 Size Sets Costs i sz rs cs own' k' < i_System_turned_mJ1 Size Sets Costs i sz rs cs own k) ∧ (i = i) ∧ (own.length = own'.length) ∧ (Size = Size) ∧ (i = i) ∧ (Sets = Sets) ∧ ((Sets.length : Int) = (Sets.length : Int)) ∧ ((k + 1) = k') ∧ (own = own') ∧ (Size = Size) ∧ (Sets = Sets) ∧ (Costs = Costs) ∧ ((0 : Int) = 0) ∧ (sz = sz) ∧ (rs.length = rs.length) ∧ (cs.length = cs.length) ∧ (rs = rs) ∧ (cs = cs))))) ∧ ((decide (k < (Sets.length : Int))) = false → (∃ row' : List Int, (i_System_turned_JA1 Size Sets Costs i sz rs cs row') ∧ (own.length = own.length) ∧ (own = row') ∧ (Size = Size) ∧ (i = i) ∧ (Size = Size) ∧ (Sets = Sets) ∧ (Costs = Costs) ∧ ((0 : Int) = 0) ∧ (sz = sz) ∧ (rs.length = rs.length) ∧ (cs.length = cs.length) ∧ (rs = rs) ∧ (cs = cs))))))) ∧ (∀ row : List Int, (i_System_turned_JA1 Size Sets Costs i sz rs cs row) → (true = true) ∧ (rs.length = rs.length) ∧ ((1 : Nat) = 1) ∧ ((rs.length + 1) * 24 ≤ 140737488355328) ∧ (cs.length = cs.length) ∧ ((1 : Nat) = 1) ∧ ((cs.length + 1) * 8 ≤ 140737488355328) ∧ (-9223372036854775808 ≤ (i + 1) ∧ (i + 1) ≤ 9223372036854775807) ∧ (∃ i' : Int, ∃ sz' : Int, ∃ rs' : List (List Int), ∃ cs' : List Int, (i_System_turned_JJ0 Size Sets Costs i' sz' rs' cs') ∧ (i_System_turned_mJ0 Size Sets Costs i' sz' rs' cs' < i_System_turned_mJ0 Size Sets Costs i sz rs cs) ∧ (Size = Size) ∧ ((i + 1) = i') ∧ (Size = Size) ∧ (Sets = Sets) ∧ (Costs = Costs) ∧ ((0 : Int) = 0) ∧ ((rs ++ [row]) = rs') ∧ ((cs ++ [1]) = cs') ∧ (sz = sz') ∧ ((rs.length + 1) = rs'.length) ∧ ((cs.length + 1) = cs'.length))))) ∧ ((decide (i < Size)) = false → ((rs.length = rs.length) ∧ (cs.length = cs.length) ∧ ((.agg [.int .i64 sz, .sl (.rows rs), .sl (.ints cs)] : D) = .agg [.int .i64 (Sets.length : Int), .sl (.rows (turnR Sets Size.toNat)), .sl (.ints (List.replicate Size.toNat 1))]))))))
theorem i_System_turned_vc (Size : Int) (Sets : List (List Int)) (Costs : List Int) (hg : goodSys Size Sets Costs = true) (w_Sets : (Sets.length : Int) ≤ 9223372036854775807) (v_Sets : ∀ x9 ∈ Sets, (x9.length : Int) ≤ 9223372036854775807) (w_Costs : (Costs.length : Int) ≤ 9223372036854775807) : i_System_turned_P Size Sets Costs := by
  unfold i_System_turned_P
  have gf := gs_facts hg
  refine ⟨?_, ?_⟩
  · refine ⟨0, (Sets.length : Int), ([]), ([]), ?_⟩
    refine ⟨?_, rfl, rfl, rfl, rfl, rfl, rfl, ?_, ?_, rfl, rfl, rfl⟩
    · refine ⟨?_, ?_, ?_, ?_, ?_⟩
      · rfl
      · omega
      · omega
      · rfl
      · rfl
    · rfl
    · rfl
  · intro i sz rs cs hJ
    obtain ⟨h0, h1, h2, h3, h4⟩ := hJ
    refine ⟨?_, ?_⟩
    · intro b1
      try simp only [nrmT] at b1
      refine ⟨?_, ?_⟩
      · refine ⟨?_, ?_⟩
        · refine ⟨([]), 0, ?_⟩
          refine ⟨?_, rfl, rfl, rfl, rfl, rfl, rfl, rfl, ?_, rfl, rfl, rfl, rfl, rfl, rfl, rfl, rfl, rfl⟩
          · refine ⟨?_, ?_, ?_⟩
            · omega
            · omega
            · rfl
          · rfl
        · intro own k hJ
          obtain ⟨h5, h6, h7⟩ := hJ
          refine ⟨?_, ?_⟩
          · intro b2
            try simp only [nrmT] at b2
            refine ⟨?_, ?_, ?_, slices_Contains_int_int__pc (Sets.getD k.toNat []) i, ?_, ?_⟩
            · omega
            · omega
            · omega
            · intro b3
              try simp only [nrmT] at b3
              refine ⟨rfl, rfl, ?_, ?_, ?_⟩
              · rw [h7]; have := members_len_le (fun k => (Sets.getD k []).contains i) k.toNat; omega
              · omega
              · refine ⟨(own ++ [k]), (k + 1), ?_⟩
                refine ⟨?_, ?_, rfl, ?_, rfl, rfl, rfl, rfl, rfl, rfl, rfl, rfl, rfl, rfl, rfl, rfl, rfl, rfl, rfl⟩
                · refine ⟨?_, ?_, ?_⟩
                  · omega
                  · omega
                  · rw [h7, show (k + 1).toNat = k.toNat + 1 by omega, members_succ, if_pos b3, show ((k.toNat : Nat) : Int) = k by omega]
                · first | (show _ < _; omega) | (simp only [i_System_turned_mJ1]; omega) | (simp only [i_System_turned_mJ1] at *; simp at *; omega)
                · simp
            · intro b4
              try simp only [nrmT] at b4
              refine ⟨?_, ?_⟩
              · omega
              · refine ⟨own, (k + 1), ?_⟩
                refine ⟨?_, ?_, rfl, rfl, rfl, rfl, rfl, rfl, rfl, rfl, rfl, rfl, rfl, rfl, rfl, rfl, rfl, rfl, rfl⟩
                · refine ⟨?_, ?_, ?_⟩
                  · omega
                  · omega
                  · rw [h7, show (k + 1).toNat = k.toNat + 1 by omega, members_succ, if_neg (by rw [b4]; decide), List.append_nil]
                · first | (show _ < _; omega) | (simp only [i_System_turned_mJ1]; omega) | (simp only [i_System_turned_mJ1] at *; simp at *; omega)
          · intro b5
            try simp only [nrmT] at b5
            refine ⟨own, ?_⟩
            refine ⟨?_, rfl, rfl, rfl, rfl, rfl, rfl, rfl, rfl, rfl, rfl, rfl, rfl, rfl⟩
            · unfold i_System_turned_JA1
              rw [h7]
              unfold turnAt
              rw [show k.toNat = Sets.length by omega, show ((i.toNat : Nat) : Int) = i by omega]
      · intro row hJ
        have h8 := hJ
        refine ⟨rfl, rfl, rfl, ?_, rfl, rfl, ?_, ?_, ?_⟩
        · rw [h3, tabTo_len]; omega
        · rw [h4, List.length_replicate]; omega
        · omega
        · refine ⟨(i + 1), sz, (rs ++ [row]), (cs ++ [1]), ?_⟩
          refine ⟨?_, ?_, rfl, rfl, rfl, rfl, rfl, rfl, rfl, rfl, rfl, ?_, ?_⟩
          · refine ⟨?_, ?_, ?_, ?_, ?_⟩
            · assumption
            · omega
            · omega
            · rw [h3, h8, show (i + 1).toNat = i.toNat + 1 by omega, tabTo_succ]
            · rw [h4, show (i + 1).toNat = i.toNat + 1 by omega, List.replicate_succ']
          · first | (show _ < _; omega) | (simp only [i_System_turned_mJ0]; omega) | (simp only [i_System_turned_mJ0] at *; simp at *; omega)
          · simp
          · simp
    · intro b6
      try simp only [nrmT] at b6
      refine ⟨rfl, rfl, ?_⟩
      · rw [h0, h3, h4, show i.toNat = Size.toNat by omega]; rfl
theorem i_System_turned_pc (Size : Int) (Sets : List (List Int)) (Costs : List Int) (hg : goodSys Size Sets Costs = true) : PC Try.prog 124 [.agg [.int .i64 Size, .sl (.rows Sets), .sl (.ints Costs)]] (.one (.d (.agg [.int .i64 (Sets.length : Int), .sl (.rows (turnR Sets Size.toNat)), .sl (.ints (List.replicate Size.toNat 1))]))) :=
  pc_wf @Try.call124 fun hw => pc_by (by kernel_rfl) Try.func124 @Try.call124 (by kernel_rfl) i_System_turned_C (i_System_turned_A Size Sets Costs) (by kernel_rfl) (i_System_turned_vc Size Sets Costs hg hw.1.2.1.1 hw.1.2.1.2 hw.1.2.2.1) (by kernel_rfl)
def i_System_turned_orc : List D → Orc := orcN [none] fun ds => match ds with
  | [.agg [.int .i64 Size, .sl (.rows Sets), .sl (.ints Costs)]] => some (.one (.d (.agg [.int .i64 (Sets.length : Int), .sl (.rows (turnR Sets Size.toNat)), .sl (.ints (List.replicate Size.toNat 1))])))
  | _ => none
def i_IsHitting_C (f : FuncId) (ds : List D) : Orc := bif Nat.beq f 76 then i_IsSystem_orc ds else bif Nat.beq f 130 then i_isRising_orc ds else bif Nat.beq f 124 then i_System_turned_orc ds else bif Nat.beq f 166 then i_System_isCover_orc ds else .no
def i_IsHitting_A (Size : Int) (Sets : List (List Int)) (Costs : List Int) (els : List Int) : Ann := .none
def i_IsHitting_P (Size : Int) (Sets : List (List Int)) (Costs : List Int) (els : List Int) : Prop :=
  (PC Try.prog 76 [.agg [.int .i64 Size, .sl (.rows Sets), .sl (.ints Costs)]] (.one (.d (.bool (goodSys Size Sets Costs))))) ∧ ((!(!(goodSys Size Sets Costs))) = true → (!(!(goodSys Size Sets Costs))) = true) ∧ ((!(!(goodSys Size Sets Costs))) = true → (!(!(goodSys Size Sets Costs))) = true) ∧ ((!(!(goodSys Size Sets Costs))) = true → (!(!(goodSys Size Sets Costs))) = true) ∧ ((!(!(goodSys Size Sets Costs))) = true → PC Try.prog 130 [.sl (.ints els), .int .i64 Size] (.one (.d (.bool (rising els 0 (Size - 1)))))) ∧ ((!(!(goodSys Size Sets Costs))) = true → (!(!(goodSys Size Sets Costs))) = true) ∧ (true = true) ∧ (((!(goodSys Size Sets Costs)) = true → true = true)) ∧ (((!(goodSys Size Sets Costs)) = false → (!(!(goodSys Size Sets Costs))) = true)) ∧ (((cond (!(goodSys Size Sets Costs)) true (!(rising els 0 (Size - 1)))) = true → ((false = ((goodSys Size Sets Costs && rising els 0 (Size - 1)) && hitsB Sets els)) ∧ (false = (goodSys Size Sets Costs && rising els 0 (Size - 1))))) ∧ ((cond (!(goodSys Size Sets Costs)) true (!(rising els 0 (Size - 1)))) = false → (PC Try.prog 124 [.agg [.int .i64 Size, .sl (.rows Sets), .sl (.ints Costs)]] (.one (.d (.agg [.int .i64 (Sets.length : Int), .sl (.rows (turnR Sets Size.toNat)), .sl (.ints (List.replicate Size.toNat 1))])))) ∧ (PC Try.prog 166 [.agg [.int .i64 (Sets.length : Int), .sl (.rows (turnR Sets Size.toNat)), .sl (.ints (List.replicate Size.toNat 1))], .sl (.ints els)] (.one (.d (.bool (coverB (Sets.length : Int) (turnR Sets Size.toNat) els))))) ∧ (((coverB (Sets.length : Int) (turnR Sets Size.toNat) els) = ((goodSys Size Sets Costs && rising els 0 (Size - 1)) && hitsB Sets els)) ∧ (true = (goodSys Size Sets Costs && rising els 0 (Size - 1))))))
theorem i_IsHitting_vc (Size : Int) (Sets : List (List Int)) (Costs : List Int) (els : List Int)  (w_Sets : (Sets.length : Int) ≤ 9223372036854775807) (v_Sets : ∀ x9 ∈ Sets, (x9.length : Int) ≤ 9223372036854775807) (w_Costs : (Costs.length : Int) ≤ 9223372036854775807) (w_els : (els.length : Int) ≤ 9223372036854775807) : i_IsHitting_P Size Sets Costs els := by
  unfold i_IsHitting_P
  refine ⟨i_IsSystem_pc Size Sets Costs, id, id, id, ?_, id, rfl, fun _ => rfl, ?_, ?_, ?_⟩
  · intro hg
    refine i_isRising_pc els Size ?_
    · have := gs_facts (show goodSys Size Sets Costs = true by simpa using hg)
      omega
  · first | omega | rfl | (intro hg; simp only [nrmT] at hg; omega) | (intro g1 g2; simp [g1, g2]; done) | (intro g1; simp at g1 ⊢; simp [g1]; done) | (simp only [nrmT] at *; omega) | (simp at * <;> omega) | (simp_all <;> omega) | (simp_all; done)
  · intro b1
    refine ⟨?_, ?_⟩
    · have hq : (goodSys Size Sets Costs && rising els 0 (Size - 1)) = false := by
        revert b1; cases goodSys Size Sets Costs <;> cases rising els 0 (Size - 1) <;> simp
      rw [hq]; rfl
    · have hq : (goodSys Size Sets Costs && rising els 0 (Size - 1)) = false := by
        revert b1; cases goodSys Size Sets Costs <;> cases rising els 0 (Size - 1) <;> simp
      exact hq.symm
  · intro b2
    refine ⟨?_, ?_, ?_, ?_⟩
    · refine i_System_turned_pc Size Sets Costs ?_
      · have hq : goodSys Size Sets Costs = true ∧ rising els 0 (Size - 1) = true := by
          revert b2; cases goodSys Size Sets Costs <;> cases rising els 0 (Size - 1) <;> simp
        exact hq.1
    · refine i_System_isCover_pc (Sets.length : Int) (turnR Sets Size.toNat) (List.replicate Size.toNat 1) els ?_ ?_
      · have hg : goodSys Size Sets Costs = true := by
          revert b2; cases goodSys Size Sets Costs <;> simp
        exact turn_good hg
      · have hq : goodSys Size Sets Costs = true ∧ rising els 0 (Size - 1) = true := by
          revert b2; cases goodSys Size Sets Costs <;> cases rising els 0 (Size - 1) <;> simp
        rw [show ((turnR Sets Size.toNat).length : Int) = Size by have := gs_facts hq.1; unfold turnR; rw [tabTo_len]; omega]
        exact hq.2
    · have hq : goodSys Size Sets Costs = true ∧ rising els 0 (Size - 1) = true := by
        revert b2; cases goodSys Size Sets Costs <;> cases rising els 0 (Size - 1) <;> simp
      rw [hits_turn hq.2, hq.1, hq.2]; rfl
    · have hq : goodSys Size Sets Costs = true ∧ rising els 0 (Size - 1) = true := by
        revert b2; cases goodSys Size Sets Costs <;> cases rising els 0 (Size - 1) <;> simp
      rw [hq.1, hq.2]; rfl
theorem i_IsHitting_pc (Size : Int) (Sets : List (List Int)) (Costs : List Int) (els : List Int)  : PC Try.prog 74 [.agg [.int .i64 Size, .sl (.rows Sets), .sl (.ints Costs)], .sl (.ints els)] (.tup [.d (.bool ((goodSys Size Sets Costs && rising els 0 (Size - 1)) && hitsB Sets els)), .d (.bool (goodSys Size Sets Costs && rising els 0 (Size - 1)))]) :=
  pc_wf @Try.call74 fun hw => pc_by (by kernel_rfl) Try.func74 @Try.call74 (by kernel_rfl) i_IsHitting_C (i_IsHitting_A Size Sets Costs els) (by kernel_rfl) (i_IsHitting_vc Size Sets Costs els hw.1.2.1.1 hw.1.2.1.2 hw.1.2.2.1 hw.2.1) (by kernel_rfl)
def i_IsHitting_orc : List D → Orc := orcN [none, some .ints] fun ds => match ds with
  | [.agg [.int .i64 Size, .sl (.rows Sets), .sl (.ints Costs)], .sl (.ints els)] => some (.tup [.d (.bool ((goodSys Size Sets Costs && rising els 0 (Size - 1)) && hitsB Sets els)), .d (.bool (goodSys Size Sets Costs && rising els 0 (Size - 1)))])
  | _ => none
theorem lt62 {b x : Int} (hb : 0 ≤ b ∧ b ≤ 4611686018427387903) (h2 : x ≤ 62) (h : 0 < b / 2 ^ x.toNat) : x < 62 := by
  by_cases e : x = 62
  · subst e
    have e2 : (2 : Int) ^ (62 : Int).toNat = 4611686018427387904 := by decide
    rw [e2] at h
    omega
  · omega
theorem bit_out {b : Int} {m : Nat} (hb : 0 ≤ b) (h : ¬ 0 < b / 2 ^ m) (k : Nat) (hk : m ≤ k) : b.toNat.testBit k = false := by
  have h1 : b.toNat / 2 ^ m = 0 := by
    have h2 : ((b.toNat / 2 ^ m : Nat) : Int) = b / 2 ^ m := by
      rw [Int.natCast_ediv, Int.toNat_of_nonneg hb]; simp
    have h3 : (0 : Int) ≤ ((b.toNat / 2 ^ m : Nat) : Int) := Int.natCast_nonneg _
    omega
  have h4 : b.toNat < 2 ^ m := (Nat.div_eq_zero_iff_lt (Nat.two_pow_pos m)).1 h1
  exact Nat.testBit_lt_two_pow (Nat.lt_of_lt_of_le h4 (Nat.pow_le_pow_right (by omega) hk))
theorem members_stop {p : Nat → Bool} {m : Nat} (h : ∀ k, m ≤ k → p k = false) : ∀ n, m ≤ n → members p n = members p m
  | 0, hn => by have : m = 0 := by omega
                rw [this]
  | n + 1, hn => by
    by_cases e : m = n + 1
    · rw [e]
    · rw [members_succ, members_stop h n (by omega), h n (by omega)]; simp
theorem rising_lt {xs : List Int} {lo hi : Int} (h : rising xs lo hi = true) {i : Nat} : ∀ {j : Nat}, i < j → j < xs.length → xs.getD i 0 < xs.getD j 0
  | 0, hi, _ => by omega
  | j + 1, hi, hj => by
    have h1 := allTo_iff.1 h (j + 1) hj
    simp only [risingP, Bool.and_eq_true, Bool.or_eq_true, decide_eq_true_eq, Nat.add_sub_cancel] at h1
    have h2 := h1.2
    by_cases e : i = j
    · subst e; omega
    · have := rising_lt h (i := i) (j := j) (by omega) (by omega)
      omega
def s_l1Most_C (f : FuncId) (ds : List D) : Orc := .no
def s_l1Most_A (a : Int) (b : Int) : Ann := .none
def s_l1Most_P (a : Int) (b : Int) : Prop :=
  (((decide (a > b)) = true → ((a = (max a b)))) ∧ ((decide (a > b)) = false → ((b = (max a b)))))
theorem s_l1Most_vc (a : Int) (b : Int)   : s_l1Most_P a b := by
  unfold s_l1Most_P
  refine ⟨?_, ?_⟩
  · intro b1
    try simp only [nrmT] at b1
    omega
  · intro b2
    try simp only [nrmT] at b2
    omega
theorem s_l1Most_pc (a : Int) (b : Int)  : PC Try.prog 152 [.int .i64 a, .int .i64 b] (.one (.d (.int .i64 (max a b)))) :=
  pc_wf @Try.call152 fun _ => pc_by (by kernel_rfl) Try.func152 @Try.call152 (by kernel_rfl) s_l1Most_C (s_l1Most_A a b) (by kernel_rfl) (s_l1Most_vc a b) (by kernel_rfl)
def s_l1Most_orc : List D → Orc := orcN [none, none] fun ds => match ds with
  | [.int .i64 a, .int .i64 b] => some (.one (.d (.int .i64 (max a b))))
  | _ => none
theorem asc_rising {xs : List Int} {lo hi : Int} (h : rising xs lo hi = true) : Asc xs := by
  refine List.pairwise_iff_getElem.2 fun i j hi hj hij => ?_
  have := rising_lt h hij hj
  rwa [getD_get hi, getD_get hj] at this
theorem newOf_bound (set cov : List Int) : 0 ≤ newOf set cov ∧ newOf set cov ≤ set.length := by
  have := newTo_bound (set := set) (cov := cov) set.length
  unfold newOf; omega
theorem set_bag {Size : Int} {Sets : List (List Int)} {Costs : List Int} (h : goodSys Size Sets Costs = true) {k : Nat} (hk : k < Sets.length) : bagN (Sets.getD k []) < 256 :=
  bagN_lt (m := 8) fun y hy => set_mem h hk y hy
abbrev InR (Sets : List (List Int)) (out : List Int) : Prop := ∀ c ∈ out, 0 ≤ c ∧ c < (Sets.length : Int)
def allN (n : Nat) : List Int := members (fun _ => true) n
theorem cover_all {Size : Int} {Sets : List (List Int)} {out : List Int} (hc : InR Sets out) (h : coverB Size Sets out = true) : coverB Size Sets (allN Sets.length) = true := by
  unfold coverB at *
  rw [allTo_iff] at *
  intro k hk
  obtain ⟨j, h1, h2⟩ := covB_iff.1 (h k hk)
  have h3 := hc _ (getD_mem (d := 0) h1)
  have h4 : out.getD j 0 ∈ allN Sets.length := mem_members.2 ⟨h3.1, h3.2, rfl⟩
  obtain ⟨m, h5, h6⟩ := List.mem_iff_getElem.1 h4
  exact covB_iff.2 ⟨m, h5, by rw [getD_get h5, h6]; exact h2⟩
theorem allN_bits {n : Nat} : members (fun k => (2 ^ n - 1).testBit k) n = allN n :=
  members_congr fun k hk => by simp [Nat.testBit_two_pow_sub_one, hk]
theorem all_rising (n : Nat) : rising (allN n) 0 ((n : Int) - 1) = true :=
  rising_asc (asc_members _ _) fun x hx => by have := mem_members.1 hx; omega
abbrev s_l2Bits_JJ0 (n : Int) (code : Int) (out : List Int) (x : Int) : Prop := (0 ≤ x) ∧ (x ≤ n) ∧ (out = members (fun k => code.toNat.testBit k) x.toNat)
abbrev s_l2Bits_mJ0 (n : Int) (code : Int) (out : List Int) (x : Int) : Nat := (n - x).toNat
def s_l2Bits_C (f : FuncId) (ds : List D) : Orc := .no
def s_l2Bits_A (n : Int) (code : Int) : Ann := .two (.none) (.two (.none) (.two (.two (.none) (.loop (cut2 (fun (out : List Int) (x : Int) => s_l2Bits_JJ0 n code out x) (fun (out : List Int) (x : Int) => [(0, .d false (.int .i64 n)), (1, .d false (.int .i64 code)), (5, .own 1000000 out.length), (6, .d true (.int .i64 x))]) (fun (out : List Int) (x : Int) => [(1000000, .arr true 3 (.ints out))])) (fun g => s_l2Bits_mJ0 n code g.1 g.2) (fun _ => .none))) (.none)))
def s_l2Bits_P (n : Int) (code : Int) : Prop :=
  ((∃ out' : List Int, ∃ x' : Int, (s_l2Bits_JJ0 n code out' x') ∧ (n = n) ∧ (code = code) ∧ ((0 : Nat) = out'.length) ∧ ((0 : Int) = x') ∧ ([] = out')) ∧ (∀ out : List Int, ∀ x : Int, (s_l2Bits_JJ0 n code out x) → (((decide (x < n)) = true → ((0 : Int) ≤ code ∧ (code : Int) ≤ 9223372036854775807) ∧ ((0 : Int) ≤ x) ∧ ((0 : Int) ≤ (code / 2 ^ x.toNat) ∧ ((code / 2 ^ x.toNat) : Int) ≤ 9223372036854775807) ∧ ((0 : Int) ≤ 1 ∧ (1 : Int) ≤ 9223372036854775807) ∧ ((((((code / 2 ^ x.toNat).toNat &&& 1 : Nat) : Int) == 1) = true → (out.length = out.length) ∧ ((1 : Nat) = 1) ∧ ((out.length + 1) * 8 ≤ 140737488355328) ∧ (-9223372036854775808 ≤ (x + 1) ∧ (x + 1) ≤ 9223372036854775807) ∧ (∃ out' : List Int, ∃ x' : Int, (s_l2Bits_JJ0 n code out' x') ∧ (s_l2Bits_mJ0 n code out' x' < s_l2Bits_mJ0 n code out x) ∧ (n = n) ∧ (code = code) ∧ ((out.length + 1) = out'.length) ∧ ((x + 1) = x') ∧ ((out ++ [x]) = out'))) ∧ (((((code / 2 ^ x.toNat).toNat &&& 1 : Nat) : Int) == 1) = false → (-9223372036854775808 ≤ (x + 1) ∧ (x + 1) ≤ 9223372036854775807) ∧ (∃ out' : List Int, ∃ x' : Int, (s_l2Bits_JJ0 n code out' x') ∧ (s_l2Bits_mJ0 n code out' x' < s_l2Bits_mJ0 n code out x) ∧ (n = n) ∧ (code = code) ∧ (out.length = out'.length) ∧ ((x + 1) = x') ∧ (out = out'))))) ∧ ((decide (x < n)) = false → ((out.length = out.length) ∧ ((out : List Int) = (members (fun k => code.toNat.testBit k) n.toNat)))))))
theorem s_l2Bits_vc (n : Int) (code : Int) (hn : 0 ≤ n ∧ n ≤ 62) (hc : 0 ≤ code ∧ code ≤ 4611686018427387903)  : s_l2Bits_P n code := by
  unfold s_l2Bits_P
  refine ⟨?_, ?_⟩
  · refine ⟨([]), 0, ?_⟩
    refine ⟨?_, rfl, rfl, rfl, rfl, ?_⟩
    · refine ⟨?_, ?_, ?_⟩
      · omega
      · omega
      · first | omega | rfl | (intro hg; simp only [nrmT] at hg; omega) | (intro g1 g2; simp [g1, g2]; done) | (intro g1; simp at g1 ⊢; simp [g1]; done) | (simp only [nrmT] at *; omega) | (simp at * <;> omega) | (simp_all <;> omega) | (simp_all; done)
    · first | omega | rfl | (intro hg; simp only [nrmT] at hg; omega) | (intro g1 g2; simp [g1, g2]; done) | (intro g1; simp at g1 ⊢; simp [g1]; done) | (simp only [nrmT] at *; omega) | (simp at * <;> omega) | (simp_all <;> omega) | (simp_all; done)
  · intro out x hJ
    obtain ⟨h1, h2, h3⟩ := hJ
    refine ⟨?_, ?_⟩
    · intro b1
      try simp only [nrmT] at b1
      refine ⟨?_, ?_, ?_, ?_, ?_, ?_⟩
      · omega
      · omega
      · have h5 : 0 ≤ code / 2 ^ x.toNat := Int.ediv_nonneg hc.1 (Int.le_of_lt (Int.pow_pos (by omega)))
        have h6 : code / 2 ^ x.toNat ≤ code := Int.ediv_le_self _ hc.1
        omega
      · omega
      · intro b2
        try simp only [nrmT] at b2
        refine ⟨rfl, rfl, ?_, ?_, ?_⟩
        · rw [h3]; have := members_len_le (fun k => code.toNat.testBit k) x.toNat; omega
        · omega
        · refine ⟨(out ++ [x]), (x + 1), ?_⟩
          refine ⟨?_, ?_, rfl, rfl, ?_, rfl, rfl⟩
          · refine ⟨?_, ?_, ?_⟩
            · omega
            · omega
            · have hb := shr_bit (n := code.toNat) (k := x.toNat)
              rw [show ((code.toNat : Nat) : Int) = code by omega] at hb
              have ht : code.toNat.testBit x.toNat = true := by
                cases h : code.toNat.testBit x.toNat with
                | true => rfl
                | false => rw [h] at hb; simp at hb; simp at b2; omega
              rw [h3, show (x + 1).toNat = x.toNat + 1 by omega, members_succ, if_pos ht, show ((x.toNat : Nat) : Int) = x by omega]
          · first | (show _ < _; omega) | (simp only [s_l2Bits_mJ0]; omega) | (simp only [s_l2Bits_mJ0] at *; simp at *; omega)
          · simp
      · intro b3
        try simp only [nrmT] at b3
        refine ⟨?_, ?_⟩
        · omega
        · refine ⟨out, (x + 1), ?_⟩
          refine ⟨?_, ?_, rfl, rfl, rfl, rfl, rfl⟩
          · refine ⟨?_, ?_, ?_⟩
            · omega
            · omega
            · have hb := shr_bit (n := code.toNat) (k := x.toNat)
              rw [show ((code.toNat : Nat) : Int) = code by omega] at hb
              have ht : code.toNat.testBit x.toNat = false := by
                cases h : code.toNat.testBit x.toNat with
                | false => rfl
                | true => rw [h] at hb; simp at hb; simp at b3; omega
              rw [h3, show (x + 1).toNat = x.toNat + 1 by omega, members_succ, ht]; simp
          · first | (show _ < _; omega) | (simp only [s_l2Bits_mJ0]; omega) | (simp only [s_l2Bits_mJ0] at *; simp at *; omega)
    · intro b4
      try simp only [nrmT] at b4
      refine ⟨rfl, ?_⟩
      · rw [h3, show x.toNat = n.toNat by omega]
theorem s_l2Bits_pc (n : Int) (code : Int) (hn : 0 ≤ n ∧ n ≤ 62) (hc : 0 ≤ code ∧ code ≤ 4611686018427387903) : PC Try.prog 164 [.int .i64 n, .int .i64 code] (.one (.d (.sl (.ints (members (fun k => code.toNat.testBit k) n.toNat))))) :=
  pc_wf @Try.call164 fun _ => pc_by (by kernel_rfl) Try.func164 @Try.call164 (by kernel_rfl) s_l2Bits_C (s_l2Bits_A n code) (by kernel_rfl) (s_l2Bits_vc n code hn hc) (by kernel_rfl)
def s_l2Bits_orc : List D → Orc := orcN [none, none] fun ds => match ds with
  | [.int .i64 n, .int .i64 code] => some (.one (.d (.sl (.ints (members (fun k => code.toNat.testBit k) n.toNat)))))
  | _ => none
def s_l6All_C (f : FuncId) (ds : List D) : Orc := bif Nat.beq f 164 then s_l2Bits_orc ds else .no
def s_l6All_A (Size : Int) (Sets : List (List Int)) (Costs : List Int) : Ann := .none
def s_l6All_P (Size : Int) (Sets : List (List Int)) (Costs : List Int) : Prop :=
  (true = true) ∧ ((0 : Int) ≤ 1) ∧ ((0 : Int) ≤ (Sets.length : Int)) ∧ ((0 : Int) ≤ ((1 : Int) * 2 ^ ((Sets.length : Int).toNat)) ∧ (((1 : Int) * 2 ^ ((Sets.length : Int).toNat)) : Int) ≤ 9223372036854775807) ∧ (-9223372036854775808 ≤ (((1 : Int) * 2 ^ ((Sets.length : Int).toNat)) - 1) ∧ (((1 : Int) * 2 ^ ((Sets.length : Int).toNat)) - 1) ≤ 9223372036854775807) ∧ (PC Try.prog 164 [.int .i64 (Sets.length : Int), .int .i64 (((1 : Int) * 2 ^ ((Sets.length : Int).toNat)) - 1)] (.one (.d (.sl (.ints (members (fun k => (((1 : Int) * 2 ^ ((Sets.length : Int).toNat)) - 1).toNat.testBit k) (Sets.length : Int).toNat)))))) ∧ ((((members (fun k => (((1 : Int) * 2 ^ ((Sets.length : Int).toNat)) - 1).toNat.testBit k) (Sets.length : Int).toNat) : List Int) = (allN Sets.length)))
theorem s_l6All_vc (Size : Int) (Sets : List (List Int)) (Costs : List Int) (hg : goodSys Size Sets Costs = true) (w_Sets : (Sets.length : Int) ≤ 9223372036854775807) (v_Sets : ∀ x9 ∈ Sets, (x9.length : Int) ≤ 9223372036854775807) (w_Costs : (Costs.length : Int) ≤ 9223372036854775807) : s_l6All_P Size Sets Costs := by
  unfold s_l6All_P
  have gf := gs_facts hg
  have h7 := pow_le (x := (Sets.length : Int)) (m := 8) (by omega)
  have h8 := one_pow (x := (Sets.length : Int))
  have h9 := Nat.two_pow_pos (Sets.length : Int).toNat
  have he : (2 : Nat) ^ 8 = 256 := by decide
  have e0 : (Sets.length : Int).toNat = Sets.length := Int.toNat_natCast _
  refine ⟨rfl, ?_, ?_, ?_, ?_, ?_, ?_⟩
  · omega
  · omega
  · omega
  · omega
  · refine s_l2Bits_pc (Sets.length : Int) (((1 : Int) * 2 ^ ((Sets.length : Int).toNat)) - 1) ?_ ?_
    · omega
    · omega
  · rw [e0, ← allN_bits]
    refine members_congr fun k _ => ?_
    rw [e0] at h8
    congr 1
    rw [← h8]; omega
theorem s_l6All_pc (Size : Int) (Sets : List (List Int)) (Costs : List Int) (hg : goodSys Size Sets Costs = true) : PC Try.prog 192 [.agg [.int .i64 Size, .sl (.rows Sets), .sl (.ints Costs)]] (.one (.d (.sl (.ints (allN Sets.length))))) :=
  pc_wf @Try.call192 fun hw => pc_by (by kernel_rfl) Try.func192 @Try.call192 (by kernel_rfl) s_l6All_C (s_l6All_A Size Sets Costs) (by kernel_rfl) (s_l6All_vc Size Sets Costs hg hw.1.2.1.1 hw.1.2.1.2 hw.1.2.2.1) (by kernel_rfl)
def s_l6All_orc : List D → Orc := orcN [none] fun ds => match ds with
  | [.agg [.int .i64 Size, .sl (.rows Sets), .sl (.ints Costs)]] => some (.one (.d (.sl (.ints (allN Sets.length)))))
  | _ => none
def cmpI (a b : Int) : Int := if a < b then -1 else if a > b then 1 else 0
def cmpL : List Int → List Int → Int
  | [], [] => 0
  | [], _ :: _ => -1
  | _ :: _, [] => 1
  | x :: r, y :: s => if x < y then -1 else if x > y then 1 else cmpL r s
theorem cmpL_drop {xs ys : List Int} {i : Nat} (h : cmpL xs ys = cmpL (xs.drop i) (ys.drop i)) (h1 : i < xs.length) (h2 : i < ys.length) :
    cmpL xs ys = if xs.getD i 0 < ys.getD i 0 then -1 else if xs.getD i 0 > ys.getD i 0 then 1 else cmpL (xs.drop (i + 1)) (ys.drop (i + 1)) := by
  rw [h, List.drop_eq_getElem_cons h1, List.drop_eq_getElem_cons h2, getD_get h1, getD_get h2]
  rfl
theorem cmpL_short {xs ys : List Int} {i : Nat} (h : cmpL xs ys = cmpL (xs.drop i) (ys.drop i)) (h1 : i < xs.length) (h2 : ys.length ≤ i) : cmpL xs ys = 1 := by
  rw [h, List.drop_eq_getElem_cons h1, List.drop_eq_nil_of_le h2]
  rfl
theorem cmpL_end {xs ys : List Int} {i : Nat} (h : cmpL xs ys = cmpL (xs.drop i) (ys.drop i)) (h1 : xs.length ≤ i) (h2 : i ≤ ys.length) (h3 : i = xs.length) : cmpL xs ys = if xs.length < ys.length then -1 else 0 := by
  rw [h, List.drop_eq_nil_of_le h1]
  by_cases e : xs.length < ys.length
  · rw [if_pos e, List.drop_eq_getElem_cons (by omega)]
    rfl
  · rw [if_neg e, List.drop_eq_nil_of_le (by omega)]
    rfl
def cmp_isNaN_int__C (f : FuncId) (ds : List D) : Orc := .no
def cmp_isNaN_int__A (x : Int) : Ann := .none
def cmp_isNaN_int__P (x : Int) : Prop :=
  (((x != x) = false))
theorem cmp_isNaN_int__vc (x : Int)   : cmp_isNaN_int__P x := by
  unfold cmp_isNaN_int__P
  simp
theorem cmp_isNaN_int__pc (x : Int)  : PC Try.prog 231 [.int .i64 x] (.one (.d (.bool false))) :=
  pc_wf @Try.call231 fun _ => pc_by (by kernel_rfl) Try.func231 @Try.call231 (by kernel_rfl) cmp_isNaN_int__C (cmp_isNaN_int__A x) (by kernel_rfl) (cmp_isNaN_int__vc x) (by kernel_rfl)
def cmp_isNaN_int__orc : List D → Orc := orcN [none] fun ds => match ds with
  | [.int .i64 x] => some (.one (.d (.bool false)))
  | _ => none
def cmp_Compare_int__C (f : FuncId) (ds : List D) : Orc := bif Nat.beq f 231 then cmp_isNaN_int__orc ds else .no
def cmp_Compare_int__A (a : Int) (b : Int) : Ann := .two (.none) (.two (.none) (.two (.none) (.two (.two (.none) (.goF (.none))) (.two (.two (.none) (.goF (.none))) (.none)))))
def cmp_Compare_int__P (a : Int) (b : Int) : Prop :=
  (PC Try.prog 231 [.int .i64 a] (.one (.d (.bool false)))) ∧ (PC Try.prog 231 [.int .i64 b] (.one (.d (.bool false)))) ∧ (false = false) ∧ (false = false) ∧ (((decide (a < b)) = true → ((((-1) : Int) = (cmpI a b)))) ∧ ((decide (a < b)) = false → (((decide (a > b)) = true → (((1 : Int) = (cmpI a b)))) ∧ ((decide (a > b)) = false → (((0 : Int) = (cmpI a b)))))))
theorem cmp_Compare_int__vc (a : Int) (b : Int)   : cmp_Compare_int__P a b := by
  unfold cmp_Compare_int__P
  refine ⟨cmp_isNaN_int__pc a, cmp_isNaN_int__pc b, rfl, rfl, ?_, ?_⟩
  · intro b1
    try simp only [nrmT] at b1
    unfold cmpI; first | rw [if_pos (by omega)] | rw [if_neg (by omega), if_pos (by omega)] | rw [if_neg (by omega), if_neg (by omega)]
  · intro b2
    try simp only [nrmT] at b2
    refine ⟨?_, ?_⟩
    · intro b3
      try simp only [nrmT] at b3
      unfold cmpI; first | rw [if_pos (by omega)] | rw [if_neg (by omega), if_pos (by omega)] | rw [if_neg (by omega), if_neg (by omega)]
    · intro b4
      try simp only [nrmT] at b4
      unfold cmpI; first | rw [if_pos (by omega)] | rw [if_neg (by omega), if_pos (by omega)] | rw [if_neg (by omega), if_neg (by omega)]
theorem cmp_Compare_int__pc (a : Int) (b : Int)  : PC Try.prog 235 [.int .i64 a, .int .i64 b] (.one (.d (.int .i64 (cmpI a b)))) :=
  pc_wf @Try.call235 fun _ => pc_by (by kernel_rfl) Try.func235 @Try.call235 (by kernel_rfl) cmp_Compare_int__C (cmp_Compare_int__A a b) (by kernel_rfl) (cmp_Compare_int__vc a b) (by kernel_rfl)
def cmp_Compare_int__orc : List D → Orc := orcN [none, none] fun ds => match ds with
  | [.int .i64 a, .int .i64 b] => some (.one (.d (.int .i64 (cmpI a b))))
  | _ => none
abbrev slices_Compare_int_int__JJ0 (xs : List Int) (ys : List Int) (i : Int) : Prop := (0 ≤ i) ∧ (i ≤ (xs.length : Int)) ∧ (i ≤ (ys.length : Int)) ∧ (cmpL xs ys = cmpL (xs.drop i.toNat) (ys.drop i.toNat))
abbrev slices_Compare_int_int__mJ0 (xs : List Int) (ys : List Int) (i : Int) : Nat := (xs.length - i).toNat
def slices_Compare_int_int__C (f : FuncId) (ds : List D) : Orc := bif Nat.beq f 235 then cmp_Compare_int__orc ds else .no
def slices_Compare_int_int__A (xs : List Int) (ys : List Int) : Ann := .two (.none) (.two (.two (.none) (.loop (cut1 (fun (i : Int) => slices_Compare_int_int__JJ0 xs ys i) (fun (i : Int) => [(0, .d false (.sl (.ints xs))), (1, .d false (.sl (.ints ys))), (9, .d false (.sl (.ints xs))), (10, .d true (.int .i64 (xs.length : Int))), (11, .d true (.int .i64 i))]) (fun (i : Int) => [])) (fun g => slices_Compare_int_int__mJ0 xs ys g) (fun _ => .none))) (.none))
def slices_Compare_int_int__P (xs : List Int) (ys : List Int) : Prop :=
  ((∃ i' : Int, (slices_Compare_int_int__JJ0 xs ys i') ∧ (xs = xs) ∧ (ys = ys) ∧ (xs = xs) ∧ ((xs.length : Int) = (xs.length : Int)) ∧ ((0 : Int) = i')) ∧ (∀ i : Int, (slices_Compare_int_int__JJ0 xs ys i) → (((decide (i < (xs.length : Int))) = true → ((0 : Int) ≤ i) ∧ ((i : Int) < xs.length) ∧ (i.toNat < xs.length) ∧ (((decide (i ≥ (ys.length : Int))) = true → (((1 : Int) = (cmpL xs ys)))) ∧ ((decide (i ≥ (ys.length : Int))) = false → ((0 : Int) ≤ i) ∧ ((i : Int) < ys.length) ∧ (i.toNat < ys.length) ∧ (PC Try.prog 235 [.int .i64 (xs.getD i.toNat 0), .int .i64 (ys.getD i.toNat 0)] (.one (.d (.int .i64 (cmpI (xs.getD i.toNat 0) (ys.getD i.toNat 0)))))) ∧ ((((cmpI (xs.getD i.toNat 0) (ys.getD i.toNat 0)) != 0) = true → (((cmpI (xs.getD i.toNat 0) (ys.getD i.toNat 0)) = (cmpL xs ys)))) ∧ (((cmpI (xs.getD i.toNat 0) (ys.getD i.toNat 0)) != 0) = false → (-9223372036854775808 ≤ (i + 1) ∧ (i + 1) ≤ 9223372036854775807) ∧ (∃ i' : Int, (slices_Compare_int_int__JJ0 xs ys i') ∧ (slices_Compare_int_int__mJ0 xs ys i' < slices_Compare_int_int__mJ0 xs ys i) ∧ (xs = xs) ∧ (ys = ys) ∧ (xs = xs) ∧ ((xs.length : Int) = (xs.length : Int)) ∧ ((i + 1) = i'))))))) ∧ ((decide (i < (xs.length : Int))) = false → (((decide ((xs.length : Int) < (ys.length : Int))) = true → ((((-1) : Int) = (cmpL xs ys)))) ∧ ((decide ((xs.length : Int) < (ys.length : Int))) = false → (((0 : Int) = (cmpL xs ys)))))))))
theorem slices_Compare_int_int__vc (xs : List Int) (ys : List Int)  (w_xs : (xs.length : Int) ≤ 9223372036854775807) (w_ys : (ys.length : Int) ≤ 9223372036854775807) : slices_Compare_int_int__P xs ys := by
  unfold slices_Compare_int_int__P
  refine ⟨?_, ?_⟩
  · refine ⟨0, ?_⟩
    refine ⟨?_, rfl, rfl, rfl, rfl, rfl⟩
    · refine ⟨?_, ?_, ?_, ?_⟩
      · omega
      · omega
      · omega
      · rfl
  · intro i hJ
    obtain ⟨h1, h2, h2y, h3⟩ := hJ
    refine ⟨?_, ?_⟩
    · intro b1
      try simp only [nrmT] at b1
      refine ⟨?_, ?_, ?_, ?_, ?_⟩
      · omega
      · omega
      · omega
      · intro b2
        try simp only [nrmT] at b2
        exact (cmpL_short h3 (by omega) (by omega)).symm
      · intro b3
        try simp only [nrmT] at b3
        refine ⟨?_, ?_, ?_, cmp_Compare_int__pc (xs.getD i.toNat 0) (ys.getD i.toNat 0), ?_, ?_⟩
        · omega
        · omega
        · omega
        · intro b4
          try simp only [nrmT] at b4
          rw [cmpL_drop h3 (by omega) (by omega)]
          unfold cmpI at b4 ⊢
          by_cases h5 : xs.getD i.toNat 0 < ys.getD i.toNat 0
          · rw [if_pos h5, if_pos h5]
          · rw [if_neg h5] at b4 ⊢
            by_cases h6 : xs.getD i.toNat 0 > ys.getD i.toNat 0
            · rw [if_pos h6, if_neg h5, if_pos h6]
            · rw [if_neg h6] at b4; omega
        · intro b5
          try simp only [nrmT] at b5
          refine ⟨?_, ?_⟩
          · omega
          · refine ⟨(i + 1), ?_⟩
            refine ⟨?_, ?_, rfl, rfl, rfl, rfl, rfl⟩
            · refine ⟨?_, ?_, ?_, ?_⟩
              · omega
              · omega
              · omega
              · have h7 := cmpL_drop h3 (by omega) (by omega)
                unfold cmpI at b5
                rw [h7, show (i + 1).toNat = i.toNat + 1 by omega]
                by_cases h5 : xs.getD i.toNat 0 < ys.getD i.toNat 0
                · rw [if_pos h5] at b5; omega
                · rw [if_neg h5] at b5 ⊢
                  by_cases h6 : xs.getD i.toNat 0 > ys.getD i.toNat 0
                  · rw [if_pos h6] at b5; omega
                  · rw [if_neg h6]
            · first | (show _ < _; omega) | (simp only [slices_Compare_int_int__mJ0]; omega) | (simp only [slices_Compare_int_int__mJ0] at *; simp at *; omega)
    · intro b6
      try simp only [nrmT] at b6
      refine ⟨?_, ?_⟩
      · intro b7
        try simp only [nrmT] at b7
        rw [cmpL_end h3 (by omega) (by omega) (by omega), if_pos (by omega)]
      · intro b8
        try simp only [nrmT] at b8
        rw [cmpL_end h3 (by omega) (by omega) (by omega), if_neg (by omega)]
theorem slices_Compare_int_int__pc (xs : List Int) (ys : List Int)  : PC Try.prog 236 [.sl (.ints xs), .sl (.ints ys)] (.one (.d (.int .i64 (cmpL xs ys)))) :=
  pc_wf @Try.call236 fun hw => pc_by (by kernel_rfl) Try.func236 @Try.call236 (by kernel_rfl) slices_Compare_int_int__C (slices_Compare_int_int__A xs ys) (by kernel_rfl) (slices_Compare_int_int__vc xs ys hw.1 hw.2.1) (by kernel_rfl)
def slices_Compare_int_int__orc : List D → Orc := orcN [some .ints, some .ints] fun ds => match ds with
  | [.sl (.ints xs), .sl (.ints ys)] => some (.one (.d (.int .i64 (cmpL xs ys))))
  | _ => none
def lst (n code : Nat) : List Int := members (fun k => code.testBit k) n
theorem one_shl (n : Nat) : (1 : Int) * 2 ^ ((n : Int)).toNat = ((2 ^ n : Nat) : Int) := by
  rw [Int.toNat_natCast]; simp
def cmpS (a b : List Int) : Int := if cmpI (a.length : Int) (b.length : Int) = 0 then cmpL a b else cmpI (a.length : Int) (b.length : Int)
theorem cmpL_self : ∀ x : List Int, cmpL x x = 0
  | [] => rfl
  | x :: r => by unfold cmpL; rw [if_neg (by omega), if_neg (by omega)]; exact cmpL_self r
theorem cmpL_zero : ∀ {x y : List Int}, cmpL x y = 0 → x = y
  | [], [], _ => rfl
  | [], _ :: _, h => by simp [cmpL] at h
  | _ :: _, [], h => by simp [cmpL] at h
  | x :: r, y :: s, h => by
    unfold cmpL at h
    by_cases h1 : x < y
    · rw [if_pos h1] at h; omega
    · rw [if_neg h1] at h
      by_cases h2 : x > y
      · rw [if_pos h2] at h; omega
      · rw [if_neg h2] at h
        have : x = y := by omega
        rw [this, cmpL_zero h]
theorem cmpL_flip : ∀ {x y : List Int}, cmpL x y < 0 ↔ 0 < cmpL y x
  | [], [] => by simp [cmpL]
  | [], _ :: _ => by simp [cmpL]
  | _ :: _, [] => by simp [cmpL]
  | x :: r, y :: s => by
    unfold cmpL
    by_cases h1 : x < y
    · rw [if_pos h1, if_neg (by omega), if_pos (by omega)]; omega
    · rw [if_neg h1]
      by_cases h2 : x > y
      · rw [if_pos h2, if_pos (by omega)]; omega
      · rw [if_neg h2, if_neg (by omega), if_neg (by omega)]; exact cmpL_flip
theorem cmpL_tr : ∀ {x y z : List Int}, cmpL x y < 0 → cmpL y z < 0 → cmpL x z < 0
  | [], _, [], h1, h2 => by
    exfalso
    rename_i y
    cases y with
    | nil => simp [cmpL] at h1
    | cons y s => simp [cmpL] at h2
  | [], _, _ :: _, _, _ => by simp [cmpL]
  | _ :: _, [], _, h, _ => by simp [cmpL] at h
  | _ :: _, _ :: _, [], _, h => by simp [cmpL] at h
  | x :: r, y :: s, z :: t, h1, h2 => by
    unfold cmpL at h1 h2 ⊢
    by_cases a1 : x < y
    · by_cases a2 : y < z
      · rw [if_pos (by omega)]; omega
      · rw [if_neg a2] at h2
        by_cases a3 : y > z
        · rw [if_pos a3] at h2; omega
        · rw [if_pos (by omega)]; omega
    · rw [if_neg a1] at h1
      by_cases a4 : x > y
      · rw [if_pos a4] at h1; omega
      · rw [if_neg a4] at h1
        by_cases a2 : y < z
        · rw [if_pos (by omega)]; omega
        · rw [if_neg a2] at h2
          by_cases a3 : y > z
          · rw [if_pos a3] at h2; omega
          · rw [if_neg a3] at h2
            rw [if_neg (by omega), if_neg (by omega)]
            exact cmpL_tr h1 h2
theorem cmpS_cases (a b : List Int) : (a.length < b.length ∧ cmpS a b < 0) ∨ (b.length < a.length ∧ 0 < cmpS a b) ∨ (a.length = b.length ∧ cmpS a b = cmpL a b) := by
  unfold cmpS cmpI
  by_cases h1 : (a.length : Int) < b.length
  · rw [if_pos h1]; left; exact ⟨by omega, by rw [if_neg (by omega)]; omega⟩
  · rw [if_neg h1]
    by_cases h2 : (a.length : Int) > b.length
    · rw [if_pos h2]; right; left; exact ⟨by omega, by rw [if_neg (by omega)]; omega⟩
    · rw [if_neg h2]; right; right; exact ⟨by omega, by rw [if_pos rfl]⟩
theorem cmpS_self (a : List Int) : cmpS a a = 0 := by
  rcases cmpS_cases a a with h | h | h
  · omega
  · omega
  · rw [h.2, cmpL_self]
theorem cmpS_zero {a b : List Int} (h : cmpS a b = 0) : a = b := by
  rcases cmpS_cases a b with h1 | h1 | h1
  · omega
  · omega
  · exact cmpL_zero (h1.2 ▸ h)
theorem cmpS_flip {a b : List Int} : cmpS a b < 0 ↔ 0 < cmpS b a := by
  rcases cmpS_cases a b with h1 | h1 | h1 <;> rcases cmpS_cases b a with h2 | h2 | h2
  · omega
  · omega
  · omega
  · omega
  · omega
  · omega
  · omega
  · omega
  · rw [h1.2, h2.2]; exact cmpL_flip
theorem cmpS_tr {a b c : List Int} (h : cmpS a b < 0) (k : cmpS b c < 0) : cmpS a c < 0 := by
  rcases cmpS_cases a b with h1 | h1 | h1 <;> rcases cmpS_cases b c with h2 | h2 | h2 <;> rcases cmpS_cases a c with h3 | h3 | h3
  all_goals first | omega | (rw [h3.2]; exact cmpL_tr (h1.2 ▸ h) (h2.2 ▸ k))
theorem swo_of {β : Type} {c : β → β → Int} (hs : ∀ x, c x x = 0) (h0 : ∀ {x y}, c x y = 0 → x = y) (hf : ∀ {x y}, c x y < 0 ↔ 0 < c y x) (ht : ∀ {x y z}, c x y < 0 → c y z < 0 → c x z < 0) :
    Go.Sort.SWO (ltOf c) ∧ ∀ x y, ltOf c x y = false → ltOf c y x = false → x = y := by
  refine ⟨⟨fun x => ?_, fun x y z h1 h2 => ?_, fun x y z h1 h2 => ?_⟩, fun x y h1 h2 => ?_⟩
  · exact decide_eq_false (by rw [hs]; omega)
  · exact decide_eq_true (ht (of_decide_eq_true h1) (of_decide_eq_true h2))
  · have h1 := of_decide_eq_false h1
    have h2 := of_decide_eq_false h2
    refine decide_eq_false fun h3 => ?_
    by_cases e1 : c x y = 0
    · rw [h0 e1] at h3; omega
    · by_cases e2 : c y z = 0
      · rw [← h0 e2] at h3; omega
      · have a1 : c y x < 0 := hf.2 (by omega)
        have a2 : c z y < 0 := hf.2 (by omega)
        have a3 := ht a2 a1
        have a4 := hf.1 h3
        omega
  · have h1 := of_decide_eq_false h1
    have h2 := of_decide_eq_false h2
    refine h0 ?_
    by_cases e1 : 0 < c x y
    · have := hf.2 e1; omega
    · omega
theorem swoS : Go.Sort.SWO (ltOf cmpS) := (swo_of cmpS_self cmpS_zero cmpS_flip cmpS_tr).1
theorem totS : ∀ x y, ltOf cmpS x y = false → ltOf cmpS y x = false → x = y := (swo_of cmpS_self cmpS_zero cmpS_flip cmpS_tr).2
def orI : List Int → Int
  | [] => 0
  | x :: r => if x = 0 then orI r else x
theorem orI_drop {xs : List Int} {i : Nat} (h : orI xs = orI (xs.drop i)) (hi : i < xs.length) : orI xs = if xs.getD i 0 = 0 then orI (xs.drop (i + 1)) else xs.getD i 0 := by
  rw [h, List.drop_eq_getElem_cons hi, getD_get hi]; rfl
theorem orI_end {xs : List Int} {i : Nat} (h : orI xs = orI (xs.drop i)) (hi : xs.length ≤ i) : orI xs = 0 := by
  rw [h, List.drop_eq_nil_of_le hi]; rfl
theorem orI_two (a b : Int) : orI [a, b] = if a = 0 then b else a := by
  unfold orI orI orI
  by_cases h : b = 0
  · rw [if_pos h, h]
  · rw [if_neg h]
def preS (n m : Nat) : List (List Int) := (List.range m).map fun c => lst n (c + 1)
def setsL (n : Nat) : List (List Int) := (preS n (2 ^ n - 1)).mergeSort fun x9 y9 => !(ltOf cmpS) y9 x9
theorem preS_len (n m : Nat) : (preS n m).length = m := by simp [preS]
theorem setsL_len (n : Nat) : (setsL n).length = 2 ^ n - 1 := by unfold setsL; rw [List.length_mergeSort, preS_len]
theorem preS_succ (n m : Nat) : preS n (m + 1) = preS n m ++ [lst n (m + 1)] := by simp [preS, List.range_succ]
theorem setsL_mem {n : Nat} {s : List Int} : s ∈ setsL n ↔ ∃ c, 1 ≤ c ∧ c < 2 ^ n ∧ lst n c = s := by
  unfold setsL
  rw [(List.mergeSort_perm _ _).mem_iff, preS, List.mem_map]
  constructor
  · rintro ⟨c, hc, rfl⟩
    have := List.mem_range.1 hc
    exact ⟨c + 1, by omega, by omega, rfl⟩
  · rintro ⟨c, h1, h2, rfl⟩
    exact ⟨c - 1, List.mem_range.2 (by omega), by rw [show c - 1 + 1 = c by omega]⟩
theorem list62 {n c : Nat} (hn : n ≤ 62) (h : c < 2 ^ n) : members (fun k => c.testBit k) 62 = lst n c :=
  members_stop (fun k hk => Nat.testBit_lt_two_pow (Nat.lt_of_lt_of_le h (Nat.pow_le_pow_right (by omega) hk))) 62 hn
theorem ins_sorted {out : List (List Int)} {s : List Int} {k : Nat} (ho : out.Pairwise fun x9 y9 => ltOf cmpS y9 x9 = false) (hk : k ≤ out.length) (h1 : ∀ j, k ≤ j → j < out.length → cmpS s (out.getD j []) < 0) (h2 : k = 0 ∨ ¬ cmpS s (out.getD (k - 1) []) < 0) :
    ((out.take k ++ [s]) ++ out.drop k).Pairwise fun x9 y9 => ltOf cmpS y9 x9 = false := by
  have hle : ∀ x ∈ out.take k, ltOf cmpS s x = false := by
    intro x hx
    obtain ⟨j, hj, rfl⟩ := List.mem_iff_getElem.1 hx
    have hj' : j < k ∧ j < out.length := by rw [List.length_take] at hj; omega
    rcases h2 with h2 | h2
    · omega
    · have hs : ltOf cmpS s (out.getD (k - 1) []) = false := decide_eq_false h2
      by_cases e : j = k - 1
      · subst e; rw [getD_get (by omega)] at hs; simpa using hs
      · have := List.pairwise_iff_getElem.1 ho j (k - 1) (by omega) (by omega) (by omega)
        rw [getD_get (by omega)] at hs
        simpa using swoS.ntrans _ _ _ hs this
  have hgt : ∀ y ∈ out.drop k, ltOf cmpS y s = false := by
    intro y hy
    obtain ⟨j, hj, rfl⟩ := List.mem_iff_getElem.1 hy
    have hj' : k + j < out.length := by rw [List.length_drop] at hj; omega
    have := h1 (k + j) (by omega) hj'
    rw [getD_get hj'] at this
    rw [List.getElem_drop]
    refine decide_eq_false fun h => ?_
    have := cmpS_flip.1 h
    omega
  refine List.pairwise_append.2 ⟨List.pairwise_append.2 ⟨ho.sublist (List.take_sublist _ _), by simp, fun a ha b hb => ?_⟩, ho.sublist (List.drop_sublist _ _), fun a ha b hb => ?_⟩
  · have : b = s := by simpa using hb
    subst this; exact hle a ha
  · rcases List.mem_append.1 ha with ha | ha
    · obtain ⟨i, hi, rfl⟩ := List.mem_iff_getElem.1 ha
      obtain ⟨j, hj, rfl⟩ := List.mem_iff_getElem.1 hb
      have hi' : i < k ∧ i < out.length := by rw [List.length_take] at hi; omega
      have hj' : k + j < out.length := by rw [List.length_drop] at hj; omega
      have := List.pairwise_iff_getElem.1 ho i (k + j) hi'.2 hj' (by omega)
      simpa using this
    · have : a = s := by simpa using ha
      subst this; exact hgt b hb
theorem ins_perm {out : List (List Int)} {s : List Int} {n m k : Nat} (hp : out.Perm (preS n m)) (hs : s = lst n (m + 1)) : ((out.take k ++ [s]) ++ out.drop k).Perm (preS n (m + 1)) := by
  rw [preS_succ, ← hs, List.append_assoc]
  refine List.Perm.trans (List.perm_append_comm_assoc _ _ _) ?_
  refine List.Perm.trans ?_ (List.perm_append_comm)
  rw [List.take_append_drop]
  exact hp.append_left [s]
theorem sets_done {out : List (List Int)} {n m : Nat} (hp : out.Perm (preS n m)) (hm : m = 2 ^ n - 1) (ho : out.Pairwise fun x9 y9 => ltOf cmpS y9 x9 = false) : out = setsL n := by
  subst hm
  exact sortedBy_unique swoS totS hp ho
abbrev cmp_Or_int__JJ0 (xs : List Int) (i : Int) : Prop := (0 ≤ i) ∧ (i ≤ (xs.length : Int)) ∧ (orI xs = orI (xs.drop i.toNat))
abbrev cmp_Or_int__mJ0 (xs : List Int) (i : Int) : Nat := (xs.length - i).toNat
def cmp_Or_int__C (f : FuncId) (ds : List D) : Orc := .no
def cmp_Or_int__A (xs : List Int) : Ann := .two (.none) (.two (.none) (.two (.two (.none) (.loop (cut1 (fun (i : Int) => cmp_Or_int__JJ0 xs i) (fun (i : Int) => [(3, .d true (.int .i64 0)), (6, .d false (.sl (.ints xs))), (7, .d true (.int .i64 (xs.length : Int))), (8, .d true (.int .i64 i))]) (fun (i : Int) => [])) (fun g => cmp_Or_int__mJ0 xs g) (fun _ => .none))) (.none)))
def cmp_Or_int__P (xs : List Int) : Prop :=
  ((∃ i' : Int, (cmp_Or_int__JJ0 xs i') ∧ ((0 : Int) = 0) ∧ (xs = xs) ∧ ((xs.length : Int) = (xs.length : Int)) ∧ ((0 : Int) = i')) ∧ (∀ i : Int, (cmp_Or_int__JJ0 xs i) → (((decide (i < (xs.length : Int))) = true → ((0 : Int) ≤ i) ∧ ((i : Int) < xs.length) ∧ (i.toNat < xs.length) ∧ ((((xs.getD i.toNat 0) != 0) = true → (((xs.getD i.toNat 0) = (orI xs)))) ∧ (((xs.getD i.toNat 0) != 0) = false → (-9223372036854775808 ≤ (i + 1) ∧ (i + 1) ≤ 9223372036854775807) ∧ (∃ i' : Int, (cmp_Or_int__JJ0 xs i') ∧ (cmp_Or_int__mJ0 xs i' < cmp_Or_int__mJ0 xs i) ∧ ((0 : Int) = 0) ∧ (xs = xs) ∧ ((xs.length : Int) = (xs.length : Int)) ∧ ((i + 1) = i'))))) ∧ ((decide (i < (xs.length : Int))) = false → (((0 : Int) = (orI xs)))))))
theorem cmp_Or_int__vc (xs : List Int)  (w_xs : (xs.length : Int) ≤ 9223372036854775807) : cmp_Or_int__P xs := by
  unfold cmp_Or_int__P
  refine ⟨?_, ?_⟩
  · refine ⟨0, ?_⟩
    refine ⟨?_, rfl, rfl, rfl, rfl⟩
    · refine ⟨?_, ?_, ?_⟩
      · omega
      · omega
      · rfl
  · intro i hJ
    obtain ⟨h1, h2, h3⟩ := hJ
    refine ⟨?_, ?_⟩
    · intro b1
      try simp only [nrmT] at b1
      refine ⟨?_, ?_, ?_, ?_, ?_⟩
      · omega
      · omega
      · omega
      · intro b2
        try simp only [nrmT] at b2
        rw [orI_drop h3 (by omega), if_neg (by omega)]
      · intro b3
        try simp only [nrmT] at b3
        refine ⟨?_, ?_⟩
        · omega
        · refine ⟨(i + 1), ?_⟩
          refine ⟨?_, ?_, rfl, rfl, rfl, rfl⟩
          · refine ⟨?_, ?_, ?_⟩
            · omega
            · omega
            · rw [orI_drop h3 (by omega), if_pos (by omega), show (i + 1).toNat = i.toNat + 1 by omega]
          · first | (show _ < _; omega) | (simp only [cmp_Or_int__mJ0]; omega) | (simp only [cmp_Or_int__mJ0] at *; simp at *; omega)
    · intro b4
      try simp only [nrmT] at b4
      exact (orI_end h3 (by omega)).symm
theorem cmp_Or_int__pc (xs : List Int)  : PC Try.prog 234 [.sl (.ints xs)] (.one (.d (.int .i64 (orI xs)))) :=
  pc_wf @Try.call234 fun hw => pc_by (by kernel_rfl) Try.func234 @Try.call234 (by kernel_rfl) cmp_Or_int__C (cmp_Or_int__A xs) (by kernel_rfl) (cmp_Or_int__vc xs hw.1) (by kernel_rfl)
def cmp_Or_int__orc : List D → Orc := orcN [some .ints] fun ds => match ds with
  | [.sl (.ints xs)] => some (.one (.d (.int .i64 (orI xs))))
  | _ => none
def i_compareSets_C (f : FuncId) (ds : List D) : Orc := bif Nat.beq f 235 then cmp_Compare_int__orc ds else bif Nat.beq f 236 then slices_Compare_int_int__orc ds else bif Nat.beq f 234 then cmp_Or_int__orc ds else .no
def i_compareSets_A (xs : List Int) (ys : List Int) : Ann := .none
def i_compareSets_P (xs : List Int) (ys : List Int) : Prop :=
  (PC Try.prog 235 [.int .i64 (xs.length : Int), .int .i64 (ys.length : Int)] (.one (.d (.int .i64 (cmpI (xs.length : Int) (ys.length : Int)))))) ∧ (PC Try.prog 236 [.sl (.ints xs), .sl (.ints ys)] (.one (.d (.int .i64 (cmpL xs ys))))) ∧ ((2 : Nat) = 2) ∧ (PC Try.prog 234 [.sl (.ints ([(cmpI (xs.length : Int) (ys.length : Int)), (cmpL xs ys)]))] (.one (.d (.int .i64 (orI ([(cmpI (xs.length : Int) (ys.length : Int)), (cmpL xs ys)])))))) ∧ (((orI ([(cmpI (xs.length : Int) (ys.length : Int)), (cmpL xs ys)])) = (cmpS xs ys)))
theorem i_compareSets_vc (xs : List Int) (ys : List Int)  (w_xs : (xs.length : Int) ≤ 9223372036854775807) (w_ys : (ys.length : Int) ≤ 9223372036854775807) : i_compareSets_P xs ys := by
  unfold i_compareSets_P
  refine ⟨cmp_Compare_int__pc (xs.length : Int) (ys.length : Int), slices_Compare_int_int__pc xs ys, rfl, cmp_Or_int__pc ([(cmpI (xs.length : Int) (ys.length : Int)), (cmpL xs ys)]), ?_⟩
  · rw [orI_two]; rfl
theorem i_compareSets_pc (xs : List Int) (ys : List Int)  : PC Try.prog 208 [.sl (.ints xs), .sl (.ints ys)] (.one (.d (.int .i64 (cmpS xs ys)))) :=
  pc_wf @Try.call208 fun hw => pc_by (by kernel_rfl) Try.func208 @Try.call208 (by kernel_rfl) i_compareSets_C (i_compareSets_A xs ys) (by kernel_rfl) (i_compareSets_vc xs ys hw.1 hw.2.1) (by kernel_rfl)
abbrev s_l2Before_JJ0 (xs : List Int) (ys : List Int) (i : Int) : Prop := (0 ≤ i) ∧ (i ≤ (xs.length : Int)) ∧ (xs.length = ys.length) ∧ (cmpL xs ys = cmpL (xs.drop i.toNat) (ys.drop i.toNat))
abbrev s_l2Before_mJ0 (xs : List Int) (ys : List Int) (i : Int) : Nat := (xs.length - i).toNat
def s_l2Before_C (f : FuncId) (ds : List D) : Orc := .no
def s_l2Before_A (xs : List Int) (ys : List Int) : Ann := .two (.none) (.two (.none) (.two (.two (.none) (.loop (cut1 (fun (i : Int) => s_l2Before_JJ0 xs ys i) (fun (i : Int) => [(0, .d false (.sl (.ints xs))), (1, .d false (.sl (.ints ys))), (5, .d true (.int .i64 i))]) (fun (i : Int) => [])) (fun g => s_l2Before_mJ0 xs ys g) (fun _ => .none))) (.none)))
def s_l2Before_P (xs : List Int) (ys : List Int) : Prop :=
  ((((xs.length : Int) != (ys.length : Int)) = true → (((decide ((xs.length : Int) < (ys.length : Int))) = (decide (cmpS xs ys < 0))))) ∧ (((xs.length : Int) != (ys.length : Int)) = false → ((∃ i' : Int, (s_l2Before_JJ0 xs ys i') ∧ (xs = xs) ∧ (ys = ys) ∧ ((0 : Int) = i')) ∧ (∀ i : Int, (s_l2Before_JJ0 xs ys i) → (((decide (i < (xs.length : Int))) = true → (true = true) ∧ ((0 : Int) ≤ i) ∧ ((i : Int) < xs.length) ∧ (i.toNat < xs.length) ∧ ((0 : Int) ≤ i) ∧ ((i : Int) < ys.length) ∧ (i.toNat < ys.length) ∧ ((((xs.getD i.toNat 0) != (ys.getD i.toNat 0)) = true → (true = true) ∧ ((0 : Int) ≤ i) ∧ ((i : Int) < xs.length) ∧ (i.toNat < xs.length) ∧ ((0 : Int) ≤ i) ∧ ((i : Int) < ys.length) ∧ (i.toNat < ys.length) ∧ (((decide ((xs.getD i.toNat 0) < (ys.getD i.toNat 0))) = (decide (cmpS xs ys < 0))))) ∧ (((xs.getD i.toNat 0) != (ys.getD i.toNat 0)) = false → (-9223372036854775808 ≤ (i + 1) ∧ (i + 1) ≤ 9223372036854775807) ∧ (∃ i' : Int, (s_l2Before_JJ0 xs ys i') ∧ (s_l2Before_mJ0 xs ys i' < s_l2Before_mJ0 xs ys i) ∧ (xs = xs) ∧ (ys = ys) ∧ ((i + 1) = i'))))) ∧ ((decide (i < (xs.length : Int))) = false → ((false = (decide (cmpS xs ys < 0))))))))))
theorem s_l2Before_vc (xs : List Int) (ys : List Int)  (w_xs : (xs.length : Int) ≤ 9223372036854775807) (w_ys : (ys.length : Int) ≤ 9223372036854775807) : s_l2Before_P xs ys := by
  unfold s_l2Before_P
  refine ⟨?_, ?_⟩
  · intro b1
    try simp only [nrmT] at b1
    rcases cmpS_cases xs ys with h | h | h
    · rw [decide_eq_true h.2, decide_eq_true (by omega)]
    · rw [decide_eq_false (by omega), decide_eq_false (by omega)]
    · omega
  · intro b2
    try simp only [nrmT] at b2
    refine ⟨?_, ?_⟩
    · refine ⟨0, ?_⟩
      refine ⟨?_, rfl, rfl, rfl⟩
      · refine ⟨?_, ?_, ?_, ?_⟩
        · omega
        · omega
        · omega
        · rfl
    · intro i hJ
      obtain ⟨h1, h2, hl, h3⟩ := hJ
      refine ⟨?_, ?_⟩
      · intro b3
        try simp only [nrmT] at b3
        refine ⟨rfl, ?_, ?_, ?_, ?_, ?_, ?_, ?_, ?_⟩
        · omega
        · omega
        · omega
        · omega
        · omega
        · omega
        · intro b4
          try simp only [nrmT] at b4
          refine ⟨rfl, ?_, ?_, ?_, ?_, ?_, ?_, ?_⟩
          · omega
          · omega
          · omega
          · omega
          · omega
          · omega
          · have h5 : cmpS xs ys = cmpL xs ys := by rcases cmpS_cases xs ys with h | h | h <;> first | omega | exact h.2
            rw [h5, cmpL_drop h3 (by omega) (by omega)]
            by_cases h6 : xs.getD i.toNat 0 < ys.getD i.toNat 0
            · rw [if_pos h6, decide_eq_true h6]; rfl
            · rw [if_neg h6, if_pos (by omega), decide_eq_false h6]; rfl
        · intro b5
          try simp only [nrmT] at b5
          refine ⟨?_, ?_⟩
          · omega
          · refine ⟨(i + 1), ?_⟩
            refine ⟨?_, ?_, rfl, rfl, rfl⟩
            · refine ⟨?_, ?_, ?_, ?_⟩
              · omega
              · omega
              · exact hl
              · rw [cmpL_drop h3 (by omega) (by omega), show (i + 1).toNat = i.toNat + 1 by omega, if_neg (by omega), if_neg (by omega)]
            · first | (show _ < _; omega) | (simp only [s_l2Before_mJ0]; omega) | (simp only [s_l2Before_mJ0] at *; simp at *; omega)
      · intro b6
        try simp only [nrmT] at b6
        have h5 : cmpS xs ys = cmpL xs ys := by rcases cmpS_cases xs ys with h | h | h <;> first | omega | exact h.2
        rw [h5, cmpL_end h3 (by omega) (by omega) (by omega), if_neg (by omega)]; rfl
theorem s_l2Before_pc (xs : List Int) (ys : List Int)  : PC Try.prog 239 [.sl (.ints xs), .sl (.ints ys)] (.one (.d (.bool (decide (cmpS xs ys < 0))))) :=
  pc_wf @Try.call239 fun hw => pc_by (by kernel_rfl) Try.func239 @Try.call239 (by kernel_rfl) s_l2Before_C (s_l2Before_A xs ys) (by kernel_rfl) (s_l2Before_vc xs ys hw.1 hw.2.1) (by kernel_rfl)
def s_l2Before_orc : List D → Orc := orcN [some .ints, some .ints] fun ds => match ds with
  | [.sl (.ints xs), .sl (.ints ys)] => some (.one (.d (.bool (decide (cmpS xs ys < 0)))))
  | _ => none
theorem slices_SortFunc_int_int_rows_pu (xss : List (List Int)) (hz : xss.length < 4611686018427387904) : PU Try.prog 207 26 (.rows xss) (.rows (xss.mergeSort (fun x9 y9 => !(ltOf cmpS) y9 x9))) [.fn 208 0 []] false :=
  pu_sortFunc Try.laySortRows 26 xss (fun x => .sl (.ints x)) cmpS swoS totS 208 (fun x _ y _ => i_compareSets_pc x y) _ _ rfl rfl rfl (List.length_mergeSort _) (fun _ => rfl) (fun i x h => by simp [Mem.get, h]) (fun i x h => by simp [Mem.get, h]) hz @Try.call208
abbrev i_bag_list_d_JJ0 (b : Int) (out : List Int) (x : Int) : Prop := (0 ≤ x) ∧ (x ≤ 62) ∧ (out = members (fun k => b.toNat.testBit k) x.toNat)
abbrev i_bag_list_d_mJ0 (b : Int) (out : List Int) (x : Int) : Nat := (62 - x).toNat
def i_bag_list_d_C (f : FuncId) (ds : List D) : Orc := bif Nat.beq f 226 then i_bag_has_orc ds else .no
def i_bag_list_d_A (b : Int) : Ann := .two (.none) (.two (.none) (.two (.two (.none) (.loop (cut2 (fun (out : List Int) (x : Int) => i_bag_list_d_JJ0 b out x) (fun (out : List Int) (x : Int) => [(0, .d false (.int .u64 b)), (3, .own 1000000 out.length), (4, .d true (.int .i64 x))]) (fun (out : List Int) (x : Int) => [(1000000, .arr true 3 (.ints out))])) (fun g => i_bag_list_d_mJ0 b g.1 g.2) (fun _ => .none))) (.none)))
def i_bag_list_d_P (b : Int) : Prop :=
  ((∃ out' : List Int, ∃ x' : Int, (i_bag_list_d_JJ0 b out' x') ∧ (b = b) ∧ ((0 : Nat) = out'.length) ∧ ((0 : Int) = x') ∧ ([] = out')) ∧ (∀ out : List Int, ∀ x : Int, (i_bag_list_d_JJ0 b out x) → ((0 : Int) ≤ b ∧ (b : Int) ≤ 18446744073709551615) ∧ ((0 : Int) ≤ x) ∧ (((decide ((b / 2 ^ x.toNat) > 0)) = true → (PC Try.prog 226 [.int .u64 b, .int .i64 x] (.one (.d (.bool (b.toNat.testBit x.toNat))))) ∧ (((b.toNat.testBit x.toNat) = true → (out.length = out.length) ∧ ((1 : Nat) = 1) ∧ ((out.length + 1) * 8 ≤ 140737488355328) ∧ (-9223372036854775808 ≤ (x + 1) ∧ (x + 1) ≤ 9223372036854775807) ∧ (∃ out' : List Int, ∃ x' : Int, (i_bag_list_d_JJ0 b out' x') ∧ (i_bag_list_d_mJ0 b out' x' < i_bag_list_d_mJ0 b out x) ∧ (b = b) ∧ ((out.length + 1) = out'.length) ∧ ((x + 1) = x') ∧ ((out ++ [x]) = out'))) ∧ ((b.toNat.testBit x.toNat) = false → (-9223372036854775808 ≤ (x + 1) ∧ (x + 1) ≤ 9223372036854775807) ∧ (∃ out' : List Int, ∃ x' : Int, (i_bag_list_d_JJ0 b out' x') ∧ (i_bag_list_d_mJ0 b out' x' < i_bag_list_d_mJ0 b out x) ∧ (b = b) ∧ (out.length = out'.length) ∧ ((x + 1) = x') ∧ (out = out'))))) ∧ ((decide ((b / 2 ^ x.toNat) > 0)) = false → ((out.length = out.length) ∧ ((out : List Int) = (members (fun k => b.toNat.testBit k) 62)))))))
theorem i_bag_list_d_vc (b : Int) (hb : 0 ≤ b ∧ b ≤ 4611686018427387903)  : i_bag_list_d_P b := by
  unfold i_bag_list_d_P
  refine ⟨?_, ?_⟩
  · refine ⟨([]), 0, ?_⟩
    refine ⟨?_, rfl, rfl, rfl, ?_⟩
    · refine ⟨?_, ?_, ?_⟩
      · omega
      · omega
      · first | omega | rfl | (intro hg; simp only [nrmT] at hg; omega) | (intro g1 g2; simp [g1, g2]; done) | (intro g1; simp at g1 ⊢; simp [g1]; done) | (simp only [nrmT] at *; omega) | (simp at * <;> omega) | (simp_all <;> omega) | (simp_all; done)
    · first | omega | rfl | (intro hg; simp only [nrmT] at hg; omega) | (intro g1 g2; simp [g1, g2]; done) | (intro g1; simp at g1 ⊢; simp [g1]; done) | (simp only [nrmT] at *; omega) | (simp at * <;> omega) | (simp_all <;> omega) | (simp_all; done)
  · intro out x hJ
    obtain ⟨h1, h2, h3⟩ := hJ
    refine ⟨?_, ?_, ?_, ?_⟩
    · omega
    · omega
    · intro b1
      try simp only [nrmT] at b1
      refine ⟨?_, ?_, ?_⟩
      · refine i_bag_has_pc b x ?_ ?_
        · omega
        · omega
      · intro b2
        try simp only [nrmT] at b2
        refine ⟨rfl, rfl, ?_, ?_, ?_⟩
        · rw [h3]; have := members_len_le (fun k => b.toNat.testBit k) x.toNat; omega
        · omega
        · refine ⟨(out ++ [x]), (x + 1), ?_⟩
          refine ⟨?_, ?_, rfl, ?_, rfl, rfl⟩
          · refine ⟨?_, ?_, ?_⟩
            · omega
            · have := lt62 hb h2 b1; omega
            · rw [h3, show (x + 1).toNat = x.toNat + 1 by omega, members_succ, b2]; simp; try omega
          · have := lt62 hb h2 b1
            first | (show _ < _; omega) | (simp only [i_bag_list_d_mJ0]; omega) | (simp only [i_bag_list_d_mJ0] at *; simp at *; omega)
          · first | omega | rfl | (intro hg; simp only [nrmT] at hg; omega) | (intro g1 g2; simp [g1, g2]; done) | (intro g1; simp at g1 ⊢; simp [g1]; done) | (simp only [nrmT] at *; omega) | (simp at * <;> omega) | (simp_all <;> omega) | (simp_all; done)
      · intro b3
        try simp only [nrmT] at b3
        refine ⟨?_, ?_⟩
        · omega
        · refine ⟨out, (x + 1), ?_⟩
          refine ⟨?_, ?_, rfl, rfl, rfl, rfl⟩
          · refine ⟨?_, ?_, ?_⟩
            · omega
            · have := lt62 hb h2 b1; omega
            · rw [h3, show (x + 1).toNat = x.toNat + 1 by omega, members_succ, b3]; simp; try omega
          · have := lt62 hb h2 b1
            first | (show _ < _; omega) | (simp only [i_bag_list_d_mJ0]; omega) | (simp only [i_bag_list_d_mJ0] at *; simp at *; omega)
    · intro b4
      try simp only [nrmT] at b4
      refine ⟨rfl, ?_⟩
      · rw [h3]; refine (members_stop (fun k hk => bit_out hb.1 (m := x.toNat) (by omega) k hk) 62 (by omega)).symm
theorem i_bag_list_d_pc (b : Int) (hb : 0 ≤ b ∧ b ≤ 4611686018427387903) : PC Try.prog 188 [.int .u64 b] (.one (.d (.sl (.ints (members (fun k => b.toNat.testBit k) 62))))) :=
  pc_wf @Try.call188 fun _ => pc_by (by kernel_rfl) Try.func188 @Try.call188 (by kernel_rfl) i_bag_list_d_C (i_bag_list_d_A b) (by kernel_rfl) (i_bag_list_d_vc b hb) (by kernel_rfl)
abbrev i_sets_JJ0 (n : Int) (out : List (List Int)) (b : Int) : Prop := (1 ≤ b) ∧ (b ≤ ((2 ^ n.toNat : Nat) : Int)) ∧ (out = preS n.toNat (b.toNat - 1))
abbrev i_sets_mJ0 (n : Int) (out : List (List Int)) (b : Int) : Nat := (((2 ^ n.toNat : Nat) : Int) - b).toNat
abbrev i_sets_JA0 (n : Int) (out2 : List (List Int)) : Prop := (out2 = preS n.toNat (2 ^ n.toNat - 1))
def i_sets_C (f : FuncId) (ds : List D) : Orc := .no
def i_sets_A (n : Int) : Ann := .two (.none) (.two (.none) (.cut (.two (.none) (.loop (cut2 (fun (out : List (List Int)) (b : Int) => i_sets_JJ0 n out b) (fun (out : List (List Int)) (b : Int) => [(0, .d false (.int .i64 n)), (3, .own 1000000 out.length), (4, .d true (.int .u64 b))]) (fun (out : List (List Int)) (b : Int) => [(1000000, .arr true 26 (.rows out))])) (fun g => i_sets_mJ0 n g.1 g.2) (fun g => (fun (out : List (List Int)) (b : Int) => .two (.none) (.two (.reg [(2, .call none (.one (.d (.sl (.ints (members (fun k => b.toNat.testBit k) 62))))))]) (.none))) (g.1) (g.2)))) (cut1 (fun (out2 : List (List Int)) => i_sets_JA0 n out2) (fun (out2 : List (List Int)) => [(3, .own 1000050 out2.length)]) (fun (out2 : List (List Int)) => [(1000050, .arr true 26 (.rows out2))])) (fun g => (fun (out2 : List (List Int)) => .two (.mark [] [(1, .up (.rows (out2.mergeSort (fun x9 y9 => !(ltOf cmpS) y9 x9))) false)]) (.none)) g)))
def i_sets_P (n : Int) : Prop :=
  ((((∃ out' : List (List Int), ∃ b' : Int, (i_sets_JJ0 n out' b') ∧ (n = n) ∧ ((0 : Nat) = out'.length) ∧ ((1 : Int) = b') ∧ ([] = out')) ∧ (∀ out : List (List Int), ∀ b : Int, (i_sets_JJ0 n out b) → ((0 : Int) ≤ 1) ∧ ((0 : Int) ≤ n) ∧ ((0 : Int) ≤ ((1 : Int) * 2 ^ n.toNat) ∧ (((1 : Int) * 2 ^ n.toNat) : Int) ≤ 18446744073709551615) ∧ (((decide (b < ((1 : Int) * 2 ^ n.toNat))) = true → (PC Try.prog 188 [.int .u64 b] (.one (.d (.sl (.ints (members (fun k => b.toNat.testBit k) 62)))))) ∧ (out.length = out.length) ∧ ((1 : Nat) = 1) ∧ ((out.length + 1) * 24 ≤ 140737488355328) ∧ (0 ≤ (b + 1) ∧ (b + 1) ≤ 18446744073709551615) ∧ (∃ out' : List (List Int), ∃ b' : Int, (i_sets_JJ0 n out' b') ∧ (i_sets_mJ0 n out' b' < i_sets_mJ0 n out b) ∧ (n = n) ∧ ((out.length + 1) = out'.length) ∧ ((b + 1) = b') ∧ ((out ++ [(members (fun k => b.toNat.testBit k) 62)]) = out'))) ∧ ((decide (b < ((1 : Int) * 2 ^ n.toNat))) = false → (∃ out2' : List (List Int), (i_sets_JA0 n out2') ∧ (out.length = out2'.length) ∧ (out = out2'))))))) ∧ (∀ out2 : List (List Int), (i_sets_JA0 n out2) → (out2.length = out2.length) ∧ (PU Try.prog 207 26 (.rows out2) (.rows (out2.mergeSort (fun x9 y9 => !(ltOf cmpS) y9 x9))) [.fn 208 0 []] false) ∧ ((out2.length = (out2.mergeSort (fun x9 y9 => !(ltOf cmpS) y9 x9)).length) ∧ (((out2.mergeSort (fun x9 y9 => !(ltOf cmpS) y9 x9)) : List (List Int)) = setsL n.toNat))))
theorem i_sets_vc (n : Int) (hn : 0 ≤ n ∧ n ≤ 8)  : i_sets_P n := by
  unfold i_sets_P
  have p7 := pow8 (n := n.toNat) (by omega)
  have pp := Nat.two_pow_pos n.toNat
  have e0 := one_shl n.toNat
  have e1 : ((2 : Int) ^ n.toNat) = ((2 ^ n.toNat : Nat) : Int) := by simp
  refine ⟨?_, ?_⟩
  · refine ⟨?_, ?_⟩
    · refine ⟨([]), 1, ?_⟩
      refine ⟨?_, rfl, rfl, rfl, ?_⟩
      · refine ⟨?_, ?_, ?_⟩
        · omega
        · generalize 2 ^ n.toNat = M at *
          omega
        · rfl
      · first | omega | rfl | (intro hg; simp only [nrmT] at hg; omega) | (intro g1 g2; simp [g1, g2]; done) | (intro g1; simp at g1 ⊢; simp [g1]; done) | (simp only [nrmT] at *; omega) | (simp at * <;> omega) | (simp_all <;> omega) | (simp_all; done)
    · intro out b hJ
      obtain ⟨h1, h2, h3⟩ := hJ
      refine ⟨?_, ?_, ?_, ?_, ?_⟩
      · omega
      · omega
      · rw [Int.one_mul, e1]
        generalize 2 ^ n.toNat = M at *
        omega
      · intro b1
        try simp only [nrmT] at b1
        refine ⟨?_, rfl, rfl, ?_, ?_, ?_⟩
        · refine i_bag_list_d_pc b ?_
          · rw [Int.one_mul, e1] at b1
            generalize 2 ^ n.toNat = M at *
            omega
        · rw [Int.one_mul, e1] at b1
          rw [h3, preS_len]
          generalize 2 ^ n.toNat = M at *
          omega
        · rw [Int.one_mul, e1] at b1
          generalize 2 ^ n.toNat = M at *
          omega
        · refine ⟨(out ++ [(members (fun k => b.toNat.testBit k) 62)]), (b + 1), ?_⟩
          refine ⟨?_, ?_, rfl, ?_, rfl, rfl⟩
          · refine ⟨?_, ?_, ?_⟩
            · omega
            · rw [Int.one_mul, e1] at b1
              generalize 2 ^ n.toNat = M at *
              omega
            · rw [Int.one_mul, e1] at b1
              have hb : b.toNat < 2 ^ n.toNat := by
                generalize 2 ^ n.toNat = M at *
                omega
              rw [h3, show (b + 1).toNat - 1 = (b.toNat - 1) + 1 by omega, preS_succ, show b.toNat - 1 + 1 = b.toNat by omega, list62 (n := n.toNat) (by omega) hb]
          · rw [Int.one_mul, e1] at b1
            first | (show _ < _; omega) | (simp only [i_sets_mJ0]; omega) | (simp only [i_sets_mJ0] at *; simp at *; omega)
          · first | omega | rfl | (intro hg; simp only [nrmT] at hg; omega) | (intro g1 g2; simp [g1, g2]; done) | (intro g1; simp at g1 ⊢; simp [g1]; done) | (simp only [nrmT] at *; omega) | (simp at * <;> omega) | (simp_all <;> omega) | (simp_all; done)
      · intro b2
        try simp only [nrmT] at b2
        refine ⟨out, ?_⟩
        refine ⟨?_, rfl, rfl⟩
        · unfold i_sets_JA0
          rw [Int.one_mul, e1] at b2
          have hm : b.toNat - 1 = 2 ^ n.toNat - 1 := by
            generalize 2 ^ n.toNat = M at *
            omega
          rw [h3, hm]
  · intro out2 hJ
    have h8 := hJ
    refine ⟨rfl, ?_, ?_, ?_⟩
    · refine slices_SortFunc_int_int_rows_pu out2 ?_
      · rw [h8, preS_len]
        generalize 2 ^ n.toNat = M at *
        omega
    · simp
    · rw [h8]; rfl
theorem i_sets_pc (n : Int) (hn : 0 ≤ n ∧ n ≤ 8) : PC Try.prog 134 [.int .i64 n] (.one (.own 26 (.rows (setsL n.toNat)))) :=
  pc_wf @Try.call134 fun _ => pc_by (by kernel_rfl) Try.func134 @Try.call134 (by kernel_rfl) i_sets_C (i_sets_A n) (by kernel_rfl) (i_sets_vc n hn) (by kernel_rfl)
def i_sets_orc : List D → Orc := orcN [none] fun ds => match ds with
  | [.int .i64 n] => some (.one (.own 26 (.rows (setsL n.toNat))))
  | _ => none
abbrev s_l2Sets_JJ0 (n : Int) (out : List (List Int)) (code : Int) : Prop := (1 ≤ code) ∧ (code ≤ ((2 ^ n.toNat : Nat) : Int)) ∧ (out.Perm (preS n.toNat (code.toNat - 1))) ∧ (out.Pairwise (fun x9 y9 => ltOf cmpS y9 x9 = false))
abbrev s_l2Sets_mJ0 (n : Int) (out : List (List Int)) (code : Int) : Nat := (((2 ^ n.toNat : Nat) : Int) - code).toNat
abbrev s_l2Sets_JJ1 (n : Int) (out : List (List Int)) (code : Int) (k : Int) : Prop := (0 ≤ k) ∧ (k ≤ (out.length : Int)) ∧ (∀ j, k.toNat ≤ j → j < out.length → cmpS (lst n.toNat code.toNat) (out.getD j []) < 0)
abbrev s_l2Sets_mJ1 (n : Int) (out : List (List Int)) (code : Int) (k : Int) : Nat := k.toNat
def s_l2Sets_C (f : FuncId) (ds : List D) : Orc := bif Nat.beq f 164 then s_l2Bits_orc ds else bif Nat.beq f 239 then s_l2Before_orc ds else .no
def s_l2Sets_A (n : Int) : Ann := .two (.none) (.two (.reg [(0, .frz)]) (.two (.two (.none) (.loop (cut2 (fun (out : List (List Int)) (code : Int) => s_l2Sets_JJ0 n out code) (fun (out : List (List Int)) (code : Int) => [(0, .d false (.int .i64 n)), (3, .d true (.sl (.rows out))), (4, .d true (.int .i64 code))]) (fun (out : List (List Int)) (code : Int) => [])) (fun g => s_l2Sets_mJ0 n g.1 g.2) (fun g => (fun (out : List (List Int)) (code : Int) => .two (.none) (.two (.two (.none) (.two (.loop (cut1 (fun (k : Int) => s_l2Sets_JJ1 n out code k) (fun (k : Int) => [(0, .d false (.int .i64 n)), (3, .d true (.sl (.rows out))), (4, .d true (.int .i64 code)), (5, .d true (.sl (.ints (members (fun k => code.toNat.testBit k) n.toNat)))), (6, .d true (.int .i64 k))]) (fun (k : Int) => [])) (fun g => s_l2Sets_mJ1 n out code g) (fun _ => .none)) (.none))) (.none))) (g.1) (g.2)))) (.none)))
def s_l2Sets_P (n : Int) : Prop :=
  ((∃ out' : List (List Int), ∃ code' : Int, (s_l2Sets_JJ0 n out' code') ∧ (n = n) ∧ ([] = out') ∧ ((1 : Int) = code')) ∧ (∀ out : List (List Int), ∀ code : Int, (s_l2Sets_JJ0 n out code) → ((0 : Int) ≤ 1) ∧ ((0 : Int) ≤ n) ∧ ((0 : Int) ≤ ((1 : Int) * 2 ^ n.toNat) ∧ (((1 : Int) * 2 ^ n.toNat) : Int) ≤ 9223372036854775807) ∧ (((decide (code < ((1 : Int) * 2 ^ n.toNat))) = true → (PC Try.prog 164 [.int .i64 n, .int .i64 code] (.one (.d (.sl (.ints (members (fun k => code.toNat.testBit k) n.toNat)))))) ∧ ((∃ k' : Int, (s_l2Sets_JJ1 n out code k') ∧ (n = n) ∧ (out = out) ∧ (code = code) ∧ ((members (fun k => code.toNat.testBit k) n.toNat) = (members (fun k => code.toNat.testBit k) n.toNat)) ∧ ((out.length : Int) = k')) ∧ (∀ k : Int, (s_l2Sets_JJ1 n out code k) → ((decide (k > 0)) = true → (decide (k > 0)) = true) ∧ (((decide (k > 0)) = true → -9223372036854775808 ≤ (k - 1) ∧ (k - 1) ≤ 9223372036854775807)) ∧ ((decide (k > 0)) = true → (decide (k > 0)) = true) ∧ ((decide (k > 0)) = true → (decide (k > 0)) = true) ∧ (((decide (k > 0)) = true → (0 : Int) ≤ (k - 1))) ∧ (((decide (k > 0)) = true → ((k - 1) : Int) < out.length)) ∧ ((decide (k > 0)) = true → (decide (k > 0)) = true) ∧ (((decide (k > 0)) = true → (k - 1).toNat < out.length)) ∧ ((decide (k > 0)) = true → (decide (k > 0)) = true) ∧ ((decide (k > 0)) = true → (decide (k > 0)) = true) ∧ ((decide (k > 0)) = true → PC Try.prog 239 [.sl (.ints (members (fun k => code.toNat.testBit k) n.toNat)), .sl (.ints (out.getD ((k - 1).toNat) []))] (.one (.d (.bool (decide (cmpS (members (fun k => code.toNat.testBit k) n.toNat) (out.getD ((k - 1).toNat) []) < 0)))))) ∧ (true = true) ∧ (((decide (k > 0)) = true → (decide (k > 0)) = true)) ∧ (((decide (k > 0)) = false → true = true)) ∧ (((cond (decide (k > 0)) (decide (cmpS (members (fun k => code.toNat.testBit k) n.toNat) (out.getD ((k - 1).toNat) []) < 0)) false) = true → (-9223372036854775808 ≤ (k - 1) ∧ (k - 1) ≤ 9223372036854775807) ∧ (∃ k' : Int, (s_l2Sets_JJ1 n out code k') ∧ (s_l2Sets_mJ1 n out code k' < s_l2Sets_mJ1 n out code k) ∧ (n = n) ∧ (out = out) ∧ (code = code) ∧ ((members (fun k => code.toNat.testBit k) n.toNat) = (members (fun k => code.toNat.testBit k) n.toNat)) ∧ ((k - 1) = k'))) ∧ ((cond (decide (k > 0)) (decide (cmpS (members (fun k => code.toNat.testBit k) n.toNat) (out.getD ((k - 1).toNat) []) < 0)) false) = false → (true = true) ∧ ((0 : Int) ≤ k) ∧ ((k : Int) ≤ out.length) ∧ ((0 : Nat) = 0) ∧ (True) ∧ ((0 + ((out.take k.toNat).drop 0).length) * 24 ≤ 140737488355328) ∧ ((0 + ((out.take k.toNat).drop 0).length) = ([] ++ ((out.take k.toNat).drop 0)).length) ∧ ((1 : Nat) = 1) ∧ ((([] ++ ((out.take k.toNat).drop 0)).length + 1) * 24 ≤ 140737488355328) ∧ ((0 : Int) ≤ k) ∧ ((k : Int) ≤ out.length) ∧ (((0 + ((out.take k.toNat).drop 0).length) + 1) = (([] ++ ((out.take k.toNat).drop 0)) ++ [(members (fun k => code.toNat.testBit k) n.toNat)]).length) ∧ (True) ∧ (((([] ++ ((out.take k.toNat).drop 0)) ++ [(members (fun k => code.toNat.testBit k) n.toNat)]).length + ((out.take out.length).drop k.toNat).length) * 24 ≤ 140737488355328) ∧ (-9223372036854775808 ≤ (code + 1) ∧ (code + 1) ≤ 9223372036854775807) ∧ (∃ out' : List (List Int), ∃ code' : Int, (s_l2Sets_JJ0 n out' code') ∧ (s_l2Sets_mJ0 n out' code' < s_l2Sets_mJ0 n out code) ∧ (n = n) ∧ ((((0 + ((out.take k.toNat).drop 0).length) + 1) + ((out.take out.length).drop k.toNat).length) = ((([] ++ ((out.take k.toNat).drop 0)) ++ [(members (fun k => code.toNat.testBit k) n.toNat)]) ++ ((out.take out.length).drop k.toNat)).length) ∧ (((([] ++ ((out.take k.toNat).drop 0)) ++ [(members (fun k => code.toNat.testBit k) n.toNat)]) ++ ((out.take out.length).drop k.toNat)) = out') ∧ ((code + 1) = code'))))))) ∧ ((decide (code < ((1 : Int) * 2 ^ n.toNat))) = false → (((out : List (List Int)) = (setsL n.toNat)))))))
theorem s_l2Sets_vc (n : Int) (hn : 0 ≤ n ∧ n ≤ 8)  : s_l2Sets_P n := by
  unfold s_l2Sets_P
  have p7 := pow8 (n := n.toNat) (by omega)
  have pp := Nat.two_pow_pos n.toNat
  have e0 := one_shl n.toNat
  have e1 : ((2 : Int) ^ n.toNat) = ((2 ^ n.toNat : Nat) : Int) := by simp
  refine ⟨?_, ?_⟩
  · refine ⟨([]), 1, ?_⟩
    refine ⟨?_, rfl, ?_, rfl⟩
    · refine ⟨?_, ?_, ?_, ?_⟩
      · omega
      · generalize 2 ^ n.toNat = M at *
        omega
      · exact List.Perm.refl _
      · exact List.Pairwise.nil
    · first | omega | rfl | (intro hg; simp only [nrmT] at hg; omega) | (intro g1 g2; simp [g1, g2]; done) | (intro g1; simp at g1 ⊢; simp [g1]; done) | (simp only [nrmT] at *; omega) | (simp at * <;> omega) | (simp_all <;> omega) | (simp_all; done)
  · intro out code hJ
    obtain ⟨h1, h2, h3, h4⟩ := hJ
    refine ⟨?_, ?_, ?_, ?_, ?_⟩
    · omega
    · omega
    · rw [Int.one_mul, e1]
      generalize 2 ^ n.toNat = M at *
      omega
    · intro b1
      try simp only [nrmT] at b1
      refine ⟨?_, ?_, ?_⟩
      · refine s_l2Bits_pc n code ?_ ?_
        · omega
        · rw [Int.one_mul, e1] at b1
          generalize 2 ^ n.toNat = M at *
          omega
      · refine ⟨(out.length : Int), ?_⟩
        refine ⟨?_, rfl, rfl, rfl, rfl, rfl⟩
        · refine ⟨?_, ?_, ?_⟩
          · omega
          · omega
          · intro j h8 h9; omega
      · intro k hJ
        obtain ⟨h5, h6, h7⟩ := hJ
        refine ⟨id, ?_, id, id, ?_, ?_, id, ?_, id, id, fun _ => s_l2Before_pc (members (fun k => code.toNat.testBit k) n.toNat) (out.getD ((k - 1).toNat) []), rfl, id, fun _ => rfl, ?_, ?_⟩
        · have ol := h3.length_eq
          rw [preS_len] at ol
          rw [Int.one_mul, e1] at b1
          intro hg2
          have := of_decide_eq_true hg2
          generalize 2 ^ n.toNat = M at *
          omega
        · first | omega | rfl | (intro hg; simp only [nrmT] at hg; omega) | (intro g1 g2; simp [g1, g2]; done) | (intro g1; simp at g1 ⊢; simp [g1]; done) | (simp only [nrmT] at *; omega) | (simp at * <;> omega) | (simp_all <;> omega) | (simp_all; done)
        · omega
        · first | omega | rfl | (intro hg; simp only [nrmT] at hg; omega) | (intro g1 g2; simp [g1, g2]; done) | (intro g1; simp at g1 ⊢; simp [g1]; done) | (simp only [nrmT] at *; omega) | (simp at * <;> omega) | (simp_all <;> omega) | (simp_all; done)
        · intro b2
          refine ⟨?_, ?_⟩
          · have ol := h3.length_eq
            rw [preS_len] at ol
            rw [Int.one_mul, e1] at b1
            have hk : 0 < k := by
              revert b2
              by_cases h : k > 0
              · intro _; exact h
              · rw [decide_eq_false h]; intro g; cases g
            generalize 2 ^ n.toNat = M at *
            omega
          · refine ⟨(k - 1), ?_⟩
            refine ⟨?_, ?_, rfl, rfl, rfl, rfl, rfl⟩
            · refine ⟨?_, ?_, ?_⟩
              · have ol := h3.length_eq
                rw [preS_len] at ol
                rw [Int.one_mul, e1] at b1
                have hk : 0 < k := by
                  revert b2
                  by_cases h : k > 0
                  · intro _; exact h
                  · rw [decide_eq_false h]; intro g; cases g
                generalize 2 ^ n.toNat = M at *
                omega
              · have ol := h3.length_eq
                rw [preS_len] at ol
                rw [Int.one_mul, e1] at b1
                have hk : 0 < k := by
                  revert b2
                  by_cases h : k > 0
                  · intro _; exact h
                  · rw [decide_eq_false h]; intro g; cases g
                generalize 2 ^ n.toNat = M at *
                omega
              · intro j h8 h9
                have hk : 0 < k ∧ cmpS (lst n.toNat code.toNat) (out.getD (k - 1).toNat []) < 0 := by
                  revert b2
                  by_cases h : k > 0
                  · rw [decide_eq_true h]; intro g; exact ⟨h, of_decide_eq_true g⟩
                  · rw [decide_eq_false h]; intro g; cases g
                by_cases e : j = (k - 1).toNat
                · rw [e]; exact hk.2
                · exact h7 j (by omega) h9
            · have hk : 0 < k := by
                revert b2
                by_cases h : k > 0
                · intro _; exact h
                · rw [decide_eq_false h]; intro g; cases g
              first | (show _ < _; omega) | (simp only [s_l2Sets_mJ1]; omega) | (simp only [s_l2Sets_mJ1] at *; simp at *; omega)
        · intro b3
          refine ⟨rfl, ?_, ?_, rfl, trivial, ?_, ?_, rfl, ?_, ?_, ?_, ?_, trivial, ?_, ?_, ?_⟩
          · omega
          · omega
          · have ol := h3.length_eq
            rw [preS_len] at ol
            rw [Int.one_mul, e1] at b1
            simp only [List.length_append, List.length_drop, List.length_take, List.length_cons, List.length_nil]
            generalize 2 ^ n.toNat = M at *
            omega
          · simp only [List.length_append, List.length_cons, List.length_nil] <;> omega
          · have ol := h3.length_eq
            rw [preS_len] at ol
            rw [Int.one_mul, e1] at b1
            simp only [List.length_append, List.length_drop, List.length_take, List.length_cons, List.length_nil]
            generalize 2 ^ n.toNat = M at *
            omega
          · omega
          · omega
          · first | omega | rfl | (intro hg; simp only [nrmT] at hg; omega) | (intro g1 g2; simp [g1, g2]; done) | (intro g1; simp at g1 ⊢; simp [g1]; done) | (simp only [nrmT] at *; omega) | (simp at * <;> omega) | (simp_all <;> omega) | (simp_all; done)
          · have ol := h3.length_eq
            rw [preS_len] at ol
            rw [Int.one_mul, e1] at b1
            simp only [List.length_append, List.length_drop, List.length_take, List.length_cons, List.length_nil]
            generalize 2 ^ n.toNat = M at *
            omega
          · rw [Int.one_mul, e1] at b1
            generalize 2 ^ n.toNat = M at *
            omega
          · refine ⟨((([] ++ ((out.take k.toNat).drop 0)) ++ [(members (fun k => code.toNat.testBit k) n.toNat)]) ++ ((out.take out.length).drop k.toNat)), (code + 1), ?_⟩
            refine ⟨?_, ?_, rfl, ?_, rfl, rfl⟩
            · refine ⟨?_, ?_, ?_, ?_⟩
              · omega
              · rw [Int.one_mul, e1] at b1
                generalize 2 ^ n.toNat = M at *
                omega
              · have hq : (((([] : List (List Int)) ++ ((out.take k.toNat).drop 0)) ++ [(members (fun k => code.toNat.testBit k) n.toNat)]) ++ ((out.take out.length).drop k.toNat)) = (out.take k.toNat ++ [lst n.toNat code.toNat]) ++ out.drop k.toNat := by
                  rw [List.nil_append, List.drop_zero, List.take_length]; rfl
                rw [hq, show (code + 1).toNat - 1 = (code.toNat - 1) + 1 by omega]
                exact ins_perm h3 (by rw [show code.toNat - 1 + 1 = code.toNat by omega])
              · have hq : (((([] : List (List Int)) ++ ((out.take k.toNat).drop 0)) ++ [(members (fun k => code.toNat.testBit k) n.toNat)]) ++ ((out.take out.length).drop k.toNat)) = (out.take k.toNat ++ [lst n.toNat code.toNat]) ++ out.drop k.toNat := by
                  rw [List.nil_append, List.drop_zero, List.take_length]; rfl
                rw [hq]
                refine ins_sorted h4 (by omega) h7 ?_
                by_cases e : k.toNat = 0
                · exact .inl e
                · refine .inr fun h => ?_
                  rw [decide_eq_true (show k > 0 by omega), decide_eq_true (by rw [show (k - 1).toNat = k.toNat - 1 by omega]; exact h)] at b3
                  cases b3
            · rw [Int.one_mul, e1] at b1
              first | (show _ < _; omega) | (simp only [s_l2Sets_mJ0]; omega) | (simp only [s_l2Sets_mJ0] at *; simp at *; omega)
            · simp only [List.length_append, List.length_cons, List.length_nil] <;> omega
    · intro b4
      try simp only [nrmT] at b4
      rw [Int.one_mul, e1] at b4
      exact sets_done h3 (by
        generalize 2 ^ n.toNat = M at *
        omega) h4
theorem s_l2Sets_pc (n : Int) (hn : 0 ≤ n ∧ n ≤ 8) : PC Try.prog 214 [.int .i64 n] (.one (.d (.sl (.rows (setsL n.toNat))))) :=
  pc_wf @Try.call214 fun _ => pc_by (by kernel_rfl) Try.func214 @Try.call214 (by kernel_rfl) s_l2Sets_C (s_l2Sets_A n) (by kernel_rfl) (s_l2Sets_vc n hn) (by kernel_rfl)
def s_l2Sets_orc : List D → Orc := orcN [none] fun ds => match ds with
  | [.int .i64 n] => some (.one (.d (.sl (.rows (setsL n.toNat)))))
  | _ => none
def lsB (v : List Int → Int) (b s : List Int) : List Int := if v s < v b then s else b
def leastL (v : List Int → Int) (l : List (List Int)) : List Int := l.foldl (lsB v) (l.getD 0 [])
theorem lsB_self (v : List Int → Int) (b : List Int) : lsB v b b = b := by unfold lsB; split <;> rfl
theorem fold_snoc {α β : Type} {f : β → α → β} {b : β} {l : List α} {i : Int} {d : α} (h0 : 0 ≤ i) (h : i < (l.length : Int)) : (l.take (i + 1).toNat).foldl f b = f ((l.take i.toNat).foldl f b) (l.getD i.toNat d) := by
  rw [take_step (d := d) h0 h, List.foldl_append]
  rfl
theorem leastL_mem {v : List Int → Int} {l : List (List Int)} (h : 0 < l.length) : leastL v l ∈ l := by
  have key : ∀ (r : List (List Int)) (b : List Int), b ∈ l → (∀ x ∈ r, x ∈ l) → r.foldl (lsB v) b ∈ l := by
    intro r
    induction r with
    | nil => intro b hb _; exact hb
    | cons x r ih =>
      intro b hb hr
      refine ih _ ?_ fun y hy => hr y (List.mem_cons_of_mem _ hy)
      unfold lsB
      split
      · exact hr x List.mem_cons_self
      · exact hb
  exact key l _ (getD_mem h) fun x hx => hx
theorem filter_pos {p : List Int → Bool} {l : List (List Int)} (h : ∃ s ∈ l, p s = true) : 0 < (l.filter p).length := by
  obtain ⟨s, h1, h2⟩ := h
  exact List.length_pos_of_mem (List.mem_filter.2 ⟨h1, h2⟩)
theorem filter_step {l : List (List Int)} {p : List Int → Bool} {i : Int} (h0 : 0 ≤ i) (h : i < (l.length : Int)) : (l.take (i + 1).toNat).filter p = if p (l.getD i.toNat []) = true then (l.take i.toNat).filter p ++ [l.getD i.toNat []] else (l.take i.toNat).filter p := by
  rw [take_step (d := []) h0 h, List.filter_append]
  by_cases e : p (l.getD i.toNat []) = true
  · rw [if_pos e, List.filter_cons, if_pos e]; rfl
  · rw [if_neg e, List.filter_cons, if_neg e]; simp
def chs (n : Nat) : List (List Int) := [[]] ++ setsL n
theorem chs_len (n : Nat) : (chs n).length = 2 ^ n := by
  unfold chs
  rw [List.length_append, setsL_len]
  have := Nat.two_pow_pos n
  simp only [List.length_cons, List.length_nil]
  omega
theorem chs_small {n : Nat} (h : n ≤ 8) : (chs n).length ≤ 256 := by rw [chs_len]; exact pow8 h
theorem chs_mem {n : Nat} {s : List Int} : s ∈ chs n ↔ ∃ c, c < 2 ^ n ∧ lst n c = s := by
  unfold chs
  rw [List.mem_append, setsL_mem]
  have h0 : lst n 0 = [] := by
    cases e : lst n 0 with
    | nil => rfl
    | cons x r =>
      have hm : x ∈ lst n 0 := by rw [e]; exact List.mem_cons_self
      have := (mem_members.1 hm).2.2
      rw [Nat.zero_testBit] at this
      cases this
  constructor
  · rintro (h | ⟨c, h1, h2, h3⟩)
    · exact ⟨0, Nat.two_pow_pos n, by rw [List.mem_singleton.1 h, h0]⟩
    · exact ⟨c, h2, h3⟩
  · rintro ⟨c, h1, h2⟩
    by_cases e : c = 0
    · left; rw [← h2, e, h0]; exact List.mem_singleton.2 rfl
    · exact .inr ⟨c, by omega, h1, h2⟩
theorem chs_rising {n : Nat} {s : List Int} (h : s ∈ chs n) : rising s 0 ((n : Int) - 1) = true := by
  obtain ⟨c, _, rfl⟩ := chs_mem.1 h
  exact rising_asc (asc_members _ _) fun x hx => by have := mem_members.1 hx; omega
theorem chs_all (n : Nat) : allN n ∈ chs n := by
  refine chs_mem.2 ⟨2 ^ n - 1, by have := Nat.two_pow_pos n; omega, ?_⟩
  exact allN_bits
def s_l6Choices_C (f : FuncId) (ds : List D) : Orc := bif Nat.beq f 214 then s_l2Sets_orc ds else .no
def s_l6Choices_A (n : Int) : Ann := .two (.none) (.two (.reg [(0, .frz)]) (.none))
def s_l6Choices_P (n : Int) : Prop :=
  (PC Try.prog 214 [.int .i64 n] (.one (.d (.sl (.rows (setsL n.toNat)))))) ∧ ((1 : Nat) = 1) ∧ (True) ∧ ((1 + (setsL n.toNat).length) * 24 ≤ 140737488355328) ∧ (((1 + (setsL n.toNat).length) = ([[]] ++ (setsL n.toNat)).length) ∧ ((([[]] ++ (setsL n.toNat)) : List (List Int)) = (chs n.toNat)))
theorem s_l6Choices_vc (n : Int) (hn : 0 ≤ n ∧ n ≤ 8)  : s_l6Choices_P n := by
  unfold s_l6Choices_P
  have cs := chs_small (n := n.toNat) (by omega)
  have ce : (chs n.toNat).length = 1 + (setsL n.toNat).length := by unfold chs; rw [List.length_append]; rfl
  refine ⟨?_, rfl, trivial, ?_, ?_, ?_⟩
  · refine s_l2Sets_pc n ?_
    · omega
  · omega
  · first | omega | rfl | (intro hg; simp only [nrmT] at hg; omega) | (intro g1 g2; simp [g1, g2]; done) | (intro g1; simp at g1 ⊢; simp [g1]; done) | (simp only [nrmT] at *; omega) | (simp at * <;> omega) | (simp_all <;> omega) | (simp_all; done)
  · first | omega | rfl | (intro hg; simp only [nrmT] at hg; omega) | (intro g1 g2; simp [g1, g2]; done) | (intro g1; simp at g1 ⊢; simp [g1]; done) | (simp only [nrmT] at *; omega) | (simp at * <;> omega) | (simp_all <;> omega) | (simp_all; done)
theorem s_l6Choices_pc (n : Int) (hn : 0 ≤ n ∧ n ≤ 8) : PC Try.prog 176 [.int .i64 n] (.one (.d (.sl (.rows (chs n.toNat))))) :=
  pc_wf @Try.call176 fun _ => pc_by (by kernel_rfl) Try.func176 @Try.call176 (by kernel_rfl) s_l6Choices_C (s_l6Choices_A n) (by kernel_rfl) (s_l6Choices_vc n hn) (by kernel_rfl)
def s_l6Choices_orc : List D → Orc := orcN [none] fun ds => match ds with
  | [.int .i64 n] => some (.one (.d (.sl (.rows (chs n.toNat)))))
  | _ => none
theorem least_min {v : List Int → Int} : ∀ (r : List (List Int)) (b : List Int), v (r.foldl (lsB v) b) ≤ v b ∧ ∀ x ∈ r, v (r.foldl (lsB v) b) ≤ v x
  | [], b => ⟨Int.le_refl _, fun x hx => by cases hx⟩
  | y :: r, b => by
    obtain ⟨h1, h2⟩ := least_min (v := v) r (lsB v b y)
    have h3 : v (lsB v b y) ≤ v b ∧ v (lsB v b y) ≤ v y := by unfold lsB; split <;> omega
    rw [List.foldl_cons]
    refine ⟨by omega, fun x hx => ?_⟩
    rcases List.mem_cons.1 hx with rfl | hx
    · omega
    · exact h2 x hx
theorem leastL_min {v : List Int → Int} {l : List (List Int)} {x : List Int} (h : x ∈ l) : v (leastL v l) ≤ v x := (least_min l _).2 x h
theorem fold_pick {v : List Int → Int} {p : List Int → Bool} {f : List Int → List Int → List Int} (hf : ∀ b x, f b x = if p x = true ∧ v x < v b then x else b) : ∀ (l : List (List Int)) (b : List Int), l.foldl f b = (l.filter p).foldl (lsB v) b
  | [], _ => rfl
  | x :: r, b => by
    rw [List.foldl_cons, hf, fold_pick hf r, List.filter_cons]
    by_cases e : p x = true
    · rw [if_pos e, List.foldl_cons]
      congr 1
      unfold lsB
      by_cases e2 : v x < v b
      · rw [if_pos ⟨e, e2⟩, if_pos e2]
      · rw [if_neg (fun h => e2 h.2), if_neg e2]
    · rw [if_neg e, if_neg (fun h => e h.1)]
theorem lsB_head {v : List Int → Int} : ∀ (r : List (List Int)) (b y : List Int), (y :: r).foldl (lsB v) b = if v (r.foldl (lsB v) y) < v b then r.foldl (lsB v) y else b
  | [], b, y => rfl
  | z :: r, b, y => by
    rw [List.foldl_cons, lsB_head r (lsB v b y) z, lsB_head r y z]
    unfold lsB
    by_cases h1 : v y < v b
    · rw [if_pos h1]
      by_cases h2 : v (List.foldl (lsB v) z r) < v y
      · unfold lsB at h2
        rw [if_pos h2, if_pos (by omega)]
      · unfold lsB at h2
        rw [if_neg h2, if_pos h1]
    · rw [if_neg h1]
      by_cases h2 : v (List.foldl (lsB v) z r) < v y
      · unfold lsB at h2
        rw [if_pos h2]
      · unfold lsB at h2
        rw [if_neg h2, if_neg h1, if_neg (by omega)]
def leB (v : List Int → Int) (p : List Int → Bool) (x b : List Int) : List Int := if p x = true ∧ v x ≤ v b then x else b
theorem foldr_least {v : List Int → Int} {p : List Int → Bool} {z : List Int} : ∀ (l : List (List Int)), (l.filter p = [] → l.foldr (leB v p) z = z) ∧ (∀ y s, l.filter p = y :: s → l.foldr (leB v p) z = if v (s.foldl (lsB v) y) ≤ v z then s.foldl (lsB v) y else z)
  | [] => ⟨fun _ => rfl, fun y s h => (by cases h)⟩
  | x :: r => by
    obtain ⟨i1, i2⟩ := foldr_least (v := v) (p := p) (z := z) r
    rw [List.foldr_cons, List.filter_cons]
    by_cases e : p x = true
    · rw [if_pos e]
      refine ⟨fun h => (by cases h), fun y s h => ?_⟩
      cases h
      cases hf : r.filter p with
      | nil =>
        rw [i1 hf, List.foldl_nil]
        unfold leB
        by_cases e4 : v x ≤ v z
        · rw [if_pos ⟨e, e4⟩, if_pos e4]
        · rw [if_neg (fun h => e4 h.2), if_neg e4]
      | cons y s =>
        have hF := i2 y s hf
        rw [lsB_head]
        generalize s.foldl (lsB v) y = m at *
        by_cases c1 : v m ≤ v z
        · rw [if_pos c1] at hF
          rw [hF]
          by_cases c2 : v m < v x
          · rw [if_pos c2, if_pos c1]; unfold leB; rw [if_neg (fun h => by omega)]
          · rw [if_neg c2, if_pos (show v x ≤ v z by omega)]; unfold leB; rw [if_pos ⟨e, by omega⟩]
        · rw [if_neg c1] at hF
          rw [hF]
          by_cases c2 : v m < v x
          · rw [if_pos c2, if_neg c1]; unfold leB; rw [if_neg (fun h => by omega)]
          · rw [if_neg c2]
            unfold leB
            by_cases c3 : v x ≤ v z
            · rw [if_pos ⟨e, c3⟩, if_pos c3]
            · rw [if_neg (fun h => c3 h.2), if_neg c3]
    · rw [if_neg e]
      have e2 : leB v p x (r.foldr (leB v p) z) = r.foldr (leB v p) z := by
        show (if _ then _ else _) = _
        rw [if_neg (fun h => e h.1)]
      rw [e2]
      exact ⟨i1, i2⟩
theorem leastL_cons {v : List Int → Int} {y : List Int} {s : List (List Int)} : leastL v (y :: s) = s.foldl (lsB v) y := by
  show s.foldl (lsB v) (lsB v y y) = _
  rw [lsB_self]
theorem cond_and {a b : Bool} : cond a b false = (a && b) := by cases a <;> rfl
theorem foldr_at {f : List Int → List Int → List Int} {z : List Int} {l : List (List Int)} {i : Int} (h0 : 0 ≤ i) (h : i < (l.length : Int)) : (l.drop (i - 1 + 1).toNat).foldr f z = f (l.getD i.toNat []) ((l.drop (i + 1).toNat).foldr f z) := by
  rw [show (i - 1 + 1).toNat = i.toNat by omega, List.drop_eq_getElem_cons (show i.toNat < l.length by omega), List.foldr_cons, show (i + 1).toNat = i.toNat + 1 by omega, getD_get (show i.toNat < l.length by omega)]
theorem foldr_all {v : List Int → Int} {p : List Int → Bool} {z : List Int} {l : List (List Int)} (hz : z ∈ l) (hp : p z = true) : l.foldr (leB v p) z = leastL v (l.filter p) := by
  have hm : z ∈ l.filter p := List.mem_filter.2 ⟨hz, hp⟩
  cases hf : l.filter p with
  | nil => rw [hf] at hm; cases hm
  | cons y s =>
    rw [(foldr_least l).2 y s hf, leastL_cons, if_pos]
    rw [← leastL_cons, ← hf]
    exact leastL_min hm
theorem pickS_all {v : List Int → Int} {p : List Int → Bool} {n : Nat} (hp : p [] = true) : ((chs n).filter p).foldl (lsB v) [] = leastL v ((chs n).filter p) := by
  unfold leastL chs
  rw [List.filter_append, List.filter_cons, if_pos hp]
  rfl
theorem chs_pos {p : List Int → Bool} {n : Nat} (hp : p [] = true) : 0 < ((chs n).filter p).length := by
  unfold chs
  rw [List.filter_append, List.filter_cons, if_pos hp]
  simp
abbrev i_lists_cover_JJ0 (below : Int) (Size : Int) (Sets : List (List Int)) (Costs : List Int) (out : List (List Int)) (i : Int) : Prop := (0 ≤ i) ∧ (i ≤ ((chs below.toNat).length : Int)) ∧ (out = ((chs below.toNat).take i.toNat).filter (coverB Size Sets))
abbrev i_lists_cover_mJ0 (below : Int) (Size : Int) (Sets : List (List Int)) (Costs : List Int) (out : List (List Int)) (i : Int) : Nat := ((chs below.toNat).length - i).toNat
def i_lists_cover_C (f : FuncId) (ds : List D) : Orc := bif Nat.beq f 134 then i_sets_orc ds else bif Nat.beq f 166 then i_System_isCover_orc ds else .no
def i_lists_cover_A (below : Int) (Size : Int) (Sets : List (List Int)) (Costs : List Int) : Ann := .two (.none) (.two (.none) (.two (.two (.reg [(0, .frz)]) (.loop (cut2 (fun (out : List (List Int)) (i : Int) => i_lists_cover_JJ0 below Size Sets Costs out i) (fun (out : List (List Int)) (i : Int) => [(1, .d false (.fn 166 1 [.agg [.int .i64 Size, .sl (.rows Sets), .sl (.ints Costs)]])), (5, .own 1000000 out.length), (13, .own 13 (1 + (setsL below.toNat).length)), (14, .d true (.int .i64 ((1 + (setsL below.toNat).length) : Int))), (15, .d true (.int .i64 i))]) (fun (out : List (List Int)) (i : Int) => [(1000000, .arr true 26 (.rows out)), (13, .arr true 26 (.rows ([[]] ++ setsL below.toNat)))])) (fun g => i_lists_cover_mJ0 below Size Sets Costs g.1 g.2) (fun _ => .none))) (.none)))
def i_lists_cover_P (below : Int) (Size : Int) (Sets : List (List Int)) (Costs : List Int) : Prop :=
  (PC Try.prog 134 [.int .i64 below] (.one (.own 26 (.rows (setsL below.toNat))))) ∧ ((1 : Nat) = 1) ∧ ((setsL below.toNat).length = (setsL below.toNat).length) ∧ ((1 + (setsL below.toNat).length) * 24 ≤ 140737488355328) ∧ ((∃ out' : List (List Int), ∃ i' : Int, (i_lists_cover_JJ0 below Size Sets Costs out' i') ∧ ((.fn 166 1 [.agg [.int .i64 Size, .sl (.rows Sets), .sl (.ints Costs)]] : D) = (.fn 166 1 [.agg [.int .i64 Size, .sl (.rows Sets), .sl (.ints Costs)]] : D)) ∧ ((0 : Nat) = out'.length) ∧ ((1 + (setsL below.toNat).length) = (1 + (setsL below.toNat).length)) ∧ (((1 + (setsL below.toNat).length) : Int) = ((1 + (setsL below.toNat).length) : Int)) ∧ ((0 : Int) = i') ∧ ([] = out') ∧ ((([[]] ++ setsL below.toNat) : List (List Int)) = ([[]] ++ setsL below.toNat))) ∧ (∀ out : List (List Int), ∀ i : Int, (i_lists_cover_JJ0 below Size Sets Costs out i) → (((decide (i < ((1 + (setsL below.toNat).length) : Int))) = true → ((0 : Int) ≤ i) ∧ ((i : Int) < ((1 + (setsL below.toNat).length) : Int)) ∧ (i.toNat < ([[]] ++ setsL below.toNat).length) ∧ (PC Try.prog 166 [.agg [.int .i64 Size, .sl (.rows Sets), .sl (.ints Costs)], .sl (.ints (([[]] ++ setsL below.toNat).getD i.toNat []))] (.one (.d (.bool (coverB Size Sets (([[]] ++ setsL below.toNat).getD i.toNat [])))))) ∧ (((coverB Size Sets (([[]] ++ setsL below.toNat).getD i.toNat [])) = true → (out.length = out.length) ∧ ((1 : Nat) = 1) ∧ ((out.length + 1) * 24 ≤ 140737488355328) ∧ (-9223372036854775808 ≤ (i + 1) ∧ (i + 1) ≤ 9223372036854775807) ∧ (∃ out' : List (List Int), ∃ i' : Int, (i_lists_cover_JJ0 below Size Sets Costs out' i') ∧ (i_lists_cover_mJ0 below Size Sets Costs out' i' < i_lists_cover_mJ0 below Size Sets Costs out i) ∧ ((.fn 166 1 [.agg [.int .i64 Size, .sl (.rows Sets), .sl (.ints Costs)]] : D) = (.fn 166 1 [.agg [.int .i64 Size, .sl (.rows Sets), .sl (.ints Costs)]] : D)) ∧ ((out.length + 1) = out'.length) ∧ ((1 + (setsL below.toNat).length) = (1 + (setsL below.toNat).length)) ∧ (((1 + (setsL below.toNat).length) : Int) = ((1 + (setsL below.toNat).length) : Int)) ∧ ((i + 1) = i') ∧ ((out ++ [(([[]] ++ setsL below.toNat).getD i.toNat [])]) = out') ∧ ((([[]] ++ setsL below.toNat) : List (List Int)) = ([[]] ++ setsL below.toNat)))) ∧ ((coverB Size Sets (([[]] ++ setsL below.toNat).getD i.toNat [])) = false → (-9223372036854775808 ≤ (i + 1) ∧ (i + 1) ≤ 9223372036854775807) ∧ (∃ out' : List (List Int), ∃ i' : Int, (i_lists_cover_JJ0 below Size Sets Costs out' i') ∧ (i_lists_cover_mJ0 below Size Sets Costs out' i' < i_lists_cover_mJ0 below Size Sets Costs out i) ∧ ((.fn 166 1 [.agg [.int .i64 Size, .sl (.rows Sets), .sl (.ints Costs)]] : D) = (.fn 166 1 [.agg [.int .i64 Size, .sl (.rows Sets), .sl (.ints Costs)]] : D)) ∧ (out.length = out'.length) ∧ ((1 + (setsL below.toNat).length) = (1 + (setsL below.toNat).length)) ∧ (((1 + (setsL below.toNat).length) : Int) = ((1 + (setsL below.toNat).length) : Int)) ∧ ((i + 1) = i') ∧ (out = out') ∧ ((([[]] ++ setsL below.toNat) : List (List Int)) = ([[]] ++ setsL below.toNat)))))) ∧ ((decide (i < ((1 + (setsL below.toNat).length) : Int))) = false → ((out.length = out.length) ∧ ((out : List (List Int)) = ((chs below.toNat).filter (coverB Size Sets))))))))
theorem i_lists_cover_vc (below : Int) (Size : Int) (Sets : List (List Int)) (Costs : List Int) (hn : 0 ≤ below ∧ below ≤ 8) (hx : ∀ s ∈ chs below.toNat, goodSys Size Sets Costs = true ∧ rising s 0 ((Sets.length : Int) - 1) = true) (w_Sets : (Sets.length : Int) ≤ 9223372036854775807) (v_Sets : ∀ x9 ∈ Sets, (x9.length : Int) ≤ 9223372036854775807) (w_Costs : (Costs.length : Int) ≤ 9223372036854775807) : i_lists_cover_P below Size Sets Costs := by
  unfold i_lists_cover_P
  have cs := chs_small (n := below.toNat) (by omega)
  have ce : (chs below.toNat).length = 1 + (setsL below.toNat).length := by unfold chs; rw [List.length_append]; rfl
  refine ⟨?_, rfl, rfl, ?_, ?_, ?_⟩
  · refine i_sets_pc below ?_
    · omega
  · omega
  · refine ⟨([]), 0, ?_⟩
    refine ⟨?_, rfl, rfl, rfl, rfl, rfl, ?_, rfl⟩
    · refine ⟨?_, ?_, ?_⟩
      · omega
      · omega
      · rfl
    · first | omega | rfl | (intro hg; simp only [nrmT] at hg; omega) | (intro g1 g2; simp [g1, g2]; done) | (intro g1; simp at g1 ⊢; simp [g1]; done) | (simp only [nrmT] at *; omega) | (simp at * <;> omega) | (simp_all <;> omega) | (simp_all; done)
  · intro out i hJ
    obtain ⟨h1, h2, h3⟩ := hJ
    refine ⟨?_, ?_⟩
    · intro b1
      try simp only [nrmT] at b1
      refine ⟨?_, ?_, ?_, ?_, ?_, ?_⟩
      · omega
      · omega
      · show i.toNat < (chs below.toNat).length
        omega
      · refine i_System_isCover_pc Size Sets Costs (([[]] ++ setsL below.toNat).getD i.toNat []) ?_ ?_
        · have hm : ([[]] ++ setsL below.toNat).getD i.toNat [] ∈ chs below.toNat := getD_memI (xs := chs below.toNat) h1 (by omega)
          exact (hx _ hm).1
        · have hm : ([[]] ++ setsL below.toNat).getD i.toNat [] ∈ chs below.toNat := getD_memI (xs := chs below.toNat) h1 (by omega)
          exact (hx _ hm).2
      · intro b2
        try simp only [nrmT] at b2
        refine ⟨rfl, rfl, ?_, ?_, ?_⟩
        · have := List.length_filter_le (coverB Size Sets) ((chs below.toNat).take i.toNat)
          rw [← h3, List.length_take] at this
          omega
        · omega
        · refine ⟨(out ++ [(([[]] ++ setsL below.toNat).getD i.toNat [])]), (i + 1), ?_⟩
          refine ⟨?_, ?_, rfl, ?_, rfl, rfl, rfl, rfl, rfl⟩
          · refine ⟨?_, ?_, ?_⟩
            · omega
            · omega
            · rw [filter_step h1 (by omega), ← h3, if_pos (by first | exact b2 | exact decide_eq_true b2)]; rfl
          · first | (show _ < _; omega) | (simp only [i_lists_cover_mJ0]; omega) | (simp only [i_lists_cover_mJ0] at *; simp at *; omega)
          · first | omega | rfl | (intro hg; simp only [nrmT] at hg; omega) | (intro g1 g2; simp [g1, g2]; done) | (intro g1; simp at g1 ⊢; simp [g1]; done) | (simp only [nrmT] at *; omega) | (simp at * <;> omega) | (simp_all <;> omega) | (simp_all; done)
      · intro b3
        try simp only [nrmT] at b3
        refine ⟨?_, ?_⟩
        · omega
        · refine ⟨out, (i + 1), ?_⟩
          refine ⟨?_, ?_, rfl, rfl, rfl, rfl, rfl, rfl, rfl⟩
          · refine ⟨?_, ?_, ?_⟩
            · omega
            · omega
            · rw [filter_step h1 (by omega), ← h3]
              exact (if_neg (by first | exact ne_true_of_eq_false b3 | exact fun h => absurd (of_decide_eq_true h) (Int.not_le.2 b3))).symm
          · first | (show _ < _; omega) | (simp only [i_lists_cover_mJ0]; omega) | (simp only [i_lists_cover_mJ0] at *; simp at *; omega)
    · intro b4
      try simp only [nrmT] at b4
      refine ⟨rfl, ?_⟩
      · rw [h3, take_all (by omega)]
theorem i_lists_cover_pc (below : Int) (Size : Int) (Sets : List (List Int)) (Costs : List Int) (hn : 0 ≤ below ∧ below ≤ 8) (hx : ∀ s ∈ chs below.toNat, goodSys Size Sets Costs = true ∧ rising s 0 ((Sets.length : Int) - 1) = true) : PC Try.prog 173 [.int .i64 below, .fn 166 1 [.agg [.int .i64 Size, .sl (.rows Sets), .sl (.ints Costs)]]] (.one (.d (.sl (.rows ((chs below.toNat).filter (coverB Size Sets)))))) :=
  pc_wf @Try.call173 fun hw => pc_by (by kernel_rfl) Try.func173 @Try.call173 (by kernel_rfl) i_lists_cover_C (i_lists_cover_A below Size Sets Costs) (by kernel_rfl) (i_lists_cover_vc below Size Sets Costs hn hx hw.2.1.1.2.1.1 hw.2.1.1.2.1.2 hw.2.1.1.2.2.1) (by kernel_rfl)
def i_lists_cover_orc : List D → Orc := orcN [none, none] fun ds => match ds with
  | [.int .i64 below, .fn f0 1 [.agg [.int .i64 Size, .sl (.rows Sets), .sl (.ints Costs)]]] => bif Nat.beq f0 166 then some (.one (.d (.sl (.rows ((chs below.toNat).filter (coverB Size Sets)))))) else none
  | _ => none
abbrev i_least_cost_JJ0 (xss : List (List Int)) (Size : Int) (Sets : List (List Int)) (Costs : List Int) (best : List Int) (i : Int) : Prop := (0 ≤ i) ∧ (i ≤ (xss.length : Int)) ∧ (best ∈ xss) ∧ (best = (xss.take i.toNat).foldl (lsB (costOf Costs)) (xss.getD 0 []))
abbrev i_least_cost_mJ0 (xss : List (List Int)) (Size : Int) (Sets : List (List Int)) (Costs : List Int) (best : List Int) (i : Int) : Nat := (xss.length - i).toNat
def i_least_cost_C (f : FuncId) (ds : List D) : Orc := bif Nat.beq f 178 then i_System_cost_orc ds else .no
def i_least_cost_A (xss : List (List Int)) (Size : Int) (Sets : List (List Int)) (Costs : List Int) : Ann := .two (.none) (.two (.none) (.two (.two (.none) (.loop (cut2 (fun (best : List Int) (i : Int) => i_least_cost_JJ0 xss Size Sets Costs best i) (fun (best : List Int) (i : Int) => [(1, .d false (.fn 178 1 [.agg [.int .i64 Size, .sl (.rows Sets), .sl (.ints Costs)]])), (5, .d true (.sl (.ints best))), (11, .d true (.sl (.rows xss))), (12, .d true (.int .i64 (xss.length : Int))), (13, .d true (.int .i64 i))]) (fun (best : List Int) (i : Int) => [])) (fun g => i_least_cost_mJ0 xss Size Sets Costs g.1 g.2) (fun _ => .none))) (.none)))
def i_least_cost_P (xss : List (List Int)) (Size : Int) (Sets : List (List Int)) (Costs : List Int) : Prop :=
  ((0 : Int) ≤ 0) ∧ ((0 : Int) < xss.length) ∧ (0 < xss.length) ∧ ((∃ best' : List Int, ∃ i' : Int, (i_least_cost_JJ0 xss Size Sets Costs best' i') ∧ ((.fn 178 1 [.agg [.int .i64 Size, .sl (.rows Sets), .sl (.ints Costs)]] : D) = (.fn 178 1 [.agg [.int .i64 Size, .sl (.rows Sets), .sl (.ints Costs)]] : D)) ∧ ((xss.getD 0 []) = best') ∧ (xss = xss) ∧ ((xss.length : Int) = (xss.length : Int)) ∧ ((0 : Int) = i')) ∧ (∀ best : List Int, ∀ i : Int, (i_least_cost_JJ0 xss Size Sets Costs best i) → (((decide (i < (xss.length : Int))) = true → ((0 : Int) ≤ i) ∧ ((i : Int) < xss.length) ∧ (i.toNat < xss.length) ∧ (PC Try.prog 178 [.agg [.int .i64 Size, .sl (.rows Sets), .sl (.ints Costs)], .sl (.ints (xss.getD i.toNat []))] (.one (.d (.int .i64 (costOf Costs (xss.getD i.toNat [])))))) ∧ (PC Try.prog 178 [.agg [.int .i64 Size, .sl (.rows Sets), .sl (.ints Costs)], .sl (.ints best)] (.one (.d (.int .i64 (costOf Costs best))))) ∧ (((decide ((costOf Costs (xss.getD i.toNat [])) < (costOf Costs best))) = true → (-9223372036854775808 ≤ (i + 1) ∧ (i + 1) ≤ 9223372036854775807) ∧ (∃ best' : List Int, ∃ i' : Int, (i_least_cost_JJ0 xss Size Sets Costs best' i') ∧ (i_least_cost_mJ0 xss Size Sets Costs best' i' < i_least_cost_mJ0 xss Size Sets Costs best i) ∧ ((.fn 178 1 [.agg [.int .i64 Size, .sl (.rows Sets), .sl (.ints Costs)]] : D) = (.fn 178 1 [.agg [.int .i64 Size, .sl (.rows Sets), .sl (.ints Costs)]] : D)) ∧ ((xss.getD i.toNat []) = best') ∧ (xss = xss) ∧ ((xss.length : Int) = (xss.length : Int)) ∧ ((i + 1) = i'))) ∧ ((decide ((costOf Costs (xss.getD i.toNat [])) < (costOf Costs best))) = false → (-9223372036854775808 ≤ (i + 1) ∧ (i + 1) ≤ 9223372036854775807) ∧ (∃ best' : List Int, ∃ i' : Int, (i_least_cost_JJ0 xss Size Sets Costs best' i') ∧ (i_least_cost_mJ0 xss Size Sets Costs best' i' < i_least_cost_mJ0 xss Size Sets Costs best i) ∧ ((.fn 178 1 [.agg [.int .i64 Size, .sl (.rows Sets), .sl (.ints Costs)]] : D) = (.fn 178 1 [.agg [.int .i64 Size, .sl (.rows Sets), .sl (.ints Costs)]] : D)) ∧ (best = best') ∧ (xss = xss) ∧ ((xss.length : Int) = (xss.length : Int)) ∧ ((i + 1) = i'))))) ∧ ((decide (i < (xss.length : Int))) = false → (((best : List Int) = (leastL (costOf Costs) xss)))))))
theorem i_least_cost_vc (xss : List (List Int)) (Size : Int) (Sets : List (List Int)) (Costs : List Int) (hp : 0 < xss.length) (hx : ∀ s ∈ xss, goodSys Size Sets Costs = true ∧ rising s 0 ((Sets.length : Int) - 1) = true) (w_xss : (xss.length : Int) ≤ 9223372036854775807) (v_xss : ∀ x9 ∈ xss, (x9.length : Int) ≤ 9223372036854775807) (w_Sets : (Sets.length : Int) ≤ 9223372036854775807) (v_Sets : ∀ x9 ∈ Sets, (x9.length : Int) ≤ 9223372036854775807) (w_Costs : (Costs.length : Int) ≤ 9223372036854775807) : i_least_cost_P xss Size Sets Costs := by
  unfold i_least_cost_P
  refine ⟨?_, ?_, ?_, ?_, ?_⟩
  · omega
  · omega
  · omega
  · refine ⟨(xss.getD 0 []), 0, ?_⟩
    refine ⟨?_, rfl, rfl, rfl, rfl, rfl⟩
    · refine ⟨?_, ?_, ?_, ?_⟩
      · omega
      · omega
      · exact getD_mem hp
      · rfl
  · intro best i hJ
    obtain ⟨h1, h2, h3, h4⟩ := hJ
    refine ⟨?_, ?_⟩
    · intro b1
      try simp only [nrmT] at b1
      refine ⟨?_, ?_, ?_, ?_, ?_, ?_, ?_⟩
      · omega
      · omega
      · omega
      · refine i_System_cost_pc Size Sets Costs (xss.getD i.toNat []) ?_ ?_
        · exact (hx _ (getD_memI (d := []) h1 (by omega))).1
        · exact (hx _ (getD_memI h1 (by omega))).2
      · refine i_System_cost_pc Size Sets Costs best ?_ ?_
        · exact (hx _ h3).1
        · exact (hx _ h3).2
      · intro b2
        try simp only [nrmT] at b2
        refine ⟨?_, ?_⟩
        · omega
        · refine ⟨(xss.getD i.toNat []), (i + 1), ?_⟩
          refine ⟨?_, ?_, rfl, rfl, rfl, rfl, rfl⟩
          · refine ⟨?_, ?_, ?_, ?_⟩
            · omega
            · omega
            · exact getD_memI h1 (by omega)
            · rw [fold_snoc (d := []) h1 (by omega), ← h4]; unfold lsB; rw [if_pos b2]
          · first | (show _ < _; omega) | (simp only [i_least_cost_mJ0]; omega) | (simp only [i_least_cost_mJ0] at *; simp at *; omega)
      · intro b3
        try simp only [nrmT] at b3
        refine ⟨?_, ?_⟩
        · omega
        · refine ⟨best, (i + 1), ?_⟩
          refine ⟨?_, ?_, rfl, rfl, rfl, rfl, rfl⟩
          · refine ⟨?_, ?_, ?_, ?_⟩
            · omega
            · omega
            · exact h3
            · rw [fold_snoc (d := []) h1 (by omega), ← h4]; unfold lsB; (try dsimp only); rw [if_neg (by omega)]
          · first | (show _ < _; omega) | (simp only [i_least_cost_mJ0]; omega) | (simp only [i_least_cost_mJ0] at *; simp at *; omega)
    · intro b4
      try simp only [nrmT] at b4
      rw [h4, take_all (by omega)]; rfl
theorem i_least_cost_pc (xss : List (List Int)) (Size : Int) (Sets : List (List Int)) (Costs : List Int) (hp : 0 < xss.length) (hx : ∀ s ∈ xss, goodSys Size Sets Costs = true ∧ rising s 0 ((Sets.length : Int) - 1) = true) : PCs Try.prog 172 [.sl (.rows xss), .fn 178 1 [.agg [.int .i64 Size, .sl (.rows Sets), .sl (.ints Costs)]]] 0 (.sl (.ints (leastL (costOf Costs) xss))) :=
  pcs_wf @Try.call172 fun hw => pcs_by (by kernel_rfl) Try.func172 @Try.call172 (by kernel_rfl) i_least_cost_C (i_least_cost_A xss Size Sets Costs) (by kernel_rfl) (i_least_cost_vc xss Size Sets Costs hp hx hw.1.1 hw.1.2 hw.2.1.1.2.1.1 hw.2.1.1.2.1.2 hw.2.1.1.2.2.1) (by kernel_rfl)
def i_least_cost_orc : List D → Orc := orcS 0 fun ds => match ds with
  | [.sl (.rows xss), .fn f0 1 [.agg [.int .i64 Size, .sl (.rows Sets), .sl (.ints Costs)]]] => some (.sl (.ints (leastL (costOf Costs) xss)))
  | _ => none
def lcS (Size : Int) (Sets : List (List Int)) (Costs : List Int) : List Int := leastL (costOf Costs) ((chs Sets.length).filter (coverB Size Sets))
def lcOk (Size : Int) (Sets : List (List Int)) (Costs : List Int) : Bool := goodSys Size Sets Costs && coverB Size Sets (allN Sets.length)
def lcL (Size : Int) (Sets : List (List Int)) (Costs : List Int) : List Int := if lcOk Size Sets Costs = true then lcS Size Sets Costs else []
theorem lc_pos {Size : Int} {Sets : List (List Int)} (h : coverB Size Sets (allN Sets.length) = true) : 0 < ((chs Sets.length).filter (coverB Size Sets)).length := filter_pos ⟨_, chs_all _, h⟩
theorem chs_inR {Sets : List (List Int)} {s : List Int} (h : s ∈ chs Sets.length) : InR Sets s := fun c hc => by
  have := rising_mem (chs_rising h) c hc
  omega
theorem lc_none {Size : Int} {Sets : List (List Int)} (h : ((chs Sets.length).filter (coverB Size Sets)).length = 0) : coverB Size Sets (allN Sets.length) = false := by
  cases e : coverB Size Sets (allN Sets.length) with
  | false => rfl
  | true => have := lc_pos e; omega
theorem lc_some {Size : Int} {Sets : List (List Int)} (h : ¬ ((chs Sets.length).filter (coverB Size Sets)).length = 0) : coverB Size Sets (allN Sets.length) = true := by
  obtain ⟨s, hs⟩ := List.exists_mem_of_length_pos (Nat.pos_of_ne_zero h)
  obtain ⟨h1, h2⟩ := List.mem_filter.1 hs
  exact cover_all (chs_inR h1) h2
abbrev s_l6Least_JJ0 (Size : Int) (Sets : List (List Int)) (Costs : List Int) (best : List Int) (i : Int) : Prop := (-1 ≤ i) ∧ (i < ((chs Sets.length).length : Int)) ∧ (coverB Size Sets (allN Sets.length) = true) ∧ (best ∈ chs Sets.length) ∧ (best = ((chs Sets.length).drop (i + 1).toNat).foldr (leB (costOf Costs) (coverB Size Sets)) (allN Sets.length))
abbrev s_l6Least_mJ0 (Size : Int) (Sets : List (List Int)) (Costs : List Int) (best : List Int) (i : Int) : Nat := (i + 1).toNat
def s_l6Least_C (f : FuncId) (ds : List D) : Orc := bif Nat.beq f 192 then s_l6All_orc ds else bif Nat.beq f 186 then s_l6Cover_orc ds else bif Nat.beq f 176 then s_l6Choices_orc ds else bif Nat.beq f 190 then s_l6Cost_orc ds else .no
def s_l6Least_A (Size : Int) (Sets : List (List Int)) (Costs : List Int) : Ann := .two (.none) (.two (.none) (.two (.none) (.two (.two (.none) (.loop (cut2 (fun (best : List Int) (i : Int) => s_l6Least_JJ0 Size Sets Costs best i) (fun (best : List Int) (i : Int) => [(1, .ptr 1 0), (4, .d true (.sl (.ints best))), (5, .d true (.sl (.rows (chs (Sets.length : Int).toNat)))), (6, .d true (.int .i64 i))]) (fun (best : List Int) (i : Int) => [(1, .box 36 [.d false (.int .i64 Size), .d false (.sl (.rows Sets)), .d false (.sl (.ints Costs))])])) (fun g => s_l6Least_mJ0 Size Sets Costs g.1 g.2) (fun _ => .none))) (.none))))
def s_l6Least_P (Size : Int) (Sets : List (List Int)) (Costs : List Int) : Prop :=
  (true = true) ∧ (PC Try.prog 192 [.agg [.int .i64 Size, .sl (.rows Sets), .sl (.ints Costs)]] (.one (.d (.sl (.ints (allN Sets.length)))))) ∧ (PC Try.prog 186 [.agg [.int .i64 Size, .sl (.rows Sets), .sl (.ints Costs)], .sl (.ints (allN Sets.length))] (.one (.d (.bool (coverB Size Sets (allN Sets.length)))))) ∧ (((!(coverB Size Sets (allN Sets.length))) = true → (((0 : Nat) = 0) ∧ (([] : List Int) = (if coverB Size Sets (allN Sets.length) = true then lcS Size Sets Costs else [])) ∧ (false = (coverB Size Sets (allN Sets.length))))) ∧ ((!(coverB Size Sets (allN Sets.length))) = false → (true = true) ∧ (PC Try.prog 192 [.agg [.int .i64 Size, .sl (.rows Sets), .sl (.ints Costs)]] (.one (.d (.sl (.ints (allN Sets.length)))))) ∧ (PC Try.prog 176 [.int .i64 (Sets.length : Int)] (.one (.d (.sl (.rows (chs (Sets.length : Int).toNat)))))) ∧ (-9223372036854775808 ≤ ((((chs (Sets.length : Int).toNat).length) : Int) - 1) ∧ ((((chs (Sets.length : Int).toNat).length) : Int) - 1) ≤ 9223372036854775807) ∧ ((∃ best' : List Int, ∃ i' : Int, (s_l6Least_JJ0 Size Sets Costs best' i') ∧ ((allN Sets.length) = best') ∧ ((chs (Sets.length : Int).toNat) = (chs (Sets.length : Int).toNat)) ∧ (((((chs (Sets.length : Int).toNat).length) : Int) - 1) = i') ∧ (Size = Size) ∧ (Sets = Sets) ∧ (Costs = Costs)) ∧ (∀ best : List Int, ∀ i : Int, (s_l6Least_JJ0 Size Sets Costs best i) → (((decide (i ≥ 0)) = true → (true = true) ∧ ((0 : Int) ≤ i) ∧ ((i : Int) < (chs (Sets.length : Int).toNat).length) ∧ (i.toNat < (chs (Sets.length : Int).toNat).length) ∧ (PC Try.prog 186 [.agg [.int .i64 Size, .sl (.rows Sets), .sl (.ints Costs)], .sl (.ints ((chs (Sets.length : Int).toNat).getD i.toNat []))] (.one (.d (.bool (coverB Size Sets ((chs (Sets.length : Int).toNat).getD i.toNat [])))))) ∧ ((coverB Size Sets ((chs (Sets.length : Int).toNat).getD i.toNat [])) = true → (coverB Size Sets ((chs (Sets.length : Int).toNat).getD i.toNat [])) = true) ∧ ((coverB Size Sets ((chs (Sets.length : Int).toNat).getD i.toNat [])) = true → (coverB Size Sets ((chs (Sets.length : Int).toNat).getD i.toNat [])) = true) ∧ (((coverB Size Sets ((chs (Sets.length : Int).toNat).getD i.toNat [])) = true → (0 : Int) ≤ i)) ∧ (((coverB Size Sets ((chs (Sets.length : Int).toNat).getD i.toNat [])) = true → (i : Int) < (chs (Sets.length : Int).toNat).length)) ∧ ((coverB Size Sets ((chs (Sets.length : Int).toNat).getD i.toNat [])) = true → (coverB Size Sets ((chs (Sets.length : Int).toNat).getD i.toNat [])) = true) ∧ (((coverB Size Sets ((chs (Sets.length : Int).toNat).getD i.toNat [])) = true → i.toNat < (chs (Sets.length : Int).toNat).length)) ∧ ((coverB Size Sets ((chs (Sets.length : Int).toNat).getD i.toNat [])) = true → (coverB Size Sets ((chs (Sets.length : Int).toNat).getD i.toNat [])) = true) ∧ ((coverB Size Sets ((chs (Sets.length : Int).toNat).getD i.toNat [])) = true → (coverB Size Sets ((chs (Sets.length : Int).toNat).getD i.toNat [])) = true) ∧ ((coverB Size Sets ((chs (Sets.length : Int).toNat).getD i.toNat [])) = true → PC Try.prog 190 [.agg [.int .i64 Size, .sl (.rows Sets), .sl (.ints Costs)], .sl (.ints ((chs (Sets.length : Int).toNat).getD i.toNat []))] (.one (.d (.int .i64 (costOf Costs ((chs (Sets.length : Int).toNat).getD i.toNat [])))))) ∧ ((coverB Size Sets ((chs (Sets.length : Int).toNat).getD i.toNat [])) = true → (coverB Size Sets ((chs (Sets.length : Int).toNat).getD i.toNat [])) = true) ∧ ((coverB Size Sets ((chs (Sets.length : Int).toNat).getD i.toNat [])) = true → (coverB Size Sets ((chs (Sets.length : Int).toNat).getD i.toNat [])) = true) ∧ ((coverB Size Sets ((chs (Sets.length : Int).toNat).getD i.toNat [])) = true → PC Try.prog 190 [.agg [.int .i64 Size, .sl (.rows Sets), .sl (.ints Costs)], .sl (.ints best)] (.one (.d (.int .i64 (costOf Costs best))))) ∧ ((coverB Size Sets ((chs (Sets.length : Int).toNat).getD i.toNat [])) = true → (coverB Size Sets ((chs (Sets.length : Int).toNat).getD i.toNat [])) = true) ∧ ((coverB Size Sets ((chs (Sets.length : Int).toNat).getD i.toNat [])) = true → (coverB Size Sets ((chs (Sets.length : Int).toNat).getD i.toNat [])) = true) ∧ (true = true) ∧ (((coverB Size Sets ((chs (Sets.length : Int).toNat).getD i.toNat [])) = true → (coverB Size Sets ((chs (Sets.length : Int).toNat).getD i.toNat [])) = true)) ∧ (((coverB Size Sets ((chs (Sets.length : Int).toNat).getD i.toNat [])) = false → true = true)) ∧ (((cond (coverB Size Sets ((chs (Sets.length : Int).toNat).getD i.toNat [])) (decide ((costOf Costs ((chs (Sets.length : Int).toNat).getD i.toNat [])) ≤ (costOf Costs best))) false) = true → ((0 : Int) ≤ i) ∧ ((i : Int) < (chs (Sets.length : Int).toNat).length) ∧ (i.toNat < (chs (Sets.length : Int).toNat).length) ∧ (-9223372036854775808 ≤ (i - 1) ∧ (i - 1) ≤ 9223372036854775807) ∧ (∃ best' : List Int, ∃ i' : Int, (s_l6Least_JJ0 Size Sets Costs best' i') ∧ (s_l6Least_mJ0 Size Sets Costs best' i' < s_l6Least_mJ0 Size Sets Costs best i) ∧ (((chs (Sets.length : Int).toNat).getD i.toNat []) = best') ∧ ((chs (Sets.length : Int).toNat) = (chs (Sets.length : Int).toNat)) ∧ ((i - 1) = i') ∧ (Size = Size) ∧ (Sets = Sets) ∧ (Costs = Costs))) ∧ ((cond (coverB Size Sets ((chs (Sets.length : Int).toNat).getD i.toNat [])) (decide ((costOf Costs ((chs (Sets.length : Int).toNat).getD i.toNat [])) ≤ (costOf Costs best))) false) = false → (-9223372036854775808 ≤ (i - 1) ∧ (i - 1) ≤ 9223372036854775807) ∧ (∃ best' : List Int, ∃ i' : Int, (s_l6Least_JJ0 Size Sets Costs best' i') ∧ (s_l6Least_mJ0 Size Sets Costs best' i' < s_l6Least_mJ0 Size Sets Costs best i) ∧ (best = best') ∧ ((chs (Sets.length : Int).toNat) = (chs (Sets.length : Int).toNat)) ∧ ((i - 1) = i') ∧ (Size = Size) ∧ (Sets = Sets) ∧ (Costs = Costs))))) ∧ ((decide (i ≥ 0)) = false → (((best : List Int) = (if coverB Size Sets (allN Sets.length) = true then lcS Size Sets Costs else [])) ∧ (true = (coverB Size Sets (allN Sets.length))))))))))
end Go.Proofs.Ytomnmacmlhkceaa
