/- Contracts of the functions that the law reaches. -/
import Derived.Test.YtomnmacmlhkceaaPw
import Derived.Test.YtomnmacmlhkceaaPua
import Derived.Test.YtomnmacmlhkceaaSh
import Derived.Test.YtomnmacmlhkceaaProg
import Derived.KernelRfl
set_option linter.unusedVariables false
set_option linter.unusedSimpArgs false
namespace Go.Proofs.Ytomnmacmlhkceaa
open Go

def s_l1In_C (f : FuncId) (ds : List D) : Orc := .no
def s_l1In_A (x : Int) (a : Int) (b : Int) : Ann := .none
def s_l1In_P (x : Int) (a : Int) (b : Int) : Prop :=
  ((decide (x ≥ a)) = true → (decide (x ≥ a)) = true) ∧ ((decide (x ≥ a)) = true → (decide (x ≥ a)) = true) ∧ (true = true) ∧ (((decide (x ≥ a)) = true → (decide (x ≥ a)) = true)) ∧ (((decide (x ≥ a)) = false → true = true)) ∧ (((cond (decide (x ≥ a)) (decide (x ≤ b)) false) = (inB x a b)))
theorem s_l1In_vc (x : Int) (a : Int) (b : Int)   : s_l1In_P x a b := by
  unfold s_l1In_P
  refine ⟨id, id, rfl, id, fun _ => rfl, ?_⟩
  ·first | omega | rfl | (intro hg; simp only [nrmT] at hg; omega) | (intro g1 g2; simp [g1, g2]; done) | (intro g1; simp at g1 ⊢; simp [g1]; done) | (simp only [nrmT] at *; omega) | (simp at * <;> omega) | (simp_all <;> omega) | (simp_all; done) | (simp [inB]; omega) | (simp only [inB]; by_cases h : a ≤ x <;> simp_all)
theorem s_l1In_pc (x : Int) (a : Int) (b : Int)  : PC Try.prog 116 [.int .i64 x, .int .i64 a, .int .i64 b] (.one (.d (.bool (inB x a b)))) :=
  pc_wf @Try.call116 fun _ => pc_by (by kernel_rfl) Try.func116 @Try.call116 (by kernel_rfl) s_l1In_C (s_l1In_A x a b) (by kernel_rfl) (s_l1In_vc x a b) (by kernel_rfl)
def s_l1In_orc : List D → Orc := orcN [none, none, none] fun ds => match ds with
  | [.int .i64 x, .int .i64 a, .int .i64 b] => some (.one (.d (.bool (inB x a b))))
  | _ => none
def i_between_C (f : FuncId) (ds : List D) : Orc := .no
def i_between_A (x : Int) (a : Int) (b : Int) : Ann := .none
def i_between_P (x : Int) (a : Int) (b : Int) : Prop :=
  ((decide (x ≥ a)) = true → (decide (x ≥ a)) = true) ∧ ((decide (x ≥ a)) = true → (decide (x ≥ a)) = true) ∧ (true = true) ∧ (((decide (x ≥ a)) = true → (decide (x ≥ a)) = true)) ∧ (((decide (x ≥ a)) = false → true = true)) ∧ (((cond (decide (x ≥ a)) (decide (x ≤ b)) false) = (inB x a b)))
theorem i_between_vc (x : Int) (a : Int) (b : Int)   : i_between_P x a b := by
  unfold i_between_P
  refine ⟨id, id, rfl, id, fun _ => rfl, ?_⟩
  ·first | omega | rfl | (intro hg; simp only [nrmT] at hg; omega) | (intro g1 g2; simp [g1, g2]; done) | (intro g1; simp at g1 ⊢; simp [g1]; done) | (simp only [nrmT] at *; omega) | (simp at * <;> omega) | (simp_all <;> omega) | (simp_all; done) | (simp [inB]; omega) | (simp only [inB]; by_cases h : a ≤ x <;> simp_all)
theorem i_between_pc (x : Int) (a : Int) (b : Int)  : PC Try.prog 120 [.int .i64 x, .int .i64 a, .int .i64 b] (.one (.d (.bool (inB x a b)))) :=
  pc_wf @Try.call120 fun _ => pc_by (by kernel_rfl) Try.func120 @Try.call120 (by kernel_rfl) i_between_C (i_between_A x a b) (by kernel_rfl) (i_between_vc x a b) (by kernel_rfl)
def i_between_orc : List D → Orc := orcN [none, none, none] fun ds => match ds with
  | [.int .i64 x, .int .i64 a, .int .i64 b] => some (.one (.d (.bool (inB x a b))))
  | _ => none
def sz1 (n : Nat) (left : Int) : Int := if left - n < 0 then -1 else left - n
def risingP (xs : List Int) (lo hi : Int) (k : Nat) : Bool := inB (xs.getD k 0) lo hi && (decide (k = 0) || decide (xs.getD (k - 1) 0 < xs.getD k 0))
def rising (xs : List Int) (lo hi : Int) : Bool := allTo (risingP xs lo hi) xs.length
theorem rising_step {xs : List Int} {lo hi i : Int} (h0 : 0 ≤ i) {c : Bool} (hc : (cond (!(inB (xs.getD i.toNat 0) lo hi)) true (cond (decide (i > 0)) (decide (xs.getD (i - 1).toNat 0 ≥ xs.getD i.toNat 0)) false)) = c) :
    risingP xs lo hi i.toNat = !c := by
  subst hc
  have e : (i - 1).toNat = i.toNat - 1 := by omega
  unfold risingP
  rw [e]
  cases inB (xs.getD i.toNat 0) lo hi
  · rfl
  · by_cases h : i > 0
    · have h2 : ¬ i.toNat = 0 := by omega
      simp [h, h2]
      by_cases h3 : xs[i.toNat - 1]?.getD 0 < xs[i.toNat]?.getD 0
      · simp [h3]
      · simp [h3]; omega
    · have h2 : i.toNat = 0 := by omega
      simp [h, h2]
abbrev s_l1Rising_JJ0 (xs : List Int) (lo : Int) (hi : Int) (i : Int) : Prop := (0 ≤ i) ∧ (i ≤ (xs.length : Int)) ∧ (allTo (risingP xs lo hi) i.toNat = true)
abbrev s_l1Rising_mJ0 (xs : List Int) (lo : Int) (hi : Int) (i : Int) : Nat := (xs.length - i).toNat
def s_l1Rising_C (f : FuncId) (ds : List D) : Orc := bif Nat.beq f 116 then s_l1In_orc ds else .no
def s_l1Rising_A (xs : List Int) (lo : Int) (hi : Int) : Ann := .two (.none) (.two (.two (.none) (.loop (cut1 (fun (i : Int) => s_l1Rising_JJ0 xs lo hi i) (fun (i : Int) => [(0, .d false (.sl (.ints xs))), (1, .d false (.int .i64 lo)), (2, .d false (.int .i64 hi)), (7, .d true (.int .i64 i))]) (fun (i : Int) => [])) (fun g => s_l1Rising_mJ0 xs lo hi g) (fun _ => .none))) (.none))
def s_l1Rising_P (xs : List Int) (lo : Int) (hi : Int) : Prop :=
  ((∃ i' : Int, (s_l1Rising_JJ0 xs lo hi i') ∧ (xs = xs) ∧ (lo = lo) ∧ (hi = hi) ∧ ((0 : Int) = i')) ∧ (∀ i : Int, (s_l1Rising_JJ0 xs lo hi i) → (((decide (i < (xs.length : Int))) = true → (true = true) ∧ ((0 : Int) ≤ i) ∧ ((i : Int) < xs.length) ∧ (i.toNat < xs.length) ∧ (PC Try.prog 116 [.int .i64 (xs.getD i.toNat 0), .int .i64 lo, .int .i64 hi] (.one (.d (.bool (inB (xs.getD i.toNat 0) lo hi))))) ∧ ((!(!(inB (xs.getD i.toNat 0) lo hi))) = true → (!(!(inB (xs.getD i.toNat 0) lo hi))) = true) ∧ ((!(!(inB (xs.getD i.toNat 0) lo hi))) = true → (!(!(inB (xs.getD i.toNat 0) lo hi))) = true) ∧ (((!(!(inB (xs.getD i.toNat 0) lo hi))) && (decide (i > 0))) = true → ((!(!(inB (xs.getD i.toNat 0) lo hi))) && (decide (i > 0))) = true) ∧ ((((!(!(inB (xs.getD i.toNat 0) lo hi))) && (decide (i > 0))) = true → -9223372036854775808 ≤ (i - 1) ∧ (i - 1) ≤ 9223372036854775807)) ∧ (((!(!(inB (xs.getD i.toNat 0) lo hi))) && (decide (i > 0))) = true → ((!(!(inB (xs.getD i.toNat 0) lo hi))) && (decide (i > 0))) = true) ∧ (((!(!(inB (xs.getD i.toNat 0) lo hi))) && (decide (i > 0))) = true → ((!(!(inB (xs.getD i.toNat 0) lo hi))) && (decide (i > 0))) = true) ∧ ((((!(!(inB (xs.getD i.toNat 0) lo hi))) && (decide (i > 0))) = true → (0 : Int) ≤ (i - 1))) ∧ ((((!(!(inB (xs.getD i.toNat 0) lo hi))) && (decide (i > 0))) = true → ((i - 1) : Int) < xs.length)) ∧ (((!(!(inB (xs.getD i.toNat 0) lo hi))) && (decide (i > 0))) = true → ((!(!(inB (xs.getD i.toNat 0) lo hi))) && (decide (i > 0))) = true) ∧ ((((!(!(inB (xs.getD i.toNat 0) lo hi))) && (decide (i > 0))) = true → (i - 1).toNat < xs.length)) ∧ (((!(!(inB (xs.getD i.toNat 0) lo hi))) && (decide (i > 0))) = true → ((!(!(inB (xs.getD i.toNat 0) lo hi))) && (decide (i > 0))) = true) ∧ (((!(!(inB (xs.getD i.toNat 0) lo hi))) && (decide (i > 0))) = true → ((!(!(inB (xs.getD i.toNat 0) lo hi))) && (decide (i > 0))) = true) ∧ ((((!(!(inB (xs.getD i.toNat 0) lo hi))) && (decide (i > 0))) = true → (0 : Int) ≤ i)) ∧ ((((!(!(inB (xs.getD i.toNat 0) lo hi))) && (decide (i > 0))) = true → (i : Int) < xs.length)) ∧ (((!(!(inB (xs.getD i.toNat 0) lo hi))) && (decide (i > 0))) = true → ((!(!(inB (xs.getD i.toNat 0) lo hi))) && (decide (i > 0))) = true) ∧ ((((!(!(inB (xs.getD i.toNat 0) lo hi))) && (decide (i > 0))) = true → i.toNat < xs.length)) ∧ (((!(!(inB (xs.getD i.toNat 0) lo hi))) && (decide (i > 0))) = true → ((!(!(inB (xs.getD i.toNat 0) lo hi))) && (decide (i > 0))) = true) ∧ (((!(!(inB (xs.getD i.toNat 0) lo hi))) && (decide (i > 0))) = true → ((!(!(inB (xs.getD i.toNat 0) lo hi))) && (decide (i > 0))) = true) ∧ (((!(!(inB (xs.getD i.toNat 0) lo hi))) = true → (!(!(inB (xs.getD i.toNat 0) lo hi))) = true)) ∧ (((!(!(inB (xs.getD i.toNat 0) lo hi))) = true → (decide (i > 0)) = true → ((!(!(inB (xs.getD i.toNat 0) lo hi))) && (decide (i > 0))) = true)) ∧ (((!(!(inB (xs.getD i.toNat 0) lo hi))) = true → (decide (i > 0)) = false → true = true)) ∧ (true = true) ∧ (((!(inB (xs.getD i.toNat 0) lo hi)) = true → true = true)) ∧ (((!(inB (xs.getD i.toNat 0) lo hi)) = false → (!(!(inB (xs.getD i.toNat 0) lo hi))) = true)) ∧ (((cond (!(inB (xs.getD i.toNat 0) lo hi)) true (cond (decide (i > 0)) (decide ((xs.getD ((i - 1).toNat) 0) ≥ (xs.getD i.toNat 0))) false)) = true → ((false = (rising xs lo hi)))) ∧ ((cond (!(inB (xs.getD i.toNat 0) lo hi)) true (cond (decide (i > 0)) (decide ((xs.getD ((i - 1).toNat) 0) ≥ (xs.getD i.toNat 0))) false)) = false → (-9223372036854775808 ≤ (i + 1) ∧ (i + 1) ≤ 9223372036854775807) ∧ (∃ i' : Int, (s_l1Rising_JJ0 xs lo hi i') ∧ (s_l1Rising_mJ0 xs lo hi i' < s_l1Rising_mJ0 xs lo hi i) ∧ (xs = xs) ∧ (lo = lo) ∧ (hi = hi) ∧ ((i + 1) = i'))))) ∧ ((decide (i < (xs.length : Int))) = false → ((true = (rising xs lo hi)))))))
theorem s_l1Rising_vc (xs : List Int) (lo : Int) (hi : Int)  (w_xs : (xs.length : Int) ≤ 9223372036854775807) : s_l1Rising_P xs lo hi := by
  unfold s_l1Rising_P
  refine ⟨?_, ?_⟩
  ·refine ⟨0, ?_⟩
   refine ⟨?_, rfl, rfl, rfl, rfl⟩
   ·refine ⟨?_, ?_, ?_⟩
    ·omega
    ·omega
    ·rfl
  ·intro i hJ
   obtain ⟨h1, h2, h3⟩ := hJ
   refine ⟨?_, ?_⟩
   ·intro b1
    try simp only [nrmT] at b1
    refine ⟨rfl, ?_, ?_, ?_, s_l1In_pc (xs.getD i.toNat 0) lo hi, id, id, id, ?_, id, id, ?_, ?_, id, ?_, id, id, ?_, ?_, id, ?_, id, id, id, ?_, fun _ _ => rfl, rfl, fun _ => rfl, ?_, ?_, ?_⟩
    ·omega
    ·omega
    ·omega
    ·omega
    ·(intro hg; simp only [nrmT] at hg; omega)
    ·omega
    ·omega
    ·omega
    ·omega
    ·omega
    ·(simp_all; done)
    ·(simp_all; done)
    ·intro b2
     have e := rising_step h1 b2
     exact (allTo_falseI h1 (by omega) e).symm
    ·intro b3
     refine ⟨?_, ?_⟩
     ·omega
     ·refine ⟨(i + 1), ?_⟩
      refine ⟨?_, ?_, rfl, rfl, rfl, rfl⟩
      ·refine ⟨?_, ?_, ?_⟩
       ·omega
       ·omega
       ·have e := rising_step h1 b3
        exact allTo_step h1 h3 e
      ·first | (show _ < _; omega) | (simp only [s_l1Rising_mJ0]; omega) | (simp only [s_l1Rising_mJ0] at *; simp at *; omega)
   ·intro b4
    try simp only [nrmT] at b4
    have e : i.toNat = xs.length := by omega
    rw [e] at h3
    exact h3.symm
theorem s_l1Rising_pc (xs : List Int) (lo : Int) (hi : Int)  : PC Try.prog 167 [.sl (.ints xs), .int .i64 lo, .int .i64 hi] (.one (.d (.bool (rising xs lo hi)))) :=
  pc_wf @Try.call167 fun hw => pc_by (by kernel_rfl) Try.func167 @Try.call167 (by kernel_rfl) s_l1Rising_C (s_l1Rising_A xs lo hi) (by kernel_rfl) (s_l1Rising_vc xs lo hi hw.1) (by kernel_rfl)
def s_l1Rising_orc : List D → Orc := orcN [some .ints, none, none] fun ds => match ds with
  | [.sl (.ints xs), .int .i64 lo, .int .i64 hi] => some (.one (.d (.bool (rising xs lo hi))))
  | _ => none
abbrev i_isRising_JJ0 (xs : List Int) (below : Int) (i : Int) : Prop := (0 ≤ i) ∧ (i ≤ (xs.length : Int)) ∧ (allTo (risingP xs 0 (below - 1)) i.toNat = true)
abbrev i_isRising_mJ0 (xs : List Int) (below : Int) (i : Int) : Nat := (xs.length - i).toNat
def i_isRising_C (f : FuncId) (ds : List D) : Orc := bif Nat.beq f 120 then i_between_orc ds else .no
def i_isRising_A (xs : List Int) (below : Int) : Ann := .two (.none) (.two (.two (.none) (.loop (cut1 (fun (i : Int) => i_isRising_JJ0 xs below i) (fun (i : Int) => [(0, .d false (.sl (.ints xs))), (1, .d false (.int .i64 below)), (7, .d false (.sl (.ints xs))), (8, .d true (.int .i64 (xs.length : Int))), (9, .d true (.int .i64 i))]) (fun (i : Int) => [])) (fun g => i_isRising_mJ0 xs below g) (fun _ => .none))) (.none))
def i_isRising_P (xs : List Int) (below : Int) : Prop :=
  ((∃ i' : Int, (i_isRising_JJ0 xs below i') ∧ (xs = xs) ∧ (below = below) ∧ (xs = xs) ∧ ((xs.length : Int) = (xs.length : Int)) ∧ ((0 : Int) = i')) ∧ (∀ i : Int, (i_isRising_JJ0 xs below i) → (((decide (i < (xs.length : Int))) = true → ((0 : Int) ≤ i) ∧ ((i : Int) < xs.length) ∧ (i.toNat < xs.length) ∧ (-9223372036854775808 ≤ (below - 1) ∧ (below - 1) ≤ 9223372036854775807) ∧ (PC Try.prog 120 [.int .i64 (xs.getD i.toNat 0), .int .i64 0, .int .i64 (below - 1)] (.one (.d (.bool (inB (xs.getD i.toNat 0) 0 (below - 1)))))) ∧ ((!(!(inB (xs.getD i.toNat 0) 0 (below - 1)))) = true → (!(!(inB (xs.getD i.toNat 0) 0 (below - 1)))) = true) ∧ ((!(!(inB (xs.getD i.toNat 0) 0 (below - 1)))) = true → (!(!(inB (xs.getD i.toNat 0) 0 (below - 1)))) = true) ∧ (((!(!(inB (xs.getD i.toNat 0) 0 (below - 1)))) && (decide (i > 0))) = true → ((!(!(inB (xs.getD i.toNat 0) 0 (below - 1)))) && (decide (i > 0))) = true) ∧ ((((!(!(inB (xs.getD i.toNat 0) 0 (below - 1)))) && (decide (i > 0))) = true → -9223372036854775808 ≤ (i - 1) ∧ (i - 1) ≤ 9223372036854775807)) ∧ (((!(!(inB (xs.getD i.toNat 0) 0 (below - 1)))) && (decide (i > 0))) = true → ((!(!(inB (xs.getD i.toNat 0) 0 (below - 1)))) && (decide (i > 0))) = true) ∧ (((!(!(inB (xs.getD i.toNat 0) 0 (below - 1)))) && (decide (i > 0))) = true → ((!(!(inB (xs.getD i.toNat 0) 0 (below - 1)))) && (decide (i > 0))) = true) ∧ ((((!(!(inB (xs.getD i.toNat 0) 0 (below - 1)))) && (decide (i > 0))) = true → (0 : Int) ≤ (i - 1))) ∧ ((((!(!(inB (xs.getD i.toNat 0) 0 (below - 1)))) && (decide (i > 0))) = true → ((i - 1) : Int) < xs.length)) ∧ (((!(!(inB (xs.getD i.toNat 0) 0 (below - 1)))) && (decide (i > 0))) = true → ((!(!(inB (xs.getD i.toNat 0) 0 (below - 1)))) && (decide (i > 0))) = true) ∧ ((((!(!(inB (xs.getD i.toNat 0) 0 (below - 1)))) && (decide (i > 0))) = true → (i - 1).toNat < xs.length)) ∧ (((!(!(inB (xs.getD i.toNat 0) 0 (below - 1)))) && (decide (i > 0))) = true → ((!(!(inB (xs.getD i.toNat 0) 0 (below - 1)))) && (decide (i > 0))) = true) ∧ (((!(!(inB (xs.getD i.toNat 0) 0 (below - 1)))) && (decide (i > 0))) = true → ((!(!(inB (xs.getD i.toNat 0) 0 (below - 1)))) && (decide (i > 0))) = true) ∧ (((!(!(inB (xs.getD i.toNat 0) 0 (below - 1)))) = true → (!(!(inB (xs.getD i.toNat 0) 0 (below - 1)))) = true)) ∧ (((!(!(inB (xs.getD i.toNat 0) 0 (below - 1)))) = true → (decide (i > 0)) = true → ((!(!(inB (xs.getD i.toNat 0) 0 (below - 1)))) && (decide (i > 0))) = true)) ∧ (((!(!(inB (xs.getD i.toNat 0) 0 (below - 1)))) = true → (decide (i > 0)) = false → true = true)) ∧ (true = true) ∧ (((!(inB (xs.getD i.toNat 0) 0 (below - 1))) = true → true = true)) ∧ (((!(inB (xs.getD i.toNat 0) 0 (below - 1))) = false → (!(!(inB (xs.getD i.toNat 0) 0 (below - 1)))) = true)) ∧ (((cond (!(inB (xs.getD i.toNat 0) 0 (below - 1))) true (cond (decide (i > 0)) (decide ((xs.getD i.toNat 0) ≤ (xs.getD ((i - 1).toNat) 0))) false)) = true → ((false = (rising xs 0 (below - 1))))) ∧ ((cond (!(inB (xs.getD i.toNat 0) 0 (below - 1))) true (cond (decide (i > 0)) (decide ((xs.getD i.toNat 0) ≤ (xs.getD ((i - 1).toNat) 0))) false)) = false → (-9223372036854775808 ≤ (i + 1) ∧ (i + 1) ≤ 9223372036854775807) ∧ (∃ i' : Int, (i_isRising_JJ0 xs below i') ∧ (i_isRising_mJ0 xs below i' < i_isRising_mJ0 xs below i) ∧ (xs = xs) ∧ (below = below) ∧ (xs = xs) ∧ ((xs.length : Int) = (xs.length : Int)) ∧ ((i + 1) = i'))))) ∧ ((decide (i < (xs.length : Int))) = false → ((true = (rising xs 0 (below - 1))))))))
theorem i_isRising_vc (xs : List Int) (below : Int) (hb : -9223372036854775808 < below ∧ below ≤ 9223372036854775807) (w_xs : (xs.length : Int) ≤ 9223372036854775807) : i_isRising_P xs below := by
  unfold i_isRising_P
  refine ⟨?_, ?_⟩
  ·refine ⟨0, ?_⟩
   refine ⟨?_, rfl, rfl, rfl, rfl, rfl⟩
   ·refine ⟨?_, ?_, ?_⟩
    ·omega
    ·omega
    ·rfl
  ·intro i hJ
   obtain ⟨h1, h2, h3⟩ := hJ
   refine ⟨?_, ?_⟩
   ·intro b1
    try simp only [nrmT] at b1
    refine ⟨?_, ?_, ?_, ?_, i_between_pc (xs.getD i.toNat 0) 0 (below - 1), id, id, id, ?_, id, id, ?_, ?_, id, ?_, id, id, id, ?_, fun _ _ => rfl, rfl, fun _ => rfl, ?_, ?_, ?_⟩
    ·omega
    ·omega
    ·omega
    ·omega
    ·omega
    ·(intro hg; simp only [nrmT] at hg; omega)
    ·omega
    ·omega
    ·(simp_all; done)
    ·(simp_all; done)
    ·intro b2
     have e := rising_step h1 b2
     exact (allTo_falseI h1 (by omega) e).symm
    ·intro b3
     refine ⟨?_, ?_⟩
     ·omega
     ·refine ⟨(i + 1), ?_⟩
      refine ⟨?_, ?_, rfl, rfl, rfl, rfl, rfl⟩
      ·refine ⟨?_, ?_, ?_⟩
       ·omega
       ·omega
       ·have e := rising_step h1 b3
        exact allTo_step h1 h3 e
      ·first | (show _ < _; omega) | (simp only [i_isRising_mJ0]; omega) | (simp only [i_isRising_mJ0] at *; simp at *; omega)
   ·intro b4
    try simp only [nrmT] at b4
    have e : i.toNat = xs.length := by omega
    rw [e] at h3
    exact h3.symm
theorem i_isRising_pc (xs : List Int) (below : Int) (hb : -9223372036854775808 < below ∧ below ≤ 9223372036854775807) : PC Try.prog 130 [.sl (.ints xs), .int .i64 below] (.one (.d (.bool (rising xs 0 (below - 1))))) :=
  pc_wf @Try.call130 fun hw => pc_by (by kernel_rfl) Try.func130 @Try.call130 (by kernel_rfl) i_isRising_C (i_isRising_A xs below) (by kernel_rfl) (i_isRising_vc xs below hb hw.1) (by kernel_rfl)
def i_isRising_orc : List D → Orc := orcN [some .ints, none] fun ds => match ds with
  | [.sl (.ints xs), .int .i64 below] => some (.one (.d (.bool (rising xs 0 (below - 1)))))
  | _ => none
theorem len_beq (m n : Nat) : ((m : Int) == (n : Int)) = decide (m = n) := by
  rw [Bool.eq_iff_iff]; simp only [beq_iff_eq, decide_eq_true_eq]; omega
theorem len_le (m n : Nat) : decide ((m : Int) ≤ (n : Int)) = decide (m ≤ n) := by
  rw [Bool.eq_iff_iff]; simp only [decide_eq_true_eq]; omega
theorem all_end {α : Type} {p : α → Bool} {d : α} {xs : List α} {i : Int} (h2 : (xs.length : Int) ≤ i) (h2' : i ≤ (xs.length : Int)) (h3 : allTo (fun k => p (xs.getD k d)) i.toNat = true) : xs.all p = true := by
  have e : i.toNat = xs.length := by omega
  rw [e, allTo_list] at h3; exact h3
theorem all_no {α : Type} {p : α → Bool} {d : α} {xs : List α} {i : Int} (h0 : 0 ≤ i) (h : i < (xs.length : Int)) (h3 : p (xs.getD i.toNat d) = false) : xs.all p = false := by
  rw [← allTo_list (d := d)]; exact allTo_falseI h0 h h3
abbrev s_l6Sets_JJ0 (size : Int) (xss : List (List Int)) (i : Int) : Prop := (0 ≤ i) ∧ (i ≤ (xss.length : Int)) ∧ (allTo (fun k => rising (xss.getD k []) 0 (size - 1)) i.toNat = true)
abbrev s_l6Sets_mJ0 (size : Int) (xss : List (List Int)) (i : Int) : Nat := (xss.length - i).toNat
def s_l6Sets_C (f : FuncId) (ds : List D) : Orc := bif Nat.beq f 167 then s_l1Rising_orc ds else .no
def s_l6Sets_A (size : Int) (xss : List (List Int)) : Ann := .two (.none) (.two (.two (.none) (.loop (cut1 (fun (i : Int) => s_l6Sets_JJ0 size xss i) (fun (i : Int) => [(0, .d false (.int .i64 size)), (1, .d false (.sl (.rows xss))), (5, .d true (.int .i64 i))]) (fun (i : Int) => [])) (fun g => s_l6Sets_mJ0 size xss g) (fun _ => .none))) (.none))
def s_l6Sets_P (size : Int) (xss : List (List Int)) : Prop :=
  ((∃ i' : Int, (s_l6Sets_JJ0 size xss i') ∧ (size = size) ∧ (xss = xss) ∧ ((0 : Int) = i')) ∧ (∀ i : Int, (s_l6Sets_JJ0 size xss i) → (((decide (i < (xss.length : Int))) = true → ((0 : Int) ≤ i) ∧ ((i : Int) < xss.length) ∧ (i.toNat < xss.length) ∧ (-9223372036854775808 ≤ (size - 1) ∧ (size - 1) ≤ 9223372036854775807) ∧ (PC Try.prog 167 [.sl (.ints (xss.getD i.toNat [])), .int .i64 0, .int .i64 (size - 1)] (.one (.d (.bool (rising (xss.getD i.toNat []) 0 (size - 1)))))) ∧ (((!(rising (xss.getD i.toNat []) 0 (size - 1))) = true → ((false = (xss.all (fun xs => rising xs 0 (size - 1)) && decide (xss.length ≤ 8))))) ∧ ((!(rising (xss.getD i.toNat []) 0 (size - 1))) = false → (-9223372036854775808 ≤ (i + 1) ∧ (i + 1) ≤ 9223372036854775807) ∧ (∃ i' : Int, (s_l6Sets_JJ0 size xss i') ∧ (s_l6Sets_mJ0 size xss i' < s_l6Sets_mJ0 size xss i) ∧ (size = size) ∧ (xss = xss) ∧ ((i + 1) = i'))))) ∧ ((decide (i < (xss.length : Int))) = false → (((decide ((xss.length : Int) ≤ 8)) = (xss.all (fun xs => rising xs 0 (size - 1)) && decide (xss.length ≤ 8))))))))
theorem s_l6Sets_vc (size : Int) (xss : List (List Int)) (hb : 0 ≤ size ∧ size ≤ 8) (w_xss : (xss.length : Int) ≤ 9223372036854775807) (v_xss : ∀ x9 ∈ xss, (x9.length : Int) ≤ 9223372036854775807) : s_l6Sets_P size xss := by
  unfold s_l6Sets_P
  refine ⟨?_, ?_⟩
  ·refine ⟨0, ?_⟩
   refine ⟨?_, rfl, rfl, rfl⟩
   ·refine ⟨?_, ?_, ?_⟩
    ·omega
    ·omega
    ·rfl
  ·intro i hJ
   obtain ⟨h1, h2, h3⟩ := hJ
   refine ⟨?_, ?_⟩
   ·intro b1
    try simp only [nrmT] at b1
    refine ⟨?_, ?_, ?_, ?_, s_l1Rising_pc (xss.getD i.toNat []) 0 (size - 1), ?_, ?_⟩
    ·omega
    ·omega
    ·omega
    ·omega
    ·intro b2
     try simp only [nrmT] at b2
     rw [all_no (d := []) h1 (by omega) b2]; rfl
    ·intro b3
     try simp only [nrmT] at b3
     refine ⟨?_, ?_⟩
     ·omega
     ·refine ⟨(i + 1), ?_⟩
      refine ⟨?_, ?_, rfl, rfl, rfl⟩
      ·refine ⟨?_, ?_, ?_⟩
       ·omega
       ·omega
       ·exact allTo_step h1 h3 b3
      ·first | (show _ < _; omega) | (simp only [s_l6Sets_mJ0]; omega) | (simp only [s_l6Sets_mJ0] at *; simp at *; omega)
   ·intro b4
    try simp only [nrmT] at b4
    rw [all_end (p := fun xs => rising xs 0 (size - 1)) (d := []) (by omega) h2 h3, Bool.true_and]; exact len_le _ 8
theorem s_l6Sets_pc (size : Int) (xss : List (List Int)) (hb : 0 ≤ size ∧ size ≤ 8) : PC Try.prog 201 [.int .i64 size, .sl (.rows xss)] (.one (.d (.bool (xss.all (fun xs => rising xs 0 (size - 1)) && decide (xss.length ≤ 8))))) :=
  pc_wf @Try.call201 fun hw => pc_by (by kernel_rfl) Try.func201 @Try.call201 (by kernel_rfl) s_l6Sets_C (s_l6Sets_A size xss) (by kernel_rfl) (s_l6Sets_vc size xss hb hw.2.1.1 hw.2.1.2) (by kernel_rfl)
def s_l6Sets_orc : List D → Orc := orcN [none, some .rows] fun ds => match ds with
  | [.int .i64 size, .sl (.rows xss)] => some (.one (.d (.bool (xss.all (fun xs => rising xs 0 (size - 1)) && decide (xss.length ≤ 8)))))
  | _ => none
def goodSys (size : Int) (sets : List (List Int)) (costs : List Int) : Bool :=
  inB size 0 8 && decide (sets.length ≤ 8) && decide (costs.length = sets.length) && costs.all (fun x => inB x 1 99) && sets.all (fun xs => rising xs 0 (size - 1))
theorem inB_le {x lo hi : Int} (h : inB x lo hi = true) : lo ≤ x ∧ x ≤ hi := of_decide_eq_true h
abbrev s_l6Good_JJ0 (Size : Int) (Sets : List (List Int)) (Costs : List Int) (i : Int) : Prop := (0 ≤ i) ∧ (i ≤ (Costs.length : Int)) ∧ (allTo (fun k => inB (Costs.getD k 0) 1 99) i.toNat = true)
abbrev s_l6Good_mJ0 (Size : Int) (Sets : List (List Int)) (Costs : List Int) (i : Int) : Nat := (Costs.length - i).toNat
def s_l6Good_C (f : FuncId) (ds : List D) : Orc := bif Nat.beq f 116 then s_l1In_orc ds else bif Nat.beq f 201 then s_l6Sets_orc ds else .no
def s_l6Good_A (Size : Int) (Sets : List (List Int)) (Costs : List Int) : Ann := .two (.none) (.two (.two (.none) (.loop (cut1 (fun (i : Int) => s_l6Good_JJ0 Size Sets Costs i) (fun (i : Int) => [(1, .ptr 1 0), (3, .d true (.int .i64 i))]) (fun (i : Int) => [(1, .box 36 [.d false (.int .i64 Size), .d false (.sl (.rows Sets)), .d false (.sl (.ints Costs))])])) (fun g => s_l6Good_mJ0 Size Sets Costs g) (fun _ => .none))) (.none))
def s_l6Good_e1 (Size : Int) (Sets : List (List Int)) : Bool := (cond (inB Size 0 8) (Sets.all (fun xs => rising xs 0 (Size - 1)) && decide (Sets.length ≤ 8)) false)
def s_l6Good_P (Size : Int) (Sets : List (List Int)) (Costs : List Int) : Prop :=
  ((∃ i' : Int, (s_l6Good_JJ0 Size Sets Costs i') ∧ ((0 : Int) = i') ∧ (Size = Size) ∧ (Sets = Sets) ∧ (Costs = Costs)) ∧ (∀ i : Int, (s_l6Good_JJ0 Size Sets Costs i) → (((decide (i < (Costs.length : Int))) = true → ((0 : Int) ≤ i) ∧ ((i : Int) < Costs.length) ∧ (i.toNat < Costs.length) ∧ (PC Try.prog 116 [.int .i64 (Costs.getD i.toNat 0), .int .i64 1, .int .i64 99] (.one (.d (.bool (inB (Costs.getD i.toNat 0) 1 99))))) ∧ (((!(inB (Costs.getD i.toNat 0) 1 99)) = true → ((false = (goodSys Size Sets Costs)))) ∧ ((!(inB (Costs.getD i.toNat 0) 1 99)) = false → (-9223372036854775808 ≤ (i + 1) ∧ (i + 1) ≤ 9223372036854775807) ∧ (∃ i' : Int, (s_l6Good_JJ0 Size Sets Costs i') ∧ (s_l6Good_mJ0 Size Sets Costs i' < s_l6Good_mJ0 Size Sets Costs i) ∧ ((i + 1) = i') ∧ (Size = Size) ∧ (Sets = Sets) ∧ (Costs = Costs))))) ∧ ((decide (i < (Costs.length : Int))) = false → (PC Try.prog 116 [.int .i64 Size, .int .i64 0, .int .i64 8] (.one (.d (.bool (inB Size 0 8))))) ∧ ((inB Size 0 8) = true → (inB Size 0 8) = true) ∧ ((inB Size 0 8) = true → (inB Size 0 8) = true) ∧ ((inB Size 0 8) = true → (inB Size 0 8) = true) ∧ ((inB Size 0 8) = true → (inB Size 0 8) = true) ∧ ((inB Size 0 8) = true → PC Try.prog 201 [.int .i64 Size, .sl (.rows Sets)] (.one (.d (.bool (Sets.all (fun xs => rising xs 0 (Size - 1)) && decide (Sets.length ≤ 8)))))) ∧ (true = true) ∧ (((inB Size 0 8) = true → (inB Size 0 8) = true)) ∧ (((inB Size 0 8) = false → true = true)) ∧ ((s_l6Good_e1 Size Sets) = true → (s_l6Good_e1 Size Sets) = true) ∧ ((s_l6Good_e1 Size Sets) = true → (s_l6Good_e1 Size Sets) = true) ∧ ((s_l6Good_e1 Size Sets) = true → (s_l6Good_e1 Size Sets) = true) ∧ ((s_l6Good_e1 Size Sets) = true → (s_l6Good_e1 Size Sets) = true) ∧ ((s_l6Good_e1 Size Sets) = true → (s_l6Good_e1 Size Sets) = true) ∧ ((s_l6Good_e1 Size Sets) = true → (s_l6Good_e1 Size Sets) = true) ∧ (true = true) ∧ (((s_l6Good_e1 Size Sets) = true → (s_l6Good_e1 Size Sets) = true)) ∧ (((s_l6Good_e1 Size Sets) = false → true = true)) ∧ (((cond (s_l6Good_e1 Size Sets) ((Costs.length : Int) == (Sets.length : Int)) false) = (goodSys Size Sets Costs)))))))
theorem s_l6Good_vc (Size : Int) (Sets : List (List Int)) (Costs : List Int)  (w_Sets : (Sets.length : Int) ≤ 9223372036854775807) (v_Sets : ∀ x9 ∈ Sets, (x9.length : Int) ≤ 9223372036854775807) (w_Costs : (Costs.length : Int) ≤ 9223372036854775807) : s_l6Good_P Size Sets Costs := by
  unfold s_l6Good_P s_l6Good_e1
  refine ⟨?_, ?_⟩
  ·refine ⟨0, ?_⟩
   refine ⟨?_, rfl, rfl, rfl, rfl⟩
   ·refine ⟨?_, ?_, ?_⟩
    ·omega
    ·omega
    ·rfl
  ·intro i hJ
   obtain ⟨h1, h2, h3⟩ := hJ
   refine ⟨?_, ?_⟩
   ·intro b1
    try simp only [nrmT] at b1
    refine ⟨?_, ?_, ?_, s_l1In_pc (Costs.getD i.toNat 0) 1 99, ?_, ?_⟩
    ·omega
    ·omega
    ·omega
    ·intro b2
     try simp only [nrmT] at b2
     unfold goodSys
     rw [all_no (p := fun x => inB x 1 99) (d := 0) h1 (by omega) b2]
     simp
    ·intro b3
     try simp only [nrmT] at b3
     refine ⟨?_, ?_⟩
     ·omega
     ·refine ⟨(i + 1), ?_⟩
      refine ⟨?_, ?_, rfl, rfl, rfl, rfl⟩
      ·refine ⟨?_, ?_, ?_⟩
       ·omega
       ·omega
       ·exact allTo_step h1 h3 b3
      ·first | (show _ < _; omega) | (simp only [s_l6Good_mJ0]; omega) | (simp only [s_l6Good_mJ0] at *; simp at *; omega)
   ·intro b4
    try simp only [nrmT] at b4
    refine ⟨s_l1In_pc Size 0 8, id, id, id, id, ?_, rfl, id, fun _ => rfl, id, id, id, id, id, id, rfl, id, fun _ => rfl, ?_⟩
    ·intro hg
     refine s_l6Sets_pc Size Sets ?_
     ·exact inB_le hg
    ·unfold goodSys
     rw [all_end (p := fun x => inB x 1 99) (d := 0) (by omega) h2 h3, len_beq]
     cases inB Size 0 8 <;> cases decide (Sets.length ≤ 8) <;> cases Sets.all (fun xs => rising xs 0 (Size - 1)) <;> cases decide (Costs.length = Sets.length) <;> rfl
theorem s_l6Good_pc (Size : Int) (Sets : List (List Int)) (Costs : List Int)  : PC Try.prog 122 [.agg [.int .i64 Size, .sl (.rows Sets), .sl (.ints Costs)]] (.one (.d (.bool (goodSys Size Sets Costs)))) :=
  pc_wf @Try.call122 fun hw => pc_by (by kernel_rfl) Try.func122 @Try.call122 (by kernel_rfl) s_l6Good_C (s_l6Good_A Size Sets Costs) (by kernel_rfl) (s_l6Good_vc Size Sets Costs hw.1.2.1.1 hw.1.2.1.2 hw.1.2.2.1) (by kernel_rfl)
def s_l6Good_orc : List D → Orc := orcN [none] fun ds => match ds with
  | [.agg [.int .i64 Size, .sl (.rows Sets), .sl (.ints Costs)]] => some (.one (.d (.bool (goodSys Size Sets Costs))))
  | _ => none
def i_areBetween_1_C (f : FuncId) (ds : List D) : Orc := bif Nat.beq f 120 then i_between_orc ds else .no
def i_areBetween_1_A (x : Int) (lo : Int) (hi : Int) : Ann := .none
def i_areBetween_1_P (x : Int) (lo : Int) (hi : Int) : Prop :=
  (PC Try.prog 120 [.int .i64 x, .int .i64 lo, .int .i64 hi] (.one (.d (.bool (inB x lo hi))))) ∧ (((!(inB x lo hi)) = (!(inB x lo hi))))
theorem i_areBetween_1_vc (x : Int) (lo : Int) (hi : Int)   : i_areBetween_1_P x lo hi := by
  unfold i_areBetween_1_P
  refine ⟨i_between_pc x lo hi, rfl⟩
theorem i_areBetween_1_pc (x : Int) (lo : Int) (hi : Int)  : PC Try.prog 205 [.int .i64 x, .bx [.int .i64 lo] 0, .bx [.int .i64 hi] 0] (.one (.d (.bool (!(inB x lo hi))))) :=
  pc_wf @Try.call205 fun _ => pc_by (by kernel_rfl) Try.func205 @Try.call205 (by kernel_rfl) i_areBetween_1_C (i_areBetween_1_A x lo hi) (by kernel_rfl) (i_areBetween_1_vc x lo hi) (by kernel_rfl)
def i_areBetween_1_orc : List D → Orc := orcN [none, none, none] fun ds => match ds with
  | [.int .i64 x, .bx [.int .i64 lo] 0, .bx [.int .i64 hi] 0] => some (.one (.d (.bool (!(inB x lo hi)))))
  | _ => none
abbrev slices_IndexFunc_int_int_aB_JJ0 (xs : List Int) (lo : Int) (hi : Int) (i : Int) : Prop := (0 ≤ i) ∧ (i ≤ (xs.length : Int)) ∧ (∀ k, k < i.toNat → (fun x => !(inB x lo hi)) (xs.getD k 0) = false)
abbrev slices_IndexFunc_int_int_aB_mJ0 (xs : List Int) (lo : Int) (hi : Int) (i : Int) : Nat := (xs.length - i).toNat
def slices_IndexFunc_int_int_aB_C (f : FuncId) (ds : List D) : Orc := bif Nat.beq f 205 then i_areBetween_1_orc ds else .no
def slices_IndexFunc_int_int_aB_A (xs : List Int) (lo : Int) (hi : Int) : Ann := .two (.none) (.two (.two (.none) (.loop (cut1 (fun (i : Int) => slices_IndexFunc_int_int_aB_JJ0 xs lo hi i) (fun (i : Int) => [(0, .d false (.sl (.ints xs))), (1, .d false (.fn 205 0 [.bx [.int .i64 lo] 0, .bx [.int .i64 hi] 0])), (7, .d true (.int .i64 (xs.length : Int))), (8, .d true (.int .i64 i))]) (fun (i : Int) => [])) (fun g => slices_IndexFunc_int_int_aB_mJ0 xs lo hi g) (fun _ => .none))) (.none))
def slices_IndexFunc_int_int_aB_P (xs : List Int) (lo : Int) (hi : Int) : Prop :=
  ((∃ i' : Int, (slices_IndexFunc_int_int_aB_JJ0 xs lo hi i') ∧ (xs = xs) ∧ ((.fn 205 0 [.bx [.int .i64 lo] 0, .bx [.int .i64 hi] 0] : D) = (.fn 205 0 [.bx [.int .i64 lo] 0, .bx [.int .i64 hi] 0] : D)) ∧ ((xs.length : Int) = (xs.length : Int)) ∧ ((0 : Int) = i')) ∧ (∀ i : Int, (slices_IndexFunc_int_int_aB_JJ0 xs lo hi i) → (((decide (i < (xs.length : Int))) = true → ((0 : Int) ≤ i) ∧ ((i : Int) < xs.length) ∧ (i.toNat < xs.length) ∧ (PC Try.prog 205 [.int .i64 (xs.getD i.toNat 0), .bx [.int .i64 lo] 0, .bx [.int .i64 hi] 0] (.one (.d (.bool (!(inB (xs.getD i.toNat 0) lo hi)))))) ∧ (((!(inB (xs.getD i.toNat 0) lo hi)) = true → ((i = (idxI (fun x => !(inB x lo hi)) xs)))) ∧ ((!(inB (xs.getD i.toNat 0) lo hi)) = false → (-9223372036854775808 ≤ (i + 1) ∧ (i + 1) ≤ 9223372036854775807) ∧ (∃ i' : Int, (slices_IndexFunc_int_int_aB_JJ0 xs lo hi i') ∧ (slices_IndexFunc_int_int_aB_mJ0 xs lo hi i' < slices_IndexFunc_int_int_aB_mJ0 xs lo hi i) ∧ (xs = xs) ∧ ((.fn 205 0 [.bx [.int .i64 lo] 0, .bx [.int .i64 hi] 0] : D) = (.fn 205 0 [.bx [.int .i64 lo] 0, .bx [.int .i64 hi] 0] : D)) ∧ ((xs.length : Int) = (xs.length : Int)) ∧ ((i + 1) = i'))))) ∧ ((decide (i < (xs.length : Int))) = false → ((((-1) : Int) = (idxI (fun x => !(inB x lo hi)) xs)))))))
theorem slices_IndexFunc_int_int_aB_vc (xs : List Int) (lo : Int) (hi : Int)  (w_xs : (xs.length : Int) ≤ 9223372036854775807) : slices_IndexFunc_int_int_aB_P xs lo hi := by
  unfold slices_IndexFunc_int_int_aB_P
  refine ⟨?_, ?_⟩
  ·refine ⟨0, ?_⟩
   refine ⟨?_, rfl, rfl, rfl, rfl⟩
   ·refine ⟨?_, ?_, ?_⟩
    ·omega
    ·omega
    ·omega
  ·intro i hJ
   obtain ⟨h1, h2, h3⟩ := hJ
   refine ⟨?_, ?_⟩
   ·intro b1
    try simp only [nrmT] at b1
    refine ⟨?_, ?_, ?_, i_areBetween_1_pc (xs.getD i.toNat 0) lo hi, ?_, ?_⟩
    ·omega
    ·omega
    ·omega
    ·intro b2
     try simp only [nrmT] at b2
     exact idx_found (p := fun x => !(inB x lo hi)) h1 b1 h3 (by simpa using b2)
    ·intro b3
     try simp only [nrmT] at b3
     refine ⟨?_, ?_⟩
     ·omega
     ·refine ⟨(i + 1), ?_⟩
      refine ⟨?_, ?_, rfl, rfl, rfl, rfl⟩
      ·refine ⟨?_, ?_, ?_⟩
       ·omega
       ·omega
       ·exact idx_step (p := fun x => !(inB x lo hi)) h1 h3 (by simpa using b3)
      ·first | (show _ < _; omega) | (simp only [slices_IndexFunc_int_int_aB_mJ0]; omega) | (simp only [slices_IndexFunc_int_int_aB_mJ0] at *; simp at *; omega)
   ·intro b4
    try simp only [nrmT] at b4
    exact (idx_none (by omega) h3).symm
theorem slices_IndexFunc_int_int_aB_pc (xs : List Int) (lo : Int) (hi : Int)  : PC Try.prog 204 [.sl (.ints xs), .fn 205 0 [.bx [.int .i64 lo] 0, .bx [.int .i64 hi] 0]] (.one (.d (.int .i64 (idxI (fun x => !(inB x lo hi)) xs)))) :=
  pc_wf @Try.call204 fun hw => pc_by (by kernel_rfl) Try.func204 @Try.call204 (by kernel_rfl) slices_IndexFunc_int_int_aB_C (slices_IndexFunc_int_int_aB_A xs lo hi) (by kernel_rfl) (slices_IndexFunc_int_int_aB_vc xs lo hi hw.1) (by kernel_rfl)
def slices_IndexFunc_int_int_aB_orc : List D → Orc := orcN [some .ints, none] fun ds => match ds with
  | [.sl (.ints xs), .fn f0 0 [.bx [.int .i64 lo] 0, .bx [.int .i64 hi] 0]] => bif Nat.beq f0 205 then some (.one (.d (.int .i64 (idxI (fun x => !(inB x lo hi)) xs)))) else none
  | _ => none
def slices_ContainsFunc_int_int_aB_C (f : FuncId) (ds : List D) : Orc := bif Nat.beq f 204 then slices_IndexFunc_int_int_aB_orc ds else .no
def slices_ContainsFunc_int_int_aB_A (xs : List Int) (lo : Int) (hi : Int) : Ann := .none
def slices_ContainsFunc_int_int_aB_P (xs : List Int) (lo : Int) (hi : Int) : Prop :=
  (PC Try.prog 204 [.sl (.ints xs), .fn 205 0 [.bx [.int .i64 lo] 0, .bx [.int .i64 hi] 0]] (.one (.d (.int .i64 (idxI (fun x => !(inB x lo hi)) xs))))) ∧ (((decide ((idxI (fun x => !(inB x lo hi)) xs) ≥ 0)) = (xs.any (fun x => !(inB x lo hi)))))
theorem slices_ContainsFunc_int_int_aB_vc (xs : List Int) (lo : Int) (hi : Int)  (w_xs : (xs.length : Int) ≤ 9223372036854775807) : slices_ContainsFunc_int_int_aB_P xs lo hi := by
  unfold slices_ContainsFunc_int_int_aB_P
  refine ⟨slices_IndexFunc_int_int_aB_pc xs lo hi, ?_⟩
  ·exact idx_any _ _
theorem slices_ContainsFunc_int_int_aB_pc (xs : List Int) (lo : Int) (hi : Int)  : PC Try.prog 127 [.sl (.ints xs), .fn 205 0 [.bx [.int .i64 lo] 0, .bx [.int .i64 hi] 0]] (.one (.d (.bool (xs.any (fun x => !(inB x lo hi)))))) :=
  pc_wf @Try.call127 fun hw => pc_by (by kernel_rfl) Try.func127 @Try.call127 (by kernel_rfl) slices_ContainsFunc_int_int_aB_C (slices_ContainsFunc_int_int_aB_A xs lo hi) (by kernel_rfl) (slices_ContainsFunc_int_int_aB_vc xs lo hi hw.1) (by kernel_rfl)
def slices_ContainsFunc_int_int_aB_orc : List D → Orc := orcN [some .ints, none] fun ds => match ds with
  | [.sl (.ints xs), .fn f0 0 [.bx [.int .i64 lo] 0, .bx [.int .i64 hi] 0]] => bif Nat.beq f0 205 then some (.one (.d (.bool (xs.any (fun x => !(inB x lo hi)))))) else none
  | _ => none
def i_areBetween_C (f : FuncId) (ds : List D) : Orc := bif Nat.beq f 127 then slices_ContainsFunc_int_int_aB_orc ds else .no
def i_areBetween_A (xs : List Int) (lo : Int) (hi : Int) : Ann := .none
def i_areBetween_P (xs : List Int) (lo : Int) (hi : Int) : Prop :=
  (PC Try.prog 127 [.sl (.ints xs), .fn 205 0 [.bx [.int .i64 lo] 0, .bx [.int .i64 hi] 0]] (.one (.d (.bool (xs.any (fun x => !(inB x lo hi))))))) ∧ (((!(xs.any (fun x => !(inB x lo hi)))) = (xs.all (fun x => inB x lo hi))))
theorem i_areBetween_vc (xs : List Int) (lo : Int) (hi : Int)  (w_xs : (xs.length : Int) ≤ 9223372036854775807) : i_areBetween_P xs lo hi := by
  unfold i_areBetween_P
  refine ⟨slices_ContainsFunc_int_int_aB_pc xs lo hi, ?_⟩
  ·exact any_not _ _
theorem i_areBetween_pc (xs : List Int) (lo : Int) (hi : Int)  : PC Try.prog 131 [.sl (.ints xs), .int .i64 lo, .int .i64 hi] (.one (.d (.bool (xs.all (fun x => inB x lo hi))))) :=
  pc_wf @Try.call131 fun hw => pc_by (by kernel_rfl) Try.func131 @Try.call131 (by kernel_rfl) i_areBetween_C (i_areBetween_A xs lo hi) (by kernel_rfl) (i_areBetween_vc xs lo hi hw.1) (by kernel_rfl)
def i_areBetween_orc : List D → Orc := orcN [some .ints, none, none] fun ds => match ds with
  | [.sl (.ints xs), .int .i64 lo, .int .i64 hi] => some (.one (.d (.bool (xs.all (fun x => inB x lo hi)))))
  | _ => none
def i_IsSystem_1_C (f : FuncId) (ds : List D) : Orc := bif Nat.beq f 130 then i_isRising_orc ds else .no
def i_IsSystem_1_A (xs : List Int) (Size : Int) (Sets : List (List Int)) (Costs : List Int) : Ann := .none
def i_IsSystem_1_P (xs : List Int) (Size : Int) (Sets : List (List Int)) (Costs : List Int) : Prop :=
  (PC Try.prog 130 [.sl (.ints xs), .int .i64 Size] (.one (.d (.bool (rising xs 0 (Size - 1)))))) ∧ (((!(rising xs 0 (Size - 1))) = (!(rising xs 0 (Size - 1)))))
theorem i_IsSystem_1_vc (xs : List Int) (Size : Int) (Sets : List (List Int)) (Costs : List Int) (hb : -9223372036854775808 < Size ∧ Size ≤ 9223372036854775807) (w_xs : (xs.length : Int) ≤ 9223372036854775807) (w_Sets : (Sets.length : Int) ≤ 9223372036854775807) (v_Sets : ∀ x9 ∈ Sets, (x9.length : Int) ≤ 9223372036854775807) (w_Costs : (Costs.length : Int) ≤ 9223372036854775807) : i_IsSystem_1_P xs Size Sets Costs := by
  unfold i_IsSystem_1_P
  refine ⟨?_, rfl⟩
  ·refine i_isRising_pc xs Size ?_
   ·omega
theorem i_IsSystem_1_pc (xs : List Int) (Size : Int) (Sets : List (List Int)) (Costs : List Int) (hb : -9223372036854775808 < Size ∧ Size ≤ 9223372036854775807) : PC Try.prog 170 [.sl (.ints xs), .bx [.int .i64 Size, .sl (.rows Sets), .sl (.ints Costs)] 0] (.one (.d (.bool (!(rising xs 0 (Size - 1)))))) :=
  pc_wf @Try.call170 fun hw => pc_by (by kernel_rfl) Try.func170 @Try.call170 (by kernel_rfl) i_IsSystem_1_C (i_IsSystem_1_A xs Size Sets Costs) (by kernel_rfl) (i_IsSystem_1_vc xs Size Sets Costs hb hw.1 hw.2.1.2.1.1 hw.2.1.2.1.2 hw.2.1.2.2.1) (by kernel_rfl)
def i_IsSystem_1_orc : List D → Orc := orcN [some .ints, none] fun ds => match ds with
  | [.sl (.ints xs), .bx [.int .i64 Size, .sl (.rows Sets), .sl (.ints Costs)] 0] => some (.one (.d (.bool (!(rising xs 0 (Size - 1))))))
  | _ => none
abbrev slices_IndexFunc_int_int_iS_JJ0 (xs : List (List Int)) (Size : Int) (Sets : List (List Int)) (Costs : List Int) (i : Int) : Prop := (0 ≤ i) ∧ (i ≤ (xs.length : Int)) ∧ (∀ k, k < i.toNat → (fun x => !(rising x 0 (Size - 1))) (xs.getD k []) = false)
abbrev slices_IndexFunc_int_int_iS_mJ0 (xs : List (List Int)) (Size : Int) (Sets : List (List Int)) (Costs : List Int) (i : Int) : Nat := (xs.length - i).toNat
def slices_IndexFunc_int_int_iS_C (f : FuncId) (ds : List D) : Orc := bif Nat.beq f 170 then i_IsSystem_1_orc ds else .no
def slices_IndexFunc_int_int_iS_A (xs : List (List Int)) (Size : Int) (Sets : List (List Int)) (Costs : List Int) : Ann := .two (.none) (.two (.two (.none) (.loop (cut1 (fun (i : Int) => slices_IndexFunc_int_int_iS_JJ0 xs Size Sets Costs i) (fun (i : Int) => [(0, .d false (.sl (.rows xs))), (1, .d false (.fn 170 0 [.bx [.int .i64 Size, .sl (.rows Sets), .sl (.ints Costs)] 0])), (7, .d true (.int .i64 (xs.length : Int))), (8, .d true (.int .i64 i))]) (fun (i : Int) => [])) (fun g => slices_IndexFunc_int_int_iS_mJ0 xs Size Sets Costs g) (fun _ => .none))) (.none))
def slices_IndexFunc_int_int_iS_P (xs : List (List Int)) (Size : Int) (Sets : List (List Int)) (Costs : List Int) : Prop :=
  ((∃ i' : Int, (slices_IndexFunc_int_int_iS_JJ0 xs Size Sets Costs i') ∧ (xs = xs) ∧ ((.fn 170 0 [.bx [.int .i64 Size, .sl (.rows Sets), .sl (.ints Costs)] 0] : D) = (.fn 170 0 [.bx [.int .i64 Size, .sl (.rows Sets), .sl (.ints Costs)] 0] : D)) ∧ ((xs.length : Int) = (xs.length : Int)) ∧ ((0 : Int) = i')) ∧ (∀ i : Int, (slices_IndexFunc_int_int_iS_JJ0 xs Size Sets Costs i) → (((decide (i < (xs.length : Int))) = true → ((0 : Int) ≤ i) ∧ ((i : Int) < xs.length) ∧ (i.toNat < xs.length) ∧ (PC Try.prog 170 [.sl (.ints (xs.getD i.toNat [])), .bx [.int .i64 Size, .sl (.rows Sets), .sl (.ints Costs)] 0] (.one (.d (.bool (!(rising (xs.getD i.toNat []) 0 (Size - 1))))))) ∧ (((!(rising (xs.getD i.toNat []) 0 (Size - 1))) = true → ((i = (idxI (fun x => !(rising x 0 (Size - 1))) xs)))) ∧ ((!(rising (xs.getD i.toNat []) 0 (Size - 1))) = false → (-9223372036854775808 ≤ (i + 1) ∧ (i + 1) ≤ 9223372036854775807) ∧ (∃ i' : Int, (slices_IndexFunc_int_int_iS_JJ0 xs Size Sets Costs i') ∧ (slices_IndexFunc_int_int_iS_mJ0 xs Size Sets Costs i' < slices_IndexFunc_int_int_iS_mJ0 xs Size Sets Costs i) ∧ (xs = xs) ∧ ((.fn 170 0 [.bx [.int .i64 Size, .sl (.rows Sets), .sl (.ints Costs)] 0] : D) = (.fn 170 0 [.bx [.int .i64 Size, .sl (.rows Sets), .sl (.ints Costs)] 0] : D)) ∧ ((xs.length : Int) = (xs.length : Int)) ∧ ((i + 1) = i'))))) ∧ ((decide (i < (xs.length : Int))) = false → ((((-1) : Int) = (idxI (fun x => !(rising x 0 (Size - 1))) xs)))))))
theorem slices_IndexFunc_int_int_iS_vc (xs : List (List Int)) (Size : Int) (Sets : List (List Int)) (Costs : List Int) (hb : -9223372036854775808 < Size ∧ Size ≤ 9223372036854775807) (w_xs : (xs.length : Int) ≤ 9223372036854775807) (v_xs : ∀ x9 ∈ xs, (x9.length : Int) ≤ 9223372036854775807) (w_Sets : (Sets.length : Int) ≤ 9223372036854775807) (v_Sets : ∀ x9 ∈ Sets, (x9.length : Int) ≤ 9223372036854775807) (w_Costs : (Costs.length : Int) ≤ 9223372036854775807) : slices_IndexFunc_int_int_iS_P xs Size Sets Costs := by
  unfold slices_IndexFunc_int_int_iS_P
  refine ⟨?_, ?_⟩
  ·refine ⟨0, ?_⟩
   refine ⟨?_, rfl, rfl, rfl, rfl⟩
   ·refine ⟨?_, ?_, ?_⟩
    ·omega
    ·omega
    ·omega
  ·intro i hJ
   obtain ⟨h1, h2, h3⟩ := hJ
   refine ⟨?_, ?_⟩
   ·intro b1
    try simp only [nrmT] at b1
    refine ⟨?_, ?_, ?_, ?_, ?_, ?_⟩
    ·omega
    ·omega
    ·omega
    ·refine i_IsSystem_1_pc (xs.getD i.toNat []) Size Sets Costs ?_
     ·omega
    ·intro b2
     try simp only [nrmT] at b2
     exact idx_found (p := fun x => !(rising x 0 (Size - 1))) h1 b1 h3 (by simpa using b2)
    ·intro b3
     try simp only [nrmT] at b3
     refine ⟨?_, ?_⟩
     ·omega
     ·refine ⟨(i + 1), ?_⟩
      refine ⟨?_, ?_, rfl, rfl, rfl, rfl⟩
      ·refine ⟨?_, ?_, ?_⟩
       ·omega
       ·omega
       ·exact idx_step (p := fun x => !(rising x 0 (Size - 1))) h1 h3 (by simpa using b3)
      ·first | (show _ < _; omega) | (simp only [slices_IndexFunc_int_int_iS_mJ0]; omega) | (simp only [slices_IndexFunc_int_int_iS_mJ0] at *; simp at *; omega)
   ·intro b4
    try simp only [nrmT] at b4
    exact (idx_none (by omega) h3).symm
theorem slices_IndexFunc_int_int_iS_pc (xs : List (List Int)) (Size : Int) (Sets : List (List Int)) (Costs : List Int) (hb : -9223372036854775808 < Size ∧ Size ≤ 9223372036854775807) : PC Try.prog 224 [.sl (.rows xs), .fn 170 0 [.bx [.int .i64 Size, .sl (.rows Sets), .sl (.ints Costs)] 0]] (.one (.d (.int .i64 (idxI (fun x => !(rising x 0 (Size - 1))) xs)))) :=
  pc_wf @Try.call224 fun hw => pc_by (by kernel_rfl) Try.func224 @Try.call224 (by kernel_rfl) slices_IndexFunc_int_int_iS_C (slices_IndexFunc_int_int_iS_A xs Size Sets Costs) (by kernel_rfl) (slices_IndexFunc_int_int_iS_vc xs Size Sets Costs hb hw.1.1 hw.1.2 hw.2.1.1.2.1.1 hw.2.1.1.2.1.2 hw.2.1.1.2.2.1) (by kernel_rfl)
def slices_IndexFunc_int_int_iS_orc : List D → Orc := orcN [some .rows, none] fun ds => match ds with
  | [.sl (.rows xs), .fn f0 0 [.bx [.int .i64 Size, .sl (.rows Sets), .sl (.ints Costs)] 0]] => bif Nat.beq f0 170 then some (.one (.d (.int .i64 (idxI (fun x => !(rising x 0 (Size - 1))) xs)))) else none
  | _ => none
def slices_ContainsFunc_int_int_iS_C (f : FuncId) (ds : List D) : Orc := bif Nat.beq f 224 then slices_IndexFunc_int_int_iS_orc ds else .no
def slices_ContainsFunc_int_int_iS_A (xs : List (List Int)) (Size : Int) (Sets : List (List Int)) (Costs : List Int) : Ann := .none
def slices_ContainsFunc_int_int_iS_P (xs : List (List Int)) (Size : Int) (Sets : List (List Int)) (Costs : List Int) : Prop :=
  (PC Try.prog 224 [.sl (.rows xs), .fn 170 0 [.bx [.int .i64 Size, .sl (.rows Sets), .sl (.ints Costs)] 0]] (.one (.d (.int .i64 (idxI (fun x => !(rising x 0 (Size - 1))) xs))))) ∧ (((decide ((idxI (fun x => !(rising x 0 (Size - 1))) xs) ≥ 0)) = (xs.any (fun x => !(rising x 0 (Size - 1))))))
theorem slices_ContainsFunc_int_int_iS_vc (xs : List (List Int)) (Size : Int) (Sets : List (List Int)) (Costs : List Int) (hb : -9223372036854775808 < Size ∧ Size ≤ 9223372036854775807) (w_xs : (xs.length : Int) ≤ 9223372036854775807) (v_xs : ∀ x9 ∈ xs, (x9.length : Int) ≤ 9223372036854775807) (w_Sets : (Sets.length : Int) ≤ 9223372036854775807) (v_Sets : ∀ x9 ∈ Sets, (x9.length : Int) ≤ 9223372036854775807) (w_Costs : (Costs.length : Int) ≤ 9223372036854775807) : slices_ContainsFunc_int_int_iS_P xs Size Sets Costs := by
  unfold slices_ContainsFunc_int_int_iS_P
  refine ⟨?_, ?_⟩
  ·refine slices_IndexFunc_int_int_iS_pc xs Size Sets Costs ?_
   ·omega
  ·exact idx_any _ _
theorem slices_ContainsFunc_int_int_iS_pc (xs : List (List Int)) (Size : Int) (Sets : List (List Int)) (Costs : List Int) (hb : -9223372036854775808 < Size ∧ Size ≤ 9223372036854775807) : PC Try.prog 169 [.sl (.rows xs), .fn 170 0 [.bx [.int .i64 Size, .sl (.rows Sets), .sl (.ints Costs)] 0]] (.one (.d (.bool (xs.any (fun x => !(rising x 0 (Size - 1))))))) :=
  pc_wf @Try.call169 fun hw => pc_by (by kernel_rfl) Try.func169 @Try.call169 (by kernel_rfl) slices_ContainsFunc_int_int_iS_C (slices_ContainsFunc_int_int_iS_A xs Size Sets Costs) (by kernel_rfl) (slices_ContainsFunc_int_int_iS_vc xs Size Sets Costs hb hw.1.1 hw.1.2 hw.2.1.1.2.1.1 hw.2.1.1.2.1.2 hw.2.1.1.2.2.1) (by kernel_rfl)
def slices_ContainsFunc_int_int_iS_orc : List D → Orc := orcN [some .rows, none] fun ds => match ds with
  | [.sl (.rows xs), .fn f0 0 [.bx [.int .i64 Size, .sl (.rows Sets), .sl (.ints Costs)] 0]] => bif Nat.beq f0 170 then some (.one (.d (.bool (xs.any (fun x => !(rising x 0 (Size - 1))))))) else none
  | _ => none
def i_IsSystem_C (f : FuncId) (ds : List D) : Orc := bif Nat.beq f 120 then i_between_orc ds else bif Nat.beq f 131 then i_areBetween_orc ds else bif Nat.beq f 169 then slices_ContainsFunc_int_int_iS_orc ds else .no
def i_IsSystem_A (Size : Int) (Sets : List (List Int)) (Costs : List Int) : Ann := .none
def i_IsSystem_e1 (Size : Int) (Sets : List (List Int)) (Costs : List Int) : Bool := (cond (cond (inB Size 0 8) (decide ((Sets.length : Int) ≤ 8)) false) ((Costs.length : Int) == (Sets.length : Int)) false)
def i_IsSystem_P (Size : Int) (Sets : List (List Int)) (Costs : List Int) : Prop :=
  (PC Try.prog 120 [.int .i64 Size, .int .i64 0, .int .i64 8] (.one (.d (.bool (inB Size 0 8))))) ∧ ((inB Size 0 8) = true → (inB Size 0 8) = true) ∧ ((inB Size 0 8) = true → (inB Size 0 8) = true) ∧ ((inB Size 0 8) = true → (inB Size 0 8) = true) ∧ (true = true) ∧ (((inB Size 0 8) = true → (inB Size 0 8) = true)) ∧ (((inB Size 0 8) = false → true = true)) ∧ ((cond (inB Size 0 8) (decide ((Sets.length : Int) ≤ 8)) false) = true → (cond (inB Size 0 8) (decide ((Sets.length : Int) ≤ 8)) false) = true) ∧ ((cond (inB Size 0 8) (decide ((Sets.length : Int) ≤ 8)) false) = true → (cond (inB Size 0 8) (decide ((Sets.length : Int) ≤ 8)) false) = true) ∧ ((cond (inB Size 0 8) (decide ((Sets.length : Int) ≤ 8)) false) = true → (cond (inB Size 0 8) (decide ((Sets.length : Int) ≤ 8)) false) = true) ∧ ((cond (inB Size 0 8) (decide ((Sets.length : Int) ≤ 8)) false) = true → (cond (inB Size 0 8) (decide ((Sets.length : Int) ≤ 8)) false) = true) ∧ ((cond (inB Size 0 8) (decide ((Sets.length : Int) ≤ 8)) false) = true → (cond (inB Size 0 8) (decide ((Sets.length : Int) ≤ 8)) false) = true) ∧ ((cond (inB Size 0 8) (decide ((Sets.length : Int) ≤ 8)) false) = true → (cond (inB Size 0 8) (decide ((Sets.length : Int) ≤ 8)) false) = true) ∧ (true = true) ∧ (((cond (inB Size 0 8) (decide ((Sets.length : Int) ≤ 8)) false) = true → (cond (inB Size 0 8) (decide ((Sets.length : Int) ≤ 8)) false) = true)) ∧ (((cond (inB Size 0 8) (decide ((Sets.length : Int) ≤ 8)) false) = false → true = true)) ∧ ((i_IsSystem_e1 Size Sets Costs) = true → (i_IsSystem_e1 Size Sets Costs) = true) ∧ ((i_IsSystem_e1 Size Sets Costs) = true → (i_IsSystem_e1 Size Sets Costs) = true) ∧ ((i_IsSystem_e1 Size Sets Costs) = true → PC Try.prog 131 [.sl (.ints Costs), .int .i64 1, .int .i64 99] (.one (.d (.bool (Costs.all (fun x => inB x 1 99)))))) ∧ (true = true) ∧ (((i_IsSystem_e1 Size Sets Costs) = true → (i_IsSystem_e1 Size Sets Costs) = true)) ∧ (((i_IsSystem_e1 Size Sets Costs) = false → true = true)) ∧ ((cond (i_IsSystem_e1 Size Sets Costs) (Costs.all (fun x => inB x 1 99)) false) = true → (cond (i_IsSystem_e1 Size Sets Costs) (Costs.all (fun x => inB x 1 99)) false) = true) ∧ ((cond (i_IsSystem_e1 Size Sets Costs) (Costs.all (fun x => inB x 1 99)) false) = true → (cond (i_IsSystem_e1 Size Sets Costs) (Costs.all (fun x => inB x 1 99)) false) = true) ∧ ((cond (i_IsSystem_e1 Size Sets Costs) (Costs.all (fun x => inB x 1 99)) false) = true → (cond (i_IsSystem_e1 Size Sets Costs) (Costs.all (fun x => inB x 1 99)) false) = true) ∧ ((cond (i_IsSystem_e1 Size Sets Costs) (Costs.all (fun x => inB x 1 99)) false) = true → PC Try.prog 169 [.sl (.rows Sets), .fn 170 0 [.bx [.int .i64 Size, .sl (.rows Sets), .sl (.ints Costs)] 0]] (.one (.d (.bool (Sets.any (fun x => !(rising x 0 (Size - 1)))))))) ∧ ((cond (i_IsSystem_e1 Size Sets Costs) (Costs.all (fun x => inB x 1 99)) false) = true → (cond (i_IsSystem_e1 Size Sets Costs) (Costs.all (fun x => inB x 1 99)) false) = true) ∧ (true = true) ∧ (((cond (i_IsSystem_e1 Size Sets Costs) (Costs.all (fun x => inB x 1 99)) false) = true → (cond (i_IsSystem_e1 Size Sets Costs) (Costs.all (fun x => inB x 1 99)) false) = true)) ∧ (((cond (i_IsSystem_e1 Size Sets Costs) (Costs.all (fun x => inB x 1 99)) false) = false → true = true)) ∧ (((cond (cond (i_IsSystem_e1 Size Sets Costs) (Costs.all (fun x => inB x 1 99)) false) (!(Sets.any (fun x => !(rising x 0 (Size - 1))))) false) = (goodSys Size Sets Costs)))
theorem i_IsSystem_vc (Size : Int) (Sets : List (List Int)) (Costs : List Int)  (w_Sets : (Sets.length : Int) ≤ 9223372036854775807) (v_Sets : ∀ x9 ∈ Sets, (x9.length : Int) ≤ 9223372036854775807) (w_Costs : (Costs.length : Int) ≤ 9223372036854775807) : i_IsSystem_P Size Sets Costs := by
  unfold i_IsSystem_P i_IsSystem_e1
  refine ⟨i_between_pc Size 0 8, id, id, id, rfl, id, fun _ => rfl, id, id, id, id, id, id, rfl, id, fun _ => rfl, id, id, fun _ => i_areBetween_pc Costs 1 99, rfl, id, fun _ => rfl, id, id, id, ?_, id, rfl, id, fun _ => rfl, ?_⟩
  ·intro hg
   refine slices_ContainsFunc_int_int_iS_pc Sets Size Sets Costs ?_
   ·simp only [inB] at hg; simp at hg; omega
  ·unfold goodSys
   rw [any_not, len_beq, show decide ((Sets.length : Int) ≤ 8) = decide (Sets.length ≤ 8) from len_le _ 8]
   cases inB Size 0 8 <;> cases decide (Sets.length ≤ 8) <;> cases Sets.all (fun xs => rising xs 0 (Size - 1)) <;> cases decide (Costs.length = Sets.length) <;> cases Costs.all (fun x => inB x 1 99) <;> rfl
theorem i_IsSystem_pc (Size : Int) (Sets : List (List Int)) (Costs : List Int)  : PC Try.prog 76 [.agg [.int .i64 Size, .sl (.rows Sets), .sl (.ints Costs)]] (.one (.d (.bool (goodSys Size Sets Costs)))) :=
  pc_wf @Try.call76 fun hw => pc_by (by kernel_rfl) Try.func76 @Try.call76 (by kernel_rfl) i_IsSystem_C (i_IsSystem_A Size Sets Costs) (by kernel_rfl) (i_IsSystem_vc Size Sets Costs hw.1.2.1.1 hw.1.2.1.2 hw.1.2.2.1) (by kernel_rfl)
def i_IsSystem_orc : List D → Orc := orcN [none] fun ds => match ds with
  | [.agg [.int .i64 Size, .sl (.rows Sets), .sl (.ints Costs)]] => some (.one (.d (.bool (goodSys Size Sets Costs))))
  | _ => none
theorem beq_of_all {α : Type} [BEq α] [LawfulBEq α] {d : α} {xs ys : List α} (hl : xs.length = ys.length) : allTo (fun k => xs.getD k d == ys.getD k d) xs.length = (xs == ys) := by
  rw [Bool.eq_iff_iff, allTo_iff]
  simp only [beq_iff_eq]
  constructor
  · intro h
    refine List.ext_getElem hl fun k h1 h2 => ?_
    have := h k h1
    simpa [h1, h2] using this
  · intro h k _
    rw [h]
theorem len_ne {α : Type} [BEq α] [LawfulBEq α] {xs ys : List α} (h : ¬ xs.length = ys.length) : (xs == ys) = false := by
  rw [Bool.eq_false_iff]; intro h2; simp only [beq_iff_eq] at h2; exact h (by rw [h2])
def rowOk (row : List Int) (n most : Int) : Bool := row.all (fun x => inB x 0 most) && decide ((row.length : Int) = n)
abbrev s_l2Row_JJ0 (row : List Int) (n : Int) (most : Int) (i : Int) : Prop := (0 ≤ i) ∧ (i ≤ (row.length : Int)) ∧ (allTo (fun k => inB (row.getD k 0) 0 most) i.toNat = true)
abbrev s_l2Row_mJ0 (row : List Int) (n : Int) (most : Int) (i : Int) : Nat := (row.length - i).toNat
def s_l2Row_C (f : FuncId) (ds : List D) : Orc := bif Nat.beq f 116 then s_l1In_orc ds else .no
def s_l2Row_A (row : List Int) (n : Int) (most : Int) : Ann := .two (.none) (.two (.two (.none) (.loop (cut1 (fun (i : Int) => s_l2Row_JJ0 row n most i) (fun (i : Int) => [(0, .d false (.sl (.ints row))), (1, .d false (.int .i64 n)), (2, .d false (.int .i64 most)), (7, .d true (.int .i64 i))]) (fun (i : Int) => [])) (fun g => s_l2Row_mJ0 row n most g) (fun _ => .none))) (.none))
def s_l2Row_P (row : List Int) (n : Int) (most : Int) : Prop :=
  ((∃ i' : Int, (s_l2Row_JJ0 row n most i') ∧ (row = row) ∧ (n = n) ∧ (most = most) ∧ ((0 : Int) = i')) ∧ (∀ i : Int, (s_l2Row_JJ0 row n most i) → (((decide (i < (row.length : Int))) = true → ((0 : Int) ≤ i) ∧ ((i : Int) < row.length) ∧ (i.toNat < row.length) ∧ (PC Try.prog 116 [.int .i64 (row.getD i.toNat 0), .int .i64 0, .int .i64 most] (.one (.d (.bool (inB (row.getD i.toNat 0) 0 most))))) ∧ (((!(inB (row.getD i.toNat 0) 0 most)) = true → ((false = (rowOk row n most)))) ∧ ((!(inB (row.getD i.toNat 0) 0 most)) = false → (-9223372036854775808 ≤ (i + 1) ∧ (i + 1) ≤ 9223372036854775807) ∧ (∃ i' : Int, (s_l2Row_JJ0 row n most i') ∧ (s_l2Row_mJ0 row n most i' < s_l2Row_mJ0 row n most i) ∧ (row = row) ∧ (n = n) ∧ (most = most) ∧ ((i + 1) = i'))))) ∧ ((decide (i < (row.length : Int))) = false → ((((row.length : Int) == n) = (rowOk row n most)))))))
theorem s_l2Row_vc (row : List Int) (n : Int) (most : Int)  (w_row : (row.length : Int) ≤ 9223372036854775807) : s_l2Row_P row n most := by
  unfold s_l2Row_P
  refine ⟨?_, ?_⟩
  ·refine ⟨0, ?_⟩
   refine ⟨?_, rfl, rfl, rfl, rfl⟩
   ·refine ⟨?_, ?_, ?_⟩
    ·omega
    ·omega
    ·rfl
  ·intro i hJ
   obtain ⟨h1, h2, h3⟩ := hJ
   refine ⟨?_, ?_⟩
   ·intro b1
    try simp only [nrmT] at b1
    refine ⟨?_, ?_, ?_, s_l1In_pc (row.getD i.toNat 0) 0 most, ?_, ?_⟩
    ·omega
    ·omega
    ·omega
    ·intro b2
     try simp only [nrmT] at b2
     unfold rowOk
     rw [all_no (p := fun x => inB x 0 most) (d := 0) h1 (by omega) b2]; rfl
    ·intro b3
     try simp only [nrmT] at b3
     refine ⟨?_, ?_⟩
     ·omega
     ·refine ⟨(i + 1), ?_⟩
      refine ⟨?_, ?_, rfl, rfl, rfl, rfl⟩
      ·refine ⟨?_, ?_, ?_⟩
       ·omega
       ·omega
       ·exact allTo_step h1 h3 b3
      ·first | (show _ < _; omega) | (simp only [s_l2Row_mJ0]; omega) | (simp only [s_l2Row_mJ0] at *; simp at *; omega)
   ·intro b4
    try simp only [nrmT] at b4
    unfold rowOk
    rw [all_end (p := fun x => inB x 0 most) (d := 0) (by omega) h2 h3, Bool.true_and]; rfl
theorem s_l2Row_pc (row : List Int) (n : Int) (most : Int)  : PC Try.prog 150 [.sl (.ints row), .int .i64 n, .int .i64 most] (.one (.d (.bool (rowOk row n most)))) :=
  pc_wf @Try.call150 fun hw => pc_by (by kernel_rfl) Try.func150 @Try.call150 (by kernel_rfl) s_l2Row_C (s_l2Row_A row n most) (by kernel_rfl) (s_l2Row_vc row n most hw.1) (by kernel_rfl)
def s_l2Row_orc : List D → Orc := orcN [some .ints, none, none] fun ds => match ds with
  | [.sl (.ints row), .int .i64 n, .int .i64 most] => some (.one (.d (.bool (rowOk row n most))))
  | _ => none
def sumTo (f : Nat → Int) (n : Nat) : Int := foldTo (fun s k => s + f k) 0 n
theorem sumTo_step {f : Nat → Int} {i : Int} (h : 0 ≤ i) : sumTo f (i + 1).toNat = sumTo f i.toNat + f i.toNat := foldTo_step h
theorem sumTo_bound {f : Nat → Int} {m : Int} (n : Nat) (h : ∀ k, k < n → 0 ≤ f k ∧ f k ≤ m) : 0 ≤ sumTo f n ∧ sumTo f n ≤ m * n := by
  induction n with
  | zero => simp [sumTo, foldTo]
  | succ n ih =>
    have h1 := ih fun k hk => h k (Nat.lt_succ_of_lt hk)
    have h2 := h n (Nat.lt_succ_self n)
    have e : sumTo f (n + 1) = sumTo f n + f n := rfl
    rw [e]
    have e2 : m * ((n + 1 : Nat) : Int) = m * (n : Int) + m := by rw [Int.natCast_succ, Int.mul_add, Int.mul_one]
    rw [e2]
    omega
theorem rising_at {xs : List Int} {lo hi : Int} (h : rising xs lo hi = true) : ∀ k, k < xs.length → lo + k ≤ xs.getD k 0 ∧ xs.getD k 0 ≤ hi := by
  intro k
  induction k with
  | zero =>
    intro hk
    have h1 := allTo_iff.1 h 0 hk
    simp only [risingP, Bool.and_eq_true] at h1
    have := inB_le h1.1
    omega
  | succ k ih =>
    intro hk
    have h0 := ih (by omega)
    have h1 := allTo_iff.1 h (k + 1) hk
    simp only [risingP, Bool.and_eq_true, Bool.or_eq_true, decide_eq_true_eq, Nat.add_sub_cancel] at h1
    have := inB_le h1.1
    have h2 := h1.2
    omega
theorem rising_len {xs : List Int} {lo hi : Int} (h : rising xs lo hi = true) (hlo : lo ≤ hi + 1) : (xs.length : Int) ≤ hi - lo + 1 := by
  by_cases h0 : xs.length = 0
  · omega
  · have := rising_at h (xs.length - 1) (by omega)
    omega
theorem gs_facts {size : Int} {sets : List (List Int)} {costs : List Int} (h : goodSys size sets costs = true) : 0 ≤ size ∧ size ≤ 8 ∧ sets.length ≤ 8 ∧ costs.length = sets.length := by
  simp only [goodSys, Bool.and_eq_true, decide_eq_true_eq] at h
  have := inB_le h.1.1.1.1
  omega
theorem gs_cost {size : Int} {sets : List (List Int)} {costs : List Int} (h : goodSys size sets costs = true) {k : Nat} (hk : k < costs.length) : 1 ≤ costs.getD k 0 ∧ costs.getD k 0 ≤ 99 := by
  simp only [goodSys, Bool.and_eq_true, decide_eq_true_eq] at h
  exact inB_le (List.all_eq_true.1 h.1.2 _ (getD_mem hk))
theorem gs_set {size : Int} {sets : List (List Int)} {costs : List Int} (h : goodSys size sets costs = true) {k : Nat} (hk : k < sets.length) : rising (sets.getD k []) 0 (size - 1) = true := by
  simp only [goodSys, Bool.and_eq_true, decide_eq_true_eq] at h
  exact List.all_eq_true.1 h.2 _ (getD_mem hk)
def costAt (Costs choice : List Int) (k : Nat) : Int := Costs.getD (choice.getD k 0).toNat 0
def costOf (Costs choice : List Int) : Int := sumTo (costAt Costs choice) choice.length
theorem costAt_bound {size : Int} {sets : List (List Int)} {costs choice : List Int} (h : goodSys size sets costs = true) (hc : rising choice 0 ((sets.length : Int) - 1) = true) {k : Nat} (hk : k < choice.length) :
    0 ≤ costAt costs choice k ∧ costAt costs choice k ≤ 99 := by
  have h1 := rising_at hc k hk
  have h2 := gs_facts h
  have := gs_cost h (k := (choice.getD k 0).toNat) (by omega)
  unfold costAt
  omega
abbrev s_l6Cost_JJ0 (Size : Int) (Sets : List (List Int)) (Costs : List Int) (choice : List Int) (out : Int) (i : Int) : Prop := (0 ≤ i) ∧ (i ≤ (choice.length : Int)) ∧ (out = sumTo (costAt Costs choice) i.toNat)
abbrev s_l6Cost_mJ0 (Size : Int) (Sets : List (List Int)) (Costs : List Int) (choice : List Int) (out : Int) (i : Int) : Nat := (choice.length - i).toNat
def s_l6Cost_C (f : FuncId) (ds : List D) : Orc := .no
def s_l6Cost_A (Size : Int) (Sets : List (List Int)) (Costs : List Int) (choice : List Int) : Ann := .two (.none) (.two (.none) (.two (.two (.none) (.loop (cut2 (fun (out : Int) (i : Int) => s_l6Cost_JJ0 Size Sets Costs choice out i) (fun (out : Int) (i : Int) => [(1, .d false (.sl (.ints choice))), (2, .ptr 2 0), (5, .d true (.int .i64 out)), (6, .d true (.int .i64 i))]) (fun (out : Int) (i : Int) => [(2, .box 36 [.d false (.int .i64 Size), .d false (.sl (.rows Sets)), .d false (.sl (.ints Costs))])])) (fun g => s_l6Cost_mJ0 Size Sets Costs choice g.1 g.2) (fun _ => .none))) (.none)))
def s_l6Cost_P (Size : Int) (Sets : List (List Int)) (Costs : List Int) (choice : List Int) : Prop :=
  ((∃ out' : Int, ∃ i' : Int, (s_l6Cost_JJ0 Size Sets Costs choice out' i') ∧ (choice = choice) ∧ ((0 : Int) = out') ∧ ((0 : Int) = i') ∧ (Size = Size) ∧ (Sets = Sets) ∧ (Costs = Costs)) ∧ (∀ out : Int, ∀ i : Int, (s_l6Cost_JJ0 Size Sets Costs choice out i) → (((decide (i < (choice.length : Int))) = true → (true = true) ∧ ((0 : Int) ≤ i) ∧ ((i : Int) < choice.length) ∧ (i.toNat < choice.length) ∧ ((0 : Int) ≤ (choice.getD i.toNat 0)) ∧ (((choice.getD i.toNat 0) : Int) < Costs.length) ∧ ((choice.getD i.toNat 0).toNat < Costs.length) ∧ (-9223372036854775808 ≤ (out + (Costs.getD ((choice.getD i.toNat 0).toNat) 0)) ∧ (out + (Costs.getD ((choice.getD i.toNat 0).toNat) 0)) ≤ 9223372036854775807) ∧ (-9223372036854775808 ≤ (i + 1) ∧ (i + 1) ≤ 9223372036854775807) ∧ (∃ out' : Int, ∃ i' : Int, (s_l6Cost_JJ0 Size Sets Costs choice out' i') ∧ (s_l6Cost_mJ0 Size Sets Costs choice out' i' < s_l6Cost_mJ0 Size Sets Costs choice out i) ∧ (choice = choice) ∧ ((out + (Costs.getD ((choice.getD i.toNat 0).toNat) 0)) = out') ∧ ((i + 1) = i') ∧ (Size = Size) ∧ (Sets = Sets) ∧ (Costs = Costs))) ∧ ((decide (i < (choice.length : Int))) = false → ((out = (costOf Costs choice)))))))
theorem s_l6Cost_vc (Size : Int) (Sets : List (List Int)) (Costs : List Int) (choice : List Int) (hg : goodSys Size Sets Costs = true) (hc : rising choice 0 ((Sets.length : Int) - 1) = true) (w_Sets : (Sets.length : Int) ≤ 9223372036854775807) (v_Sets : ∀ x9 ∈ Sets, (x9.length : Int) ≤ 9223372036854775807) (w_Costs : (Costs.length : Int) ≤ 9223372036854775807) (w_choice : (choice.length : Int) ≤ 9223372036854775807) : s_l6Cost_P Size Sets Costs choice := by
  unfold s_l6Cost_P
  have gf := gs_facts hg
  have cl := rising_len hc (by omega)
  have ca := fun k => rising_at hc k
  have cb := fun k (hk : k < choice.length) => costAt_bound hg hc hk
  refine ⟨?_, ?_⟩
  ·refine ⟨0, 0, ?_⟩
   refine ⟨?_, rfl, rfl, rfl, rfl, rfl, rfl⟩
   ·refine ⟨?_, ?_, ?_⟩
    ·omega
    ·omega
    ·rfl
  ·intro out i hJ
   obtain ⟨h1, h2, h3⟩ := hJ
   refine ⟨?_, ?_⟩
   ·intro b1
    try simp only [nrmT] at b1
    refine ⟨rfl, ?_, ?_, ?_, ?_, ?_, ?_, ?_, ?_, ?_⟩
    ·omega
    ·omega
    ·omega
    ·have := ca i.toNat (by omega)
     omega
    ·have := ca i.toNat (by omega)
     omega
    ·have := ca i.toNat (by omega)
     omega
    ·have h6 := sumTo_bound i.toNat (fun k hk => cb k (by omega))
     have h7 := cb i.toNat (by omega)
     unfold costAt at h7
     omega
    ·omega
    ·refine ⟨(out + (Costs.getD ((choice.getD i.toNat 0).toNat) 0)), (i + 1), ?_⟩
     refine ⟨?_, ?_, rfl, rfl, rfl, rfl, rfl, rfl⟩
     ·refine ⟨?_, ?_, ?_⟩
      ·omega
      ·omega
      ·rw [sumTo_step h1, h3]; rfl
     ·first | (show _ < _; omega) | (simp only [s_l6Cost_mJ0]; omega) | (simp only [s_l6Cost_mJ0] at *; simp at *; omega)
   ·intro b2
    try simp only [nrmT] at b2
    unfold costOf
    rw [h3]
    congr 1
    omega
theorem s_l6Cost_pc (Size : Int) (Sets : List (List Int)) (Costs : List Int) (choice : List Int) (hg : goodSys Size Sets Costs = true) (hc : rising choice 0 ((Sets.length : Int) - 1) = true) : PC Try.prog 190 [.agg [.int .i64 Size, .sl (.rows Sets), .sl (.ints Costs)], .sl (.ints choice)] (.one (.d (.int .i64 (costOf Costs choice)))) :=
  pc_wf @Try.call190 fun hw => pc_by (by kernel_rfl) Try.func190 @Try.call190 (by kernel_rfl) s_l6Cost_C (s_l6Cost_A Size Sets Costs choice) (by kernel_rfl) (s_l6Cost_vc Size Sets Costs choice hg hc hw.1.2.1.1 hw.1.2.1.2 hw.1.2.2.1 hw.2.1) (by kernel_rfl)
def s_l6Cost_orc : List D → Orc := orcN [none, some .ints] fun ds => match ds with
  | [.agg [.int .i64 Size, .sl (.rows Sets), .sl (.ints Costs)], .sl (.ints choice)] => some (.one (.d (.int .i64 (costOf Costs choice))))
  | _ => none
abbrev i_System_cost_JJ0 (Size : Int) (Sets : List (List Int)) (Costs : List Int) (choice : List Int) (out : Int) (i : Int) : Prop := (0 ≤ i) ∧ (i ≤ (choice.length : Int)) ∧ (out = sumTo (costAt Costs choice) i.toNat)
abbrev i_System_cost_mJ0 (Size : Int) (Sets : List (List Int)) (Costs : List Int) (choice : List Int) (out : Int) (i : Int) : Nat := (choice.length - i).toNat
def i_System_cost_C (f : FuncId) (ds : List D) : Orc := .no
def i_System_cost_A (Size : Int) (Sets : List (List Int)) (Costs : List Int) (choice : List Int) : Ann := .two (.none) (.two (.none) (.two (.two (.none) (.loop (cut2 (fun (out : Int) (i : Int) => i_System_cost_JJ0 Size Sets Costs choice out i) (fun (out : Int) (i : Int) => [(2, .ptr 2 0), (5, .d true (.int .i64 out)), (8, .d false (.sl (.ints choice))), (9, .d true (.int .i64 (choice.length : Int))), (10, .d true (.int .i64 i))]) (fun (out : Int) (i : Int) => [(2, .box 36 [.d false (.int .i64 Size), .d false (.sl (.rows Sets)), .d false (.sl (.ints Costs))])])) (fun g => i_System_cost_mJ0 Size Sets Costs choice g.1 g.2) (fun _ => .none))) (.none)))
def i_System_cost_P (Size : Int) (Sets : List (List Int)) (Costs : List Int) (choice : List Int) : Prop :=
  ((∃ out' : Int, ∃ i' : Int, (i_System_cost_JJ0 Size Sets Costs choice out' i') ∧ ((0 : Int) = out') ∧ (choice = choice) ∧ ((choice.length : Int) = (choice.length : Int)) ∧ ((0 : Int) = i') ∧ (Size = Size) ∧ (Sets = Sets) ∧ (Costs = Costs)) ∧ (∀ out : Int, ∀ i : Int, (i_System_cost_JJ0 Size Sets Costs choice out i) → (((decide (i < (choice.length : Int))) = true → ((0 : Int) ≤ i) ∧ ((i : Int) < choice.length) ∧ (i.toNat < choice.length) ∧ ((0 : Int) ≤ (choice.getD i.toNat 0)) ∧ (((choice.getD i.toNat 0) : Int) < Costs.length) ∧ ((choice.getD i.toNat 0).toNat < Costs.length) ∧ (-9223372036854775808 ≤ (out + (Costs.getD ((choice.getD i.toNat 0).toNat) 0)) ∧ (out + (Costs.getD ((choice.getD i.toNat 0).toNat) 0)) ≤ 9223372036854775807) ∧ (-9223372036854775808 ≤ (i + 1) ∧ (i + 1) ≤ 9223372036854775807) ∧ (∃ out' : Int, ∃ i' : Int, (i_System_cost_JJ0 Size Sets Costs choice out' i') ∧ (i_System_cost_mJ0 Size Sets Costs choice out' i' < i_System_cost_mJ0 Size Sets Costs choice out i) ∧ ((out + (Costs.getD ((choice.getD i.toNat 0).toNat) 0)) = out') ∧ (choice = choice) ∧ ((choice.length : Int) = (choice.length : Int)) ∧ ((i + 1) = i') ∧ (Size = Size) ∧ (Sets = Sets) ∧ (Costs = Costs))) ∧ ((decide (i < (choice.length : Int))) = false → ((out = (costOf Costs choice)))))))
theorem i_System_cost_vc (Size : Int) (Sets : List (List Int)) (Costs : List Int) (choice : List Int) (hg : goodSys Size Sets Costs = true) (hc : rising choice 0 ((Sets.length : Int) - 1) = true) (w_Sets : (Sets.length : Int) ≤ 9223372036854775807) (v_Sets : ∀ x9 ∈ Sets, (x9.length : Int) ≤ 9223372036854775807) (w_Costs : (Costs.length : Int) ≤ 9223372036854775807) (w_choice : (choice.length : Int) ≤ 9223372036854775807) : i_System_cost_P Size Sets Costs choice := by
  unfold i_System_cost_P
  have gf := gs_facts hg
  have cl := rising_len hc (by omega)
  have ca := fun k => rising_at hc k
  have cb := fun k (hk : k < choice.length) => costAt_bound hg hc hk
  refine ⟨?_, ?_⟩
  ·refine ⟨0, 0, ?_⟩
   refine ⟨?_, rfl, rfl, rfl, rfl, rfl, rfl, rfl⟩
   ·refine ⟨?_, ?_, ?_⟩
    ·omega
    ·omega
    ·rfl
  ·intro out i hJ
   obtain ⟨h1, h2, h3⟩ := hJ
   refine ⟨?_, ?_⟩
   ·intro b1
    try simp only [nrmT] at b1
    refine ⟨?_, ?_, ?_, ?_, ?_, ?_, ?_, ?_, ?_⟩
    ·omega
    ·omega
    ·omega
    ·have := ca i.toNat (by omega)
     omega
    ·have := ca i.toNat (by omega)
     omega
    ·have := ca i.toNat (by omega)
     omega
    ·have h6 := sumTo_bound i.toNat (fun k hk => cb k (by omega))
     have h7 := cb i.toNat (by omega)
     unfold costAt at h7
     omega
    ·omega
    ·refine ⟨(out + (Costs.getD ((choice.getD i.toNat 0).toNat) 0)), (i + 1), ?_⟩
     refine ⟨?_, ?_, rfl, rfl, rfl, rfl, rfl, rfl, rfl⟩
     ·refine ⟨?_, ?_, ?_⟩
      ·omega
      ·omega
      ·rw [sumTo_step h1, h3]; rfl
     ·first | (show _ < _; omega) | (simp only [i_System_cost_mJ0]; omega) | (simp only [i_System_cost_mJ0] at *; simp at *; omega)
   ·intro b2
    try simp only [nrmT] at b2
    unfold costOf
    rw [h3]
    congr 1
    omega
theorem i_System_cost_pc (Size : Int) (Sets : List (List Int)) (Costs : List Int) (choice : List Int) (hg : goodSys Size Sets Costs = true) (hc : rising choice 0 ((Sets.length : Int) - 1) = true) : PC Try.prog 178 [.agg [.int .i64 Size, .sl (.rows Sets), .sl (.ints Costs)], .sl (.ints choice)] (.one (.d (.int .i64 (costOf Costs choice)))) :=
  pc_wf @Try.call178 fun hw => pc_by (by kernel_rfl) Try.func178 @Try.call178 (by kernel_rfl) i_System_cost_C (i_System_cost_A Size Sets Costs choice) (by kernel_rfl) (i_System_cost_vc Size Sets Costs choice hg hc hw.1.2.1.1 hw.1.2.1.2 hw.1.2.2.1 hw.2.1) (by kernel_rfl)
def i_System_cost_orc : List D → Orc := orcN [none, some .ints] fun ds => match ds with
  | [.agg [.int .i64 Size, .sl (.rows Sets), .sl (.ints Costs)], .sl (.ints choice)] => some (.one (.d (.int .i64 (costOf Costs choice))))
  | _ => none
def i_isChoice_C (f : FuncId) (ds : List D) : Orc := bif Nat.beq f 76 then i_IsSystem_orc ds else bif Nat.beq f 130 then i_isRising_orc ds else .no
def i_isChoice_A (Size : Int) (Sets : List (List Int)) (Costs : List Int) (choice : List Int) : Ann := .none
def i_isChoice_P (Size : Int) (Sets : List (List Int)) (Costs : List Int) (choice : List Int) : Prop :=
  (PC Try.prog 76 [.agg [.int .i64 Size, .sl (.rows Sets), .sl (.ints Costs)]] (.one (.d (.bool (goodSys Size Sets Costs))))) ∧ ((goodSys Size Sets Costs) = true → (goodSys Size Sets Costs) = true) ∧ ((goodSys Size Sets Costs) = true → (goodSys Size Sets Costs) = true) ∧ ((goodSys Size Sets Costs) = true → (goodSys Size Sets Costs) = true) ∧ ((goodSys Size Sets Costs) = true → (goodSys Size Sets Costs) = true) ∧ ((goodSys Size Sets Costs) = true → PC Try.prog 130 [.sl (.ints choice), .int .i64 (Sets.length : Int)] (.one (.d (.bool (rising choice 0 ((Sets.length : Int) - 1)))))) ∧ (true = true) ∧ (((goodSys Size Sets Costs) = true → (goodSys Size Sets Costs) = true)) ∧ (((goodSys Size Sets Costs) = false → true = true)) ∧ (((cond (goodSys Size Sets Costs) (rising choice 0 ((Sets.length : Int) - 1)) false) = (goodSys Size Sets Costs && rising choice 0 ((Sets.length : Int) - 1))))
theorem i_isChoice_vc (Size : Int) (Sets : List (List Int)) (Costs : List Int) (choice : List Int)  (w_Sets : (Sets.length : Int) ≤ 9223372036854775807) (v_Sets : ∀ x9 ∈ Sets, (x9.length : Int) ≤ 9223372036854775807) (w_Costs : (Costs.length : Int) ≤ 9223372036854775807) (w_choice : (choice.length : Int) ≤ 9223372036854775807) : i_isChoice_P Size Sets Costs choice := by
  unfold i_isChoice_P
  refine ⟨i_IsSystem_pc Size Sets Costs, id, id, id, id, ?_, rfl, id, fun _ => rfl, ?_⟩
  ·intro hg
   refine i_isRising_pc choice (Sets.length : Int) ?_
   ·first | omega | rfl | (intro hg; simp only [nrmT] at hg; omega) | (intro g1 g2; simp [g1, g2]; done) | (intro g1; simp at g1 ⊢; simp [g1]; done) | (simp only [nrmT] at *; omega) | (simp at * <;> omega) | (simp_all <;> omega) | (simp_all; done) | (cases goodSys Size Sets Costs <;> rfl)
  ·first | omega | rfl | (intro hg; simp only [nrmT] at hg; omega) | (intro g1 g2; simp [g1, g2]; done) | (intro g1; simp at g1 ⊢; simp [g1]; done) | (simp only [nrmT] at *; omega) | (simp at * <;> omega) | (simp_all <;> omega) | (simp_all; done) | (cases goodSys Size Sets Costs <;> rfl)
theorem i_isChoice_pc (Size : Int) (Sets : List (List Int)) (Costs : List Int) (choice : List Int)  : PC Try.prog 183 [.agg [.int .i64 Size, .sl (.rows Sets), .sl (.ints Costs)], .sl (.ints choice)] (.one (.d (.bool (goodSys Size Sets Costs && rising choice 0 ((Sets.length : Int) - 1))))) :=
  pc_wf @Try.call183 fun hw => pc_by (by kernel_rfl) Try.func183 @Try.call183 (by kernel_rfl) i_isChoice_C (i_isChoice_A Size Sets Costs choice) (by kernel_rfl) (i_isChoice_vc Size Sets Costs choice hw.1.2.1.1 hw.1.2.1.2 hw.1.2.2.1 hw.2.1) (by kernel_rfl)
def i_isChoice_orc : List D → Orc := orcN [none, some .ints] fun ds => match ds with
  | [.agg [.int .i64 Size, .sl (.rows Sets), .sl (.ints Costs)], .sl (.ints choice)] => some (.one (.d (.bool (goodSys Size Sets Costs && rising choice 0 ((Sets.length : Int) - 1)))))
  | _ => none
def i_CostOf_C (f : FuncId) (ds : List D) : Orc := bif Nat.beq f 183 then i_isChoice_orc ds else bif Nat.beq f 178 then i_System_cost_orc ds else .no
def i_CostOf_A (Size : Int) (Sets : List (List Int)) (Costs : List Int) (choice : List Int) : Ann := .none
def i_CostOf_P (Size : Int) (Sets : List (List Int)) (Costs : List Int) (choice : List Int) : Prop :=
  (PC Try.prog 183 [.agg [.int .i64 Size, .sl (.rows Sets), .sl (.ints Costs)], .sl (.ints choice)] (.one (.d (.bool (goodSys Size Sets Costs && rising choice 0 ((Sets.length : Int) - 1)))))) ∧ (((!(goodSys Size Sets Costs && rising choice 0 ((Sets.length : Int) - 1))) = true → (((0 : Int) = (if goodSys Size Sets Costs && rising choice 0 ((Sets.length : Int) - 1) then costOf Costs choice else 0)) ∧ (false = (goodSys Size Sets Costs && rising choice 0 ((Sets.length : Int) - 1))))) ∧ ((!(goodSys Size Sets Costs && rising choice 0 ((Sets.length : Int) - 1))) = false → (PC Try.prog 178 [.agg [.int .i64 Size, .sl (.rows Sets), .sl (.ints Costs)], .sl (.ints choice)] (.one (.d (.int .i64 (costOf Costs choice))))) ∧ (((costOf Costs choice) = (if goodSys Size Sets Costs && rising choice 0 ((Sets.length : Int) - 1) then costOf Costs choice else 0)) ∧ (true = (goodSys Size Sets Costs && rising choice 0 ((Sets.length : Int) - 1))))))
theorem i_CostOf_vc (Size : Int) (Sets : List (List Int)) (Costs : List Int) (choice : List Int)  (w_Sets : (Sets.length : Int) ≤ 9223372036854775807) (v_Sets : ∀ x9 ∈ Sets, (x9.length : Int) ≤ 9223372036854775807) (w_Costs : (Costs.length : Int) ≤ 9223372036854775807) (w_choice : (choice.length : Int) ≤ 9223372036854775807) : i_CostOf_P Size Sets Costs choice := by
  unfold i_CostOf_P
  refine ⟨i_isChoice_pc Size Sets Costs choice, ?_, ?_⟩
  ·intro b1
   try simp only [Bool.not_eq_true', Bool.not_eq_false', Bool.not_not] at b1
   refine ⟨?_, ?_⟩
   ·have hq : (goodSys Size Sets Costs && rising choice 0 ((Sets.length : Int) - 1)) = false := by
      revert b1; cases goodSys Size Sets Costs <;> cases rising choice 0 ((Sets.length : Int) - 1) <;> simp
    rw [hq]; rfl
   ·have hq : (goodSys Size Sets Costs && rising choice 0 ((Sets.length : Int) - 1)) = false := by
      revert b1; cases goodSys Size Sets Costs <;> cases rising choice 0 ((Sets.length : Int) - 1) <;> simp
    exact hq.symm
  ·intro b2
   try simp only [Bool.not_eq_true', Bool.not_eq_false', Bool.not_not] at b2
   refine ⟨?_, ?_, ?_⟩
   ·refine i_System_cost_pc Size Sets Costs choice ?_ ?_
    ·have hq : goodSys Size Sets Costs = true ∧ rising choice 0 ((Sets.length : Int) - 1) = true := by
       revert b2; cases goodSys Size Sets Costs <;> cases rising choice 0 ((Sets.length : Int) - 1) <;> simp
     exact hq.1
    ·have hq : goodSys Size Sets Costs = true ∧ rising choice 0 ((Sets.length : Int) - 1) = true := by
       revert b2; cases goodSys Size Sets Costs <;> cases rising choice 0 ((Sets.length : Int) - 1) <;> simp
     exact hq.2
   ·have hq : goodSys Size Sets Costs = true ∧ rising choice 0 ((Sets.length : Int) - 1) = true := by
      revert b2; cases goodSys Size Sets Costs <;> cases rising choice 0 ((Sets.length : Int) - 1) <;> simp
    rw [hq.1, hq.2]; rfl
   ·have hq : goodSys Size Sets Costs = true ∧ rising choice 0 ((Sets.length : Int) - 1) = true := by
      revert b2; cases goodSys Size Sets Costs <;> cases rising choice 0 ((Sets.length : Int) - 1) <;> simp
    rw [hq.1, hq.2]; rfl
theorem i_CostOf_pc (Size : Int) (Sets : List (List Int)) (Costs : List Int) (choice : List Int)  : PC Try.prog 93 [.agg [.int .i64 Size, .sl (.rows Sets), .sl (.ints Costs)], .sl (.ints choice)] (.tup [.d (.int .i64 (if goodSys Size Sets Costs && rising choice 0 ((Sets.length : Int) - 1) then costOf Costs choice else 0)), .d (.bool (goodSys Size Sets Costs && rising choice 0 ((Sets.length : Int) - 1)))]) :=
  pc_wf @Try.call93 fun hw => pc_by (by kernel_rfl) Try.func93 @Try.call93 (by kernel_rfl) i_CostOf_C (i_CostOf_A Size Sets Costs choice) (by kernel_rfl) (i_CostOf_vc Size Sets Costs choice hw.1.2.1.1 hw.1.2.1.2 hw.1.2.2.1 hw.2.1) (by kernel_rfl)
def i_CostOf_orc : List D → Orc := orcN [none, some .ints] fun ds => match ds with
  | [.agg [.int .i64 Size, .sl (.rows Sets), .sl (.ints Costs)], .sl (.ints choice)] => some (.tup [.d (.int .i64 (if goodSys Size Sets Costs && rising choice 0 ((Sets.length : Int) - 1) then costOf Costs choice else 0)), .d (.bool (goodSys Size Sets Costs && rising choice 0 ((Sets.length : Int) - 1)))])
  | _ => none
def pricedAt (set prices : List Int) (k : Nat) : Int := prices.getD (set.getD k 0).toNat 0
def priced (set prices : List Int) : Int := sumTo (pricedAt set prices) set.length
theorem rowOk_at {row : List Int} {n most : Int} (h : rowOk row n most = true) : (row.length : Int) = n ∧ ∀ k, k < row.length → 0 ≤ row.getD k 0 ∧ row.getD k 0 ≤ most := by
  simp only [rowOk, Bool.and_eq_true, decide_eq_true_eq] at h
  exact ⟨h.2, fun k hk => inB_le (List.all_eq_true.1 h.1 _ (getD_mem hk))⟩
theorem pricedAt_bound {size : Int} {set prices : List Int} (h : rising set 0 (size - 1) = true) (hp : rowOk prices size 1000000 = true) {k : Nat} (hk : k < set.length) :
    0 ≤ pricedAt set prices k ∧ pricedAt set prices k ≤ 1000000 := by
  have h1 := rising_at h k hk
  obtain ⟨h2, h3⟩ := rowOk_at hp
  exact h3 _ (by omega)
theorem priced_bound {size : Int} {set prices : List Int} (h : rising set 0 (size - 1) = true) (hp : rowOk prices size 1000000 = true) (hs : 0 ≤ size ∧ size ≤ 8) : 0 ≤ priced set prices ∧ priced set prices ≤ 8000000 := by
  have h1 := sumTo_bound (f := pricedAt set prices) set.length (fun k hk => pricedAt_bound h hp hk)
  have h2 := rising_len h (by omega)
  unfold priced
  omega
abbrev s_l6Priced_JJ0 (set : List Int) (prices : List Int) (out : Int) (i : Int) : Prop := (0 ≤ i) ∧ (i ≤ (set.length : Int)) ∧ (out = sumTo (pricedAt set prices) i.toNat)
abbrev s_l6Priced_mJ0 (set : List Int) (prices : List Int) (out : Int) (i : Int) : Nat := (set.length - i).toNat
def s_l6Priced_C (f : FuncId) (ds : List D) : Orc := .no
def s_l6Priced_A (set : List Int) (prices : List Int) : Ann := .two (.none) (.two (.none) (.two (.two (.none) (.loop (cut2 (fun (out : Int) (i : Int) => s_l6Priced_JJ0 set prices out i) (fun (out : Int) (i : Int) => [(0, .d false (.sl (.ints set))), (1, .d false (.sl (.ints prices))), (5, .d true (.int .i64 out)), (6, .d true (.int .i64 i))]) (fun (out : Int) (i : Int) => [])) (fun g => s_l6Priced_mJ0 set prices g.1 g.2) (fun _ => .none))) (.none)))
def s_l6Priced_P (set : List Int) (prices : List Int) : Prop :=
  ((∃ out' : Int, ∃ i' : Int, (s_l6Priced_JJ0 set prices out' i') ∧ (set = set) ∧ (prices = prices) ∧ ((0 : Int) = out') ∧ ((0 : Int) = i')) ∧ (∀ out : Int, ∀ i : Int, (s_l6Priced_JJ0 set prices out i) → (((decide (i < (set.length : Int))) = true → ((0 : Int) ≤ i) ∧ ((i : Int) < set.length) ∧ (i.toNat < set.length) ∧ ((0 : Int) ≤ (set.getD i.toNat 0)) ∧ (((set.getD i.toNat 0) : Int) < prices.length) ∧ ((set.getD i.toNat 0).toNat < prices.length) ∧ (-9223372036854775808 ≤ (out + (prices.getD ((set.getD i.toNat 0).toNat) 0)) ∧ (out + (prices.getD ((set.getD i.toNat 0).toNat) 0)) ≤ 9223372036854775807) ∧ (-9223372036854775808 ≤ (i + 1) ∧ (i + 1) ≤ 9223372036854775807) ∧ (∃ out' : Int, ∃ i' : Int, (s_l6Priced_JJ0 set prices out' i') ∧ (s_l6Priced_mJ0 set prices out' i' < s_l6Priced_mJ0 set prices out i) ∧ (set = set) ∧ (prices = prices) ∧ ((out + (prices.getD ((set.getD i.toNat 0).toNat) 0)) = out') ∧ ((i + 1) = i'))) ∧ ((decide (i < (set.length : Int))) = false → ((out = (priced set prices)))))))
theorem s_l6Priced_vc (set : List Int) (prices : List Int) (hp : ∃ size : Int, rising set 0 (size - 1) = true ∧ rowOk prices size 1000000 = true ∧ 0 ≤ size ∧ size ≤ 8) (w_set : (set.length : Int) ≤ 9223372036854775807) (w_prices : (prices.length : Int) ≤ 9223372036854775807) : s_l6Priced_P set prices := by
  unfold s_l6Priced_P
  obtain ⟨size, hs, hp, h8⟩ := hp
  have cl := rising_len hs (by omega)
  have ca := fun k => rising_at hs k
  obtain ⟨pl, pb⟩ := rowOk_at hp
  have cb := fun k (hk : k < set.length) => pricedAt_bound hs hp hk
  refine ⟨?_, ?_⟩
  ·refine ⟨0, 0, ?_⟩
   refine ⟨?_, rfl, rfl, rfl, rfl⟩
   ·refine ⟨?_, ?_, ?_⟩
    ·omega
    ·omega
    ·rfl
  ·intro out i hJ
   obtain ⟨h1, h2, h3⟩ := hJ
   refine ⟨?_, ?_⟩
   ·intro b1
    try simp only [nrmT] at b1
    refine ⟨?_, ?_, ?_, ?_, ?_, ?_, ?_, ?_, ?_⟩
    ·omega
    ·omega
    ·omega
    ·have := ca i.toNat (by omega)
     omega
    ·have := ca i.toNat (by omega)
     omega
    ·have := ca i.toNat (by omega)
     omega
    ·have h6 := sumTo_bound i.toNat (fun k hk => cb k (by omega))
     have h7 := cb i.toNat (by omega)
     unfold pricedAt at h7
     omega
    ·omega
    ·refine ⟨(out + (prices.getD ((set.getD i.toNat 0).toNat) 0)), (i + 1), ?_⟩
     refine ⟨?_, ?_, rfl, rfl, rfl, rfl⟩
     ·refine ⟨?_, ?_, ?_⟩
      ·omega
      ·omega
      ·rw [sumTo_step h1, h3]; rfl
     ·first | (show _ < _; omega) | (simp only [s_l6Priced_mJ0]; omega) | (simp only [s_l6Priced_mJ0] at *; simp at *; omega)
   ·intro b2
    try simp only [nrmT] at b2
    unfold priced
    rw [h3]
    congr 1
    omega
theorem s_l6Priced_pc (set : List Int) (prices : List Int) (hp : ∃ size : Int, rising set 0 (size - 1) = true ∧ rowOk prices size 1000000 = true ∧ 0 ≤ size ∧ size ≤ 8) : PC Try.prog 180 [.sl (.ints set), .sl (.ints prices)] (.one (.d (.int .i64 (priced set prices)))) :=
  pc_wf @Try.call180 fun hw => pc_by (by kernel_rfl) Try.func180 @Try.call180 (by kernel_rfl) s_l6Priced_C (s_l6Priced_A set prices) (by kernel_rfl) (s_l6Priced_vc set prices hp hw.1 hw.2.1) (by kernel_rfl)
def s_l6Priced_orc : List D → Orc := orcN [some .ints, some .ints] fun ds => match ds with
  | [.sl (.ints set), .sl (.ints prices)] => some (.one (.d (.int .i64 (priced set prices))))
  | _ => none
abbrev i_System_priceOf_JJ0 (Size : Int) (Sets : List (List Int)) (Costs : List Int) (k : Int) (prices : List Int) (out : Int) (i : Int) : Prop := (0 ≤ i) ∧ (i ≤ ((Sets.getD k.toNat []).length : Int)) ∧ (out = sumTo (pricedAt (Sets.getD k.toNat []) prices) i.toNat)
abbrev i_System_priceOf_mJ0 (Size : Int) (Sets : List (List Int)) (Costs : List Int) (k : Int) (prices : List Int) (out : Int) (i : Int) : Nat := ((Sets.getD k.toNat []).length - i).toNat
def i_System_priceOf_C (f : FuncId) (ds : List D) : Orc := .no
def i_System_priceOf_A (Size : Int) (Sets : List (List Int)) (Costs : List Int) (k : Int) (prices : List Int) : Ann := .two (.none) (.two (.none) (.two (.two (.none) (.loop (cut2 (fun (out : Int) (i : Int) => i_System_priceOf_JJ0 Size Sets Costs k prices out i) (fun (out : Int) (i : Int) => [(2, .d false (.sl (.ints prices))), (7, .d true (.int .i64 out)), (14, .d false (.sl (.ints (Sets.getD k.toNat [])))), (15, .d true (.int .i64 (((Sets.getD k.toNat []).length) : Int))), (16, .d true (.int .i64 i))]) (fun (out : Int) (i : Int) => [])) (fun g => i_System_priceOf_mJ0 Size Sets Costs k prices g.1 g.2) (fun _ => .none))) (.none)))
def i_System_priceOf_P (Size : Int) (Sets : List (List Int)) (Costs : List Int) (k : Int) (prices : List Int) : Prop :=
  ((0 : Int) ≤ k) ∧ ((k : Int) < Sets.length) ∧ (k.toNat < Sets.length) ∧ ((∃ out' : Int, ∃ i' : Int, (i_System_priceOf_JJ0 Size Sets Costs k prices out' i') ∧ (prices = prices) ∧ ((0 : Int) = out') ∧ ((Sets.getD k.toNat []) = (Sets.getD k.toNat [])) ∧ ((((Sets.getD k.toNat []).length) : Int) = (((Sets.getD k.toNat []).length) : Int)) ∧ ((0 : Int) = i')) ∧ (∀ out : Int, ∀ i : Int, (i_System_priceOf_JJ0 Size Sets Costs k prices out i) → (((decide (i < (((Sets.getD k.toNat []).length) : Int))) = true → ((0 : Int) ≤ i) ∧ ((i : Int) < (Sets.getD k.toNat []).length) ∧ (i.toNat < (Sets.getD k.toNat []).length) ∧ ((0 : Int) ≤ ((Sets.getD k.toNat []).getD i.toNat 0)) ∧ ((((Sets.getD k.toNat []).getD i.toNat 0) : Int) < prices.length) ∧ (((Sets.getD k.toNat []).getD i.toNat 0).toNat < prices.length) ∧ (-9223372036854775808 ≤ (out + (prices.getD (((Sets.getD k.toNat []).getD i.toNat 0).toNat) 0)) ∧ (out + (prices.getD (((Sets.getD k.toNat []).getD i.toNat 0).toNat) 0)) ≤ 9223372036854775807) ∧ (-9223372036854775808 ≤ (i + 1) ∧ (i + 1) ≤ 9223372036854775807) ∧ (∃ out' : Int, ∃ i' : Int, (i_System_priceOf_JJ0 Size Sets Costs k prices out' i') ∧ (i_System_priceOf_mJ0 Size Sets Costs k prices out' i' < i_System_priceOf_mJ0 Size Sets Costs k prices out i) ∧ (prices = prices) ∧ ((out + (prices.getD (((Sets.getD k.toNat []).getD i.toNat 0).toNat) 0)) = out') ∧ ((Sets.getD k.toNat []) = (Sets.getD k.toNat [])) ∧ ((((Sets.getD k.toNat []).length) : Int) = (((Sets.getD k.toNat []).length) : Int)) ∧ ((i + 1) = i'))) ∧ ((decide (i < (((Sets.getD k.toNat []).length) : Int))) = false → ((out = (priced (Sets.getD k.toNat []) prices)))))))
theorem i_System_priceOf_vc (Size : Int) (Sets : List (List Int)) (Costs : List Int) (k : Int) (prices : List Int) (hg : goodSys Size Sets Costs = true) (hk : 0 ≤ k ∧ k < (Sets.length : Int)) (hp : rowOk prices Size 1000000 = true) (w_Sets : (Sets.length : Int) ≤ 9223372036854775807) (v_Sets : ∀ x9 ∈ Sets, (x9.length : Int) ≤ 9223372036854775807) (w_Costs : (Costs.length : Int) ≤ 9223372036854775807) (w_prices : (prices.length : Int) ≤ 9223372036854775807) : i_System_priceOf_P Size Sets Costs k prices := by
  unfold i_System_priceOf_P
  have gf := gs_facts hg
  have hs := gs_set hg (k := k.toNat) (by omega)
  have cl := rising_len hs (by omega)
  have ca := fun k => rising_at hs k
  obtain ⟨pl, pb⟩ := rowOk_at hp
  have cb := fun j (hj : j < (Sets.getD k.toNat []).length) => pricedAt_bound hs hp hj
  refine ⟨?_, ?_, ?_, ?_, ?_⟩
  ·omega
  ·omega
  ·omega
  ·refine ⟨0, 0, ?_⟩
   refine ⟨?_, rfl, rfl, rfl, rfl, rfl⟩
   ·refine ⟨?_, ?_, ?_⟩
    ·omega
    ·omega
    ·rfl
  ·intro out i hJ
   obtain ⟨h1, h2, h3⟩ := hJ
   refine ⟨?_, ?_⟩
   ·intro b1
    try simp only [nrmT] at b1
    refine ⟨?_, ?_, ?_, ?_, ?_, ?_, ?_, ?_, ?_⟩
    ·omega
    ·omega
    ·omega
    ·have := ca i.toNat (by omega)
     omega
    ·have := ca i.toNat (by omega)
     omega
    ·have := ca i.toNat (by omega)
     omega
    ·have h6 := sumTo_bound i.toNat (fun k hk => cb k (by omega))
     have h7 := cb i.toNat (by omega)
     unfold pricedAt at h7
     omega
    ·omega
    ·refine ⟨(out + (prices.getD (((Sets.getD k.toNat []).getD i.toNat 0).toNat) 0)), (i + 1), ?_⟩
     refine ⟨?_, ?_, rfl, rfl, rfl, rfl, rfl⟩
     ·refine ⟨?_, ?_, ?_⟩
      ·omega
      ·omega
      ·rw [sumTo_step h1, h3]; rfl
     ·first | (show _ < _; omega) | (simp only [i_System_priceOf_mJ0]; omega) | (simp only [i_System_priceOf_mJ0] at *; simp at *; omega)
   ·intro b2
    try simp only [nrmT] at b2
    unfold priced
    rw [h3]
    congr 1
    omega
theorem i_System_priceOf_pc (Size : Int) (Sets : List (List Int)) (Costs : List Int) (k : Int) (prices : List Int) (hg : goodSys Size Sets Costs = true) (hk : 0 ≤ k ∧ k < (Sets.length : Int)) (hp : rowOk prices Size 1000000 = true) : PC Try.prog 179 [.agg [.int .i64 Size, .sl (.rows Sets), .sl (.ints Costs)], .int .i64 k, .sl (.ints prices)] (.one (.d (.int .i64 (priced (Sets.getD k.toNat []) prices)))) :=
  pc_wf @Try.call179 fun hw => pc_by (by kernel_rfl) Try.func179 @Try.call179 (by kernel_rfl) i_System_priceOf_C (i_System_priceOf_A Size Sets Costs k prices) (by kernel_rfl) (i_System_priceOf_vc Size Sets Costs k prices hg hk hp hw.1.2.1.1 hw.1.2.1.2 hw.1.2.2.1 hw.2.2.1) (by kernel_rfl)
def i_System_priceOf_orc : List D → Orc := orcN [none, none, some .ints] fun ds => match ds with
  | [.agg [.int .i64 Size, .sl (.rows Sets), .sl (.ints Costs)], .int .i64 k, .sl (.ints prices)] => some (.one (.d (.int .i64 (priced (Sets.getD k.toNat []) prices))))
  | _ => none
def fairAt (Sets : List (List Int)) (Costs prices : List Int) (scale : Int) (k : Nat) : Bool := decide (priced (Sets.getD k []) prices ≤ Costs.getD k 0 * scale)
def fair (Sets : List (List Int)) (Costs prices : List Int) (scale : Int) : Bool := allTo (fairAt Sets Costs prices scale) Sets.length
theorem mul_small {x y : Int} (hx : 1 ≤ x ∧ x ≤ 99) (hy : 1 ≤ y ∧ y ≤ 1000000) : 1 ≤ x * y ∧ x * y ≤ 99000000 := by
  constructor
  · exact Int.le_trans (by omega : (1 : Int) ≤ 1 * 1) (Int.mul_le_mul hx.1 hy.1 (by omega) (by omega))
  · exact Int.le_trans (Int.mul_le_mul hx.2 hy.2 (by omega) (by omega)) (by omega)
abbrev s_ArePrices_JJ0 (Size : Int) (Sets : List (List Int)) (Costs : List Int) (prices : List Int) (scale : Int) (i : Int) : Prop := (0 ≤ i) ∧ (i ≤ (Sets.length : Int)) ∧ (allTo (fairAt Sets Costs prices scale) i.toNat = true) ∧ (goodSys Size Sets Costs = true) ∧ (rowOk prices Size 1000000 = true) ∧ (inB scale 1 1000000 = true)
abbrev s_ArePrices_mJ0 (Size : Int) (Sets : List (List Int)) (Costs : List Int) (prices : List Int) (scale : Int) (i : Int) : Nat := (Sets.length - i).toNat
def s_ArePrices_C (f : FuncId) (ds : List D) : Orc := bif Nat.beq f 122 then s_l6Good_orc ds else bif Nat.beq f 150 then s_l2Row_orc ds else bif Nat.beq f 116 then s_l1In_orc ds else bif Nat.beq f 180 then s_l6Priced_orc ds else .no
def s_ArePrices_A (Size : Int) (Sets : List (List Int)) (Costs : List Int) (prices : List Int) (scale : Int) : Ann := .two (.none) (.two (.none) (.two (.two (.none) (.loop (cut1 (fun (i : Int) => s_ArePrices_JJ0 Size Sets Costs prices scale i) (fun (i : Int) => [(1, .d false (.sl (.ints prices))), (2, .d false (.int .i64 scale)), (3, .ptr 3 0), (8, .d true (.int .i64 i))]) (fun (i : Int) => [(3, .box 36 [.d false (.int .i64 Size), .d false (.sl (.rows Sets)), .d false (.sl (.ints Costs))])])) (fun g => s_ArePrices_mJ0 Size Sets Costs prices scale g) (fun _ => .none))) (.none)))
def s_ArePrices_P (Size : Int) (Sets : List (List Int)) (Costs : List Int) (prices : List Int) (scale : Int) : Prop :=
  (PC Try.prog 122 [.agg [.int .i64 Size, .sl (.rows Sets), .sl (.ints Costs)]] (.one (.d (.bool (goodSys Size Sets Costs))))) ∧ ((!(!(goodSys Size Sets Costs))) = true → (!(!(goodSys Size Sets Costs))) = true) ∧ ((!(!(goodSys Size Sets Costs))) = true → (!(!(goodSys Size Sets Costs))) = true) ∧ ((!(!(goodSys Size Sets Costs))) = true → (!(!(goodSys Size Sets Costs))) = true) ∧ ((!(!(goodSys Size Sets Costs))) = true → PC Try.prog 150 [.sl (.ints prices), .int .i64 Size, .int .i64 1000000] (.one (.d (.bool (rowOk prices Size 1000000))))) ∧ ((!(!(goodSys Size Sets Costs))) = true → (!(!(goodSys Size Sets Costs))) = true) ∧ (true = true) ∧ (((!(goodSys Size Sets Costs)) = true → true = true)) ∧ (((!(goodSys Size Sets Costs)) = false → (!(!(goodSys Size Sets Costs))) = true)) ∧ ((!(cond (!(goodSys Size Sets Costs)) true (!(rowOk prices Size 1000000)))) = true → (!(cond (!(goodSys Size Sets Costs)) true (!(rowOk prices Size 1000000)))) = true) ∧ ((!(cond (!(goodSys Size Sets Costs)) true (!(rowOk prices Size 1000000)))) = true → PC Try.prog 116 [.int .i64 scale, .int .i64 1, .int .i64 1000000] (.one (.d (.bool (inB scale 1 1000000))))) ∧ ((!(cond (!(goodSys Size Sets Costs)) true (!(rowOk prices Size 1000000)))) = true → (!(cond (!(goodSys Size Sets Costs)) true (!(rowOk prices Size 1000000)))) = true) ∧ (true = true) ∧ (((cond (!(goodSys Size Sets Costs)) true (!(rowOk prices Size 1000000))) = true → true = true)) ∧ (((cond (!(goodSys Size Sets Costs)) true (!(rowOk prices Size 1000000))) = false → (!(cond (!(goodSys Size Sets Costs)) true (!(rowOk prices Size 1000000)))) = true)) ∧ (((cond (cond (!(goodSys Size Sets Costs)) true (!(rowOk prices Size 1000000))) true (!(inB scale 1 1000000))) = true → ((false = ((goodSys Size Sets Costs && rowOk prices Size 1000000 && inB scale 1 1000000) && fair Sets Costs prices scale)) ∧ (false = (goodSys Size Sets Costs && rowOk prices Size 1000000 && inB scale 1 1000000)))) ∧ ((cond (cond (!(goodSys Size Sets Costs)) true (!(rowOk prices Size 1000000))) true (!(inB scale 1 1000000))) = false → ((∃ i' : Int, (s_ArePrices_JJ0 Size Sets Costs prices scale i') ∧ (prices = prices) ∧ (scale = scale) ∧ ((0 : Int) = i') ∧ (Size = Size) ∧ (Sets = Sets) ∧ (Costs = Costs)) ∧ (∀ i : Int, (s_ArePrices_JJ0 Size Sets Costs prices scale i) → (((decide (i < (Sets.length : Int))) = true → (true = true) ∧ ((0 : Int) ≤ i) ∧ ((i : Int) < Sets.length) ∧ (i.toNat < Sets.length) ∧ (PC Try.prog 180 [.sl (.ints (Sets.getD i.toNat [])), .sl (.ints prices)] (.one (.d (.int .i64 (priced (Sets.getD i.toNat []) prices))))) ∧ ((0 : Int) ≤ i) ∧ ((i : Int) < Costs.length) ∧ (i.toNat < Costs.length) ∧ (-9223372036854775808 ≤ ((Costs.getD i.toNat 0) * scale) ∧ ((Costs.getD i.toNat 0) * scale) ≤ 9223372036854775807) ∧ (((decide ((priced (Sets.getD i.toNat []) prices) > ((Costs.getD i.toNat 0) * scale))) = true → ((false = ((goodSys Size Sets Costs && rowOk prices Size 1000000 && inB scale 1 1000000) && fair Sets Costs prices scale)) ∧ (true = (goodSys Size Sets Costs && rowOk prices Size 1000000 && inB scale 1 1000000)))) ∧ ((decide ((priced (Sets.getD i.toNat []) prices) > ((Costs.getD i.toNat 0) * scale))) = false → (-9223372036854775808 ≤ (i + 1) ∧ (i + 1) ≤ 9223372036854775807) ∧ (∃ i' : Int, (s_ArePrices_JJ0 Size Sets Costs prices scale i') ∧ (s_ArePrices_mJ0 Size Sets Costs prices scale i' < s_ArePrices_mJ0 Size Sets Costs prices scale i) ∧ (prices = prices) ∧ (scale = scale) ∧ ((i + 1) = i') ∧ (Size = Size) ∧ (Sets = Sets) ∧ (Costs = Costs))))) ∧ ((decide (i < (Sets.length : Int))) = false → ((true = ((goodSys Size Sets Costs && rowOk prices Size 1000000 && inB scale 1 1000000) && fair Sets Costs prices scale)) ∧ (true = (goodSys Size Sets Costs && rowOk prices Size 1000000 && inB scale 1 1000000)))))))))
theorem s_ArePrices_vc (Size : Int) (Sets : List (List Int)) (Costs : List Int) (prices : List Int) (scale : Int)  (w_Sets : (Sets.length : Int) ≤ 9223372036854775807) (v_Sets : ∀ x9 ∈ Sets, (x9.length : Int) ≤ 9223372036854775807) (w_Costs : (Costs.length : Int) ≤ 9223372036854775807) (w_prices : (prices.length : Int) ≤ 9223372036854775807) : s_ArePrices_P Size Sets Costs prices scale := by
  unfold s_ArePrices_P
  refine ⟨s_l6Good_pc Size Sets Costs, id, id, id, fun _ => s_l2Row_pc prices Size 1000000, id, rfl, fun _ => rfl, ?_, id, fun _ => s_l1In_pc scale 1 1000000, id, rfl, fun _ => rfl, ?_, ?_, ?_⟩
  ·intro h; rw [h]; rfl
  ·intro h; rw [h]; rfl
  ·intro b1
   refine ⟨?_, ?_⟩
   ·have hq : (goodSys Size Sets Costs && rowOk prices Size 1000000 && inB scale 1 1000000) = false := by
      revert b1; cases goodSys Size Sets Costs <;> cases rowOk prices Size 1000000 <;> cases inB scale 1 1000000 <;> simp
    rw [hq]; rfl
   ·have hq : (goodSys Size Sets Costs && rowOk prices Size 1000000 && inB scale 1 1000000) = false := by
      revert b1; cases goodSys Size Sets Costs <;> cases rowOk prices Size 1000000 <;> cases inB scale 1 1000000 <;> simp
    exact hq.symm
  ·intro b2
   refine ⟨?_, ?_⟩
   ·refine ⟨0, ?_⟩
    refine ⟨?_, rfl, rfl, rfl, rfl, rfl, rfl⟩
    ·refine ⟨?_, ?_, ?_, ?_, ?_, ?_⟩
     ·omega
     ·omega
     ·rfl
     ·have hq : goodSys Size Sets Costs = true ∧ rowOk prices Size 1000000 = true ∧ inB scale 1 1000000 = true := by
        revert b2; cases goodSys Size Sets Costs <;> cases rowOk prices Size 1000000 <;> cases inB scale 1 1000000 <;> simp
      exact hq.1
     ·have hq : goodSys Size Sets Costs = true ∧ rowOk prices Size 1000000 = true ∧ inB scale 1 1000000 = true := by
        revert b2; cases goodSys Size Sets Costs <;> cases rowOk prices Size 1000000 <;> cases inB scale 1 1000000 <;> simp
      exact hq.2.1
     ·have hq : goodSys Size Sets Costs = true ∧ rowOk prices Size 1000000 = true ∧ inB scale 1 1000000 = true := by
        revert b2; cases goodSys Size Sets Costs <;> cases rowOk prices Size 1000000 <;> cases inB scale 1 1000000 <;> simp
      exact hq.2.2
   ·intro i hJ
    obtain ⟨h1, h2, h3, h4, h5, h6⟩ := hJ
    refine ⟨?_, ?_⟩
    ·intro b3
     try simp only [nrmT] at b3
     refine ⟨rfl, ?_, ?_, ?_, ?_, ?_, ?_, ?_, ?_, ?_, ?_⟩
     ·omega
     ·omega
     ·omega
     ·refine s_l6Priced_pc (Sets.getD i.toNat []) prices ?_
      ·exact ⟨Size, gs_set h4 (by omega), h5, (gs_facts h4).1, (gs_facts h4).2.1⟩
     ·omega
     ·have gf := gs_facts h4
      omega
     ·have gf := gs_facts h4
      omega
     ·have gf := gs_facts h4
      have c1 := gs_cost h4 (k := i.toNat) (by omega)
      have c2 := mul_small c1 (inB_le h6)
      omega
     ·intro b4
      try simp only [nrmT] at b4
      refine ⟨?_, ?_⟩
      ·have gf := gs_facts h4
       rw [show fair Sets Costs prices scale = false from allTo_falseI h1 (by omega) (by unfold fairAt; simp only [decide_eq_false_iff_not]; omega), Bool.and_false]
      ·rw [h4, h5, h6]; rfl
     ·intro b5
      try simp only [nrmT] at b5
      refine ⟨?_, ?_⟩
      ·omega
      ·refine ⟨(i + 1), ?_⟩
       refine ⟨?_, ?_, rfl, rfl, rfl, rfl, rfl, rfl⟩
       ·refine ⟨?_, ?_, ?_, ?_, ?_, ?_⟩
        ·omega
        ·have gf := gs_facts h4
         omega
        ·have gf := gs_facts h4
         refine allTo_step h1 h3 ?_
         unfold fairAt
         simp only [decide_eq_true_eq]
         omega
        ·exact h4
        ·exact h5
        ·exact h6
       ·have gf := gs_facts h4
        first | (show _ < _; omega) | (simp only [s_ArePrices_mJ0]; omega) | (simp only [s_ArePrices_mJ0] at *; simp at *; omega)
    ·intro b6
     try simp only [nrmT] at b6
     refine ⟨?_, ?_⟩
     ·have gf := gs_facts h4
      have e : i.toNat = Sets.length := by omega
      rw [h4, h5, h6]
      unfold fair
      rw [← e, h3]; rfl
     ·rw [h4, h5, h6]; rfl
theorem s_ArePrices_pc (Size : Int) (Sets : List (List Int)) (Costs : List Int) (prices : List Int) (scale : Int)  : PC Try.prog 86 [.agg [.int .i64 Size, .sl (.rows Sets), .sl (.ints Costs)], .sl (.ints prices), .int .i64 scale] (.tup [.d (.bool ((goodSys Size Sets Costs && rowOk prices Size 1000000 && inB scale 1 1000000) && fair Sets Costs prices scale)), .d (.bool (goodSys Size Sets Costs && rowOk prices Size 1000000 && inB scale 1 1000000))]) :=
  pc_wf @Try.call86 fun hw => pc_by (by kernel_rfl) Try.func86 @Try.call86 (by kernel_rfl) s_ArePrices_C (s_ArePrices_A Size Sets Costs prices scale) (by kernel_rfl) (s_ArePrices_vc Size Sets Costs prices scale hw.1.2.1.1 hw.1.2.1.2 hw.1.2.2.1 hw.2.1) (by kernel_rfl)
def s_ArePrices_orc : List D → Orc := orcN [none, some .ints, none] fun ds => match ds with
  | [.agg [.int .i64 Size, .sl (.rows Sets), .sl (.ints Costs)], .sl (.ints prices), .int .i64 scale] => some (.tup [.d (.bool ((goodSys Size Sets Costs && rowOk prices Size 1000000 && inB scale 1 1000000) && fair Sets Costs prices scale)), .d (.bool (goodSys Size Sets Costs && rowOk prices Size 1000000 && inB scale 1 1000000))])
  | _ => none
abbrev i_ArePrices_JJ0 (Size : Int) (Sets : List (List Int)) (Costs : List Int) (prices : List Int) (scale : Int) (i : Int) : Prop := (0 ≤ i) ∧ (i ≤ (Sets.length : Int)) ∧ (allTo (fairAt Sets Costs prices scale) i.toNat = true) ∧ (goodSys Size Sets Costs = true) ∧ (rowOk prices Size 1000000 = true) ∧ (inB scale 1 1000000 = true)
abbrev i_ArePrices_mJ0 (Size : Int) (Sets : List (List Int)) (Costs : List Int) (prices : List Int) (scale : Int) (i : Int) : Nat := (Sets.length - i).toNat
def i_ArePrices_C (f : FuncId) (ds : List D) : Orc := bif Nat.beq f 76 then i_IsSystem_orc ds else bif Nat.beq f 131 then i_areBetween_orc ds else bif Nat.beq f 120 then i_between_orc ds else bif Nat.beq f 179 then i_System_priceOf_orc ds else .no
def i_ArePrices_A (Size : Int) (Sets : List (List Int)) (Costs : List Int) (prices : List Int) (scale : Int) : Ann := .two (.none) (.two (.none) (.two (.two (.none) (.loop (cut1 (fun (i : Int) => i_ArePrices_JJ0 Size Sets Costs prices scale i) (fun (i : Int) => [(1, .d false (.sl (.ints prices))), (2, .d false (.int .i64 scale)), (3, .ptr 3 0), (31, .d false (.sl (.ints Costs))), (32, .d true (.int .i64 (Costs.length : Int))), (33, .d true (.int .i64 i))]) (fun (i : Int) => [(3, .box 36 [.d false (.int .i64 Size), .d false (.sl (.rows Sets)), .d false (.sl (.ints Costs))])])) (fun g => i_ArePrices_mJ0 Size Sets Costs prices scale g) (fun _ => .none))) (.none)))
def i_ArePrices_e1 (Size : Int) (Sets : List (List Int)) (Costs : List Int) (prices : List Int) : Bool := (cond (cond (!(goodSys Size Sets Costs)) true ((prices.length : Int) != Size)) true (!(prices.all (fun x => inB x 0 1000000))))
def i_ArePrices_P (Size : Int) (Sets : List (List Int)) (Costs : List Int) (prices : List Int) (scale : Int) : Prop :=
  (PC Try.prog 76 [.agg [.int .i64 Size, .sl (.rows Sets), .sl (.ints Costs)]] (.one (.d (.bool (goodSys Size Sets Costs))))) ∧ ((!(!(goodSys Size Sets Costs))) = true → (!(!(goodSys Size Sets Costs))) = true) ∧ ((!(!(goodSys Size Sets Costs))) = true → (!(!(goodSys Size Sets Costs))) = true) ∧ ((!(!(goodSys Size Sets Costs))) = true → (!(!(goodSys Size Sets Costs))) = true) ∧ ((!(!(goodSys Size Sets Costs))) = true → (!(!(goodSys Size Sets Costs))) = true) ∧ (true = true) ∧ (((!(goodSys Size Sets Costs)) = true → true = true)) ∧ (((!(goodSys Size Sets Costs)) = false → (!(!(goodSys Size Sets Costs))) = true)) ∧ ((!(cond (!(goodSys Size Sets Costs)) true ((prices.length : Int) != Size))) = true → (!(cond (!(goodSys Size Sets Costs)) true ((prices.length : Int) != Size))) = true) ∧ ((!(cond (!(goodSys Size Sets Costs)) true ((prices.length : Int) != Size))) = true → PC Try.prog 131 [.sl (.ints prices), .int .i64 0, .int .i64 1000000] (.one (.d (.bool (prices.all (fun x => inB x 0 1000000)))))) ∧ ((!(cond (!(goodSys Size Sets Costs)) true ((prices.length : Int) != Size))) = true → (!(cond (!(goodSys Size Sets Costs)) true ((prices.length : Int) != Size))) = true) ∧ (true = true) ∧ (((cond (!(goodSys Size Sets Costs)) true ((prices.length : Int) != Size)) = true → true = true)) ∧ (((cond (!(goodSys Size Sets Costs)) true ((prices.length : Int) != Size)) = false → (!(cond (!(goodSys Size Sets Costs)) true ((prices.length : Int) != Size))) = true)) ∧ ((!(i_ArePrices_e1 Size Sets Costs prices)) = true → (!(i_ArePrices_e1 Size Sets Costs prices)) = true) ∧ ((!(i_ArePrices_e1 Size Sets Costs prices)) = true → PC Try.prog 120 [.int .i64 scale, .int .i64 1, .int .i64 1000000] (.one (.d (.bool (inB scale 1 1000000))))) ∧ ((!(i_ArePrices_e1 Size Sets Costs prices)) = true → (!(i_ArePrices_e1 Size Sets Costs prices)) = true) ∧ (true = true) ∧ (((i_ArePrices_e1 Size Sets Costs prices) = true → true = true)) ∧ (((i_ArePrices_e1 Size Sets Costs prices) = false → (!(i_ArePrices_e1 Size Sets Costs prices)) = true)) ∧ (((cond (i_ArePrices_e1 Size Sets Costs prices) true (!(inB scale 1 1000000))) = true → ((false = ((goodSys Size Sets Costs && rowOk prices Size 1000000 && inB scale 1 1000000) && fair Sets Costs prices scale)) ∧ (false = (goodSys Size Sets Costs && rowOk prices Size 1000000 && inB scale 1 1000000)))) ∧ ((cond (i_ArePrices_e1 Size Sets Costs prices) true (!(inB scale 1 1000000))) = false → ((∃ i' : Int, (i_ArePrices_JJ0 Size Sets Costs prices scale i') ∧ (prices = prices) ∧ (scale = scale) ∧ (Costs = Costs) ∧ ((Costs.length : Int) = (Costs.length : Int)) ∧ ((0 : Int) = i') ∧ (Size = Size) ∧ (Sets = Sets) ∧ (Costs = Costs)) ∧ (∀ i : Int, (i_ArePrices_JJ0 Size Sets Costs prices scale i) → (((decide (i < (Costs.length : Int))) = true → ((0 : Int) ≤ i) ∧ ((i : Int) < Costs.length) ∧ (i.toNat < Costs.length) ∧ (PC Try.prog 179 [.agg [.int .i64 Size, .sl (.rows Sets), .sl (.ints Costs)], .int .i64 i, .sl (.ints prices)] (.one (.d (.int .i64 (priced (Sets.getD i.toNat []) prices))))) ∧ (-9223372036854775808 ≤ ((Costs.getD i.toNat 0) * scale) ∧ ((Costs.getD i.toNat 0) * scale) ≤ 9223372036854775807) ∧ (((decide ((priced (Sets.getD i.toNat []) prices) > ((Costs.getD i.toNat 0) * scale))) = true → ((false = ((goodSys Size Sets Costs && rowOk prices Size 1000000 && inB scale 1 1000000) && fair Sets Costs prices scale)) ∧ (true = (goodSys Size Sets Costs && rowOk prices Size 1000000 && inB scale 1 1000000)))) ∧ ((decide ((priced (Sets.getD i.toNat []) prices) > ((Costs.getD i.toNat 0) * scale))) = false → (-9223372036854775808 ≤ (i + 1) ∧ (i + 1) ≤ 9223372036854775807) ∧ (∃ i' : Int, (i_ArePrices_JJ0 Size Sets Costs prices scale i') ∧ (i_ArePrices_mJ0 Size Sets Costs prices scale i' < i_ArePrices_mJ0 Size Sets Costs prices scale i) ∧ (prices = prices) ∧ (scale = scale) ∧ (Costs = Costs) ∧ ((Costs.length : Int) = (Costs.length : Int)) ∧ ((i + 1) = i') ∧ (Size = Size) ∧ (Sets = Sets) ∧ (Costs = Costs))))) ∧ ((decide (i < (Costs.length : Int))) = false → ((true = ((goodSys Size Sets Costs && rowOk prices Size 1000000 && inB scale 1 1000000) && fair Sets Costs prices scale)) ∧ (true = (goodSys Size Sets Costs && rowOk prices Size 1000000 && inB scale 1 1000000)))))))))
theorem i_ArePrices_vc (Size : Int) (Sets : List (List Int)) (Costs : List Int) (prices : List Int) (scale : Int)  (w_Sets : (Sets.length : Int) ≤ 9223372036854775807) (v_Sets : ∀ x9 ∈ Sets, (x9.length : Int) ≤ 9223372036854775807) (w_Costs : (Costs.length : Int) ≤ 9223372036854775807) (w_prices : (prices.length : Int) ≤ 9223372036854775807) : i_ArePrices_P Size Sets Costs prices scale := by
  unfold i_ArePrices_P i_ArePrices_e1
  refine ⟨i_IsSystem_pc Size Sets Costs, id, id, id, id, rfl, fun _ => rfl, ?_, id, fun _ => i_areBetween_pc prices 0 1000000, id, rfl, fun _ => rfl, ?_, id, fun _ => i_between_pc scale 1 1000000, id, rfl, fun _ => rfl, ?_, ?_, ?_⟩
  ·intro h; rw [h]; rfl
  ·intro h; rw [h]; rfl
  ·intro h; rw [h]; rfl
  ·intro b1
   refine ⟨?_, ?_⟩
   ·have hq : (goodSys Size Sets Costs && rowOk prices Size 1000000 && inB scale 1 1000000) = false := by
      revert b1; unfold rowOk; cases goodSys Size Sets Costs <;> cases (prices.all fun x => inB x 0 1000000) <;> cases inB scale 1 1000000 <;> by_cases h : (prices.length : Int) = Size <;> simp [h]
    rw [hq]; rfl
   ·have hq : (goodSys Size Sets Costs && rowOk prices Size 1000000 && inB scale 1 1000000) = false := by
      revert b1; unfold rowOk; cases goodSys Size Sets Costs <;> cases (prices.all fun x => inB x 0 1000000) <;> cases inB scale 1 1000000 <;> by_cases h : (prices.length : Int) = Size <;> simp [h]
    exact hq.symm
  ·intro b2
   refine ⟨?_, ?_⟩
   ·refine ⟨0, ?_⟩
    refine ⟨?_, rfl, rfl, rfl, rfl, rfl, rfl, rfl, rfl⟩
    ·refine ⟨?_, ?_, ?_, ?_, ?_, ?_⟩
     ·omega
     ·omega
     ·rfl
     ·have hq : goodSys Size Sets Costs = true ∧ rowOk prices Size 1000000 = true ∧ inB scale 1 1000000 = true := by
        revert b2; unfold rowOk; cases goodSys Size Sets Costs <;> cases (prices.all fun x => inB x 0 1000000) <;> cases inB scale 1 1000000 <;> by_cases h : (prices.length : Int) = Size <;> simp [h]
      exact hq.1
     ·have hq : goodSys Size Sets Costs = true ∧ rowOk prices Size 1000000 = true ∧ inB scale 1 1000000 = true := by
        revert b2; unfold rowOk; cases goodSys Size Sets Costs <;> cases (prices.all fun x => inB x 0 1000000) <;> cases inB scale 1 1000000 <;> by_cases h : (prices.length : Int) = Size <;> simp [h]
      exact hq.2.1
     ·have hq : goodSys Size Sets Costs = true ∧ rowOk prices Size 1000000 = true ∧ inB scale 1 1000000 = true := by
        revert b2; unfold rowOk; cases goodSys Size Sets Costs <;> cases (prices.all fun x => inB x 0 1000000) <;> cases inB scale 1 1000000 <;> by_cases h : (prices.length : Int) = Size <;> simp [h]
      exact hq.2.2
   ·intro i hJ
    obtain ⟨h1, h2, h3, h4, h5, h6⟩ := hJ
    refine ⟨?_, ?_⟩
    ·intro b3
     try simp only [nrmT] at b3
     refine ⟨?_, ?_, ?_, ?_, ?_, ?_, ?_⟩
     ·omega
     ·have gf := gs_facts h4
      omega
     ·have gf := gs_facts h4
      omega
     ·refine i_System_priceOf_pc Size Sets Costs i prices ?_ ?_ ?_
      ·exact h4
      ·have gf := gs_facts h4
       omega
      ·exact h5
     ·have gf := gs_facts h4
      have c1 := gs_cost h4 (k := i.toNat) (by omega)
      have c2 := mul_small c1 (inB_le h6)
      omega
     ·intro b4
      try simp only [nrmT] at b4
      refine ⟨?_, ?_⟩
      ·have gf := gs_facts h4
       rw [show fair Sets Costs prices scale = false from allTo_falseI h1 (by omega) (by unfold fairAt; simp only [decide_eq_false_iff_not]; omega), Bool.and_false]
      ·rw [h4, h5, h6]; rfl
     ·intro b5
      try simp only [nrmT] at b5
      refine ⟨?_, ?_⟩
      ·omega
      ·refine ⟨(i + 1), ?_⟩
       refine ⟨?_, ?_, rfl, rfl, rfl, rfl, rfl, rfl, rfl, rfl⟩
       ·refine ⟨?_, ?_, ?_, ?_, ?_, ?_⟩
        ·omega
        ·have gf := gs_facts h4
         omega
        ·have gf := gs_facts h4
         refine allTo_step h1 h3 ?_
         unfold fairAt
         simp only [decide_eq_true_eq]
         omega
        ·exact h4
        ·exact h5
        ·exact h6
       ·have gf := gs_facts h4
        first | (show _ < _; omega) | (simp only [i_ArePrices_mJ0]; omega) | (simp only [i_ArePrices_mJ0] at *; simp at *; omega)
    ·intro b6
     try simp only [nrmT] at b6
     refine ⟨?_, ?_⟩
     ·have gf := gs_facts h4
      have e : i.toNat = Sets.length := by omega
      rw [h4, h5, h6]
      unfold fair
      rw [← e, h3]; rfl
     ·rw [h4, h5, h6]; rfl
theorem i_ArePrices_pc (Size : Int) (Sets : List (List Int)) (Costs : List Int) (prices : List Int) (scale : Int)  : PC Try.prog 85 [.agg [.int .i64 Size, .sl (.rows Sets), .sl (.ints Costs)], .sl (.ints prices), .int .i64 scale] (.tup [.d (.bool ((goodSys Size Sets Costs && rowOk prices Size 1000000 && inB scale 1 1000000) && fair Sets Costs prices scale)), .d (.bool (goodSys Size Sets Costs && rowOk prices Size 1000000 && inB scale 1 1000000))]) :=
  pc_wf @Try.call85 fun hw => pc_by (by kernel_rfl) Try.func85 @Try.call85 (by kernel_rfl) i_ArePrices_C (i_ArePrices_A Size Sets Costs prices scale) (by kernel_rfl) (i_ArePrices_vc Size Sets Costs prices scale hw.1.2.1.1 hw.1.2.1.2 hw.1.2.2.1 hw.2.1) (by kernel_rfl)
def i_ArePrices_orc : List D → Orc := orcN [none, some .ints, none] fun ds => match ds with
  | [.agg [.int .i64 Size, .sl (.rows Sets), .sl (.ints Costs)], .sl (.ints prices), .int .i64 scale] => some (.tup [.d (.bool ((goodSys Size Sets Costs && rowOk prices Size 1000000 && inB scale 1 1000000) && fair Sets Costs prices scale)), .d (.bool (goodSys Size Sets Costs && rowOk prices Size 1000000 && inB scale 1 1000000))])
  | _ => none
abbrev i_bagOf_JJ0 (list : List Int) (out : Int) (i : Int) : Prop := (0 ≤ i) ∧ (i ≤ (list.length : Int)) ∧ (out = ((bagTo list i.toNat : Nat) : Int))
abbrev i_bagOf_mJ0 (list : List Int) (out : Int) (i : Int) : Nat := (list.length - i).toNat
def i_bagOf_C (f : FuncId) (ds : List D) : Orc := .no
def i_bagOf_A (list : List Int) : Ann := .two (.none) (.two (.none) (.two (.two (.none) (.loop (cut2 (fun (out : Int) (i : Int) => i_bagOf_JJ0 list out i) (fun (out : Int) (i : Int) => [(3, .d true (.int .u64 out)), (6, .d false (.sl (.ints list))), (7, .d true (.int .i64 (list.length : Int))), (8, .d true (.int .i64 i))]) (fun (out : Int) (i : Int) => [])) (fun g => i_bagOf_mJ0 list g.1 g.2) (fun _ => .none))) (.none)))
def i_bagOf_P (list : List Int) : Prop :=
  ((∃ out' : Int, ∃ i' : Int, (i_bagOf_JJ0 list out' i') ∧ ((0 : Int) = out') ∧ (list = list) ∧ ((list.length : Int) = (list.length : Int)) ∧ ((0 : Int) = i')) ∧ (∀ out : Int, ∀ i : Int, (i_bagOf_JJ0 list out i) → (((decide (i < (list.length : Int))) = true → ((0 : Int) ≤ i) ∧ ((i : Int) < list.length) ∧ (i.toNat < list.length) ∧ ((0 : Int) ≤ 1) ∧ ((0 : Int) ≤ (list.getD i.toNat 0)) ∧ ((0 : Int) ≤ ((1 : Int) * 2 ^ ((list.getD i.toNat 0).toNat)) ∧ (((1 : Int) * 2 ^ ((list.getD i.toNat 0).toNat)) : Int) ≤ 18446744073709551615) ∧ ((0 : Int) ≤ out ∧ (out : Int) ≤ 18446744073709551615) ∧ ((0 : Int) ≤ ((1 : Int) * 2 ^ ((list.getD i.toNat 0).toNat)) ∧ (((1 : Int) * 2 ^ ((list.getD i.toNat 0).toNat)) : Int) ≤ 18446744073709551615) ∧ (-9223372036854775808 ≤ (i + 1) ∧ (i + 1) ≤ 9223372036854775807) ∧ (∃ out' : Int, ∃ i' : Int, (i_bagOf_JJ0 list out' i') ∧ (i_bagOf_mJ0 list out' i' < i_bagOf_mJ0 list out i) ∧ (((out.toNat ||| ((1 : Int) * 2 ^ ((list.getD i.toNat 0).toNat)).toNat : Nat) : Int) = out') ∧ (list = list) ∧ ((list.length : Int) = (list.length : Int)) ∧ ((i + 1) = i'))) ∧ ((decide (i < (list.length : Int))) = false → ((out = ((bagN list : Nat) : Int)))))))
theorem i_bagOf_vc (list : List Int) (hb : ∀ x ∈ list, 0 ≤ x ∧ x < 62) (w_list : (list.length : Int) ≤ 9223372036854775807) : i_bagOf_P list := by
  unfold i_bagOf_P
  have lt := bagTo_lt (m := 62) hb
  have he : (2 : Nat) ^ 62 = 4611686018427387904 := by decide
  refine ⟨?_, ?_⟩
  ·refine ⟨0, 0, ?_⟩
   refine ⟨?_, rfl, rfl, rfl, rfl⟩
   ·refine ⟨?_, ?_, ?_⟩
    ·omega
    ·omega
    ·rfl
  ·intro out i hJ
   obtain ⟨h1, h2, h3⟩ := hJ
   refine ⟨?_, ?_⟩
   ·intro b1
    try simp only [nrmT] at b1
    refine ⟨?_, ?_, ?_, ?_, ?_, ?_, ?_, ?_, ?_, ?_⟩
    ·omega
    ·omega
    ·omega
    ·omega
    ·have := hb _ (getD_memI (d := 0) h1 (by omega))
     omega
    ·have h7 := hb _ (getD_memI (d := 0) h1 (by omega))
     have h8 := pow_le (x := list.getD i.toNat 0) (m := 62) (by omega)
     rw [he] at h8
     omega
    ·have := lt i.toNat (by omega)
     omega
    ·have h7 := hb _ (getD_memI (d := 0) h1 (by omega))
     have h8 := pow_le (x := list.getD i.toNat 0) (m := 62) (by omega)
     rw [he] at h8
     omega
    ·omega
    ·refine ⟨((out.toNat ||| ((1 : Int) * 2 ^ ((list.getD i.toNat 0).toNat)).toNat : Nat) : Int), (i + 1), ?_⟩
     refine ⟨?_, ?_, rfl, rfl, rfl, rfl⟩
     ·refine ⟨?_, ?_, ?_⟩
      ·omega
      ·omega
      ·have e : (i + 1).toNat = i.toNat + 1 := by omega
       rw [one_pow, h3, Int.toNat_natCast, e]
       rfl
     ·first | (show _ < _; omega) | (simp only [i_bagOf_mJ0]; omega) | (simp only [i_bagOf_mJ0] at *; simp at *; omega)
   ·intro b2
    try simp only [nrmT] at b2
    rw [h3]
    unfold bagN
    rw [show i.toNat = list.length by omega]
theorem i_bagOf_pc (list : List Int) (hb : ∀ x ∈ list, 0 ≤ x ∧ x < 62) : PC Try.prog 194 [.sl (.ints list)] (.one (.d (.int .u64 ((bagN list : Nat) : Int)))) :=
  pc_wf @Try.call194 fun hw => pc_by (by kernel_rfl) Try.func194 @Try.call194 (by kernel_rfl) i_bagOf_C (i_bagOf_A list) (by kernel_rfl) (i_bagOf_vc list hb hw.1) (by kernel_rfl)
def i_bagOf_orc : List D → Orc := orcN [some .ints] fun ds => match ds with
  | [.sl (.ints list)] => some (.one (.d (.int .u64 ((bagN list : Nat) : Int))))
  | _ => none
def i_bag_has_C (f : FuncId) (ds : List D) : Orc := .no
def i_bag_has_A (b : Int) (x : Int) : Ann := .none
def i_bag_has_P (b : Int) (x : Int) : Prop :=
  ((0 : Int) ≤ b ∧ (b : Int) ≤ 18446744073709551615) ∧ ((0 : Int) ≤ x) ∧ ((0 : Int) ≤ (b / 2 ^ x.toNat) ∧ ((b / 2 ^ x.toNat) : Int) ≤ 18446744073709551615) ∧ ((0 : Int) ≤ 1 ∧ (1 : Int) ≤ 18446744073709551615) ∧ ((((((b / 2 ^ x.toNat).toNat &&& 1 : Nat) : Int) == 1) = (b.toNat.testBit x.toNat)))
theorem i_bag_has_vc (b : Int) (x : Int) (hb : 0 ≤ b ∧ b ≤ 4611686018427387903) (hx : 0 ≤ x)  : i_bag_has_P b x := by
  unfold i_bag_has_P
  refine ⟨?_, ?_, ?_, ?_, ?_⟩
  ·omega
  ·omega
  ·have h1 : 0 ≤ b / 2 ^ x.toNat := Int.ediv_nonneg hb.1 (Int.le_of_lt (Int.pow_pos (by omega)))
   have h2 : b / 2 ^ x.toNat ≤ b := Int.ediv_le_self _ hb.1
   omega
  ·omega
  ·have e : b = ((b.toNat : Nat) : Int) := by omega
   have h := shr_bit (n := b.toNat) (k := x.toNat)
   rw [← e] at h
   rw [h]
   cases b.toNat.testBit x.toNat <;> rfl
theorem i_bag_has_pc (b : Int) (x : Int) (hb : 0 ≤ b ∧ b ≤ 4611686018427387903) (hx : 0 ≤ x) : PC Try.prog 226 [.int .u64 b, .int .i64 x] (.one (.d (.bool (b.toNat.testBit x.toNat)))) :=
  pc_wf @Try.call226 fun _ => pc_by (by kernel_rfl) Try.func226 @Try.call226 (by kernel_rfl) i_bag_has_C (i_bag_has_A b x) (by kernel_rfl) (i_bag_has_vc b x hb hx) (by kernel_rfl)
def i_bag_has_orc : List D → Orc := orcN [none, none] fun ds => match ds with
  | [.int .u64 b, .int .i64 x] => some (.one (.d (.bool (b.toNat.testBit x.toNat))))
  | _ => none
def covTo (Sets : List (List Int)) (choice : List Int) (i : Nat) : Nat := foldTo (fun s k => s ||| bagN (Sets.getD (choice.getD k 0).toNat [])) 0 i
def covB (Sets : List (List Int)) (choice : List Int) (x : Nat) : Bool := choice.any fun c => (Sets.getD c.toNat []).contains (x : Int)
def coverB (Size : Int) (Sets : List (List Int)) (choice : List Int) : Bool := allTo (covB Sets choice) Size.toNat
theorem rising_mem {xs : List Int} {lo hi : Int} (h : rising xs lo hi = true) : ∀ x ∈ xs, lo ≤ x ∧ x ≤ hi := by
  intro x hx
  obtain ⟨k, hk, rfl⟩ := List.mem_iff_getElem.1 hx
  have := rising_at h k hk
  simp [hk] at this
  omega
theorem set_mem {Size : Int} {Sets : List (List Int)} {Costs : List Int} (h : goodSys Size Sets Costs = true) {k : Nat} (hk : k < Sets.length) : ∀ x ∈ Sets.getD k [], 0 ≤ x ∧ x < 8 := by
  intro x hx
  have h1 := rising_mem (gs_set h hk) x hx
  have h2 := gs_facts h
  omega
theorem set_memS {Size : Int} {Sets : List (List Int)} {Costs : List Int} (h : goodSys Size Sets Costs = true) {k : Nat} (hk : k < Sets.length) : ∀ x ∈ Sets.getD k [], 0 ≤ x ∧ x < (Size.toNat : Int) := by
  intro x hx
  have h1 := rising_mem (gs_set h hk) x hx
  have h2 := gs_facts h
  omega
theorem covTo_bit {Size : Int} {Sets : List (List Int)} {Costs choice : List Int} (h : goodSys Size Sets Costs = true) (hc : rising choice 0 ((Sets.length : Int) - 1) = true) {x : Nat} : ∀ k, k ≤ choice.length →
    ((covTo Sets choice k).testBit x = true ↔ ∃ j, j < k ∧ (x : Int) ∈ Sets.getD (choice.getD j 0).toNat [])
  | 0, _ => by simp [covTo, foldTo]
  | k + 1, hk => by
    have e : covTo Sets choice (k + 1) = covTo Sets choice k ||| bagN (Sets.getD (choice.getD k 0).toNat []) := rfl
    have h1 := rising_at hc k (by omega)
    rw [e, Nat.testBit_or, Bool.or_eq_true, covTo_bit h hc k (by omega), bagN_bit (fun y hy => (set_mem h (k := (choice.getD k 0).toNat) (by omega) y hy).1), List.contains_iff_mem]
    constructor
    · rintro (⟨j, h1, h2⟩ | h)
      · exact ⟨j, by omega, h2⟩
      · exact ⟨k, by omega, h⟩
    · rintro ⟨j, h1, h2⟩
      by_cases e : j = k
      · subst e; exact .inr h2
      · exact .inl ⟨j, by omega, h2⟩
theorem covB_iff {Sets : List (List Int)} {choice : List Int} {x : Nat} : covB Sets choice x = true ↔ ∃ j, j < choice.length ∧ (x : Int) ∈ Sets.getD (choice.getD j 0).toNat [] := by
  unfold covB
  rw [List.any_eq_true]
  constructor
  · rintro ⟨c, hc, hx⟩
    rw [List.contains_iff_mem] at hx
    obtain ⟨j, hj, rfl⟩ := List.mem_iff_getElem.1 hc
    exact ⟨j, hj, by simpa [hj] using hx⟩
  · rintro ⟨j, hj, hx⟩
    exact ⟨_, getD_mem (d := 0) hj, by rw [List.contains_iff_mem]; exact hx⟩
theorem covN_bit {Size : Int} {Sets : List (List Int)} {Costs choice : List Int} (h : goodSys Size Sets Costs = true) (hc : rising choice 0 ((Sets.length : Int) - 1) = true) (x : Nat) : (covTo Sets choice choice.length).testBit x = covB Sets choice x := by
  rw [Bool.eq_iff_iff, covTo_bit h hc _ (Nat.le_refl _), covB_iff]
theorem covTo_lt {Size : Int} {Sets : List (List Int)} {Costs choice : List Int} (h : goodSys Size Sets Costs = true) (hc : rising choice 0 ((Sets.length : Int) - 1) = true) : ∀ k, k ≤ choice.length → covTo Sets choice k < 2 ^ Size.toNat
  | 0, _ => Nat.two_pow_pos _
  | k + 1, hk => by
    have e : covTo Sets choice (k + 1) = covTo Sets choice k ||| bagN (Sets.getD (choice.getD k 0).toNat []) := rfl
    rw [e]
    have h1 := rising_at hc k (by omega)
    exact Nat.or_lt_two_pow (covTo_lt h hc k (by omega)) (bagN_lt (m := Size.toNat) fun y hy => set_memS h (k := (choice.getD k 0).toNat) (by omega) y hy)
theorem pow8 {n : Nat} (h : n ≤ 8) : (2 : Nat) ^ n ≤ 256 := Nat.le_trans (Nat.pow_le_pow_right (by omega) h) (by decide)
abbrev i_System_covered_JJ0 (Size : Int) (Sets : List (List Int)) (Costs : List Int) (choice : List Int) (out : Int) (i : Int) : Prop := (0 ≤ i) ∧ (i ≤ (choice.length : Int)) ∧ (out = ((covTo Sets choice i.toNat : Nat) : Int))
abbrev i_System_covered_mJ0 (Size : Int) (Sets : List (List Int)) (Costs : List Int) (choice : List Int) (out : Int) (i : Int) : Nat := (choice.length - i).toNat
def i_System_covered_C (f : FuncId) (ds : List D) : Orc := bif Nat.beq f 194 then i_bagOf_orc ds else .no
def i_System_covered_A (Size : Int) (Sets : List (List Int)) (Costs : List Int) (choice : List Int) : Ann := .two (.none) (.two (.none) (.two (.two (.none) (.loop (cut2 (fun (out : Int) (i : Int) => i_System_covered_JJ0 Size Sets Costs choice out i) (fun (out : Int) (i : Int) => [(2, .ptr 2 0), (5, .d true (.int .u64 out)), (8, .d false (.sl (.ints choice))), (9, .d true (.int .i64 (choice.length : Int))), (10, .d true (.int .i64 i))]) (fun (out : Int) (i : Int) => [(2, .box 36 [.d false (.int .i64 Size), .d false (.sl (.rows Sets)), .d false (.sl (.ints Costs))])])) (fun g => i_System_covered_mJ0 Size Sets Costs choice g.1 g.2) (fun _ => .none))) (.none)))
def i_System_covered_P (Size : Int) (Sets : List (List Int)) (Costs : List Int) (choice : List Int) : Prop :=
  ((∃ out' : Int, ∃ i' : Int, (i_System_covered_JJ0 Size Sets Costs choice out' i') ∧ ((0 : Int) = out') ∧ (choice = choice) ∧ ((choice.length : Int) = (choice.length : Int)) ∧ ((0 : Int) = i') ∧ (Size = Size) ∧ (Sets = Sets) ∧ (Costs = Costs)) ∧ (∀ out : Int, ∀ i : Int, (i_System_covered_JJ0 Size Sets Costs choice out i) → (((decide (i < (choice.length : Int))) = true → ((0 : Int) ≤ i) ∧ ((i : Int) < choice.length) ∧ (i.toNat < choice.length) ∧ ((0 : Int) ≤ (choice.getD i.toNat 0)) ∧ (((choice.getD i.toNat 0) : Int) < Sets.length) ∧ ((choice.getD i.toNat 0).toNat < Sets.length) ∧ (PC Try.prog 194 [.sl (.ints (Sets.getD ((choice.getD i.toNat 0).toNat) []))] (.one (.d (.int .u64 ((bagN (Sets.getD ((choice.getD i.toNat 0).toNat) []) : Nat) : Int))))) ∧ ((0 : Int) ≤ out ∧ (out : Int) ≤ 18446744073709551615) ∧ ((0 : Int) ≤ ((bagN (Sets.getD ((choice.getD i.toNat 0).toNat) []) : Nat) : Int) ∧ (((bagN (Sets.getD ((choice.getD i.toNat 0).toNat) []) : Nat) : Int) : Int) ≤ 18446744073709551615) ∧ (-9223372036854775808 ≤ (i + 1) ∧ (i + 1) ≤ 9223372036854775807) ∧ (∃ out' : Int, ∃ i' : Int, (i_System_covered_JJ0 Size Sets Costs choice out' i') ∧ (i_System_covered_mJ0 Size Sets Costs choice out' i' < i_System_covered_mJ0 Size Sets Costs choice out i) ∧ (((out.toNat ||| ((bagN (Sets.getD ((choice.getD i.toNat 0).toNat) []) : Nat) : Int).toNat : Nat) : Int) = out') ∧ (choice = choice) ∧ ((choice.length : Int) = (choice.length : Int)) ∧ ((i + 1) = i') ∧ (Size = Size) ∧ (Sets = Sets) ∧ (Costs = Costs))) ∧ ((decide (i < (choice.length : Int))) = false → ((out = ((covTo Sets choice choice.length : Nat) : Int)))))))
theorem i_System_covered_vc (Size : Int) (Sets : List (List Int)) (Costs : List Int) (choice : List Int) (hg : goodSys Size Sets Costs = true) (hc : rising choice 0 ((Sets.length : Int) - 1) = true) (w_Sets : (Sets.length : Int) ≤ 9223372036854775807) (v_Sets : ∀ x9 ∈ Sets, (x9.length : Int) ≤ 9223372036854775807) (w_Costs : (Costs.length : Int) ≤ 9223372036854775807) (w_choice : (choice.length : Int) ≤ 9223372036854775807) : i_System_covered_P Size Sets Costs choice := by
  unfold i_System_covered_P
  have gf := gs_facts hg
  have cl := rising_len hc (by omega)
  have ca := fun k => rising_at hc k
  have lt := covTo_lt hg hc
  have p8 := pow8 (n := Size.toNat) (by omega)
  refine ⟨?_, ?_⟩
  ·refine ⟨0, 0, ?_⟩
   refine ⟨?_, rfl, rfl, rfl, rfl, rfl, rfl, rfl⟩
   ·refine ⟨?_, ?_, ?_⟩
    ·omega
    ·omega
    ·rfl
  ·intro out i hJ
   obtain ⟨h1, h2, h3⟩ := hJ
   refine ⟨?_, ?_⟩
   ·intro b1
    try simp only [nrmT] at b1
    refine ⟨?_, ?_, ?_, ?_, ?_, ?_, ?_, ?_, ?_, ?_, ?_⟩
    ·omega
    ·omega
    ·omega
    ·have := ca i.toNat (by omega)
     omega
    ·have := ca i.toNat (by omega)
     omega
    ·have := ca i.toNat (by omega)
     omega
    ·refine i_bagOf_pc (Sets.getD ((choice.getD i.toNat 0).toNat) []) ?_
     ·have h7 := ca i.toNat (by omega)
      intro x hx
      have := set_mem hg (k := (choice.getD i.toNat 0).toNat) (by omega) x hx
      omega
    ·have := lt i.toNat (by omega)
     omega
    ·have h7 := ca i.toNat (by omega)
     have h8 := bagN_lt (m := 8) (list := Sets.getD (choice.getD i.toNat 0).toNat []) fun y hy => set_mem hg (by omega) y hy
     have he : (2 : Nat) ^ 8 = 256 := by decide
     omega
    ·omega
    ·refine ⟨((out.toNat ||| ((bagN (Sets.getD ((choice.getD i.toNat 0).toNat) []) : Nat) : Int).toNat : Nat) : Int), (i + 1), ?_⟩
     refine ⟨?_, ?_, rfl, rfl, rfl, rfl, rfl, rfl, rfl⟩
     ·refine ⟨?_, ?_, ?_⟩
      ·omega
      ·omega
      ·have e : (i + 1).toNat = i.toNat + 1 := by omega
       rw [h3, Int.toNat_natCast, Int.toNat_natCast, e]
       rfl
     ·first | (show _ < _; omega) | (simp only [i_System_covered_mJ0]; omega) | (simp only [i_System_covered_mJ0] at *; simp at *; omega)
   ·intro b2
    try simp only [nrmT] at b2
    rw [h3]
    rw [show i.toNat = choice.length by omega]
theorem i_System_covered_pc (Size : Int) (Sets : List (List Int)) (Costs : List Int) (choice : List Int) (hg : goodSys Size Sets Costs = true) (hc : rising choice 0 ((Sets.length : Int) - 1) = true) : PC Try.prog 187 [.agg [.int .i64 Size, .sl (.rows Sets), .sl (.ints Costs)], .sl (.ints choice)] (.one (.d (.int .u64 ((covTo Sets choice choice.length : Nat) : Int)))) :=
  pc_wf @Try.call187 fun hw => pc_by (by kernel_rfl) Try.func187 @Try.call187 (by kernel_rfl) i_System_covered_C (i_System_covered_A Size Sets Costs choice) (by kernel_rfl) (i_System_covered_vc Size Sets Costs choice hg hc hw.1.2.1.1 hw.1.2.1.2 hw.1.2.2.1 hw.2.1) (by kernel_rfl)
def i_System_covered_orc : List D → Orc := orcN [none, some .ints] fun ds => match ds with
  | [.agg [.int .i64 Size, .sl (.rows Sets), .sl (.ints Costs)], .sl (.ints choice)] => some (.one (.d (.int .u64 ((covTo Sets choice choice.length : Nat) : Int))))
  | _ => none
def i_System_all_C (f : FuncId) (ds : List D) : Orc := .no
def i_System_all_A (Size : Int) (Sets : List (List Int)) (Costs : List Int) : Ann := .none
def i_System_all_P (Size : Int) (Sets : List (List Int)) (Costs : List Int) : Prop :=
  ((0 : Int) ≤ 1) ∧ ((0 : Int) ≤ Size) ∧ ((0 : Int) ≤ ((1 : Int) * 2 ^ Size.toNat) ∧ (((1 : Int) * 2 ^ Size.toNat) : Int) ≤ 18446744073709551615) ∧ (0 ≤ (((1 : Int) * 2 ^ Size.toNat) - 1) ∧ (((1 : Int) * 2 ^ Size.toNat) - 1) ≤ 18446744073709551615) ∧ (((((1 : Int) * 2 ^ Size.toNat) - 1) = ((2 ^ Size.toNat - 1 : Nat) : Int)))
theorem i_System_all_vc (Size : Int) (Sets : List (List Int)) (Costs : List Int) (hg : 0 ≤ Size ∧ Size ≤ 8) (w_Sets : (Sets.length : Int) ≤ 9223372036854775807) (v_Sets : ∀ x9 ∈ Sets, (x9.length : Int) ≤ 9223372036854775807) (w_Costs : (Costs.length : Int) ≤ 9223372036854775807) : i_System_all_P Size Sets Costs := by
  unfold i_System_all_P
  have p8 := pow8 (n := Size.toNat) (by omega)
  have h7 := pow_le (x := Size) (m := 8) (by omega)
  have h8 := one_pow (x := Size)
  have h9 := Nat.two_pow_pos Size.toNat
  have he : (2 : Nat) ^ 8 = 256 := by decide
  refine ⟨?_, ?_, ?_, ?_, ?_⟩
  ·omega
  ·omega
  ·omega
  ·omega
  ·omega
theorem i_System_all_pc (Size : Int) (Sets : List (List Int)) (Costs : List Int) (hg : 0 ≤ Size ∧ Size ≤ 8) : PC Try.prog 222 [.agg [.int .i64 Size, .sl (.rows Sets), .sl (.ints Costs)]] (.one (.d (.int .u64 ((2 ^ Size.toNat - 1 : Nat) : Int)))) :=
  pc_wf @Try.call222 fun hw => pc_by (by kernel_rfl) Try.func222 @Try.call222 (by kernel_rfl) i_System_all_C (i_System_all_A Size Sets Costs) (by kernel_rfl) (i_System_all_vc Size Sets Costs hg hw.1.2.1.1 hw.1.2.1.2 hw.1.2.2.1) (by kernel_rfl)
def i_System_all_orc : List D → Orc := orcN [none] fun ds => match ds with
  | [.agg [.int .i64 Size, .sl (.rows Sets), .sl (.ints Costs)]] => some (.one (.d (.int .u64 ((2 ^ Size.toNat - 1 : Nat) : Int))))
  | _ => none
def i_System_isCover_C (f : FuncId) (ds : List D) : Orc := bif Nat.beq f 187 then i_System_covered_orc ds else bif Nat.beq f 222 then i_System_all_orc ds else .no
def i_System_isCover_A (Size : Int) (Sets : List (List Int)) (Costs : List Int) (choice : List Int) : Ann := .none
def i_System_isCover_P (Size : Int) (Sets : List (List Int)) (Costs : List Int) (choice : List Int) : Prop :=
  (true = true) ∧ (PC Try.prog 187 [.agg [.int .i64 Size, .sl (.rows Sets), .sl (.ints Costs)], .sl (.ints choice)] (.one (.d (.int .u64 ((covTo Sets choice choice.length : Nat) : Int))))) ∧ (PC Try.prog 222 [.agg [.int .i64 Size, .sl (.rows Sets), .sl (.ints Costs)]] (.one (.d (.int .u64 ((2 ^ Size.toNat - 1 : Nat) : Int))))) ∧ (((((covTo Sets choice choice.length : Nat) : Int) == ((2 ^ Size.toNat - 1 : Nat) : Int)) = (coverB Size Sets choice)))
theorem i_System_isCover_vc (Size : Int) (Sets : List (List Int)) (Costs : List Int) (choice : List Int) (hg : goodSys Size Sets Costs = true) (hc : rising choice 0 ((Sets.length : Int) - 1) = true) (w_Sets : (Sets.length : Int) ≤ 9223372036854775807) (v_Sets : ∀ x9 ∈ Sets, (x9.length : Int) ≤ 9223372036854775807) (w_Costs : (Costs.length : Int) ≤ 9223372036854775807) (w_choice : (choice.length : Int) ≤ 9223372036854775807) : i_System_isCover_P Size Sets Costs choice := by
  unfold i_System_isCover_P
  have gf := gs_facts hg
  have cl := rising_len hc (by omega)
  have ca := fun k => rising_at hc k
  have lt := covTo_lt hg hc
  have p8 := pow8 (n := Size.toNat) (by omega)
  refine ⟨rfl, ?_, ?_, ?_⟩
  ·refine i_System_covered_pc Size Sets Costs choice ?_ ?_
   ·omega
   ·omega
  ·refine i_System_all_pc Size Sets Costs ?_
   ·omega
  ·have h1 := covTo_lt hg hc choice.length (Nat.le_refl _)
   have h2 := all_bits h1
   unfold coverB
   rw [← allTo_congr (p := fun x => (covTo Sets choice choice.length).testBit x) (q := covB Sets choice) (fun x _ => covN_bit hg hc x), Bool.eq_iff_iff, ← h2]
   simp only [beq_iff_eq]
   omega
theorem i_System_isCover_pc (Size : Int) (Sets : List (List Int)) (Costs : List Int) (choice : List Int) (hg : goodSys Size Sets Costs = true) (hc : rising choice 0 ((Sets.length : Int) - 1) = true) : PC Try.prog 166 [.agg [.int .i64 Size, .sl (.rows Sets), .sl (.ints Costs)], .sl (.ints choice)] (.one (.d (.bool (coverB Size Sets choice)))) :=
  pc_wf @Try.call166 fun hw => pc_by (by kernel_rfl) Try.func166 @Try.call166 (by kernel_rfl) i_System_isCover_C (i_System_isCover_A Size Sets Costs choice) (by kernel_rfl) (i_System_isCover_vc Size Sets Costs choice hg hc hw.1.2.1.1 hw.1.2.1.2 hw.1.2.2.1 hw.2.1) (by kernel_rfl)
def i_System_isCover_orc : List D → Orc := orcN [none, some .ints] fun ds => match ds with
  | [.agg [.int .i64 Size, .sl (.rows Sets), .sl (.ints Costs)], .sl (.ints choice)] => some (.one (.d (.bool (coverB Size Sets choice))))
  | _ => none
def i_IsCover_C (f : FuncId) (ds : List D) : Orc := bif Nat.beq f 183 then i_isChoice_orc ds else bif Nat.beq f 166 then i_System_isCover_orc ds else .no
def i_IsCover_A (Size : Int) (Sets : List (List Int)) (Costs : List Int) (choice : List Int) : Ann := .none
def i_IsCover_P (Size : Int) (Sets : List (List Int)) (Costs : List Int) (choice : List Int) : Prop :=
  (PC Try.prog 183 [.agg [.int .i64 Size, .sl (.rows Sets), .sl (.ints Costs)], .sl (.ints choice)] (.one (.d (.bool (goodSys Size Sets Costs && rising choice 0 ((Sets.length : Int) - 1)))))) ∧ (((!(goodSys Size Sets Costs && rising choice 0 ((Sets.length : Int) - 1))) = true → ((false = ((goodSys Size Sets Costs && rising choice 0 ((Sets.length : Int) - 1)) && coverB Size Sets choice)) ∧ (false = (goodSys Size Sets Costs && rising choice 0 ((Sets.length : Int) - 1))))) ∧ ((!(goodSys Size Sets Costs && rising choice 0 ((Sets.length : Int) - 1))) = false → (PC Try.prog 166 [.agg [.int .i64 Size, .sl (.rows Sets), .sl (.ints Costs)], .sl (.ints choice)] (.one (.d (.bool (coverB Size Sets choice))))) ∧ (((coverB Size Sets choice) = ((goodSys Size Sets Costs && rising choice 0 ((Sets.length : Int) - 1)) && coverB Size Sets choice)) ∧ (true = (goodSys Size Sets Costs && rising choice 0 ((Sets.length : Int) - 1))))))
theorem i_IsCover_vc (Size : Int) (Sets : List (List Int)) (Costs : List Int) (choice : List Int)  (w_Sets : (Sets.length : Int) ≤ 9223372036854775807) (v_Sets : ∀ x9 ∈ Sets, (x9.length : Int) ≤ 9223372036854775807) (w_Costs : (Costs.length : Int) ≤ 9223372036854775807) (w_choice : (choice.length : Int) ≤ 9223372036854775807) : i_IsCover_P Size Sets Costs choice := by
  unfold i_IsCover_P
  refine ⟨i_isChoice_pc Size Sets Costs choice, ?_, ?_⟩
  ·intro b1
   try simp only [Bool.not_eq_true', Bool.not_eq_false', Bool.not_not] at b1
   refine ⟨?_, ?_⟩
   ·have hq : (goodSys Size Sets Costs && rising choice 0 ((Sets.length : Int) - 1)) = false := by
      revert b1; cases goodSys Size Sets Costs <;> cases rising choice 0 ((Sets.length : Int) - 1) <;> simp
    rw [hq]; rfl
   ·have hq : (goodSys Size Sets Costs && rising choice 0 ((Sets.length : Int) - 1)) = false := by
      revert b1; cases goodSys Size Sets Costs <;> cases rising choice 0 ((Sets.length : Int) - 1) <;> simp
    exact hq.symm
  ·intro b2
   try simp only [Bool.not_eq_true', Bool.not_eq_false', Bool.not_not] at b2
   refine ⟨?_, ?_, ?_⟩
   ·refine i_System_isCover_pc Size Sets Costs choice ?_ ?_
    ·have hq : goodSys Size Sets Costs = true ∧ rising choice 0 ((Sets.length : Int) - 1) = true := by
       revert b2; cases goodSys Size Sets Costs <;> cases rising choice 0 ((Sets.length : Int) - 1) <;> simp
     exact hq.1
    ·have hq : goodSys Size Sets Costs = true ∧ rising choice 0 ((Sets.length : Int) - 1) = true := by
       revert b2; cases goodSys Size Sets Costs <;> cases rising choice 0 ((Sets.length : Int) - 1) <;> simp
     exact hq.2
   ·have hq : goodSys Size Sets Costs = true ∧ rising choice 0 ((Sets.length : Int) - 1) = true := by
      revert b2; cases goodSys Size Sets Costs <;> cases rising choice 0 ((Sets.length : Int) - 1) <;> simp
    rw [hq.1, hq.2]; rfl
   ·have hq : goodSys Size Sets Costs = true ∧ rising choice 0 ((Sets.length : Int) - 1) = true := by
      revert b2; cases goodSys Size Sets Costs <;> cases rising choice 0 ((Sets.length : Int) - 1) <;> simp
    rw [hq.1, hq.2]; rfl
theorem i_IsCover_pc (Size : Int) (Sets : List (List Int)) (Costs : List Int) (choice : List Int)  : PC Try.prog 94 [.agg [.int .i64 Size, .sl (.rows Sets), .sl (.ints Costs)], .sl (.ints choice)] (.tup [.d (.bool ((goodSys Size Sets Costs && rising choice 0 ((Sets.length : Int) - 1)) && coverB Size Sets choice)), .d (.bool (goodSys Size Sets Costs && rising choice 0 ((Sets.length : Int) - 1)))]) :=
  pc_wf @Try.call94 fun hw => pc_by (by kernel_rfl) Try.func94 @Try.call94 (by kernel_rfl) i_IsCover_C (i_IsCover_A Size Sets Costs choice) (by kernel_rfl) (i_IsCover_vc Size Sets Costs choice hw.1.2.1.1 hw.1.2.1.2 hw.1.2.2.1 hw.2.1) (by kernel_rfl)
def i_IsCover_orc : List D → Orc := orcN [none, some .ints] fun ds => match ds with
  | [.agg [.int .i64 Size, .sl (.rows Sets), .sl (.ints Costs)], .sl (.ints choice)] => some (.tup [.d (.bool ((goodSys Size Sets Costs && rising choice 0 ((Sets.length : Int) - 1)) && coverB Size Sets choice)), .d (.bool (goodSys Size Sets Costs && rising choice 0 ((Sets.length : Int) - 1)))])
  | _ => none
abbrev s_l1Put_JJ0 (l : List Int) (n : Int) (k : Int) : Prop := (0 ≤ k) ∧ (k ≤ (l.length : Int)) ∧ (∀ j, j < k.toNat → l.getD j 0 < n)
abbrev s_l1Put_mJ0 (l : List Int) (n : Int) (k : Int) : Nat := (l.length - k).toNat
def s_l1Put_C (f : FuncId) (ds : List D) : Orc := .no
def s_l1Put_A (l : List Int) (n : Int) : Ann := .two (.none) (.two (.none) (.two (.loop (cut1 (fun (k : Int) => s_l1Put_JJ0 l n k) (fun (k : Int) => [(0, .d true (.sl (.ints l))), (1, .d false (.int .i64 n)), (5, .d true (.int .i64 k))]) (fun (k : Int) => [])) (fun g => s_l1Put_mJ0 l n g) (fun _ => .none)) (.two (.none) (.two (.reg [(6, .frz)]) (.none)))))
def s_l1Put_P (l : List Int) (n : Int) : Prop :=
  ((∃ k' : Int, (s_l1Put_JJ0 l n k') ∧ (l = l) ∧ (n = n) ∧ ((0 : Int) = k')) ∧ (∀ k : Int, (s_l1Put_JJ0 l n k) → ((decide (k < (l.length : Int))) = true → (decide (k < (l.length : Int))) = true) ∧ ((decide (k < (l.length : Int))) = true → (decide (k < (l.length : Int))) = true) ∧ (((decide (k < (l.length : Int))) = true → (0 : Int) ≤ k)) ∧ (((decide (k < (l.length : Int))) = true → (k : Int) < l.length)) ∧ ((decide (k < (l.length : Int))) = true → (decide (k < (l.length : Int))) = true) ∧ (((decide (k < (l.length : Int))) = true → k.toNat < l.length)) ∧ ((decide (k < (l.length : Int))) = true → (decide (k < (l.length : Int))) = true) ∧ ((decide (k < (l.length : Int))) = true → (decide (k < (l.length : Int))) = true) ∧ (true = true) ∧ (((decide (k < (l.length : Int))) = true → (decide (k < (l.length : Int))) = true)) ∧ (((decide (k < (l.length : Int))) = false → true = true)) ∧ (((cond (decide (k < (l.length : Int))) (decide ((l.getD k.toNat 0) < n)) false) = true → (-9223372036854775808 ≤ (k + 1) ∧ (k + 1) ≤ 9223372036854775807) ∧ (∃ k' : Int, (s_l1Put_JJ0 l n k') ∧ (s_l1Put_mJ0 l n k' < s_l1Put_mJ0 l n k) ∧ (l = l) ∧ (n = n) ∧ ((k + 1) = k'))) ∧ ((cond (decide (k < (l.length : Int))) (decide ((l.getD k.toNat 0) < n)) false) = false → ((decide (k < (l.length : Int))) = true → (decide (k < (l.length : Int))) = true) ∧ ((decide (k < (l.length : Int))) = true → (decide (k < (l.length : Int))) = true) ∧ (((decide (k < (l.length : Int))) = true → (0 : Int) ≤ k)) ∧ (((decide (k < (l.length : Int))) = true → (k : Int) < l.length)) ∧ ((decide (k < (l.length : Int))) = true → (decide (k < (l.length : Int))) = true) ∧ (((decide (k < (l.length : Int))) = true → k.toNat < l.length)) ∧ ((decide (k < (l.length : Int))) = true → (decide (k < (l.length : Int))) = true) ∧ ((decide (k < (l.length : Int))) = true → (decide (k < (l.length : Int))) = true) ∧ (true = true) ∧ (((decide (k < (l.length : Int))) = true → (decide (k < (l.length : Int))) = true)) ∧ (((decide (k < (l.length : Int))) = false → true = true)) ∧ (((cond (decide (k < (l.length : Int))) ((l.getD k.toNat 0) == n) false) = true → (((l : List Int) = (putL l n)))) ∧ ((cond (decide (k < (l.length : Int))) ((l.getD k.toNat 0) == n) false) = false → (true = true) ∧ ((0 : Int) ≤ k) ∧ ((k : Int) ≤ l.length) ∧ ((0 : Nat) = 0) ∧ (True) ∧ ((0 + ((l.take k.toNat).drop 0).length) * 8 ≤ 140737488355328) ∧ ((0 + ((l.take k.toNat).drop 0).length) = ([] ++ ((l.take k.toNat).drop 0)).length) ∧ (True) ∧ ((([] ++ ((l.take k.toNat).drop 0)).length + 1) * 8 ≤ 140737488355328) ∧ ((0 : Int) ≤ k) ∧ ((k : Int) ≤ l.length) ∧ (((0 + ((l.take k.toNat).drop 0).length) + 1) = (([] ++ ((l.take k.toNat).drop 0)) ++ [n]).length) ∧ (True) ∧ (((([] ++ ((l.take k.toNat).drop 0)) ++ [n]).length + ((l.take l.length).drop k.toNat).length) * 8 ≤ 140737488355328) ∧ (((((0 + ((l.take k.toNat).drop 0).length) + 1) + ((l.take l.length).drop k.toNat).length) = ((([] ++ ((l.take k.toNat).drop 0)) ++ [n]) ++ ((l.take l.length).drop k.toNat)).length) ∧ ((((([] ++ ((l.take k.toNat).drop 0)) ++ [n]) ++ ((l.take l.length).drop k.toNat)) : List Int) = (putL l n)))))))))
theorem s_l1Put_vc (l : List Int) (n : Int) (hl : l.length ≤ 1048576) (w_l : (l.length : Int) ≤ 9223372036854775807) : s_l1Put_P l n := by
  unfold s_l1Put_P
  refine ⟨?_, ?_⟩
  ·refine ⟨0, ?_⟩
   refine ⟨?_, rfl, rfl, rfl⟩
   ·refine ⟨?_, ?_, ?_⟩
    ·omega
    ·omega
    ·omega
  ·intro k hJ
   obtain ⟨h1, h2, h3⟩ := hJ
   refine ⟨id, id, ?_, ?_, id, ?_, id, id, rfl, id, fun _ => rfl, ?_, ?_⟩
   ·omega
   ·(intro hg; simp only [nrmT] at hg; omega)
   ·(intro hg; simp only [nrmT] at hg; omega)
   ·intro b1
    refine ⟨?_, ?_⟩
    ·have h5 : k < (l.length : Int) ∧ l.getD k.toNat 0 < n := by
       revert b1; by_cases h : k < (l.length : Int)
       · rw [decide_eq_true h]; intro g; exact ⟨h, by simpa using g⟩
       · rw [decide_eq_false h]; intro g; cases g
     omega
    ·refine ⟨(k + 1), ?_⟩
     refine ⟨?_, ?_, rfl, rfl, rfl⟩
     ·refine ⟨?_, ?_, ?_⟩
      ·omega
      ·have h5 : k < (l.length : Int) ∧ l.getD k.toNat 0 < n := by
         revert b1; by_cases h : k < (l.length : Int)
         · rw [decide_eq_true h]; intro g; exact ⟨h, by simpa using g⟩
         · rw [decide_eq_false h]; intro g; cases g
       omega
      ·have h5 : k < (l.length : Int) ∧ l.getD k.toNat 0 < n := by
         revert b1; by_cases h : k < (l.length : Int)
         · rw [decide_eq_true h]; intro g; exact ⟨h, by simpa using g⟩
         · rw [decide_eq_false h]; intro g; cases g
       intro j hj
       by_cases e : j = k.toNat
       · rw [e]; exact h5.2
       · exact h3 j (by omega)
     ·have h5 : k < (l.length : Int) ∧ l.getD k.toNat 0 < n := by
        revert b1; by_cases h : k < (l.length : Int)
        · rw [decide_eq_true h]; intro g; exact ⟨h, by simpa using g⟩
        · rw [decide_eq_false h]; intro g; cases g
      first | (show _ < _; omega) | (simp only [s_l1Put_mJ0]; omega) | (simp only [s_l1Put_mJ0] at *; simp at *; omega)
   ·intro b2
    refine ⟨id, id, ?_, ?_, id, ?_, id, id, rfl, id, fun _ => rfl, ?_, ?_⟩
    ·omega
    ·(intro hg; simp only [nrmT] at hg; omega)
    ·(intro hg; simp only [nrmT] at hg; omega)
    ·intro b3
     have h6 : k.toNat < l.length → ¬ l.getD k.toNat 0 < n := by
       intro g1 g2
       rw [decide_eq_true (show k < (l.length : Int) by omega), decide_eq_true g2] at b2
       cases b2
     have h7 : k < (l.length : Int) ∧ l.getD k.toNat 0 = n := by
       revert b3; by_cases h : k < (l.length : Int)
       · rw [decide_eq_true h]; intro g; exact ⟨h, by simpa using g⟩
       · rw [decide_eq_false h]; intro g; cases g
     rw [putL_at l n k.toNat (by omega) h3 h6, if_pos ⟨by omega, h7.2⟩]
    ·intro b4
     refine ⟨rfl, ?_, ?_, rfl, trivial, ?_, ?_, trivial, ?_, ?_, ?_, ?_, trivial, ?_, ?_, ?_⟩
     ·omega
     ·omega
     ·first | (simp only [List.length_append, List.length_take, List.length_drop, List.length_cons, List.length_nil]; done) | (simp only [List.length_append, List.length_take, List.length_drop, List.length_cons, List.length_nil]; omega)
     ·first | (simp only [List.length_append, List.length_take, List.length_drop, List.length_cons, List.length_nil]; done) | (simp only [List.length_append, List.length_take, List.length_drop, List.length_cons, List.length_nil]; omega)
     ·first | (simp only [List.length_append, List.length_take, List.length_drop, List.length_cons, List.length_nil]; done) | (simp only [List.length_append, List.length_take, List.length_drop, List.length_cons, List.length_nil]; omega)
     ·omega
     ·omega
     ·first | (simp only [List.length_append, List.length_take, List.length_drop, List.length_cons, List.length_nil]; done) | (simp only [List.length_append, List.length_take, List.length_drop, List.length_cons, List.length_nil]; omega)
     ·first | (simp only [List.length_append, List.length_take, List.length_drop, List.length_cons, List.length_nil]; done) | (simp only [List.length_append, List.length_take, List.length_drop, List.length_cons, List.length_nil]; omega)
     ·first | (simp only [List.length_append, List.length_take, List.length_drop, List.length_cons, List.length_nil]; done) | (simp only [List.length_append, List.length_take, List.length_drop, List.length_cons, List.length_nil]; omega)
     ·have h6 : k.toNat < l.length → ¬ l.getD k.toNat 0 < n := by
        intro g1 g2
        rw [decide_eq_true (show k < (l.length : Int) by omega), decide_eq_true g2] at b2
        cases b2
      have h7 : ¬ (k.toNat < l.length ∧ l.getD k.toNat 0 = n) := by
        rintro ⟨g1, g2⟩
        rw [decide_eq_true (show k < (l.length : Int) by omega), g2] at b4
        simp at b4
      rw [putL_at l n k.toNat (by omega) h3 h6, if_neg h7]
      simp
theorem s_l1Put_pc (l : List Int) (n : Int) (hl : l.length ≤ 1048576) : PCs Try.prog 202 [.sl (.ints l), .int .i64 n] 0 (.sl (.ints (putL l n))) :=
  pcs_wf @Try.call202 fun hw => pcs_by (by kernel_rfl) Try.func202 @Try.call202 (by kernel_rfl) s_l1Put_C (s_l1Put_A l n) (by kernel_rfl) (s_l1Put_vc l n hl hw.1) (by kernel_rfl)
def s_l1Put_orc : List D → Orc := orcS 0 fun ds => match ds with
  | [.sl (.ints l), .int .i64 n] => some (.sl (.ints (putL l n)))
  | _ => none
theorem getD_get {α : Type} {xs : List α} {k : Nat} {d : α} (h : k < xs.length) : xs.getD k d = xs[k] := by simp [h]
def putAll (l set : List Int) (k : Nat) : List Int := foldTo (fun l j => putL l (set.getD j 0)) l k
def covL (Sets : List (List Int)) (choice : List Int) (i : Nat) : List Int := foldTo (fun l k => putAll l (Sets.getD (choice.getD k 0).toNat []) (Sets.getD (choice.getD k 0).toNat []).length) [] i
theorem mem_putAll {l set : List Int} {y : Int} : ∀ k, k ≤ set.length → (y ∈ putAll l set k ↔ y ∈ l ∨ ∃ j, j < k ∧ set.getD j 0 = y)
  | 0, _ => by simp [putAll, foldTo]
  | k + 1, hk => by
    have e : putAll l set (k + 1) = putL (putAll l set k) (set.getD k 0) := rfl
    rw [e, mem_putL, mem_putAll k (by omega)]
    constructor
    · rintro (h | h | ⟨j, h1, h2⟩)
      · exact .inr ⟨k, by omega, h.symm⟩
      · exact .inl h
      · exact .inr ⟨j, by omega, h2⟩
    · rintro (h | ⟨j, h1, h2⟩)
      · exact .inr (.inl h)
      · by_cases e : j = k
        · subst e; exact .inl h2.symm
        · exact .inr (.inr ⟨j, by omega, h2⟩)
theorem asc_putAll {l set : List Int} (h : Asc l) : ∀ k, Asc (putAll l set k)
  | 0 => h
  | k + 1 => asc_putL (asc_putAll h k)
theorem putAll_len {l set : List Int} : ∀ k, (putAll l set k).length ≤ l.length + k
  | 0 => Nat.le_refl _
  | k + 1 => by
    have := putAll_len (l := l) (set := set) k
    have := putL_len (putAll l set k) (set.getD k 0)
    have e : putAll l set (k + 1) = putL (putAll l set k) (set.getD k 0) := rfl
    rw [e]; omega
theorem mem_covL {Sets : List (List Int)} {choice : List Int} {y : Int} : ∀ i, y ∈ covL Sets choice i ↔ ∃ j, j < i ∧ y ∈ Sets.getD (choice.getD j 0).toNat []
  | 0 => by simp [covL, foldTo]
  | i + 1 => by
    have e : covL Sets choice (i + 1) = putAll (covL Sets choice i) (Sets.getD (choice.getD i 0).toNat []) (Sets.getD (choice.getD i 0).toNat []).length := rfl
    rw [e, mem_putAll _ (Nat.le_refl _), mem_covL i]
    constructor
    · rintro (⟨j, h1, h2⟩ | ⟨j, h1, h2⟩)
      · exact ⟨j, by omega, h2⟩
      · exact ⟨i, by omega, by rw [← h2]; exact getD_mem h1⟩
    · rintro ⟨j, h1, h2⟩
      by_cases e : j = i
      · subst e
        obtain ⟨k, hk, h3⟩ := List.mem_iff_getElem.1 h2
        exact .inr ⟨k, hk, by rw [← h3]; exact getD_get hk⟩
      · exact .inl ⟨j, by omega, h2⟩
theorem asc_covL {Sets : List (List Int)} {choice : List Int} : ∀ i, Asc (covL Sets choice i)
  | 0 => List.Pairwise.nil
  | i + 1 => asc_putAll (asc_covL i) _
theorem covL_members {Size : Int} {Sets : List (List Int)} {Costs choice : List Int} (h : goodSys Size Sets Costs = true) (hc : rising choice 0 ((Sets.length : Int) - 1) = true) : covL Sets choice choice.length = members (covB Sets choice) Size.toNat := by
  refine asc_ext (asc_covL _) (asc_members _ _) fun x => ?_
  rw [mem_covL, mem_members]
  constructor
  · rintro ⟨j, h1, h2⟩
    have h3 := rising_at hc j h1
    have h4 := set_memS h (k := (choice.getD j 0).toNat) (by omega) x h2
    refine ⟨h4.1, h4.2, covB_iff.2 ⟨j, h1, ?_⟩⟩
    rwa [show ((x.toNat : Nat) : Int) = x by omega]
  · rintro ⟨h1, h2, h3⟩
    obtain ⟨j, h4, h5⟩ := covB_iff.1 h3
    exact ⟨j, h4, by rwa [show ((x.toNat : Nat) : Int) = x by omega] at h5⟩
abbrev s_l6Covered_JJ0 (Size : Int) (Sets : List (List Int)) (Costs : List Int) (choice : List Int) (out : List Int) (i : Int) : Prop := (0 ≤ i) ∧ (i ≤ (choice.length : Int)) ∧ (out = covL Sets choice i.toNat) ∧ ((out.length : Int) ≤ 8 * i)
abbrev s_l6Covered_mJ0 (Size : Int) (Sets : List (List Int)) (Costs : List Int) (choice : List Int) (out : List Int) (i : Int) : Nat := (choice.length - i).toNat
abbrev s_l6Covered_JJ1 (Size : Int) (Sets : List (List Int)) (Costs : List Int) (choice : List Int) (out : List Int) (i : Int) (out1 : List Int) (k : Int) : Prop := (0 ≤ k) ∧ (k ≤ ((Sets.getD (choice.getD i.toNat 0).toNat []).length : Int)) ∧ (out1 = putAll out (Sets.getD (choice.getD i.toNat 0).toNat []) k.toNat) ∧ ((out1.length : Int) ≤ 8 * i + k)
abbrev s_l6Covered_mJ1 (Size : Int) (Sets : List (List Int)) (Costs : List Int) (choice : List Int) (out : List Int) (i : Int) (out1 : List Int) (k : Int) : Nat := ((Sets.getD (choice.getD i.toNat 0).toNat []).length - k).toNat
def s_l6Covered_C (f : FuncId) (ds : List D) : Orc := bif Nat.beq f 202 then s_l1Put_orc ds else .no
def s_l6Covered_A (Size : Int) (Sets : List (List Int)) (Costs : List Int) (choice : List Int) : Ann := .two (.none) (.two (.reg [(0, .frz)]) (.two (.two (.none) (.loop (cut2 (fun (out : List Int) (i : Int) => s_l6Covered_JJ0 Size Sets Costs choice out i) (fun (out : List Int) (i : Int) => [(1, .d false (.sl (.ints choice))), (2, .ptr 2 0), (5, .d true (.sl (.ints out))), (6, .d true (.int .i64 i))]) (fun (out : List Int) (i : Int) => [(2, .box 36 [.d false (.int .i64 Size), .d false (.sl (.rows Sets)), .d false (.sl (.ints Costs))])])) (fun g => s_l6Covered_mJ0 Size Sets Costs choice g.1 g.2) (fun g => (fun (out : List Int) (i : Int) => .two (.none) (.two (.two (.none) (.two (.none) (.loop (cut2 (fun (out1 : List Int) (k : Int) => s_l6Covered_JJ1 Size Sets Costs choice out i out1 k) (fun (out1 : List Int) (k : Int) => [(1, .d false (.sl (.ints choice))), (2, .ptr 2 0), (5, .d true (.sl (.ints out1))), (6, .d true (.int .i64 i)), (7, .d false (.sl (.ints (Sets.getD ((choice.getD i.toNat 0).toNat) [])))), (8, .d true (.int .i64 k))]) (fun (out1 : List Int) (k : Int) => [(2, .box 36 [.d false (.int .i64 Size), .d false (.sl (.rows Sets)), .d false (.sl (.ints Costs))])])) (fun g => s_l6Covered_mJ1 Size Sets Costs choice out i g.1 g.2) (fun _ => .none)))) (.none))) (g.1) (g.2)))) (.none)))
def s_l6Covered_P (Size : Int) (Sets : List (List Int)) (Costs : List Int) (choice : List Int) : Prop :=
  ((∃ out' : List Int, ∃ i' : Int, (s_l6Covered_JJ0 Size Sets Costs choice out' i') ∧ (choice = choice) ∧ ([] = out') ∧ ((0 : Int) = i') ∧ (Size = Size) ∧ (Sets = Sets) ∧ (Costs = Costs)) ∧ (∀ out : List Int, ∀ i : Int, (s_l6Covered_JJ0 Size Sets Costs choice out i) → (((decide (i < (choice.length : Int))) = true → (true = true) ∧ ((0 : Int) ≤ i) ∧ ((i : Int) < choice.length) ∧ (i.toNat < choice.length) ∧ ((0 : Int) ≤ (choice.getD i.toNat 0)) ∧ (((choice.getD i.toNat 0) : Int) < Sets.length) ∧ ((choice.getD i.toNat 0).toNat < Sets.length) ∧ ((∃ out1' : List Int, ∃ k' : Int, (s_l6Covered_JJ1 Size Sets Costs choice out i out1' k') ∧ (choice = choice) ∧ (out = out1') ∧ (i = i) ∧ ((Sets.getD ((choice.getD i.toNat 0).toNat) []) = (Sets.getD ((choice.getD i.toNat 0).toNat) [])) ∧ ((0 : Int) = k') ∧ (Size = Size) ∧ (Sets = Sets) ∧ (Costs = Costs)) ∧ (∀ out1 : List Int, ∀ k : Int, (s_l6Covered_JJ1 Size Sets Costs choice out i out1 k) → (((decide (k < (((Sets.getD ((choice.getD i.toNat 0).toNat) []).length) : Int))) = true → ((0 : Int) ≤ k) ∧ ((k : Int) < (Sets.getD ((choice.getD i.toNat 0).toNat) []).length) ∧ (k.toNat < (Sets.getD ((choice.getD i.toNat 0).toNat) []).length) ∧ (PCs Try.prog 202 [.sl (.ints out1), .int .i64 ((Sets.getD ((choice.getD i.toNat 0).toNat) []).getD k.toNat 0)] 0 (.sl (.ints (putL out1 ((Sets.getD ((choice.getD i.toNat 0).toNat) []).getD k.toNat 0))))) ∧ (-9223372036854775808 ≤ (k + 1) ∧ (k + 1) ≤ 9223372036854775807) ∧ (∃ out1' : List Int, ∃ k' : Int, (s_l6Covered_JJ1 Size Sets Costs choice out i out1' k') ∧ (s_l6Covered_mJ1 Size Sets Costs choice out i out1' k' < s_l6Covered_mJ1 Size Sets Costs choice out i out1 k) ∧ (choice = choice) ∧ ((putL out1 ((Sets.getD ((choice.getD i.toNat 0).toNat) []).getD k.toNat 0)) = out1') ∧ (i = i) ∧ ((Sets.getD ((choice.getD i.toNat 0).toNat) []) = (Sets.getD ((choice.getD i.toNat 0).toNat) [])) ∧ ((k + 1) = k') ∧ (Size = Size) ∧ (Sets = Sets) ∧ (Costs = Costs))) ∧ ((decide (k < (((Sets.getD ((choice.getD i.toNat 0).toNat) []).length) : Int))) = false → (-9223372036854775808 ≤ (i + 1) ∧ (i + 1) ≤ 9223372036854775807) ∧ (∃ out' : List Int, ∃ i' : Int, (s_l6Covered_JJ0 Size Sets Costs choice out' i') ∧ (s_l6Covered_mJ0 Size Sets Costs choice out' i' < s_l6Covered_mJ0 Size Sets Costs choice out i) ∧ (choice = choice) ∧ (out1 = out') ∧ ((i + 1) = i') ∧ (Size = Size) ∧ (Sets = Sets) ∧ (Costs = Costs))))))) ∧ ((decide (i < (choice.length : Int))) = false → (((out : List Int) = (covL Sets choice choice.length)))))))
theorem s_l6Covered_vc (Size : Int) (Sets : List (List Int)) (Costs : List Int) (choice : List Int) (hg : goodSys Size Sets Costs = true) (hc : rising choice 0 ((Sets.length : Int) - 1) = true) (w_Sets : (Sets.length : Int) ≤ 9223372036854775807) (v_Sets : ∀ x9 ∈ Sets, (x9.length : Int) ≤ 9223372036854775807) (w_Costs : (Costs.length : Int) ≤ 9223372036854775807) (w_choice : (choice.length : Int) ≤ 9223372036854775807) : s_l6Covered_P Size Sets Costs choice := by
  unfold s_l6Covered_P
  have gf := gs_facts hg
  have cl := rising_len hc (by omega)
  have ca := fun k => rising_at hc k
  have sl := fun (k : Nat) (hk : k < Sets.length) => rising_len (gs_set hg hk) (by omega)
  refine ⟨?_, ?_⟩
  ·refine ⟨([]), 0, ?_⟩
   refine ⟨?_, rfl, ?_, rfl, rfl, rfl, rfl⟩
   ·refine ⟨?_, ?_, ?_, ?_⟩
    ·omega
    ·omega
    ·rfl
    ·(simp_all; done)
   ·rfl
  ·intro out i hJ
   obtain ⟨h1, h2, h3, h3l⟩ := hJ
   refine ⟨?_, ?_⟩
   ·intro b1
    try simp only [nrmT] at b1
    refine ⟨rfl, ?_, ?_, ?_, ?_, ?_, ?_, ?_, ?_⟩
    ·omega
    ·omega
    ·omega
    ·have := ca i.toNat (by omega)
     omega
    ·have := ca i.toNat (by omega)
     omega
    ·have := ca i.toNat (by omega)
     omega
    ·refine ⟨out, 0, ?_⟩
     refine ⟨?_, rfl, rfl, rfl, rfl, rfl, rfl, rfl, rfl⟩
     ·refine ⟨?_, ?_, ?_, ?_⟩
      ·omega
      ·omega
      ·rfl
      ·omega
    ·intro out1 k hJ
     obtain ⟨h4, h5, h6, h6l⟩ := hJ
     refine ⟨?_, ?_⟩
     ·intro b2
      try simp only [nrmT] at b2
      refine ⟨?_, ?_, ?_, ?_, ?_, ?_⟩
      ·omega
      ·omega
      ·omega
      ·refine s_l1Put_pc out1 ((Sets.getD ((choice.getD i.toNat 0).toNat) []).getD k.toNat 0) ?_
       ·have h7 := ca i.toNat (by omega)
        have h8 := sl (choice.getD i.toNat 0).toNat (by omega)
        have h9 := putL_len out1 ((Sets.getD (choice.getD i.toNat 0).toNat []).getD k.toNat 0)
        omega
      ·have h7 := ca i.toNat (by omega)
       have h8 := sl (choice.getD i.toNat 0).toNat (by omega)
       omega
      ·refine ⟨(putL out1 ((Sets.getD ((choice.getD i.toNat 0).toNat) []).getD k.toNat 0)), (k + 1), ?_⟩
       refine ⟨?_, ?_, rfl, rfl, rfl, rfl, rfl, rfl, rfl, rfl⟩
       ·refine ⟨?_, ?_, ?_, ?_⟩
        ·omega
        ·omega
        ·rw [h6, show (k + 1).toNat = k.toNat + 1 by omega]; rfl
        ·have h7 := ca i.toNat (by omega)
         have h8 := sl (choice.getD i.toNat 0).toNat (by omega)
         have h9 := putL_len out1 ((Sets.getD (choice.getD i.toNat 0).toNat []).getD k.toNat 0)
         omega
       ·first | (show _ < _; omega) | (simp only [s_l6Covered_mJ1]; omega) | (simp only [s_l6Covered_mJ1] at *; simp at *; omega)
     ·intro b3
      try simp only [nrmT] at b3
      refine ⟨?_, ?_⟩
      ·omega
      ·refine ⟨out1, (i + 1), ?_⟩
       refine ⟨?_, ?_, rfl, rfl, rfl, rfl, rfl, rfl⟩
       ·refine ⟨?_, ?_, ?_, ?_⟩
        ·omega
        ·omega
        ·rw [h6, h3, show (i + 1).toNat = i.toNat + 1 by omega, show k.toNat = (Sets.getD (choice.getD i.toNat 0).toNat []).length by omega]; rfl
        ·have h7 := ca i.toNat (by omega)
         have h8 := sl (choice.getD i.toNat 0).toNat (by omega)
         omega
       ·first | (show _ < _; omega) | (simp only [s_l6Covered_mJ0]; omega) | (simp only [s_l6Covered_mJ0] at *; simp at *; omega)
   ·intro b4
    try simp only [nrmT] at b4
    rw [h3, show i.toNat = choice.length by omega]
theorem s_l6Covered_pc (Size : Int) (Sets : List (List Int)) (Costs : List Int) (choice : List Int) (hg : goodSys Size Sets Costs = true) (hc : rising choice 0 ((Sets.length : Int) - 1) = true) : PC Try.prog 189 [.agg [.int .i64 Size, .sl (.rows Sets), .sl (.ints Costs)], .sl (.ints choice)] (.one (.d (.sl (.ints (covL Sets choice choice.length))))) :=
  pc_wf @Try.call189 fun hw => pc_by (by kernel_rfl) Try.func189 @Try.call189 (by kernel_rfl) s_l6Covered_C (s_l6Covered_A Size Sets Costs choice) (by kernel_rfl) (s_l6Covered_vc Size Sets Costs choice hg hc hw.1.2.1.1 hw.1.2.1.2 hw.1.2.2.1 hw.2.1) (by kernel_rfl)
def s_l6Covered_orc : List D → Orc := orcN [none, some .ints] fun ds => match ds with
  | [.agg [.int .i64 Size, .sl (.rows Sets), .sl (.ints Costs)], .sl (.ints choice)] => some (.one (.d (.sl (.ints (covL Sets choice choice.length)))))
  | _ => none
def s_l6Cover_C (f : FuncId) (ds : List D) : Orc := bif Nat.beq f 189 then s_l6Covered_orc ds else .no
def s_l6Cover_A (Size : Int) (Sets : List (List Int)) (Costs : List Int) (choice : List Int) : Ann := .none
def s_l6Cover_P (Size : Int) (Sets : List (List Int)) (Costs : List Int) (choice : List Int) : Prop :=
  (true = true) ∧ (PC Try.prog 189 [.agg [.int .i64 Size, .sl (.rows Sets), .sl (.ints Costs)], .sl (.ints choice)] (.one (.d (.sl (.ints (covL Sets choice choice.length)))))) ∧ ((((((covL Sets choice choice.length).length) : Int) == Size) = (coverB Size Sets choice)))
theorem s_l6Cover_vc (Size : Int) (Sets : List (List Int)) (Costs : List Int) (choice : List Int) (hg : goodSys Size Sets Costs = true) (hc : rising choice 0 ((Sets.length : Int) - 1) = true) (w_Sets : (Sets.length : Int) ≤ 9223372036854775807) (v_Sets : ∀ x9 ∈ Sets, (x9.length : Int) ≤ 9223372036854775807) (w_Costs : (Costs.length : Int) ≤ 9223372036854775807) (w_choice : (choice.length : Int) ≤ 9223372036854775807) : s_l6Cover_P Size Sets Costs choice := by
  unfold s_l6Cover_P
  refine ⟨rfl, ?_, ?_⟩
  ·refine s_l6Covered_pc Size Sets Costs choice ?_ ?_
   ·omega
   ·omega
  ·rw [covL_members hg hc]
   have gf := gs_facts hg
   have h1 := members_full (covB Sets choice) Size.toNat
   unfold coverB
   rw [Bool.eq_iff_iff, ← h1, beq_iff_eq]
   omega
theorem s_l6Cover_pc (Size : Int) (Sets : List (List Int)) (Costs : List Int) (choice : List Int) (hg : goodSys Size Sets Costs = true) (hc : rising choice 0 ((Sets.length : Int) - 1) = true) : PC Try.prog 186 [.agg [.int .i64 Size, .sl (.rows Sets), .sl (.ints Costs)], .sl (.ints choice)] (.one (.d (.bool (coverB Size Sets choice)))) :=
  pc_wf @Try.call186 fun hw => pc_by (by kernel_rfl) Try.func186 @Try.call186 (by kernel_rfl) s_l6Cover_C (s_l6Cover_A Size Sets Costs choice) (by kernel_rfl) (s_l6Cover_vc Size Sets Costs choice hg hc hw.1.2.1.1 hw.1.2.1.2 hw.1.2.2.1 hw.2.1) (by kernel_rfl)
def s_l6Cover_orc : List D → Orc := orcN [none, some .ints] fun ds => match ds with
  | [.agg [.int .i64 Size, .sl (.rows Sets), .sl (.ints Costs)], .sl (.ints choice)] => some (.one (.d (.bool (coverB Size Sets choice))))
  | _ => none
abbrev slices_Index_int_int__JJ0 (xs : List Int) (x : Int) (i : Int) : Prop := (0 ≤ i) ∧ (i ≤ (xs.length : Int)) ∧ (∀ k, k < i.toNat → (fun y => x == y) (xs.getD k 0) = false)
abbrev slices_Index_int_int__mJ0 (xs : List Int) (x : Int) (i : Int) : Nat := (xs.length - i).toNat
def slices_Index_int_int__C (f : FuncId) (ds : List D) : Orc := .no
def slices_Index_int_int__A (xs : List Int) (x : Int) : Ann := .two (.none) (.two (.two (.none) (.loop (cut1 (fun (i : Int) => slices_Index_int_int__JJ0 xs x i) (fun (i : Int) => [(0, .d false (.sl (.ints xs))), (1, .d false (.int .i64 x)), (7, .d true (.int .i64 (xs.length : Int))), (8, .d true (.int .i64 i))]) (fun (i : Int) => [])) (fun g => slices_Index_int_int__mJ0 xs x g) (fun _ => .none))) (.none))
def slices_Index_int_int__P (xs : List Int) (x : Int) : Prop :=
  ((∃ i' : Int, (slices_Index_int_int__JJ0 xs x i') ∧ (xs = xs) ∧ (x = x) ∧ ((xs.length : Int) = (xs.length : Int)) ∧ ((0 : Int) = i')) ∧ (∀ i : Int, (slices_Index_int_int__JJ0 xs x i) → (((decide (i < (xs.length : Int))) = true → ((0 : Int) ≤ i) ∧ ((i : Int) < xs.length) ∧ (i.toNat < xs.length) ∧ (((x == (xs.getD i.toNat 0)) = true → ((i = (idxI (fun y => x == y) xs)))) ∧ ((x == (xs.getD i.toNat 0)) = false → (-9223372036854775808 ≤ (i + 1) ∧ (i + 1) ≤ 9223372036854775807) ∧ (∃ i' : Int, (slices_Index_int_int__JJ0 xs x i') ∧ (slices_Index_int_int__mJ0 xs x i' < slices_Index_int_int__mJ0 xs x i) ∧ (xs = xs) ∧ (x = x) ∧ ((xs.length : Int) = (xs.length : Int)) ∧ ((i + 1) = i'))))) ∧ ((decide (i < (xs.length : Int))) = false → ((((-1) : Int) = (idxI (fun y => x == y) xs)))))))
theorem slices_Index_int_int__vc (xs : List Int) (x : Int)  (w_xs : (xs.length : Int) ≤ 9223372036854775807) : slices_Index_int_int__P xs x := by
  unfold slices_Index_int_int__P
  refine ⟨?_, ?_⟩
  ·refine ⟨0, ?_⟩
   refine ⟨?_, rfl, rfl, rfl, rfl⟩
   ·refine ⟨?_, ?_, ?_⟩
    ·omega
    ·omega
    ·omega
  ·intro i hJ
   obtain ⟨h1, h2, h3⟩ := hJ
   refine ⟨?_, ?_⟩
   ·intro b1
    try simp only [nrmT] at b1
    refine ⟨?_, ?_, ?_, ?_, ?_⟩
    ·omega
    ·omega
    ·omega
    ·intro b2
     try simp only [nrmT] at b2
     exact idx_found (p := fun y => x == y) h1 b1 h3 (by simpa using b2)
    ·intro b3
     try simp only [nrmT] at b3
     refine ⟨?_, ?_⟩
     ·omega
     ·refine ⟨(i + 1), ?_⟩
      refine ⟨?_, ?_, rfl, rfl, rfl, rfl⟩
      ·refine ⟨?_, ?_, ?_⟩
       ·omega
       ·omega
       ·exact idx_step (p := fun y => x == y) h1 h3 (by simpa using b3)
      ·first | (show _ < _; omega) | (simp only [slices_Index_int_int__mJ0]; omega) | (simp only [slices_Index_int_int__mJ0] at *; simp at *; omega)
   ·intro b4
    try simp only [nrmT] at b4
    exact (idx_none (by omega) h3).symm
theorem slices_Index_int_int__pc (xs : List Int) (x : Int)  : PC Try.prog 216 [.sl (.ints xs), .int .i64 x] (.one (.d (.int .i64 (idxI (fun y => x == y) xs)))) :=
  pc_wf @Try.call216 fun hw => pc_by (by kernel_rfl) Try.func216 @Try.call216 (by kernel_rfl) slices_Index_int_int__C (slices_Index_int_int__A xs x) (by kernel_rfl) (slices_Index_int_int__vc xs x hw.1) (by kernel_rfl)
def slices_Index_int_int__orc : List D → Orc := orcN [some .ints, none] fun ds => match ds with
  | [.sl (.ints xs), .int .i64 x] => some (.one (.d (.int .i64 (idxI (fun y => x == y) xs))))
  | _ => none
def slices_Contains_int_int__C (f : FuncId) (ds : List D) : Orc := bif Nat.beq f 216 then slices_Index_int_int__orc ds else .no
def slices_Contains_int_int__A (xs : List Int) (x : Int) : Ann := .none
def slices_Contains_int_int__P (xs : List Int) (x : Int) : Prop :=
  (PC Try.prog 216 [.sl (.ints xs), .int .i64 x] (.one (.d (.int .i64 (idxI (fun y => x == y) xs))))) ∧ (((decide ((idxI (fun y => x == y) xs) ≥ 0)) = (xs.contains x)))
theorem slices_Contains_int_int__vc (xs : List Int) (x : Int)  (w_xs : (xs.length : Int) ≤ 9223372036854775807) : slices_Contains_int_int__P xs x := by
  unfold slices_Contains_int_int__P
  refine ⟨slices_Index_int_int__pc xs x, ?_⟩
  ·rw [idx_any, List.contains_eq_any_beq]
theorem slices_Contains_int_int__pc (xs : List Int) (x : Int)  : PC Try.prog 181 [.sl (.ints xs), .int .i64 x] (.one (.d (.bool (xs.contains x)))) :=
  pc_wf @Try.call181 fun hw => pc_by (by kernel_rfl) Try.func181 @Try.call181 (by kernel_rfl) slices_Contains_int_int__C (slices_Contains_int_int__A xs x) (by kernel_rfl) (slices_Contains_int_int__vc xs x hw.1) (by kernel_rfl)
def slices_Contains_int_int__orc : List D → Orc := orcN [some .ints, none] fun ds => match ds with
  | [.sl (.ints xs), .int .i64 x] => some (.one (.d (.bool (xs.contains x))))
  | _ => none
theorem has_end {xs : List Int} {x i : Int} (h2 : (xs.length : Int) ≤ i) (h3 : ∀ k, k < i.toNat → (fun y => x == y) (xs.getD k 0) = false) : xs.contains x = false := by
  rw [List.contains_eq_any_beq, List.any_eq_false]
  intro y hy
  obtain ⟨k, hk, rfl⟩ := List.mem_iff_getElem.1 hy
  have := h3 k (by omega)
  simp [hk] at this
  simpa using this
theorem has_found {xs : List Int} {x i : Int} (h1 : 0 ≤ i) (h2 : i < (xs.length : Int)) (h : xs.getD i.toNat 0 = x) : xs.contains x = true := by
  rw [List.contains_iff_mem, ← h]; exact getD_memI h1 h2
abbrev s_l1Has_JJ0 (xs : List Int) (x : Int) (i : Int) : Prop := (0 ≤ i) ∧ (i ≤ (xs.length : Int)) ∧ (∀ k, k < i.toNat → (fun y => x == y) (xs.getD k 0) = false)
abbrev s_l1Has_mJ0 (xs : List Int) (x : Int) (i : Int) : Nat := (xs.length - i).toNat
def s_l1Has_C (f : FuncId) (ds : List D) : Orc := .no
def s_l1Has_A (xs : List Int) (x : Int) : Ann := .two (.none) (.two (.two (.none) (.loop (cut1 (fun (i : Int) => s_l1Has_JJ0 xs x i) (fun (i : Int) => [(0, .d false (.sl (.ints xs))), (1, .d false (.int .i64 x)), (5, .d true (.int .i64 i))]) (fun (i : Int) => [])) (fun g => s_l1Has_mJ0 xs x g) (fun _ => .none))) (.none))
def s_l1Has_P (xs : List Int) (x : Int) : Prop :=
  ((∃ i' : Int, (s_l1Has_JJ0 xs x i') ∧ (xs = xs) ∧ (x = x) ∧ ((0 : Int) = i')) ∧ (∀ i : Int, (s_l1Has_JJ0 xs x i) → (((decide (i < (xs.length : Int))) = true → ((0 : Int) ≤ i) ∧ ((i : Int) < xs.length) ∧ (i.toNat < xs.length) ∧ ((((xs.getD i.toNat 0) == x) = true → ((true = (xs.contains x)))) ∧ (((xs.getD i.toNat 0) == x) = false → (-9223372036854775808 ≤ (i + 1) ∧ (i + 1) ≤ 9223372036854775807) ∧ (∃ i' : Int, (s_l1Has_JJ0 xs x i') ∧ (s_l1Has_mJ0 xs x i' < s_l1Has_mJ0 xs x i) ∧ (xs = xs) ∧ (x = x) ∧ ((i + 1) = i'))))) ∧ ((decide (i < (xs.length : Int))) = false → ((false = (xs.contains x)))))))
theorem s_l1Has_vc (xs : List Int) (x : Int)  (w_xs : (xs.length : Int) ≤ 9223372036854775807) : s_l1Has_P xs x := by
  unfold s_l1Has_P
  refine ⟨?_, ?_⟩
  ·refine ⟨0, ?_⟩
   refine ⟨?_, rfl, rfl, rfl⟩
   ·refine ⟨?_, ?_, ?_⟩
    ·omega
    ·omega
    ·omega
  ·intro i hJ
   obtain ⟨h1, h2, h3⟩ := hJ
   refine ⟨?_, ?_⟩
   ·intro b1
    try simp only [nrmT] at b1
    refine ⟨?_, ?_, ?_, ?_, ?_⟩
    ·omega
    ·omega
    ·omega
    ·intro b2
     try simp only [nrmT] at b2
     exact (has_found h1 b1 b2).symm
    ·intro b3
     try simp only [nrmT] at b3
     refine ⟨?_, ?_⟩
     ·omega
     ·refine ⟨(i + 1), ?_⟩
      refine ⟨?_, ?_, rfl, rfl, rfl⟩
      ·refine ⟨?_, ?_, ?_⟩
       ·omega
       ·omega
       ·exact idx_step (p := fun y => x == y) h1 h3 (by simp only [beq_eq_false_iff_ne]; exact fun h => b3 h.symm)
      ·first | (show _ < _; omega) | (simp only [s_l1Has_mJ0]; omega) | (simp only [s_l1Has_mJ0] at *; simp at *; omega)
   ·intro b4
    try simp only [nrmT] at b4
    exact (has_end (by omega) h3).symm
theorem s_l1Has_pc (xs : List Int) (x : Int)  : PC Try.prog 182 [.sl (.ints xs), .int .i64 x] (.one (.d (.bool (xs.contains x)))) :=
  pc_wf @Try.call182 fun hw => pc_by (by kernel_rfl) Try.func182 @Try.call182 (by kernel_rfl) s_l1Has_C (s_l1Has_A xs x) (by kernel_rfl) (s_l1Has_vc xs x hw.1) (by kernel_rfl)
def s_l1Has_orc : List D → Orc := orcN [some .ints, none] fun ds => match ds with
  | [.sl (.ints xs), .int .i64 x] => some (.one (.d (.bool (xs.contains x))))
  | _ => none
def newAt (set cov : List Int) (k : Nat) : Int := if cov.contains (set.getD k 0) then 0 else 1
def newOf (set cov : List Int) : Int := sumTo (newAt set cov) set.length
theorem newTo_bound {set cov : List Int} (k : Nat) : 0 ≤ sumTo (newAt set cov) k ∧ sumTo (newAt set cov) k ≤ 1 * k := sumTo_bound k fun j _ => by unfold newAt; split <;> omega
theorem rising_asc {l : List Int} {lo hi : Int} (h : Asc l) (hb : ∀ x ∈ l, lo ≤ x ∧ x ≤ hi) : rising l lo hi = true := by
  unfold rising
  rw [allTo_iff]
  intro k hk
  unfold risingP
  simp only [Bool.and_eq_true, Bool.or_eq_true, decide_eq_true_eq]
  have h1 := hb _ (getD_mem (d := 0) hk)
  refine ⟨decide_eq_true h1, ?_⟩
  by_cases e : k = 0
  · exact .inl e
  · refine .inr ?_
    have h2 := List.pairwise_iff_getElem.1 h (k - 1) k (by omega) hk (by omega)
    rw [getD_get hk, getD_get (show k - 1 < l.length by omega)]
    exact h2
abbrev s_l6New_JJ0 (set : List Int) (cov : List Int) (out : Int) (i : Int) : Prop := (0 ≤ i) ∧ (i ≤ (set.length : Int)) ∧ (out = sumTo (newAt set cov) i.toNat)
abbrev s_l6New_mJ0 (set : List Int) (cov : List Int) (out : Int) (i : Int) : Nat := (set.length - i).toNat
def s_l6New_C (f : FuncId) (ds : List D) : Orc := bif Nat.beq f 182 then s_l1Has_orc ds else .no
def s_l6New_A (set : List Int) (cov : List Int) : Ann := .two (.none) (.two (.none) (.two (.two (.none) (.loop (cut2 (fun (out : Int) (i : Int) => s_l6New_JJ0 set cov out i) (fun (out : Int) (i : Int) => [(0, .d false (.sl (.ints set))), (1, .d false (.sl (.ints cov))), (5, .d true (.int .i64 out)), (6, .d true (.int .i64 i))]) (fun (out : Int) (i : Int) => [])) (fun g => s_l6New_mJ0 set cov g.1 g.2) (fun _ => .none))) (.none)))
def s_l6New_P (set : List Int) (cov : List Int) : Prop :=
  ((∃ out' : Int, ∃ i' : Int, (s_l6New_JJ0 set cov out' i') ∧ (set = set) ∧ (cov = cov) ∧ ((0 : Int) = out') ∧ ((0 : Int) = i')) ∧ (∀ out : Int, ∀ i : Int, (s_l6New_JJ0 set cov out i) → (((decide (i < (set.length : Int))) = true → ((0 : Int) ≤ i) ∧ ((i : Int) < set.length) ∧ (i.toNat < set.length) ∧ (PC Try.prog 182 [.sl (.ints cov), .int .i64 (set.getD i.toNat 0)] (.one (.d (.bool (cov.contains (set.getD i.toNat 0)))))) ∧ (((!(cov.contains (set.getD i.toNat 0))) = true → (-9223372036854775808 ≤ (out + 1) ∧ (out + 1) ≤ 9223372036854775807) ∧ (-9223372036854775808 ≤ (i + 1) ∧ (i + 1) ≤ 9223372036854775807) ∧ (∃ out' : Int, ∃ i' : Int, (s_l6New_JJ0 set cov out' i') ∧ (s_l6New_mJ0 set cov out' i' < s_l6New_mJ0 set cov out i) ∧ (set = set) ∧ (cov = cov) ∧ ((out + 1) = out') ∧ ((i + 1) = i'))) ∧ ((!(cov.contains (set.getD i.toNat 0))) = false → (-9223372036854775808 ≤ (i + 1) ∧ (i + 1) ≤ 9223372036854775807) ∧ (∃ out' : Int, ∃ i' : Int, (s_l6New_JJ0 set cov out' i') ∧ (s_l6New_mJ0 set cov out' i' < s_l6New_mJ0 set cov out i) ∧ (set = set) ∧ (cov = cov) ∧ (out = out') ∧ ((i + 1) = i'))))) ∧ ((decide (i < (set.length : Int))) = false → ((out = (newOf set cov)))))))
theorem s_l6New_vc (set : List Int) (cov : List Int)  (w_set : (set.length : Int) ≤ 9223372036854775807) (w_cov : (cov.length : Int) ≤ 9223372036854775807) : s_l6New_P set cov := by
  unfold s_l6New_P
  refine ⟨?_, ?_⟩
  ·refine ⟨0, 0, ?_⟩
   refine ⟨?_, rfl, rfl, rfl, rfl⟩
   ·refine ⟨?_, ?_, ?_⟩
    ·omega
    ·omega
    ·rfl
  ·intro out i hJ
   obtain ⟨h1, h2, h3⟩ := hJ
   refine ⟨?_, ?_⟩
   ·intro b1
    try simp only [nrmT] at b1
    refine ⟨?_, ?_, ?_, s_l1Has_pc cov (set.getD i.toNat 0), ?_, ?_⟩
    ·omega
    ·omega
    ·omega
    ·intro b2
     try simp only [nrmT] at b2
     refine ⟨?_, ?_, ?_⟩
     ·have := newTo_bound (set := set) (cov := cov) i.toNat
      omega
     ·omega
     ·refine ⟨(out + 1), (i + 1), ?_⟩
      refine ⟨?_, ?_, rfl, rfl, rfl, rfl⟩
      ·refine ⟨?_, ?_, ?_⟩
       ·omega
       ·omega
       ·rw [sumTo_step h1, h3]
        unfold newAt
        rw [b2]
        rfl
      ·first | (show _ < _; omega) | (simp only [s_l6New_mJ0]; omega) | (simp only [s_l6New_mJ0] at *; simp at *; omega)
    ·intro b3
     try simp only [nrmT] at b3
     refine ⟨?_, ?_⟩
     ·omega
     ·refine ⟨out, (i + 1), ?_⟩
      refine ⟨?_, ?_, rfl, rfl, rfl, rfl⟩
      ·refine ⟨?_, ?_, ?_⟩
       ·omega
       ·omega
       ·rw [sumTo_step h1, h3]
        unfold newAt
        rw [b3]
        exact (Int.add_zero _).symm
      ·first | (show _ < _; omega) | (simp only [s_l6New_mJ0]; omega) | (simp only [s_l6New_mJ0] at *; simp at *; omega)
   ·intro b4
    try simp only [nrmT] at b4
    unfold newOf
    rw [h3, show i.toNat = set.length by omega]
theorem s_l6New_pc (set : List Int) (cov : List Int)  : PC Try.prog 223 [.sl (.ints set), .sl (.ints cov)] (.one (.d (.int .i64 (newOf set cov)))) :=
  pc_wf @Try.call223 fun hw => pc_by (by kernel_rfl) Try.func223 @Try.call223 (by kernel_rfl) s_l6New_C (s_l6New_A set cov) (by kernel_rfl) (s_l6New_vc set cov hw.1 hw.2.1) (by kernel_rfl)
def s_l6New_orc : List D → Orc := orcN [some .ints, some .ints] fun ds => match ds with
  | [.sl (.ints set), .sl (.ints cov)] => some (.one (.d (.int .i64 (newOf set cov))))
  | _ => none
theorem lt62 {b x : Int} (hb : 0 ≤ b ∧ b ≤ 4611686018427387903) (h2 : x ≤ 62) (h : 0 < b / 2 ^ x.toNat) : x < 62 := by
  by_cases e : x = 62
  · subst e
    have e2 : (2 : Int) ^ (62 : Int).toNat = 4611686018427387904 := by decide
    rw [e2] at h
    omega
  · omega
theorem bit_out {b : Int} {m : Nat} (hb : 0 ≤ b) (h : ¬ 0 < b / 2 ^ m) (k : Nat) (hk : m ≤ k) : b.toNat.testBit k = false := by
  have h1 : b.toNat / 2 ^ m = 0 := by
    have h2 : ((b.toNat / 2 ^ m : Nat) : Int) = b / 2 ^ m := by
      rw [Int.natCast_ediv, Int.toNat_of_nonneg hb]; simp
    have h3 : (0 : Int) ≤ ((b.toNat / 2 ^ m : Nat) : Int) := Int.natCast_nonneg _
    omega
  have h4 : b.toNat < 2 ^ m := (Nat.div_eq_zero_iff_lt (Nat.two_pow_pos m)).1 h1
  exact Nat.testBit_lt_two_pow (Nat.lt_of_lt_of_le h4 (Nat.pow_le_pow_right (by omega) hk))
theorem members_stop {p : Nat → Bool} {m : Nat} (h : ∀ k, m ≤ k → p k = false) : ∀ n, m ≤ n → members p n = members p m
  | 0, hn => by have : m = 0 := by omega
                rw [this]
  | n + 1, hn => by
    by_cases e : m = n + 1
    · rw [e]
    · rw [members_succ, members_stop h n (by omega), h n (by omega)]; simp
theorem members_sub {p q : Nat → Bool} : ∀ n, (∀ k, k < n → q k = true → p k = true) → (members q n).length ≤ (members p n).length
  | 0, _ => by simp [members]
  | n + 1, h => by
    have ih := members_sub n fun k hk => h k (by omega)
    rw [members_succ, members_succ, List.length_append, List.length_append]
    by_cases hq : q n = true
    · rw [if_pos hq, if_pos (h n (by omega) hq)]; omega
    · rw [if_neg hq]; simp only [List.length_nil]; omega
theorem members_less {p q : Nat → Bool} : ∀ n, (∀ k, k < n → q k = true → p k = true) → (∃ k, k < n ∧ p k = true ∧ q k = false) → (members q n).length < (members p n).length
  | 0, _, h => by obtain ⟨k, hk, _⟩ := h; omega
  | n + 1, h, ⟨k, hk, h1, h2⟩ => by
    rw [members_succ, members_succ, List.length_append, List.length_append]
    by_cases e : k = n
    · subst e
      have ih := members_sub k fun j hj => h j (by omega)
      rw [if_pos h1, h2]; simp; omega
    · have ih := members_less n (fun j hj => h j (by omega)) ⟨k, by omega, h1, h2⟩
      by_cases hq : q n = true
      · rw [if_pos hq, if_pos (h n (by omega) hq)]; omega
      · rw [if_neg hq]; simp only [List.length_nil]; omega
theorem cond_and_or : ∀ a b c : Bool, cond a (cond b true c) false = (a && (b || c)) := by decide
theorem rising_lt {xs : List Int} {lo hi : Int} (h : rising xs lo hi = true) {i : Nat} : ∀ {j : Nat}, i < j → j < xs.length → xs.getD i 0 < xs.getD j 0
  | 0, hi, _ => by omega
  | j + 1, hi, hj => by
    have h1 := allTo_iff.1 h (j + 1) hj
    simp only [risingP, Bool.and_eq_true, Bool.or_eq_true, decide_eq_true_eq, Nat.add_sub_cancel] at h1
    have h2 := h1.2
    by_cases e : i = j
    · subst e; omega
    · have := rising_lt h (i := i) (j := j) (by omega) (by omega)
      omega
def s_l1Most_C (f : FuncId) (ds : List D) : Orc := .no
def s_l1Most_A (a : Int) (b : Int) : Ann := .none
def s_l1Most_P (a : Int) (b : Int) : Prop :=
  (((decide (a > b)) = true → ((a = (max a b)))) ∧ ((decide (a > b)) = false → ((b = (max a b)))))
theorem s_l1Most_vc (a : Int) (b : Int)   : s_l1Most_P a b := by
  unfold s_l1Most_P
  refine ⟨?_, ?_⟩
  ·intro b1
   try simp only [nrmT] at b1
   omega
  ·intro b2
   try simp only [nrmT] at b2
   omega
theorem s_l1Most_pc (a : Int) (b : Int)  : PC Try.prog 152 [.int .i64 a, .int .i64 b] (.one (.d (.int .i64 (max a b)))) :=
  pc_wf @Try.call152 fun _ => pc_by (by kernel_rfl) Try.func152 @Try.call152 (by kernel_rfl) s_l1Most_C (s_l1Most_A a b) (by kernel_rfl) (s_l1Most_vc a b) (by kernel_rfl)
def s_l1Most_orc : List D → Orc := orcN [none, none] fun ds => match ds with
  | [.int .i64 a, .int .i64 b] => some (.one (.d (.int .i64 (max a b))))
  | _ => none
theorem sumTo_succ (f : Nat → Int) (n : Nat) : sumTo f (n + 1) = sumTo f n + f n := rfl
def roomF (Sets : List (List Int)) (Costs prices : List Int) (x : Int) (b : Int) (i : Nat) : Int :=
  if ((Sets.getD i []).contains x && (decide (b < 0) || decide (Costs.getD i 0 - priced (Sets.getD i []) prices < b))) = true then Costs.getD i 0 - priced (Sets.getD i []) prices else b
def roomTo (Sets : List (List Int)) (Costs prices : List Int) (x : Int) (k : Nat) : Int := foldTo (roomF Sets Costs prices x) (-1) k
theorem roomTo_succ (Sets : List (List Int)) (Costs prices : List Int) (x : Int) (k : Nat) : roomTo Sets Costs prices x (k + 1) = roomF Sets Costs prices x (roomTo Sets Costs prices x k) k := rfl
def raiseF (Sets : List (List Int)) (Costs : List Int) (p : List Int) (x : Nat) : List Int := p.set x (max 0 (roomTo Sets Costs p (x : Int) Sets.length))
def raiseTo (Size : Int) (Sets : List (List Int)) (Costs : List Int) (x : Nat) : List Int := foldTo (raiseF Sets Costs) (List.replicate Size.toNat 0) x
theorem raiseTo_succ (Size : Int) (Sets : List (List Int)) (Costs : List Int) (x : Nat) : raiseTo Size Sets Costs (x + 1) = raiseF Sets Costs (raiseTo Size Sets Costs x) x := rfl
theorem priced_nonneg {size : Int} {set prices : List Int} (h : rising set 0 (size - 1) = true) (hp : rowOk prices size 1000000 = true) : 0 ≤ priced set prices :=
  (sumTo_bound (f := pricedAt set prices) set.length (fun k hk => pricedAt_bound h hp hk)).1
theorem rowOk_mk {row : List Int} {n most : Int} (hl : (row.length : Int) = n) (hb : ∀ x ∈ row, 0 ≤ x ∧ x ≤ most) : rowOk row n most = true := by
  unfold rowOk
  rw [Bool.and_eq_true]
  exact ⟨List.all_eq_true.2 fun x hx => decide_eq_true (hb x hx), decide_eq_true hl⟩
theorem roomTo_le {Size : Int} {Sets : List (List Int)} {Costs prices : List Int} (h : goodSys Size Sets Costs = true) (hp : rowOk prices Size 1000000 = true) (x : Int) : ∀ k, k ≤ Sets.length → roomTo Sets Costs prices x k ≤ 99
  | 0, _ => by simp [roomTo, foldTo]
  | k + 1, hk => by
    have gf := gs_facts h
    rw [roomTo_succ]
    unfold roomF
    split
    · have := priced_nonneg (gs_set h (k := k) (by omega)) hp
      have := gs_cost h (k := k) (by omega)
      omega
    · exact roomTo_le h hp x k (by omega)
theorem mem_set {xs : List Int} {k : Nat} {v y : Int} (h : y ∈ xs.set k v) : y ∈ xs ∨ y = v := by
  rcases List.mem_or_eq_of_mem_set h with h | h
  · exact .inl h
  · exact .inr h
theorem raiseTo_ok {Size : Int} {Sets : List (List Int)} {Costs : List Int} (h : goodSys Size Sets Costs = true) : ∀ k, (raiseTo Size Sets Costs k).length = Size.toNat ∧ ∀ x ∈ raiseTo Size Sets Costs k, 0 ≤ x ∧ x ≤ 99
  | 0 => ⟨by simp [raiseTo, foldTo], fun x hx => by
      have := List.eq_of_mem_replicate hx
      omega⟩
  | k + 1 => by
    obtain ⟨h1, h2⟩ := raiseTo_ok h k
    have gf := gs_facts h
    rw [raiseTo_succ]
    unfold raiseF
    refine ⟨by rw [List.length_set, h1], fun x hx => ?_⟩
    rcases mem_set hx with hx | rfl
    · exact h2 x hx
    · have := roomTo_le h (prices := raiseTo Size Sets Costs k) (rowOk_mk (by omega) fun x hx => by have := h2 x hx; omega) (k : Int) Sets.length (Nat.le_refl _)
      omega
theorem raiseTo_row {Size : Int} {Sets : List (List Int)} {Costs : List Int} (h : goodSys Size Sets Costs = true) (k : Nat) : rowOk (raiseTo Size Sets Costs k) Size 1000000 = true := by
  have gf := gs_facts h
  obtain ⟨h1, h2⟩ := raiseTo_ok h k
  exact rowOk_mk (by omega) fun x hx => by have := h2 x hx; omega
def tightAt (Size : Int) (Sets : List (List Int)) (Costs : List Int) (k : Nat) : Bool := decide (priced (Sets.getD k []) (raiseTo Size Sets Costs Size.toNat) = Costs.getD k 0)
def raiseP (Size : Int) (Sets : List (List Int)) (Costs : List Int) : List Int := if goodSys Size Sets Costs = true then raiseTo Size Sets Costs Size.toNat else []
def raiseC (Size : Int) (Sets : List (List Int)) (Costs : List Int) : List Int := if goodSys Size Sets Costs = true then members (tightAt Size Sets Costs) Sets.length else []
theorem raiseP_len {Size : Int} {Sets : List (List Int)} {Costs : List Int} : (raiseP Size Sets Costs).length ≤ 8 := by
  unfold raiseP
  split
  · rename_i h
    have := gs_facts h
    have := (raiseTo_ok h Size.toNat).1
    omega
  · simp
abbrev s_RaisePrices_JJ0 (Size : Int) (Sets : List (List Int)) (Costs : List Int) (prices : List Int) (x : Int) : Prop := (goodSys Size Sets Costs = true) ∧ (0 ≤ x) ∧ (x ≤ Size) ∧ (prices = raiseTo Size Sets Costs x.toNat)
abbrev s_RaisePrices_mJ0 (Size : Int) (Sets : List (List Int)) (Costs : List Int) (prices : List Int) (x : Int) : Nat := (Size - x).toNat
abbrev s_RaisePrices_JA0 (Size : Int) (Sets : List (List Int)) (Costs : List Int) (prices : List Int) : Prop := (goodSys Size Sets Costs = true) ∧ (prices = raiseTo Size Sets Costs Size.toNat)
abbrev s_RaisePrices_JJ1 (Size : Int) (Sets : List (List Int)) (Costs : List Int) (prices : List Int) (x : Int) (room : Int) (j : Int) : Prop := (0 ≤ j) ∧ (j ≤ (Sets.length : Int)) ∧ (room = roomTo Sets Costs prices x j.toNat)
abbrev s_RaisePrices_mJ1 (Size : Int) (Sets : List (List Int)) (Costs : List Int) (prices : List Int) (x : Int) (room : Int) (j : Int) : Nat := (Sets.length - j).toNat
abbrev s_RaisePrices_JJ2 (Size : Int) (Sets : List (List Int)) (Costs : List Int) (prices : List Int) (choice : List Int) (i : Int) : Prop := (0 ≤ i) ∧ (i ≤ (Sets.length : Int)) ∧ (choice = members (tightAt Size Sets Costs) i.toNat)
abbrev s_RaisePrices_mJ2 (Size : Int) (Sets : List (List Int)) (Costs : List Int) (prices : List Int) (choice : List Int) (i : Int) : Nat := (Sets.length - i).toNat
def s_RaisePrices_C (f : FuncId) (ds : List D) : Orc := bif Nat.beq f 122 then s_l6Good_orc ds else bif Nat.beq f 180 then s_l6Priced_orc ds else bif Nat.beq f 182 then s_l1Has_orc ds else bif Nat.beq f 152 then s_l1Most_orc ds else .no
def s_RaisePrices_A (Size : Int) (Sets : List (List Int)) (Costs : List Int) : Ann := .two (.none) (.two (.none) (.two (.none) (.cut (.two (.none) (.loop (cut2 (fun (prices : List Int) (x : Int) => s_RaisePrices_JJ0 Size Sets Costs prices x) (fun (prices : List Int) (x : Int) => [(1, .ptr 1 0), (5, .own 19 prices.length), (6, .own 20 0), (7, .d true (.int .i64 x))]) (fun (prices : List Int) (x : Int) => [(19, .arr true 3 (.ints prices)), (1, .box 36 [.d false (.int .i64 Size), .d false (.sl (.rows Sets)), .d false (.sl (.ints Costs))]), (20, .arr true 3 (.ints ([])))])) (fun g => s_RaisePrices_mJ0 Size Sets Costs g.1 g.2) (fun g => (fun (prices : List Int) (x : Int) => .two (.none) (.two (.two (.none) (.two (.two (.none) (.loop (cut2 (fun (room : Int) (j : Int) => s_RaisePrices_JJ1 Size Sets Costs prices x room j) (fun (room : Int) (j : Int) => [(1, .ptr 1 0), (5, .own 19 prices.length), (6, .own 20 0), (7, .d true (.int .i64 x)), (8, .d true (.int .i64 room)), (9, .d true (.int .i64 j))]) (fun (room : Int) (j : Int) => [(1, .box 36 [.d false (.int .i64 Size), .d false (.sl (.rows Sets)), .d false (.sl (.ints Costs))]), (19, .arr true 3 (.ints prices)), (20, .arr true 3 (.ints ([])))])) (fun g => s_RaisePrices_mJ1 Size Sets Costs prices x g.1 g.2) (fun _ => .none))) (.none))) (.none))) (g.1) (g.2)))) (cut1 (fun (prices : List Int) => s_RaisePrices_JA0 Size Sets Costs prices) (fun (prices : List Int) => [(1, .ptr 1 0), (5, .own 1000050 prices.length), (6, .own 20 0)]) (fun (prices : List Int) => [(1000050, .arr true 3 (.ints prices)), (1, .box 36 [.d false (.int .i64 Size), .d false (.sl (.rows Sets)), .d false (.sl (.ints Costs))]), (20, .arr true 3 (.ints ([])))])) (fun g => (fun (prices : List Int) => .two (.two (.none) (.loop (cut2 (fun (choice : List Int) (i : Int) => s_RaisePrices_JJ2 Size Sets Costs prices choice i) (fun (choice : List Int) (i : Int) => [(1, .ptr 1 0), (5, .own 1000050 prices.length), (6, .own 1000200 choice.length), (11, .d true (.int .i64 i))]) (fun (choice : List Int) (i : Int) => [(1000200, .arr true 3 (.ints choice)), (1, .box 36 [.d false (.int .i64 Size), .d false (.sl (.rows Sets)), .d false (.sl (.ints Costs))]), (1000050, .arr true 3 (.ints prices))])) (fun g => s_RaisePrices_mJ2 Size Sets Costs prices g.1 g.2) (fun _ => .none))) (.none)) g))))
def s_RaisePrices_e1 (Sets : List (List Int)) (Costs : List Int) (prices : List Int) (x : Int) (room : Int) (j : Int) : Bool := (cond ((Sets.getD j.toNat []).contains x) (cond (decide (room < 0)) true (decide (((Costs.getD j.toNat 0) - (priced (Sets.getD j.toNat []) prices)) < room))) false)
def s_RaisePrices_P (Size : Int) (Sets : List (List Int)) (Costs : List Int) : Prop :=
  (PC Try.prog 122 [.agg [.int .i64 Size, .sl (.rows Sets), .sl (.ints Costs)]] (.one (.d (.bool (goodSys Size Sets Costs))))) ∧ (((!(goodSys Size Sets Costs)) = true → (((0 : Nat) = 0) ∧ (([] : List Int) = (raiseP Size Sets Costs)) ∧ ((0 : Nat) = 0) ∧ (([] : List Int) = (raiseC Size Sets Costs)) ∧ (false = (goodSys Size Sets Costs)))) ∧ ((!(goodSys Size Sets Costs)) = false → (Size = Size) ∧ ((0 : Int) ≤ Size) ∧ ((Size : Int) * ((8 : Nat) : Int) ≤ 140737488355328) ∧ ((((∃ prices' : List Int, ∃ x' : Int, (s_RaisePrices_JJ0 Size Sets Costs prices' x') ∧ (Size.toNat = prices'.length) ∧ ((0 : Nat) = 0) ∧ ((0 : Int) = x') ∧ ((List.replicate Size.toNat (0 : Int)) = prices') ∧ (Size = Size) ∧ (Sets = Sets) ∧ (Costs = Costs) ∧ (([] : List Int) = [])) ∧ (∀ prices : List Int, ∀ x : Int, (s_RaisePrices_JJ0 Size Sets Costs prices x) → (((decide (x < Size)) = true → ((∃ room' : Int, ∃ j' : Int, (s_RaisePrices_JJ1 Size Sets Costs prices x room' j') ∧ (prices.length = prices.length) ∧ ((0 : Nat) = 0) ∧ (x = x) ∧ (((-1) : Int) = room') ∧ ((0 : Int) = j') ∧ (Size = Size) ∧ (Sets = Sets) ∧ (Costs = Costs) ∧ (prices = prices) ∧ (([] : List Int) = [])) ∧ (∀ room : Int, ∀ j : Int, (s_RaisePrices_JJ1 Size Sets Costs prices x room j) → (((decide (j < (Sets.length : Int))) = true → (true = true) ∧ ((0 : Int) ≤ j) ∧ ((j : Int) < Costs.length) ∧ (j.toNat < Costs.length) ∧ ((0 : Int) ≤ j) ∧ ((j : Int) < Sets.length) ∧ (j.toNat < Sets.length) ∧ (prices.length = prices.length) ∧ (PC Try.prog 180 [.sl (.ints (Sets.getD j.toNat [])), .sl (.ints prices)] (.one (.d (.int .i64 (priced (Sets.getD j.toNat []) prices))))) ∧ (-9223372036854775808 ≤ ((Costs.getD j.toNat 0) - (priced (Sets.getD j.toNat []) prices)) ∧ ((Costs.getD j.toNat 0) - (priced (Sets.getD j.toNat []) prices)) ≤ 9223372036854775807) ∧ ((0 : Int) ≤ j) ∧ ((j : Int) < Sets.length) ∧ (j.toNat < Sets.length) ∧ (PC Try.prog 182 [.sl (.ints (Sets.getD j.toNat [])), .int .i64 x] (.one (.d (.bool ((Sets.getD j.toNat []).contains x))))) ∧ (((Sets.getD j.toNat []).contains x) = true → ((Sets.getD j.toNat []).contains x) = true) ∧ (((Sets.getD j.toNat []).contains x) = true → ((Sets.getD j.toNat []).contains x) = true) ∧ ((((Sets.getD j.toNat []).contains x) && (!(decide (room < 0)))) = true → (((Sets.getD j.toNat []).contains x) && (!(decide (room < 0)))) = true) ∧ ((((Sets.getD j.toNat []).contains x) && (!(decide (room < 0)))) = true → (((Sets.getD j.toNat []).contains x) && (!(decide (room < 0)))) = true) ∧ ((((Sets.getD j.toNat []).contains x) = true → ((Sets.getD j.toNat []).contains x) = true)) ∧ ((((Sets.getD j.toNat []).contains x) = true → (decide (room < 0)) = true → true = true)) ∧ ((((Sets.getD j.toNat []).contains x) = true → (decide (room < 0)) = false → (((Sets.getD j.toNat []).contains x) && (!(decide (room < 0)))) = true)) ∧ (true = true) ∧ ((((Sets.getD j.toNat []).contains x) = true → ((Sets.getD j.toNat []).contains x) = true)) ∧ ((((Sets.getD j.toNat []).contains x) = false → true = true)) ∧ (((s_RaisePrices_e1 Sets Costs prices x room j) = true → (-9223372036854775808 ≤ (j + 1) ∧ (j + 1) ≤ 9223372036854775807) ∧ (∃ room' : Int, ∃ j' : Int, (s_RaisePrices_JJ1 Size Sets Costs prices x room' j') ∧ (s_RaisePrices_mJ1 Size Sets Costs prices x room' j' < s_RaisePrices_mJ1 Size Sets Costs prices x room j) ∧ (prices.length = prices.length) ∧ ((0 : Nat) = 0) ∧ (x = x) ∧ (((Costs.getD j.toNat 0) - (priced (Sets.getD j.toNat []) prices)) = room') ∧ ((j + 1) = j') ∧ (Size = Size) ∧ (Sets = Sets) ∧ (Costs = Costs) ∧ (prices = prices) ∧ (([] : List Int) = []))) ∧ ((s_RaisePrices_e1 Sets Costs prices x room j) = false → (-9223372036854775808 ≤ (j + 1) ∧ (j + 1) ≤ 9223372036854775807) ∧ (∃ room' : Int, ∃ j' : Int, (s_RaisePrices_JJ1 Size Sets Costs prices x room' j') ∧ (s_RaisePrices_mJ1 Size Sets Costs prices x room' j' < s_RaisePrices_mJ1 Size Sets Costs prices x room j) ∧ (prices.length = prices.length) ∧ ((0 : Nat) = 0) ∧ (x = x) ∧ (room = room') ∧ ((j + 1) = j') ∧ (Size = Size) ∧ (Sets = Sets) ∧ (Costs = Costs) ∧ (prices = prices) ∧ (([] : List Int) = []))))) ∧ ((decide (j < (Sets.length : Int))) = false → (PC Try.prog 152 [.int .i64 room, .int .i64 0] (.one (.d (.int .i64 (max room 0))))) ∧ ((0 : Int) ≤ x) ∧ ((x : Int) < (prices.length : Int)) ∧ (x.toNat < prices.length) ∧ (-9223372036854775808 ≤ (x + 1) ∧ (x + 1) ≤ 9223372036854775807) ∧ (∃ prices' : List Int, ∃ x' : Int, (s_RaisePrices_JJ0 Size Sets Costs prices' x') ∧ (s_RaisePrices_mJ0 Size Sets Costs prices' x' < s_RaisePrices_mJ0 Size Sets Costs prices x) ∧ (prices.length = prices'.length) ∧ ((0 : Nat) = 0) ∧ ((x + 1) = x') ∧ ((prices.set x.toNat (max room 0)) = prices') ∧ (Size = Size) ∧ (Sets = Sets) ∧ (Costs = Costs) ∧ (([] : List Int) = []))))))) ∧ ((decide (x < Size)) = false → (∃ prices' : List Int, (s_RaisePrices_JA0 Size Sets Costs prices') ∧ (prices.length = prices'.length) ∧ ((0 : Nat) = 0) ∧ (prices = prices') ∧ (Size = Size) ∧ (Sets = Sets) ∧ (Costs = Costs) ∧ (([] : List Int) = []))))))) ∧ (∀ prices : List Int, (s_RaisePrices_JA0 Size Sets Costs prices) → ((∃ choice' : List Int, ∃ i' : Int, (s_RaisePrices_JJ2 Size Sets Costs prices choice' i') ∧ (prices.length = prices.length) ∧ ((0 : Nat) = choice'.length) ∧ ((0 : Int) = i') ∧ ([] = choice') ∧ (Size = Size) ∧ (Sets = Sets) ∧ (Costs = Costs) ∧ (prices = prices)) ∧ (∀ choice : List Int, ∀ i : Int, (s_RaisePrices_JJ2 Size Sets Costs prices choice i) → (((decide (i < (Sets.length : Int))) = true → (true = true) ∧ ((0 : Int) ≤ i) ∧ ((i : Int) < Sets.length) ∧ (i.toNat < Sets.length) ∧ (prices.length = prices.length) ∧ (PC Try.prog 180 [.sl (.ints (Sets.getD i.toNat [])), .sl (.ints prices)] (.one (.d (.int .i64 (priced (Sets.getD i.toNat []) prices))))) ∧ ((0 : Int) ≤ i) ∧ ((i : Int) < Costs.length) ∧ (i.toNat < Costs.length) ∧ ((((priced (Sets.getD i.toNat []) prices) == (Costs.getD i.toNat 0)) = true → (choice.length = choice.length) ∧ ((1 : Nat) = 1) ∧ ((choice.length + 1) * 8 ≤ 140737488355328) ∧ (-9223372036854775808 ≤ (i + 1) ∧ (i + 1) ≤ 9223372036854775807) ∧ (∃ choice' : List Int, ∃ i' : Int, (s_RaisePrices_JJ2 Size Sets Costs prices choice' i') ∧ (s_RaisePrices_mJ2 Size Sets Costs prices choice' i' < s_RaisePrices_mJ2 Size Sets Costs prices choice i) ∧ (prices.length = prices.length) ∧ ((choice.length + 1) = choice'.length) ∧ ((i + 1) = i') ∧ ((choice ++ [i]) = choice') ∧ (Size = Size) ∧ (Sets = Sets) ∧ (Costs = Costs) ∧ (prices = prices))) ∧ (((priced (Sets.getD i.toNat []) prices) == (Costs.getD i.toNat 0)) = false → (-9223372036854775808 ≤ (i + 1) ∧ (i + 1) ≤ 9223372036854775807) ∧ (∃ choice' : List Int, ∃ i' : Int, (s_RaisePrices_JJ2 Size Sets Costs prices choice' i') ∧ (s_RaisePrices_mJ2 Size Sets Costs prices choice' i' < s_RaisePrices_mJ2 Size Sets Costs prices choice i) ∧ (prices.length = prices.length) ∧ (choice.length = choice'.length) ∧ ((i + 1) = i') ∧ (choice = choice') ∧ (Size = Size) ∧ (Sets = Sets) ∧ (Costs = Costs) ∧ (prices = prices))))) ∧ ((decide (i < (Sets.length : Int))) = false → ((prices.length = prices.length) ∧ ((prices : List Int) = (raiseP Size Sets Costs)) ∧ (choice.length = choice.length) ∧ ((choice : List Int) = (raiseC Size Sets Costs)) ∧ (true = (goodSys Size Sets Costs)))))))))))
theorem s_RaisePrices_vc (Size : Int) (Sets : List (List Int)) (Costs : List Int)  (w_Sets : (Sets.length : Int) ≤ 9223372036854775807) (v_Sets : ∀ x9 ∈ Sets, (x9.length : Int) ≤ 9223372036854775807) (w_Costs : (Costs.length : Int) ≤ 9223372036854775807) : s_RaisePrices_P Size Sets Costs := by
  unfold s_RaisePrices_P s_RaisePrices_e1
  refine ⟨s_l6Good_pc Size Sets Costs, ?_, ?_⟩
  ·intro b1
   try simp only [nrmT] at b1
   refine ⟨rfl, ?_, rfl, ?_, ?_⟩
   ·unfold raiseP; rw [b1]; rfl
   ·unfold raiseC; rw [b1]; rfl
   ·exact b1.symm
  ·intro b2
   try simp only [nrmT] at b2
   refine ⟨rfl, ?_, ?_, ?_, ?_⟩
   ·have gf := gs_facts (by first | exact hg | exact hg2 | exact b2)
    omega
   ·have gf := gs_facts (by first | exact hg | exact hg2 | exact b2)
    omega
   ·refine ⟨?_, ?_⟩
    ·refine ⟨(List.replicate Size.toNat (0 : Int)), 0, ?_⟩
     refine ⟨?_, ?_, rfl, rfl, rfl, rfl, rfl, rfl, rfl⟩
     ·refine ⟨?_, ?_, ?_, ?_⟩
      ·first | exact hg | exact hg2 | exact b2
      ·omega
      ·have gf := gs_facts (by first | exact hg | exact hg2 | exact b2)
       omega
      ·rfl
     ·(simp_all; done)
    ·intro prices x hJ
     obtain ⟨hg, h1, h2, h3⟩ := hJ
     refine ⟨?_, ?_⟩
     ·intro b3
      try simp only [nrmT] at b3
      refine ⟨?_, ?_⟩
      ·refine ⟨(-1), 0, ?_⟩
       refine ⟨?_, rfl, rfl, rfl, rfl, rfl, rfl, rfl, rfl, rfl, rfl⟩
       ·refine ⟨?_, ?_, ?_⟩
        ·omega
        ·omega
        ·rfl
      ·intro room j hJ
       obtain ⟨h4, h5, h6⟩ := hJ
       refine ⟨?_, ?_⟩
       ·intro b4
        try simp only [nrmT] at b4
        refine ⟨rfl, ?_, ?_, ?_, ?_, ?_, ?_, rfl, ?_, ?_, ?_, ?_, ?_, s_l1Has_pc (Sets.getD j.toNat []) x, id, id, id, id, id, fun _ _ => rfl, ?_, rfl, id, fun _ => rfl, ?_, ?_⟩
        ·omega
        ·have gf := gs_facts (by first | exact hg | exact hg2 | exact b4)
         omega
        ·have gf := gs_facts (by first | exact hg | exact hg2 | exact b4)
         omega
        ·omega
        ·have gf := gs_facts (by first | exact hg | exact hg2 | exact b4)
         omega
        ·have gf := gs_facts (by first | exact hg | exact hg2 | exact b4)
         omega
        ·refine s_l6Priced_pc (Sets.getD j.toNat []) prices ?_
         ·have hgg : goodSys Size Sets Costs = true := by first | exact hg | exact hg2
          have gf := gs_facts hgg
          exact ⟨Size, gs_set hgg (by omega), (by first | (rw [h8]; exact raiseTo_row hg2 _) | (rw [h3]; exact raiseTo_row hg _)), gf.1, gf.2.1⟩
        ·have gf := gs_facts (by first | exact hg | exact hg2 | exact b4)
         have gc := gs_cost hg (k := j.toNat) (by omega)
         have pb := priced_bound (prices := prices) (gs_set hg (k := j.toNat) (by omega)) (by first | (rw [h8]; exact raiseTo_row hg2 _) | (rw [h3]; exact raiseTo_row hg _)) ⟨gf.1, gf.2.1⟩
         omega
        ·omega
        ·have gf := gs_facts (by first | exact hg | exact hg2 | exact b4)
         omega
        ·have gf := gs_facts (by first | exact hg | exact hg2 | exact b4)
         omega
        ·intro g1 g2; rw [g1, g2]; rfl
        ·intro b5
         refine ⟨?_, ?_⟩
         ·omega
         ·refine ⟨((Costs.getD j.toNat 0) - (priced (Sets.getD j.toNat []) prices)), (j + 1), ?_⟩
          refine ⟨?_, ?_, rfl, rfl, rfl, rfl, rfl, rfl, rfl, rfl, rfl, rfl⟩
          ·refine ⟨?_, ?_, ?_⟩
           ·omega
           ·have gf := gs_facts (by first | exact hg | exact hg2 | exact b5)
            omega
           ·rw [cond_and_or] at b5
            rw [show (j + 1).toNat = j.toNat + 1 by omega, roomTo_succ, ← h6]
            unfold roomF
            rw [if_pos b5]
          ·have gf := gs_facts (by first | exact hg | exact hg2 | exact bX)
           first | (show _ < _; omega) | (simp only [s_RaisePrices_mJ1]; omega) | (simp only [s_RaisePrices_mJ1] at *; simp at *; omega)
        ·intro b6
         refine ⟨?_, ?_⟩
         ·omega
         ·refine ⟨room, (j + 1), ?_⟩
          refine ⟨?_, ?_, rfl, rfl, rfl, rfl, rfl, rfl, rfl, rfl, rfl, rfl⟩
          ·refine ⟨?_, ?_, ?_⟩
           ·omega
           ·have gf := gs_facts (by first | exact hg | exact hg2 | exact b6)
            omega
           ·rw [cond_and_or] at b6
            rw [show (j + 1).toNat = j.toNat + 1 by omega, roomTo_succ, ← h6]
            unfold roomF
            rw [if_neg (by rw [b6]; decide)]
          ·have gf := gs_facts (by first | exact hg | exact hg2 | exact bX)
           first | (show _ < _; omega) | (simp only [s_RaisePrices_mJ1]; omega) | (simp only [s_RaisePrices_mJ1] at *; simp at *; omega)
       ·intro b7
        try simp only [nrmT] at b7
        refine ⟨s_l1Most_pc room 0, ?_, ?_, ?_, ?_, ?_⟩
        ·omega
        ·have := (raiseTo_ok hg x.toNat).1
         rw [← h3] at this
         omega
        ·have := (raiseTo_ok hg x.toNat).1
         rw [← h3] at this
         omega
        ·have gf := gs_facts (by first | exact hg | exact hg2 | exact b7)
         omega
        ·refine ⟨(prices.set x.toNat (max room 0)), (x + 1), ?_⟩
         refine ⟨?_, ?_, ?_, rfl, rfl, rfl, rfl, rfl, rfl, rfl⟩
         ·refine ⟨?_, ?_, ?_, ?_⟩
          ·first | exact hg | exact hg2 | exact b7
          ·omega
          ·omega
          ·have er : room = roomTo Sets Costs prices x Sets.length := by rw [h6, show j.toNat = Sets.length by omega]
           rw [show (x + 1).toNat = x.toNat + 1 by omega, raiseTo_succ, ← h3]
           unfold raiseF
           rw [show ((x.toNat : Nat) : Int) = x by omega, ← er]
           first | done | rw [Int.max_comm]
         ·first | (show _ < _; omega) | (simp only [s_RaisePrices_mJ0]; omega) | (simp only [s_RaisePrices_mJ0] at *; simp at *; omega)
         ·(simp_all; done)
     ·intro b8
      try simp only [nrmT] at b8
      refine ⟨prices, ?_⟩
      refine ⟨?_, rfl, rfl, rfl, rfl, rfl, rfl, rfl⟩
      ·refine ⟨?_, ?_⟩
       ·first | exact hg | exact hg2 | exact b8
       ·rw [h3, show x.toNat = Size.toNat by omega]
   ·intro prices hJ
    obtain ⟨hg2, h8⟩ := hJ
    refine ⟨?_, ?_⟩
    ·refine ⟨([]), 0, ?_⟩
     refine ⟨?_, rfl, rfl, rfl, ?_, rfl, rfl, rfl, rfl⟩
     ·refine ⟨?_, ?_, ?_⟩
      ·omega
      ·omega
      ·rfl
     ·rfl
    ·intro choice i hJ
     obtain ⟨k1, k2, k3⟩ := hJ
     refine ⟨?_, ?_⟩
     ·intro b9
      try simp only [nrmT] at b9
      refine ⟨rfl, ?_, ?_, ?_, rfl, ?_, ?_, ?_, ?_, ?_, ?_⟩
      ·omega
      ·have gf := gs_facts (by first | exact hg | exact hg2 | exact b9)
       omega
      ·have gf := gs_facts (by first | exact hg | exact hg2 | exact b9)
       omega
      ·refine s_l6Priced_pc (Sets.getD i.toNat []) prices ?_
       ·have hgg : goodSys Size Sets Costs = true := by first | exact hg | exact hg2
        have gf := gs_facts hgg
        exact ⟨Size, gs_set hgg (by omega), (by first | (rw [h8]; exact raiseTo_row hg2 _) | (rw [h3]; exact raiseTo_row hg _)), gf.1, gf.2.1⟩
      ·omega
      ·have gf := gs_facts (by first | exact hg | exact hg2 | exact b9)
       omega
      ·have gf := gs_facts (by first | exact hg | exact hg2 | exact b9)
       omega
      ·intro b10
       try simp only [nrmT] at b10
       refine ⟨rfl, rfl, ?_, ?_, ?_⟩
       ·rw [k3]; have := members_len_le (tightAt Size Sets Costs) i.toNat
        have gf := gs_facts (by first | exact hg | exact hg2 | exact b10)
        omega
       ·omega
       ·refine ⟨(choice ++ [i]), (i + 1), ?_⟩
        refine ⟨?_, ?_, rfl, ?_, rfl, rfl, rfl, rfl, rfl, rfl⟩
        ·refine ⟨?_, ?_, ?_⟩
         ·omega
         ·have gf := gs_facts (by first | exact hg | exact hg2 | exact b10)
          omega
         ·rw [k3, show (i + 1).toNat = i.toNat + 1 by omega, members_succ, if_pos (by unfold tightAt; rw [← h8]; exact decide_eq_true b10), show ((i.toNat : Nat) : Int) = i by omega]
        ·have gf := gs_facts (by first | exact hg | exact hg2 | exact bX)
         first | (show _ < _; omega) | (simp only [s_RaisePrices_mJ2]; omega) | (simp only [s_RaisePrices_mJ2] at *; simp at *; omega)
        ·simp
      ·intro b11
       try simp only [nrmT] at b11
       refine ⟨?_, ?_⟩
       ·omega
       ·refine ⟨choice, (i + 1), ?_⟩
        refine ⟨?_, ?_, rfl, rfl, rfl, rfl, rfl, rfl, rfl, rfl⟩
        ·refine ⟨?_, ?_, ?_⟩
         ·omega
         ·have gf := gs_facts (by first | exact hg | exact hg2 | exact b11)
          omega
         ·rw [k3, show (i + 1).toNat = i.toNat + 1 by omega, members_succ, if_neg (by unfold tightAt; rw [← h8]; simpa using b11), List.append_nil]
        ·have gf := gs_facts (by first | exact hg | exact hg2 | exact bX)
         first | (show _ < _; omega) | (simp only [s_RaisePrices_mJ2]; omega) | (simp only [s_RaisePrices_mJ2] at *; simp at *; omega)
     ·intro b12
      try simp only [nrmT] at b12
      refine ⟨rfl, ?_, rfl, ?_, ?_⟩
      ·unfold raiseP; rw [if_pos hg2, ← h8]
      ·have gf := gs_facts (by first | exact hg | exact hg2 | exact b12)
       unfold raiseC; rw [if_pos hg2, k3, show i.toNat = Sets.length by omega]
      ·exact hg2.symm
theorem s_RaisePrices_pc (Size : Int) (Sets : List (List Int)) (Costs : List Int)  : PC Try.prog 88 [.agg [.int .i64 Size, .sl (.rows Sets), .sl (.ints Costs)]] (.tup [.d (.sl (.ints (raiseP Size Sets Costs))), .d (.sl (.ints (raiseC Size Sets Costs))), .d (.bool (goodSys Size Sets Costs))]) :=
  pc_wf @Try.call88 fun hw => pc_by (by kernel_rfl) Try.func88 @Try.call88 (by kernel_rfl) s_RaisePrices_C (s_RaisePrices_A Size Sets Costs) (by kernel_rfl) (s_RaisePrices_vc Size Sets Costs hw.1.2.1.1 hw.1.2.1.2 hw.1.2.2.1) (by kernel_rfl)
def s_RaisePrices_orc : List D → Orc := orcN [none] fun ds => match ds with
  | [.agg [.int .i64 Size, .sl (.rows Sets), .sl (.ints Costs)]] => some (.tup [.d (.sl (.ints (raiseP Size Sets Costs))), .d (.sl (.ints (raiseC Size Sets Costs))), .d (.bool (goodSys Size Sets Costs))])
  | _ => none
abbrev i_RaisePrices_JJ0 (Size : Int) (Sets : List (List Int)) (Costs : List Int) (prices : List Int) (x : Int) : Prop := (goodSys Size Sets Costs = true) ∧ (0 ≤ x) ∧ (x ≤ Size) ∧ (prices = raiseTo Size Sets Costs x.toNat)
abbrev i_RaisePrices_mJ0 (Size : Int) (Sets : List (List Int)) (Costs : List Int) (prices : List Int) (x : Int) : Nat := (Size - x).toNat
abbrev i_RaisePrices_JA0 (Size : Int) (Sets : List (List Int)) (Costs : List Int) (prices : List Int) : Prop := (goodSys Size Sets Costs = true) ∧ (prices = raiseTo Size Sets Costs Size.toNat)
abbrev i_RaisePrices_JJ1 (Size : Int) (Sets : List (List Int)) (Costs : List Int) (prices : List Int) (x : Int) (room : Int) (j : Int) : Prop := (0 ≤ j) ∧ (j ≤ (Sets.length : Int)) ∧ (room = roomTo Sets Costs prices x j.toNat)
abbrev i_RaisePrices_mJ1 (Size : Int) (Sets : List (List Int)) (Costs : List Int) (prices : List Int) (x : Int) (room : Int) (j : Int) : Nat := (Sets.length - j).toNat
abbrev i_RaisePrices_JJ2 (Size : Int) (Sets : List (List Int)) (Costs : List Int) (prices : List Int) (choice : List Int) (i : Int) : Prop := (0 ≤ i) ∧ (i ≤ (Sets.length : Int)) ∧ (choice = members (tightAt Size Sets Costs) i.toNat)
abbrev i_RaisePrices_mJ2 (Size : Int) (Sets : List (List Int)) (Costs : List Int) (prices : List Int) (choice : List Int) (i : Int) : Nat := (Sets.length - i).toNat
def i_RaisePrices_C (f : FuncId) (ds : List D) : Orc := bif Nat.beq f 76 then i_IsSystem_orc ds else bif Nat.beq f 179 then i_System_priceOf_orc ds else bif Nat.beq f 181 then slices_Contains_int_int__orc ds else .no
def i_RaisePrices_A (Size : Int) (Sets : List (List Int)) (Costs : List Int) : Ann := .two (.none) (.two (.none) (.two (.none) (.cut (.two (.none) (.loop (cut2 (fun (prices : List Int) (x : Int) => i_RaisePrices_JJ0 Size Sets Costs prices x) (fun (prices : List Int) (x : Int) => [(1, .ptr 1 0), (5, .own 19 prices.length), (21, .d false (.int .i64 Size)), (22, .d true (.int .i64 x))]) (fun (prices : List Int) (x : Int) => [(19, .arr true 3 (.ints prices)), (1, .box 36 [.d false (.int .i64 Size), .d false (.sl (.rows Sets)), .d false (.sl (.ints Costs))])])) (fun g => i_RaisePrices_mJ0 Size Sets Costs g.1 g.2) (fun g => (fun (prices : List Int) (x : Int) => .two (.none) (.two (.none) (.two (.two (.none) (.two (.none) (.two (.two (.none) (.loop (cut2 (fun (room : Int) (j : Int) => i_RaisePrices_JJ1 Size Sets Costs prices x room j) (fun (room : Int) (j : Int) => [(1, .ptr 1 0), (5, .own 19 prices.length), (6, .d true (.int .i64 x)), (7, .d true (.int .i64 room)), (21, .d false (.int .i64 Size)), (22, .d true (.int .i64 x)), (26, .d false (.sl (.rows Sets))), (27, .d true (.int .i64 (Sets.length : Int))), (28, .d true (.int .i64 j))]) (fun (room : Int) (j : Int) => [(1, .box 36 [.d false (.int .i64 Size), .d false (.sl (.rows Sets)), .d false (.sl (.ints Costs))]), (19, .arr true 3 (.ints prices))])) (fun g => i_RaisePrices_mJ1 Size Sets Costs prices x g.1 g.2) (fun _ => .none))) (.none)))) (.none)))) (g.1) (g.2)))) (cut1 (fun (prices : List Int) => i_RaisePrices_JA0 Size Sets Costs prices) (fun (prices : List Int) => [(1, .ptr 1 0), (5, .own 1000050 prices.length)]) (fun (prices : List Int) => [(1000050, .arr true 3 (.ints prices)), (1, .box 36 [.d false (.int .i64 Size), .d false (.sl (.rows Sets)), .d false (.sl (.ints Costs))])])) (fun g => (fun (prices : List Int) => .two (.none) (.two (.two (.none) (.loop (cut2 (fun (choice : List Int) (i : Int) => i_RaisePrices_JJ2 Size Sets Costs prices choice i) (fun (choice : List Int) (i : Int) => [(1, .ptr 1 0), (5, .own 1000050 prices.length), (11, .own 1000200 choice.length), (65, .d false (.sl (.ints Costs))), (66, .d true (.int .i64 (Costs.length : Int))), (67, .d true (.int .i64 i))]) (fun (choice : List Int) (i : Int) => [(1000200, .arr true 3 (.ints choice)), (1, .box 36 [.d false (.int .i64 Size), .d false (.sl (.rows Sets)), .d false (.sl (.ints Costs))]), (1000050, .arr true 3 (.ints prices))])) (fun g => i_RaisePrices_mJ2 Size Sets Costs prices g.1 g.2) (fun _ => .none))) (.none))) g))))
def i_RaisePrices_e1 (Sets : List (List Int)) (Costs : List Int) (prices : List Int) (x : Int) (room : Int) (j : Int) : Bool := (cond ((Sets.getD j.toNat []).contains x) (cond (decide (room < 0)) true (decide (((Costs.getD j.toNat 0) - (priced (Sets.getD j.toNat []) prices)) < room))) false)
def i_RaisePrices_P (Size : Int) (Sets : List (List Int)) (Costs : List Int) : Prop :=
  (PC Try.prog 76 [.agg [.int .i64 Size, .sl (.rows Sets), .sl (.ints Costs)]] (.one (.d (.bool (goodSys Size Sets Costs))))) ∧ (((!(goodSys Size Sets Costs)) = true → (((raiseP Size Sets Costs).length = 0) ∧ ((raiseC Size Sets Costs).length = 0) ∧ (false = (goodSys Size Sets Costs)))) ∧ ((!(goodSys Size Sets Costs)) = false → (Size = Size) ∧ ((0 : Int) ≤ Size) ∧ ((Size : Int) * ((8 : Nat) : Int) ≤ 140737488355328) ∧ ((((∃ prices' : List Int, ∃ x' : Int, (i_RaisePrices_JJ0 Size Sets Costs prices' x') ∧ (Size.toNat = prices'.length) ∧ (Size = Size) ∧ ((0 : Int) = x') ∧ ((List.replicate Size.toNat (0 : Int)) = prices') ∧ (Size = Size) ∧ (Sets = Sets) ∧ (Costs = Costs)) ∧ (∀ prices : List Int, ∀ x : Int, (i_RaisePrices_JJ0 Size Sets Costs prices x) → (((decide (x < Size)) = true → ((∃ room' : Int, ∃ j' : Int, (i_RaisePrices_JJ1 Size Sets Costs prices x room' j') ∧ (prices.length = prices.length) ∧ (x = x) ∧ (((-1) : Int) = room') ∧ (Size = Size) ∧ (x = x) ∧ (Sets = Sets) ∧ ((Sets.length : Int) = (Sets.length : Int)) ∧ ((0 : Int) = j') ∧ (Size = Size) ∧ (Sets = Sets) ∧ (Costs = Costs) ∧ (prices = prices)) ∧ (∀ room : Int, ∀ j : Int, (i_RaisePrices_JJ1 Size Sets Costs prices x room j) → (((decide (j < (Sets.length : Int))) = true → ((0 : Int) ≤ j) ∧ ((j : Int) < Sets.length) ∧ (j.toNat < Sets.length) ∧ (true = true) ∧ ((0 : Int) ≤ j) ∧ ((j : Int) < Costs.length) ∧ (j.toNat < Costs.length) ∧ (prices.length = prices.length) ∧ (PC Try.prog 179 [.agg [.int .i64 Size, .sl (.rows Sets), .sl (.ints Costs)], .int .i64 j, .sl (.ints prices)] (.one (.d (.int .i64 (priced (Sets.getD j.toNat []) prices))))) ∧ (-9223372036854775808 ≤ ((Costs.getD j.toNat 0) - (priced (Sets.getD j.toNat []) prices)) ∧ ((Costs.getD j.toNat 0) - (priced (Sets.getD j.toNat []) prices)) ≤ 9223372036854775807) ∧ (PC Try.prog 181 [.sl (.ints (Sets.getD j.toNat [])), .int .i64 x] (.one (.d (.bool ((Sets.getD j.toNat []).contains x))))) ∧ (((Sets.getD j.toNat []).contains x) = true → ((Sets.getD j.toNat []).contains x) = true) ∧ (((Sets.getD j.toNat []).contains x) = true → ((Sets.getD j.toNat []).contains x) = true) ∧ ((((Sets.getD j.toNat []).contains x) && (!(decide (room < 0)))) = true → (((Sets.getD j.toNat []).contains x) && (!(decide (room < 0)))) = true) ∧ ((((Sets.getD j.toNat []).contains x) && (!(decide (room < 0)))) = true → (((Sets.getD j.toNat []).contains x) && (!(decide (room < 0)))) = true) ∧ ((((Sets.getD j.toNat []).contains x) = true → ((Sets.getD j.toNat []).contains x) = true)) ∧ ((((Sets.getD j.toNat []).contains x) = true → (decide (room < 0)) = true → true = true)) ∧ ((((Sets.getD j.toNat []).contains x) = true → (decide (room < 0)) = false → (((Sets.getD j.toNat []).contains x) && (!(decide (room < 0)))) = true)) ∧ (true = true) ∧ ((((Sets.getD j.toNat []).contains x) = true → ((Sets.getD j.toNat []).contains x) = true)) ∧ ((((Sets.getD j.toNat []).contains x) = false → true = true)) ∧ (((i_RaisePrices_e1 Sets Costs prices x room j) = true → (-9223372036854775808 ≤ (j + 1) ∧ (j + 1) ≤ 9223372036854775807) ∧ (∃ room' : Int, ∃ j' : Int, (i_RaisePrices_JJ1 Size Sets Costs prices x room' j') ∧ (i_RaisePrices_mJ1 Size Sets Costs prices x room' j' < i_RaisePrices_mJ1 Size Sets Costs prices x room j) ∧ (prices.length = prices.length) ∧ (x = x) ∧ (((Costs.getD j.toNat 0) - (priced (Sets.getD j.toNat []) prices)) = room') ∧ (Size = Size) ∧ (x = x) ∧ (Sets = Sets) ∧ ((Sets.length : Int) = (Sets.length : Int)) ∧ ((j + 1) = j') ∧ (Size = Size) ∧ (Sets = Sets) ∧ (Costs = Costs) ∧ (prices = prices))) ∧ ((i_RaisePrices_e1 Sets Costs prices x room j) = false → (-9223372036854775808 ≤ (j + 1) ∧ (j + 1) ≤ 9223372036854775807) ∧ (∃ room' : Int, ∃ j' : Int, (i_RaisePrices_JJ1 Size Sets Costs prices x room' j') ∧ (i_RaisePrices_mJ1 Size Sets Costs prices x room' j' < i_RaisePrices_mJ1 Size Sets Costs prices x room j) ∧ (prices.length = prices.length) ∧ (x = x) ∧ (room = room') ∧ (Size = Size) ∧ (x = x) ∧ (Sets = Sets) ∧ ((Sets.length : Int) = (Sets.length : Int)) ∧ ((j + 1) = j') ∧ (Size = Size) ∧ (Sets = Sets) ∧ (Costs = Costs) ∧ (prices = prices))))) ∧ ((decide (j < (Sets.length : Int))) = false → ((0 : Int) ≤ x) ∧ ((x : Int) < (prices.length : Int)) ∧ (x.toNat < prices.length) ∧ (-9223372036854775808 ≤ (x + 1) ∧ (x + 1) ≤ 9223372036854775807) ∧ (∃ prices' : List Int, ∃ x' : Int, (i_RaisePrices_JJ0 Size Sets Costs prices' x') ∧ (i_RaisePrices_mJ0 Size Sets Costs prices' x' < i_RaisePrices_mJ0 Size Sets Costs prices x) ∧ (prices.length = prices'.length) ∧ (Size = Size) ∧ ((x + 1) = x') ∧ ((prices.set x.toNat (max 0 room)) = prices') ∧ (Size = Size) ∧ (Sets = Sets) ∧ (Costs = Costs))))))) ∧ ((decide (x < Size)) = false → (∃ prices' : List Int, (i_RaisePrices_JA0 Size Sets Costs prices') ∧ (prices.length = prices'.length) ∧ (prices = prices') ∧ (Size = Size) ∧ (Sets = Sets) ∧ (Costs = Costs))))))) ∧ (∀ prices : List Int, (i_RaisePrices_JA0 Size Sets Costs prices) → ((∃ choice' : List Int, ∃ i' : Int, (i_RaisePrices_JJ2 Size Sets Costs prices choice' i') ∧ (prices.length = prices.length) ∧ ((0 : Nat) = choice'.length) ∧ (Costs = Costs) ∧ ((Costs.length : Int) = (Costs.length : Int)) ∧ ((0 : Int) = i') ∧ ([] = choice') ∧ (Size = Size) ∧ (Sets = Sets) ∧ (Costs = Costs) ∧ (prices = prices)) ∧ (∀ choice : List Int, ∀ i : Int, (i_RaisePrices_JJ2 Size Sets Costs prices choice i) → (((decide (i < (Costs.length : Int))) = true → ((0 : Int) ≤ i) ∧ ((i : Int) < Costs.length) ∧ (i.toNat < Costs.length) ∧ (prices.length = prices.length) ∧ (PC Try.prog 179 [.agg [.int .i64 Size, .sl (.rows Sets), .sl (.ints Costs)], .int .i64 i, .sl (.ints prices)] (.one (.d (.int .i64 (priced (Sets.getD i.toNat []) prices))))) ∧ ((((priced (Sets.getD i.toNat []) prices) == (Costs.getD i.toNat 0)) = true → (choice.length = choice.length) ∧ ((1 : Nat) = 1) ∧ ((choice.length + 1) * 8 ≤ 140737488355328) ∧ (-9223372036854775808 ≤ (i + 1) ∧ (i + 1) ≤ 9223372036854775807) ∧ (∃ choice' : List Int, ∃ i' : Int, (i_RaisePrices_JJ2 Size Sets Costs prices choice' i') ∧ (i_RaisePrices_mJ2 Size Sets Costs prices choice' i' < i_RaisePrices_mJ2 Size Sets Costs prices choice i) ∧ (prices.length = prices.length) ∧ ((choice.length + 1) = choice'.length) ∧ (Costs = Costs) ∧ ((Costs.length : Int) = (Costs.length : Int)) ∧ ((i + 1) = i') ∧ ((choice ++ [i]) = choice') ∧ (Size = Size) ∧ (Sets = Sets) ∧ (Costs = Costs) ∧ (prices = prices))) ∧ (((priced (Sets.getD i.toNat []) prices) == (Costs.getD i.toNat 0)) = false → (-9223372036854775808 ≤ (i + 1) ∧ (i + 1) ≤ 9223372036854775807) ∧ (∃ choice' : List Int, ∃ i' : Int, (i_RaisePrices_JJ2 Size Sets Costs prices choice' i') ∧ (i_RaisePrices_mJ2 Size Sets Costs prices choice' i' < i_RaisePrices_mJ2 Size Sets Costs prices choice i) ∧ (prices.length = prices.length) ∧ (choice.length = choice'.length) ∧ (Costs = Costs) ∧ ((Costs.length : Int) = (Costs.length : Int)) ∧ ((i + 1) = i') ∧ (choice = choice') ∧ (Size = Size) ∧ (Sets = Sets) ∧ (Costs = Costs) ∧ (prices = prices))))) ∧ ((decide (i < (Costs.length : Int))) = false → ((prices.length = prices.length) ∧ ((prices : List Int) = raiseP Size Sets Costs) ∧ (choice.length = choice.length) ∧ ((choice : List Int) = raiseC Size Sets Costs) ∧ (true = (goodSys Size Sets Costs)))))))))))
theorem i_RaisePrices_vc (Size : Int) (Sets : List (List Int)) (Costs : List Int)  (w_Sets : (Sets.length : Int) ≤ 9223372036854775807) (v_Sets : ∀ x9 ∈ Sets, (x9.length : Int) ≤ 9223372036854775807) (w_Costs : (Costs.length : Int) ≤ 9223372036854775807) : i_RaisePrices_P Size Sets Costs := by
  unfold i_RaisePrices_P i_RaisePrices_e1
  refine ⟨i_IsSystem_pc Size Sets Costs, ?_, ?_⟩
  ·intro b1
   try simp only [nrmT] at b1
   refine ⟨?_, ?_, ?_⟩
   ·unfold raiseP; rw [b1]; rfl
   ·unfold raiseC; rw [b1]; rfl
   ·exact b1.symm
  ·intro b2
   try simp only [nrmT] at b2
   refine ⟨rfl, ?_, ?_, ?_, ?_⟩
   ·have gf := gs_facts (by first | exact hg | exact hg2 | exact b2)
    omega
   ·have gf := gs_facts (by first | exact hg | exact hg2 | exact b2)
    omega
   ·refine ⟨?_, ?_⟩
    ·refine ⟨(List.replicate Size.toNat (0 : Int)), 0, ?_⟩
     refine ⟨?_, ?_, rfl, rfl, rfl, rfl, rfl, rfl⟩
     ·refine ⟨?_, ?_, ?_, ?_⟩
      ·first | exact hg | exact hg2 | exact b2
      ·omega
      ·have gf := gs_facts (by first | exact hg | exact hg2 | exact b2)
       omega
      ·rfl
     ·(simp_all; done)
    ·intro prices x hJ
     obtain ⟨hg, h1, h2, h3⟩ := hJ
     refine ⟨?_, ?_⟩
     ·intro b3
      try simp only [nrmT] at b3
      refine ⟨?_, ?_⟩
      ·refine ⟨(-1), 0, ?_⟩
       refine ⟨?_, rfl, rfl, rfl, rfl, rfl, rfl, rfl, rfl, rfl, rfl, rfl, rfl⟩
       ·refine ⟨?_, ?_, ?_⟩
        ·omega
        ·omega
        ·rfl
      ·intro room j hJ
       obtain ⟨h4, h5, h6⟩ := hJ
       refine ⟨?_, ?_⟩
       ·intro b4
        try simp only [nrmT] at b4
        refine ⟨?_, ?_, ?_, rfl, ?_, ?_, ?_, rfl, ?_, ?_, slices_Contains_int_int__pc (Sets.getD j.toNat []) x, id, id, id, id, id, fun _ _ => rfl, ?_, rfl, id, fun _ => rfl, ?_, ?_⟩
        ·omega
        ·have gf := gs_facts (by first | exact hg | exact hg2 | exact b4)
         omega
        ·have gf := gs_facts (by first | exact hg | exact hg2 | exact b4)
         omega
        ·omega
        ·have gf := gs_facts (by first | exact hg | exact hg2 | exact b4)
         omega
        ·have gf := gs_facts (by first | exact hg | exact hg2 | exact b4)
         omega
        ·refine i_System_priceOf_pc Size Sets Costs j prices ?_ ?_ ?_
         ·first | exact hg | exact hg2 | exact b4
         ·have gf := gs_facts (by first | exact hg | exact hg2 | exact b4)
          omega
         ·first | (rw [h8]; exact raiseTo_row hg2 _) | (rw [h3]; exact raiseTo_row hg _)
        ·have gf := gs_facts (by first | exact hg | exact hg2 | exact b4)
         have gc := gs_cost hg (k := j.toNat) (by omega)
         have pb := priced_bound (prices := prices) (gs_set hg (k := j.toNat) (by omega)) (by first | (rw [h8]; exact raiseTo_row hg2 _) | (rw [h3]; exact raiseTo_row hg _)) ⟨gf.1, gf.2.1⟩
         omega
        ·intro g1 g2; rw [g1, g2]; rfl
        ·intro b5
         refine ⟨?_, ?_⟩
         ·omega
         ·refine ⟨((Costs.getD j.toNat 0) - (priced (Sets.getD j.toNat []) prices)), (j + 1), ?_⟩
          refine ⟨?_, ?_, rfl, rfl, rfl, rfl, rfl, rfl, rfl, rfl, rfl, rfl, rfl, rfl⟩
          ·refine ⟨?_, ?_, ?_⟩
           ·omega
           ·have gf := gs_facts (by first | exact hg | exact hg2 | exact b5)
            omega
           ·rw [cond_and_or] at b5
            rw [show (j + 1).toNat = j.toNat + 1 by omega, roomTo_succ, ← h6]
            unfold roomF
            rw [if_pos b5]
          ·have gf := gs_facts (by first | exact hg | exact hg2 | exact bX)
           first | (show _ < _; omega) | (simp only [i_RaisePrices_mJ1]; omega) | (simp only [i_RaisePrices_mJ1] at *; simp at *; omega)
        ·intro b6
         refine ⟨?_, ?_⟩
         ·omega
         ·refine ⟨room, (j + 1), ?_⟩
          refine ⟨?_, ?_, rfl, rfl, rfl, rfl, rfl, rfl, rfl, rfl, rfl, rfl, rfl, rfl⟩
          ·refine ⟨?_, ?_, ?_⟩
           ·omega
           ·have gf := gs_facts (by first | exact hg | exact hg2 | exact b6)
            omega
           ·rw [cond_and_or] at b6
            rw [show (j + 1).toNat = j.toNat + 1 by omega, roomTo_succ, ← h6]
            unfold roomF
            rw [if_neg (by rw [b6]; decide)]
          ·have gf := gs_facts (by first | exact hg | exact hg2 | exact bX)
           first | (show _ < _; omega) | (simp only [i_RaisePrices_mJ1]; omega) | (simp only [i_RaisePrices_mJ1] at *; simp at *; omega)
       ·intro b7
        try simp only [nrmT] at b7
        refine ⟨?_, ?_, ?_, ?_, ?_⟩
        ·omega
        ·have := (raiseTo_ok hg x.toNat).1
         rw [← h3] at this
         omega
        ·have := (raiseTo_ok hg x.toNat).1
         rw [← h3] at this
         omega
        ·have gf := gs_facts (by first | exact hg | exact hg2 | exact b7)
         omega
        ·refine ⟨(prices.set x.toNat (max 0 room)), (x + 1), ?_⟩
         refine ⟨?_, ?_, ?_, rfl, rfl, rfl, rfl, rfl, rfl⟩
         ·refine ⟨?_, ?_, ?_, ?_⟩
          ·first | exact hg | exact hg2 | exact b7
          ·omega
          ·omega
          ·have er : room = roomTo Sets Costs prices x Sets.length := by rw [h6, show j.toNat = Sets.length by omega]
           rw [show (x + 1).toNat = x.toNat + 1 by omega, raiseTo_succ, ← h3]
           unfold raiseF
           rw [show ((x.toNat : Nat) : Int) = x by omega, ← er]
           first | done | rw [Int.max_comm]
         ·first | (show _ < _; omega) | (simp only [i_RaisePrices_mJ0]; omega) | (simp only [i_RaisePrices_mJ0] at *; simp at *; omega)
         ·(simp_all; done)
     ·intro b8
      try simp only [nrmT] at b8
      refine ⟨prices, ?_⟩
      refine ⟨?_, rfl, rfl, rfl, rfl, rfl⟩
      ·refine ⟨?_, ?_⟩
       ·first | exact hg | exact hg2 | exact b8
       ·rw [h3, show x.toNat = Size.toNat by omega]
   ·intro prices hJ
    obtain ⟨hg2, h8⟩ := hJ
    refine ⟨?_, ?_⟩
    ·refine ⟨([]), 0, ?_⟩
     refine ⟨?_, rfl, rfl, rfl, rfl, rfl, ?_, rfl, rfl, rfl, rfl⟩
     ·refine ⟨?_, ?_, ?_⟩
      ·omega
      ·omega
      ·rfl
     ·rfl
    ·intro choice i hJ
     obtain ⟨k1, k2, k3⟩ := hJ
     refine ⟨?_, ?_⟩
     ·intro b9
      try simp only [nrmT] at b9
      refine ⟨?_, ?_, ?_, rfl, ?_, ?_, ?_⟩
      ·omega
      ·have gf := gs_facts (by first | exact hg | exact hg2 | exact b9)
       omega
      ·have gf := gs_facts (by first | exact hg | exact hg2 | exact b9)
       omega
      ·refine i_System_priceOf_pc Size Sets Costs i prices ?_ ?_ ?_
       ·first | exact hg | exact hg2 | exact b9
       ·have gf := gs_facts (by first | exact hg | exact hg2 | exact b9)
        omega
       ·first | (rw [h8]; exact raiseTo_row hg2 _) | (rw [h3]; exact raiseTo_row hg _)
      ·intro b10
       try simp only [nrmT] at b10
       refine ⟨rfl, rfl, ?_, ?_, ?_⟩
       ·rw [k3]; have := members_len_le (tightAt Size Sets Costs) i.toNat
        have gf := gs_facts (by first | exact hg | exact hg2 | exact b10)
        omega
       ·omega
       ·refine ⟨(choice ++ [i]), (i + 1), ?_⟩
        refine ⟨?_, ?_, rfl, ?_, rfl, rfl, rfl, rfl, rfl, rfl, rfl, rfl⟩
        ·refine ⟨?_, ?_, ?_⟩
         ·omega
         ·have gf := gs_facts (by first | exact hg | exact hg2 | exact b10)
          omega
         ·rw [k3, show (i + 1).toNat = i.toNat + 1 by omega, members_succ, if_pos (by unfold tightAt; rw [← h8]; exact decide_eq_true b10), show ((i.toNat : Nat) : Int) = i by omega]
        ·have gf := gs_facts (by first | exact hg | exact hg2 | exact bX)
         first | (show _ < _; omega) | (simp only [i_RaisePrices_mJ2]; omega) | (simp only [i_RaisePrices_mJ2] at *; simp at *; omega)
        ·simp
      ·intro b11
       try simp only [nrmT] at b11
       refine ⟨?_, ?_⟩
       ·omega
       ·refine ⟨choice, (i + 1), ?_⟩
        refine ⟨?_, ?_, rfl, rfl, rfl, rfl, rfl, rfl, rfl, rfl, rfl, rfl⟩
        ·refine ⟨?_, ?_, ?_⟩
         ·omega
         ·have gf := gs_facts (by first | exact hg | exact hg2 | exact b11)
          omega
         ·rw [k3, show (i + 1).toNat = i.toNat + 1 by omega, members_succ, if_neg (by unfold tightAt; rw [← h8]; simpa using b11), List.append_nil]
        ·have gf := gs_facts (by first | exact hg | exact hg2 | exact bX)
         first | (show _ < _; omega) | (simp only [i_RaisePrices_mJ2]; omega) | (simp only [i_RaisePrices_mJ2] at *; simp at *; omega)
     ·intro b12
      try simp only [nrmT] at b12
      refine ⟨rfl, ?_, rfl, ?_, ?_⟩
      ·unfold raiseP; rw [if_pos hg2, ← h8]
      ·have gf := gs_facts (by first | exact hg | exact hg2 | exact b12)
       unfold raiseC; rw [if_pos hg2, k3, show i.toNat = Sets.length by omega]
      ·exact hg2.symm
theorem i_RaisePrices_pc (Size : Int) (Sets : List (List Int)) (Costs : List Int)  : PC Try.prog 87 [.agg [.int .i64 Size, .sl (.rows Sets), .sl (.ints Costs)]] (.tup [.own 3 (.ints (raiseP Size Sets Costs)), .own 3 (.ints (raiseC Size Sets Costs)), .d (.bool (goodSys Size Sets Costs))]) :=
  pc_wf @Try.call87 fun hw => pc_by (by kernel_rfl) Try.func87 @Try.call87 (by kernel_rfl) i_RaisePrices_C (i_RaisePrices_A Size Sets Costs) (by kernel_rfl) (i_RaisePrices_vc Size Sets Costs hw.1.2.1.1 hw.1.2.1.2 hw.1.2.2.1) (by kernel_rfl)
def i_RaisePrices_orc : List D → Orc := orcN [none] fun ds => match ds with
  | [.agg [.int .i64 Size, .sl (.rows Sets), .sl (.ints Costs)]] => some (.tup [.own 3 (.ints (raiseP Size Sets Costs)), .own 3 (.ints (raiseC Size Sets Costs)), .d (.bool (goodSys Size Sets Costs))])
  | _ => none
theorem asc_rising {xs : List Int} {lo hi : Int} (h : rising xs lo hi = true) : Asc xs := by
  refine List.pairwise_iff_getElem.2 fun i j hi hj hij => ?_
  have := rising_lt h hij hj
  rwa [getD_get hi, getD_get hj] at this
theorem newOf_filter (set cov : List Int) : newOf set cov = ((set.filter (fun x => !(cov.contains x))).length : Int) := by
  have key : ∀ k, k ≤ set.length → sumTo (newAt set cov) k = (((set.take k).filter (fun x => !(cov.contains x))).length : Int) := by
    intro k
    induction k with
    | zero => intro _; simp [sumTo, foldTo]
    | succ k ih =>
      intro hk
      rw [sumTo_succ, ih (by omega), List.take_add_one]
      have hlt : k < set.length := by omega
      simp only [List.getElem?_eq_getElem hlt, Option.toList_some, List.filter_append, List.length_append]
      unfold newAt
      rw [getD_get hlt]
      cases hc : cov.contains set[k] <;> simp only [hc, List.filter_cons, List.filter_nil, Bool.not_true, Bool.not_false, if_true, if_false] <;> simp <;> omega
  unfold newOf
  rw [key _ (Nat.le_refl _), List.take_length]
def newN (Sets : List (List Int)) (out : List Int) (i : Nat) : Int := newOf (Sets.getD i []) (covL Sets out out.length)
theorem covL_app {Sets : List (List Int)} {out : List Int} {b : Int} : covL Sets (out ++ [b]) (out ++ [b]).length = putAll (covL Sets out out.length) (Sets.getD b.toNat []) (Sets.getD b.toNat []).length := by
  have key : ∀ k, k ≤ out.length → covL Sets (out ++ [b]) k = covL Sets out k := by
    intro k hk
    unfold covL
    refine foldTo_congr fun j x hj => ?_
    simp only [List.getD_eq_getElem?_getD]
    rw [List.getElem?_append_left (by omega)]
  rw [List.length_append, List.length_cons, List.length_nil]
  show putAll (covL Sets (out ++ [b]) out.length) _ _ = _
  rw [key _ (Nat.le_refl _)]
  simp
theorem covL_len8 {Size : Int} {Sets : List (List Int)} {Costs out : List Int} (h : goodSys Size Sets Costs = true) (hc : ∀ c ∈ out, 0 ≤ c ∧ c < (Sets.length : Int)) (k : Nat) (hk : k ≤ out.length) : (covL Sets out k).length ≤ Size.toNat := by
  rw [asc_eq_members (n := Size.toNat) (asc_covL k) fun x hx => ?_]
  · exact members_len_le _ _
  · obtain ⟨j, h1, h2⟩ := (mem_covL k).1 hx
    have h3 := hc _ (getD_mem (d := 0) (show j < out.length by omega))
    exact set_memS h (k := (out.getD j 0).toNat) (by omega) x h2
theorem newOf_bound (set cov : List Int) : 0 ≤ newOf set cov ∧ newOf set cov ≤ set.length := by
  have := newTo_bound (set := set) (cov := cov) set.length
  unfold newOf; omega
abbrev InR (Sets : List (List Int)) (out : List Int) : Prop := ∀ c ∈ out, 0 ≤ c ∧ c < (Sets.length : Int)
theorem covB_iff2 {Sets : List (List Int)} {out : List Int} {x : Nat} : covB Sets out x = true ↔ (x : Int) ∈ covL Sets out out.length := by
  rw [covB_iff, mem_covL]
theorem covL_members2 {Size : Int} {Sets : List (List Int)} {Costs out : List Int} (h : goodSys Size Sets Costs = true) (hc : InR Sets out) : covL Sets out out.length = members (covB Sets out) Size.toNat := by
  refine asc_ext (asc_covL _) (asc_members _ _) fun x => ?_
  rw [mem_covL, mem_members]
  constructor
  · rintro ⟨j, h1, h2⟩
    have h3 := hc _ (getD_mem (d := 0) h1)
    have h4 := set_memS h (k := (out.getD j 0).toNat) (by omega) x h2
    refine ⟨h4.1, h4.2, covB_iff.2 ⟨j, h1, ?_⟩⟩
    rwa [show ((x.toNat : Nat) : Int) = x by omega]
  · rintro ⟨h1, h2, h3⟩
    obtain ⟨j, h4, h5⟩ := covB_iff.1 h3
    exact ⟨j, h4, by rwa [show ((x.toNat : Nat) : Int) = x by omega] at h5⟩
def cnt (Sets : List (List Int)) (out : List Int) : Nat := (covL Sets out out.length).length
theorem cnt_le {Size : Int} {Sets : List (List Int)} {Costs out : List Int} (h : goodSys Size Sets Costs = true) (hc : InR Sets out) : cnt Sets out ≤ Size.toNat := covL_len8 h hc _ (Nat.le_refl _)
theorem cnt_full {Size : Int} {Sets : List (List Int)} {Costs out : List Int} (h : goodSys Size Sets Costs = true) (hc : InR Sets out) : cnt Sets out = Size.toNat ↔ coverB Size Sets out = true := by
  unfold cnt coverB
  rw [covL_members2 h hc]
  exact members_full _ _
theorem new_pos {set cov : List Int} (h : 0 < newOf set cov) : ∃ x, x ∈ set ∧ ¬ x ∈ cov := by
  rw [newOf_filter] at h
  cases hf : set.filter (fun x => !(cov.contains x)) with
  | nil => rw [hf] at h; simp at h
  | cons x r =>
    have : x ∈ set.filter (fun x => !(cov.contains x)) := by rw [hf]; exact List.mem_cons_self
    rw [List.mem_filter] at this
    refine ⟨x, this.1, fun hx => ?_⟩
    have h2 := this.2
    rw [List.contains_iff_mem.2 hx] at h2
    cases h2
theorem new_zero {set cov : List Int} (h : newOf set cov ≤ 0) : ∀ x ∈ set, x ∈ cov := by
  rw [newOf_filter] at h
  intro x hx
  have h2 : set.filter (fun x => !(cov.contains x)) = [] := List.eq_nil_of_length_eq_zero (by omega)
  rw [List.filter_eq_nil_iff] at h2
  have := h2 x hx
  simpa using this
theorem covB_app {Sets : List (List Int)} {out : List Int} {b : Int} {x : Nat} : covB Sets (out ++ [b]) x = (covB Sets out x || (Sets.getD b.toNat []).contains (x : Int)) := by
  unfold covB
  rw [List.any_append]
  simp only [List.any_cons, List.any_nil, Bool.or_false]
theorem inR_app {Sets : List (List Int)} {out : List Int} {b : Int} (hc : InR Sets out) (hb : 0 ≤ b ∧ b < (Sets.length : Int)) : InR Sets (out ++ [b]) := by
  intro c hc2
  rcases List.mem_append.1 hc2 with h | h
  · exact hc c h
  · rw [List.mem_singleton] at h; rw [h]; exact hb
theorem cnt_step {Size : Int} {Sets : List (List Int)} {Costs out : List Int} (h : goodSys Size Sets Costs = true) (hc : InR Sets out) {b : Int} (hb : 0 ≤ b ∧ b < (Sets.length : Int)) (hn : 0 < newN Sets out b.toNat) : cnt Sets out < cnt Sets (out ++ [b]) := by
  unfold cnt
  rw [covL_members2 h hc, covL_members2 h (inR_app hc hb)]
  obtain ⟨x, h1, h2⟩ := new_pos hn
  have h3 := set_memS h (k := b.toNat) (by omega) x h1
  have ex : ((x.toNat : Nat) : Int) = x := by omega
  refine members_less _ (fun k _ hk => by rw [covB_app, hk]; rfl) ⟨x.toNat, by omega, ?_, ?_⟩
  · rw [covB_app, ex, List.contains_iff_mem.2 h1, Bool.or_true]
  · rw [Bool.eq_false_iff]
    intro h4
    rw [covB_iff2, ex] at h4
    exact h2 h4
def grF (Sets : List (List Int)) (Costs out : List Int) (b : Int) (i : Nat) : Int :=
  if (decide (newN Sets out i > 0) && (decide (b < 0) || decide (Costs.getD i 0 * newN Sets out b.toNat < Costs.getD b.toNat 0 * newN Sets out i))) = true then (i : Int) else b
def grTo (Sets : List (List Int)) (Costs out : List Int) (k : Nat) : Int := foldTo (grF Sets Costs out) (-1) k
theorem grTo_succ (Sets : List (List Int)) (Costs out : List Int) (k : Nat) : grTo Sets Costs out (k + 1) = grF Sets Costs out (grTo Sets Costs out k) k := rfl
theorem grTo_facts (Sets : List (List Int)) (Costs out : List Int) : ∀ k, (-1 ≤ grTo Sets Costs out k ∧ grTo Sets Costs out k < k) ∧ (0 ≤ grTo Sets Costs out k → 0 < newN Sets out (grTo Sets Costs out k).toNat) ∧ (grTo Sets Costs out k < 0 → ∀ j, j < k → newN Sets out j ≤ 0)
  | 0 => ⟨by simp [grTo, foldTo], fun h => by simp [grTo, foldTo] at h, fun _ j hj => by omega⟩
  | k + 1 => by
    obtain ⟨h1, h2, h3⟩ := grTo_facts Sets Costs out k
    rw [grTo_succ]
    unfold grF
    split
    · rename_i h
      rw [Bool.and_eq_true, decide_eq_true_eq] at h
      refine ⟨by omega, fun _ => by rw [Int.toNat_natCast]; exact h.1, fun h => by omega⟩
    · rename_i h
      refine ⟨by omega, h2, fun hlt j hj => ?_⟩
      by_cases e : j = k
      · subst e
        by_cases hp : newN Sets out j > 0
        · rw [decide_eq_true hp, decide_eq_true hlt] at h; simp at h
        · omega
      · exact h3 hlt j (by omega)
def grRun (Size : Int) (Sets : List (List Int)) (Costs : List Int) : Nat → List Int → Option (List Int)
  | 0, out => if coverB Size Sets out = true then some out else none
  | n + 1, out => if coverB Size Sets out = true then some out else if grTo Sets Costs out Sets.length < 0 then none else grRun Size Sets Costs n (out ++ [grTo Sets Costs out Sets.length])
theorem grRun_stable {Size : Int} {Sets : List (List Int)} {Costs : List Int} (h : goodSys Size Sets Costs = true) : ∀ n m out, InR Sets out → Size.toNat - cnt Sets out ≤ n → Size.toNat - cnt Sets out ≤ m → grRun Size Sets Costs n out = grRun Size Sets Costs m out
  | 0, 0, _, _, _, _ => rfl
  | 0, m + 1, out, hc, h1, _ => by
    have h2 := cnt_le h hc
    have h3 := (cnt_full h hc).1 (by omega)
    simp [grRun, h3]
  | n + 1, 0, out, hc, _, h1 => by
    have h2 := cnt_le h hc
    have h3 := (cnt_full h hc).1 (by omega)
    simp [grRun, h3]
  | n + 1, m + 1, out, hc, h1, h2 => by
    by_cases hf : coverB Size Sets out = true
    · simp [grRun, hf]
    · by_cases hb : grTo Sets Costs out Sets.length < 0
      · simp [grRun, hf, hb]
      · obtain ⟨g1, g2, _⟩ := grTo_facts Sets Costs out Sets.length
        have h3 := cnt_step h hc (b := grTo Sets Costs out Sets.length) ⟨by omega, g1.2⟩ (g2 (by omega))
        simp only [grRun, if_neg hf, if_neg hb]
        exact grRun_stable h n m _ (inR_app hc ⟨by omega, g1.2⟩) (by omega) (by omega)
def grs (Size : Int) (Sets : List (List Int)) (Costs out : List Int) : Option (List Int) := grRun Size Sets Costs (Size.toNat - cnt Sets out) out
theorem grs_full {Size : Int} {Sets : List (List Int)} {Costs out : List Int} (h : coverB Size Sets out = true) : grs Size Sets Costs out = some out := by
  unfold grs
  cases Size.toNat - cnt Sets out <;> simp [grRun, h]
theorem grs_step {Size : Int} {Sets : List (List Int)} {Costs out : List Int} (hg : goodSys Size Sets Costs = true) (hc : InR Sets out) (h : ¬ coverB Size Sets out = true) (hb : ¬ grTo Sets Costs out Sets.length < 0) :
    grs Size Sets Costs (out ++ [grTo Sets Costs out Sets.length]) = grs Size Sets Costs out := by
  obtain ⟨g1, g2, _⟩ := grTo_facts Sets Costs out Sets.length
  have h3 := cnt_step hg hc (b := grTo Sets Costs out Sets.length) ⟨by omega, g1.2⟩ (g2 (by omega))
  have h4 := cnt_le hg hc
  have h5 : cnt Sets out ≠ Size.toNat := fun e => h ((cnt_full hg hc).1 e)
  have e : grs Size Sets Costs out = grRun Size Sets Costs (Size.toNat - cnt Sets out - 1) (out ++ [grTo Sets Costs out Sets.length]) := by
    unfold grs
    rw [show Size.toNat - cnt Sets out = (Size.toNat - cnt Sets out - 1) + 1 by omega]
    simp only [grRun, if_neg h, if_neg hb, Nat.add_sub_cancel]
  rw [e]
  exact grRun_stable hg _ _ _ (inR_app hc ⟨by omega, g1.2⟩) (Nat.le_refl _) (by omega)
def allN (n : Nat) : List Int := members (fun _ => true) n
theorem inR_all (Sets : List (List Int)) : InR Sets (allN Sets.length) := fun c hc => by
  have := mem_members.1 hc
  omega
theorem cover_all {Size : Int} {Sets : List (List Int)} {out : List Int} (hc : InR Sets out) (h : coverB Size Sets out = true) : coverB Size Sets (allN Sets.length) = true := by
  unfold coverB at *
  rw [allTo_iff] at *
  intro k hk
  obtain ⟨j, h1, h2⟩ := covB_iff.1 (h k hk)
  have h3 := hc _ (getD_mem (d := 0) h1)
  have h4 : out.getD j 0 ∈ allN Sets.length := mem_members.2 ⟨h3.1, h3.2, rfl⟩
  obtain ⟨m, h5, h6⟩ := List.mem_iff_getElem.1 h4
  exact covB_iff.2 ⟨m, h5, by rw [getD_get h5, h6]; exact h2⟩
theorem gr_next {Size : Int} {Sets : List (List Int)} {Costs out : List Int} (hg : goodSys Size Sets Costs = true) (ha : coverB Size Sets (allN Sets.length) = true) (h : ¬ coverB Size Sets out = true) : 0 ≤ grTo Sets Costs out Sets.length := by
  by_cases hb : grTo Sets Costs out Sets.length < 0
  · exfalso
    apply h
    have h1 := (grTo_facts Sets Costs out Sets.length).2.2 hb
    unfold coverB at *
    rw [allTo_iff] at *
    intro k hk
    obtain ⟨j, h2, h3⟩ := covB_iff.1 (ha k hk)
    have h4 := inR_all Sets _ (getD_mem (d := 0) h2)
    have h5 := h1 ((allN Sets.length).getD j 0).toNat (by omega)
    exact covB_iff2.2 (new_zero h5 _ h3)
  · omega
theorem grRun_some {Size : Int} {Sets : List (List Int)} {Costs : List Int} (hg : goodSys Size Sets Costs = true) : ∀ n out, InR Sets out → Size.toNat - cnt Sets out ≤ n → (grRun Size Sets Costs n out).isSome = coverB Size Sets (allN Sets.length)
  | 0, out, hc, h1 => by
    have h2 := cnt_le hg hc
    have h3 := (cnt_full hg hc).1 (by omega)
    rw [cover_all hc h3]
    simp [grRun, h3]
  | n + 1, out, hc, h1 => by
    by_cases hf : coverB Size Sets out = true
    · rw [cover_all hc hf]
      simp [grRun, hf]
    · by_cases hb : grTo Sets Costs out Sets.length < 0
      · simp only [grRun, if_neg hf, if_pos hb]
        cases ha : coverB Size Sets (allN Sets.length) with
        | false => rfl
        | true => have := gr_next (Costs := Costs) hg ha hf; omega
      · obtain ⟨g1, g2, _⟩ := grTo_facts Sets Costs out Sets.length
        have h3 := cnt_step hg hc (b := grTo Sets Costs out Sets.length) ⟨by omega, g1.2⟩ (g2 (by omega))
        simp only [grRun, if_neg hf, if_neg hb]
        exact grRun_some hg n _ (inR_app hc ⟨by omega, g1.2⟩) (by omega)
theorem grs_some {Size : Int} {Sets : List (List Int)} {Costs : List Int} (hg : goodSys Size Sets Costs = true) : (grs Size Sets Costs []).isSome = coverB Size Sets (allN Sets.length) :=
  grRun_some hg _ _ (fun c hc => by cases hc) (Nat.le_refl _)
def grO (Size : Int) (Sets : List (List Int)) (Costs : List Int) : List Int := (grs Size Sets Costs []).getD []
def grCF (Sets : List (List Int)) (Costs cov : List Int) (b : Int) (i : Nat) : Int :=
  if (decide (newOf (Sets.getD i []) cov > 0) && (decide (b < 0) || decide (Costs.getD i 0 * newOf (Sets.getD b.toNat []) cov < Costs.getD b.toNat 0 * newOf (Sets.getD i []) cov))) = true then (i : Int) else b
def grC (Sets : List (List Int)) (Costs cov : List Int) (k : Nat) : Int := foldTo (grCF Sets Costs cov) (-1) k
theorem grC_succ (Sets : List (List Int)) (Costs cov : List Int) (k : Nat) : grC Sets Costs cov (k + 1) = grCF Sets Costs cov (grC Sets Costs cov k) k := rfl
theorem grC_in (Sets : List (List Int)) (Costs cov : List Int) : ∀ k, -1 ≤ grC Sets Costs cov k ∧ grC Sets Costs cov k < k
  | 0 => by simp [grC, foldTo]
  | k + 1 => by
    have := grC_in Sets Costs cov k
    rw [grC_succ]
    unfold grCF
    split <;> omega
theorem new_le8 {Size : Int} {Sets : List (List Int)} {Costs : List Int} (h : goodSys Size Sets Costs = true) (cov : List Int) {k : Nat} (hk : k < Sets.length) : 0 ≤ newOf (Sets.getD k []) cov ∧ newOf (Sets.getD k []) cov ≤ 8 := by
  have h1 := newOf_bound (Sets.getD k []) cov
  have gf := gs_facts h
  have h2 := rising_len (gs_set h hk) (by omega)
  omega
theorem mul_cost {c n : Int} (hc : 1 ≤ c ∧ c ≤ 99) (hn : 0 ≤ n ∧ n ≤ 8) : 0 ≤ c * n ∧ c * n ≤ 792 := by
  constructor
  · exact Int.mul_nonneg (by omega) hn.1
  · exact Int.le_trans (Int.mul_le_mul hc.2 hn.2 hn.1 (by omega)) (by omega)
theorem prod_ok {Size : Int} {Sets : List (List Int)} {Costs : List Int} (h : goodSys Size Sets Costs = true) (cov : List Int) {i j : Nat} (hi : i < Sets.length) (hj : j < Sets.length) : 0 ≤ Costs.getD i 0 * newOf (Sets.getD j []) cov ∧ Costs.getD i 0 * newOf (Sets.getD j []) cov ≤ 792 := by
  have gf := gs_facts h
  exact mul_cost (gs_cost h (k := i) (by omega)) (new_le8 h cov hj)
/-- What is so of a choice under way. -/
structure GrOk (Sets : List (List Int)) (r : List Int) : Prop where
  inR : InR Sets r
  pos : ∀ i, i < r.length → 0 < newN Sets (r.take i) (r.getD i 0).toNat
  len : r.length ≤ cnt Sets r
theorem grOk_nil (Sets : List (List Int)) : GrOk Sets [] := ⟨fun c hc => (by cases hc), fun i hi => (by simp at hi), Nat.zero_le _⟩
theorem grOk_app {Size : Int} {Sets : List (List Int)} {Costs out : List Int} (hg : goodSys Size Sets Costs = true) (h : GrOk Sets out) (hb : ¬ grTo Sets Costs out Sets.length < 0) : GrOk Sets (out ++ [grTo Sets Costs out Sets.length]) := by
  obtain ⟨g1, g2, _⟩ := grTo_facts Sets Costs out Sets.length
  refine ⟨inR_app h.inR ⟨by omega, g1.2⟩, fun i hi => ?_, ?_⟩
  · rw [List.length_append, List.length_cons, List.length_nil] at hi
    by_cases e : i = out.length
    · subst e
      simpa using g2 (by omega)
    · rw [List.take_append_of_le_length (by omega)]
      have h2 := h.pos i (by omega)
      simp only [List.getD_eq_getElem?_getD] at h2 ⊢
      rw [List.getElem?_append_left (by omega)]
      exact h2
  · have h3 := cnt_step hg h.inR (b := grTo Sets Costs out Sets.length) ⟨by omega, g1.2⟩ (g2 (by omega))
    have h4 := h.len
    rw [List.length_append, List.length_cons, List.length_nil]
    omega
theorem grRun_ok {Size : Int} {Sets : List (List Int)} {Costs : List Int} (hg : goodSys Size Sets Costs = true) : ∀ n out r, GrOk Sets out → grRun Size Sets Costs n out = some r → GrOk Sets r
  | 0, out, r, h, e => by
    unfold grRun at e
    split at e
    · cases e; exact h
    · cases e
  | n + 1, out, r, h, e => by
    unfold grRun at e
    split at e
    · cases e; exact h
    · split at e
      · cases e
      · rename_i hb
        exact grRun_ok hg n _ r (grOk_app hg h hb) e
theorem grO_ok {Size : Int} {Sets : List (List Int)} {Costs : List Int} (hg : goodSys Size Sets Costs = true) : GrOk Sets (grO Size Sets Costs) := by
  unfold grO
  cases h : grs Size Sets Costs [] with
  | none => exact grOk_nil Sets
  | some r => exact grRun_ok hg _ _ r (grOk_nil Sets) h
theorem allN_bits {n : Nat} : members (fun k => (2 ^ n - 1).testBit k) n = allN n :=
  members_congr fun k hk => by simp [Nat.testBit_two_pow_sub_one, hk]
theorem all_rising (n : Nat) : rising (allN n) 0 ((n : Int) - 1) = true :=
  rising_asc (asc_members _ _) fun x hx => by have := mem_members.1 hx; omega
abbrev s_l2Bits_JJ0 (n : Int) (code : Int) (out : List Int) (x : Int) : Prop := (0 ≤ x) ∧ (x ≤ n) ∧ (out = members (fun k => code.toNat.testBit k) x.toNat)
abbrev s_l2Bits_mJ0 (n : Int) (code : Int) (out : List Int) (x : Int) : Nat := (n - x).toNat
def s_l2Bits_C (f : FuncId) (ds : List D) : Orc := .no
def s_l2Bits_A (n : Int) (code : Int) : Ann := .two (.none) (.two (.none) (.two (.two (.none) (.loop (cut2 (fun (out : List Int) (x : Int) => s_l2Bits_JJ0 n code out x) (fun (out : List Int) (x : Int) => [(0, .d false (.int .i64 n)), (1, .d false (.int .i64 code)), (5, .own 1000000 out.length), (6, .d true (.int .i64 x))]) (fun (out : List Int) (x : Int) => [(1000000, .arr true 3 (.ints out))])) (fun g => s_l2Bits_mJ0 n code g.1 g.2) (fun _ => .none))) (.none)))
def s_l2Bits_P (n : Int) (code : Int) : Prop :=
  ((∃ out' : List Int, ∃ x' : Int, (s_l2Bits_JJ0 n code out' x') ∧ (n = n) ∧ (code = code) ∧ ((0 : Nat) = out'.length) ∧ ((0 : Int) = x') ∧ ([] = out')) ∧ (∀ out : List Int, ∀ x : Int, (s_l2Bits_JJ0 n code out x) → (((decide (x < n)) = true → ((0 : Int) ≤ code ∧ (code : Int) ≤ 9223372036854775807) ∧ ((0 : Int) ≤ x) ∧ ((0 : Int) ≤ (code / 2 ^ x.toNat) ∧ ((code / 2 ^ x.toNat) : Int) ≤ 9223372036854775807) ∧ ((0 : Int) ≤ 1 ∧ (1 : Int) ≤ 9223372036854775807) ∧ ((((((code / 2 ^ x.toNat).toNat &&& 1 : Nat) : Int) == 1) = true → (out.length = out.length) ∧ ((1 : Nat) = 1) ∧ ((out.length + 1) * 8 ≤ 140737488355328) ∧ (-9223372036854775808 ≤ (x + 1) ∧ (x + 1) ≤ 9223372036854775807) ∧ (∃ out' : List Int, ∃ x' : Int, (s_l2Bits_JJ0 n code out' x') ∧ (s_l2Bits_mJ0 n code out' x' < s_l2Bits_mJ0 n code out x) ∧ (n = n) ∧ (code = code) ∧ ((out.length + 1) = out'.length) ∧ ((x + 1) = x') ∧ ((out ++ [x]) = out'))) ∧ (((((code / 2 ^ x.toNat).toNat &&& 1 : Nat) : Int) == 1) = false → (-9223372036854775808 ≤ (x + 1) ∧ (x + 1) ≤ 9223372036854775807) ∧ (∃ out' : List Int, ∃ x' : Int, (s_l2Bits_JJ0 n code out' x') ∧ (s_l2Bits_mJ0 n code out' x' < s_l2Bits_mJ0 n code out x) ∧ (n = n) ∧ (code = code) ∧ (out.length = out'.length) ∧ ((x + 1) = x') ∧ (out = out'))))) ∧ ((decide (x < n)) = false → ((out.length = out.length) ∧ ((out : List Int) = (members (fun k => code.toNat.testBit k) n.toNat)))))))
theorem s_l2Bits_vc (n : Int) (code : Int) (hn : 0 ≤ n ∧ n ≤ 62) (hc : 0 ≤ code ∧ code ≤ 4611686018427387903)  : s_l2Bits_P n code := by
  unfold s_l2Bits_P
  refine ⟨?_, ?_⟩
  ·refine ⟨([]), 0, ?_⟩
   refine ⟨?_, rfl, rfl, rfl, rfl, ?_⟩
   ·refine ⟨?_, ?_, ?_⟩
    ·omega
    ·omega
    ·rfl
   ·rfl
  ·intro out x hJ
   obtain ⟨h1, h2, h3⟩ := hJ
   refine ⟨?_, ?_⟩
   ·intro b1
    try simp only [nrmT] at b1
    refine ⟨?_, ?_, ?_, ?_, ?_, ?_⟩
    ·omega
    ·omega
    ·have h5 : 0 ≤ code / 2 ^ x.toNat := Int.ediv_nonneg hc.1 (Int.le_of_lt (Int.pow_pos (by omega)))
     have h6 : code / 2 ^ x.toNat ≤ code := Int.ediv_le_self _ hc.1
     omega
    ·omega
    ·intro b2
     try simp only [nrmT] at b2
     refine ⟨rfl, rfl, ?_, ?_, ?_⟩
     ·rw [h3]; have := members_len_le (fun k => code.toNat.testBit k) x.toNat; omega
     ·omega
     ·refine ⟨(out ++ [x]), (x + 1), ?_⟩
      refine ⟨?_, ?_, rfl, rfl, ?_, rfl, rfl⟩
      ·refine ⟨?_, ?_, ?_⟩
       ·omega
       ·omega
       ·have hb := shr_bit (n := code.toNat) (k := x.toNat)
        rw [show ((code.toNat : Nat) : Int) = code by omega] at hb
        have ht : code.toNat.testBit x.toNat = true := by
          cases h : code.toNat.testBit x.toNat with
          | true => rfl
          | false => rw [h] at hb; simp at hb; simp at b2; omega
        rw [h3, show (x + 1).toNat = x.toNat + 1 by omega, members_succ, if_pos ht, show ((x.toNat : Nat) : Int) = x by omega]
      ·first | (show _ < _; omega) | (simp only [s_l2Bits_mJ0]; omega) | (simp only [s_l2Bits_mJ0] at *; simp at *; omega)
      ·simp
    ·intro b3
     try simp only [nrmT] at b3
     refine ⟨?_, ?_⟩
     ·omega
     ·refine ⟨out, (x + 1), ?_⟩
      refine ⟨?_, ?_, rfl, rfl, rfl, rfl, rfl⟩
      ·refine ⟨?_, ?_, ?_⟩
       ·omega
       ·omega
       ·have hb := shr_bit (n := code.toNat) (k := x.toNat)
        rw [show ((code.toNat : Nat) : Int) = code by omega] at hb
        have ht : code.toNat.testBit x.toNat = false := by
          cases h : code.toNat.testBit x.toNat with
          | false => rfl
          | true => rw [h] at hb; simp at hb; simp at b3; omega
        rw [h3, show (x + 1).toNat = x.toNat + 1 by omega, members_succ, ht]; simp
      ·first | (show _ < _; omega) | (simp only [s_l2Bits_mJ0]; omega) | (simp only [s_l2Bits_mJ0] at *; simp at *; omega)
   ·intro b4
    try simp only [nrmT] at b4
    refine ⟨rfl, ?_⟩
    ·rw [h3, show x.toNat = n.toNat by omega]
theorem s_l2Bits_pc (n : Int) (code : Int) (hn : 0 ≤ n ∧ n ≤ 62) (hc : 0 ≤ code ∧ code ≤ 4611686018427387903) : PC Try.prog 164 [.int .i64 n, .int .i64 code] (.one (.d (.sl (.ints (members (fun k => code.toNat.testBit k) n.toNat))))) :=
  pc_wf @Try.call164 fun _ => pc_by (by kernel_rfl) Try.func164 @Try.call164 (by kernel_rfl) s_l2Bits_C (s_l2Bits_A n code) (by kernel_rfl) (s_l2Bits_vc n code hn hc) (by kernel_rfl)
def s_l2Bits_orc : List D → Orc := orcN [none, none] fun ds => match ds with
  | [.int .i64 n, .int .i64 code] => some (.one (.d (.sl (.ints (members (fun k => code.toNat.testBit k) n.toNat)))))
  | _ => none
def s_l6All_C (f : FuncId) (ds : List D) : Orc := bif Nat.beq f 164 then s_l2Bits_orc ds else .no
def s_l6All_A (Size : Int) (Sets : List (List Int)) (Costs : List Int) : Ann := .none
def s_l6All_P (Size : Int) (Sets : List (List Int)) (Costs : List Int) : Prop :=
  (true = true) ∧ ((0 : Int) ≤ 1) ∧ ((0 : Int) ≤ (Sets.length : Int)) ∧ ((0 : Int) ≤ ((1 : Int) * 2 ^ ((Sets.length : Int).toNat)) ∧ (((1 : Int) * 2 ^ ((Sets.length : Int).toNat)) : Int) ≤ 9223372036854775807) ∧ (-9223372036854775808 ≤ (((1 : Int) * 2 ^ ((Sets.length : Int).toNat)) - 1) ∧ (((1 : Int) * 2 ^ ((Sets.length : Int).toNat)) - 1) ≤ 9223372036854775807) ∧ (PC Try.prog 164 [.int .i64 (Sets.length : Int), .int .i64 (((1 : Int) * 2 ^ ((Sets.length : Int).toNat)) - 1)] (.one (.d (.sl (.ints (members (fun k => (((1 : Int) * 2 ^ ((Sets.length : Int).toNat)) - 1).toNat.testBit k) (Sets.length : Int).toNat)))))) ∧ ((((members (fun k => (((1 : Int) * 2 ^ ((Sets.length : Int).toNat)) - 1).toNat.testBit k) (Sets.length : Int).toNat) : List Int) = (allN Sets.length)))
theorem s_l6All_vc (Size : Int) (Sets : List (List Int)) (Costs : List Int) (hg : goodSys Size Sets Costs = true) (w_Sets : (Sets.length : Int) ≤ 9223372036854775807) (v_Sets : ∀ x9 ∈ Sets, (x9.length : Int) ≤ 9223372036854775807) (w_Costs : (Costs.length : Int) ≤ 9223372036854775807) : s_l6All_P Size Sets Costs := by
  unfold s_l6All_P
  have gf := gs_facts hg
  have h7 := pow_le (x := (Sets.length : Int)) (m := 8) (by omega)
  have h8 := one_pow (x := (Sets.length : Int))
  have h9 := Nat.two_pow_pos (Sets.length : Int).toNat
  have he : (2 : Nat) ^ 8 = 256 := by decide
  have e0 : (Sets.length : Int).toNat = Sets.length := Int.toNat_natCast _
  refine ⟨rfl, ?_, ?_, ?_, ?_, ?_, ?_⟩
  ·omega
  ·omega
  ·omega
  ·omega
  ·refine s_l2Bits_pc (Sets.length : Int) (((1 : Int) * 2 ^ ((Sets.length : Int).toNat)) - 1) ?_ ?_
   ·omega
   ·omega
  ·rw [e0, ← allN_bits]
   refine members_congr fun k _ => ?_
   rw [e0] at h8
   congr 1
   rw [← h8]; omega
theorem s_l6All_pc (Size : Int) (Sets : List (List Int)) (Costs : List Int) (hg : goodSys Size Sets Costs = true) : PC Try.prog 192 [.agg [.int .i64 Size, .sl (.rows Sets), .sl (.ints Costs)]] (.one (.d (.sl (.ints (allN Sets.length))))) :=
  pc_wf @Try.call192 fun hw => pc_by (by kernel_rfl) Try.func192 @Try.call192 (by kernel_rfl) s_l6All_C (s_l6All_A Size Sets Costs) (by kernel_rfl) (s_l6All_vc Size Sets Costs hg hw.1.2.1.1 hw.1.2.1.2 hw.1.2.2.1) (by kernel_rfl)
def s_l6All_orc : List D → Orc := orcN [none] fun ds => match ds with
  | [.agg [.int .i64 Size, .sl (.rows Sets), .sl (.ints Costs)]] => some (.one (.d (.sl (.ints (allN Sets.length)))))
  | _ => none
abbrev s_l6Next_JJ0 (Size : Int) (Sets : List (List Int)) (Costs : List Int) (covered : List Int) (best : Int) (i : Int) : Prop := (0 ≤ i) ∧ (i ≤ (Sets.length : Int)) ∧ (best = grC Sets Costs covered i.toNat)
abbrev s_l6Next_mJ0 (Size : Int) (Sets : List (List Int)) (Costs : List Int) (covered : List Int) (best : Int) (i : Int) : Nat := (Sets.length - i).toNat
def s_l6Next_C (f : FuncId) (ds : List D) : Orc := bif Nat.beq f 223 then s_l6New_orc ds else .no
def s_l6Next_A (Size : Int) (Sets : List (List Int)) (Costs : List Int) (covered : List Int) : Ann := .two (.none) (.two (.none) (.two (.two (.none) (.loop (cut2 (fun (best : Int) (i : Int) => s_l6Next_JJ0 Size Sets Costs covered best i) (fun (best : Int) (i : Int) => [(1, .d false (.sl (.ints covered))), (2, .ptr 2 0), (5, .d true (.int .i64 best)), (6, .d true (.int .i64 i))]) (fun (best : Int) (i : Int) => [(2, .box 36 [.d false (.int .i64 Size), .d false (.sl (.rows Sets)), .d false (.sl (.ints Costs))])])) (fun g => s_l6Next_mJ0 Size Sets Costs covered g.1 g.2) (fun _ => .none))) (.none)))
def s_l6Next_e1 (Sets : List (List Int)) (Costs : List Int) (covered : List Int) (best : Int) (i : Int) : Bool := (cond (decide ((newOf (Sets.getD i.toNat []) covered) > 0)) (cond (decide (best < 0)) true (decide (((Costs.getD i.toNat 0) * (newOf (Sets.getD best.toNat []) covered)) < ((Costs.getD best.toNat 0) * (newOf (Sets.getD i.toNat []) covered))))) false)
def s_l6Next_P (Size : Int) (Sets : List (List Int)) (Costs : List Int) (covered : List Int) : Prop :=
  ((∃ best' : Int, ∃ i' : Int, (s_l6Next_JJ0 Size Sets Costs covered best' i') ∧ (covered = covered) ∧ (((-1) : Int) = best') ∧ ((0 : Int) = i') ∧ (Size = Size) ∧ (Sets = Sets) ∧ (Costs = Costs)) ∧ (∀ best : Int, ∀ i : Int, (s_l6Next_JJ0 Size Sets Costs covered best i) → (((decide (i < (Sets.length : Int))) = true → ((0 : Int) ≤ i) ∧ ((i : Int) < Sets.length) ∧ (i.toNat < Sets.length) ∧ (PC Try.prog 223 [.sl (.ints (Sets.getD i.toNat [])), .sl (.ints covered)] (.one (.d (.int .i64 (newOf (Sets.getD i.toNat []) covered))))) ∧ (true = true) ∧ ((decide ((newOf (Sets.getD i.toNat []) covered) > 0)) = true → (decide ((newOf (Sets.getD i.toNat []) covered) > 0)) = true) ∧ ((decide ((newOf (Sets.getD i.toNat []) covered) > 0)) = true → (decide ((newOf (Sets.getD i.toNat []) covered) > 0)) = true) ∧ (((decide ((newOf (Sets.getD i.toNat []) covered) > 0)) && (!(decide (best < 0)))) = true → ((decide ((newOf (Sets.getD i.toNat []) covered) > 0)) && (!(decide (best < 0)))) = true) ∧ (((decide ((newOf (Sets.getD i.toNat []) covered) > 0)) && (!(decide (best < 0)))) = true → ((decide ((newOf (Sets.getD i.toNat []) covered) > 0)) && (!(decide (best < 0)))) = true) ∧ (((decide ((newOf (Sets.getD i.toNat []) covered) > 0)) && (!(decide (best < 0)))) = true → ((decide ((newOf (Sets.getD i.toNat []) covered) > 0)) && (!(decide (best < 0)))) = true) ∧ ((((decide ((newOf (Sets.getD i.toNat []) covered) > 0)) && (!(decide (best < 0)))) = true → (0 : Int) ≤ i)) ∧ ((((decide ((newOf (Sets.getD i.toNat []) covered) > 0)) && (!(decide (best < 0)))) = true → (i : Int) < Costs.length)) ∧ (((decide ((newOf (Sets.getD i.toNat []) covered) > 0)) && (!(decide (best < 0)))) = true → ((decide ((newOf (Sets.getD i.toNat []) covered) > 0)) && (!(decide (best < 0)))) = true) ∧ ((((decide ((newOf (Sets.getD i.toNat []) covered) > 0)) && (!(decide (best < 0)))) = true → i.toNat < Costs.length)) ∧ (((decide ((newOf (Sets.getD i.toNat []) covered) > 0)) && (!(decide (best < 0)))) = true → ((decide ((newOf (Sets.getD i.toNat []) covered) > 0)) && (!(decide (best < 0)))) = true) ∧ (((decide ((newOf (Sets.getD i.toNat []) covered) > 0)) && (!(decide (best < 0)))) = true → ((decide ((newOf (Sets.getD i.toNat []) covered) > 0)) && (!(decide (best < 0)))) = true) ∧ (((decide ((newOf (Sets.getD i.toNat []) covered) > 0)) && (!(decide (best < 0)))) = true → ((decide ((newOf (Sets.getD i.toNat []) covered) > 0)) && (!(decide (best < 0)))) = true) ∧ ((((decide ((newOf (Sets.getD i.toNat []) covered) > 0)) && (!(decide (best < 0)))) = true → (0 : Int) ≤ best)) ∧ ((((decide ((newOf (Sets.getD i.toNat []) covered) > 0)) && (!(decide (best < 0)))) = true → (best : Int) < Sets.length)) ∧ (((decide ((newOf (Sets.getD i.toNat []) covered) > 0)) && (!(decide (best < 0)))) = true → ((decide ((newOf (Sets.getD i.toNat []) covered) > 0)) && (!(decide (best < 0)))) = true) ∧ ((((decide ((newOf (Sets.getD i.toNat []) covered) > 0)) && (!(decide (best < 0)))) = true → best.toNat < Sets.length)) ∧ (((decide ((newOf (Sets.getD i.toNat []) covered) > 0)) && (!(decide (best < 0)))) = true → ((decide ((newOf (Sets.getD i.toNat []) covered) > 0)) && (!(decide (best < 0)))) = true) ∧ (((decide ((newOf (Sets.getD i.toNat []) covered) > 0)) && (!(decide (best < 0)))) = true → ((decide ((newOf (Sets.getD i.toNat []) covered) > 0)) && (!(decide (best < 0)))) = true) ∧ (((decide ((newOf (Sets.getD i.toNat []) covered) > 0)) && (!(decide (best < 0)))) = true → PC Try.prog 223 [.sl (.ints (Sets.getD best.toNat [])), .sl (.ints covered)] (.one (.d (.int .i64 (newOf (Sets.getD best.toNat []) covered))))) ∧ (((decide ((newOf (Sets.getD i.toNat []) covered) > 0)) && (!(decide (best < 0)))) = true → ((decide ((newOf (Sets.getD i.toNat []) covered) > 0)) && (!(decide (best < 0)))) = true) ∧ (((decide ((newOf (Sets.getD i.toNat []) covered) > 0)) && (!(decide (best < 0)))) = true → ((decide ((newOf (Sets.getD i.toNat []) covered) > 0)) && (!(decide (best < 0)))) = true) ∧ ((((decide ((newOf (Sets.getD i.toNat []) covered) > 0)) && (!(decide (best < 0)))) = true → -9223372036854775808 ≤ ((Costs.getD i.toNat 0) * (newOf (Sets.getD best.toNat []) covered)) ∧ ((Costs.getD i.toNat 0) * (newOf (Sets.getD best.toNat []) covered)) ≤ 9223372036854775807)) ∧ (((decide ((newOf (Sets.getD i.toNat []) covered) > 0)) && (!(decide (best < 0)))) = true → ((decide ((newOf (Sets.getD i.toNat []) covered) > 0)) && (!(decide (best < 0)))) = true) ∧ (((decide ((newOf (Sets.getD i.toNat []) covered) > 0)) && (!(decide (best < 0)))) = true → ((decide ((newOf (Sets.getD i.toNat []) covered) > 0)) && (!(decide (best < 0)))) = true) ∧ (((decide ((newOf (Sets.getD i.toNat []) covered) > 0)) && (!(decide (best < 0)))) = true → ((decide ((newOf (Sets.getD i.toNat []) covered) > 0)) && (!(decide (best < 0)))) = true) ∧ ((((decide ((newOf (Sets.getD i.toNat []) covered) > 0)) && (!(decide (best < 0)))) = true → (0 : Int) ≤ best)) ∧ ((((decide ((newOf (Sets.getD i.toNat []) covered) > 0)) && (!(decide (best < 0)))) = true → (best : Int) < Costs.length)) ∧ (((decide ((newOf (Sets.getD i.toNat []) covered) > 0)) && (!(decide (best < 0)))) = true → ((decide ((newOf (Sets.getD i.toNat []) covered) > 0)) && (!(decide (best < 0)))) = true) ∧ ((((decide ((newOf (Sets.getD i.toNat []) covered) > 0)) && (!(decide (best < 0)))) = true → best.toNat < Costs.length)) ∧ (((decide ((newOf (Sets.getD i.toNat []) covered) > 0)) && (!(decide (best < 0)))) = true → ((decide ((newOf (Sets.getD i.toNat []) covered) > 0)) && (!(decide (best < 0)))) = true) ∧ (((decide ((newOf (Sets.getD i.toNat []) covered) > 0)) && (!(decide (best < 0)))) = true → ((decide ((newOf (Sets.getD i.toNat []) covered) > 0)) && (!(decide (best < 0)))) = true) ∧ ((((decide ((newOf (Sets.getD i.toNat []) covered) > 0)) && (!(decide (best < 0)))) = true → -9223372036854775808 ≤ ((Costs.getD best.toNat 0) * (newOf (Sets.getD i.toNat []) covered)) ∧ ((Costs.getD best.toNat 0) * (newOf (Sets.getD i.toNat []) covered)) ≤ 9223372036854775807)) ∧ (((decide ((newOf (Sets.getD i.toNat []) covered) > 0)) && (!(decide (best < 0)))) = true → ((decide ((newOf (Sets.getD i.toNat []) covered) > 0)) && (!(decide (best < 0)))) = true) ∧ (((decide ((newOf (Sets.getD i.toNat []) covered) > 0)) && (!(decide (best < 0)))) = true → ((decide ((newOf (Sets.getD i.toNat []) covered) > 0)) && (!(decide (best < 0)))) = true) ∧ (((decide ((newOf (Sets.getD i.toNat []) covered) > 0)) = true → (decide ((newOf (Sets.getD i.toNat []) covered) > 0)) = true)) ∧ (((decide ((newOf (Sets.getD i.toNat []) covered) > 0)) = true → (decide (best < 0)) = true → true = true)) ∧ (((decide ((newOf (Sets.getD i.toNat []) covered) > 0)) = true → (decide (best < 0)) = false → ((decide ((newOf (Sets.getD i.toNat []) covered) > 0)) && (!(decide (best < 0)))) = true)) ∧ (true = true) ∧ (((decide ((newOf (Sets.getD i.toNat []) covered) > 0)) = true → (decide ((newOf (Sets.getD i.toNat []) covered) > 0)) = true)) ∧ (((decide ((newOf (Sets.getD i.toNat []) covered) > 0)) = false → true = true)) ∧ (((s_l6Next_e1 Sets Costs covered best i) = true → (-9223372036854775808 ≤ (i + 1) ∧ (i + 1) ≤ 9223372036854775807) ∧ (∃ best' : Int, ∃ i' : Int, (s_l6Next_JJ0 Size Sets Costs covered best' i') ∧ (s_l6Next_mJ0 Size Sets Costs covered best' i' < s_l6Next_mJ0 Size Sets Costs covered best i) ∧ (covered = covered) ∧ (i = best') ∧ ((i + 1) = i') ∧ (Size = Size) ∧ (Sets = Sets) ∧ (Costs = Costs))) ∧ ((s_l6Next_e1 Sets Costs covered best i) = false → (-9223372036854775808 ≤ (i + 1) ∧ (i + 1) ≤ 9223372036854775807) ∧ (∃ best' : Int, ∃ i' : Int, (s_l6Next_JJ0 Size Sets Costs covered best' i') ∧ (s_l6Next_mJ0 Size Sets Costs covered best' i' < s_l6Next_mJ0 Size Sets Costs covered best i) ∧ (covered = covered) ∧ (best = best') ∧ ((i + 1) = i') ∧ (Size = Size) ∧ (Sets = Sets) ∧ (Costs = Costs))))) ∧ ((decide (i < (Sets.length : Int))) = false → ((best = (grC Sets Costs covered Sets.length)))))))
theorem s_l6Next_vc (Size : Int) (Sets : List (List Int)) (Costs : List Int) (covered : List Int) (hg : goodSys Size Sets Costs = true) (w_Sets : (Sets.length : Int) ≤ 9223372036854775807) (v_Sets : ∀ x9 ∈ Sets, (x9.length : Int) ≤ 9223372036854775807) (w_Costs : (Costs.length : Int) ≤ 9223372036854775807) (w_covered : (covered.length : Int) ≤ 9223372036854775807) : s_l6Next_P Size Sets Costs covered := by
  unfold s_l6Next_P s_l6Next_e1
  have gf := gs_facts hg
  refine ⟨?_, ?_⟩
  ·refine ⟨(-1), 0, ?_⟩
   refine ⟨?_, rfl, rfl, rfl, rfl, rfl, rfl⟩
   ·refine ⟨?_, ?_, ?_⟩
    ·omega
    ·omega
    ·rfl
  ·intro best i hJ
   obtain ⟨h1, h2, h3⟩ := hJ
   refine ⟨?_, ?_⟩
   ·intro b1
    try simp only [nrmT] at b1
    refine ⟨?_, ?_, ?_, s_l6New_pc (Sets.getD i.toNat []) covered, rfl, id, id, id, id, id, ?_, ?_, id, ?_, id, id, id, ?_, ?_, id, ?_, id, id, fun _ => s_l6New_pc (Sets.getD best.toNat []) covered, id, id, ?_, id, id, id, ?_, ?_, id, ?_, id, id, ?_, id, id, id, fun _ _ => rfl, ?_, rfl, id, fun _ => rfl, ?_, ?_⟩
    ·omega
    ·omega
    ·omega
    ·intro hgd
     have gi := grC_in Sets Costs covered i.toNat
     rw [← h3] at gi
     simp only [Bool.and_eq_true, Bool.not_eq_true', decide_eq_false_iff_not] at hgd
     omega
    ·intro hgd
     have gi := grC_in Sets Costs covered i.toNat
     rw [← h3] at gi
     simp only [Bool.and_eq_true, Bool.not_eq_true', decide_eq_false_iff_not] at hgd
     omega
    ·intro hgd
     have gi := grC_in Sets Costs covered i.toNat
     rw [← h3] at gi
     simp only [Bool.and_eq_true, Bool.not_eq_true', decide_eq_false_iff_not] at hgd
     omega
    ·intro hgd
     have gi := grC_in Sets Costs covered i.toNat
     rw [← h3] at gi
     simp only [Bool.and_eq_true, Bool.not_eq_true', decide_eq_false_iff_not] at hgd
     omega
    ·intro hgd
     have gi := grC_in Sets Costs covered i.toNat
     rw [← h3] at gi
     simp only [Bool.and_eq_true, Bool.not_eq_true', decide_eq_false_iff_not] at hgd
     omega
    ·intro hgd
     have gi := grC_in Sets Costs covered i.toNat
     rw [← h3] at gi
     simp only [Bool.and_eq_true, Bool.not_eq_true', decide_eq_false_iff_not] at hgd
     omega
    ·intro hgd
     have gi := grC_in Sets Costs covered i.toNat
     rw [← h3] at gi
     simp only [Bool.and_eq_true, Bool.not_eq_true', decide_eq_false_iff_not] at hgd
     have := prod_ok hg covered (i := i.toNat) (j := best.toNat) (by omega) (by omega)
     omega
    ·intro hgd
     have gi := grC_in Sets Costs covered i.toNat
     rw [← h3] at gi
     simp only [Bool.and_eq_true, Bool.not_eq_true', decide_eq_false_iff_not] at hgd
     omega
    ·intro hgd
     have gi := grC_in Sets Costs covered i.toNat
     rw [← h3] at gi
     simp only [Bool.and_eq_true, Bool.not_eq_true', decide_eq_false_iff_not] at hgd
     omega
    ·intro hgd
     have gi := grC_in Sets Costs covered i.toNat
     rw [← h3] at gi
     simp only [Bool.and_eq_true, Bool.not_eq_true', decide_eq_false_iff_not] at hgd
     omega
    ·intro hgd
     have gi := grC_in Sets Costs covered i.toNat
     rw [← h3] at gi
     simp only [Bool.and_eq_true, Bool.not_eq_true', decide_eq_false_iff_not] at hgd
     have := prod_ok hg covered (i := best.toNat) (j := i.toNat) (by omega) (by omega)
     omega
    ·intro g1 g2; rw [g1, g2]; rfl
    ·intro b2
     refine ⟨?_, ?_⟩
     ·omega
     ·refine ⟨i, (i + 1), ?_⟩
      refine ⟨?_, ?_, rfl, rfl, rfl, rfl, rfl, rfl⟩
      ·refine ⟨?_, ?_, ?_⟩
       ·omega
       ·omega
       ·rw [cond_and_or] at b2
        rw [show (i + 1).toNat = i.toNat + 1 by omega, grC_succ, ← h3]
        unfold grCF
        rw [if_pos b2]; omega
      ·first | (show _ < _; omega) | (simp only [s_l6Next_mJ0]; omega) | (simp only [s_l6Next_mJ0] at *; simp at *; omega)
    ·intro b3
     refine ⟨?_, ?_⟩
     ·omega
     ·refine ⟨best, (i + 1), ?_⟩
      refine ⟨?_, ?_, rfl, rfl, rfl, rfl, rfl, rfl⟩
      ·refine ⟨?_, ?_, ?_⟩
       ·omega
       ·omega
       ·rw [cond_and_or] at b3
        rw [show (i + 1).toNat = i.toNat + 1 by omega, grC_succ, ← h3]
        unfold grCF
        rw [if_neg (by rw [b3]; decide)]
      ·first | (show _ < _; omega) | (simp only [s_l6Next_mJ0]; omega) | (simp only [s_l6Next_mJ0] at *; simp at *; omega)
   ·intro b4
    try simp only [nrmT] at b4
    rw [h3, show i.toNat = Sets.length by omega]
theorem s_l6Next_pc (Size : Int) (Sets : List (List Int)) (Costs : List Int) (covered : List Int) (hg : goodSys Size Sets Costs = true) : PC Try.prog 228 [.agg [.int .i64 Size, .sl (.rows Sets), .sl (.ints Costs)], .sl (.ints covered)] (.one (.d (.int .i64 (grC Sets Costs covered Sets.length)))) :=
  pc_wf @Try.call228 fun hw => pc_by (by kernel_rfl) Try.func228 @Try.call228 (by kernel_rfl) s_l6Next_C (s_l6Next_A Size Sets Costs covered) (by kernel_rfl) (s_l6Next_vc Size Sets Costs covered hg hw.1.2.1.1 hw.1.2.1.2 hw.1.2.2.1 hw.2.1) (by kernel_rfl)
def s_l6Next_orc : List D → Orc := orcN [none, some .ints] fun ds => match ds with
  | [.agg [.int .i64 Size, .sl (.rows Sets), .sl (.ints Costs)], .sl (.ints covered)] => some (.one (.d (.int .i64 (grC Sets Costs covered Sets.length))))
  | _ => none
def prV (Sets : List (List Int)) (Costs r : List Int) (i : Nat) : Int := 840 / newN Sets (r.take i) (r.getD i 0).toNat * Costs.getD (r.getD i 0).toNat 0
def prAt (Sets : List (List Int)) (Costs r : List Int) : Nat → Nat → Int
  | 0, _ => 0
  | i + 1, x => if (!(covB Sets (r.take i) x) && (Sets.getD (r.getD i 0).toNat []).contains (x : Int)) = true then prV Sets Costs r i else prAt Sets Costs r i x
def prL (Size : Int) (Sets : List (List Int)) (Costs r : List Int) (i : Nat) : List Int := tabTo (prAt Sets Costs r i) Size.toNat
theorem prV_app {Sets : List (List Int)} {Costs r : List Int} {b : Int} {i : Nat} (hi : i < r.length) : prV Sets Costs (r ++ [b]) i = prV Sets Costs r i := by
  unfold prV
  rw [List.take_append_of_le_length (by omega)]
  simp only [List.getD_eq_getElem?_getD]
  rw [List.getElem?_append_left hi]
theorem prAt_app {Sets : List (List Int)} {Costs r : List Int} {b : Int} : ∀ i x, i ≤ r.length → prAt Sets Costs (r ++ [b]) i x = prAt Sets Costs r i x
  | 0, _, _ => rfl
  | i + 1, x, h => by
    have e : (r ++ [b]).getD i 0 = r.getD i 0 := by
      simp only [List.getD_eq_getElem?_getD]
      rw [List.getElem?_append_left (by omega)]
    simp only [prAt]
    rw [prV_app (by omega), prAt_app i x (by omega), List.take_append_of_le_length (by omega), e]
theorem prL_zero (Size : Int) (Sets : List (List Int)) (Costs r : List Int) : prL Size Sets Costs r 0 = List.replicate Size.toNat 0 := by
  unfold prL tabTo
  apply List.ext_getElem
  · simp
  · intro k h1 h2
    simp [prAt]
theorem prL_len (Size : Int) (Sets : List (List Int)) (Costs r : List Int) (i : Nat) : (prL Size Sets Costs r i).length = Size.toNat := tabTo_len _ _
theorem tab_set {α : Type} {f : Nat → α} {n i : Nat} {v : α} : (tabTo f n).set i v = tabTo (fun x => if x = i then v else f x) n := by
  unfold tabTo
  apply List.ext_getElem
  · simp
  · intro k h1 h2
    rw [List.getElem_set]
    simp only [List.getElem_map, List.getElem_range]
    by_cases e : i = k
    · rw [if_pos e, if_pos e.symm]
    · rw [if_neg e, if_neg (fun h => e h.symm)]
/-- Some elements' places get a value, one after the other. -/
def setsTo (q : Int → Bool) (v : Int) (L p : List Int) (k : Nat) : List Int := foldTo (fun p j => if q (L.getD j 0) = true then p else p.set (L.getD j 0).toNat v) p k
theorem setsTo_succ (q : Int → Bool) (v : Int) (L p : List Int) (k : Nat) : setsTo q v L p (k + 1) = if q (L.getD k 0) = true then setsTo q v L p k else (setsTo q v L p k).set (L.getD k 0).toNat v := rfl
theorem setsTo_len (q : Int → Bool) (v : Int) (L p : List Int) (k : Nat) : (setsTo q v L p k).length = p.length :=
  foldTo_inv (P := fun _ (o : List Int) => o.length = p.length) k rfl fun j x _ hx => by split <;> simp [hx]
theorem setsTo_tab {q : Int → Bool} {v : Int} {L : List Int} {f : Nat → Int} {n : Nat} (hL : ∀ x ∈ L, 0 ≤ x) : ∀ k, k ≤ L.length → setsTo q v L (tabTo f n) k = tabTo (fun x => if ((L.take k).contains (x : Int) && !(q (x : Int))) = true then v else f x) n
  | 0, _ => by
    show tabTo f n = _
    unfold tabTo
    refine List.map_congr_left fun x _ => ?_
    simp
  | k + 1, hk => by
    have hlt : k < L.length := by omega
    have e : L.take (k + 1) = L.take k ++ [L.getD k 0] := by
      rw [List.take_add_one, List.getElem?_eq_getElem hlt, getD_get hlt]; rfl
    have h0 := hL _ (getD_mem (d := 0) hlt)
    rw [setsTo_succ, setsTo_tab hL k (by omega), e]
    have hc : ∀ x : Nat, (L.take k ++ [L.getD k 0]).contains (x : Int) = ((L.take k).contains (x : Int) || decide ((x : Int) = L.getD k 0)) := by
      intro x
      rw [List.contains_eq_any_beq, List.any_append, ← List.contains_eq_any_beq]
      simp only [List.any_cons, List.any_nil, Bool.or_false]
      rfl
    by_cases hq : q (L.getD k 0) = true
    · rw [if_pos hq]
      unfold tabTo
      refine List.map_congr_left fun x _ => ?_
      rw [hc]
      by_cases hx : (x : Int) = L.getD k 0
      · rw [hx, hq]; simp
      · rw [decide_eq_false hx, Bool.or_false]
    · rw [if_neg hq, tab_set]
      unfold tabTo
      refine List.map_congr_left fun x _ => ?_
      rw [hc]
      by_cases hx : (x : Int) = L.getD k 0
      · rw [if_pos (by omega), decide_eq_true hx, Bool.or_true, hx, Bool.true_and, if_pos (by simpa using hq)]
      · rw [if_neg (by omega), decide_eq_false hx, Bool.or_false]
theorem prL_step {Size : Int} {Sets : List (List Int)} {Costs r : List Int} {q : Int → Bool} {L : List Int} {i : Nat} {v : Int} (hL : ∀ x ∈ L, 0 ≤ x) (hv : v = prV Sets Costs r i)
    (hq : ∀ x : Nat, x < Size.toNat → (L.contains (x : Int) && !(q (x : Int))) = (!(covB Sets (r.take i) x) && (Sets.getD (r.getD i 0).toNat []).contains (x : Int))) :
    setsTo q v L (prL Size Sets Costs r i) L.length = prL Size Sets Costs r (i + 1) := by
  unfold prL
  rw [setsTo_tab hL _ (Nat.le_refl _), List.take_length]
  unfold tabTo
  refine List.map_congr_left fun x hx => ?_
  rw [hq x (List.mem_range.1 hx)]
  simp only [prAt]
  rw [hv]
theorem putL_mem : ∀ {l : List Int} {x : Int}, Asc l → x ∈ l → putL l x = l
  | [], _, _, h => by cases h
  | y :: r, x, ha, h => by
    obtain ⟨h1, h2⟩ := List.pairwise_cons.1 ha
    unfold putL
    by_cases e : y < x
    · rw [if_pos e]
      rcases List.mem_cons.1 h with h | h
      · omega
      · rw [putL_mem h2 h]
    · rw [if_neg e]
      rcases List.mem_cons.1 h with h | h
      · rw [if_pos h.symm]
      · have := h1 x h; omega
theorem put_same {l set : List Int} {lo hi : Int} (hr : rising set lo hi = true) {k : Nat} (hk : k < set.length) : (putAll l set k).contains (set.getD k 0) = l.contains (set.getD k 0) := by
  rw [Bool.eq_iff_iff, List.contains_iff_mem, List.contains_iff_mem, mem_putAll k (by omega)]
  constructor
  · rintro (h | ⟨j, h1, h2⟩)
    · exact h
    · have := rising_lt hr h1 hk; omega
  · exact .inl
theorem putAll_succ (l set : List Int) (k : Nat) : putAll l set (k + 1) = putL (putAll l set k) (set.getD k 0) := rfl
theorem new_one {Size : Int} {Sets : List (List Int)} {Costs r : List Int} (hg : goodSys Size Sets Costs = true) (h : GrOk Sets r) {i : Nat} (hi : i < r.length) : 1 ≤ newN Sets (r.take i) (r.getD i 0).toNat ∧ newN Sets (r.take i) (r.getD i 0).toNat ≤ 8 := by
  have h1 := h.pos i hi
  have h2 := h.inR _ (getD_mem (d := 0) hi)
  have h3 := new_le8 hg (covL Sets (r.take i) (r.take i).length) (k := (r.getD i 0).toNat) (by omega)
  unfold newN at *
  omega
def gcvL (Size : Int) (Sets : List (List Int)) (Costs : List Int) : List Int := if goodSys Size Sets Costs = true then grO Size Sets Costs else []
def gpL (Size : Int) (Sets : List (List Int)) (Costs : List Int) : List Int := if (goodSys Size Sets Costs && coverB Size Sets (allN Sets.length)) = true then prL Size Sets Costs (grO Size Sets Costs) (grO Size Sets Costs).length else []
theorem gpL_len {Size : Int} {Sets : List (List Int)} {Costs : List Int} : (gpL Size Sets Costs).length ≤ 8 := by
  unfold gpL
  split
  · rename_i h
    rw [Bool.and_eq_true] at h
    have := gs_facts h.1
    rw [prL_len]; omega
  · simp
theorem take_last (out : List Int) (b : Int) : (out ++ [b]).take out.length = out := by simp
theorem getD_last (out : List Int) (b : Int) : (out ++ [b]).getD out.length 0 = b := by simp
theorem prV_last (Sets : List (List Int)) (Costs out : List Int) (b : Int) : prV Sets Costs (out ++ [b]) out.length = 840 / newN Sets out b.toNat * Costs.getD b.toNat 0 := by
  unfold prV
  rw [take_last, getD_last]
theorem prL_app {Size : Int} {Sets : List (List Int)} {Costs out : List Int} {b : Int} : prL Size Sets Costs (out ++ [b]) out.length = prL Size Sets Costs out out.length := by
  unfold prL tabTo
  exact List.map_congr_left fun x _ => prAt_app _ x (Nat.le_refl _)
theorem pr_bound {n c : Int} (h : 1 ≤ n) (hc : 1 ≤ c ∧ c ≤ 99) : 0 ≤ 840 / n * c ∧ 840 / n * c ≤ 83160 := by
  have h1 : 0 ≤ 840 / n := Int.ediv_nonneg (by omega) (by omega)
  have h2 : 840 / n ≤ 840 := Int.ediv_le_self _ (by omega)
  exact ⟨Int.mul_nonneg h1 (by omega), Int.le_trans (Int.mul_le_mul h2 hc.2 (by omega) (by omega)) (by omega)⟩
theorem prL_spec {Size : Int} {Sets : List (List Int)} {Costs out : List Int} (hg : goodSys Size Sets Costs = true) {b : Int} (hb : 0 ≤ b ∧ b < (Sets.length : Int)) :
    setsTo (fun x => (covL Sets out out.length).contains x) (prV Sets Costs (out ++ [b]) out.length) (Sets.getD b.toNat []) (prL Size Sets Costs out out.length) (Sets.getD b.toNat []).length = prL Size Sets Costs (out ++ [b]) (out.length + 1) := by
  rw [← prL_app (b := b)]
  refine prL_step (fun x hx => (set_mem hg (k := b.toNat) (by omega) x hx).1) rfl fun x _ => ?_
  rw [take_last, getD_last]
  have e : (covL Sets out out.length).contains (x : Int) = covB Sets out x := by
    rw [Bool.eq_iff_iff, List.contains_iff_mem, covB_iff2]
  rw [e, Bool.and_comm]
def cmpI (a b : Int) : Int := if a < b then -1 else if a > b then 1 else 0
def cmpL : List Int → List Int → Int
  | [], [] => 0
  | [], _ :: _ => -1
  | _ :: _, [] => 1
  | x :: r, y :: s => if x < y then -1 else if x > y then 1 else cmpL r s
theorem cmpL_drop {xs ys : List Int} {i : Nat} (h : cmpL xs ys = cmpL (xs.drop i) (ys.drop i)) (h1 : i < xs.length) (h2 : i < ys.length) :
    cmpL xs ys = if xs.getD i 0 < ys.getD i 0 then -1 else if xs.getD i 0 > ys.getD i 0 then 1 else cmpL (xs.drop (i + 1)) (ys.drop (i + 1)) := by
  rw [h, List.drop_eq_getElem_cons h1, List.drop_eq_getElem_cons h2, getD_get h1, getD_get h2]
  rfl
theorem cmpL_short {xs ys : List Int} {i : Nat} (h : cmpL xs ys = cmpL (xs.drop i) (ys.drop i)) (h1 : i < xs.length) (h2 : ys.length ≤ i) : cmpL xs ys = 1 := by
  rw [h, List.drop_eq_getElem_cons h1, List.drop_eq_nil_of_le h2]
  rfl
theorem cmpL_end {xs ys : List Int} {i : Nat} (h : cmpL xs ys = cmpL (xs.drop i) (ys.drop i)) (h1 : xs.length ≤ i) (h2 : i ≤ ys.length) (h3 : i = xs.length) : cmpL xs ys = if xs.length < ys.length then -1 else 0 := by
  rw [h, List.drop_eq_nil_of_le h1]
  by_cases e : xs.length < ys.length
  · rw [if_pos e, List.drop_eq_getElem_cons (by omega)]
    rfl
  · rw [if_neg e, List.drop_eq_nil_of_le (by omega)]
    rfl
def cmp_isNaN_int__C (f : FuncId) (ds : List D) : Orc := .no
def cmp_isNaN_int__A (x : Int) : Ann := .none
def cmp_isNaN_int__P (x : Int) : Prop :=
  (((x != x) = false))
theorem cmp_isNaN_int__vc (x : Int)   : cmp_isNaN_int__P x := by
  unfold cmp_isNaN_int__P
  simp
theorem cmp_isNaN_int__pc (x : Int)  : PC Try.prog 231 [.int .i64 x] (.one (.d (.bool false))) :=
  pc_wf @Try.call231 fun _ => pc_by (by kernel_rfl) Try.func231 @Try.call231 (by kernel_rfl) cmp_isNaN_int__C (cmp_isNaN_int__A x) (by kernel_rfl) (cmp_isNaN_int__vc x) (by kernel_rfl)
def cmp_isNaN_int__orc : List D → Orc := orcN [none] fun ds => match ds with
  | [.int .i64 x] => some (.one (.d (.bool false)))
  | _ => none
def cmp_Compare_int__C (f : FuncId) (ds : List D) : Orc := bif Nat.beq f 231 then cmp_isNaN_int__orc ds else .no
def cmp_Compare_int__A (a : Int) (b : Int) : Ann := .two (.none) (.two (.none) (.two (.none) (.two (.two (.none) (.goF (.none))) (.two (.two (.none) (.goF (.none))) (.none)))))
def cmp_Compare_int__P (a : Int) (b : Int) : Prop :=
  (PC Try.prog 231 [.int .i64 a] (.one (.d (.bool false)))) ∧ (PC Try.prog 231 [.int .i64 b] (.one (.d (.bool false)))) ∧ (false = false) ∧ (false = false) ∧ (((decide (a < b)) = true → ((((-1) : Int) = (cmpI a b)))) ∧ ((decide (a < b)) = false → (((decide (a > b)) = true → (((1 : Int) = (cmpI a b)))) ∧ ((decide (a > b)) = false → (((0 : Int) = (cmpI a b)))))))
theorem cmp_Compare_int__vc (a : Int) (b : Int)   : cmp_Compare_int__P a b := by
  unfold cmp_Compare_int__P
  refine ⟨cmp_isNaN_int__pc a, cmp_isNaN_int__pc b, rfl, rfl, ?_, ?_⟩
  ·intro b1
   try simp only [nrmT] at b1
   unfold cmpI; first | rw [if_pos (by omega)] | rw [if_neg (by omega), if_pos (by omega)] | rw [if_neg (by omega), if_neg (by omega)]
  ·intro b2
   try simp only [nrmT] at b2
   refine ⟨?_, ?_⟩
   ·intro b3
    try simp only [nrmT] at b3
    unfold cmpI; first | rw [if_pos (by omega)] | rw [if_neg (by omega), if_pos (by omega)] | rw [if_neg (by omega), if_neg (by omega)]
   ·intro b4
    try simp only [nrmT] at b4
    unfold cmpI; first | rw [if_pos (by omega)] | rw [if_neg (by omega), if_pos (by omega)] | rw [if_neg (by omega), if_neg (by omega)]
end Go.Proofs.Ytomnmacmlhkceaa
