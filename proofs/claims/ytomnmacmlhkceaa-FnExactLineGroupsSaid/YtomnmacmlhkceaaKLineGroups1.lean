/- Contracts of the functions that the law reaches. -/
import Derived.Test.YtomnmacmlhkceaaQw
import Derived.Test.YtomnmacmlhkceaaQma
import Derived.Test.YtomnmacmlhkceaaQua
import Derived.Test.YtomnmacmlhkceaaQuc
import Derived.Test.YtomnmacmlhkceaaSh
import Derived.Test.YtomnmacmlhkceaaProg
import Derived.KernelRfl
set_option linter.unusedVariables false
set_option linter.unusedSimpArgs false
namespace Go.Proofs.Ytomnmacmlhkceaa
open Go

abbrev ZI := List Int
abbrev ZR := List (List Int)
abbrev I6 (x : Int) : Prop := -9223372036854775808 ≤ x ∧ x ≤ 9223372036854775807
def J88 (f : FuncId) (ds : List D) : Orc := .no
def J8g (x : Int) (a : Int) (b : Int) : Ann := .none
def J68 (x : Int) (a : Int) (b : Int) : Prop :=
  ((decide (x ≥ a)) = true → (decide (x ≥ a)) = true) ∧ ((decide (x ≥ a)) = true → (decide (x ≥ a)) = true) ∧ (true = true) ∧ (((decide (x ≥ a)) = true → (decide (x ≥ a)) = true)) ∧ (((decide (x ≥ a)) = false → true = true)) ∧ (((cond (decide (x ≥ a)) (decide (x ≤ b)) false) = (inB x a b)))
theorem J7N (x : Int) (a : Int) (b : Int)   : J68 x a b := by
  unfold J68
  refine ⟨id, id, rfl, id, fun _ => rfl, ?_⟩
  ·(simp only [inB]; by_cases h : a ≤ x <;> simp_all)
theorem J0Z (x : Int) (a : Int) (b : Int)  : PC Try.prog 116 [.int .i64 x, .int .i64 a, .int .i64 b] (.one (.d (.bool (inB x a b)))) :=
  pc_wf @Try.call116 fun _ => pc_by (by kernel_rfl) Try.func116 @Try.call116 (by kernel_rfl) J88 (J8g x a b) (by kernel_rfl) (J7N x a b) (by kernel_rfl)
def J1g : List D → Orc := orcN [none, none, none] fun ds => match ds with
  | [.int .i64 x, .int .i64 a, .int .i64 b] => some (.one (.d (.bool (inB x a b))))
  | _ => none
def J6A (f : FuncId) (ds : List D) : Orc := .no
def J6J (x : Int) (a : Int) (b : Int) : Ann := .none
def J3M (x : Int) (a : Int) (b : Int) : Prop :=
  ((decide (x ≥ a)) = true → (decide (x ≥ a)) = true) ∧ ((decide (x ≥ a)) = true → (decide (x ≥ a)) = true) ∧ (true = true) ∧ (((decide (x ≥ a)) = true → (decide (x ≥ a)) = true)) ∧ (((decide (x ≥ a)) = false → true = true)) ∧ (((cond (decide (x ≥ a)) (decide (x ≤ b)) false) = (inB x a b)))
theorem J64 (x : Int) (a : Int) (b : Int)   : J3M x a b := by
  unfold J3M
  refine ⟨id, id, rfl, id, fun _ => rfl, ?_⟩
  ·(simp only [inB]; by_cases h : a ≤ x <;> simp_all)
theorem J0s (x : Int) (a : Int) (b : Int)  : PC Try.prog 120 [.int .i64 x, .int .i64 a, .int .i64 b] (.one (.d (.bool (inB x a b)))) :=
  pc_wf @Try.call120 fun _ => pc_by (by kernel_rfl) Try.func120 @Try.call120 (by kernel_rfl) J6A (J6J x a b) (by kernel_rfl) (J64 x a b) (by kernel_rfl)
def J0c : List D → Orc := orcN [none, none, none] fun ds => match ds with
  | [.int .i64 x, .int .i64 a, .int .i64 b] => some (.one (.d (.bool (inB x a b))))
  | _ => none
def J0C (xs : ZI) (lo hi : Int) (k : Nat) : Bool := inB (xs.getD k 0) lo hi && (decide (k = 0) || decide (xs.getD (k - 1) 0 < xs.getD k 0))
def J1 (xs : ZI) (lo hi : Int) : Bool := allTo (J0C xs lo hi) xs.length
theorem J1E {xs : ZI} {lo hi i : Int} (h0 : 0 ≤ i) {c : Bool} (hc : (cond (!(inB (xs.getD i.toNat 0) lo hi)) true (cond (decide (i > 0)) (decide (xs.getD (i - 1).toNat 0 ≥ xs.getD i.toNat 0)) false)) = c) :
    J0C xs lo hi i.toNat = !c := by
  subst hc
  have e : (i - 1).toNat = i.toNat - 1 := by omega
  unfold J0C
  rw [e]
  cases inB (xs.getD i.toNat 0) lo hi
  · rfl
  by_cases h : i > 0
  · have h2 : ¬ i.toNat = 0 := by omega
    simp [h, h2]
    by_cases h3 : xs[i.toNat - 1]?.getD 0 < xs[i.toNat]?.getD 0
    · simp [h3]
    simp [h3]; omega
  · have h2 : i.toNat = 0 := by omega
    simp [h, h2]
abbrev J0E (xs : ZI) (lo : Int) (hi : Int) (i : Int) : Prop := (0 ≤ i) ∧ (i ≤ (xs.length : Int)) ∧ (allTo (J0C xs lo hi) i.toNat = true)
abbrev J0H (xs : ZI) (lo : Int) (hi : Int) (i : Int) : Nat := (xs.length - i).toNat
def J6b (f : FuncId) (ds : List D) : Orc := bif Nat.beq f 116 then J1g ds else .no
def J67 (xs : ZI) (lo : Int) (hi : Int) : Ann := .two (.none) (.two (.two (.none) (.loop (cut1 (fun (i : Int) => J0E xs lo hi i) (fun (i : Int) => [(0, .d false (.sl (.ints xs))), (1, .d false (.int .i64 lo)), (2, .d false (.int .i64 hi)), (7, .d true (.int .i64 i))]) (fun (i : Int) => [])) (fun g => J0H xs lo hi g) (fun _ => .none))) (.none))
def J2X (xs : ZI) (lo : Int) (hi : Int) : Prop :=
  ((∃ i' : Int, (J0E xs lo hi i') ∧ (xs = xs) ∧ (lo = lo) ∧ (hi = hi) ∧ ((0 : Int) = i')) ∧ (∀ i : Int, (J0E xs lo hi i) → (((decide (i < (xs.length : Int))) = true → (true = true) ∧ ((0 : Int) ≤ i) ∧ ((i : Int) < xs.length) ∧ (i.toNat < xs.length) ∧ (PC Try.prog 116 [.int .i64 (xs.getD i.toNat 0), .int .i64 lo, .int .i64 hi] (.one (.d (.bool (inB (xs.getD i.toNat 0) lo hi))))) ∧ ((!(!(inB (xs.getD i.toNat 0) lo hi))) = true → (!(!(inB (xs.getD i.toNat 0) lo hi))) = true) ∧ ((!(!(inB (xs.getD i.toNat 0) lo hi))) = true → (!(!(inB (xs.getD i.toNat 0) lo hi))) = true) ∧ (((!(!(inB (xs.getD i.toNat 0) lo hi))) && (decide (i > 0))) = true → ((!(!(inB (xs.getD i.toNat 0) lo hi))) && (decide (i > 0))) = true) ∧ ((((!(!(inB (xs.getD i.toNat 0) lo hi))) && (decide (i > 0))) = true → I6 (i - 1))) ∧ (((!(!(inB (xs.getD i.toNat 0) lo hi))) && (decide (i > 0))) = true → ((!(!(inB (xs.getD i.toNat 0) lo hi))) && (decide (i > 0))) = true) ∧ (((!(!(inB (xs.getD i.toNat 0) lo hi))) && (decide (i > 0))) = true → ((!(!(inB (xs.getD i.toNat 0) lo hi))) && (decide (i > 0))) = true) ∧ ((((!(!(inB (xs.getD i.toNat 0) lo hi))) && (decide (i > 0))) = true → (0 : Int) ≤ (i - 1))) ∧ ((((!(!(inB (xs.getD i.toNat 0) lo hi))) && (decide (i > 0))) = true → ((i - 1) : Int) < xs.length)) ∧ (((!(!(inB (xs.getD i.toNat 0) lo hi))) && (decide (i > 0))) = true → ((!(!(inB (xs.getD i.toNat 0) lo hi))) && (decide (i > 0))) = true) ∧ ((((!(!(inB (xs.getD i.toNat 0) lo hi))) && (decide (i > 0))) = true → (i - 1).toNat < xs.length)) ∧ (((!(!(inB (xs.getD i.toNat 0) lo hi))) && (decide (i > 0))) = true → ((!(!(inB (xs.getD i.toNat 0) lo hi))) && (decide (i > 0))) = true) ∧ (((!(!(inB (xs.getD i.toNat 0) lo hi))) && (decide (i > 0))) = true → ((!(!(inB (xs.getD i.toNat 0) lo hi))) && (decide (i > 0))) = true) ∧ ((((!(!(inB (xs.getD i.toNat 0) lo hi))) && (decide (i > 0))) = true → (0 : Int) ≤ i)) ∧ ((((!(!(inB (xs.getD i.toNat 0) lo hi))) && (decide (i > 0))) = true → (i : Int) < xs.length)) ∧ (((!(!(inB (xs.getD i.toNat 0) lo hi))) && (decide (i > 0))) = true → ((!(!(inB (xs.getD i.toNat 0) lo hi))) && (decide (i > 0))) = true) ∧ ((((!(!(inB (xs.getD i.toNat 0) lo hi))) && (decide (i > 0))) = true → i.toNat < xs.length)) ∧ (((!(!(inB (xs.getD i.toNat 0) lo hi))) && (decide (i > 0))) = true → ((!(!(inB (xs.getD i.toNat 0) lo hi))) && (decide (i > 0))) = true) ∧ (((!(!(inB (xs.getD i.toNat 0) lo hi))) && (decide (i > 0))) = true → ((!(!(inB (xs.getD i.toNat 0) lo hi))) && (decide (i > 0))) = true) ∧ (((!(!(inB (xs.getD i.toNat 0) lo hi))) = true → (!(!(inB (xs.getD i.toNat 0) lo hi))) = true)) ∧ (((!(!(inB (xs.getD i.toNat 0) lo hi))) = true → (decide (i > 0)) = true → ((!(!(inB (xs.getD i.toNat 0) lo hi))) && (decide (i > 0))) = true)) ∧ (((!(!(inB (xs.getD i.toNat 0) lo hi))) = true → (decide (i > 0)) = false → true = true)) ∧ (true = true) ∧ (((!(inB (xs.getD i.toNat 0) lo hi)) = true → true = true)) ∧ (((!(inB (xs.getD i.toNat 0) lo hi)) = false → (!(!(inB (xs.getD i.toNat 0) lo hi))) = true)) ∧ (((cond (!(inB (xs.getD i.toNat 0) lo hi)) true (cond (decide (i > 0)) (decide ((xs.getD ((i - 1).toNat) 0) ≥ (xs.getD i.toNat 0))) false)) = true → ((false = (J1 xs lo hi)))) ∧ ((cond (!(inB (xs.getD i.toNat 0) lo hi)) true (cond (decide (i > 0)) (decide ((xs.getD ((i - 1).toNat) 0) ≥ (xs.getD i.toNat 0))) false)) = false → (I6 (i + 1)) ∧ (∃ i' : Int, (J0E xs lo hi i') ∧ (J0H xs lo hi i' < J0H xs lo hi i) ∧ (xs = xs) ∧ (lo = lo) ∧ (hi = hi) ∧ ((i + 1) = i'))))) ∧ ((decide (i < (xs.length : Int))) = false → ((true = (J1 xs lo hi)))))))
theorem J5L (xs : ZI) (lo : Int) (hi : Int)  (w_xs : (xs.length : Int) ≤ 9223372036854775807) : J2X xs lo hi := by
  unfold J2X
  refine ⟨?_, ?_⟩
  ·refine ⟨0, ?_⟩
   refine ⟨?_, rfl, rfl, rfl, rfl⟩
   ·refine ⟨?_, ?_, ?_⟩
    ·omega
    ·omega
    ·rfl
  intro i hJ
  obtain ⟨h1, h2, h3⟩ := hJ
  refine ⟨?_, ?_⟩
  ·intro b1
   try simp only [nrmT] at b1
   refine ⟨rfl, ?_, ?_, ?_, J0Z (xs.getD i.toNat 0) lo hi, id, id, id, ?_, id, id, ?_, ?_, id, ?_, id, id, ?_, ?_, id, ?_, id, id, id, ?_, fun _ _ => rfl, rfl, fun _ => rfl, ?_, ?_, ?_⟩
   ·omega
   ·omega
   ·omega
   ·omega
   ·(intro hg; simp only [nrmT] at hg; omega)
   ·omega
   ·omega
   ·omega
   ·omega
   ·omega
   ·(simp_all; done)
   ·(simp_all; done)
   ·intro b2
    have e := J1E h1 b2
    exact (allTo_falseI h1 (by omega) e).symm
   intro b3
   refine ⟨?_, ?_⟩
   ·omega
   refine ⟨(i + 1), ?_⟩
   refine ⟨?_, ?_, rfl, rfl, rfl, rfl⟩
   ·refine ⟨?_, ?_, ?_⟩
    ·omega
    ·omega
    ·have e := J1E h1 b3
     exact allTo_step h1 h3 e
   (simp only [J0H]; omega)
  intro b4
  try simp only [nrmT] at b4
  have e : i.toNat = xs.length := by omega
  rw [e] at h3
  exact h3.symm
theorem J2O (xs : ZI) (lo : Int) (hi : Int)  : PC Try.prog 167 [.sl (.ints xs), .int .i64 lo, .int .i64 hi] (.one (.d (.bool (J1 xs lo hi)))) :=
  pc_wf @Try.call167 fun hw => pc_by (by kernel_rfl) Try.func167 @Try.call167 (by kernel_rfl) J6b (J67 xs lo hi) (by kernel_rfl) (J5L xs lo hi hw.1) (by kernel_rfl)
def J2C : List D → Orc := orcN [some .ints, none, none] fun ds => match ds with
  | [.sl (.ints xs), .int .i64 lo, .int .i64 hi] => some (.one (.d (.bool (J1 xs lo hi))))
  | _ => none
abbrev J0D (xs : ZI) (below : Int) (i : Int) : Prop := (0 ≤ i) ∧ (i ≤ (xs.length : Int)) ∧ (allTo (J0C xs 0 (below - 1)) i.toNat = true)
abbrev J0A (xs : ZI) (below : Int) (i : Int) : Nat := (xs.length - i).toNat
def J6j (f : FuncId) (ds : List D) : Orc := bif Nat.beq f 120 then J0c ds else .no
def J69 (xs : ZI) (below : Int) : Ann := .two (.none) (.two (.two (.none) (.loop (cut1 (fun (i : Int) => J0D xs below i) (fun (i : Int) => [(0, .d false (.sl (.ints xs))), (1, .d false (.int .i64 below)), (7, .d false (.sl (.ints xs))), (8, .d true (.int .i64 (xs.length : Int))), (9, .d true (.int .i64 i))]) (fun (i : Int) => [])) (fun g => J0A xs below g) (fun _ => .none))) (.none))
def J34 (xs : ZI) (below : Int) : Prop :=
  ((∃ i' : Int, (J0D xs below i') ∧ (xs = xs) ∧ (below = below) ∧ (xs = xs) ∧ ((xs.length : Int) = (xs.length : Int)) ∧ ((0 : Int) = i')) ∧ (∀ i : Int, (J0D xs below i) → (((decide (i < (xs.length : Int))) = true → ((0 : Int) ≤ i) ∧ ((i : Int) < xs.length) ∧ (i.toNat < xs.length) ∧ (I6 (below - 1)) ∧ (PC Try.prog 120 [.int .i64 (xs.getD i.toNat 0), .int .i64 0, .int .i64 (below - 1)] (.one (.d (.bool (inB (xs.getD i.toNat 0) 0 (below - 1)))))) ∧ ((!(!(inB (xs.getD i.toNat 0) 0 (below - 1)))) = true → (!(!(inB (xs.getD i.toNat 0) 0 (below - 1)))) = true) ∧ ((!(!(inB (xs.getD i.toNat 0) 0 (below - 1)))) = true → (!(!(inB (xs.getD i.toNat 0) 0 (below - 1)))) = true) ∧ (((!(!(inB (xs.getD i.toNat 0) 0 (below - 1)))) && (decide (i > 0))) = true → ((!(!(inB (xs.getD i.toNat 0) 0 (below - 1)))) && (decide (i > 0))) = true) ∧ ((((!(!(inB (xs.getD i.toNat 0) 0 (below - 1)))) && (decide (i > 0))) = true → I6 (i - 1))) ∧ (((!(!(inB (xs.getD i.toNat 0) 0 (below - 1)))) && (decide (i > 0))) = true → ((!(!(inB (xs.getD i.toNat 0) 0 (below - 1)))) && (decide (i > 0))) = true) ∧ (((!(!(inB (xs.getD i.toNat 0) 0 (below - 1)))) && (decide (i > 0))) = true → ((!(!(inB (xs.getD i.toNat 0) 0 (below - 1)))) && (decide (i > 0))) = true) ∧ ((((!(!(inB (xs.getD i.toNat 0) 0 (below - 1)))) && (decide (i > 0))) = true → (0 : Int) ≤ (i - 1))) ∧ ((((!(!(inB (xs.getD i.toNat 0) 0 (below - 1)))) && (decide (i > 0))) = true → ((i - 1) : Int) < xs.length)) ∧ (((!(!(inB (xs.getD i.toNat 0) 0 (below - 1)))) && (decide (i > 0))) = true → ((!(!(inB (xs.getD i.toNat 0) 0 (below - 1)))) && (decide (i > 0))) = true) ∧ ((((!(!(inB (xs.getD i.toNat 0) 0 (below - 1)))) && (decide (i > 0))) = true → (i - 1).toNat < xs.length)) ∧ (((!(!(inB (xs.getD i.toNat 0) 0 (below - 1)))) && (decide (i > 0))) = true → ((!(!(inB (xs.getD i.toNat 0) 0 (below - 1)))) && (decide (i > 0))) = true) ∧ (((!(!(inB (xs.getD i.toNat 0) 0 (below - 1)))) && (decide (i > 0))) = true → ((!(!(inB (xs.getD i.toNat 0) 0 (below - 1)))) && (decide (i > 0))) = true) ∧ (((!(!(inB (xs.getD i.toNat 0) 0 (below - 1)))) = true → (!(!(inB (xs.getD i.toNat 0) 0 (below - 1)))) = true)) ∧ (((!(!(inB (xs.getD i.toNat 0) 0 (below - 1)))) = true → (decide (i > 0)) = true → ((!(!(inB (xs.getD i.toNat 0) 0 (below - 1)))) && (decide (i > 0))) = true)) ∧ (((!(!(inB (xs.getD i.toNat 0) 0 (below - 1)))) = true → (decide (i > 0)) = false → true = true)) ∧ (true = true) ∧ (((!(inB (xs.getD i.toNat 0) 0 (below - 1))) = true → true = true)) ∧ (((!(inB (xs.getD i.toNat 0) 0 (below - 1))) = false → (!(!(inB (xs.getD i.toNat 0) 0 (below - 1)))) = true)) ∧ (((cond (!(inB (xs.getD i.toNat 0) 0 (below - 1))) true (cond (decide (i > 0)) (decide ((xs.getD i.toNat 0) ≤ (xs.getD ((i - 1).toNat) 0))) false)) = true → ((false = (J1 xs 0 (below - 1))))) ∧ ((cond (!(inB (xs.getD i.toNat 0) 0 (below - 1))) true (cond (decide (i > 0)) (decide ((xs.getD i.toNat 0) ≤ (xs.getD ((i - 1).toNat) 0))) false)) = false → (I6 (i + 1)) ∧ (∃ i' : Int, (J0D xs below i') ∧ (J0A xs below i' < J0A xs below i) ∧ (xs = xs) ∧ (below = below) ∧ (xs = xs) ∧ ((xs.length : Int) = (xs.length : Int)) ∧ ((i + 1) = i'))))) ∧ ((decide (i < (xs.length : Int))) = false → ((true = (J1 xs 0 (below - 1))))))))
theorem J5q (xs : ZI) (below : Int) (hb : -9223372036854775808 < below ∧ below ≤ 9223372036854775807) (w_xs : (xs.length : Int) ≤ 9223372036854775807) : J34 xs below := by
  unfold J34
  refine ⟨?_, ?_⟩
  ·refine ⟨0, ?_⟩
   refine ⟨?_, rfl, rfl, rfl, rfl, rfl⟩
   ·refine ⟨?_, ?_, ?_⟩
    ·omega
    ·omega
    ·rfl
  intro i hJ
  obtain ⟨h1, h2, h3⟩ := hJ
  refine ⟨?_, ?_⟩
  ·intro b1
   try simp only [nrmT] at b1
   refine ⟨?_, ?_, ?_, ?_, J0s (xs.getD i.toNat 0) 0 (below - 1), id, id, id, ?_, id, id, ?_, ?_, id, ?_, id, id, id, ?_, fun _ _ => rfl, rfl, fun _ => rfl, ?_, ?_, ?_⟩
   ·omega
   ·omega
   ·omega
   ·omega
   ·omega
   ·(intro hg; simp only [nrmT] at hg; omega)
   ·omega
   ·omega
   ·(simp_all; done)
   ·(simp_all; done)
   ·intro b2
    have e := J1E h1 b2
    exact (allTo_falseI h1 (by omega) e).symm
   intro b3
   refine ⟨?_, ?_⟩
   ·omega
   refine ⟨(i + 1), ?_⟩
   refine ⟨?_, ?_, rfl, rfl, rfl, rfl, rfl⟩
   ·refine ⟨?_, ?_, ?_⟩
    ·omega
    ·omega
    ·have e := J1E h1 b3
     exact allTo_step h1 h3 e
   (simp only [J0A]; omega)
  intro b4
  try simp only [nrmT] at b4
  have e : i.toNat = xs.length := by omega
  rw [e] at h3
  exact h3.symm
theorem J2R (xs : ZI) (below : Int) (hb : -9223372036854775808 < below ∧ below ≤ 9223372036854775807) : PC Try.prog 130 [.sl (.ints xs), .int .i64 below] (.one (.d (.bool (J1 xs 0 (below - 1))))) :=
  pc_wf @Try.call130 fun hw => pc_by (by kernel_rfl) Try.func130 @Try.call130 (by kernel_rfl) J6j (J69 xs below) (by kernel_rfl) (J5q xs below hb hw.1) (by kernel_rfl)
def J2D : List D → Orc := orcN [some .ints, none] fun ds => match ds with
  | [.sl (.ints xs), .int .i64 below] => some (.one (.d (.bool (J1 xs 0 (below - 1)))))
  | _ => none
theorem J7P (m n : Nat) : decide ((m : Int) ≤ (n : Int)) = decide (m ≤ n) := by
  rw [Bool.eq_iff_iff]; simp only [decide_eq_true_eq]; omega
theorem J72 {α : Type} {p : α → Bool} {d : α} {xs : List α} {i : Int} (h2 : (xs.length : Int) ≤ i) (h2' : i ≤ (xs.length : Int)) (h3 : allTo (fun k => p (xs.getD k d)) i.toNat = true) : xs.all p = true := by
  have e : i.toNat = xs.length := by omega
  rw [e, allTo_list] at h3; exact h3
theorem J80 {α : Type} {p : α → Bool} {d : α} {xs : List α} {i : Int} (h0 : 0 ≤ i) (h : i < (xs.length : Int)) (h3 : p (xs.getD i.toNat d) = false) : xs.all p = false := by
  rw [← allTo_list (d := d)]; exact allTo_falseI h0 h h3
theorem J2e {x lo hi : Int} (h : inB x lo hi = true) : lo ≤ x ∧ x ≤ hi := of_decide_eq_true h
def J48 (f : FuncId) (ds : List D) : Orc := bif Nat.beq f 120 then J0c ds else .no
def J3O (x : Int) (lo : Int) (hi : Int) : Ann := .none
def J2f (x : Int) (lo : Int) (hi : Int) : Prop :=
  (PC Try.prog 120 [.int .i64 x, .int .i64 lo, .int .i64 hi] (.one (.d (.bool (inB x lo hi))))) ∧ (((!(inB x lo hi)) = (!(inB x lo hi))))
theorem J3r (x : Int) (lo : Int) (hi : Int)   : J2f x lo hi := by
  unfold J2f
  refine ⟨J0s x lo hi, rfl⟩
theorem J3C (x : Int) (lo : Int) (hi : Int)  : PC Try.prog 205 [.int .i64 x, .bx [.int .i64 lo] 0, .bx [.int .i64 hi] 0] (.one (.d (.bool (!(inB x lo hi))))) :=
  pc_wf @Try.call205 fun _ => pc_by (by kernel_rfl) Try.func205 @Try.call205 (by kernel_rfl) J48 (J3O x lo hi) (by kernel_rfl) (J3r x lo hi) (by kernel_rfl)
def J32 : List D → Orc := orcN [none, none, none] fun ds => match ds with
  | [.int .i64 x, .bx [.int .i64 lo] 0, .bx [.int .i64 hi] 0] => some (.one (.d (.bool (!(inB x lo hi)))))
  | _ => none
abbrev Jh (xs : ZI) (lo : Int) (hi : Int) (i : Int) : Prop := (0 ≤ i) ∧ (i ≤ (xs.length : Int)) ∧ (∀ k, k < i.toNat → (fun x => !(inB x lo hi)) (xs.getD k 0) = false)
abbrev Jg (xs : ZI) (lo : Int) (hi : Int) (i : Int) : Nat := (xs.length - i).toNat
def J1q (f : FuncId) (ds : List D) : Orc := bif Nat.beq f 205 then J32 ds else .no
def J1t (xs : ZI) (lo : Int) (hi : Int) : Ann := .two (.none) (.two (.two (.none) (.loop (cut1 (fun (i : Int) => Jh xs lo hi i) (fun (i : Int) => [(0, .d false (.sl (.ints xs))), (1, .d false (.fn 205 0 [.bx [.int .i64 lo] 0, .bx [.int .i64 hi] 0])), (7, .d true (.int .i64 (xs.length : Int))), (8, .d true (.int .i64 i))]) (fun (i : Int) => [])) (fun g => Jg xs lo hi g) (fun _ => .none))) (.none))
def J09 (xs : ZI) (lo : Int) (hi : Int) : Prop :=
  ((∃ i' : Int, (Jh xs lo hi i') ∧ (xs = xs) ∧ ((.fn 205 0 [.bx [.int .i64 lo] 0, .bx [.int .i64 hi] 0] : D) = (.fn 205 0 [.bx [.int .i64 lo] 0, .bx [.int .i64 hi] 0] : D)) ∧ ((xs.length : Int) = (xs.length : Int)) ∧ ((0 : Int) = i')) ∧ (∀ i : Int, (Jh xs lo hi i) → (((decide (i < (xs.length : Int))) = true → ((0 : Int) ≤ i) ∧ ((i : Int) < xs.length) ∧ (i.toNat < xs.length) ∧ (PC Try.prog 205 [.int .i64 (xs.getD i.toNat 0), .bx [.int .i64 lo] 0, .bx [.int .i64 hi] 0] (.one (.d (.bool (!(inB (xs.getD i.toNat 0) lo hi)))))) ∧ (((!(inB (xs.getD i.toNat 0) lo hi)) = true → ((i = (idxI (fun x => !(inB x lo hi)) xs)))) ∧ ((!(inB (xs.getD i.toNat 0) lo hi)) = false → (I6 (i + 1)) ∧ (∃ i' : Int, (Jh xs lo hi i') ∧ (Jg xs lo hi i' < Jg xs lo hi i) ∧ (xs = xs) ∧ ((.fn 205 0 [.bx [.int .i64 lo] 0, .bx [.int .i64 hi] 0] : D) = (.fn 205 0 [.bx [.int .i64 lo] 0, .bx [.int .i64 hi] 0] : D)) ∧ ((xs.length : Int) = (xs.length : Int)) ∧ ((i + 1) = i'))))) ∧ ((decide (i < (xs.length : Int))) = false → ((((-1) : Int) = (idxI (fun x => !(inB x lo hi)) xs)))))))
theorem J14 (xs : ZI) (lo : Int) (hi : Int)  (w_xs : (xs.length : Int) ≤ 9223372036854775807) : J09 xs lo hi := by
  unfold J09
  refine ⟨?_, ?_⟩
  ·refine ⟨0, ?_⟩
   refine ⟨?_, rfl, rfl, rfl, rfl⟩
   ·refine ⟨?_, ?_, ?_⟩
    ·omega
    ·omega
    ·omega
  intro i hJ
  obtain ⟨h1, h2, h3⟩ := hJ
  refine ⟨?_, ?_⟩
  ·intro b1
   try simp only [nrmT] at b1
   refine ⟨?_, ?_, ?_, J3C (xs.getD i.toNat 0) lo hi, ?_, ?_⟩
   ·omega
   ·omega
   ·omega
   ·intro b2
    try simp only [nrmT] at b2
    exact idx_found (p := fun x => !(inB x lo hi)) h1 b1 h3 (by simpa using b2)
   intro b3
   try simp only [nrmT] at b3
   refine ⟨?_, ?_⟩
   ·omega
   refine ⟨(i + 1), ?_⟩
   refine ⟨?_, ?_, rfl, rfl, rfl, rfl⟩
   ·refine ⟨?_, ?_, ?_⟩
    ·omega
    ·omega
    ·exact idx_step (p := fun x => !(inB x lo hi)) h1 h3 (by simpa using b3)
   (simp only [Jg]; omega)
  intro b4
  try simp only [nrmT] at b4
  exact (idx_none (by omega) h3).symm
theorem J1l (xs : ZI) (lo : Int) (hi : Int)  : PC Try.prog 204 [.sl (.ints xs), .fn 205 0 [.bx [.int .i64 lo] 0, .bx [.int .i64 hi] 0]] (.one (.d (.int .i64 (idxI (fun x => !(inB x lo hi)) xs)))) :=
  pc_wf @Try.call204 fun hw => pc_by (by kernel_rfl) Try.func204 @Try.call204 (by kernel_rfl) J1q (J1t xs lo hi) (by kernel_rfl) (J14 xs lo hi hw.1) (by kernel_rfl)
def J10 : List D → Orc := orcN [some .ints, none] fun ds => match ds with
  | [.sl (.ints xs), .fn f0 0 [.bx [.int .i64 lo] 0, .bx [.int .i64 hi] 0]] => bif Nat.beq f0 205 then some (.one (.d (.int .i64 (idxI (fun x => !(inB x lo hi)) xs)))) else none
  | _ => none
def J0X (f : FuncId) (ds : List D) : Orc := bif Nat.beq f 204 then J10 ds else .no
def J0S (xs : ZI) (lo : Int) (hi : Int) : Ann := .none
def JM (xs : ZI) (lo : Int) (hi : Int) : Prop :=
  (PC Try.prog 204 [.sl (.ints xs), .fn 205 0 [.bx [.int .i64 lo] 0, .bx [.int .i64 hi] 0]] (.one (.d (.int .i64 (idxI (fun x => !(inB x lo hi)) xs))))) ∧ (((decide ((idxI (fun x => !(inB x lo hi)) xs) ≥ 0)) = (xs.any (fun x => !(inB x lo hi)))))
theorem J0O (xs : ZI) (lo : Int) (hi : Int)  (w_xs : (xs.length : Int) ≤ 9223372036854775807) : JM xs lo hi := by
  unfold JM
  refine ⟨J1l xs lo hi, ?_⟩
  ·exact idx_any _ _
theorem J0M (xs : ZI) (lo : Int) (hi : Int)  : PC Try.prog 127 [.sl (.ints xs), .fn 205 0 [.bx [.int .i64 lo] 0, .bx [.int .i64 hi] 0]] (.one (.d (.bool (xs.any (fun x => !(inB x lo hi)))))) :=
  pc_wf @Try.call127 fun hw => pc_by (by kernel_rfl) Try.func127 @Try.call127 (by kernel_rfl) J0X (J0S xs lo hi) (by kernel_rfl) (J0O xs lo hi hw.1) (by kernel_rfl)
def J0K : List D → Orc := orcN [some .ints, none] fun ds => match ds with
  | [.sl (.ints xs), .fn f0 0 [.bx [.int .i64 lo] 0, .bx [.int .i64 hi] 0]] => bif Nat.beq f0 205 then some (.one (.d (.bool (xs.any (fun x => !(inB x lo hi)))))) else none
  | _ => none
def J5a (f : FuncId) (ds : List D) : Orc := bif Nat.beq f 127 then J0K ds else .no
def J54 (xs : ZI) (lo : Int) (hi : Int) : Ann := .none
def J2F (xs : ZI) (lo : Int) (hi : Int) : Prop :=
  (PC Try.prog 127 [.sl (.ints xs), .fn 205 0 [.bx [.int .i64 lo] 0, .bx [.int .i64 hi] 0]] (.one (.d (.bool (xs.any (fun x => !(inB x lo hi))))))) ∧ (((!(xs.any (fun x => !(inB x lo hi)))) = (xs.all (fun x => inB x lo hi))))
theorem J4a (xs : ZI) (lo : Int) (hi : Int)  (w_xs : (xs.length : Int) ≤ 9223372036854775807) : J2F xs lo hi := by
  unfold J2F
  refine ⟨J0M xs lo hi, ?_⟩
  ·exact any_not _ _
theorem J18 (xs : ZI) (lo : Int) (hi : Int)  : PC Try.prog 131 [.sl (.ints xs), .int .i64 lo, .int .i64 hi] (.one (.d (.bool (xs.all (fun x => inB x lo hi))))) :=
  pc_wf @Try.call131 fun hw => pc_by (by kernel_rfl) Try.func131 @Try.call131 (by kernel_rfl) J5a (J54 xs lo hi) (by kernel_rfl) (J4a xs lo hi hw.1) (by kernel_rfl)
def J0W : List D → Orc := orcN [some .ints, none, none] fun ds => match ds with
  | [.sl (.ints xs), .int .i64 lo, .int .i64 hi] => some (.one (.d (.bool (xs.all (fun x => inB x lo hi)))))
  | _ => none
abbrev J1j (xs : ZI) (out : ZI) (i : Int) : Prop := (0 ≤ i) ∧ (i ≤ (xs.length : Int)) ∧ (out = xs.take i.toNat ++ (List.replicate xs.length 0).drop i.toNat)
abbrev J0x (xs : ZI) (out : ZI) (i : Int) : Nat := (xs.length - i).toNat
def J7m (f : FuncId) (ds : List D) : Orc := .no
def J7x (xs : ZI) : Ann := .two (.none) (.two (.none) (.two (.two (.none) (.loop (cut2 (fun (out : ZI) (i : Int) => J1j xs out i) (fun (out : ZI) (i : Int) => [(0, .d false (.sl (.ints xs))), (3, .own 7 out.length), (4, .d true (.int .i64 i))]) (fun (out : ZI) (i : Int) => [(7, .arr true 3 (.ints out))])) (fun g => J0x xs g.1 g.2) (fun _ => .none))) (.none)))
def J4F (xs : ZI) : Prop :=
  ((xs.length : Int) = (xs.length : Int)) ∧ ((0 : Int) ≤ (xs.length : Int)) ∧ (((xs.length : Int) : Int) * ((8 : Nat) : Int) ≤ 140737488355328) ∧ ((∃ out' : ZI, ∃ i' : Int, (J1j xs out' i') ∧ (xs = xs) ∧ ((xs.length : Int).toNat = out'.length) ∧ ((0 : Int) = i') ∧ ((List.replicate ((xs.length : Int).toNat) (0 : Int)) = out')) ∧ (∀ out : ZI, ∀ i : Int, (J1j xs out i) → (((decide (i < (xs.length : Int))) = true → ((0 : Int) ≤ i) ∧ ((i : Int) < xs.length) ∧ (i.toNat < xs.length) ∧ ((0 : Int) ≤ i) ∧ ((i : Int) < (out.length : Int)) ∧ (i.toNat < out.length) ∧ (I6 (i + 1)) ∧ (∃ out' : ZI, ∃ i' : Int, (J1j xs out' i') ∧ (J0x xs out' i' < J0x xs out i) ∧ (xs = xs) ∧ (out.length = out'.length) ∧ ((i + 1) = i') ∧ ((out.set i.toNat (xs.getD i.toNat 0)) = out'))) ∧ ((decide (i < (xs.length : Int))) = false → ((out.length = out.length) ∧ ((out : ZI) = xs))))))
theorem J6I (xs : ZI) (hn : xs.length ≤ 1048576) (w_xs : (xs.length : Int) ≤ 9223372036854775807) : J4F xs := by
  unfold J4F
  refine ⟨rfl, ?_, ?_, ?_, ?_⟩
  ·first | omega | rfl | (intro hg; simp only [nrmT] at hg; omega) | (intro g1 g2; simp [g1, g2]; done) | (intro g1; simp at g1 ⊢; simp [g1]; done) | (simp only [nrmT] at *; omega) | (simp at * <;> omega) | (simp_all <;> omega) | (simp_all; done)
  ·first | omega | rfl | (intro hg; simp only [nrmT] at hg; omega) | (intro g1 g2; simp [g1, g2]; done) | (intro g1; simp at g1 ⊢; simp [g1]; done) | (simp only [nrmT] at *; omega) | (simp at * <;> omega) | (simp_all <;> omega) | (simp_all; done)
  ·refine ⟨(List.replicate ((xs.length : Int).toNat) (0 : Int)), 0, ?_⟩
   refine ⟨?_, rfl, ?_, rfl, rfl⟩
   ·refine ⟨?_, ?_, ?_⟩
    ·first | omega | rfl | (intro hg; simp only [nrmT] at hg; omega) | (intro g1 g2; simp [g1, g2]; done) | (intro g1; simp at g1 ⊢; simp [g1]; done) | (simp only [nrmT] at *; omega) | (simp at * <;> omega) | (simp_all <;> omega) | (simp_all; done)
    ·first | omega | rfl | (intro hg; simp only [nrmT] at hg; omega) | (intro g1 g2; simp [g1, g2]; done) | (intro g1; simp at g1 ⊢; simp [g1]; done) | (simp only [nrmT] at *; omega) | (simp at * <;> omega) | (simp_all <;> omega) | (simp_all; done)
    ·simp
   simp
  intro out i hJ
  obtain ⟨h1, h2, h3⟩ := hJ
  refine ⟨?_, ?_⟩
  ·intro b1
   try simp only [nrmT] at b1
   refine ⟨?_, ?_, ?_, ?_, ?_, ?_, ?_, ?_⟩
   ·first | omega | rfl | (intro hg; simp only [nrmT] at hg; omega) | (intro g1 g2; simp [g1, g2]; done) | (intro g1; simp at g1 ⊢; simp [g1]; done) | (simp only [nrmT] at *; omega) | (simp at * <;> omega) | (simp_all <;> omega) | (simp_all; done)
   ·first | omega | rfl | (intro hg; simp only [nrmT] at hg; omega) | (intro g1 g2; simp [g1, g2]; done) | (intro g1; simp at g1 ⊢; simp [g1]; done) | (simp only [nrmT] at *; omega) | (simp at * <;> omega) | (simp_all <;> omega) | (simp_all; done)
   ·first | omega | rfl | (intro hg; simp only [nrmT] at hg; omega) | (intro g1 g2; simp [g1, g2]; done) | (intro g1; simp at g1 ⊢; simp [g1]; done) | (simp only [nrmT] at *; omega) | (simp at * <;> omega) | (simp_all <;> omega) | (simp_all; done)
   ·first | omega | rfl | (intro hg; simp only [nrmT] at hg; omega) | (intro g1 g2; simp [g1, g2]; done) | (intro g1; simp at g1 ⊢; simp [g1]; done) | (simp only [nrmT] at *; omega) | (simp at * <;> omega) | (simp_all <;> omega) | (simp_all; done)
   ·have e : out.length = xs.length := by rw [h3]; exact copy_len (by omega) (by simp)
    omega
   ·have e : out.length = xs.length := by rw [h3]; exact copy_len (by omega) (by simp)
    omega
   ·first | omega | rfl | (intro hg; simp only [nrmT] at hg; omega) | (intro g1 g2; simp [g1, g2]; done) | (intro g1; simp at g1 ⊢; simp [g1]; done) | (simp only [nrmT] at *; omega) | (simp at * <;> omega) | (simp_all <;> omega) | (simp_all; done)
   refine ⟨(out.set i.toNat (xs.getD i.toNat 0)), (i + 1), ?_⟩
   refine ⟨?_, ?_, rfl, ?_, rfl, rfl⟩
   ·refine ⟨?_, ?_, ?_⟩
    ·first | omega | rfl | (intro hg; simp only [nrmT] at hg; omega) | (intro g1 g2; simp [g1, g2]; done) | (intro g1; simp at g1 ⊢; simp [g1]; done) | (simp only [nrmT] at *; omega) | (simp at * <;> omega) | (simp_all <;> omega) | (simp_all; done)
    ·first | omega | rfl | (intro hg; simp only [nrmT] at hg; omega) | (intro g1 g2; simp [g1, g2]; done) | (intro g1; simp at g1 ⊢; simp [g1]; done) | (simp only [nrmT] at *; omega) | (simp at * <;> omega) | (simp_all <;> omega) | (simp_all; done)
    ·rw [h3]; exact copy_step h1 b1 (by simp)
   ·first | (show _ < _; omega) | (simp only [J0x]; omega) | (simp only [J0x] at *; simp at *; omega)
   simp
  intro b2
  try simp only [nrmT] at b2
  refine ⟨rfl, ?_⟩
  ·rw [h3, take_all (by omega)]; simp; omega
theorem JK (xs : ZI) (hn : xs.length ≤ 1048576) : PC Try.prog 44 [.sl (.ints xs)] (.one (.d (.sl (.ints xs)))) :=
  pc_wf @Try.call44 fun hw => pc_by (by kernel_rfl) Try.func44 @Try.call44 (by kernel_rfl) J7m (J7x xs) (by kernel_rfl) (J6I xs hn hw.1) (by kernel_rfl)
def J6d : List D → Orc := orcN [some .ints] fun ds => match ds with
  | [.sl (.ints xs)] => some (.one (.d (.sl (.ints xs))))
  | _ => none
theorem J1Z {α : Type} [BEq α] [LawfulBEq α] {d : α} {xs ys : List α} (hl : xs.length = ys.length) : allTo (fun k => xs.getD k d == ys.getD k d) xs.length = (xs == ys) := by
  rw [Bool.eq_iff_iff, allTo_iff]
  simp only [beq_iff_eq]
  constructor
  · intro h
    refine List.ext_getElem hl fun k h1 h2 => ?_
    have := h k h1
    simpa [h1, h2] using this
  intro h k _
  rw [h]
theorem J83 {α : Type} [BEq α] [LawfulBEq α] {xs ys : List α} (h : ¬ xs.length = ys.length) : (xs == ys) = false := by
  rw [Bool.eq_false_iff]; intro h2; simp only [beq_iff_eq] at h2; exact h (by rw [h2])
abbrev J15 (xs : ZI) (ys : ZI) (i : Int) : Prop := (0 ≤ i) ∧ (i ≤ (xs.length : Int)) ∧ (allTo (fun k => xs.getD k 0 == ys.getD k 0) i.toNat = true) ∧ (xs.length = ys.length)
abbrev J0q (xs : ZI) (ys : ZI) (i : Int) : Nat := (xs.length - i).toNat
def J7j (f : FuncId) (ds : List D) : Orc := .no
def J7s (xs : ZI) (ys : ZI) : Ann := .two (.none) (.two (.none) (.two (.two (.none) (.loop (cut1 (fun (i : Int) => J15 xs ys i) (fun (i : Int) => [(0, .d false (.sl (.ints xs))), (1, .d false (.sl (.ints ys))), (5, .d true (.int .i64 i))]) (fun (i : Int) => [])) (fun g => J0q xs ys g) (fun _ => .none))) (.none)))
def J4G (xs : ZI) (ys : ZI) : Prop :=
  ((((xs.length : Int) != (ys.length : Int)) = true → ((false = (xs == ys)))) ∧ (((xs.length : Int) != (ys.length : Int)) = false → ((∃ i' : Int, (J15 xs ys i') ∧ (xs = xs) ∧ (ys = ys) ∧ ((0 : Int) = i')) ∧ (∀ i : Int, (J15 xs ys i) → (((decide (i < (xs.length : Int))) = true → (true = true) ∧ ((0 : Int) ≤ i) ∧ ((i : Int) < xs.length) ∧ (i.toNat < xs.length) ∧ ((0 : Int) ≤ i) ∧ ((i : Int) < ys.length) ∧ (i.toNat < ys.length) ∧ ((((xs.getD i.toNat 0) != (ys.getD i.toNat 0)) = true → ((false = (xs == ys)))) ∧ (((xs.getD i.toNat 0) != (ys.getD i.toNat 0)) = false → (I6 (i + 1)) ∧ (∃ i' : Int, (J15 xs ys i') ∧ (J0q xs ys i' < J0q xs ys i) ∧ (xs = xs) ∧ (ys = ys) ∧ ((i + 1) = i'))))) ∧ ((decide (i < (xs.length : Int))) = false → ((true = (xs == ys)))))))))
theorem J6T (xs : ZI) (ys : ZI)  (w_xs : (xs.length : Int) ≤ 9223372036854775807) (w_ys : (ys.length : Int) ≤ 9223372036854775807) : J4G xs ys := by
  unfold J4G
  refine ⟨?_, ?_⟩
  ·intro b1
   try simp only [nrmT] at b1
   exact (J83 (by omega)).symm
  intro b2
  try simp only [nrmT] at b2
  refine ⟨?_, ?_⟩
  ·refine ⟨0, ?_⟩
   refine ⟨?_, rfl, rfl, rfl⟩
   ·refine ⟨?_, ?_, ?_, ?_⟩
    ·first | omega | rfl | (intro hg; simp only [nrmT] at hg; omega) | (intro g1 g2; simp [g1, g2]; done) | (intro g1; simp at g1 ⊢; simp [g1]; done) | (simp only [nrmT] at *; omega) | (simp at * <;> omega) | (simp_all <;> omega) | (simp_all; done)
    ·first | omega | rfl | (intro hg; simp only [nrmT] at hg; omega) | (intro g1 g2; simp [g1, g2]; done) | (intro g1; simp at g1 ⊢; simp [g1]; done) | (simp only [nrmT] at *; omega) | (simp at * <;> omega) | (simp_all <;> omega) | (simp_all; done)
    ·first | omega | rfl | (intro hg; simp only [nrmT] at hg; omega) | (intro g1 g2; simp [g1, g2]; done) | (intro g1; simp at g1 ⊢; simp [g1]; done) | (simp only [nrmT] at *; omega) | (simp at * <;> omega) | (simp_all <;> omega) | (simp_all; done)
    ·first | omega | rfl | (intro hg; simp only [nrmT] at hg; omega) | (intro g1 g2; simp [g1, g2]; done) | (intro g1; simp at g1 ⊢; simp [g1]; done) | (simp only [nrmT] at *; omega) | (simp at * <;> omega) | (simp_all <;> omega) | (simp_all; done)
  intro i hJ
  obtain ⟨h1, h2, h3, h4⟩ := hJ
  refine ⟨?_, ?_⟩
  ·intro b3
   try simp only [nrmT] at b3
   refine ⟨rfl, ?_, ?_, ?_, ?_, ?_, ?_, ?_, ?_⟩
   ·first | omega | rfl | (intro hg; simp only [nrmT] at hg; omega) | (intro g1 g2; simp [g1, g2]; done) | (intro g1; simp at g1 ⊢; simp [g1]; done) | (simp only [nrmT] at *; omega) | (simp at * <;> omega) | (simp_all <;> omega) | (simp_all; done)
   ·first | omega | rfl | (intro hg; simp only [nrmT] at hg; omega) | (intro g1 g2; simp [g1, g2]; done) | (intro g1; simp at g1 ⊢; simp [g1]; done) | (simp only [nrmT] at *; omega) | (simp at * <;> omega) | (simp_all <;> omega) | (simp_all; done)
   ·first | omega | rfl | (intro hg; simp only [nrmT] at hg; omega) | (intro g1 g2; simp [g1, g2]; done) | (intro g1; simp at g1 ⊢; simp [g1]; done) | (simp only [nrmT] at *; omega) | (simp at * <;> omega) | (simp_all <;> omega) | (simp_all; done)
   ·first | omega | rfl | (intro hg; simp only [nrmT] at hg; omega) | (intro g1 g2; simp [g1, g2]; done) | (intro g1; simp at g1 ⊢; simp [g1]; done) | (simp only [nrmT] at *; omega) | (simp at * <;> omega) | (simp_all <;> omega) | (simp_all; done)
   ·first | omega | rfl | (intro hg; simp only [nrmT] at hg; omega) | (intro g1 g2; simp [g1, g2]; done) | (intro g1; simp at g1 ⊢; simp [g1]; done) | (simp only [nrmT] at *; omega) | (simp at * <;> omega) | (simp_all <;> omega) | (simp_all; done)
   ·first | omega | rfl | (intro hg; simp only [nrmT] at hg; omega) | (intro g1 g2; simp [g1, g2]; done) | (intro g1; simp at g1 ⊢; simp [g1]; done) | (simp only [nrmT] at *; omega) | (simp at * <;> omega) | (simp_all <;> omega) | (simp_all; done)
   ·intro b4
    try simp only [nrmT] at b4
    rw [← J1Z (d := 0) h4]; exact (allTo_falseI h1 (by omega) (by simpa using b4)).symm
   intro b5
   try simp only [nrmT] at b5
   refine ⟨?_, ?_⟩
   ·first | omega | rfl | (intro hg; simp only [nrmT] at hg; omega) | (intro g1 g2; simp [g1, g2]; done) | (intro g1; simp at g1 ⊢; simp [g1]; done) | (simp only [nrmT] at *; omega) | (simp at * <;> omega) | (simp_all <;> omega) | (simp_all; done)
   refine ⟨(i + 1), ?_⟩
   refine ⟨?_, ?_, rfl, rfl, rfl⟩
   ·refine ⟨?_, ?_, ?_, ?_⟩
    ·first | omega | rfl | (intro hg; simp only [nrmT] at hg; omega) | (intro g1 g2; simp [g1, g2]; done) | (intro g1; simp at g1 ⊢; simp [g1]; done) | (simp only [nrmT] at *; omega) | (simp at * <;> omega) | (simp_all <;> omega) | (simp_all; done)
    ·first | omega | rfl | (intro hg; simp only [nrmT] at hg; omega) | (intro g1 g2; simp [g1, g2]; done) | (intro g1; simp at g1 ⊢; simp [g1]; done) | (simp only [nrmT] at *; omega) | (simp at * <;> omega) | (simp_all <;> omega) | (simp_all; done)
    ·exact allTo_step h1 h3 (by simpa using b5)
    ·first | omega | rfl | (intro hg; simp only [nrmT] at hg; omega) | (intro g1 g2; simp [g1, g2]; done) | (intro g1; simp at g1 ⊢; simp [g1]; done) | (simp only [nrmT] at *; omega) | (simp at * <;> omega) | (simp_all <;> omega) | (simp_all; done)
   first | (show _ < _; omega) | (simp only [J0q]; omega) | (simp only [J0q] at *; simp at *; omega)
  intro b6
  try simp only [nrmT] at b6
  rw [← J1Z (d := 0) h4, ← h3]; congr 1; omega
theorem J2u (xs : ZI) (ys : ZI)  : PC Try.prog 47 [.sl (.ints xs), .sl (.ints ys)] (.one (.d (.bool (xs == ys)))) :=
  pc_wf @Try.call47 fun hw => pc_by (by kernel_rfl) Try.func47 @Try.call47 (by kernel_rfl) J7j (J7s xs ys) (by kernel_rfl) (J6T xs ys hw.1 hw.2.1) (by kernel_rfl)
def J3a : List D → Orc := orcN [some .ints, some .ints] fun ds => match ds with
  | [.sl (.ints xs), .sl (.ints ys)] => some (.one (.d (.bool (xs == ys))))
  | _ => none
abbrev J0R (xs : ZR) (ys : ZR) (i : Int) : Prop := (0 ≤ i) ∧ (i ≤ (xs.length : Int)) ∧ (allTo (fun k => xs.getD k [] == ys.getD k []) i.toNat = true) ∧ (xs.length = ys.length)
abbrev J0d (xs : ZR) (ys : ZR) (i : Int) : Nat := (xs.length - i).toNat
def J6K (f : FuncId) (ds : List D) : Orc := bif Nat.beq f 47 then J3a ds else .no
def J6B (xs : ZR) (ys : ZR) : Ann := .two (.none) (.two (.none) (.two (.two (.none) (.loop (cut1 (fun (i : Int) => J0R xs ys i) (fun (i : Int) => [(0, .d false (.sl (.rows xs))), (1, .d false (.sl (.rows ys))), (5, .d true (.int .i64 i))]) (fun (i : Int) => [])) (fun g => J0d xs ys g) (fun _ => .none))) (.none)))
def J3J (xs : ZR) (ys : ZR) : Prop :=
  ((((xs.length : Int) != (ys.length : Int)) = true → ((false = (xs == ys)))) ∧ (((xs.length : Int) != (ys.length : Int)) = false → ((∃ i' : Int, (J0R xs ys i') ∧ (xs = xs) ∧ (ys = ys) ∧ ((0 : Int) = i')) ∧ (∀ i : Int, (J0R xs ys i) → (((decide (i < (xs.length : Int))) = true → (true = true) ∧ ((0 : Int) ≤ i) ∧ ((i : Int) < xs.length) ∧ (i.toNat < xs.length) ∧ ((0 : Int) ≤ i) ∧ ((i : Int) < ys.length) ∧ (i.toNat < ys.length) ∧ (PC Try.prog 47 [.sl (.ints (xs.getD i.toNat [])), .sl (.ints (ys.getD i.toNat []))] (.one (.d (.bool ((xs.getD i.toNat []) == (ys.getD i.toNat [])))))) ∧ (((!((xs.getD i.toNat []) == (ys.getD i.toNat []))) = true → ((false = (xs == ys)))) ∧ ((!((xs.getD i.toNat []) == (ys.getD i.toNat []))) = false → (I6 (i + 1)) ∧ (∃ i' : Int, (J0R xs ys i') ∧ (J0d xs ys i' < J0d xs ys i) ∧ (xs = xs) ∧ (ys = ys) ∧ ((i + 1) = i'))))) ∧ ((decide (i < (xs.length : Int))) = false → ((true = (xs == ys)))))))))
theorem J6c (xs : ZR) (ys : ZR)  (w_xs : (xs.length : Int) ≤ 9223372036854775807) (v_xs : ∀ x9 ∈ xs, (x9.length : Int) ≤ 9223372036854775807) (w_ys : (ys.length : Int) ≤ 9223372036854775807) (v_ys : ∀ x9 ∈ ys, (x9.length : Int) ≤ 9223372036854775807) : J3J xs ys := by
  unfold J3J
  refine ⟨?_, ?_⟩
  ·intro b1
   try simp only [nrmT] at b1
   exact (J83 (by omega)).symm
  intro b2
  try simp only [nrmT] at b2
  refine ⟨?_, ?_⟩
  ·refine ⟨0, ?_⟩
   refine ⟨?_, rfl, rfl, rfl⟩
   ·refine ⟨?_, ?_, ?_, ?_⟩
    ·first | omega | rfl | (intro hg; simp only [nrmT] at hg; omega) | (intro g1 g2; simp [g1, g2]; done) | (intro g1; simp at g1 ⊢; simp [g1]; done) | (simp only [nrmT] at *; omega) | (simp at * <;> omega) | (simp_all <;> omega) | (simp_all; done)
    ·first | omega | rfl | (intro hg; simp only [nrmT] at hg; omega) | (intro g1 g2; simp [g1, g2]; done) | (intro g1; simp at g1 ⊢; simp [g1]; done) | (simp only [nrmT] at *; omega) | (simp at * <;> omega) | (simp_all <;> omega) | (simp_all; done)
    ·first | omega | rfl | (intro hg; simp only [nrmT] at hg; omega) | (intro g1 g2; simp [g1, g2]; done) | (intro g1; simp at g1 ⊢; simp [g1]; done) | (simp only [nrmT] at *; omega) | (simp at * <;> omega) | (simp_all <;> omega) | (simp_all; done)
    ·first | omega | rfl | (intro hg; simp only [nrmT] at hg; omega) | (intro g1 g2; simp [g1, g2]; done) | (intro g1; simp at g1 ⊢; simp [g1]; done) | (simp only [nrmT] at *; omega) | (simp at * <;> omega) | (simp_all <;> omega) | (simp_all; done)
  intro i hJ
  obtain ⟨h1, h2, h3, h4⟩ := hJ
  refine ⟨?_, ?_⟩
  ·intro b3
   try simp only [nrmT] at b3
   refine ⟨rfl, ?_, ?_, ?_, ?_, ?_, ?_, J2u (xs.getD i.toNat []) (ys.getD i.toNat []), ?_, ?_⟩
   ·first | omega | rfl | (intro hg; simp only [nrmT] at hg; omega) | (intro g1 g2; simp [g1, g2]; done) | (intro g1; simp at g1 ⊢; simp [g1]; done) | (simp only [nrmT] at *; omega) | (simp at * <;> omega) | (simp_all <;> omega) | (simp_all; done)
   ·first | omega | rfl | (intro hg; simp only [nrmT] at hg; omega) | (intro g1 g2; simp [g1, g2]; done) | (intro g1; simp at g1 ⊢; simp [g1]; done) | (simp only [nrmT] at *; omega) | (simp at * <;> omega) | (simp_all <;> omega) | (simp_all; done)
   ·first | omega | rfl | (intro hg; simp only [nrmT] at hg; omega) | (intro g1 g2; simp [g1, g2]; done) | (intro g1; simp at g1 ⊢; simp [g1]; done) | (simp only [nrmT] at *; omega) | (simp at * <;> omega) | (simp_all <;> omega) | (simp_all; done)
   ·first | omega | rfl | (intro hg; simp only [nrmT] at hg; omega) | (intro g1 g2; simp [g1, g2]; done) | (intro g1; simp at g1 ⊢; simp [g1]; done) | (simp only [nrmT] at *; omega) | (simp at * <;> omega) | (simp_all <;> omega) | (simp_all; done)
   ·first | omega | rfl | (intro hg; simp only [nrmT] at hg; omega) | (intro g1 g2; simp [g1, g2]; done) | (intro g1; simp at g1 ⊢; simp [g1]; done) | (simp only [nrmT] at *; omega) | (simp at * <;> omega) | (simp_all <;> omega) | (simp_all; done)
   ·first | omega | rfl | (intro hg; simp only [nrmT] at hg; omega) | (intro g1 g2; simp [g1, g2]; done) | (intro g1; simp at g1 ⊢; simp [g1]; done) | (simp only [nrmT] at *; omega) | (simp at * <;> omega) | (simp_all <;> omega) | (simp_all; done)
   ·intro b4
    try simp only [nrmT] at b4
    rw [← J1Z (d := []) h4]; exact (allTo_falseI h1 (by omega) (by simpa using b4)).symm
   intro b5
   try simp only [nrmT] at b5
   refine ⟨?_, ?_⟩
   ·first | omega | rfl | (intro hg; simp only [nrmT] at hg; omega) | (intro g1 g2; simp [g1, g2]; done) | (intro g1; simp at g1 ⊢; simp [g1]; done) | (simp only [nrmT] at *; omega) | (simp at * <;> omega) | (simp_all <;> omega) | (simp_all; done)
   refine ⟨(i + 1), ?_⟩
   refine ⟨?_, ?_, rfl, rfl, rfl⟩
   ·refine ⟨?_, ?_, ?_, ?_⟩
    ·first | omega | rfl | (intro hg; simp only [nrmT] at hg; omega) | (intro g1 g2; simp [g1, g2]; done) | (intro g1; simp at g1 ⊢; simp [g1]; done) | (simp only [nrmT] at *; omega) | (simp at * <;> omega) | (simp_all <;> omega) | (simp_all; done)
    ·first | omega | rfl | (intro hg; simp only [nrmT] at hg; omega) | (intro g1 g2; simp [g1, g2]; done) | (intro g1; simp at g1 ⊢; simp [g1]; done) | (simp only [nrmT] at *; omega) | (simp at * <;> omega) | (simp_all <;> omega) | (simp_all; done)
    ·exact allTo_step h1 h3 (by simpa using b5)
    ·first | omega | rfl | (intro hg; simp only [nrmT] at hg; omega) | (intro g1 g2; simp [g1, g2]; done) | (intro g1; simp at g1 ⊢; simp [g1]; done) | (simp only [nrmT] at *; omega) | (simp at * <;> omega) | (simp_all <;> omega) | (simp_all; done)
   first | (show _ < _; omega) | (simp only [J0d]; omega) | (simp only [J0d] at *; simp at *; omega)
  intro b6
  try simp only [nrmT] at b6
  rw [← J1Z (d := []) h4, ← h3]; congr 1; omega
theorem J2h (xs : ZR) (ys : ZR)  : PC Try.prog 46 [.sl (.rows xs), .sl (.rows ys)] (.one (.d (.bool (xs == ys)))) :=
  pc_wf @Try.call46 fun hw => pc_by (by kernel_rfl) Try.func46 @Try.call46 (by kernel_rfl) J6K (J6B xs ys) (by kernel_rfl) (J6c xs ys hw.1.1 hw.1.2 hw.2.1.1 hw.2.1.2) (by kernel_rfl)
def J5N : List D → Orc := orcN [some .rows, some .rows] fun ds => match ds with
  | [.sl (.rows xs), .sl (.rows ys)] => some (.one (.d (.bool (xs == ys))))
  | _ => none
def J6 (row : ZI) (n most : Int) : Bool := row.all (fun x => inB x 0 most) && decide ((row.length : Int) = n)
def J0 (U : ZI) (E : ZR) : Bool :=
  inB (U.length : Int) 1 7 && U.all (fun x => inB x 0 99) && decide (E.length ≤ 7) && E.all (fun l => J6 l (U.length : Int) 99)
theorem J9 {U : ZI} {E : ZR} (h : J0 U E = true) : 1 ≤ U.length ∧ U.length ≤ 7 ∧ E.length ≤ 7 := by
  simp only [J0, Bool.and_eq_true, decide_eq_true_eq] at h
  have := J2e h.1.1.1
  omega
theorem J27 {U : ZI} {E : ZR} (h : J0 U E = true) {i : Nat} (hi : i < E.length) : (E.getD i []).length = U.length ∧ ∀ a, a < U.length → 0 ≤ (E.getD i []).getD a 0 ∧ (E.getD i []).getD a 0 ≤ 99 := by
  simp only [J0, Bool.and_eq_true, decide_eq_true_eq] at h
  have h2 := List.all_eq_true.1 h.2 _ (getD_mem (d := []) hi)
  simp only [J6, Bool.and_eq_true, decide_eq_true_eq] at h2
  refine ⟨by omega, fun a ha => ?_⟩
  exact J2e (List.all_eq_true.1 h2.1 _ (getD_mem (by omega)))
abbrev J1D (row : ZI) (n : Int) (most : Int) (i : Int) : Prop := (0 ≤ i) ∧ (i ≤ (row.length : Int)) ∧ (allTo (fun k => inB (row.getD k 0) 0 most) i.toNat = true)
abbrev J1C (row : ZI) (n : Int) (most : Int) (i : Int) : Nat := (row.length - i).toNat
def J7K (f : FuncId) (ds : List D) : Orc := bif Nat.beq f 116 then J1g ds else .no
def J7Y (row : ZI) (n : Int) (most : Int) : Ann := .two (.none) (.two (.two (.none) (.loop (cut1 (fun (i : Int) => J1D row n most i) (fun (i : Int) => [(0, .d false (.sl (.ints row))), (1, .d false (.int .i64 n)), (2, .d false (.int .i64 most)), (7, .d true (.int .i64 i))]) (fun (i : Int) => [])) (fun g => J1C row n most g) (fun _ => .none))) (.none))
def J5k (row : ZI) (n : Int) (most : Int) : Prop :=
  ((∃ i' : Int, (J1D row n most i') ∧ (row = row) ∧ (n = n) ∧ (most = most) ∧ ((0 : Int) = i')) ∧ (∀ i : Int, (J1D row n most i) → (((decide (i < (row.length : Int))) = true → ((0 : Int) ≤ i) ∧ ((i : Int) < row.length) ∧ (i.toNat < row.length) ∧ (PC Try.prog 116 [.int .i64 (row.getD i.toNat 0), .int .i64 0, .int .i64 most] (.one (.d (.bool (inB (row.getD i.toNat 0) 0 most))))) ∧ (((!(inB (row.getD i.toNat 0) 0 most)) = true → ((false = (J6 row n most)))) ∧ ((!(inB (row.getD i.toNat 0) 0 most)) = false → (I6 (i + 1)) ∧ (∃ i' : Int, (J1D row n most i') ∧ (J1C row n most i' < J1C row n most i) ∧ (row = row) ∧ (n = n) ∧ (most = most) ∧ ((i + 1) = i'))))) ∧ ((decide (i < (row.length : Int))) = false → ((((row.length : Int) == n) = (J6 row n most)))))))
theorem J75 (row : ZI) (n : Int) (most : Int)  (w_row : (row.length : Int) ≤ 9223372036854775807) : J5k row n most := by
  unfold J5k
  refine ⟨?_, ?_⟩
  ·refine ⟨0, ?_⟩
   refine ⟨?_, rfl, rfl, rfl, rfl⟩
   ·refine ⟨?_, ?_, ?_⟩
    ·omega
    ·omega
    ·rfl
  intro i hJ
  obtain ⟨h1, h2, h3⟩ := hJ
  refine ⟨?_, ?_⟩
  ·intro b1
   try simp only [nrmT] at b1
   refine ⟨?_, ?_, ?_, J0Z (row.getD i.toNat 0) 0 most, ?_, ?_⟩
   ·omega
   ·omega
   ·omega
   ·intro b2
    try simp only [nrmT] at b2
    unfold J6
    rw [J80 (p := fun x => inB x 0 most) (d := 0) h1 (by omega) b2]; rfl
   intro b3
   try simp only [nrmT] at b3
   refine ⟨?_, ?_⟩
   ·omega
   refine ⟨(i + 1), ?_⟩
   refine ⟨?_, ?_, rfl, rfl, rfl, rfl⟩
   ·refine ⟨?_, ?_, ?_⟩
    ·omega
    ·omega
    ·exact allTo_step h1 h3 b3
   (simp only [J1C]; omega)
  intro b4
  try simp only [nrmT] at b4
  unfold J6
  rw [J72 (p := fun x => inB x 0 most) (d := 0) (by omega) h2 h3, Bool.true_and]; rfl
theorem J4x (row : ZI) (n : Int) (most : Int)  : PC Try.prog 150 [.sl (.ints row), .int .i64 n, .int .i64 most] (.one (.d (.bool (J6 row n most)))) :=
  pc_wf @Try.call150 fun hw => pc_by (by kernel_rfl) Try.func150 @Try.call150 (by kernel_rfl) J7K (J7Y row n most) (by kernel_rfl) (J75 row n most hw.1) (by kernel_rfl)
def J6H : List D → Orc := orcN [some .ints, none, none] fun ds => match ds with
  | [.sl (.ints row), .int .i64 n, .int .i64 most] => some (.one (.d (.bool (J6 row n most))))
  | _ => none
abbrev J1m (U : ZI) (E : ZR) (i : Int) : Prop := (0 ≤ i) ∧ (i ≤ (E.length : Int)) ∧ (allTo (fun k => J6 (E.getD k []) (U.length : Int) 99) i.toNat = true)
abbrev J1a (U : ZI) (E : ZR) (i : Int) : Nat := (E.length - i).toNat
def J76 (f : FuncId) (ds : List D) : Orc := bif Nat.beq f 150 then J6H ds else bif Nat.beq f 116 then J1g ds else .no
def J7p (U : ZI) (E : ZR) : Ann := .two (.none) (.two (.none) (.two (.two (.none) (.loop (cut1 (fun (i : Int) => J1m U E i) (fun (i : Int) => [(1, .ptr 1 0), (3, .d true (.int .i64 (U.length : Int))), (4, .d true (.int .i64 i))]) (fun (i : Int) => [(1, .box 39 [.d false (.sl (.ints U)), .d false (.sl (.rows E))])])) (fun g => J1a U E g) (fun _ => .none))) (.none)))
def J4H (U : ZI) (E : ZR) : Prop :=
  ((∃ i' : Int, (J1m U E i') ∧ ((U.length : Int) = (U.length : Int)) ∧ ((0 : Int) = i') ∧ (U = U) ∧ (E = E)) ∧ (∀ i : Int, (J1m U E i) → (((decide (i < (E.length : Int))) = true → ((0 : Int) ≤ i) ∧ ((i : Int) < E.length) ∧ (i.toNat < E.length) ∧ (PC Try.prog 150 [.sl (.ints (E.getD i.toNat [])), .int .i64 (U.length : Int), .int .i64 99] (.one (.d (.bool (J6 (E.getD i.toNat []) (U.length : Int) 99))))) ∧ (((!(J6 (E.getD i.toNat []) (U.length : Int) 99)) = true → ((false = (J0 U E)))) ∧ ((!(J6 (E.getD i.toNat []) (U.length : Int) 99)) = false → (I6 (i + 1)) ∧ (∃ i' : Int, (J1m U E i') ∧ (J1a U E i' < J1a U E i) ∧ ((U.length : Int) = (U.length : Int)) ∧ ((i + 1) = i') ∧ (U = U) ∧ (E = E))))) ∧ ((decide (i < (E.length : Int))) = false → (PC Try.prog 116 [.int .i64 (U.length : Int), .int .i64 1, .int .i64 7] (.one (.d (.bool (inB (U.length : Int) 1 7))))) ∧ ((inB (U.length : Int) 1 7) = true → (inB (U.length : Int) 1 7) = true) ∧ ((inB (U.length : Int) 1 7) = true → (inB (U.length : Int) 1 7) = true) ∧ ((inB (U.length : Int) 1 7) = true → (inB (U.length : Int) 1 7) = true) ∧ ((inB (U.length : Int) 1 7) = true → PC Try.prog 150 [.sl (.ints U), .int .i64 (U.length : Int), .int .i64 99] (.one (.d (.bool (J6 U (U.length : Int) 99))))) ∧ (true = true) ∧ (((inB (U.length : Int) 1 7) = true → (inB (U.length : Int) 1 7) = true)) ∧ (((inB (U.length : Int) 1 7) = false → true = true)) ∧ ((cond (inB (U.length : Int) 1 7) (J6 U (U.length : Int) 99) false) = true → (cond (inB (U.length : Int) 1 7) (J6 U (U.length : Int) 99) false) = true) ∧ ((cond (inB (U.length : Int) 1 7) (J6 U (U.length : Int) 99) false) = true → (cond (inB (U.length : Int) 1 7) (J6 U (U.length : Int) 99) false) = true) ∧ ((cond (inB (U.length : Int) 1 7) (J6 U (U.length : Int) 99) false) = true → (cond (inB (U.length : Int) 1 7) (J6 U (U.length : Int) 99) false) = true) ∧ (true = true) ∧ (((cond (inB (U.length : Int) 1 7) (J6 U (U.length : Int) 99) false) = true → (cond (inB (U.length : Int) 1 7) (J6 U (U.length : Int) 99) false) = true)) ∧ (((cond (inB (U.length : Int) 1 7) (J6 U (U.length : Int) 99) false) = false → true = true)) ∧ (((cond (cond (inB (U.length : Int) 1 7) (J6 U (U.length : Int) 99) false) (decide ((E.length : Int) ≤ 7)) false) = (J0 U E)))))))
theorem J6u (U : ZI) (E : ZR)  (w_Open : (U.length : Int) ≤ 9223372036854775807) (w_Dist : (E.length : Int) ≤ 9223372036854775807) (v_Dist : ∀ x9 ∈ E, (x9.length : Int) ≤ 9223372036854775807) : J4H U E := by
  unfold J4H
  refine ⟨?_, ?_⟩
  ·refine ⟨0, ?_⟩
   refine ⟨?_, rfl, rfl, rfl, rfl⟩
   ·refine ⟨?_, ?_, ?_⟩
    ·omega
    ·omega
    ·rfl
  intro i hJ
  obtain ⟨h1, h2, h3⟩ := hJ
  refine ⟨?_, ?_⟩
  ·intro b1
   try simp only [nrmT] at b1
   refine ⟨?_, ?_, ?_, J4x (E.getD i.toNat []) (U.length : Int) 99, ?_, ?_⟩
   ·omega
   ·omega
   ·omega
   ·intro b2
    try simp only [nrmT] at b2
    unfold J0
    rw [J80 (p := fun l => J6 l (U.length : Int) 99) (d := []) h1 (by omega) b2, Bool.and_false]
   intro b3
   try simp only [nrmT] at b3
   refine ⟨?_, ?_⟩
   ·omega
   refine ⟨(i + 1), ?_⟩
   refine ⟨?_, ?_, rfl, rfl, rfl, rfl⟩
   ·refine ⟨?_, ?_, ?_⟩
    ·omega
    ·omega
    ·exact allTo_step h1 h3 b3
   (simp only [J1a]; omega)
  intro b4
  try simp only [nrmT] at b4
  refine ⟨J0Z (U.length : Int) 1 7, id, id, id, fun _ => J4x U (U.length : Int) 99, rfl, id, fun _ => rfl, id, id, id, rfl, id, fun _ => rfl, ?_⟩
  ·unfold J0
   rw [J72 (p := fun l => J6 l (U.length : Int) 99) (d := []) (by omega) h2 h3, show decide ((E.length : Int) ≤ 7) = decide (E.length ≤ 7) from J7P _ 7]
   unfold J6
   cases inB (U.length : Int) 1 7 <;> cases U.all (fun x => inB x 0 99) <;> cases decide (E.length ≤ 7) <;> simp
theorem J6D (U : ZI) (E : ZR)  : PC Try.prog 115 [.agg [.sl (.ints U), .sl (.rows E)]] (.one (.d (.bool (J0 U E)))) :=
  pc_wf @Try.call115 fun hw => pc_by (by kernel_rfl) Try.func115 @Try.call115 (by kernel_rfl) J76 (J7p U E) (by kernel_rfl) (J6u U E hw.1.1 hw.1.2.1.1 hw.1.2.1.2) (by kernel_rfl)
def J6i : List D → Orc := orcN [none] fun ds => match ds with
  | [.agg [.sl (.ints U), .sl (.rows E)]] => some (.one (.d (.bool (J0 U E))))
  | _ => none
def J5x (f : FuncId) (ds : List D) : Orc := bif Nat.beq f 131 then J0W ds else .no
def J5C (xs : ZI) (U : ZI) (E : ZR) : Ann := .none
def J2T (xs : ZI) (U : ZI) (E : ZR) : Prop :=
  ((!((xs.length : Int) != (U.length : Int))) = true → (!((xs.length : Int) != (U.length : Int))) = true) ∧ ((!((xs.length : Int) != (U.length : Int))) = true → PC Try.prog 131 [.sl (.ints xs), .int .i64 0, .int .i64 99] (.one (.d (.bool (xs.all (fun x => inB x 0 99)))))) ∧ ((!((xs.length : Int) != (U.length : Int))) = true → (!((xs.length : Int) != (U.length : Int))) = true) ∧ (true = true) ∧ ((((xs.length : Int) != (U.length : Int)) = true → true = true)) ∧ ((((xs.length : Int) != (U.length : Int)) = false → (!((xs.length : Int) != (U.length : Int))) = true)) ∧ (((cond ((xs.length : Int) != (U.length : Int)) true (!(xs.all (fun x => inB x 0 99)))) = (!(J6 xs (U.length : Int) 99))))
theorem J4R (xs : ZI) (U : ZI) (E : ZR)  (w_xs : (xs.length : Int) ≤ 9223372036854775807) (w_Open : (U.length : Int) ≤ 9223372036854775807) (w_Dist : (E.length : Int) ≤ 9223372036854775807) (v_Dist : ∀ x9 ∈ E, (x9.length : Int) ≤ 9223372036854775807) : J2T xs U E := by
  unfold J2T
  refine ⟨id, fun _ => J18 xs 0 99, id, rfl, fun _ => rfl, ?_, ?_⟩
  ·(simp_all; done)
  unfold J6
  by_cases h : (xs.length : Int) = (U.length : Int)
  · simp [h]
  simp [h]
theorem J52 (xs : ZI) (U : ZI) (E : ZR)  : PC Try.prog 200 [.sl (.ints xs), .bx [.sl (.ints U), .sl (.rows E)] 0] (.one (.d (.bool (!(J6 xs (U.length : Int) 99))))) :=
  pc_wf @Try.call200 fun hw => pc_by (by kernel_rfl) Try.func200 @Try.call200 (by kernel_rfl) J5x (J5C xs U E) (by kernel_rfl) (J4R xs U E hw.1 hw.2.1.1 hw.2.1.2.1.1 hw.2.1.2.1.2) (by kernel_rfl)
def J4m : List D → Orc := orcN [some .ints, none] fun ds => match ds with
  | [.sl (.ints xs), .bx [.sl (.ints U), .sl (.rows E)] 0] => some (.one (.d (.bool (!(J6 xs (U.length : Int) 99)))))
  | _ => none
abbrev Ji (xs : ZR) (U : ZI) (E : ZR) (i : Int) : Prop := (0 ≤ i) ∧ (i ≤ (xs.length : Int)) ∧ (∀ k, k < i.toNat → (fun x => !(J6 x (U.length : Int) 99)) (xs.getD k []) = false)
abbrev Jj (xs : ZR) (U : ZI) (E : ZR) (i : Int) : Nat := (xs.length - i).toNat
def J1s (f : FuncId) (ds : List D) : Orc := bif Nat.beq f 200 then J4m ds else .no
def J1r (xs : ZR) (U : ZI) (E : ZR) : Ann := .two (.none) (.two (.two (.none) (.loop (cut1 (fun (i : Int) => Ji xs U E i) (fun (i : Int) => [(0, .d false (.sl (.rows xs))), (1, .d false (.fn 200 0 [.bx [.sl (.ints U), .sl (.rows E)] 0])), (7, .d true (.int .i64 (xs.length : Int))), (8, .d true (.int .i64 i))]) (fun (i : Int) => [])) (fun g => Jj xs U E g) (fun _ => .none))) (.none))
def J08 (xs : ZR) (U : ZI) (E : ZR) : Prop :=
  ((∃ i' : Int, (Ji xs U E i') ∧ (xs = xs) ∧ ((.fn 200 0 [.bx [.sl (.ints U), .sl (.rows E)] 0] : D) = (.fn 200 0 [.bx [.sl (.ints U), .sl (.rows E)] 0] : D)) ∧ ((xs.length : Int) = (xs.length : Int)) ∧ ((0 : Int) = i')) ∧ (∀ i : Int, (Ji xs U E i) → (((decide (i < (xs.length : Int))) = true → ((0 : Int) ≤ i) ∧ ((i : Int) < xs.length) ∧ (i.toNat < xs.length) ∧ (PC Try.prog 200 [.sl (.ints (xs.getD i.toNat [])), .bx [.sl (.ints U), .sl (.rows E)] 0] (.one (.d (.bool (!(J6 (xs.getD i.toNat []) (U.length : Int) 99)))))) ∧ (((!(J6 (xs.getD i.toNat []) (U.length : Int) 99)) = true → ((i = (idxI (fun x => !(J6 x (U.length : Int) 99)) xs)))) ∧ ((!(J6 (xs.getD i.toNat []) (U.length : Int) 99)) = false → (I6 (i + 1)) ∧ (∃ i' : Int, (Ji xs U E i') ∧ (Jj xs U E i' < Jj xs U E i) ∧ (xs = xs) ∧ ((.fn 200 0 [.bx [.sl (.ints U), .sl (.rows E)] 0] : D) = (.fn 200 0 [.bx [.sl (.ints U), .sl (.rows E)] 0] : D)) ∧ ((xs.length : Int) = (xs.length : Int)) ∧ ((i + 1) = i'))))) ∧ ((decide (i < (xs.length : Int))) = false → ((((-1) : Int) = (idxI (fun x => !(J6 x (U.length : Int) 99)) xs)))))))
theorem J1d (xs : ZR) (U : ZI) (E : ZR)  (w_xs : (xs.length : Int) ≤ 9223372036854775807) (v_xs : ∀ x9 ∈ xs, (x9.length : Int) ≤ 9223372036854775807) (w_Open : (U.length : Int) ≤ 9223372036854775807) (w_Dist : (E.length : Int) ≤ 9223372036854775807) (v_Dist : ∀ x9 ∈ E, (x9.length : Int) ≤ 9223372036854775807) : J08 xs U E := by
  unfold J08
  refine ⟨?_, ?_⟩
  ·refine ⟨0, ?_⟩
   refine ⟨?_, rfl, rfl, rfl, rfl⟩
   ·refine ⟨?_, ?_, ?_⟩
    ·omega
    ·omega
    ·omega
  intro i hJ
  obtain ⟨h1, h2, h3⟩ := hJ
  refine ⟨?_, ?_⟩
  ·intro b1
   try simp only [nrmT] at b1
   refine ⟨?_, ?_, ?_, J52 (xs.getD i.toNat []) U E, ?_, ?_⟩
   ·omega
   ·omega
   ·omega
   ·intro b2
    try simp only [nrmT] at b2
    exact idx_found (p := fun x => !(J6 x (U.length : Int) 99)) h1 b1 h3 (by simpa using b2)
   intro b3
   try simp only [nrmT] at b3
   refine ⟨?_, ?_⟩
   ·omega
   refine ⟨(i + 1), ?_⟩
   refine ⟨?_, ?_, rfl, rfl, rfl, rfl⟩
   ·refine ⟨?_, ?_, ?_⟩
    ·omega
    ·omega
    ·exact idx_step (p := fun x => !(J6 x (U.length : Int) 99)) h1 h3 (by simpa using b3)
   (simp only [Jj]; omega)
  intro b4
  try simp only [nrmT] at b4
  exact (idx_none (by omega) h3).symm
theorem J1i (xs : ZR) (U : ZI) (E : ZR)  : PC Try.prog 224 [.sl (.rows xs), .fn 200 0 [.bx [.sl (.ints U), .sl (.rows E)] 0]] (.one (.d (.int .i64 (idxI (fun x => !(J6 x (U.length : Int) 99)) xs)))) :=
  pc_wf @Try.call224 fun hw => pc_by (by kernel_rfl) Try.func224 @Try.call224 (by kernel_rfl) J1s (J1r xs U E) (by kernel_rfl) (J1d xs U E hw.1.1 hw.1.2 hw.2.1.1.1 hw.2.1.1.2.1.1 hw.2.1.1.2.1.2) (by kernel_rfl)
def J12 : List D → Orc := orcN [some .rows, none] fun ds => match ds with
  | [.sl (.rows xs), .fn f0 0 [.bx [.sl (.ints U), .sl (.rows E)] 0]] => bif Nat.beq f0 200 then some (.one (.d (.int .i64 (idxI (fun x => !(J6 x (U.length : Int) 99)) xs)))) else none
  | _ => none
def J0Y (f : FuncId) (ds : List D) : Orc := bif Nat.beq f 224 then J12 ds else .no
def J0V (xs : ZR) (U : ZI) (E : ZR) : Ann := .none
def JR (xs : ZR) (U : ZI) (E : ZR) : Prop :=
  (PC Try.prog 224 [.sl (.rows xs), .fn 200 0 [.bx [.sl (.ints U), .sl (.rows E)] 0]] (.one (.d (.int .i64 (idxI (fun x => !(J6 x (U.length : Int) 99)) xs))))) ∧ (((decide ((idxI (fun x => !(J6 x (U.length : Int) 99)) xs) ≥ 0)) = (xs.any (fun x => !(J6 x (U.length : Int) 99)))))
theorem J0N (xs : ZR) (U : ZI) (E : ZR)  (w_xs : (xs.length : Int) ≤ 9223372036854775807) (v_xs : ∀ x9 ∈ xs, (x9.length : Int) ≤ 9223372036854775807) (w_Open : (U.length : Int) ≤ 9223372036854775807) (w_Dist : (E.length : Int) ≤ 9223372036854775807) (v_Dist : ∀ x9 ∈ E, (x9.length : Int) ≤ 9223372036854775807) : JR xs U E := by
  unfold JR
  refine ⟨J1i xs U E, ?_⟩
  ·exact idx_any _ _
theorem J0L (xs : ZR) (U : ZI) (E : ZR)  : PC Try.prog 169 [.sl (.rows xs), .fn 200 0 [.bx [.sl (.ints U), .sl (.rows E)] 0]] (.one (.d (.bool (xs.any (fun x => !(J6 x (U.length : Int) 99)))))) :=
  pc_wf @Try.call169 fun hw => pc_by (by kernel_rfl) Try.func169 @Try.call169 (by kernel_rfl) J0Y (J0V xs U E) (by kernel_rfl) (J0N xs U E hw.1.1 hw.1.2 hw.2.1.1.1 hw.2.1.1.2.1.1 hw.2.1.1.2.1.2) (by kernel_rfl)
def J0J : List D → Orc := orcN [some .rows, none] fun ds => match ds with
  | [.sl (.rows xs), .fn f0 0 [.bx [.sl (.ints U), .sl (.rows E)] 0]] => bif Nat.beq f0 200 then some (.one (.d (.bool (xs.any (fun x => !(J6 x (U.length : Int) 99)))))) else none
  | _ => none
def J6F (f : FuncId) (ds : List D) : Orc := bif Nat.beq f 120 then J0c ds else bif Nat.beq f 131 then J0W ds else bif Nat.beq f 169 then J0J ds else .no
def J6P (U : ZI) (E : ZR) : Ann := .none
def Jd (U : ZI) (E : ZR) : Bool := (cond (cond (inB (U.length : Int) 1 7) (U.all (fun x => inB x 0 99)) false) (decide ((E.length : Int) ≤ 7)) false)
def J3L (U : ZI) (E : ZR) : Prop :=
  (PC Try.prog 120 [.int .i64 (U.length : Int), .int .i64 1, .int .i64 7] (.one (.d (.bool (inB (U.length : Int) 1 7))))) ∧ ((inB (U.length : Int) 1 7) = true → (inB (U.length : Int) 1 7) = true) ∧ ((inB (U.length : Int) 1 7) = true → (inB (U.length : Int) 1 7) = true) ∧ ((inB (U.length : Int) 1 7) = true → PC Try.prog 131 [.sl (.ints U), .int .i64 0, .int .i64 99] (.one (.d (.bool (U.all (fun x => inB x 0 99)))))) ∧ (true = true) ∧ (((inB (U.length : Int) 1 7) = true → (inB (U.length : Int) 1 7) = true)) ∧ (((inB (U.length : Int) 1 7) = false → true = true)) ∧ ((cond (inB (U.length : Int) 1 7) (U.all (fun x => inB x 0 99)) false) = true → (cond (inB (U.length : Int) 1 7) (U.all (fun x => inB x 0 99)) false) = true) ∧ ((cond (inB (U.length : Int) 1 7) (U.all (fun x => inB x 0 99)) false) = true → (cond (inB (U.length : Int) 1 7) (U.all (fun x => inB x 0 99)) false) = true) ∧ ((cond (inB (U.length : Int) 1 7) (U.all (fun x => inB x 0 99)) false) = true → (cond (inB (U.length : Int) 1 7) (U.all (fun x => inB x 0 99)) false) = true) ∧ (true = true) ∧ (((cond (inB (U.length : Int) 1 7) (U.all (fun x => inB x 0 99)) false) = true → (cond (inB (U.length : Int) 1 7) (U.all (fun x => inB x 0 99)) false) = true)) ∧ (((cond (inB (U.length : Int) 1 7) (U.all (fun x => inB x 0 99)) false) = false → true = true)) ∧ ((Jd U E) = true → (Jd U E) = true) ∧ ((Jd U E) = true → (Jd U E) = true) ∧ ((Jd U E) = true → (Jd U E) = true) ∧ ((Jd U E) = true → PC Try.prog 169 [.sl (.rows E), .fn 200 0 [.bx [.sl (.ints U), .sl (.rows E)] 0]] (.one (.d (.bool (E.any (fun x => !(J6 x (U.length : Int) 99))))))) ∧ ((Jd U E) = true → (Jd U E) = true) ∧ (true = true) ∧ (((Jd U E) = true → (Jd U E) = true)) ∧ (((Jd U E) = false → true = true)) ∧ (((cond (Jd U E) (!(E.any (fun x => !(J6 x (U.length : Int) 99)))) false) = (J0 U E)))
theorem J5V (U : ZI) (E : ZR)  (w_Open : (U.length : Int) ≤ 9223372036854775807) (w_Dist : (E.length : Int) ≤ 9223372036854775807) (v_Dist : ∀ x9 ∈ E, (x9.length : Int) ≤ 9223372036854775807) : J3L U E := by
  unfold J3L Jd
  refine ⟨J0s (U.length : Int) 1 7, id, id, fun _ => J18 U 0 99, rfl, id, fun _ => rfl, id, id, id, rfl, id, fun _ => rfl, id, id, id, fun _ => J0L E U E, id, rfl, id, fun _ => rfl, ?_⟩
  ·unfold J0
   rw [any_not, show decide ((E.length : Int) ≤ 7) = decide (E.length ≤ 7) from J7P _ 7]
   cases inB (U.length : Int) 1 7 <;> cases U.all (fun x => inB x 0 99) <;> cases decide (E.length ≤ 7) <;> simp
theorem J3b (U : ZI) (E : ZR)  : PC Try.prog 119 [.agg [.sl (.ints U), .sl (.rows E)]] (.one (.d (.bool (J0 U E)))) :=
  pc_wf @Try.call119 fun hw => pc_by (by kernel_rfl) Try.func119 @Try.call119 (by kernel_rfl) J6F (J6P U E) (by kernel_rfl) (J5V U E hw.1.1 hw.1.2.1.1 hw.1.2.1.2) (by kernel_rfl)
def J2P : List D → Orc := orcN [none] fun ds => match ds with
  | [.agg [.sl (.ints U), .sl (.rows E)]] => some (.one (.d (.bool (J0 U E))))
  | _ => none
theorem JD {xs : ZI} {lo hi : Int} (h : J1 xs lo hi = true) : ∀ k, k < xs.length → lo + k ≤ xs.getD k 0 ∧ xs.getD k 0 ≤ hi := by
  intro k
  induction k with
  | zero =>
    intro hk
    have h1 := allTo_iff.1 h 0 hk
    simp only [J0C, Bool.and_eq_true] at h1
    have := J2e h1.1
    omega
  | succ k ih =>
    intro hk
    have h0 := ih (by omega)
    have h1 := allTo_iff.1 h (k + 1) hk
    simp only [J0C, Bool.and_eq_true, Bool.or_eq_true, decide_eq_true_eq, Nat.add_sub_cancel] at h1
    have := J2e h1.1
    have h2 := h1.2
    omega
theorem Jb {xs : ZI} {lo hi : Int} (h : J1 xs lo hi = true) (hlo : lo ≤ hi + 1) : (xs.length : Int) ≤ hi - lo + 1 := by
  by_cases h0 : xs.length = 0
  · omega
  have := JD h (xs.length - 1) (by omega)
  omega
def J8s (E : ZR) (r : Int) (i j a : Nat) : Bool := decide ((E.getD i []).getD a 0 ≤ r) && decide ((E.getD j []).getD a 0 ≤ r)
def J8H (n : Nat) (E : ZR) (i j r : Int) : Bool := allTo (fun a => !(J8s E r i.toNat j.toNat a)) n
def J6z (f : FuncId) (ds : List D) : Orc := .no
def J6O (b : Int) (x : Int) : Ann := .none
def J3H (b : Int) (x : Int) : Prop :=
  ((0 : Int) ≤ b ∧ (b : Int) ≤ 18446744073709551615) ∧ ((0 : Int) ≤ x) ∧ ((0 : Int) ≤ (b / 2 ^ x.toNat) ∧ ((b / 2 ^ x.toNat) : Int) ≤ 18446744073709551615) ∧ ((0 : Int) ≤ 1 ∧ (1 : Int) ≤ 18446744073709551615) ∧ ((((((b / 2 ^ x.toNat).toNat &&& 1 : Nat) : Int) == 1) = (b.toNat.testBit x.toNat)))
theorem J61 (b : Int) (x : Int) (hb : 0 ≤ b ∧ b ≤ 4611686018427387903) (hx : 0 ≤ x)  : J3H b x := by
  unfold J3H
  refine ⟨?_, ?_, ?_, ?_, ?_⟩
  ·omega
  ·omega
  ·have h1 : 0 ≤ b / 2 ^ x.toNat := Int.ediv_nonneg hb.1 (Int.le_of_lt (Int.pow_pos (by omega)))
   have h2 : b / 2 ^ x.toNat ≤ b := Int.ediv_le_self _ hb.1
   omega
  ·omega
  have e : b = ((b.toNat : Nat) : Int) := by omega
  have h := shr_bit (n := b.toNat) (k := x.toNat)
  rw [← e] at h
  rw [h]
  cases b.toNat.testBit x.toNat <;> rfl
theorem J5Y (b : Int) (x : Int) (hb : 0 ≤ b ∧ b ≤ 4611686018427387903) (hx : 0 ≤ x) : PC Try.prog 226 [.int .u64 b, .int .i64 x] (.one (.d (.bool (b.toNat.testBit x.toNat)))) :=
  pc_wf @Try.call226 fun _ => pc_by (by kernel_rfl) Try.func226 @Try.call226 (by kernel_rfl) J6z (J6O b x) (by kernel_rfl) (J61 b x hb hx) (by kernel_rfl)
def J5G : List D → Orc := orcN [none, none] fun ds => match ds with
  | [.int .u64 b, .int .i64 x] => some (.one (.d (.bool (b.toNat.testBit x.toNat))))
  | _ => none
theorem J8G {n : Nat} (h : n ≤ 8) : (2 : Nat) ^ n ≤ 256 := Nat.le_trans (Nat.pow_le_pow_right (by omega) h) (by decide)
theorem J07 {α : Type} {xs : List α} {k : Nat} {d : α} (h : k < xs.length) : xs.getD k d = xs[k] := by simp [h]
abbrev Jy (xs : ZI) (x : Int) (i : Int) : Prop := (0 ≤ i) ∧ (i ≤ (xs.length : Int)) ∧ (∀ k, k < i.toNat → (fun y => x == y) (xs.getD k 0) = false)
abbrev Jx (xs : ZI) (x : Int) (i : Int) : Nat := (xs.length - i).toNat
def J2j (f : FuncId) (ds : List D) : Orc := .no
def J2i (xs : ZI) (x : Int) : Ann := .two (.none) (.two (.two (.none) (.loop (cut1 (fun (i : Int) => Jy xs x i) (fun (i : Int) => [(0, .d false (.sl (.ints xs))), (1, .d false (.int .i64 x)), (7, .d true (.int .i64 (xs.length : Int))), (8, .d true (.int .i64 i))]) (fun (i : Int) => [])) (fun g => Jx xs x g) (fun _ => .none))) (.none))
def J0I (xs : ZI) (x : Int) : Prop :=
  ((∃ i' : Int, (Jy xs x i') ∧ (xs = xs) ∧ (x = x) ∧ ((xs.length : Int) = (xs.length : Int)) ∧ ((0 : Int) = i')) ∧ (∀ i : Int, (Jy xs x i) → (((decide (i < (xs.length : Int))) = true → ((0 : Int) ≤ i) ∧ ((i : Int) < xs.length) ∧ (i.toNat < xs.length) ∧ (((x == (xs.getD i.toNat 0)) = true → ((i = (idxI (fun y => x == y) xs)))) ∧ ((x == (xs.getD i.toNat 0)) = false → (I6 (i + 1)) ∧ (∃ i' : Int, (Jy xs x i') ∧ (Jx xs x i' < Jx xs x i) ∧ (xs = xs) ∧ (x = x) ∧ ((xs.length : Int) = (xs.length : Int)) ∧ ((i + 1) = i'))))) ∧ ((decide (i < (xs.length : Int))) = false → ((((-1) : Int) = (idxI (fun y => x == y) xs)))))))
theorem J2g (xs : ZI) (x : Int)  (w_xs : (xs.length : Int) ≤ 9223372036854775807) : J0I xs x := by
  unfold J0I
  refine ⟨?_, ?_⟩
  ·refine ⟨0, ?_⟩
   refine ⟨?_, rfl, rfl, rfl, rfl⟩
   ·refine ⟨?_, ?_, ?_⟩
    ·omega
    ·omega
    ·omega
  intro i hJ
  obtain ⟨h1, h2, h3⟩ := hJ
  refine ⟨?_, ?_⟩
  ·intro b1
   try simp only [nrmT] at b1
   refine ⟨?_, ?_, ?_, ?_, ?_⟩
   ·omega
   ·omega
   ·omega
   ·intro b2
    try simp only [nrmT] at b2
    exact idx_found (p := fun y => x == y) h1 b1 h3 (by simpa using b2)
   intro b3
   try simp only [nrmT] at b3
   refine ⟨?_, ?_⟩
   ·omega
   refine ⟨(i + 1), ?_⟩
   refine ⟨?_, ?_, rfl, rfl, rfl, rfl⟩
   ·refine ⟨?_, ?_, ?_⟩
    ·omega
    ·omega
    ·exact idx_step (p := fun y => x == y) h1 h3 (by simpa using b3)
   (simp only [Jx]; omega)
  intro b4
  try simp only [nrmT] at b4
  exact (idx_none (by omega) h3).symm
theorem J29 (xs : ZI) (x : Int)  : PC Try.prog 216 [.sl (.ints xs), .int .i64 x] (.one (.d (.int .i64 (idxI (fun y => x == y) xs)))) :=
  pc_wf @Try.call216 fun hw => pc_by (by kernel_rfl) Try.func216 @Try.call216 (by kernel_rfl) J2j (J2i xs x) (by kernel_rfl) (J2g xs x hw.1) (by kernel_rfl)
def J23 : List D → Orc := orcN [some .ints, none] fun ds => match ds with
  | [.sl (.ints xs), .int .i64 x] => some (.one (.d (.int .i64 (idxI (fun y => x == y) xs))))
  | _ => none
def J7O (f : FuncId) (ds : List D) : Orc := bif Nat.beq f 167 then J2C ds else .no
def J7Z (U : ZI) (E : ZR) (set : ZI) : Ann := .none
def J5o (U : ZI) (E : ZR) (set : ZI) : Prop :=
  (I6 ((U.length : Int) - 1)) ∧ (PC Try.prog 167 [.sl (.ints set), .int .i64 0, .int .i64 ((U.length : Int) - 1)] (.one (.d (.bool (J1 set 0 ((U.length : Int) - 1)))))) ∧ (((J1 set 0 ((U.length : Int) - 1)) = (J1 set 0 ((U.length : Int) - 1))))
theorem J7E (U : ZI) (E : ZR) (set : ZI)  (w_Open : (U.length : Int) ≤ 9223372036854775807) (w_Dist : (E.length : Int) ≤ 9223372036854775807) (v_Dist : ∀ x9 ∈ E, (x9.length : Int) ≤ 9223372036854775807) (w_set : (set.length : Int) ≤ 9223372036854775807) : J5o U E set := by
  unfold J5o
  refine ⟨?_, J2O set 0 ((U.length : Int) - 1), rfl⟩
  ·omega
theorem J7d (U : ZI) (E : ZR) (set : ZI)  : PC Try.prog 237 [.agg [.sl (.ints U), .sl (.rows E)], .sl (.ints set)] (.one (.d (.bool (J1 set 0 ((U.length : Int) - 1))))) :=
  pc_wf @Try.call237 fun hw => pc_by (by kernel_rfl) Try.func237 @Try.call237 (by kernel_rfl) J7O (J7Z U E set) (by kernel_rfl) (J7E U E set hw.1.1 hw.1.2.1.1 hw.1.2.1.2 hw.2.1) (by kernel_rfl)
def J6M : List D → Orc := orcN [none, some .ints] fun ds => match ds with
  | [.agg [.sl (.ints U), .sl (.rows E)], .sl (.ints set)] => some (.one (.d (.bool (J1 set 0 ((U.length : Int) - 1)))))
  | _ => none
def J7X (f : FuncId) (ds : List D) : Orc := bif Nat.beq f 115 then J6i ds else bif Nat.beq f 237 then J6M ds else .no
def J7J (U : ZI) (E : ZR) (set : ZI) : Ann := .none
def J5l (U : ZI) (E : ZR) (set : ZI) : Prop :=
  (PC Try.prog 115 [.agg [.sl (.ints U), .sl (.rows E)]] (.one (.d (.bool (J0 U E))))) ∧ ((J0 U E) = true → (J0 U E) = true) ∧ ((J0 U E) = true → (J0 U E) = true) ∧ ((J0 U E) = true → PC Try.prog 237 [.agg [.sl (.ints U), .sl (.rows E)], .sl (.ints set)] (.one (.d (.bool (J1 set 0 ((U.length : Int) - 1)))))) ∧ (true = true) ∧ (((J0 U E) = true → (J0 U E) = true)) ∧ (((J0 U E) = false → true = true)) ∧ ((cond (J0 U E) (J1 set 0 ((U.length : Int) - 1)) false) = true → (cond (J0 U E) (J1 set 0 ((U.length : Int) - 1)) false) = true) ∧ ((cond (J0 U E) (J1 set 0 ((U.length : Int) - 1)) false) = true → (cond (J0 U E) (J1 set 0 ((U.length : Int) - 1)) false) = true) ∧ (true = true) ∧ (((cond (J0 U E) (J1 set 0 ((U.length : Int) - 1)) false) = true → (cond (J0 U E) (J1 set 0 ((U.length : Int) - 1)) false) = true)) ∧ (((cond (J0 U E) (J1 set 0 ((U.length : Int) - 1)) false) = false → true = true)) ∧ (((cond (cond (J0 U E) (J1 set 0 ((U.length : Int) - 1)) false) (decide ((set.length : Int) > 0)) false) = (J0 U E && J1 set 0 ((U.length : Int) - 1) && decide (0 < set.length))))
theorem J7G (U : ZI) (E : ZR) (set : ZI)  (w_Open : (U.length : Int) ≤ 9223372036854775807) (w_Dist : (E.length : Int) ≤ 9223372036854775807) (v_Dist : ∀ x9 ∈ E, (x9.length : Int) ≤ 9223372036854775807) (w_set : (set.length : Int) ≤ 9223372036854775807) : J5l U E set := by
  unfold J5l
  refine ⟨J6D U E, id, id, fun _ => J7d U E set, rfl, id, fun _ => rfl, id, id, rfl, id, fun _ => rfl, ?_⟩
  ·rw [(show decide ((set.length : Int) > 0) = decide (0 < set.length) by rw [Bool.eq_iff_iff]; simp only [decide_eq_true_eq]; omega)]
   cases J0 U E <;> cases J1 set 0 ((U.length : Int) - 1) <;> cases decide (0 < set.length) <;> rfl
theorem J7F (U : ZI) (E : ZR) (set : ZI)  : PC Try.prog 212 [.agg [.sl (.ints U), .sl (.rows E)], .sl (.ints set)] (.one (.d (.bool (J0 U E && J1 set 0 ((U.length : Int) - 1) && decide (0 < set.length))))) :=
  pc_wf @Try.call212 fun hw => pc_by (by kernel_rfl) Try.func212 @Try.call212 (by kernel_rfl) J7X (J7J U E set) (by kernel_rfl) (J7G U E set hw.1.1 hw.1.2.1.1 hw.1.2.1.2 hw.2.1) (by kernel_rfl)
def J6q : List D → Orc := orcN [none, some .ints] fun ds => match ds with
  | [.agg [.sl (.ints U), .sl (.rows E)], .sl (.ints set)] => some (.one (.d (.bool (J0 U E && J1 set 0 ((U.length : Int) - 1) && decide (0 < set.length)))))
  | _ => none
def J4D (f : FuncId) (ds : List D) : Orc := bif Nat.beq f 130 then J2D ds else .no
def J4A (U : ZI) (E : ZR) (set : ZI) : Ann := .none
def J2k (U : ZI) (E : ZR) (set : ZI) : Prop :=
  ((decide ((set.length : Int) > 0)) = true → (decide ((set.length : Int) > 0)) = true) ∧ ((decide ((set.length : Int) > 0)) = true → (decide ((set.length : Int) > 0)) = true) ∧ ((decide ((set.length : Int) > 0)) = true → (decide ((set.length : Int) > 0)) = true) ∧ ((decide ((set.length : Int) > 0)) = true → (decide ((set.length : Int) > 0)) = true) ∧ ((decide ((set.length : Int) > 0)) = true → PC Try.prog 130 [.sl (.ints set), .int .i64 (U.length : Int)] (.one (.d (.bool (J1 set 0 ((U.length : Int) - 1)))))) ∧ (true = true) ∧ (((decide ((set.length : Int) > 0)) = true → (decide ((set.length : Int) > 0)) = true)) ∧ (((decide ((set.length : Int) > 0)) = false → true = true)) ∧ (((cond (decide ((set.length : Int) > 0)) (J1 set 0 ((U.length : Int) - 1)) false) = (J1 set 0 ((U.length : Int) - 1) && decide (0 < set.length))))
theorem J3R (U : ZI) (E : ZR) (set : ZI)  (w_Open : (U.length : Int) ≤ 9223372036854775807) (w_Dist : (E.length : Int) ≤ 9223372036854775807) (v_Dist : ∀ x9 ∈ E, (x9.length : Int) ≤ 9223372036854775807) (w_set : (set.length : Int) ≤ 9223372036854775807) : J2k U E set := by
  unfold J2k
  refine ⟨id, id, id, id, ?_, rfl, id, fun _ => rfl, ?_⟩
  ·intro hg
   refine J2R set (U.length : Int) ?_
   ·omega
  rw [(show decide ((set.length : Int) > 0) = decide (0 < set.length) by rw [Bool.eq_iff_iff]; simp only [decide_eq_true_eq]; omega)]
  cases J1 set 0 ((U.length : Int) - 1) <;> cases decide (0 < set.length) <;> rfl
theorem J3Z (U : ZI) (E : ZR) (set : ZI)  : PC Try.prog 211 [.agg [.sl (.ints U), .sl (.rows E)], .sl (.ints set)] (.one (.d (.bool (J1 set 0 ((U.length : Int) - 1) && decide (0 < set.length))))) :=
  pc_wf @Try.call211 fun hw => pc_by (by kernel_rfl) Try.func211 @Try.call211 (by kernel_rfl) J4D (J4A U E set) (by kernel_rfl) (J3R U E set hw.1.1 hw.1.2.1.1 hw.1.2.1.2 hw.2.1) (by kernel_rfl)
def J3q : List D → Orc := orcN [none, some .ints] fun ds => match ds with
  | [.agg [.sl (.ints U), .sl (.rows E)], .sl (.ints set)] => some (.one (.d (.bool (J1 set 0 ((U.length : Int) - 1) && decide (0 < set.length)))))
  | _ => none
def J6l (f : FuncId) (ds : List D) : Orc := bif Nat.beq f 119 then J2P ds else bif Nat.beq f 211 then J3q ds else .no
def J62 (U : ZI) (E : ZR) (set : ZI) : Ann := .none
def J2Y (U : ZI) (E : ZR) (set : ZI) : Prop :=
  (PC Try.prog 119 [.agg [.sl (.ints U), .sl (.rows E)]] (.one (.d (.bool (J0 U E))))) ∧ ((J0 U E) = true → (J0 U E) = true) ∧ ((J0 U E) = true → (J0 U E) = true) ∧ ((J0 U E) = true → PC Try.prog 211 [.agg [.sl (.ints U), .sl (.rows E)], .sl (.ints set)] (.one (.d (.bool (J1 set 0 ((U.length : Int) - 1) && decide (0 < set.length)))))) ∧ (true = true) ∧ (((J0 U E) = true → (J0 U E) = true)) ∧ (((J0 U E) = false → true = true)) ∧ (((cond (J0 U E) (J1 set 0 ((U.length : Int) - 1) && decide (0 < set.length)) false) = (J0 U E && J1 set 0 ((U.length : Int) - 1) && decide (0 < set.length))))
theorem J5t (U : ZI) (E : ZR) (set : ZI)  (w_Open : (U.length : Int) ≤ 9223372036854775807) (w_Dist : (E.length : Int) ≤ 9223372036854775807) (v_Dist : ∀ x9 ∈ E, (x9.length : Int) ≤ 9223372036854775807) (w_set : (set.length : Int) ≤ 9223372036854775807) : J2Y U E set := by
  unfold J2Y
  refine ⟨J3b U E, id, id, fun _ => J3Z U E set, rfl, id, fun _ => rfl, ?_⟩
  ·cases J0 U E <;> cases J1 set 0 ((U.length : Int) - 1) <;> cases decide (0 < set.length) <;> rfl
theorem J5w (U : ZI) (E : ZR) (set : ZI)  : PC Try.prog 136 [.agg [.sl (.ints U), .sl (.rows E)], .sl (.ints set)] (.one (.d (.bool (J0 U E && J1 set 0 ((U.length : Int) - 1) && decide (0 < set.length))))) :=
  pc_wf @Try.call136 fun hw => pc_by (by kernel_rfl) Try.func136 @Try.call136 (by kernel_rfl) J6l (J62 U E set) (by kernel_rfl) (J5t U E set hw.1.1 hw.1.2.1.1 hw.1.2.1.2 hw.2.1) (by kernel_rfl)
def J51 : List D → Orc := orcN [none, some .ints] fun ds => match ds with
  | [.agg [.sl (.ints U), .sl (.rows E)], .sl (.ints set)] => some (.one (.d (.bool (J0 U E && J1 set 0 ((U.length : Int) - 1) && decide (0 < set.length)))))
  | _ => none
theorem J7 {U set : ZI} {E : ZR} (h : (J0 U E && J1 set 0 ((U.length : Int) - 1) && decide (0 < set.length)) = true) :
    J0 U E = true ∧ J1 set 0 ((U.length : Int) - 1) = true ∧ 0 < set.length := by
  simp only [Bool.and_eq_true, decide_eq_true_eq] at h
  exact ⟨h.1.1, h.1.2, h.2⟩
/-- Marks from k on. -/
def JF (k : Int) (n : Nat) : ZI := (List.range n).map fun (i : Nat) => k + (i : Int)
def JQ (k : Int) (xs : ZI) (g : Nat) : ZI := JF k g ++ xs.drop g
theorem Jw (k : Int) (n : Nat) : (JF k n).length = n := by simp [JF]
theorem J6Q (k : Int) (xs : ZI) : JQ k xs 0 = xs := by simp [JQ, JF]
theorem J7l (k : Int) (xs : ZI) : JQ k xs xs.length = JF k xs.length := by simp [JQ]
theorem J7y (k : Int) (xs : ZI) (g : Nat) (h : g ≤ xs.length) : (JQ k xs g).length = xs.length := by simp [JQ, Jw]; omega
theorem J6U (k : Int) (xs : ZI) (g : Nat) (h : g < xs.length) : (JQ k xs g).set g (k + (g : Int)) = JQ k xs (g + 1) := by
  apply List.ext_getElem?
  intro j
  simp only [JQ, JF, List.getElem?_set, List.getElem?_append, List.length_map, List.length_range, List.getElem?_map, List.getElem?_drop, List.length_append, List.length_drop]
  by_cases h1 : g = j
  · subst h1
    simp [h]
    omega
  by_cases h2 : j < g
  · simp [h1, h2, show j < g + 1 by omega]
  · simp [h1, h2, show ¬ j < g + 1 by omega]
    congr 1; omega
def J3B (f : FuncId) (ms : List MV) : Option Int := none
def J3p (n : Nat) (k : Int) : MAnn := .two (.none) (.two (.two (.none) (.loop n (fun g => [(0, .shp (.ints n)), (1, .int (k + (g : Int))), (5, .int (g : Int))]) (fun g => []) (fun g => .none))) (.none))
def J1V (n : Nat) (k : Int) : Prop :=
  (((([] : ZI) = []) ∧ ((.ints n : Sh) = .ints n) ∧ ((k : Int) = (k + ((0 : Nat) : Int))) ∧ ((0 : Int) = ((0 : Nat) : Int))) ∧ (∀ g : Nat, g ≤ n → (((decide ((g : Int) < ((n : Nat) : Int))) = true → ((0 : Int) ≤ (g : Int)) ∧ (((g : Int) : Int) < ((n : Nat) : Int)) ∧ (I6 ((k + (g : Int)) + 1)) ∧ (I6 ((g : Int) + 1)) ∧ ((g + 1 ≤ n) ∧ (([] : ZI) = []) ∧ ((.ints n : Sh) = .ints n) ∧ ((((k + (g : Int)) + 1) : Int) = (k + ((g + 1 : Nat) : Int))) ∧ ((((g : Int) + 1) : Int) = ((g + 1 : Nat) : Int)))) ∧ ((decide ((g : Int) < ((n : Nat) : Int))) = false → (((((k + (g : Int)) : Int) = k + (n : Int))) ∧ ((([] : ZI) = [])))))))
theorem J39 (n : Nat) (k : Int) (hk : 0 ≤ k) (hn : k + (n : Int) ≤ 9223372036854775807) : J1V n k := by
  unfold J1V
  refine ⟨?_, ?_⟩
  · refine ⟨?_, ?_⟩
    · exact rfl
    refine ⟨?_, ?_⟩
    · exact rfl
    refine ⟨?_, ?_⟩
    · first | omega | rfl | (simp; done) | (simp <;> omega)
    first | omega | rfl | (simp; done) | (simp <;> omega)
  intro g hg
  refine ⟨?_, ?_⟩
  · intro b1
    simp only [nrmT] at b1
    refine ⟨?_, ?_⟩
    · first | omega | rfl | (simp; done) | (simp <;> omega)
    refine ⟨?_, ?_⟩
    · first | omega | rfl | (simp; done) | (simp <;> omega)
    refine ⟨?_, ?_⟩
    · first | omega | rfl | (simp; done) | (simp <;> omega)
    refine ⟨?_, ?_⟩
    · first | omega | rfl | (simp; done) | (simp <;> omega)
    refine ⟨?_, ?_⟩
    · first | omega | rfl | (simp; done) | (simp <;> omega)
    refine ⟨?_, ?_⟩
    · exact rfl
    refine ⟨?_, ?_⟩
    · exact rfl
    refine ⟨?_, ?_⟩
    · first | omega | rfl | (simp; done) | (simp <;> omega)
    first | omega | rfl | (simp; done) | (simp <;> omega)
  intro b2
  simp only [nrmT] at b2
  refine ⟨?_, ?_⟩
  · first | omega | rfl | (simp; done) | (simp <;> omega)
  exact rfl
theorem J1F (n : Nat) (k : Int) (hk : 0 ≤ k) (hn : k + (n : Int) ≤ 9223372036854775807) : PG Try.prog 48 [.shp (.ints n), .int k] (k + (n : Int)) :=
  pg_by Try.func48 @Try.call48 (by kernel_rfl) J3B (J3p n k) (by kernel_rfl) (J39 n k hk hn) (by kernel_rfl)
def J3w (f : FuncId) (ms : List MV) : Option Int := none
def J3u (xs : ZI) (k : Int) : MAnn := .two (.none) (.two (.two (.none) (.loop xs.length (fun g => [(0, .row xs.length), (1, .int (k + (g : Int))), (5, .int (g : Int))]) (fun g => (JQ k xs g)) (fun g => .none))) (.none))
def J1X (xs : ZI) (k : Int) : Prop :=
  ((((xs : ZI) = (JQ k xs (0 : Nat))) ∧ ((xs.length : Nat) = xs.length) ∧ ((k : Int) = (k + ((0 : Nat) : Int))) ∧ ((0 : Int) = ((0 : Nat) : Int))) ∧ (∀ g : Nat, g ≤ xs.length → (((decide ((g : Int) < (xs.length : Int))) = true → ((0 : Int) ≤ (g : Int)) ∧ (((g : Int) : Int) < (xs.length : Int)) ∧ ((g : Int).toNat < (JQ k xs g).length) ∧ (I6 ((k + (g : Int)) + 1)) ∧ (I6 ((g : Int) + 1)) ∧ ((g + 1 ≤ xs.length) ∧ ((((JQ k xs g).set ((g : Int).toNat) (k + (g : Int))) : ZI) = (JQ k xs (g + 1 : Nat))) ∧ ((xs.length : Nat) = xs.length) ∧ ((((k + (g : Int)) + 1) : Int) = (k + ((g + 1 : Nat) : Int))) ∧ ((((g : Int) + 1) : Int) = ((g + 1 : Nat) : Int)))) ∧ ((decide ((g : Int) < (xs.length : Int))) = false → (((((k + (g : Int)) : Int) = k + (xs.length : Int))) ∧ ((((JQ k xs g) : ZI) = (JF k xs.length))))))))
theorem J3h (xs : ZI) (k : Int) (hk : 0 ≤ k) (hn : k + (xs.length : Int) ≤ 9223372036854775807) : J1X xs k := by
  unfold J1X
  refine ⟨?_, ?_⟩
  · refine ⟨?_, ?_⟩
    · exact (J6Q k xs).symm
    refine ⟨?_, ?_⟩
    · exact rfl
    refine ⟨?_, ?_⟩
    · first | omega | rfl | (simp; done) | (simp <;> omega)
    first | omega | rfl | (simp; done) | (simp <;> omega)
  intro g hg
  refine ⟨?_, ?_⟩
  · intro b1
    simp only [nrmT] at b1
    refine ⟨?_, ?_⟩
    · first | omega | rfl | (simp; done) | (simp <;> omega)
    refine ⟨?_, ?_⟩
    · first | omega | rfl | (simp; done) | (simp <;> omega)
    refine ⟨?_, ?_⟩
    · rw [J7y _ _ _ (by omega)]; omega
    refine ⟨?_, ?_⟩
    · first | omega | rfl | (simp; done) | (simp <;> omega)
    refine ⟨?_, ?_⟩
    · first | omega | rfl | (simp; done) | (simp <;> omega)
    refine ⟨?_, ?_⟩
    · first | omega | rfl | (simp; done) | (simp <;> omega)
    refine ⟨?_, ?_⟩
    · exact J6U k xs g (by omega)
    refine ⟨?_, ?_⟩
    · exact rfl
    refine ⟨?_, ?_⟩
    · first | omega | rfl | (simp; done) | (simp <;> omega)
    first | omega | rfl | (simp; done) | (simp <;> omega)
  intro b2
  simp only [nrmT] at b2
  refine ⟨?_, ?_⟩
  · first | omega | rfl | (simp; done) | (simp <;> omega)
  rw [show g = xs.length by omega]; exact J7l k xs
theorem J37 (xs : ZI) (k : Int) (hk : 0 ≤ k) (hn : k + (xs.length : Int) ≤ 9223372036854775807) : PW Try.prog 48 3 xs (JF k xs.length) k (k + (xs.length : Int)) :=
  pw_by Try.func48 @Try.call48 (by kernel_rfl) J3w (J3u xs k) (by kernel_rfl) (Nat.le_of_eq (Jw _ _)) (J3h xs k hk hn) (by kernel_rfl)
theorem J7o (k : Int) (n i : Nat) (h : i < n) : (JF k n).getD i 0 = k + (i : Int) := by
  simp [JF, h]
theorem J79 {b x : Int} (hb : 0 ≤ b ∧ b ≤ 4611686018427387903) (h2 : x ≤ 62) (h : 0 < b / 2 ^ x.toNat) : x < 62 := by
  by_cases e : x = 62
  · subst e
    have e2 : (2 : Int) ^ (62 : Int).toNat = 4611686018427387904 := by decide
    rw [e2] at h
    omega
  omega
theorem J8w {b : Int} {m : Nat} (hb : 0 ≤ b) (h : ¬ 0 < b / 2 ^ m) (k : Nat) (hk : m ≤ k) : b.toNat.testBit k = false := by
  have h1 : b.toNat / 2 ^ m = 0 := by
    have h2 : ((b.toNat / 2 ^ m : Nat) : Int) = b / 2 ^ m := by
      rw [Int.natCast_ediv, Int.toNat_of_nonneg hb]; simp
    have h3 : (0 : Int) ≤ ((b.toNat / 2 ^ m : Nat) : Int) := Int.natCast_nonneg _
    omega
  have h4 : b.toNat < 2 ^ m := (Nat.div_eq_zero_iff_lt (Nat.two_pow_pos m)).1 h1
  exact Nat.testBit_lt_two_pow (Nat.lt_of_lt_of_le h4 (Nat.pow_le_pow_right (by omega) hk))
abbrev J0F (xs : ZI) (k : Int) (k2 : Int) (i : Int) : Prop := (0 ≤ i) ∧ (i ≤ (xs.length : Int)) ∧ (k2 = k + i)
abbrev J0b (xs : ZI) (k : Int) (k2 : Int) (i : Int) : Nat := (xs.length - i).toNat
def J5Z (f : FuncId) (ds : List D) : Orc := .no
def J6a (xs : ZI) (k : Int) : Ann := .two (.none) (.two (.two (.none) (.loop (cut2 (fun (k2 : Int) (i : Int) => J0F xs k k2 i) (fun (k2 : Int) (i : Int) => [(0, .d false (.sl (.ints xs))), (1, .d true (.int .i64 k2)), (5, .d true (.int .i64 i))]) (fun (k2 : Int) (i : Int) => [])) (fun g => J0b xs k g.1 g.2) (fun _ => .none))) (.none))
def J3i (xs : ZI) (k : Int) : Prop :=
  ((∃ k2' : Int, ∃ i' : Int, (J0F xs k k2' i') ∧ (xs = xs) ∧ (k = k2') ∧ ((0 : Int) = i')) ∧ (∀ k2 : Int, ∀ i : Int, (J0F xs k k2 i) → (((decide (i < (xs.length : Int))) = true → ((0 : Int) ≤ i) ∧ ((i : Int) < xs.length) ∧ (i.toNat < xs.length) ∧ ((((xs.getD i.toNat 0) != k2) = true → ((((-1) : Int) = (k + (xs.length : Int))))) ∧ (((xs.getD i.toNat 0) != k2) = false → (I6 (k2 + 1)) ∧ (I6 (i + 1)) ∧ (∃ k2' : Int, ∃ i' : Int, (J0F xs k k2' i') ∧ (J0b xs k k2' i' < J0b xs k k2 i) ∧ (xs = xs) ∧ ((k2 + 1) = k2') ∧ ((i + 1) = i'))))) ∧ ((decide (i < (xs.length : Int))) = false → ((k2 = (k + (xs.length : Int))))))))
theorem J5s (xs : ZI) (k : Int) (hk : 0 ≤ k) (hx : xs = JF k xs.length) (hn : k + (xs.length : Int) ≤ 9223372036854775807) (w_xs : (xs.length : Int) ≤ 9223372036854775807) : J3i xs k := by
  unfold J3i
  refine ⟨?_, ?_⟩
  ·refine ⟨k, 0, ?_⟩
   refine ⟨?_, rfl, rfl, rfl⟩
   ·refine ⟨?_, ?_, ?_⟩
    ·first | omega | rfl | (intro hg; simp only [nrmT] at hg; omega) | (intro g1 g2; simp [g1, g2]; done) | (intro g1; simp at g1 ⊢; simp [g1]; done) | (simp only [nrmT] at *; omega) | (simp at * <;> omega) | (simp_all <;> omega) | (simp_all; done)
    ·first | omega | rfl | (intro hg; simp only [nrmT] at hg; omega) | (intro g1 g2; simp [g1, g2]; done) | (intro g1; simp at g1 ⊢; simp [g1]; done) | (simp only [nrmT] at *; omega) | (simp at * <;> omega) | (simp_all <;> omega) | (simp_all; done)
    ·first | omega | rfl | (intro hg; simp only [nrmT] at hg; omega) | (intro g1 g2; simp [g1, g2]; done) | (intro g1; simp at g1 ⊢; simp [g1]; done) | (simp only [nrmT] at *; omega) | (simp at * <;> omega) | (simp_all <;> omega) | (simp_all; done)
  intro k2 i hJ
  obtain ⟨h1, h2, h3⟩ := hJ
  refine ⟨?_, ?_⟩
  ·intro b1
   try simp only [nrmT] at b1
   refine ⟨?_, ?_, ?_, ?_, ?_⟩
   ·first | omega | rfl | (intro hg; simp only [nrmT] at hg; omega) | (intro g1 g2; simp [g1, g2]; done) | (intro g1; simp at g1 ⊢; simp [g1]; done) | (simp only [nrmT] at *; omega) | (simp at * <;> omega) | (simp_all <;> omega) | (simp_all; done)
   ·first | omega | rfl | (intro hg; simp only [nrmT] at hg; omega) | (intro g1 g2; simp [g1, g2]; done) | (intro g1; simp at g1 ⊢; simp [g1]; done) | (simp only [nrmT] at *; omega) | (simp at * <;> omega) | (simp_all <;> omega) | (simp_all; done)
   ·first | omega | rfl | (intro hg; simp only [nrmT] at hg; omega) | (intro g1 g2; simp [g1, g2]; done) | (intro g1; simp at g1 ⊢; simp [g1]; done) | (simp only [nrmT] at *; omega) | (simp at * <;> omega) | (simp_all <;> omega) | (simp_all; done)
   ·intro b2
    try simp only [nrmT] at b2
    exfalso
    have h9 : xs.getD i.toNat 0 = k + (i.toNat : Int) := by
      rw [hx]; exact J7o k _ _ (by omega)
    omega
   intro b3
   try simp only [nrmT] at b3
   refine ⟨?_, ?_, ?_⟩
   ·first | omega | rfl | (intro hg; simp only [nrmT] at hg; omega) | (intro g1 g2; simp [g1, g2]; done) | (intro g1; simp at g1 ⊢; simp [g1]; done) | (simp only [nrmT] at *; omega) | (simp at * <;> omega) | (simp_all <;> omega) | (simp_all; done)
   ·first | omega | rfl | (intro hg; simp only [nrmT] at hg; omega) | (intro g1 g2; simp [g1, g2]; done) | (intro g1; simp at g1 ⊢; simp [g1]; done) | (simp only [nrmT] at *; omega) | (simp at * <;> omega) | (simp_all <;> omega) | (simp_all; done)
   refine ⟨(k2 + 1), (i + 1), ?_⟩
   refine ⟨?_, ?_, rfl, rfl, rfl⟩
   ·refine ⟨?_, ?_, ?_⟩
    ·first | omega | rfl | (intro hg; simp only [nrmT] at hg; omega) | (intro g1 g2; simp [g1, g2]; done) | (intro g1; simp at g1 ⊢; simp [g1]; done) | (simp only [nrmT] at *; omega) | (simp at * <;> omega) | (simp_all <;> omega) | (simp_all; done)
    ·first | omega | rfl | (intro hg; simp only [nrmT] at hg; omega) | (intro g1 g2; simp [g1, g2]; done) | (intro g1; simp at g1 ⊢; simp [g1]; done) | (simp only [nrmT] at *; omega) | (simp at * <;> omega) | (simp_all <;> omega) | (simp_all; done)
    ·first | omega | rfl | (intro hg; simp only [nrmT] at hg; omega) | (intro g1 g2; simp [g1, g2]; done) | (intro g1; simp at g1 ⊢; simp [g1]; done) | (simp only [nrmT] at *; omega) | (simp at * <;> omega) | (simp_all <;> omega) | (simp_all; done)
   first | (show _ < _; omega) | (simp only [J0b]; omega) | (simp only [J0b] at *; simp at *; omega)
  intro b4
  try simp only [nrmT] at b4
  first | omega | rfl | (intro hg; simp only [nrmT] at hg; omega) | (intro g1 g2; simp [g1, g2]; done) | (intro g1; simp at g1 ⊢; simp [g1]; done) | (simp only [nrmT] at *; omega) | (simp at * <;> omega) | (simp_all <;> omega) | (simp_all; done)
theorem J5Q (xs : ZI) (k : Int) (hk : 0 ≤ k) (hx : xs = JF k xs.length) (hn : k + (xs.length : Int) ≤ 9223372036854775807) : PC Try.prog 121 [.sl (.ints xs), .int .i64 k] (.one (.d (.int .i64 (k + (xs.length : Int))))) :=
  pc_wf @Try.call121 fun hw => pc_by (by kernel_rfl) Try.func121 @Try.call121 (by kernel_rfl) J5Z (J6a xs k) (by kernel_rfl) (J5s xs k hk hx hn hw.1) (by kernel_rfl)
def J4O : List D → Orc := orcN [some .ints, none] fun ds => match ds with
  | [.sl (.ints xs), .int .i64 k] => some (.one (.d (.int .i64 (k + (xs.length : Int)))))
  | _ => none
theorem J1k {p : Nat → Bool} {m : Nat} (h : ∀ k, m ≤ k → p k = false) : ∀ n, m ≤ n → members p n = members p m
  | 0, hn => by have : m = 0 := by omega
                rw [this]
  | n + 1, hn => by
    by_cases e : m = n + 1
    · rw [e]
    rw [members_succ, J1k h n (by omega), h n (by omega)]; simp
def J1B (row set : ZI) (b : Int) (k : Nat) : Int := if row.getD (set.getD k 0).toNat 0 < row.getD b.toNat 0 then set.getD k 0 else b
def J5 (row set : ZI) (k : Nat) : Int := foldTo (J1B row set) (set.getD 0 0) k
theorem J7C (row set : ZI) : J5 row set 1 = set.getD 0 0 := by
  show J1B row set (set.getD 0 0) 0 = _
  unfold J1B; split <;> rfl
theorem J0f (row set : ZI) (k : Nat) : J5 row set (k + 1) = J1B row set (J5 row set k) k := rfl
theorem J0t {row set : ZI} {n : Int} (h : ∀ k, k < set.length → 0 ≤ set.getD k 0 ∧ set.getD k 0 < n) (hp : 0 < set.length) : ∀ k, k ≤ set.length → 0 ≤ J5 row set k ∧ J5 row set k < n
  | 0, _ => h 0 hp
  | k + 1, hk => by
    rw [J0f]
    unfold J1B
    split
    · exact h k (by omega)
    exact J0t h hp k (by omega)
abbrev J0v (U : ZI) (E : ZR) (client : Int) (set : ZI) (best : Int) (k : Int) : Prop := (1 ≤ k) ∧ (k ≤ (set.length : Int)) ∧ (best = J5 (E.getD client.toNat []) set k.toNat)
abbrev JP (U : ZI) (E : ZR) (client : Int) (set : ZI) (best : Int) (k : Int) : Nat := (set.length - k).toNat
def J77 (f : FuncId) (ds : List D) : Orc := .no
def J7r (U : ZI) (E : ZR) (client : Int) (set : ZI) : Ann := .two (.none) (.two (.none) (.two (.two (.none) (.loop (cut2 (fun (best : Int) (k : Int) => J0v U E client set best k) (fun (best : Int) (k : Int) => [(1, .d false (.int .i64 client)), (2, .d false (.sl (.ints set))), (3, .ptr 3 0), (7, .d true (.int .i64 best)), (8, .d true (.int .i64 k))]) (fun (best : Int) (k : Int) => [(3, .box 39 [.d false (.sl (.ints U)), .d false (.sl (.rows E))])])) (fun g => JP U E client set g.1 g.2) (fun _ => .none))) (.none)))
def J4g (U : ZI) (E : ZR) (client : Int) (set : ZI) : Prop :=
  ((0 : Int) ≤ 0) ∧ ((0 : Int) < set.length) ∧ (0 < set.length) ∧ ((∃ best' : Int, ∃ k' : Int, (J0v U E client set best' k') ∧ (client = client) ∧ (set = set) ∧ ((set.getD 0 0) = best') ∧ ((1 : Int) = k') ∧ (U = U) ∧ (E = E)) ∧ (∀ best : Int, ∀ k : Int, (J0v U E client set best k) → (((decide (k < (set.length : Int))) = true → (true = true) ∧ ((0 : Int) ≤ client) ∧ ((client : Int) < E.length) ∧ (client.toNat < E.length) ∧ ((0 : Int) ≤ k) ∧ ((k : Int) < set.length) ∧ (k.toNat < set.length) ∧ ((0 : Int) ≤ (set.getD k.toNat 0)) ∧ (((set.getD k.toNat 0) : Int) < (E.getD client.toNat []).length) ∧ ((set.getD k.toNat 0).toNat < (E.getD client.toNat []).length) ∧ ((0 : Int) ≤ client) ∧ ((client : Int) < E.length) ∧ (client.toNat < E.length) ∧ ((0 : Int) ≤ best) ∧ ((best : Int) < (E.getD client.toNat []).length) ∧ (best.toNat < (E.getD client.toNat []).length) ∧ (((decide (((E.getD client.toNat []).getD ((set.getD k.toNat 0).toNat) 0) < ((E.getD client.toNat []).getD best.toNat 0))) = true → ((0 : Int) ≤ k) ∧ ((k : Int) < set.length) ∧ (k.toNat < set.length) ∧ (I6 (k + 1)) ∧ (∃ best' : Int, ∃ k' : Int, (J0v U E client set best' k') ∧ (JP U E client set best' k' < JP U E client set best k) ∧ (client = client) ∧ (set = set) ∧ ((set.getD k.toNat 0) = best') ∧ ((k + 1) = k') ∧ (U = U) ∧ (E = E))) ∧ ((decide (((E.getD client.toNat []).getD ((set.getD k.toNat 0).toNat) 0) < ((E.getD client.toNat []).getD best.toNat 0))) = false → (I6 (k + 1)) ∧ (∃ best' : Int, ∃ k' : Int, (J0v U E client set best' k') ∧ (JP U E client set best' k' < JP U E client set best k) ∧ (client = client) ∧ (set = set) ∧ (best = best') ∧ ((k + 1) = k') ∧ (U = U) ∧ (E = E))))) ∧ ((decide (k < (set.length : Int))) = false → ((best = (J5 (E.getD client.toNat []) set set.length)))))))
theorem J6w (U : ZI) (E : ZR) (client : Int) (set : ZI) (ht : (J0 U E && J1 set 0 ((U.length : Int) - 1) && decide (0 < set.length)) = true) (hc : 0 ≤ client ∧ client < (E.length : Int)) (w_Open : (U.length : Int) ≤ 9223372036854775807) (w_Dist : (E.length : Int) ≤ 9223372036854775807) (v_Dist : ∀ x9 ∈ E, (x9.length : Int) ≤ 9223372036854775807) (w_set : (set.length : Int) ≤ 9223372036854775807) : J4g U E client set := by
  unfold J4g
  obtain ⟨hg, hs, hp⟩ := J7 ht
  obtain ⟨g1, g2, g3⟩ := J9 hg
  have cs := fun k => JD hs k
  obtain ⟨rl, rb⟩ := J27 (i := client.toNat) hg (by omega)
  have si := J0t (row := E.getD client.toNat []) (set := set) (n := (U.length : Int)) (fun k hk => by have := cs k hk; omega) hp
  refine ⟨?_, ?_, ?_, ?_, ?_⟩
  ·omega
  ·omega
  ·omega
  ·refine ⟨(set.getD 0 0), 1, ?_⟩
   refine ⟨?_, rfl, rfl, rfl, rfl, rfl, rfl⟩
   ·refine ⟨?_, ?_, ?_⟩
    ·omega
    ·omega
    ·exact (J7C _ _).symm
  intro best k hJ
  obtain ⟨h1, h2, h3⟩ := hJ
  refine ⟨?_, ?_⟩
  ·intro b1
   try simp only [nrmT] at b1
   refine ⟨rfl, ?_, ?_, ?_, ?_, ?_, ?_, ?_, ?_, ?_, ?_, ?_, ?_, ?_, ?_, ?_, ?_, ?_⟩
   ·omega
   ·omega
   ·omega
   ·omega
   ·omega
   ·omega
   ·have := cs k.toNat (by omega)
    omega
   ·have := cs k.toNat (by omega)
    omega
   ·have := cs k.toNat (by omega)
    omega
   ·omega
   ·omega
   ·omega
   ·have := si k.toNat (by omega)
    omega
   ·have := si k.toNat (by omega)
    omega
   ·have := si k.toNat (by omega)
    omega
   ·intro b2
    try simp only [nrmT] at b2
    refine ⟨?_, ?_, ?_, ?_, ?_⟩
    ·omega
    ·omega
    ·omega
    ·omega
    refine ⟨(set.getD k.toNat 0), (k + 1), ?_⟩
    refine ⟨?_, ?_, rfl, rfl, rfl, rfl, rfl, rfl⟩
    ·refine ⟨?_, ?_, ?_⟩
     ·omega
     ·omega
     ·rw [show (k + 1).toNat = k.toNat + 1 by omega, J0f, ← h3]; unfold J1B; rw [if_pos b2]
    (simp only [JP]; omega)
   intro b3
   try simp only [nrmT] at b3
   refine ⟨?_, ?_⟩
   ·omega
   refine ⟨best, (k + 1), ?_⟩
   refine ⟨?_, ?_, rfl, rfl, rfl, rfl, rfl, rfl⟩
   ·refine ⟨?_, ?_, ?_⟩
    ·omega
    ·omega
    ·rw [show (k + 1).toNat = k.toNat + 1 by omega, J0f, ← h3]; unfold J1B; rw [if_neg (by omega)]
   (simp only [JP]; omega)
  intro b4
  try simp only [nrmT] at b4
  rw [h3, show k.toNat = set.length by omega]
theorem J3I (U : ZI) (E : ZR) (client : Int) (set : ZI) (ht : (J0 U E && J1 set 0 ((U.length : Int) - 1) && decide (0 < set.length)) = true) (hc : 0 ≤ client ∧ client < (E.length : Int)) : PC Try.prog 238 [.agg [.sl (.ints U), .sl (.rows E)], .int .i64 client, .sl (.ints set)] (.one (.d (.int .i64 (J5 (E.getD client.toNat []) set set.length)))) :=
  pc_wf @Try.call238 fun hw => pc_by (by kernel_rfl) Try.func238 @Try.call238 (by kernel_rfl) J77 (J7r U E client set) (by kernel_rfl) (J6w U E client set ht hc hw.1.1 hw.1.2.1.1 hw.1.2.1.2 hw.2.2.1) (by kernel_rfl)
def J3c : List D → Orc := orcN [none, none, some .ints] fun ds => match ds with
  | [.agg [.sl (.ints U), .sl (.rows E)], .int .i64 client, .sl (.ints set)] => some (.one (.d (.int .i64 (J5 (E.getD client.toNat []) set set.length))))
  | _ => none
abbrev JI (U : ZI) (E : ZR) (client : Int) (set : ZI) (best : Int) (k : Int) : Prop := (0 ≤ k) ∧ (k ≤ (set.length : Int)) ∧ (best = J5 (E.getD client.toNat []) set k.toNat)
abbrev Jo (U : ZI) (E : ZR) (client : Int) (set : ZI) (best : Int) (k : Int) : Nat := (set.length - k).toNat
def J43 (f : FuncId) (ds : List D) : Orc := .no
def J3S (U : ZI) (E : ZR) (client : Int) (set : ZI) : Ann := .two (.none) (.two (.none) (.two (.two (.none) (.loop (cut2 (fun (best : Int) (k : Int) => JI U E client set best k) (fun (best : Int) (k : Int) => [(1, .d false (.int .i64 client)), (3, .ptr 3 0), (7, .d true (.int .i64 best)), (13, .d false (.sl (.ints set))), (14, .d true (.int .i64 (set.length : Int))), (15, .d true (.int .i64 k))]) (fun (best : Int) (k : Int) => [(3, .box 39 [.d false (.sl (.ints U)), .d false (.sl (.rows E))])])) (fun g => Jo U E client set g.1 g.2) (fun _ => .none))) (.none)))
def J2a (U : ZI) (E : ZR) (client : Int) (set : ZI) : Prop :=
  ((0 : Int) ≤ 0) ∧ ((0 : Int) < set.length) ∧ (0 < set.length) ∧ ((∃ best' : Int, ∃ k' : Int, (JI U E client set best' k') ∧ (client = client) ∧ ((set.getD 0 0) = best') ∧ (set = set) ∧ ((set.length : Int) = (set.length : Int)) ∧ ((0 : Int) = k') ∧ (U = U) ∧ (E = E)) ∧ (∀ best : Int, ∀ k : Int, (JI U E client set best k) → (((decide (k < (set.length : Int))) = true → ((0 : Int) ≤ k) ∧ ((k : Int) < set.length) ∧ (k.toNat < set.length) ∧ (true = true) ∧ ((0 : Int) ≤ client) ∧ ((client : Int) < E.length) ∧ (client.toNat < E.length) ∧ ((0 : Int) ≤ (set.getD k.toNat 0)) ∧ (((set.getD k.toNat 0) : Int) < (E.getD client.toNat []).length) ∧ ((set.getD k.toNat 0).toNat < (E.getD client.toNat []).length) ∧ ((0 : Int) ≤ client) ∧ ((client : Int) < E.length) ∧ (client.toNat < E.length) ∧ ((0 : Int) ≤ best) ∧ ((best : Int) < (E.getD client.toNat []).length) ∧ (best.toNat < (E.getD client.toNat []).length) ∧ (((decide (((E.getD client.toNat []).getD ((set.getD k.toNat 0).toNat) 0) < ((E.getD client.toNat []).getD best.toNat 0))) = true → (I6 (k + 1)) ∧ (∃ best' : Int, ∃ k' : Int, (JI U E client set best' k') ∧ (Jo U E client set best' k' < Jo U E client set best k) ∧ (client = client) ∧ ((set.getD k.toNat 0) = best') ∧ (set = set) ∧ ((set.length : Int) = (set.length : Int)) ∧ ((k + 1) = k') ∧ (U = U) ∧ (E = E))) ∧ ((decide (((E.getD client.toNat []).getD ((set.getD k.toNat 0).toNat) 0) < ((E.getD client.toNat []).getD best.toNat 0))) = false → (I6 (k + 1)) ∧ (∃ best' : Int, ∃ k' : Int, (JI U E client set best' k') ∧ (Jo U E client set best' k' < Jo U E client set best k) ∧ (client = client) ∧ (best = best') ∧ (set = set) ∧ ((set.length : Int) = (set.length : Int)) ∧ ((k + 1) = k') ∧ (U = U) ∧ (E = E))))) ∧ ((decide (k < (set.length : Int))) = false → ((best = (J5 (E.getD client.toNat []) set set.length)))))))
theorem J3n (U : ZI) (E : ZR) (client : Int) (set : ZI) (ht : (J0 U E && J1 set 0 ((U.length : Int) - 1) && decide (0 < set.length)) = true) (hc : 0 ≤ client ∧ client < (E.length : Int)) (w_Open : (U.length : Int) ≤ 9223372036854775807) (w_Dist : (E.length : Int) ≤ 9223372036854775807) (v_Dist : ∀ x9 ∈ E, (x9.length : Int) ≤ 9223372036854775807) (w_set : (set.length : Int) ≤ 9223372036854775807) : J2a U E client set := by
  unfold J2a
  obtain ⟨hg, hs, hp⟩ := J7 ht
  obtain ⟨g1, g2, g3⟩ := J9 hg
  have cs := fun k => JD hs k
  obtain ⟨rl, rb⟩ := J27 (i := client.toNat) hg (by omega)
  have si := J0t (row := E.getD client.toNat []) (set := set) (n := (U.length : Int)) (fun k hk => by have := cs k hk; omega) hp
  refine ⟨?_, ?_, ?_, ?_, ?_⟩
  ·omega
  ·omega
  ·omega
  ·refine ⟨(set.getD 0 0), 0, ?_⟩
   refine ⟨?_, rfl, rfl, rfl, rfl, rfl, rfl, rfl⟩
   ·refine ⟨?_, ?_, ?_⟩
    ·omega
    ·omega
    ·rfl
  intro best k hJ
  obtain ⟨h1, h2, h3⟩ := hJ
  refine ⟨?_, ?_⟩
  ·intro b1
   try simp only [nrmT] at b1
   refine ⟨?_, ?_, ?_, rfl, ?_, ?_, ?_, ?_, ?_, ?_, ?_, ?_, ?_, ?_, ?_, ?_, ?_, ?_⟩
   ·omega
   ·omega
   ·omega
   ·omega
   ·omega
   ·omega
   ·have := cs k.toNat (by omega)
    omega
   ·have := cs k.toNat (by omega)
    omega
   ·have := cs k.toNat (by omega)
    omega
   ·omega
   ·omega
   ·omega
   ·have := si k.toNat (by omega)
    omega
   ·have := si k.toNat (by omega)
    omega
   ·have := si k.toNat (by omega)
    omega
   ·intro b2
    try simp only [nrmT] at b2
    refine ⟨?_, ?_⟩
    ·omega
    refine ⟨(set.getD k.toNat 0), (k + 1), ?_⟩
    refine ⟨?_, ?_, rfl, rfl, rfl, rfl, rfl, rfl, rfl⟩
    ·refine ⟨?_, ?_, ?_⟩
     ·omega
     ·omega
     ·rw [show (k + 1).toNat = k.toNat + 1 by omega, J0f, ← h3]; unfold J1B; rw [if_pos b2]
    (simp only [Jo]; omega)
   intro b3
   try simp only [nrmT] at b3
   refine ⟨?_, ?_⟩
   ·omega
   refine ⟨best, (k + 1), ?_⟩
   refine ⟨?_, ?_, rfl, rfl, rfl, rfl, rfl, rfl, rfl⟩
   ·refine ⟨?_, ?_, ?_⟩
    ·omega
    ·omega
    ·rw [show (k + 1).toNat = k.toNat + 1 by omega, J0f, ← h3]; unfold J1B; rw [if_neg (by omega)]
   (simp only [Jo]; omega)
  intro b4
  try simp only [nrmT] at b4
  rw [h3, show k.toNat = set.length by omega]
theorem J3A (U : ZI) (E : ZR) (client : Int) (set : ZI) (ht : (J0 U E && J1 set 0 ((U.length : Int) - 1) && decide (0 < set.length)) = true) (hc : 0 ≤ client ∧ client < (E.length : Int)) : PC Try.prog 240 [.agg [.sl (.ints U), .sl (.rows E)], .int .i64 client, .sl (.ints set)] (.one (.d (.int .i64 (J5 (E.getD client.toNat []) set set.length)))) :=
  pc_wf @Try.call240 fun hw => pc_by (by kernel_rfl) Try.func240 @Try.call240 (by kernel_rfl) J43 (J3S U E client set) (by kernel_rfl) (J3n U E client set ht hc hw.1.1 hw.1.2.1.1 hw.1.2.1.2 hw.2.2.1) (by kernel_rfl)
def J3j : List D → Orc := orcN [none, none, some .ints] fun ds => match ds with
  | [.agg [.sl (.ints U), .sl (.rows E)], .int .i64 client, .sl (.ints set)] => some (.one (.d (.int .i64 (J5 (E.getD client.toNat []) set set.length))))
  | _ => none
def J5K (f : FuncId) (ds : List D) : Orc := bif Nat.beq f 238 then J3c ds else .no
def J5z (U : ZI) (E : ZR) (client : Int) (set : ZI) : Ann := .none
def J2S (U : ZI) (E : ZR) (client : Int) (set : ZI) : Prop :=
  (true = true) ∧ ((0 : Int) ≤ client) ∧ ((client : Int) < E.length) ∧ (client.toNat < E.length) ∧ (PC Try.prog 238 [.agg [.sl (.ints U), .sl (.rows E)], .int .i64 client, .sl (.ints set)] (.one (.d (.int .i64 (J5 (E.getD client.toNat []) set set.length))))) ∧ ((0 : Int) ≤ (J5 (E.getD client.toNat []) set set.length)) ∧ (((J5 (E.getD client.toNat []) set set.length) : Int) < (E.getD client.toNat []).length) ∧ ((J5 (E.getD client.toNat []) set set.length).toNat < (E.getD client.toNat []).length) ∧ ((((E.getD client.toNat []).getD ((J5 (E.getD client.toNat []) set set.length).toNat) 0) = ((E.getD client.toNat []).getD (J5 (E.getD client.toNat []) set set.length).toNat 0)))
theorem J4Z (U : ZI) (E : ZR) (client : Int) (set : ZI) (ht : (J0 U E && J1 set 0 ((U.length : Int) - 1) && decide (0 < set.length)) = true) (hc : 0 ≤ client ∧ client < (E.length : Int)) (w_Open : (U.length : Int) ≤ 9223372036854775807) (w_Dist : (E.length : Int) ≤ 9223372036854775807) (v_Dist : ∀ x9 ∈ E, (x9.length : Int) ≤ 9223372036854775807) (w_set : (set.length : Int) ≤ 9223372036854775807) : J2S U E client set := by
  unfold J2S
  obtain ⟨hg, hs, hp⟩ := J7 ht
  obtain ⟨g1, g2, g3⟩ := J9 hg
  have cs := fun k => JD hs k
  obtain ⟨rl, rb⟩ := J27 (i := client.toNat) hg (by omega)
  have si := J0t (row := E.getD client.toNat []) (set := set) (n := (U.length : Int)) (fun k hk => by have := cs k hk; omega) hp
  have sl := si set.length (Nat.le_refl _)
  refine ⟨rfl, ?_, ?_, ?_, ?_, ?_, ?_, ?_, ?_⟩
  ·omega
  ·omega
  ·omega
  ·refine J3I U E client set ?_ ?_
   ·omega
   ·omega
  ·omega
  ·omega
  ·omega
  omega
theorem J4V (U : ZI) (E : ZR) (client : Int) (set : ZI) (ht : (J0 U E && J1 set 0 ((U.length : Int) - 1) && decide (0 < set.length)) = true) (hc : 0 ≤ client ∧ client < (E.length : Int)) : PC Try.prog 221 [.agg [.sl (.ints U), .sl (.rows E)], .int .i64 client, .sl (.ints set)] (.one (.d (.int .i64 ((E.getD client.toNat []).getD (J5 (E.getD client.toNat []) set set.length).toNat 0)))) :=
  pc_wf @Try.call221 fun hw => pc_by (by kernel_rfl) Try.func221 @Try.call221 (by kernel_rfl) J5K (J5z U E client set) (by kernel_rfl) (J4Z U E client set ht hc hw.1.1 hw.1.2.1.1 hw.1.2.1.2 hw.2.2.1) (by kernel_rfl)
def J4d : List D → Orc := orcN [none, none, some .ints] fun ds => match ds with
  | [.agg [.sl (.ints U), .sl (.rows E)], .int .i64 client, .sl (.ints set)] => some (.one (.d (.int .i64 ((E.getD client.toNat []).getD (J5 (E.getD client.toNat []) set set.length).toNat 0))))
  | _ => none
def J3 (E : ZR) (set : ZI) (n : Nat) : ZI := (List.range n).map fun i => J5 (E.getD i []) set set.length
def J3m (E : ZR) (set : ZI) (i : Nat) : Int := (E.getD i []).getD (J5 (E.getD i []) set set.length).toNat 0
def JC (E : ZR) (set : ZI) (n : Nat) : ZI := (List.range n).map (J3m E set)
theorem JE (E : ZR) (set : ZI) (n : Nat) : (J3 E set n).length = n := by simp [J3]
theorem J2s (E : ZR) (set : ZI) (n : Nat) : (JC E set n).length = n := by simp [JC]
theorem Jt (E : ZR) (set : ZI) (n i : Nat) (h : i < n) : (J3 E set n).getD i 0 = J5 (E.getD i []) set set.length := by simp [J3, h]
theorem J7t (E : ZR) (set : ZI) (n i : Nat) (h : i < n) : (JC E set n).getD i 0 = J3m E set i := by simp [JC, h]
theorem J7u (E : ZR) (set : ZI) (n : Nat) : J3 E set (n + 1) = J3 E set n ++ [J5 (E.getD n []) set set.length] := by simp [J3, List.range_succ]
theorem J7i (E : ZR) (set : ZI) (n : Nat) : JC E set (n + 1) = JC E set n ++ [J3m E set n] := by simp [JC, List.range_succ]
abbrev J00 (U : ZI) (E : ZR) (set : ZI) (out : ZI) (i : Int) : Prop := (0 ≤ i) ∧ (i ≤ (E.length : Int)) ∧ (out = J3 E set i.toNat)
abbrev J03 (U : ZI) (E : ZR) (set : ZI) (out : ZI) (i : Int) : Nat := (E.length - i).toNat
def J3T (f : FuncId) (ds : List D) : Orc := bif Nat.beq f 240 then J3j ds else .no
def J3X (U : ZI) (E : ZR) (set : ZI) : Ann := .two (.none) (.two (.none) (.two (.two (.none) (.loop (cut2 (fun (out : ZI) (i : Int) => J00 U E set out i) (fun (out : ZI) (i : Int) => [(1, .d false (.sl (.ints set))), (2, .ptr 2 0), (5, .own 1000000 out.length), (10, .d true (.int .i64 (E.length : Int))), (11, .d true (.int .i64 i))]) (fun (out : ZI) (i : Int) => [(1000000, .arr true 3 (.ints out)), (2, .box 39 [.d false (.sl (.ints U)), .d false (.sl (.rows E))])])) (fun g => J03 U E set g.1 g.2) (fun _ => .none))) (.none)))
def J2c (U : ZI) (E : ZR) (set : ZI) : Prop :=
  ((∃ out' : ZI, ∃ i' : Int, (J00 U E set out' i') ∧ (set = set) ∧ ((0 : Nat) = out'.length) ∧ ((E.length : Int) = (E.length : Int)) ∧ ((0 : Int) = i') ∧ ([] = out') ∧ (U = U) ∧ (E = E)) ∧ (∀ out : ZI, ∀ i : Int, (J00 U E set out i) → (((decide (i < (E.length : Int))) = true → (PC Try.prog 240 [.agg [.sl (.ints U), .sl (.rows E)], .int .i64 i, .sl (.ints set)] (.one (.d (.int .i64 (J5 (E.getD i.toNat []) set set.length))))) ∧ (out.length = out.length) ∧ ((1 : Nat) = 1) ∧ ((out.length + 1) * 8 ≤ 140737488355328) ∧ (I6 (i + 1)) ∧ (∃ out' : ZI, ∃ i' : Int, (J00 U E set out' i') ∧ (J03 U E set out' i' < J03 U E set out i) ∧ (set = set) ∧ ((out.length + 1) = out'.length) ∧ ((E.length : Int) = (E.length : Int)) ∧ ((i + 1) = i') ∧ ((out ++ [(J5 (E.getD i.toNat []) set set.length)]) = out') ∧ (U = U) ∧ (E = E))) ∧ ((decide (i < (E.length : Int))) = false → ((out.length = out.length) ∧ ((out : ZI) = J3 E set E.length))))))
theorem J3G (U : ZI) (E : ZR) (set : ZI) (ht : (J0 U E && J1 set 0 ((U.length : Int) - 1) && decide (0 < set.length)) = true) (w_Open : (U.length : Int) ≤ 9223372036854775807) (w_Dist : (E.length : Int) ≤ 9223372036854775807) (v_Dist : ∀ x9 ∈ E, (x9.length : Int) ≤ 9223372036854775807) (w_set : (set.length : Int) ≤ 9223372036854775807) : J2c U E set := by
  unfold J2c
  obtain ⟨hg, hs, hp⟩ := J7 ht
  obtain ⟨g1, g2, g3⟩ := J9 hg
  have cs := fun k => JD hs k
  have si := fun (i : Nat) (hi : i < E.length) => J0t (row := E.getD i []) (set := set) (n := (U.length : Int)) (fun k hk => by have := cs k hk; omega) hp set.length (Nat.le_refl _)
  refine ⟨?_, ?_⟩
  ·refine ⟨([]), 0, ?_⟩
   refine ⟨?_, rfl, rfl, rfl, rfl, ?_, rfl, rfl⟩
   ·refine ⟨?_, ?_, ?_⟩
    ·omega
    ·omega
    ·rfl
   rfl
  intro out i hJ
  obtain ⟨h1, h2, h3⟩ := hJ
  refine ⟨?_, ?_⟩
  ·intro b1
   try simp only [nrmT] at b1
   refine ⟨?_, rfl, rfl, ?_, ?_, ?_⟩
   ·refine J3A U E i set ?_ ?_
    ·omega
    ·omega
   ·rw [h3, JE]; omega
   ·omega
   refine ⟨(out ++ [(J5 (E.getD i.toNat []) set set.length)]), (i + 1), ?_⟩
   refine ⟨?_, ?_, rfl, ?_, rfl, rfl, rfl, rfl, rfl⟩
   ·refine ⟨?_, ?_, ?_⟩
    ·omega
    ·omega
    ·rw [h3, show (i + 1).toNat = i.toNat + 1 by omega, J7u]
   ·(simp only [J03]; omega)
   (simp_all; done)
  intro b2
  try simp only [nrmT] at b2
  refine ⟨rfl, ?_⟩
  ·rw [h3, show i.toNat = E.length by omega]
theorem J1T (U : ZI) (E : ZR) (set : ZI) (ht : (J0 U E && J1 set 0 ((U.length : Int) - 1) && decide (0 < set.length)) = true) : PC Try.prog 215 [.agg [.sl (.ints U), .sl (.rows E)], .sl (.ints set)] (.one (.own 3 (.ints (J3 E set E.length)))) :=
  pc_wf @Try.call215 fun hw => pc_by (by kernel_rfl) Try.func215 @Try.call215 (by kernel_rfl) J3T (J3X U E set) (by kernel_rfl) (J3G U E set ht hw.1.1 hw.1.2.1.1 hw.1.2.1.2 hw.2.1) (by kernel_rfl)
def J1G : List D → Orc := orcN [none, some .ints] fun ds => match ds with
  | [.agg [.sl (.ints U), .sl (.rows E)], .sl (.ints set)] => some (.one (.own 3 (.ints (J3 E set E.length))))
  | _ => none
abbrev JT (U : ZI) (E : ZR) (set : ZI) (out : ZI) (i : Int) : Prop := (0 ≤ i) ∧ (i ≤ (E.length : Int)) ∧ (out = JC E set i.toNat)
abbrev JU (U : ZI) (E : ZR) (set : ZI) (out : ZI) (i : Int) : Nat := (E.length - i).toNat
def J3x (f : FuncId) (ds : List D) : Orc := bif Nat.beq f 215 then J1G ds else .no
def J3s (U : ZI) (E : ZR) (set : ZI) : Ann := .two (.none) (.two (.none) (.two (.two (.none) (.loop (cut2 (fun (out : ZI) (i : Int) => JT U E set out i) (fun (out : ZI) (i : Int) => [(2, .ptr 2 0), (5, .own 1000000 out.length), (11, .own 11 ((J3 E set E.length).length)), (12, .d true (.int .i64 (((J3 E set E.length).length) : Int))), (13, .d true (.int .i64 i))]) (fun (out : ZI) (i : Int) => [(1000000, .arr true 3 (.ints out)), (2, .box 39 [.d false (.sl (.ints U)), .d false (.sl (.rows E))]), (11, .arr true 3 (.ints (J3 E set E.length)))])) (fun g => JU U E set g.1 g.2) (fun _ => .none))) (.none)))
def J1U (U : ZI) (E : ZR) (set : ZI) : Prop :=
  (PC Try.prog 215 [.agg [.sl (.ints U), .sl (.rows E)], .sl (.ints set)] (.one (.own 3 (.ints (J3 E set E.length))))) ∧ ((∃ out' : ZI, ∃ i' : Int, (JT U E set out' i') ∧ ((0 : Nat) = out'.length) ∧ ((J3 E set E.length).length = (J3 E set E.length).length) ∧ ((((J3 E set E.length).length) : Int) = (((J3 E set E.length).length) : Int)) ∧ ((0 : Int) = i') ∧ ([] = out') ∧ (U = U) ∧ (E = E) ∧ (J3 E set E.length = J3 E set E.length)) ∧ (∀ out : ZI, ∀ i : Int, (JT U E set out i) → (((decide (i < (((J3 E set E.length).length) : Int))) = true → ((0 : Int) ≤ i) ∧ ((i : Int) < (((J3 E set E.length).length) : Int)) ∧ (i.toNat < (J3 E set E.length).length) ∧ ((0 : Int) ≤ i) ∧ ((i : Int) < E.length) ∧ (i.toNat < E.length) ∧ ((0 : Int) ≤ ((J3 E set E.length).getD i.toNat 0)) ∧ ((((J3 E set E.length).getD i.toNat 0) : Int) < (E.getD i.toNat []).length) ∧ (((J3 E set E.length).getD i.toNat 0).toNat < (E.getD i.toNat []).length) ∧ (out.length = out.length) ∧ ((1 : Nat) = 1) ∧ ((out.length + 1) * 8 ≤ 140737488355328) ∧ (I6 (i + 1)) ∧ (∃ out' : ZI, ∃ i' : Int, (JT U E set out' i') ∧ (JU U E set out' i' < JU U E set out i) ∧ ((out.length + 1) = out'.length) ∧ ((J3 E set E.length).length = (J3 E set E.length).length) ∧ ((((J3 E set E.length).length) : Int) = (((J3 E set E.length).length) : Int)) ∧ ((i + 1) = i') ∧ ((out ++ [((E.getD i.toNat []).getD (((J3 E set E.length).getD i.toNat 0).toNat) 0)]) = out') ∧ (U = U) ∧ (E = E) ∧ (J3 E set E.length = J3 E set E.length))) ∧ ((decide (i < (((J3 E set E.length).length) : Int))) = false → ((out.length = out.length) ∧ ((out : ZI) = JC E set E.length))))))
theorem J3e (U : ZI) (E : ZR) (set : ZI) (ht : (J0 U E && J1 set 0 ((U.length : Int) - 1) && decide (0 < set.length)) = true) (w_Open : (U.length : Int) ≤ 9223372036854775807) (w_Dist : (E.length : Int) ≤ 9223372036854775807) (v_Dist : ∀ x9 ∈ E, (x9.length : Int) ≤ 9223372036854775807) (w_set : (set.length : Int) ≤ 9223372036854775807) : J1U U E set := by
  unfold J1U
  obtain ⟨hg, hs, hp⟩ := J7 ht
  obtain ⟨g1, g2, g3⟩ := J9 hg
  have cs := fun k => JD hs k
  have si := fun (i : Nat) (hi : i < E.length) => J0t (row := E.getD i []) (set := set) (n := (U.length : Int)) (fun k hk => by have := cs k hk; omega) hp set.length (Nat.le_refl _)
  have e0 := JE E set E.length
  refine ⟨?_, ?_, ?_⟩
  ·refine J1T U E set ?_
   ·omega
  ·refine ⟨([]), 0, ?_⟩
   refine ⟨?_, rfl, rfl, rfl, rfl, ?_, rfl, rfl, rfl⟩
   ·refine ⟨?_, ?_, ?_⟩
    ·omega
    ·omega
    ·rfl
   rfl
  intro out i hJ
  obtain ⟨h1, h2, h3⟩ := hJ
  refine ⟨?_, ?_⟩
  ·intro b1
   try simp only [nrmT] at b1
   refine ⟨?_, ?_, ?_, ?_, ?_, ?_, ?_, ?_, ?_, rfl, rfl, ?_, ?_, ?_⟩
   ·omega
   ·omega
   ·omega
   ·omega
   ·omega
   ·omega
   ·rw [Jt _ _ _ _ (by omega)]; obtain ⟨rl, rb⟩ := J27 (i := i.toNat) hg (by omega); have := si i.toNat (by omega); omega
   ·rw [Jt _ _ _ _ (by omega)]; obtain ⟨rl, rb⟩ := J27 (i := i.toNat) hg (by omega); have := si i.toNat (by omega); omega
   ·rw [Jt _ _ _ _ (by omega)]; obtain ⟨rl, rb⟩ := J27 (i := i.toNat) hg (by omega); have := si i.toNat (by omega); omega
   ·rw [h3, J2s]; omega
   ·omega
   refine ⟨(out ++ [((E.getD i.toNat []).getD (((J3 E set E.length).getD i.toNat 0).toNat) 0)]), (i + 1), ?_⟩
   refine ⟨?_, ?_, ?_, rfl, rfl, rfl, rfl, rfl, rfl, rfl⟩
   ·refine ⟨?_, ?_, ?_⟩
    ·omega
    ·omega
    ·rw [h3, show (i + 1).toNat = i.toNat + 1 by omega, J7i, Jt _ _ _ _ (by omega)]; rfl
   ·(simp only [JU]; omega)
   (simp_all; done)
  intro b2
  try simp only [nrmT] at b2
  refine ⟨rfl, ?_⟩
  ·rw [h3, show i.toNat = E.length by omega]
theorem J3k (U : ZI) (E : ZR) (set : ZI) (ht : (J0 U E && J1 set 0 ((U.length : Int) - 1) && decide (0 < set.length)) = true) : PC Try.prog 210 [.agg [.sl (.ints U), .sl (.rows E)], .sl (.ints set)] (.one (.own 3 (.ints (JC E set E.length)))) :=
  pc_wf @Try.call210 fun hw => pc_by (by kernel_rfl) Try.func210 @Try.call210 (by kernel_rfl) J3x (J3s U E set) (by kernel_rfl) (J3e U E set ht hw.1.1 hw.1.2.1.1 hw.1.2.1.2 hw.2.1) (by kernel_rfl)
def J2W : List D → Orc := orcN [none, some .ints] fun ds => match ds with
  | [.agg [.sl (.ints U), .sl (.rows E)], .sl (.ints set)] => some (.one (.own 3 (.ints (JC E set E.length))))
  | _ => none
theorem JJ {row set : ZI} (hp : 0 < set.length) : ∀ k, k ≤ set.length → J5 row set k ∈ set
  | 0, _ => getD_mem hp
  | k + 1, hk => by
    rw [J0f]
    unfold J1B
    split
    · exact getD_mem (by omega)
    exact JJ hp k (by omega)
theorem J31 {xs : ZI} {lo hi : Int} (h : J1 xs lo hi = true) {i : Nat} : ∀ {j : Nat}, i < j → j < xs.length → xs.getD i 0 < xs.getD j 0
  | 0, hi, _ => by omega
  | j + 1, hi, hj => by
    have h1 := allTo_iff.1 h (j + 1) hj
    simp only [J0C, Bool.and_eq_true, Bool.or_eq_true, decide_eq_true_eq, Nat.add_sub_cancel] at h1
    have h2 := h1.2
    by_cases e : i = j
    · subst e; omega
    have := J31 h (i := i) (j := j) (by omega) (by omega)
    omega
theorem J0r {set : ZI} {s : Int} (h : s ∈ set) : 0 ≤ idxI (fun y => s == y) set ∧ idxI (fun y => s == y) set < set.length ∧ set.getD (idxI (fun y => s == y) set).toNat 0 = s := by
  unfold idxI
  cases hf : set.findIdx? (fun y => s == y) with
  | none =>
    have := List.findIdx?_eq_none_iff.1 hf s h
    simp at this
  | some k =>
    obtain ⟨hk, hp, _⟩ := List.findIdx?_eq_some_iff_getElem.1 hf
    have e : set[k] = s := (by simpa using hp : s = set[k]).symm
    refine ⟨by simp, by simpa using hk, ?_⟩
    simp [hk, e]
def J78 (f : FuncId) (ds : List D) : Orc := .no
def J7g (a : Int) (b : Int) : Ann := .none
def J4n (a : Int) (b : Int) : Prop :=
  (((decide (a > b)) = true → ((a = (max a b)))) ∧ ((decide (a > b)) = false → ((b = (max a b)))))
theorem J6L (a : Int) (b : Int)   : J4n a b := by
  unfold J4n
  refine ⟨?_, ?_⟩
  ·intro b1
   try simp only [nrmT] at b1
   omega
  intro b2
  try simp only [nrmT] at b2
  omega
theorem J6E (a : Int) (b : Int)  : PC Try.prog 152 [.int .i64 a, .int .i64 b] (.one (.d (.int .i64 (max a b)))) :=
  pc_wf @Try.call152 fun _ => pc_by (by kernel_rfl) Try.func152 @Try.call152 (by kernel_rfl) J78 (J7g a b) (by kernel_rfl) (J6L a b) (by kernel_rfl)
def J5X : List D → Orc := orcN [none, none] fun ds => match ds with
  | [.int .i64 a, .int .i64 b] => some (.one (.d (.int .i64 (max a b))))
  | _ => none
def J87 (n : Nat) : ZI := members (fun _ => true) n
theorem J81 {n : Nat} : members (fun k => (2 ^ n - 1).testBit k) n = J87 n :=
  members_congr fun k hk => by simp [Nat.testBit_two_pow_sub_one, hk]
abbrev J0y (n : Int) (code : Int) (out : ZI) (x : Int) : Prop := (0 ≤ x) ∧ (x ≤ n) ∧ (out = members (fun k => code.toNat.testBit k) x.toNat)
abbrev JN (n : Int) (code : Int) (out : ZI) (x : Int) : Nat := (n - x).toNat
def J7w (f : FuncId) (ds : List D) : Orc := .no
def J7z (n : Int) (code : Int) : Ann := .two (.none) (.two (.none) (.two (.two (.none) (.loop (cut2 (fun (out : ZI) (x : Int) => J0y n code out x) (fun (out : ZI) (x : Int) => [(0, .d false (.int .i64 n)), (1, .d false (.int .i64 code)), (5, .own 1000000 out.length), (6, .d true (.int .i64 x))]) (fun (out : ZI) (x : Int) => [(1000000, .arr true 3 (.ints out))])) (fun g => JN n code g.1 g.2) (fun _ => .none))) (.none)))
def J4B (n : Int) (code : Int) : Prop :=
  ((∃ out' : ZI, ∃ x' : Int, (J0y n code out' x') ∧ (n = n) ∧ (code = code) ∧ ((0 : Nat) = out'.length) ∧ ((0 : Int) = x') ∧ ([] = out')) ∧ (∀ out : ZI, ∀ x : Int, (J0y n code out x) → (((decide (x < n)) = true → ((0 : Int) ≤ code ∧ (code : Int) ≤ 9223372036854775807) ∧ ((0 : Int) ≤ x) ∧ ((0 : Int) ≤ (code / 2 ^ x.toNat) ∧ ((code / 2 ^ x.toNat) : Int) ≤ 9223372036854775807) ∧ ((0 : Int) ≤ 1 ∧ (1 : Int) ≤ 9223372036854775807) ∧ ((((((code / 2 ^ x.toNat).toNat &&& 1 : Nat) : Int) == 1) = true → (out.length = out.length) ∧ ((1 : Nat) = 1) ∧ ((out.length + 1) * 8 ≤ 140737488355328) ∧ (I6 (x + 1)) ∧ (∃ out' : ZI, ∃ x' : Int, (J0y n code out' x') ∧ (JN n code out' x' < JN n code out x) ∧ (n = n) ∧ (code = code) ∧ ((out.length + 1) = out'.length) ∧ ((x + 1) = x') ∧ ((out ++ [x]) = out'))) ∧ (((((code / 2 ^ x.toNat).toNat &&& 1 : Nat) : Int) == 1) = false → (I6 (x + 1)) ∧ (∃ out' : ZI, ∃ x' : Int, (J0y n code out' x') ∧ (JN n code out' x' < JN n code out x) ∧ (n = n) ∧ (code = code) ∧ (out.length = out'.length) ∧ ((x + 1) = x') ∧ (out = out'))))) ∧ ((decide (x < n)) = false → ((out.length = out.length) ∧ ((out : ZI) = (members (fun k => code.toNat.testBit k) n.toNat)))))))
theorem J6s (n : Int) (code : Int) (hn : 0 ≤ n ∧ n ≤ 62) (hc : 0 ≤ code ∧ code ≤ 4611686018427387903)  : J4B n code := by
  unfold J4B
  refine ⟨?_, ?_⟩
  ·refine ⟨([]), 0, ?_⟩
   refine ⟨?_, rfl, rfl, rfl, rfl, ?_⟩
   ·refine ⟨?_, ?_, ?_⟩
    ·omega
    ·omega
    ·rfl
   rfl
  intro out x hJ
  obtain ⟨h1, h2, h3⟩ := hJ
  refine ⟨?_, ?_⟩
  ·intro b1
   try simp only [nrmT] at b1
   refine ⟨?_, ?_, ?_, ?_, ?_, ?_⟩
   ·omega
   ·omega
   ·have h5 : 0 ≤ code / 2 ^ x.toNat := Int.ediv_nonneg hc.1 (Int.le_of_lt (Int.pow_pos (by omega)))
    have h6 : code / 2 ^ x.toNat ≤ code := Int.ediv_le_self _ hc.1
    omega
   ·omega
   ·intro b2
    try simp only [nrmT] at b2
    refine ⟨rfl, rfl, ?_, ?_, ?_⟩
    ·rw [h3]; have := members_len_le (fun k => code.toNat.testBit k) x.toNat; omega
    ·omega
    refine ⟨(out ++ [x]), (x + 1), ?_⟩
    refine ⟨?_, ?_, rfl, rfl, ?_, rfl, rfl⟩
    ·refine ⟨?_, ?_, ?_⟩
     ·omega
     ·omega
     ·have hb := shr_bit (n := code.toNat) (k := x.toNat)
      rw [show ((code.toNat : Nat) : Int) = code by omega] at hb
      have ht : code.toNat.testBit x.toNat = true := by
        cases h : code.toNat.testBit x.toNat with
        | true => rfl
        | false => rw [h] at hb; simp at hb; simp at b2; omega
      rw [h3, show (x + 1).toNat = x.toNat + 1 by omega, members_succ, if_pos ht, show ((x.toNat : Nat) : Int) = x by omega]
    ·(simp only [JN]; omega)
    simp
   intro b3
   try simp only [nrmT] at b3
   refine ⟨?_, ?_⟩
   ·omega
   refine ⟨out, (x + 1), ?_⟩
   refine ⟨?_, ?_, rfl, rfl, rfl, rfl, rfl⟩
   ·refine ⟨?_, ?_, ?_⟩
    ·omega
    ·omega
    ·have hb := shr_bit (n := code.toNat) (k := x.toNat)
     rw [show ((code.toNat : Nat) : Int) = code by omega] at hb
     have ht : code.toNat.testBit x.toNat = false := by
       cases h : code.toNat.testBit x.toNat with
       | false => rfl
       | true => rw [h] at hb; simp at hb; simp at b3; omega
     rw [h3, show (x + 1).toNat = x.toNat + 1 by omega, members_succ, ht]; simp
   (simp only [JN]; omega)
  intro b4
  try simp only [nrmT] at b4
  refine ⟨rfl, ?_⟩
  ·rw [h3, show x.toNat = n.toNat by omega]
theorem J6t (n : Int) (code : Int) (hn : 0 ≤ n ∧ n ≤ 62) (hc : 0 ≤ code ∧ code ≤ 4611686018427387903) : PC Try.prog 164 [.int .i64 n, .int .i64 code] (.one (.d (.sl (.ints (members (fun k => code.toNat.testBit k) n.toNat))))) :=
  pc_wf @Try.call164 fun _ => pc_by (by kernel_rfl) Try.func164 @Try.call164 (by kernel_rfl) J7w (J7z n code) (by kernel_rfl) (J6s n code hn hc) (by kernel_rfl)
def J66 : List D → Orc := orcN [none, none] fun ds => match ds with
  | [.int .i64 n, .int .i64 code] => some (.one (.d (.sl (.ints (members (fun k => code.toNat.testBit k) n.toNat)))))
  | _ => none
def J40 (f : FuncId) (ds : List D) : Orc := bif Nat.beq f 119 then J2P ds else bif Nat.beq f 120 then J0c ds else .no
def J42 (U : ZI) (E : ZR) (k : Int) : Ann := .none
def J2d (U : ZI) (E : ZR) (k : Int) : Prop :=
  (PC Try.prog 119 [.agg [.sl (.ints U), .sl (.rows E)]] (.one (.d (.bool (J0 U E))))) ∧ ((J0 U E) = true → (J0 U E) = true) ∧ ((J0 U E) = true → (J0 U E) = true) ∧ ((J0 U E) = true → (J0 U E) = true) ∧ ((J0 U E) = true → (J0 U E) = true) ∧ ((J0 U E) = true → PC Try.prog 120 [.int .i64 k, .int .i64 1, .int .i64 (U.length : Int)] (.one (.d (.bool (inB k 1 (U.length : Int)))))) ∧ (true = true) ∧ (((J0 U E) = true → (J0 U E) = true)) ∧ (((J0 U E) = false → true = true)) ∧ (((cond (J0 U E) (inB k 1 (U.length : Int)) false) = (J0 U E && inB k 1 (U.length : Int))))
theorem J3v (U : ZI) (E : ZR) (k : Int)  (w_Open : (U.length : Int) ≤ 9223372036854775807) (w_Dist : (E.length : Int) ≤ 9223372036854775807) (v_Dist : ∀ x9 ∈ E, (x9.length : Int) ≤ 9223372036854775807) : J2d U E k := by
  unfold J2d
  refine ⟨J3b U E, id, id, id, id, fun _ => J0s k 1 (U.length : Int), rfl, id, fun _ => rfl, ?_⟩
  ·cases J0 U E <;> rfl
theorem J3F (U : ZI) (E : ZR) (k : Int)  : PC Try.prog 141 [.agg [.sl (.ints U), .sl (.rows E)], .int .i64 k] (.one (.d (.bool (J0 U E && inB k 1 (U.length : Int))))) :=
  pc_wf @Try.call141 fun hw => pc_by (by kernel_rfl) Try.func141 @Try.call141 (by kernel_rfl) J40 (J42 U E k) (by kernel_rfl) (J3v U E k hw.1.1 hw.1.2.1.1 hw.1.2.1.2) (by kernel_rfl)
def J3f : List D → Orc := orcN [none, none] fun ds => match ds with
  | [.agg [.sl (.ints U), .sl (.rows E)], .int .i64 k] => some (.one (.d (.bool (J0 U E && inB k 1 (U.length : Int)))))
  | _ => none
def JV (a b : Int) : Int := if a < b then -1 else if a > b then 1 else 0
def Ja : ZI → ZI → Int
  | [], [] => 0
  | [], _ :: _ => -1
  | _ :: _, [] => 1
  | x :: r, y :: s => if x < y then -1 else if x > y then 1 else Ja r s
theorem J2o {xs ys : ZI} {i : Nat} (h : Ja xs ys = Ja (xs.drop i) (ys.drop i)) (h1 : i < xs.length) (h2 : i < ys.length) :
    Ja xs ys = if xs.getD i 0 < ys.getD i 0 then -1 else if xs.getD i 0 > ys.getD i 0 then 1 else Ja (xs.drop (i + 1)) (ys.drop (i + 1)) := by
  rw [h, List.drop_eq_getElem_cons h1, List.drop_eq_getElem_cons h2, J07 h1, J07 h2]
  rfl
theorem J7k {xs ys : ZI} {i : Nat} (h : Ja xs ys = Ja (xs.drop i) (ys.drop i)) (h1 : i < xs.length) (h2 : ys.length ≤ i) : Ja xs ys = 1 := by
  rw [h, List.drop_eq_getElem_cons h1, List.drop_eq_nil_of_le h2]
  rfl
theorem J45 {xs ys : ZI} {i : Nat} (h : Ja xs ys = Ja (xs.drop i) (ys.drop i)) (h1 : xs.length ≤ i) (h2 : i ≤ ys.length) (h3 : i = xs.length) : Ja xs ys = if xs.length < ys.length then -1 else 0 := by
  rw [h, List.drop_eq_nil_of_le h1]
  by_cases e : xs.length < ys.length
  · rw [if_pos e, List.drop_eq_getElem_cons (by omega)]
    rfl
  rw [if_neg e, List.drop_eq_nil_of_le (by omega)]
  rfl
def J3Q (f : FuncId) (ds : List D) : Orc := .no
def J41 (x : Int) : Ann := .none
def J28 (x : Int) : Prop :=
  (((x != x) = false))
theorem J3o (x : Int)   : J28 x := by
  unfold J28
  simp
theorem J0a (x : Int)  : PC Try.prog 231 [.int .i64 x] (.one (.d (.bool false))) :=
  pc_wf @Try.call231 fun _ => pc_by (by kernel_rfl) Try.func231 @Try.call231 (by kernel_rfl) J3Q (J41 x) (by kernel_rfl) (J3o x) (by kernel_rfl)
def J1L : List D → Orc := orcN [none] fun ds => match ds with
  | [.int .i64 x] => some (.one (.d (.bool false)))
  | _ => none
def J30 (f : FuncId) (ds : List D) : Orc := bif Nat.beq f 231 then J1L ds else .no
def J3d (a : Int) (b : Int) : Ann := .two (.none) (.two (.none) (.two (.none) (.two (.two (.none) (.goF (.none))) (.two (.two (.none) (.goF (.none))) (.none)))))
def J1M (a : Int) (b : Int) : Prop :=
  (PC Try.prog 231 [.int .i64 a] (.one (.d (.bool false)))) ∧ (PC Try.prog 231 [.int .i64 b] (.one (.d (.bool false)))) ∧ (false = false) ∧ (false = false) ∧ (((decide (a < b)) = true → ((((-1) : Int) = (JV a b)))) ∧ ((decide (a < b)) = false → (((decide (a > b)) = true → (((1 : Int) = (JV a b)))) ∧ ((decide (a > b)) = false → (((0 : Int) = (JV a b)))))))
theorem J2U (a : Int) (b : Int)   : J1M a b := by
  unfold J1M
  refine ⟨J0a a, J0a b, rfl, rfl, ?_, ?_⟩
  ·intro b1
   try simp only [nrmT] at b1
   unfold JV; first | rw [if_pos (by omega)] | rw [if_neg (by omega), if_pos (by omega)] | rw [if_neg (by omega), if_neg (by omega)]
  intro b2
  try simp only [nrmT] at b2
  refine ⟨?_, ?_⟩
  ·intro b3
   try simp only [nrmT] at b3
   unfold JV; first | rw [if_pos (by omega)] | rw [if_neg (by omega), if_pos (by omega)] | rw [if_neg (by omega), if_neg (by omega)]
  intro b4
  try simp only [nrmT] at b4
  unfold JV; first | rw [if_pos (by omega)] | rw [if_neg (by omega), if_pos (by omega)] | rw [if_neg (by omega), if_neg (by omega)]
theorem J1u (a : Int) (b : Int)  : PC Try.prog 235 [.int .i64 a, .int .i64 b] (.one (.d (.int .i64 (JV a b)))) :=
  pc_wf @Try.call235 fun _ => pc_by (by kernel_rfl) Try.func235 @Try.call235 (by kernel_rfl) J30 (J3d a b) (by kernel_rfl) (J2U a b) (by kernel_rfl)
def J1b : List D → Orc := orcN [none, none] fun ds => match ds with
  | [.int .i64 a, .int .i64 b] => some (.one (.d (.int .i64 (JV a b))))
  | _ => none
abbrev Jr (xs : ZI) (ys : ZI) (i : Int) : Prop := (0 ≤ i) ∧ (i ≤ (xs.length : Int)) ∧ (i ≤ (ys.length : Int)) ∧ (Ja xs ys = Ja (xs.drop i.toNat) (ys.drop i.toNat))
abbrev Jq (xs : ZI) (ys : ZI) (i : Int) : Nat := (xs.length - i).toNat
def J1Y (f : FuncId) (ds : List D) : Orc := bif Nat.beq f 235 then J1b ds else .no
def J20 (xs : ZI) (ys : ZI) : Ann := .two (.none) (.two (.two (.none) (.loop (cut1 (fun (i : Int) => Jr xs ys i) (fun (i : Int) => [(0, .d false (.sl (.ints xs))), (1, .d false (.sl (.ints ys))), (9, .d false (.sl (.ints xs))), (10, .d true (.int .i64 (xs.length : Int))), (11, .d true (.int .i64 i))]) (fun (i : Int) => [])) (fun g => Jq xs ys g) (fun _ => .none))) (.none))
def J0i (xs : ZI) (ys : ZI) : Prop :=
  ((∃ i' : Int, (Jr xs ys i') ∧ (xs = xs) ∧ (ys = ys) ∧ (xs = xs) ∧ ((xs.length : Int) = (xs.length : Int)) ∧ ((0 : Int) = i')) ∧ (∀ i : Int, (Jr xs ys i) → (((decide (i < (xs.length : Int))) = true → ((0 : Int) ≤ i) ∧ ((i : Int) < xs.length) ∧ (i.toNat < xs.length) ∧ (((decide (i ≥ (ys.length : Int))) = true → (((1 : Int) = (Ja xs ys)))) ∧ ((decide (i ≥ (ys.length : Int))) = false → ((0 : Int) ≤ i) ∧ ((i : Int) < ys.length) ∧ (i.toNat < ys.length) ∧ (PC Try.prog 235 [.int .i64 (xs.getD i.toNat 0), .int .i64 (ys.getD i.toNat 0)] (.one (.d (.int .i64 (JV (xs.getD i.toNat 0) (ys.getD i.toNat 0)))))) ∧ ((((JV (xs.getD i.toNat 0) (ys.getD i.toNat 0)) != 0) = true → (((JV (xs.getD i.toNat 0) (ys.getD i.toNat 0)) = (Ja xs ys)))) ∧ (((JV (xs.getD i.toNat 0) (ys.getD i.toNat 0)) != 0) = false → (I6 (i + 1)) ∧ (∃ i' : Int, (Jr xs ys i') ∧ (Jq xs ys i' < Jq xs ys i) ∧ (xs = xs) ∧ (ys = ys) ∧ (xs = xs) ∧ ((xs.length : Int) = (xs.length : Int)) ∧ ((i + 1) = i'))))))) ∧ ((decide (i < (xs.length : Int))) = false → (((decide ((xs.length : Int) < (ys.length : Int))) = true → ((((-1) : Int) = (Ja xs ys)))) ∧ ((decide ((xs.length : Int) < (ys.length : Int))) = false → (((0 : Int) = (Ja xs ys)))))))))
theorem J1Q (xs : ZI) (ys : ZI)  (w_xs : (xs.length : Int) ≤ 9223372036854775807) (w_ys : (ys.length : Int) ≤ 9223372036854775807) : J0i xs ys := by
  unfold J0i
  refine ⟨?_, ?_⟩
  ·refine ⟨0, ?_⟩
   refine ⟨?_, rfl, rfl, rfl, rfl, rfl⟩
   ·refine ⟨?_, ?_, ?_, ?_⟩
    ·omega
    ·omega
    ·omega
    ·rfl
  intro i hJ
  obtain ⟨h1, h2, h2y, h3⟩ := hJ
  refine ⟨?_, ?_⟩
  ·intro b1
   try simp only [nrmT] at b1
   refine ⟨?_, ?_, ?_, ?_, ?_⟩
   ·omega
   ·omega
   ·omega
   ·intro b2
    try simp only [nrmT] at b2
    exact (J7k h3 (by omega) (by omega)).symm
   intro b3
   try simp only [nrmT] at b3
   refine ⟨?_, ?_, ?_, J1u (xs.getD i.toNat 0) (ys.getD i.toNat 0), ?_, ?_⟩
   ·omega
   ·omega
   ·omega
   ·intro b4
    try simp only [nrmT] at b4
    rw [J2o h3 (by omega) (by omega)]
    unfold JV at b4 ⊢
    by_cases h5 : xs.getD i.toNat 0 < ys.getD i.toNat 0
    · rw [if_pos h5, if_pos h5]
    rw [if_neg h5] at b4 ⊢
    by_cases h6 : xs.getD i.toNat 0 > ys.getD i.toNat 0
    · rw [if_pos h6, if_neg h5, if_pos h6]
    rw [if_neg h6] at b4; omega
   intro b5
   try simp only [nrmT] at b5
   refine ⟨?_, ?_⟩
   ·omega
   refine ⟨(i + 1), ?_⟩
   refine ⟨?_, ?_, rfl, rfl, rfl, rfl, rfl⟩
   ·refine ⟨?_, ?_, ?_, ?_⟩
    ·omega
    ·omega
    ·omega
    ·have h7 := J2o h3 (by omega) (by omega)
     unfold JV at b5
     rw [h7, show (i + 1).toNat = i.toNat + 1 by omega]
     by_cases h5 : xs.getD i.toNat 0 < ys.getD i.toNat 0
     · rw [if_pos h5] at b5; omega
     rw [if_neg h5] at b5 ⊢
     by_cases h6 : xs.getD i.toNat 0 > ys.getD i.toNat 0
     · rw [if_pos h6] at b5; omega
     rw [if_neg h6]
   (simp only [Jq]; omega)
  intro b6
  try simp only [nrmT] at b6
  refine ⟨?_, ?_⟩
  ·intro b7
   try simp only [nrmT] at b7
   rw [J45 h3 (by omega) (by omega) (by omega), if_pos (by omega)]
  intro b8
  try simp only [nrmT] at b8
  rw [J45 h3 (by omega) (by omega) (by omega), if_neg (by omega)]
theorem J1O (xs : ZI) (ys : ZI)  : PC Try.prog 236 [.sl (.ints xs), .sl (.ints ys)] (.one (.d (.int .i64 (Ja xs ys)))) :=
  pc_wf @Try.call236 fun hw => pc_by (by kernel_rfl) Try.func236 @Try.call236 (by kernel_rfl) J1Y (J20 xs ys) (by kernel_rfl) (J1Q xs ys hw.1 hw.2.1) (by kernel_rfl)
def J1I : List D → Orc := orcN [some .ints, some .ints] fun ds => match ds with
  | [.sl (.ints xs), .sl (.ints ys)] => some (.one (.d (.int .i64 (Ja xs ys))))
  | _ => none
def lst (n code : Nat) : ZI := members (fun k => code.testBit k) n
theorem J8D {n code : Nat} : ∀ x ∈ lst n code, 0 ≤ x ∧ x < (n : Int) := fun x hx => by
  have := mem_members.1 hx
  omega
theorem J8t {n code : Nat} : (lst n code).length ≤ n := members_len_le _ _
theorem J6X (n : Nat) : (1 : Int) * 2 ^ ((n : Int)).toNat = ((2 ^ n : Nat) : Int) := by
  rw [Int.toNat_natCast]; simp
theorem J8c (n : Nat) : (J87 n).length = n := by
  unfold J87 members
  have e : (List.range n).filter (fun _ => true) = List.range n := List.filter_eq_self.2 fun _ _ => rfl
  rw [e]; simp
def J16 (xs : ZI) : Bool := allTo (fun k => decide (xs.getD k 0 ≤ xs.getD (k + 1) 0)) (xs.length - 1)
theorem J8x {xs : ZI} {i : Int} (h1 : 0 < i) (h2 : i < (xs.length : Int)) (h : xs.getD i.toNat 0 < xs.getD (i - 1).toNat 0) : J16 xs = false := by
  unfold J16
  refine allTo_false (k := (i - 1).toNat) (by omega) ?_
  rw [show (i - 1).toNat + 1 = i.toNat by omega]
  exact decide_eq_false (by omega)
theorem J86 {xs : ZI} {i : Int} (h1 : i ≤ 0) (h : ∀ k : Nat, i ≤ (k : Int) → k + 1 < xs.length → xs.getD k 0 ≤ xs.getD (k + 1) 0) : J16 xs = true :=
  allTo_iff.2 fun k hk => decide_eq_true (h k (by omega) (by omega))
def J1f (c : ZI) (k : Nat) : Bool := inB (c.getD k 0) 0 99 && (decide (k = 0) || !(decide (c.getD (k - 1) 0 > c.getD k 0)))
def J4 (sites clients : ZI) : Bool := allTo (J1f clients) clients.length && (inB (sites.length : Int) 1 7 && J1 sites 0 99 && decide (clients.length ≤ 7))
theorem J7V {c : ZI} : allTo (J1f c) c.length = (c.all (fun x => inB x 0 99) && J16 c) := by
  rw [Bool.eq_iff_iff, allTo_iff, Bool.and_eq_true, ← allTo_list (d := 0), allTo_iff, J16, allTo_iff]
  constructor
  · intro h
    refine ⟨fun k hk => ?_, fun k hk => ?_⟩
    · have := h k hk
      rw [J1f, Bool.and_eq_true] at this
      exact this.1
    have := h (k + 1) (by omega)
    rw [J1f, Bool.and_eq_true, decide_eq_false (by omega), Bool.false_or, Nat.add_sub_cancel, Bool.not_eq_true', decide_eq_false_iff_not] at this
    exact decide_eq_true (by omega)
  rintro ⟨h1, h2⟩ k hk
  rw [J1f, h1 k hk, Bool.true_and]
  by_cases e : k = 0
  · rw [decide_eq_true e]; rfl
  have h3 := h2 (k - 1) (by omega)
  rw [show k - 1 + 1 = k by omega, decide_eq_true_eq] at h3
  rw [decide_eq_false e, decide_eq_false (by omega)]; rfl
theorem J4b {c : ZI} {i : Int} (h : 0 ≤ i) {b : Bool} (hb : (!(inB (c.getD i.toNat 0) 0 99) || (decide (i > 0) && decide (c.getD (i - 1).toNat 0 > c.getD i.toNat 0))) = b) : J1f c i.toNat = !b := by
  rw [← hb, J1f]
  by_cases e : i = 0
  · subst e
    cases inB (c.getD (0 : Int).toNat 0) 0 99 <;> simp
  rw [decide_eq_false (by omega), decide_eq_true (show i > 0 by omega), show (i - 1).toNat = i.toNat - 1 by omega]
  cases inB (c.getD i.toNat 0) 0 99 <;> simp
def J25 (sites : ZI) (c : Int) : ZI := tabTo (fun a => max (c - sites.getD a 0) (sites.getD a 0 - c)) sites.length
def JG (sites clients : ZI) : ZR := tabTo (fun j => J25 sites (clients.getD j 0)) clients.length
theorem J6C (sites : ZI) (c : Int) : (J25 sites c).length = sites.length := tabTo_len _ _
theorem J5f (sites clients : ZI) : (JG sites clients).length = clients.length := tabTo_len _ _
theorem JA {sites clients : ZI} (h : J4 sites clients = true) : 1 ≤ sites.length ∧ sites.length ≤ 7 ∧ clients.length ≤ 7 ∧ J1 sites 0 99 = true ∧ ∀ k, k < clients.length → 0 ≤ clients.getD k 0 ∧ clients.getD k 0 ≤ 99 := by
  rw [J4, Bool.and_eq_true, Bool.and_eq_true, Bool.and_eq_true, decide_eq_true_eq] at h
  obtain ⟨h1, ⟨h2, h3⟩, h4⟩ := h
  have h5 := J2e h2
  refine ⟨by omega, by omega, h4, h3, fun k hk => ?_⟩
  have h6 := allTo_iff.1 h1 k hk
  rw [J1f, Bool.and_eq_true] at h6
  have := J2e h6.1
  omega
def lfO (sites clients : ZI) : ZI := if J4 sites clients = true then List.replicate sites.length 0 else []
def lfD (sites clients : ZI) : ZR := if J4 sites clients = true then JG sites clients else []
theorem J26 {sites clients : ZI} (h : J4 sites clients = true) : lfO sites clients = List.replicate sites.length 0 := by rw [lfO, if_pos h]
theorem J2B {sites clients : ZI} (h : J4 sites clients = true) : lfD sites clients = JG sites clients := by rw [lfD, if_pos h]
theorem J5T {sites clients : ZI} (h : J4 sites clients = false) : lfO sites clients = [] := by rw [lfO, h]; rfl
theorem J6n {sites clients : ZI} (h : J4 sites clients = false) : lfD sites clients = [] := by rw [lfD, h]; rfl
def J4u (f : FuncId) (ds : List D) : Orc := bif Nat.beq f 231 then J1L ds else .no
def J4s (a : Int) (b : Int) : Ann := .none
def J2p (a : Int) (b : Int) : Prop :=
  (PC Try.prog 231 [.int .i64 a] (.one (.d (.bool false)))) ∧ (false = true → false = true) ∧ (false = true → PC Try.prog 231 [.int .i64 b] (.one (.d (.bool false)))) ∧ (false = true → false = true) ∧ (true = true) ∧ ((false = true → false = true)) ∧ ((false = false → true = true)) ∧ ((!(cond false true false)) = true → (!(cond false true false)) = true) ∧ ((!(cond false true false)) = true → (!(cond false true false)) = true) ∧ (true = true) ∧ (((cond false true false) = true → true = true)) ∧ (((cond false true false) = false → (!(cond false true false)) = true)) ∧ (((cond (cond false true false) true (decide (a < b))) = (decide (a < b))))
theorem J3U (a : Int) (b : Int)   : J2p a b := by
  unfold J2p
  refine ⟨J0a a, id, fun _ => J0a b, id, rfl, id, fun _ => rfl, id, id, rfl, fun _ => rfl, ?_, ?_⟩
  ·simp
  simp
theorem J3W (a : Int) (b : Int)  : PC Try.prog 206 [.int .i64 a, .int .i64 b] (.one (.d (.bool (decide (a < b))))) :=
  pc_wf @Try.call206 fun _ => pc_by (by kernel_rfl) Try.func206 @Try.call206 (by kernel_rfl) J4u (J4s a b) (by kernel_rfl) (J3U a b) (by kernel_rfl)
def J3t : List D → Orc := orcN [none, none] fun ds => match ds with
  | [.int .i64 a, .int .i64 b] => some (.one (.d (.bool (decide (a < b)))))
  | _ => none
abbrev Jp (xs : ZI) (i : Int) : Prop := (-1 ≤ i) ∧ (i < (xs.length : Int)) ∧ (∀ k : Nat, i ≤ (k : Int) → k + 1 < xs.length → xs.getD k 0 ≤ xs.getD (k + 1) 0)
abbrev Jf (xs : ZI) (i : Int) : Nat := (i + 1).toNat
def J1R (f : FuncId) (ds : List D) : Orc := bif Nat.beq f 206 then J3t ds else .no
def J1P (xs : ZI) : Ann := .two (.none) (.two (.two (.none) (.loop (cut1 (fun (i : Int) => Jp xs i) (fun (i : Int) => [(0, .d false (.sl (.ints xs))), (3, .d true (.int .i64 i))]) (fun (i : Int) => [])) (fun g => Jf xs g) (fun _ => .none))) (.none))
def J0e (xs : ZI) : Prop :=
  (I6 ((xs.length : Int) - 1)) ∧ ((∃ i' : Int, (Jp xs i') ∧ (xs = xs) ∧ (((xs.length : Int) - 1) = i')) ∧ (∀ i : Int, (Jp xs i) → (((decide (i > 0)) = true → (true = true) ∧ ((0 : Int) ≤ i) ∧ ((i : Int) < xs.length) ∧ (i.toNat < xs.length) ∧ (I6 (i - 1)) ∧ ((0 : Int) ≤ (i - 1)) ∧ (((i - 1) : Int) < xs.length) ∧ ((i - 1).toNat < xs.length) ∧ (PC Try.prog 206 [.int .i64 (xs.getD i.toNat 0), .int .i64 (xs.getD ((i - 1).toNat) 0)] (.one (.d (.bool (decide ((xs.getD i.toNat 0) < (xs.getD ((i - 1).toNat) 0))))))) ∧ (((decide ((xs.getD i.toNat 0) < (xs.getD ((i - 1).toNat) 0))) = true → ((false = (J16 xs)))) ∧ ((decide ((xs.getD i.toNat 0) < (xs.getD ((i - 1).toNat) 0))) = false → (I6 (i - 1)) ∧ (∃ i' : Int, (Jp xs i') ∧ (Jf xs i' < Jf xs i) ∧ (xs = xs) ∧ ((i - 1) = i'))))) ∧ ((decide (i > 0)) = false → ((true = (J16 xs)))))))
theorem J1N (xs : ZI)  (w_xs : (xs.length : Int) ≤ 9223372036854775807) : J0e xs := by
  unfold J0e
  refine ⟨?_, ?_, ?_⟩
  ·first | omega | rfl | (intro hg; simp only [nrmT] at hg; omega) | (intro g1 g2; simp [g1, g2]; done) | (intro g1; simp at g1 ⊢; simp [g1]; done) | (simp only [nrmT] at *; omega) | (simp at * <;> omega) | (simp_all <;> omega) | (simp_all; done)
  ·refine ⟨((xs.length : Int) - 1), ?_⟩
   refine ⟨?_, rfl, rfl⟩
   ·refine ⟨?_, ?_, ?_⟩
    ·first | omega | rfl | (intro hg; simp only [nrmT] at hg; omega) | (intro g1 g2; simp [g1, g2]; done) | (intro g1; simp at g1 ⊢; simp [g1]; done) | (simp only [nrmT] at *; omega) | (simp at * <;> omega) | (simp_all <;> omega) | (simp_all; done)
    ·first | omega | rfl | (intro hg; simp only [nrmT] at hg; omega) | (intro g1 g2; simp [g1, g2]; done) | (intro g1; simp at g1 ⊢; simp [g1]; done) | (simp only [nrmT] at *; omega) | (simp at * <;> omega) | (simp_all <;> omega) | (simp_all; done)
    ·intro k h4 h5; omega
  intro i hJ
  obtain ⟨h1, h2, h3⟩ := hJ
  refine ⟨?_, ?_⟩
  ·intro b1
   try simp only [nrmT] at b1
   refine ⟨rfl, ?_, ?_, ?_, ?_, ?_, ?_, ?_, J3W (xs.getD i.toNat 0) (xs.getD ((i - 1).toNat) 0), ?_, ?_⟩
   ·first | omega | rfl | (intro hg; simp only [nrmT] at hg; omega) | (intro g1 g2; simp [g1, g2]; done) | (intro g1; simp at g1 ⊢; simp [g1]; done) | (simp only [nrmT] at *; omega) | (simp at * <;> omega) | (simp_all <;> omega) | (simp_all; done)
   ·first | omega | rfl | (intro hg; simp only [nrmT] at hg; omega) | (intro g1 g2; simp [g1, g2]; done) | (intro g1; simp at g1 ⊢; simp [g1]; done) | (simp only [nrmT] at *; omega) | (simp at * <;> omega) | (simp_all <;> omega) | (simp_all; done)
   ·first | omega | rfl | (intro hg; simp only [nrmT] at hg; omega) | (intro g1 g2; simp [g1, g2]; done) | (intro g1; simp at g1 ⊢; simp [g1]; done) | (simp only [nrmT] at *; omega) | (simp at * <;> omega) | (simp_all <;> omega) | (simp_all; done)
   ·first | omega | rfl | (intro hg; simp only [nrmT] at hg; omega) | (intro g1 g2; simp [g1, g2]; done) | (intro g1; simp at g1 ⊢; simp [g1]; done) | (simp only [nrmT] at *; omega) | (simp at * <;> omega) | (simp_all <;> omega) | (simp_all; done)
   ·first | omega | rfl | (intro hg; simp only [nrmT] at hg; omega) | (intro g1 g2; simp [g1, g2]; done) | (intro g1; simp at g1 ⊢; simp [g1]; done) | (simp only [nrmT] at *; omega) | (simp at * <;> omega) | (simp_all <;> omega) | (simp_all; done)
   ·first | omega | rfl | (intro hg; simp only [nrmT] at hg; omega) | (intro g1 g2; simp [g1, g2]; done) | (intro g1; simp at g1 ⊢; simp [g1]; done) | (simp only [nrmT] at *; omega) | (simp at * <;> omega) | (simp_all <;> omega) | (simp_all; done)
   ·first | omega | rfl | (intro hg; simp only [nrmT] at hg; omega) | (intro g1 g2; simp [g1, g2]; done) | (intro g1; simp at g1 ⊢; simp [g1]; done) | (simp only [nrmT] at *; omega) | (simp at * <;> omega) | (simp_all <;> omega) | (simp_all; done)
   ·intro b2
    try simp only [nrmT] at b2
    exact (J8x (by omega) h2 b2).symm
   intro b3
   try simp only [nrmT] at b3
   refine ⟨?_, ?_⟩
   ·first | omega | rfl | (intro hg; simp only [nrmT] at hg; omega) | (intro g1 g2; simp [g1, g2]; done) | (intro g1; simp at g1 ⊢; simp [g1]; done) | (simp only [nrmT] at *; omega) | (simp at * <;> omega) | (simp_all <;> omega) | (simp_all; done)
   refine ⟨(i - 1), ?_⟩
   refine ⟨?_, ?_, rfl, rfl⟩
   ·refine ⟨?_, ?_, ?_⟩
    ·first | omega | rfl | (intro hg; simp only [nrmT] at hg; omega) | (intro g1 g2; simp [g1, g2]; done) | (intro g1; simp at g1 ⊢; simp [g1]; done) | (simp only [nrmT] at *; omega) | (simp at * <;> omega) | (simp_all <;> omega) | (simp_all; done)
    ·first | omega | rfl | (intro hg; simp only [nrmT] at hg; omega) | (intro g1 g2; simp [g1, g2]; done) | (intro g1; simp at g1 ⊢; simp [g1]; done) | (simp only [nrmT] at *; omega) | (simp at * <;> omega) | (simp_all <;> omega) | (simp_all; done)
    ·intro k h4 h5
     by_cases e : i ≤ (k : Int)
     · exact h3 k e h5
     have e1 : k = (i - 1).toNat := by omega
     have e2 : k + 1 = i.toNat := by omega
     rw [e2, e1]
     omega
   first | (show _ < _; omega) | (simp only [Jf]; omega) | (simp only [Jf] at *; simp at *; omega)
  intro b4
  try simp only [nrmT] at b4
  exact (J86 (by omega) h3).symm
theorem J1K (xs : ZI)  : PC Try.prog 132 [.sl (.ints xs)] (.one (.d (.bool (J16 xs)))) :=
  pc_wf @Try.call132 fun hw => pc_by (by kernel_rfl) Try.func132 @Try.call132 (by kernel_rfl) J1R (J1P xs) (by kernel_rfl) (J1N xs hw.1) (by kernel_rfl)
def J1v : List D → Orc := orcN [some .ints] fun ds => match ds with
  | [.sl (.ints xs)] => some (.one (.d (.bool (J16 xs))))
  | _ => none
theorem Js {sites clients : ZI} : J4 sites clients = !(cond (cond (cond (cond (!(inB (sites.length : Int) 1 7)) true (!(J1 sites 0 (100 - 1)))) true (decide ((clients.length : Int) > 7))) true (!(clients.all (fun x => inB x 0 99)))) true (!(J16 clients))) := by
  have d : decide ((clients.length : Int) > 7) = !(decide (clients.length ≤ 7)) := by
    by_cases h : clients.length ≤ 7
    · rw [decide_eq_true h, decide_eq_false (by omega)]; rfl
    rw [decide_eq_false h, decide_eq_true (by omega)]; rfl
  unfold J4
  rw [J7V, d, show (100 - 1 : Int) = 99 from rfl]
  cases clients.all (fun x => inB x 0 99) <;> cases J16 clients <;> cases inB (sites.length : Int) 1 7 <;> cases J1 sites 0 99 <;> cases decide (clients.length ≤ 7) <;> rfl
abbrev J1o (sites : ZI) (clients : ZI) (i : Int) : Prop := (0 ≤ i) ∧ (i ≤ (clients.length : Int)) ∧ (allTo (J1f clients) i.toNat = true)
abbrev J0w (sites : ZI) (clients : ZI) (i : Int) : Nat := (clients.length - i).toNat
def J7D (f : FuncId) (ds : List D) : Orc := bif Nat.beq f 116 then J1g ds else bif Nat.beq f 167 then J2C ds else .no
def J7c (sites : ZI) (clients : ZI) : Ann := .two (.none) (.two (.two (.none) (.loop (cut1 (fun (i : Int) => J1o sites clients i) (fun (i : Int) => [(0, .d false (.sl (.ints sites))), (1, .d false (.sl (.ints clients))), (5, .d true (.int .i64 i))]) (fun (i : Int) => [])) (fun g => J0w sites clients g) (fun _ => .none))) (.none))
def J2v (clients : ZI) (i : Int) : Bool := (cond (!(inB (clients.getD i.toNat 0) 0 99)) true (cond (decide (i > 0)) (decide ((clients.getD ((i - 1).toNat) 0) > (clients.getD i.toNat 0))) false))
def J4c (sites : ZI) (clients : ZI) : Prop :=
  ((∃ i' : Int, (J1o sites clients i') ∧ (sites = sites) ∧ (clients = clients) ∧ ((0 : Int) = i')) ∧ (∀ i : Int, (J1o sites clients i) → (((decide (i < (clients.length : Int))) = true → (true = true) ∧ ((0 : Int) ≤ i) ∧ ((i : Int) < clients.length) ∧ (i.toNat < clients.length) ∧ (PC Try.prog 116 [.int .i64 (clients.getD i.toNat 0), .int .i64 0, .int .i64 99] (.one (.d (.bool (inB (clients.getD i.toNat 0) 0 99))))) ∧ ((!(!(inB (clients.getD i.toNat 0) 0 99))) = true → (!(!(inB (clients.getD i.toNat 0) 0 99))) = true) ∧ ((!(!(inB (clients.getD i.toNat 0) 0 99))) = true → (!(!(inB (clients.getD i.toNat 0) 0 99))) = true) ∧ (((!(!(inB (clients.getD i.toNat 0) 0 99))) && (decide (i > 0))) = true → ((!(!(inB (clients.getD i.toNat 0) 0 99))) && (decide (i > 0))) = true) ∧ ((((!(!(inB (clients.getD i.toNat 0) 0 99))) && (decide (i > 0))) = true → I6 (i - 1))) ∧ (((!(!(inB (clients.getD i.toNat 0) 0 99))) && (decide (i > 0))) = true → ((!(!(inB (clients.getD i.toNat 0) 0 99))) && (decide (i > 0))) = true) ∧ (((!(!(inB (clients.getD i.toNat 0) 0 99))) && (decide (i > 0))) = true → ((!(!(inB (clients.getD i.toNat 0) 0 99))) && (decide (i > 0))) = true) ∧ ((((!(!(inB (clients.getD i.toNat 0) 0 99))) && (decide (i > 0))) = true → (0 : Int) ≤ (i - 1))) ∧ ((((!(!(inB (clients.getD i.toNat 0) 0 99))) && (decide (i > 0))) = true → ((i - 1) : Int) < clients.length)) ∧ (((!(!(inB (clients.getD i.toNat 0) 0 99))) && (decide (i > 0))) = true → ((!(!(inB (clients.getD i.toNat 0) 0 99))) && (decide (i > 0))) = true) ∧ ((((!(!(inB (clients.getD i.toNat 0) 0 99))) && (decide (i > 0))) = true → (i - 1).toNat < clients.length)) ∧ (((!(!(inB (clients.getD i.toNat 0) 0 99))) && (decide (i > 0))) = true → ((!(!(inB (clients.getD i.toNat 0) 0 99))) && (decide (i > 0))) = true) ∧ (((!(!(inB (clients.getD i.toNat 0) 0 99))) && (decide (i > 0))) = true → ((!(!(inB (clients.getD i.toNat 0) 0 99))) && (decide (i > 0))) = true) ∧ ((((!(!(inB (clients.getD i.toNat 0) 0 99))) && (decide (i > 0))) = true → (0 : Int) ≤ i)) ∧ ((((!(!(inB (clients.getD i.toNat 0) 0 99))) && (decide (i > 0))) = true → (i : Int) < clients.length)) ∧ (((!(!(inB (clients.getD i.toNat 0) 0 99))) && (decide (i > 0))) = true → ((!(!(inB (clients.getD i.toNat 0) 0 99))) && (decide (i > 0))) = true) ∧ ((((!(!(inB (clients.getD i.toNat 0) 0 99))) && (decide (i > 0))) = true → i.toNat < clients.length)) ∧ (((!(!(inB (clients.getD i.toNat 0) 0 99))) && (decide (i > 0))) = true → ((!(!(inB (clients.getD i.toNat 0) 0 99))) && (decide (i > 0))) = true) ∧ (((!(!(inB (clients.getD i.toNat 0) 0 99))) && (decide (i > 0))) = true → ((!(!(inB (clients.getD i.toNat 0) 0 99))) && (decide (i > 0))) = true) ∧ (((!(!(inB (clients.getD i.toNat 0) 0 99))) = true → (!(!(inB (clients.getD i.toNat 0) 0 99))) = true)) ∧ (((!(!(inB (clients.getD i.toNat 0) 0 99))) = true → (decide (i > 0)) = true → ((!(!(inB (clients.getD i.toNat 0) 0 99))) && (decide (i > 0))) = true)) ∧ (((!(!(inB (clients.getD i.toNat 0) 0 99))) = true → (decide (i > 0)) = false → true = true)) ∧ (true = true) ∧ (((!(inB (clients.getD i.toNat 0) 0 99)) = true → true = true)) ∧ (((!(inB (clients.getD i.toNat 0) 0 99)) = false → (!(!(inB (clients.getD i.toNat 0) 0 99))) = true)) ∧ (((J2v clients i) = true → ((false = (J4 sites clients)))) ∧ ((J2v clients i) = false → (I6 (i + 1)) ∧ (∃ i' : Int, (J1o sites clients i') ∧ (J0w sites clients i' < J0w sites clients i) ∧ (sites = sites) ∧ (clients = clients) ∧ ((i + 1) = i'))))) ∧ ((decide (i < (clients.length : Int))) = false → (PC Try.prog 116 [.int .i64 (sites.length : Int), .int .i64 1, .int .i64 7] (.one (.d (.bool (inB (sites.length : Int) 1 7))))) ∧ ((inB (sites.length : Int) 1 7) = true → (inB (sites.length : Int) 1 7) = true) ∧ ((inB (sites.length : Int) 1 7) = true → PC Try.prog 167 [.sl (.ints sites), .int .i64 0, .int .i64 99] (.one (.d (.bool (J1 sites 0 99))))) ∧ (true = true) ∧ (((inB (sites.length : Int) 1 7) = true → (inB (sites.length : Int) 1 7) = true)) ∧ (((inB (sites.length : Int) 1 7) = false → true = true)) ∧ ((cond (inB (sites.length : Int) 1 7) (J1 sites 0 99) false) = true → (cond (inB (sites.length : Int) 1 7) (J1 sites 0 99) false) = true) ∧ ((cond (inB (sites.length : Int) 1 7) (J1 sites 0 99) false) = true → (cond (inB (sites.length : Int) 1 7) (J1 sites 0 99) false) = true) ∧ (true = true) ∧ (((cond (inB (sites.length : Int) 1 7) (J1 sites 0 99) false) = true → (cond (inB (sites.length : Int) 1 7) (J1 sites 0 99) false) = true)) ∧ (((cond (inB (sites.length : Int) 1 7) (J1 sites 0 99) false) = false → true = true)) ∧ (((cond (cond (inB (sites.length : Int) 1 7) (J1 sites 0 99) false) (decide ((clients.length : Int) ≤ 7)) false) = (J4 sites clients)))))))
theorem J6v (sites : ZI) (clients : ZI)  (w_sites : (sites.length : Int) ≤ 9223372036854775807) (w_clients : (clients.length : Int) ≤ 9223372036854775807) : J4c sites clients := by
  unfold J4c J2v
  refine ⟨?_, ?_⟩
  ·refine ⟨0, ?_⟩
   refine ⟨?_, rfl, rfl, rfl⟩
   ·refine ⟨?_, ?_, ?_⟩
    ·first | omega | rfl | (intro hg; simp only [nrmT] at hg; omega) | (intro g1 g2; simp [g1, g2]; done) | (intro g1; simp at g1 ⊢; simp [g1]; done) | (simp only [nrmT] at *; omega) | (simp at * <;> omega) | (simp_all <;> omega) | (simp_all; done)
    ·first | omega | rfl | (intro hg; simp only [nrmT] at hg; omega) | (intro g1 g2; simp [g1, g2]; done) | (intro g1; simp at g1 ⊢; simp [g1]; done) | (simp only [nrmT] at *; omega) | (simp at * <;> omega) | (simp_all <;> omega) | (simp_all; done)
    ·first | omega | rfl | (intro hg; simp only [nrmT] at hg; omega) | (intro g1 g2; simp [g1, g2]; done) | (intro g1; simp at g1 ⊢; simp [g1]; done) | (simp only [nrmT] at *; omega) | (simp at * <;> omega) | (simp_all <;> omega) | (simp_all; done)
  intro i hJ
  obtain ⟨h1, h2, h3⟩ := hJ
  refine ⟨?_, ?_⟩
  ·intro b1
   try simp only [nrmT] at b1
   refine ⟨rfl, ?_, ?_, ?_, J0Z (clients.getD i.toNat 0) 0 99, id, id, id, ?_, id, id, ?_, ?_, id, ?_, id, id, ?_, ?_, id, ?_, id, id, id, ?_, fun _ _ => rfl, rfl, fun _ => rfl, ?_, ?_, ?_⟩
   ·first | omega | rfl | (intro hg; simp only [nrmT] at hg; omega) | (intro g1 g2; simp [g1, g2]; done) | (intro g1; simp at g1 ⊢; simp [g1]; done) | (simp only [nrmT] at *; omega) | (simp at * <;> omega) | (simp_all <;> omega) | (simp_all; done)
   ·first | omega | rfl | (intro hg; simp only [nrmT] at hg; omega) | (intro g1 g2; simp [g1, g2]; done) | (intro g1; simp at g1 ⊢; simp [g1]; done) | (simp only [nrmT] at *; omega) | (simp at * <;> omega) | (simp_all <;> omega) | (simp_all; done)
   ·first | omega | rfl | (intro hg; simp only [nrmT] at hg; omega) | (intro g1 g2; simp [g1, g2]; done) | (intro g1; simp at g1 ⊢; simp [g1]; done) | (simp only [nrmT] at *; omega) | (simp at * <;> omega) | (simp_all <;> omega) | (simp_all; done)
   ·first | omega | rfl | (intro hg; simp only [nrmT] at hg; omega) | (intro g1 g2; simp [g1, g2]; done) | (intro g1; simp at g1 ⊢; simp [g1]; done) | (simp only [nrmT] at *; omega) | (simp at * <;> omega) | (simp_all <;> omega) | (simp_all; done)
   ·first | omega | rfl | (intro hg; simp only [nrmT] at hg; omega) | (intro g1 g2; simp [g1, g2]; done) | (intro g1; simp at g1 ⊢; simp [g1]; done) | (simp only [nrmT] at *; omega) | (simp at * <;> omega) | (simp_all <;> omega) | (simp_all; done)
   ·first | omega | rfl | (intro hg; simp only [nrmT] at hg; omega) | (intro g1 g2; simp [g1, g2]; done) | (intro g1; simp at g1 ⊢; simp [g1]; done) | (simp only [nrmT] at *; omega) | (simp at * <;> omega) | (simp_all <;> omega) | (simp_all; done)
   ·first | omega | rfl | (intro hg; simp only [nrmT] at hg; omega) | (intro g1 g2; simp [g1, g2]; done) | (intro g1; simp at g1 ⊢; simp [g1]; done) | (simp only [nrmT] at *; omega) | (simp at * <;> omega) | (simp_all <;> omega) | (simp_all; done)
   ·first | omega | rfl | (intro hg; simp only [nrmT] at hg; omega) | (intro g1 g2; simp [g1, g2]; done) | (intro g1; simp at g1 ⊢; simp [g1]; done) | (simp only [nrmT] at *; omega) | (simp at * <;> omega) | (simp_all <;> omega) | (simp_all; done)
   ·first | omega | rfl | (intro hg; simp only [nrmT] at hg; omega) | (intro g1 g2; simp [g1, g2]; done) | (intro g1; simp at g1 ⊢; simp [g1]; done) | (simp only [nrmT] at *; omega) | (simp at * <;> omega) | (simp_all <;> omega) | (simp_all; done)
   ·first | omega | rfl | (intro hg; simp only [nrmT] at hg; omega) | (intro g1 g2; simp [g1, g2]; done) | (intro g1; simp at g1 ⊢; simp [g1]; done) | (simp only [nrmT] at *; omega) | (simp at * <;> omega) | (simp_all <;> omega) | (simp_all; done)
   ·first | omega | rfl | (intro hg; simp only [nrmT] at hg; omega) | (intro g1 g2; simp [g1, g2]; done) | (intro g1; simp at g1 ⊢; simp [g1]; done) | (simp only [nrmT] at *; omega) | (simp at * <;> omega) | (simp_all <;> omega) | (simp_all; done)
   ·first | omega | rfl | (intro hg; simp only [nrmT] at hg; omega) | (intro g1 g2; simp [g1, g2]; done) | (intro g1; simp at g1 ⊢; simp [g1]; done) | (simp only [nrmT] at *; omega) | (simp at * <;> omega) | (simp_all <;> omega) | (simp_all; done)
   ·intro b2
    unfold J4
    rw [allTo_falseI h1 (by omega) (by rw [J4b h1 (b := true) (by revert b2; cases inB (clients.getD i.toNat 0) 0 99 <;> simp)]; rfl)]
    rfl
   intro b3
   refine ⟨?_, ?_⟩
   ·first | omega | rfl | (intro hg; simp only [nrmT] at hg; omega) | (intro g1 g2; simp [g1, g2]; done) | (intro g1; simp at g1 ⊢; simp [g1]; done) | (simp only [nrmT] at *; omega) | (simp at * <;> omega) | (simp_all <;> omega) | (simp_all; done)
   refine ⟨(i + 1), ?_⟩
   refine ⟨?_, ?_, rfl, rfl, rfl⟩
   ·refine ⟨?_, ?_, ?_⟩
    ·first | omega | rfl | (intro hg; simp only [nrmT] at hg; omega) | (intro g1 g2; simp [g1, g2]; done) | (intro g1; simp at g1 ⊢; simp [g1]; done) | (simp only [nrmT] at *; omega) | (simp at * <;> omega) | (simp_all <;> omega) | (simp_all; done)
    ·first | omega | rfl | (intro hg; simp only [nrmT] at hg; omega) | (intro g1 g2; simp [g1, g2]; done) | (intro g1; simp at g1 ⊢; simp [g1]; done) | (simp only [nrmT] at *; omega) | (simp at * <;> omega) | (simp_all <;> omega) | (simp_all; done)
    ·exact allTo_step h1 h3 (by rw [J4b h1 (b := false) (by revert b3; cases inB (clients.getD i.toNat 0) 0 99 <;> simp)]; rfl)
   first | (show _ < _; omega) | (simp only [J0w]; omega) | (simp only [J0w] at *; simp at *; omega)
  intro b4
  try simp only [nrmT] at b4
  refine ⟨J0Z (sites.length : Int) 1 7, id, fun _ => J2O sites 0 99, rfl, id, fun _ => rfl, id, id, rfl, id, fun _ => rfl, ?_⟩
  ·unfold J4
   rw [← show allTo (J1f clients) i.toNat = allTo (J1f clients) clients.length by rw [show i.toNat = clients.length by omega], h3, Bool.true_and]
   rw [show decide ((clients.length : Int) ≤ 7) = decide (clients.length ≤ 7) by congr 1; exact propext ⟨fun h => by omega, fun h => by omega⟩]
   cases inB (sites.length : Int) 1 7 <;> cases J1 sites 0 99 <;> rfl
theorem J6y (sites : ZI) (clients : ZI)  : PC Try.prog 137 [.sl (.ints sites), .sl (.ints clients)] (.one (.d (.bool (J4 sites clients)))) :=
  pc_wf @Try.call137 fun hw => pc_by (by kernel_rfl) Try.func137 @Try.call137 (by kernel_rfl) J7D (J7c sites clients) (by kernel_rfl) (J6v sites clients hw.1 hw.2.1) (by kernel_rfl)
def J6o : List D → Orc := orcN [some .ints, some .ints] fun ds => match ds with
  | [.sl (.ints sites), .sl (.ints clients)] => some (.one (.d (.bool (J4 sites clients))))
  | _ => none
abbrev J1e (sites : ZI) (clients : ZI) (i : Int) (op : ZI) (out : ZR) : Prop := (0 ≤ i) ∧ (i ≤ (clients.length : Int)) ∧ (op = List.replicate sites.length 0) ∧ (out = tabTo (fun j => J25 sites (clients.getD j 0)) i.toNat)
abbrev J0p (sites : ZI) (clients : ZI) (i : Int) (op : ZI) (out : ZR) : Nat := (clients.length - i).toNat
abbrev J1h (sites : ZI) (clients : ZI) (i : Int) (op : ZI) (out : ZR) (row : ZI) (a : Int) : Prop := (0 ≤ a) ∧ (a ≤ (sites.length : Int)) ∧ (row = tabTo (fun c => max (clients.getD i.toNat 0 - sites.getD c 0) (sites.getD c 0 - clients.getD i.toNat 0)) a.toNat)
abbrev J0u (sites : ZI) (clients : ZI) (i : Int) (op : ZI) (out : ZR) (row : ZI) (a : Int) : Nat := (sites.length - a).toNat
abbrev J1p (sites : ZI) (clients : ZI) (i : Int) (op : ZI) (out : ZR) (row2 : ZI) : Prop := (row2 = J25 sites (clients.getD i.toNat 0))
def J7I (f : FuncId) (ds : List D) : Orc := bif Nat.beq f 152 then J5X ds else .no
def J7b (sites : ZI) (clients : ZI) : Ann := .two (.none) (.two (.none) (.two (.two (.none) (.loop (cut3 (fun (i : Int) (op : ZI) (out : ZR) => J1e sites clients i op out) (fun (i : Int) (op : ZI) (out : ZR) => [(0, .d false (.sl (.ints sites))), (1, .d false (.sl (.ints clients))), (4, .ptr 4 0), (5, .ptr 5 0), (6, .d true (.int .i64 i))]) (fun (i : Int) (op : ZI) (out : ZR) => [(4, .box 39 [.d true (.nil), .d true (.nil)]), (1000001, .arr true 3 (.ints op)), (1000002, .arr true 26 (.rows out)), (5, .box 39 [.own 1000001 op.length, .own 1000002 out.length])])) (fun g => J0p sites clients g.1 g.2.1 g.2.2) (fun g => (fun (i : Int) (op : ZI) (out : ZR) => .two (.none) (.two (.two (.none) (.cut (.two (.none) (.loop (cut2 (fun (row : ZI) (a : Int) => J1h sites clients i op out row a) (fun (row : ZI) (a : Int) => [(0, .d false (.sl (.ints sites))), (1, .d false (.sl (.ints clients))), (4, .ptr 4 0), (5, .ptr 5 0), (6, .d true (.int .i64 i)), (7, .own 1000100 row.length), (8, .d true (.int .i64 a))]) (fun (row : ZI) (a : Int) => [(1000100, .arr true 3 (.ints row)), (4, .box 39 [.d true (.nil), .d true (.nil)]), (5, .box 39 [.own 1000001 op.length, .own 1000002 out.length]), (1000001, .arr true 3 (.ints op)), (1000002, .arr true 26 (.rows out))])) (fun g => J0u sites clients i op out g.1 g.2) (fun _ => .none))) (cut1 (fun (row2 : ZI) => J1p sites clients i op out row2) (fun (row2 : ZI) => [(0, .d false (.sl (.ints sites))), (1, .d false (.sl (.ints clients))), (4, .ptr 4 0), (5, .ptr 5 0), (6, .d true (.int .i64 i)), (7, .d true (.sl (.ints row2)))]) (fun (row2 : ZI) => [(4, .box 39 [.d true (.nil), .d true (.nil)]), (5, .box 39 [.own 1000001 op.length, .own 1000002 out.length]), (1000001, .arr true 3 (.ints op)), (1000002, .arr true 26 (.rows out))])) (fun _ => .none))) (.none))) (g.1) (g.2.1) (g.2.2)))) (.none)))
def J4E (sites : ZI) (clients : ZI) : Prop :=
  ((sites.length : Int) = (sites.length : Int)) ∧ ((0 : Int) ≤ (sites.length : Int)) ∧ (((sites.length : Int) : Int) * ((8 : Nat) : Int) ≤ 140737488355328) ∧ ((∃ i' : Int, ∃ op' : ZI, ∃ out' : ZR, (J1e sites clients i' op' out') ∧ (sites = sites) ∧ (clients = clients) ∧ ((0 : Int) = i') ∧ ((List.replicate ((sites.length : Int).toNat) (0 : Int)) = op') ∧ ([] = out') ∧ ((sites.length : Int).toNat = op'.length) ∧ ((0 : Nat) = out'.length)) ∧ (∀ i : Int, ∀ op : ZI, ∀ out : ZR, (J1e sites clients i op out) → (((decide (i < (clients.length : Int))) = true → ((((∃ row' : ZI, ∃ a' : Int, (J1h sites clients i op out row' a') ∧ (sites = sites) ∧ (clients = clients) ∧ (i = i) ∧ ((0 : Nat) = row'.length) ∧ ((0 : Int) = a') ∧ ([] = row') ∧ (op.length = op.length) ∧ (out.length = out.length) ∧ (op = op) ∧ (out = out)) ∧ (∀ row : ZI, ∀ a : Int, (J1h sites clients i op out row a) → (((decide (a < (sites.length : Int))) = true → (true = true) ∧ ((0 : Int) ≤ i) ∧ ((i : Int) < clients.length) ∧ (i.toNat < clients.length) ∧ ((0 : Int) ≤ a) ∧ ((a : Int) < sites.length) ∧ (a.toNat < sites.length) ∧ (I6 ((clients.getD i.toNat 0) - (sites.getD a.toNat 0))) ∧ ((0 : Int) ≤ a) ∧ ((a : Int) < sites.length) ∧ (a.toNat < sites.length) ∧ ((0 : Int) ≤ i) ∧ ((i : Int) < clients.length) ∧ (i.toNat < clients.length) ∧ (I6 ((sites.getD a.toNat 0) - (clients.getD i.toNat 0))) ∧ (PC Try.prog 152 [.int .i64 ((clients.getD i.toNat 0) - (sites.getD a.toNat 0)), .int .i64 ((sites.getD a.toNat 0) - (clients.getD i.toNat 0))] (.one (.d (.int .i64 (max ((clients.getD i.toNat 0) - (sites.getD a.toNat 0)) ((sites.getD a.toNat 0) - (clients.getD i.toNat 0))))))) ∧ (row.length = row.length) ∧ ((1 : Nat) = 1) ∧ ((row.length + 1) * 8 ≤ 140737488355328) ∧ (I6 (a + 1)) ∧ (∃ row' : ZI, ∃ a' : Int, (J1h sites clients i op out row' a') ∧ (J0u sites clients i op out row' a' < J0u sites clients i op out row a) ∧ (sites = sites) ∧ (clients = clients) ∧ (i = i) ∧ ((row.length + 1) = row'.length) ∧ ((a + 1) = a') ∧ ((row ++ [(max ((clients.getD i.toNat 0) - (sites.getD a.toNat 0)) ((sites.getD a.toNat 0) - (clients.getD i.toNat 0)))]) = row') ∧ (op.length = op.length) ∧ (out.length = out.length) ∧ (op = op) ∧ (out = out))) ∧ ((decide (a < (sites.length : Int))) = false → (∃ row2' : ZI, (J1p sites clients i op out row2') ∧ (sites = sites) ∧ (clients = clients) ∧ (i = i) ∧ (row.length = row.length) ∧ (row = row2') ∧ (op.length = op.length) ∧ (out.length = out.length) ∧ (op = op) ∧ (out = out))))))) ∧ (∀ row2 : ZI, (J1p sites clients i op out row2) → (out.length = out.length) ∧ ((1 : Nat) = 1) ∧ ((out.length + 1) * 24 ≤ 140737488355328) ∧ (I6 (i + 1)) ∧ (∃ i' : Int, ∃ op' : ZI, ∃ out' : ZR, (J1e sites clients i' op' out') ∧ (J0p sites clients i' op' out' < J0p sites clients i op out) ∧ (sites = sites) ∧ (clients = clients) ∧ ((i + 1) = i') ∧ (op = op') ∧ ((out ++ [row2]) = out') ∧ (op.length = op'.length) ∧ ((out.length + 1) = out'.length))))) ∧ ((decide (i < (clients.length : Int))) = false → ((op.length = op.length) ∧ (out.length = out.length) ∧ ((.agg [.sl (.ints op), .sl (.rows out)] : D) = .agg [.sl (.ints (List.replicate sites.length 0)), .sl (.rows (JG sites clients))]))))))
theorem J6W (sites : ZI) (clients : ZI) (hg : J4 sites clients = true) (w_sites : (sites.length : Int) ≤ 9223372036854775807) (w_clients : (clients.length : Int) ≤ 9223372036854775807) : J4E sites clients := by
  unfold J4E
  obtain ⟨g1, g2, g3, g4, g5⟩ := JA hg
  have sr := fun (k : Nat) (hk : k < sites.length) => JD g4 k hk
  refine ⟨rfl, ?_, ?_, ?_, ?_⟩
  ·first | omega | rfl | (intro hg; simp only [nrmT] at hg; omega) | (intro g1 g2; simp [g1, g2]; done) | (intro g1; simp at g1 ⊢; simp [g1]; done) | (simp only [nrmT] at *; omega) | (simp at * <;> omega) | (simp_all <;> omega) | (simp_all; done)
  ·first | omega | rfl | (intro hg; simp only [nrmT] at hg; omega) | (intro g1 g2; simp [g1, g2]; done) | (intro g1; simp at g1 ⊢; simp [g1]; done) | (simp only [nrmT] at *; omega) | (simp at * <;> omega) | (simp_all <;> omega) | (simp_all; done)
  ·refine ⟨0, (List.replicate ((sites.length : Int).toNat) (0 : Int)), ([]), ?_⟩
   refine ⟨?_, rfl, rfl, rfl, rfl, ?_, ?_, rfl⟩
   ·refine ⟨?_, ?_, ?_, ?_⟩
    ·first | omega | rfl | (intro hg; simp only [nrmT] at hg; omega) | (intro g1 g2; simp [g1, g2]; done) | (intro g1; simp at g1 ⊢; simp [g1]; done) | (simp only [nrmT] at *; omega) | (simp at * <;> omega) | (simp_all <;> omega) | (simp_all; done)
    ·first | omega | rfl | (intro hg; simp only [nrmT] at hg; omega) | (intro g1 g2; simp [g1, g2]; done) | (intro g1; simp at g1 ⊢; simp [g1]; done) | (simp only [nrmT] at *; omega) | (simp at * <;> omega) | (simp_all <;> omega) | (simp_all; done)
    ·first | omega | rfl | (intro hg; simp only [nrmT] at hg; omega) | (intro g1 g2; simp [g1, g2]; done) | (intro g1; simp at g1 ⊢; simp [g1]; done) | (simp only [nrmT] at *; omega) | (simp at * <;> omega) | (simp_all <;> omega) | (simp_all; done)
    ·first | omega | rfl | (intro hg; simp only [nrmT] at hg; omega) | (intro g1 g2; simp [g1, g2]; done) | (intro g1; simp at g1 ⊢; simp [g1]; done) | (simp only [nrmT] at *; omega) | (simp at * <;> omega) | (simp_all <;> omega) | (simp_all; done)
   ·first | omega | rfl | (intro hg; simp only [nrmT] at hg; omega) | (intro g1 g2; simp [g1, g2]; done) | (intro g1; simp at g1 ⊢; simp [g1]; done) | (simp only [nrmT] at *; omega) | (simp at * <;> omega) | (simp_all <;> omega) | (simp_all; done)
   first | omega | rfl | (intro hg; simp only [nrmT] at hg; omega) | (intro g1 g2; simp [g1, g2]; done) | (intro g1; simp at g1 ⊢; simp [g1]; done) | (simp only [nrmT] at *; omega) | (simp at * <;> omega) | (simp_all <;> omega) | (simp_all; done)
  intro i op out hJ
  obtain ⟨h1, h2, hop, h3⟩ := hJ
  refine ⟨?_, ?_⟩
  ·intro b1
   try simp only [nrmT] at b1
   refine ⟨?_, ?_⟩
   ·refine ⟨?_, ?_⟩
    ·refine ⟨([]), 0, ?_⟩
     refine ⟨?_, rfl, rfl, rfl, rfl, rfl, ?_, rfl, rfl, rfl, rfl⟩
     ·refine ⟨?_, ?_, ?_⟩
      ·first | omega | rfl | (intro hg; simp only [nrmT] at hg; omega) | (intro g1 g2; simp [g1, g2]; done) | (intro g1; simp at g1 ⊢; simp [g1]; done) | (simp only [nrmT] at *; omega) | (simp at * <;> omega) | (simp_all <;> omega) | (simp_all; done)
      ·first | omega | rfl | (intro hg; simp only [nrmT] at hg; omega) | (intro g1 g2; simp [g1, g2]; done) | (intro g1; simp at g1 ⊢; simp [g1]; done) | (simp only [nrmT] at *; omega) | (simp at * <;> omega) | (simp_all <;> omega) | (simp_all; done)
      ·first | omega | rfl | (intro hg; simp only [nrmT] at hg; omega) | (intro g1 g2; simp [g1, g2]; done) | (intro g1; simp at g1 ⊢; simp [g1]; done) | (simp only [nrmT] at *; omega) | (simp at * <;> omega) | (simp_all <;> omega) | (simp_all; done)
     first | omega | rfl | (intro hg; simp only [nrmT] at hg; omega) | (intro g1 g2; simp [g1, g2]; done) | (intro g1; simp at g1 ⊢; simp [g1]; done) | (simp only [nrmT] at *; omega) | (simp at * <;> omega) | (simp_all <;> omega) | (simp_all; done)
    ·intro row a hJ
     obtain ⟨h4, h5, h6⟩ := hJ
     refine ⟨?_, ?_⟩
     ·intro b2
      try simp only [nrmT] at b2
      refine ⟨rfl, ?_, ?_, ?_, ?_, ?_, ?_, ?_, ?_, ?_, ?_, ?_, ?_, ?_, ?_, J6E ((clients.getD i.toNat 0) - (sites.getD a.toNat 0)) ((sites.getD a.toNat 0) - (clients.getD i.toNat 0)), rfl, rfl, ?_, ?_, ?_⟩
      ·first | omega | rfl | (intro hg; simp only [nrmT] at hg; omega) | (intro g1 g2; simp [g1, g2]; done) | (intro g1; simp at g1 ⊢; simp [g1]; done) | (simp only [nrmT] at *; omega) | (simp at * <;> omega) | (simp_all <;> omega) | (simp_all; done)
      ·first | omega | rfl | (intro hg; simp only [nrmT] at hg; omega) | (intro g1 g2; simp [g1, g2]; done) | (intro g1; simp at g1 ⊢; simp [g1]; done) | (simp only [nrmT] at *; omega) | (simp at * <;> omega) | (simp_all <;> omega) | (simp_all; done)
      ·first | omega | rfl | (intro hg; simp only [nrmT] at hg; omega) | (intro g1 g2; simp [g1, g2]; done) | (intro g1; simp at g1 ⊢; simp [g1]; done) | (simp only [nrmT] at *; omega) | (simp at * <;> omega) | (simp_all <;> omega) | (simp_all; done)
      ·first | omega | rfl | (intro hg; simp only [nrmT] at hg; omega) | (intro g1 g2; simp [g1, g2]; done) | (intro g1; simp at g1 ⊢; simp [g1]; done) | (simp only [nrmT] at *; omega) | (simp at * <;> omega) | (simp_all <;> omega) | (simp_all; done)
      ·first | omega | rfl | (intro hg; simp only [nrmT] at hg; omega) | (intro g1 g2; simp [g1, g2]; done) | (intro g1; simp at g1 ⊢; simp [g1]; done) | (simp only [nrmT] at *; omega) | (simp at * <;> omega) | (simp_all <;> omega) | (simp_all; done)
      ·first | omega | rfl | (intro hg; simp only [nrmT] at hg; omega) | (intro g1 g2; simp [g1, g2]; done) | (intro g1; simp at g1 ⊢; simp [g1]; done) | (simp only [nrmT] at *; omega) | (simp at * <;> omega) | (simp_all <;> omega) | (simp_all; done)
      ·have q1 := g5 i.toNat (by omega)
       have q2 := sr a.toNat (by omega)
       omega
      ·first | omega | rfl | (intro hg; simp only [nrmT] at hg; omega) | (intro g1 g2; simp [g1, g2]; done) | (intro g1; simp at g1 ⊢; simp [g1]; done) | (simp only [nrmT] at *; omega) | (simp at * <;> omega) | (simp_all <;> omega) | (simp_all; done)
      ·first | omega | rfl | (intro hg; simp only [nrmT] at hg; omega) | (intro g1 g2; simp [g1, g2]; done) | (intro g1; simp at g1 ⊢; simp [g1]; done) | (simp only [nrmT] at *; omega) | (simp at * <;> omega) | (simp_all <;> omega) | (simp_all; done)
      ·first | omega | rfl | (intro hg; simp only [nrmT] at hg; omega) | (intro g1 g2; simp [g1, g2]; done) | (intro g1; simp at g1 ⊢; simp [g1]; done) | (simp only [nrmT] at *; omega) | (simp at * <;> omega) | (simp_all <;> omega) | (simp_all; done)
      ·first | omega | rfl | (intro hg; simp only [nrmT] at hg; omega) | (intro g1 g2; simp [g1, g2]; done) | (intro g1; simp at g1 ⊢; simp [g1]; done) | (simp only [nrmT] at *; omega) | (simp at * <;> omega) | (simp_all <;> omega) | (simp_all; done)
      ·first | omega | rfl | (intro hg; simp only [nrmT] at hg; omega) | (intro g1 g2; simp [g1, g2]; done) | (intro g1; simp at g1 ⊢; simp [g1]; done) | (simp only [nrmT] at *; omega) | (simp at * <;> omega) | (simp_all <;> omega) | (simp_all; done)
      ·first | omega | rfl | (intro hg; simp only [nrmT] at hg; omega) | (intro g1 g2; simp [g1, g2]; done) | (intro g1; simp at g1 ⊢; simp [g1]; done) | (simp only [nrmT] at *; omega) | (simp at * <;> omega) | (simp_all <;> omega) | (simp_all; done)
      ·have q1 := g5 i.toNat (by omega)
       have q2 := sr a.toNat (by omega)
       omega
      ·have hg0 : J4 sites clients = true := by first | exact hg | (rw [Js, b2]; rfl)
       obtain ⟨q1, q2, q3, q4, q5⟩ := JA hg0
       rw [h6, tabTo_len]; omega
      ·first | omega | rfl | (intro hg; simp only [nrmT] at hg; omega) | (intro g1 g2; simp [g1, g2]; done) | (intro g1; simp at g1 ⊢; simp [g1]; done) | (simp only [nrmT] at *; omega) | (simp at * <;> omega) | (simp_all <;> omega) | (simp_all; done)
      refine ⟨(row ++ [(max ((clients.getD i.toNat 0) - (sites.getD a.toNat 0)) ((sites.getD a.toNat 0) - (clients.getD i.toNat 0)))]), (a + 1), ?_⟩
      refine ⟨?_, ?_, rfl, rfl, rfl, ?_, rfl, rfl, rfl, rfl, rfl, rfl⟩
      ·refine ⟨?_, ?_, ?_⟩
       ·first | omega | rfl | (intro hg; simp only [nrmT] at hg; omega) | (intro g1 g2; simp [g1, g2]; done) | (intro g1; simp at g1 ⊢; simp [g1]; done) | (simp only [nrmT] at *; omega) | (simp at * <;> omega) | (simp_all <;> omega) | (simp_all; done)
       ·first | omega | rfl | (intro hg; simp only [nrmT] at hg; omega) | (intro g1 g2; simp [g1, g2]; done) | (intro g1; simp at g1 ⊢; simp [g1]; done) | (simp only [nrmT] at *; omega) | (simp at * <;> omega) | (simp_all <;> omega) | (simp_all; done)
       ·rw [show (a + 1).toNat = a.toNat + 1 by omega, tabTo_succ, h6]
      ·first | (show _ < _; omega) | (simp only [J0u]; omega) | (simp only [J0u] at *; simp at *; omega)
      first | omega | rfl | (intro hg; simp only [nrmT] at hg; omega) | (intro g1 g2; simp [g1, g2]; done) | (intro g1; simp at g1 ⊢; simp [g1]; done) | (simp only [nrmT] at *; omega) | (simp at * <;> omega) | (simp_all <;> omega) | (simp_all; done)
     intro b3
     try simp only [nrmT] at b3
     refine ⟨row, ?_⟩
     refine ⟨?_, rfl, rfl, rfl, rfl, rfl, rfl, rfl, rfl, rfl⟩
     ·unfold J1p
      rw [h6, show a.toNat = sites.length by omega]; rfl
   intro row2 hJ
   have h8 := hJ
   refine ⟨rfl, rfl, ?_, ?_, ?_⟩
   ·have hg0 : J4 sites clients = true := by first | exact hg | (rw [Js, b2]; rfl)
    obtain ⟨q1, q2, q3, q4, q5⟩ := JA hg0
    rw [h3, tabTo_len]; omega
   ·first | omega | rfl | (intro hg; simp only [nrmT] at hg; omega) | (intro g1 g2; simp [g1, g2]; done) | (intro g1; simp at g1 ⊢; simp [g1]; done) | (simp only [nrmT] at *; omega) | (simp at * <;> omega) | (simp_all <;> omega) | (simp_all; done)
   refine ⟨(i + 1), op, (out ++ [row2]), ?_⟩
   refine ⟨?_, ?_, rfl, rfl, rfl, rfl, rfl, rfl, ?_⟩
   ·refine ⟨?_, ?_, ?_, ?_⟩
    ·first | omega | rfl | (intro hg; simp only [nrmT] at hg; omega) | (intro g1 g2; simp [g1, g2]; done) | (intro g1; simp at g1 ⊢; simp [g1]; done) | (simp only [nrmT] at *; omega) | (simp at * <;> omega) | (simp_all <;> omega) | (simp_all; done)
    ·first | omega | rfl | (intro hg; simp only [nrmT] at hg; omega) | (intro g1 g2; simp [g1, g2]; done) | (intro g1; simp at g1 ⊢; simp [g1]; done) | (simp only [nrmT] at *; omega) | (simp at * <;> omega) | (simp_all <;> omega) | (simp_all; done)
    ·first | omega | rfl | (intro hg; simp only [nrmT] at hg; omega) | (intro g1 g2; simp [g1, g2]; done) | (intro g1; simp at g1 ⊢; simp [g1]; done) | (simp only [nrmT] at *; omega) | (simp at * <;> omega) | (simp_all <;> omega) | (simp_all; done)
    ·rw [h8, show (i + 1).toNat = i.toNat + 1 by omega, tabTo_succ, h3]
   ·first | (show _ < _; omega) | (simp only [J0p]; omega) | (simp only [J0p] at *; simp at *; omega)
   first | omega | rfl | (intro hg; simp only [nrmT] at hg; omega) | (intro g1 g2; simp [g1, g2]; done) | (intro g1; simp at g1 ⊢; simp [g1]; done) | (simp only [nrmT] at *; omega) | (simp at * <;> omega) | (simp_all <;> omega) | (simp_all; done)
  intro b4
  try simp only [nrmT] at b4
  refine ⟨rfl, rfl, ?_⟩
  ·rw [hop, h3, show i.toNat = clients.length by omega]; rfl
theorem J6S (sites : ZI) (clients : ZI) (hg : J4 sites clients = true) : PC Try.prog 138 [.sl (.ints sites), .sl (.ints clients)] (.one (.d (.agg [.sl (.ints (List.replicate sites.length 0)), .sl (.rows (JG sites clients))]))) :=
  pc_wf @Try.call138 fun hw => pc_by (by kernel_rfl) Try.func138 @Try.call138 (by kernel_rfl) J7I (J7b sites clients) (by kernel_rfl) (J6W sites clients hg hw.1 hw.2.1) (by kernel_rfl)
def J6f : List D → Orc := orcN [some .ints, some .ints] fun ds => match ds with
  | [.sl (.ints sites), .sl (.ints clients)] => some (.one (.d (.agg [.sl (.ints (List.replicate sites.length 0)), .sl (.rows (JG sites clients))])))
  | _ => none
abbrev J0g (sites : ZI) (clients : ZI) (i : Int) (op : ZI) (out : ZR) : Prop := (0 ≤ i) ∧ (i ≤ (clients.length : Int)) ∧ (op = List.replicate sites.length 0) ∧ (out = tabTo (fun j => J25 sites (clients.getD j 0)) i.toNat)
abbrev JY (sites : ZI) (clients : ZI) (i : Int) (op : ZI) (out : ZR) : Nat := (clients.length - i).toNat
abbrev J0j (sites : ZI) (clients : ZI) (i : Int) (op : ZI) (out : ZR) (row : ZI) (a : Int) : Prop := (0 ≤ a) ∧ (a ≤ (sites.length : Int)) ∧ (row = tabTo (fun c => max (clients.getD i.toNat 0 - sites.getD c 0) (sites.getD c 0 - clients.getD i.toNat 0)) a.toNat)
abbrev J01 (sites : ZI) (clients : ZI) (i : Int) (op : ZI) (out : ZR) (row : ZI) (a : Int) : Nat := (sites.length - a).toNat
abbrev J0k (sites : ZI) (clients : ZI) (i : Int) (op : ZI) (out : ZR) (row2 : ZI) : Prop := (row2 = J25 sites (clients.getD i.toNat 0))
def J5M (f : FuncId) (ds : List D) : Orc := bif Nat.beq f 120 then J0c ds else bif Nat.beq f 130 then J2D ds else bif Nat.beq f 131 then J0W ds else bif Nat.beq f 132 then J1v ds else .no
def J5y (sites : ZI) (clients : ZI) : Ann := .two (.none) (.two (.none) (.two (.none) (.two (.two (.none) (.loop (cut3 (fun (i : Int) (op : ZI) (out : ZR) => J0g sites clients i op out) (fun (i : Int) (op : ZI) (out : ZR) => [(0, .d false (.sl (.ints sites))), (4, .ptr 4 0), (6, .ptr 6 0), (41, .d false (.sl (.ints clients))), (42, .d true (.int .i64 (clients.length : Int))), (43, .d true (.int .i64 i))]) (fun (i : Int) (op : ZI) (out : ZR) => [(4, .box 39 [.d true (.nil), .d true (.nil)]), (1000001, .arr true 3 (.ints op)), (1000002, .arr true 26 (.rows out)), (6, .box 39 [.own 1000001 op.length, .own 1000002 out.length])])) (fun g => JY sites clients g.1 g.2.1 g.2.2) (fun g => (fun (i : Int) (op : ZI) (out : ZR) => .two (.none) (.two (.none) (.two (.two (.none) (.two (.none) (.cut (.two (.none) (.loop (cut2 (fun (row : ZI) (a : Int) => J0j sites clients i op out row a) (fun (row : ZI) (a : Int) => [(0, .d false (.sl (.ints sites))), (4, .ptr 4 0), (6, .ptr 6 0), (8, .d false (.int .i64 (clients.getD i.toNat 0))), (9, .own 1000100 row.length), (41, .d false (.sl (.ints clients))), (42, .d true (.int .i64 (clients.length : Int))), (43, .d true (.int .i64 i)), (48, .d false (.sl (.ints sites))), (49, .d true (.int .i64 (sites.length : Int))), (50, .d true (.int .i64 a))]) (fun (row : ZI) (a : Int) => [(1000100, .arr true 3 (.ints row)), (4, .box 39 [.d true (.nil), .d true (.nil)]), (6, .box 39 [.own 1000001 op.length, .own 1000002 out.length]), (1000001, .arr true 3 (.ints op)), (1000002, .arr true 26 (.rows out))])) (fun g => J01 sites clients i op out g.1 g.2) (fun _ => .none))) (cut1 (fun (row2 : ZI) => J0k sites clients i op out row2) (fun (row2 : ZI) => [(0, .d false (.sl (.ints sites))), (4, .ptr 4 0), (6, .ptr 6 0), (9, .d true (.sl (.ints row2))), (41, .d false (.sl (.ints clients))), (42, .d true (.int .i64 (clients.length : Int))), (43, .d true (.int .i64 i))]) (fun (row2 : ZI) => [(4, .box 39 [.d true (.nil), .d true (.nil)]), (6, .box 39 [.own 1000001 op.length, .own 1000002 out.length]), (1000001, .arr true 3 (.ints op)), (1000002, .arr true 26 (.rows out))])) (fun _ => .none)))) (.none)))) (g.1) (g.2.1) (g.2.2)))) (.none))))
def Jl (sites : ZI) (clients : ZI) : Bool := (cond (cond (!(inB (sites.length : Int) 1 7)) true (!(J1 sites 0 (100 - 1)))) true (decide ((clients.length : Int) > 7)))
def Je (sites : ZI) (clients : ZI) : Bool := (cond (Jl sites clients) true (!(clients.all (fun x => inB x 0 99))))
def J2M (sites : ZI) (clients : ZI) : Prop :=
  (PC Try.prog 120 [.int .i64 (sites.length : Int), .int .i64 1, .int .i64 7] (.one (.d (.bool (inB (sites.length : Int) 1 7))))) ∧ ((!(!(inB (sites.length : Int) 1 7))) = true → (!(!(inB (sites.length : Int) 1 7))) = true) ∧ ((!(!(inB (sites.length : Int) 1 7))) = true → PC Try.prog 130 [.sl (.ints sites), .int .i64 100] (.one (.d (.bool (J1 sites 0 (100 - 1)))))) ∧ ((!(!(inB (sites.length : Int) 1 7))) = true → (!(!(inB (sites.length : Int) 1 7))) = true) ∧ (true = true) ∧ (((!(inB (sites.length : Int) 1 7)) = true → true = true)) ∧ (((!(inB (sites.length : Int) 1 7)) = false → (!(!(inB (sites.length : Int) 1 7))) = true)) ∧ ((!(cond (!(inB (sites.length : Int) 1 7)) true (!(J1 sites 0 (100 - 1))))) = true → (!(cond (!(inB (sites.length : Int) 1 7)) true (!(J1 sites 0 (100 - 1))))) = true) ∧ ((!(cond (!(inB (sites.length : Int) 1 7)) true (!(J1 sites 0 (100 - 1))))) = true → (!(cond (!(inB (sites.length : Int) 1 7)) true (!(J1 sites 0 (100 - 1))))) = true) ∧ (true = true) ∧ (((cond (!(inB (sites.length : Int) 1 7)) true (!(J1 sites 0 (100 - 1)))) = true → true = true)) ∧ (((cond (!(inB (sites.length : Int) 1 7)) true (!(J1 sites 0 (100 - 1)))) = false → (!(cond (!(inB (sites.length : Int) 1 7)) true (!(J1 sites 0 (100 - 1))))) = true)) ∧ ((!(Jl sites clients)) = true → (!(Jl sites clients)) = true) ∧ ((!(Jl sites clients)) = true → PC Try.prog 131 [.sl (.ints clients), .int .i64 0, .int .i64 99] (.one (.d (.bool (clients.all (fun x => inB x 0 99)))))) ∧ ((!(Jl sites clients)) = true → (!(Jl sites clients)) = true) ∧ (true = true) ∧ (((Jl sites clients) = true → true = true)) ∧ (((Jl sites clients) = false → (!(Jl sites clients)) = true)) ∧ ((!(Je sites clients)) = true → (!(Je sites clients)) = true) ∧ ((!(Je sites clients)) = true → PC Try.prog 132 [.sl (.ints clients)] (.one (.d (.bool (J16 clients))))) ∧ ((!(Je sites clients)) = true → (!(Je sites clients)) = true) ∧ (true = true) ∧ (((Je sites clients) = true → true = true)) ∧ (((Je sites clients) = false → (!(Je sites clients)) = true)) ∧ (((cond (Je sites clients) true (!(J16 clients))) = true → (((lfO sites clients).length = 0) ∧ ((lfD sites clients).length = 0) ∧ (false = (J4 sites clients)))) ∧ ((cond (Je sites clients) true (!(J16 clients))) = false → ((sites.length : Int) = (sites.length : Int)) ∧ ((0 : Int) ≤ (sites.length : Int)) ∧ (((sites.length : Int) : Int) * ((8 : Nat) : Int) ≤ 140737488355328) ∧ ((∃ i' : Int, ∃ op' : ZI, ∃ out' : ZR, (J0g sites clients i' op' out') ∧ (sites = sites) ∧ (clients = clients) ∧ ((clients.length : Int) = (clients.length : Int)) ∧ ((0 : Int) = i') ∧ ((List.replicate ((sites.length : Int).toNat) (0 : Int)) = op') ∧ ((out').length = 0) ∧ ((sites.length : Int).toNat = op'.length) ∧ ((0 : Nat) = out'.length)) ∧ (∀ i : Int, ∀ op : ZI, ∀ out : ZR, (J0g sites clients i op out) → (((decide (i < (clients.length : Int))) = true → ((0 : Int) ≤ i) ∧ ((i : Int) < clients.length) ∧ (i.toNat < clients.length) ∧ ((((∃ row' : ZI, ∃ a' : Int, (J0j sites clients i op out row' a') ∧ (sites = sites) ∧ ((clients.getD i.toNat 0) = (clients.getD i.toNat 0)) ∧ ((0 : Nat) = row'.length) ∧ (clients = clients) ∧ ((clients.length : Int) = (clients.length : Int)) ∧ (i = i) ∧ (sites = sites) ∧ ((sites.length : Int) = (sites.length : Int)) ∧ ((0 : Int) = a') ∧ ([] = row') ∧ (op.length = op.length) ∧ (out.length = out.length) ∧ (op = op) ∧ (out = out)) ∧ (∀ row : ZI, ∀ a : Int, (J0j sites clients i op out row a) → (((decide (a < (sites.length : Int))) = true → ((0 : Int) ≤ a) ∧ ((a : Int) < sites.length) ∧ (a.toNat < sites.length) ∧ (I6 ((clients.getD i.toNat 0) - (sites.getD a.toNat 0))) ∧ (I6 ((sites.getD a.toNat 0) - (clients.getD i.toNat 0))) ∧ (row.length = row.length) ∧ ((1 : Nat) = 1) ∧ ((row.length + 1) * 8 ≤ 140737488355328) ∧ (I6 (a + 1)) ∧ (∃ row' : ZI, ∃ a' : Int, (J0j sites clients i op out row' a') ∧ (J01 sites clients i op out row' a' < J01 sites clients i op out row a) ∧ (sites = sites) ∧ ((clients.getD i.toNat 0) = (clients.getD i.toNat 0)) ∧ ((row.length + 1) = row'.length) ∧ (clients = clients) ∧ ((clients.length : Int) = (clients.length : Int)) ∧ (i = i) ∧ (sites = sites) ∧ ((sites.length : Int) = (sites.length : Int)) ∧ ((a + 1) = a') ∧ ((row ++ [(max ((clients.getD i.toNat 0) - (sites.getD a.toNat 0)) ((sites.getD a.toNat 0) - (clients.getD i.toNat 0)))]) = row') ∧ (op.length = op.length) ∧ (out.length = out.length) ∧ (op = op) ∧ (out = out))) ∧ ((decide (a < (sites.length : Int))) = false → (∃ row2' : ZI, (J0k sites clients i op out row2') ∧ (sites = sites) ∧ (row.length = row.length) ∧ (row = row2') ∧ (clients = clients) ∧ ((clients.length : Int) = (clients.length : Int)) ∧ (i = i) ∧ (op.length = op.length) ∧ (out.length = out.length) ∧ (op = op) ∧ (out = out))))))) ∧ (∀ row2 : ZI, (J0k sites clients i op out row2) → (out.length = out.length) ∧ ((1 : Nat) = 1) ∧ ((out.length + 1) * 24 ≤ 140737488355328) ∧ (I6 (i + 1)) ∧ (∃ i' : Int, ∃ op' : ZI, ∃ out' : ZR, (J0g sites clients i' op' out') ∧ (JY sites clients i' op' out' < JY sites clients i op out) ∧ (sites = sites) ∧ (clients = clients) ∧ ((clients.length : Int) = (clients.length : Int)) ∧ ((i + 1) = i') ∧ (op = op') ∧ ((out ++ [row2]) = out') ∧ (op.length = op'.length) ∧ ((out.length + 1) = out'.length))))) ∧ ((decide (i < (clients.length : Int))) = false → ((op.length = op.length) ∧ (out.length = out.length) ∧ ((.agg [.sl (.ints op), .sl (.rows out)] : D) = .agg [.sl (.ints (lfO sites clients)), .sl (.rows (lfD sites clients))]) ∧ (true = (J4 sites clients)))))))))
theorem J5b (sites : ZI) (clients : ZI)  (w_sites : (sites.length : Int) ≤ 9223372036854775807) (w_clients : (clients.length : Int) ≤ 9223372036854775807) : J2M sites clients := by
  unfold J2M Je Jl
  refine ⟨J0s (sites.length : Int) 1 7, id, ?_, id, rfl, fun _ => rfl, ?_, id, id, rfl, fun _ => rfl, ?_, id, fun _ => J18 clients 0 99, id, rfl, fun _ => rfl, ?_, id, fun _ => J1K clients, id, rfl, fun _ => rfl, ?_, ?_, ?_⟩
  ·intro hg
   refine J2R sites 100 ?_
   ·first | omega | rfl | (intro hg; simp only [nrmT] at hg; omega) | (intro g1 g2; simp [g1, g2]; done) | (intro g1; simp at g1 ⊢; simp [g1]; done) | (simp only [nrmT] at *; omega) | (simp at * <;> omega) | (simp_all <;> omega) | (simp_all; done)
  ·intro h; rw [h]; rfl
  ·intro h; rw [h]; rfl
  ·intro h; rw [h]; rfl
  ·intro h; rw [h]; rfl
  ·intro b1
   refine ⟨?_, ?_, ?_⟩
   ·have hq : J4 sites clients = false := by rw [Js, b1]; rfl
    first | (rw [J5T hq]; rfl) | (rw [J6n hq]; rfl)
   ·have hq : J4 sites clients = false := by rw [Js, b1]; rfl
    first | (rw [J5T hq]; rfl) | (rw [J6n hq]; rfl)
   have hq : J4 sites clients = false := by rw [Js, b1]; rfl
   exact hq.symm
  intro b2
  refine ⟨rfl, ?_, ?_, ?_, ?_⟩
  ·first | omega | rfl | (intro hg; simp only [nrmT] at hg; omega) | (intro g1 g2; simp [g1, g2]; done) | (intro g1; simp at g1 ⊢; simp [g1]; done) | (simp only [nrmT] at *; omega) | (simp at * <;> omega) | (simp_all <;> omega) | (simp_all; done)
  ·have hg : J4 sites clients = true := by rw [Js, b2]; rfl
   obtain ⟨g1, g2, g3, g4, g5⟩ := JA hg
   have sr := fun (k : Nat) (hk : k < sites.length) => JD g4 k hk
   omega
  ·refine ⟨0, (List.replicate ((sites.length : Int).toNat) (0 : Int)), ([]), ?_⟩
   refine ⟨?_, rfl, rfl, rfl, rfl, rfl, ?_, ?_, rfl⟩
   ·refine ⟨?_, ?_, ?_, ?_⟩
    ·first | omega | rfl | (intro hg; simp only [nrmT] at hg; omega) | (intro g1 g2; simp [g1, g2]; done) | (intro g1; simp at g1 ⊢; simp [g1]; done) | (simp only [nrmT] at *; omega) | (simp at * <;> omega) | (simp_all <;> omega) | (simp_all; done)
    ·first | omega | rfl | (intro hg; simp only [nrmT] at hg; omega) | (intro g1 g2; simp [g1, g2]; done) | (intro g1; simp at g1 ⊢; simp [g1]; done) | (simp only [nrmT] at *; omega) | (simp at * <;> omega) | (simp_all <;> omega) | (simp_all; done)
    ·rw [Int.toNat_natCast]
    ·first | omega | rfl | (intro hg; simp only [nrmT] at hg; omega) | (intro g1 g2; simp [g1, g2]; done) | (intro g1; simp at g1 ⊢; simp [g1]; done) | (simp only [nrmT] at *; omega) | (simp at * <;> omega) | (simp_all <;> omega) | (simp_all; done)
   ·first | omega | rfl | (intro hg; simp only [nrmT] at hg; omega) | (intro g1 g2; simp [g1, g2]; done) | (intro g1; simp at g1 ⊢; simp [g1]; done) | (simp only [nrmT] at *; omega) | (simp at * <;> omega) | (simp_all <;> omega) | (simp_all; done)
   first | omega | rfl | (intro hg; simp only [nrmT] at hg; omega) | (intro g1 g2; simp [g1, g2]; done) | (intro g1; simp at g1 ⊢; simp [g1]; done) | (simp only [nrmT] at *; omega) | (simp at * <;> omega) | (simp_all <;> omega) | (simp_all; done)
  intro i op out hJ
  obtain ⟨h1, h2, hop, h3⟩ := hJ
  refine ⟨?_, ?_⟩
  ·intro b3
   try simp only [nrmT] at b3
   refine ⟨?_, ?_, ?_, ?_, ?_⟩
   ·first | omega | rfl | (intro hg; simp only [nrmT] at hg; omega) | (intro g1 g2; simp [g1, g2]; done) | (intro g1; simp at g1 ⊢; simp [g1]; done) | (simp only [nrmT] at *; omega) | (simp at * <;> omega) | (simp_all <;> omega) | (simp_all; done)
   ·first | omega | rfl | (intro hg; simp only [nrmT] at hg; omega) | (intro g1 g2; simp [g1, g2]; done) | (intro g1; simp at g1 ⊢; simp [g1]; done) | (simp only [nrmT] at *; omega) | (simp at * <;> omega) | (simp_all <;> omega) | (simp_all; done)
   ·first | omega | rfl | (intro hg; simp only [nrmT] at hg; omega) | (intro g1 g2; simp [g1, g2]; done) | (intro g1; simp at g1 ⊢; simp [g1]; done) | (simp only [nrmT] at *; omega) | (simp at * <;> omega) | (simp_all <;> omega) | (simp_all; done)
   ·refine ⟨?_, ?_⟩
    ·refine ⟨([]), 0, ?_⟩
     refine ⟨?_, rfl, rfl, rfl, rfl, rfl, rfl, rfl, rfl, rfl, ?_, rfl, rfl, rfl, rfl⟩
     ·refine ⟨?_, ?_, ?_⟩
      ·first | omega | rfl | (intro hg; simp only [nrmT] at hg; omega) | (intro g1 g2; simp [g1, g2]; done) | (intro g1; simp at g1 ⊢; simp [g1]; done) | (simp only [nrmT] at *; omega) | (simp at * <;> omega) | (simp_all <;> omega) | (simp_all; done)
      ·first | omega | rfl | (intro hg; simp only [nrmT] at hg; omega) | (intro g1 g2; simp [g1, g2]; done) | (intro g1; simp at g1 ⊢; simp [g1]; done) | (simp only [nrmT] at *; omega) | (simp at * <;> omega) | (simp_all <;> omega) | (simp_all; done)
      ·first | omega | rfl | (intro hg; simp only [nrmT] at hg; omega) | (intro g1 g2; simp [g1, g2]; done) | (intro g1; simp at g1 ⊢; simp [g1]; done) | (simp only [nrmT] at *; omega) | (simp at * <;> omega) | (simp_all <;> omega) | (simp_all; done)
     first | omega | rfl | (intro hg; simp only [nrmT] at hg; omega) | (intro g1 g2; simp [g1, g2]; done) | (intro g1; simp at g1 ⊢; simp [g1]; done) | (simp only [nrmT] at *; omega) | (simp at * <;> omega) | (simp_all <;> omega) | (simp_all; done)
    ·intro row a hJ
     obtain ⟨h4, h5, h6⟩ := hJ
     refine ⟨?_, ?_⟩
     ·intro b4
      try simp only [nrmT] at b4
      refine ⟨?_, ?_, ?_, ?_, ?_, rfl, rfl, ?_, ?_, ?_⟩
      ·first | omega | rfl | (intro hg; simp only [nrmT] at hg; omega) | (intro g1 g2; simp [g1, g2]; done) | (intro g1; simp at g1 ⊢; simp [g1]; done) | (simp only [nrmT] at *; omega) | (simp at * <;> omega) | (simp_all <;> omega) | (simp_all; done)
      ·first | omega | rfl | (intro hg; simp only [nrmT] at hg; omega) | (intro g1 g2; simp [g1, g2]; done) | (intro g1; simp at g1 ⊢; simp [g1]; done) | (simp only [nrmT] at *; omega) | (simp at * <;> omega) | (simp_all <;> omega) | (simp_all; done)
      ·first | omega | rfl | (intro hg; simp only [nrmT] at hg; omega) | (intro g1 g2; simp [g1, g2]; done) | (intro g1; simp at g1 ⊢; simp [g1]; done) | (simp only [nrmT] at *; omega) | (simp at * <;> omega) | (simp_all <;> omega) | (simp_all; done)
      ·have hg : J4 sites clients = true := by rw [Js, b2]; rfl
       obtain ⟨g1, g2, g3, g4, g5⟩ := JA hg
       have sr := fun (k : Nat) (hk : k < sites.length) => JD g4 k hk
       have q1 := g5 i.toNat (by omega)
       have q2 := sr a.toNat (by omega)
       omega
      ·have hg : J4 sites clients = true := by rw [Js, b2]; rfl
       obtain ⟨g1, g2, g3, g4, g5⟩ := JA hg
       have sr := fun (k : Nat) (hk : k < sites.length) => JD g4 k hk
       have q1 := g5 i.toNat (by omega)
       have q2 := sr a.toNat (by omega)
       omega
      ·have hg0 : J4 sites clients = true := by first | exact hg | (rw [Js, b2]; rfl)
       obtain ⟨q1, q2, q3, q4, q5⟩ := JA hg0
       rw [h6, tabTo_len]; omega
      ·first | omega | rfl | (intro hg; simp only [nrmT] at hg; omega) | (intro g1 g2; simp [g1, g2]; done) | (intro g1; simp at g1 ⊢; simp [g1]; done) | (simp only [nrmT] at *; omega) | (simp at * <;> omega) | (simp_all <;> omega) | (simp_all; done)
      refine ⟨(row ++ [(max ((clients.getD i.toNat 0) - (sites.getD a.toNat 0)) ((sites.getD a.toNat 0) - (clients.getD i.toNat 0)))]), (a + 1), ?_⟩
      refine ⟨?_, ?_, rfl, rfl, ?_, rfl, rfl, rfl, rfl, rfl, rfl, rfl, rfl, rfl, rfl, rfl⟩
      ·refine ⟨?_, ?_, ?_⟩
       ·first | omega | rfl | (intro hg; simp only [nrmT] at hg; omega) | (intro g1 g2; simp [g1, g2]; done) | (intro g1; simp at g1 ⊢; simp [g1]; done) | (simp only [nrmT] at *; omega) | (simp at * <;> omega) | (simp_all <;> omega) | (simp_all; done)
       ·first | omega | rfl | (intro hg; simp only [nrmT] at hg; omega) | (intro g1 g2; simp [g1, g2]; done) | (intro g1; simp at g1 ⊢; simp [g1]; done) | (simp only [nrmT] at *; omega) | (simp at * <;> omega) | (simp_all <;> omega) | (simp_all; done)
       ·rw [show (a + 1).toNat = a.toNat + 1 by omega, tabTo_succ, h6]
      ·first | (show _ < _; omega) | (simp only [J01]; omega) | (simp only [J01] at *; simp at *; omega)
      first | omega | rfl | (intro hg; simp only [nrmT] at hg; omega) | (intro g1 g2; simp [g1, g2]; done) | (intro g1; simp at g1 ⊢; simp [g1]; done) | (simp only [nrmT] at *; omega) | (simp at * <;> omega) | (simp_all <;> omega) | (simp_all; done)
     intro b5
     try simp only [nrmT] at b5
     refine ⟨row, ?_⟩
     refine ⟨?_, rfl, rfl, rfl, rfl, rfl, rfl, rfl, rfl, rfl, rfl⟩
     ·unfold J0k
      rw [h6, show a.toNat = sites.length by omega]; rfl
   intro row2 hJ
   have h8 := hJ
   refine ⟨rfl, rfl, ?_, ?_, ?_⟩
   ·have hg0 : J4 sites clients = true := by first | exact hg | (rw [Js, b2]; rfl)
    obtain ⟨q1, q2, q3, q4, q5⟩ := JA hg0
    rw [h3, tabTo_len]; omega
   ·first | omega | rfl | (intro hg; simp only [nrmT] at hg; omega) | (intro g1 g2; simp [g1, g2]; done) | (intro g1; simp at g1 ⊢; simp [g1]; done) | (simp only [nrmT] at *; omega) | (simp at * <;> omega) | (simp_all <;> omega) | (simp_all; done)
   refine ⟨(i + 1), op, (out ++ [row2]), ?_⟩
   refine ⟨?_, ?_, rfl, rfl, rfl, rfl, rfl, rfl, rfl, ?_⟩
   ·refine ⟨?_, ?_, ?_, ?_⟩
    ·first | omega | rfl | (intro hg; simp only [nrmT] at hg; omega) | (intro g1 g2; simp [g1, g2]; done) | (intro g1; simp at g1 ⊢; simp [g1]; done) | (simp only [nrmT] at *; omega) | (simp at * <;> omega) | (simp_all <;> omega) | (simp_all; done)
    ·first | omega | rfl | (intro hg; simp only [nrmT] at hg; omega) | (intro g1 g2; simp [g1, g2]; done) | (intro g1; simp at g1 ⊢; simp [g1]; done) | (simp only [nrmT] at *; omega) | (simp at * <;> omega) | (simp_all <;> omega) | (simp_all; done)
    ·first | omega | rfl | (intro hg; simp only [nrmT] at hg; omega) | (intro g1 g2; simp [g1, g2]; done) | (intro g1; simp at g1 ⊢; simp [g1]; done) | (simp only [nrmT] at *; omega) | (simp at * <;> omega) | (simp_all <;> omega) | (simp_all; done)
    ·rw [h8, show (i + 1).toNat = i.toNat + 1 by omega, tabTo_succ, h3]
   ·first | (show _ < _; omega) | (simp only [JY]; omega) | (simp only [JY] at *; simp at *; omega)
   first | omega | rfl | (intro hg; simp only [nrmT] at hg; omega) | (intro g1 g2; simp [g1, g2]; done) | (intro g1; simp at g1 ⊢; simp [g1]; done) | (simp only [nrmT] at *; omega) | (simp at * <;> omega) | (simp_all <;> omega) | (simp_all; done)
  intro b6
  try simp only [nrmT] at b6
  refine ⟨rfl, rfl, ?_, ?_⟩
  ·have hg : J4 sites clients = true := by rw [Js, b2]; rfl
   rw [hop, h3, show i.toNat = clients.length by omega, J26 hg, J2B hg]; rfl
  have hg : J4 sites clients = true := by rw [Js, b2]; rfl
  exact hg.symm
theorem J4S (sites : ZI) (clients : ZI)  : PC Try.prog 39 [.sl (.ints sites), .sl (.ints clients)] (.tup [.d (.agg [.sl (.ints (lfO sites clients)), .sl (.rows (lfD sites clients))]), .d (.bool (J4 sites clients))]) :=
  pc_wf @Try.call39 fun hw => pc_by (by kernel_rfl) Try.func39 @Try.call39 (by kernel_rfl) J5M (J5y sites clients) (by kernel_rfl) (J5b sites clients hw.1 hw.2.1) (by kernel_rfl)
def J4t : List D → Orc := orcN [some .ints, some .ints] fun ds => match ds with
  | [.sl (.ints sites), .sl (.ints clients)] => some (.tup [.d (.agg [.sl (.ints (lfO sites clients)), .sl (.rows (lfD sites clients))]), .d (.bool (J4 sites clients))])
  | _ => none
def Jc (a b : ZI) : Int := if JV (a.length : Int) (b.length : Int) = 0 then Ja a b else JV (a.length : Int) (b.length : Int)
theorem J5m : ∀ x : ZI, Ja x x = 0
  | [] => rfl
  | x :: r => by unfold Ja; rw [if_neg (by omega), if_neg (by omega)]; exact J5m r
theorem J5n : ∀ {x y : ZI}, Ja x y = 0 → x = y
  | [], [], _ => rfl
  | [], _ :: _, h => by simp [Ja] at h
  | _ :: _, [], h => by simp [Ja] at h
  | x :: r, y :: s, h => by
    unfold Ja at h
    by_cases h1 : x < y
    · rw [if_pos h1] at h; omega
    rw [if_neg h1] at h
    by_cases h2 : x > y
    · rw [if_pos h2] at h; omega
    rw [if_neg h2] at h
    have : x = y := by omega
    rw [this, J5n h]
theorem J5g : ∀ {x y : ZI}, Ja x y < 0 ↔ 0 < Ja y x
  | [], [] => by simp [Ja]
  | [], _ :: _ => by simp [Ja]
  | _ :: _, [] => by simp [Ja]
  | x :: r, y :: s => by
    unfold Ja
    by_cases h1 : x < y
    · rw [if_pos h1, if_neg (by omega), if_pos (by omega)]; omega
    rw [if_neg h1]
    by_cases h2 : x > y
    · rw [if_pos h2, if_pos (by omega)]; omega
    rw [if_neg h2, if_neg (by omega), if_neg (by omega)]; exact J5g
theorem J6Y : ∀ {x y z : ZI}, Ja x y < 0 → Ja y z < 0 → Ja x z < 0
  | [], _, [], h1, h2 => by
    exfalso
    rename_i y
    cases y with
    | nil => simp [Ja] at h1
    | cons y s => simp [Ja] at h2
  | [], _, _ :: _, _, _ => by simp [Ja]
  | _ :: _, [], _, h, _ => by simp [Ja] at h
  | _ :: _, _ :: _, [], _, h => by simp [Ja] at h
  | x :: r, y :: s, z :: t, h1, h2 => by
    unfold Ja at h1 h2 ⊢
    by_cases a1 : x < y
    · by_cases a2 : y < z
      · rw [if_pos (by omega)]; omega
      · rw [if_neg a2] at h2
        by_cases a3 : y > z
        · rw [if_pos a3] at h2; omega
        rw [if_pos (by omega)]; omega
    rw [if_neg a1] at h1
    by_cases a4 : x > y
    · rw [if_pos a4] at h1; omega
    rw [if_neg a4] at h1
    by_cases a2 : y < z
    · rw [if_pos (by omega)]; omega
    rw [if_neg a2] at h2
    by_cases a3 : y > z
    · rw [if_pos a3] at h2; omega
    rw [if_neg a3] at h2
    rw [if_neg (by omega), if_neg (by omega)]
    exact J6Y h1 h2
theorem JH (a b : ZI) : (a.length < b.length ∧ Jc a b < 0) ∨ (b.length < a.length ∧ 0 < Jc a b) ∨ (a.length = b.length ∧ Jc a b = Ja a b) := by
  unfold Jc JV
  by_cases h1 : (a.length : Int) < b.length
  · rw [if_pos h1]; left; exact ⟨by omega, by rw [if_neg (by omega)]; omega⟩
  rw [if_neg h1]
  by_cases h2 : (a.length : Int) > b.length
  · rw [if_pos h2]; right; left; exact ⟨by omega, by rw [if_neg (by omega)]; omega⟩
  rw [if_neg h2]; right; right; exact ⟨by omega, by rw [if_pos rfl]⟩
theorem J5h (a : ZI) : Jc a a = 0 := by
  rcases JH a a with h | h | h
  · omega
  · omega
  rw [h.2, J5m]
theorem J5e {a b : ZI} (h : Jc a b = 0) : a = b := by
  rcases JH a b with h1 | h1 | h1
  · omega
  · omega
  exact J5n (h1.2 ▸ h)
theorem J3g {a b : ZI} : Jc a b < 0 ↔ 0 < Jc b a := by
  rcases JH a b with h1 | h1 | h1 <;> rcases JH b a with h2 | h2 | h2
  · omega
  · omega
  · omega
  · omega
  · omega
  · omega
  · omega
  · omega
  rw [h1.2, h2.2]; exact J5g
theorem J70 {a b c : ZI} (h : Jc a b < 0) (k : Jc b c < 0) : Jc a c < 0 := by
  rcases JH a b with h1 | h1 | h1 <;> rcases JH b c with h2 | h2 | h2 <;> rcases JH a c with h3 | h3 | h3
  all_goals first | omega | (rw [h3.2]; exact J6Y (h1.2 ▸ h) (h2.2 ▸ k))
theorem J84 {β : Type} {c : β → β → Int} (hs : ∀ x, c x x = 0) (h0 : ∀ {x y}, c x y = 0 → x = y) (hf : ∀ {x y}, c x y < 0 ↔ 0 < c y x) (ht : ∀ {x y z}, c x y < 0 → c y z < 0 → c x z < 0) :
    Go.Sort.SWO (ltOf c) ∧ ∀ x y, ltOf c x y = false → ltOf c y x = false → x = y := by
  refine ⟨⟨fun x => ?_, fun x y z h1 h2 => ?_, fun x y z h1 h2 => ?_⟩, fun x y h1 h2 => ?_⟩
  · exact decide_eq_false (by rw [hs]; omega)
  · exact decide_eq_true (ht (of_decide_eq_true h1) (of_decide_eq_true h2))
  · have h1 := of_decide_eq_false h1
    have h2 := of_decide_eq_false h2
    refine decide_eq_false fun h3 => ?_
    by_cases e1 : c x y = 0
    · rw [h0 e1] at h3; omega
    by_cases e2 : c y z = 0
    · rw [← h0 e2] at h3; omega
    · have a1 : c y x < 0 := hf.2 (by omega)
      have a2 : c z y < 0 := hf.2 (by omega)
      have a3 := ht a2 a1
      have a4 := hf.1 h3
      omega
  have h1 := of_decide_eq_false h1
  have h2 := of_decide_eq_false h2
  refine h0 ?_
  by_cases e1 : 0 < c x y
  · have := hf.2 e1; omega
  omega
theorem J8h : Go.Sort.SWO (ltOf Jc) := (J84 J5h J5e J3g J70).1
theorem J8F : ∀ x y, ltOf Jc x y = false → ltOf Jc y x = false → x = y := (J84 J5h J5e J3g J70).2
def orI : ZI → Int
  | [] => 0
  | x :: r => if x = 0 then orI r else x
theorem J5U {xs : ZI} {i : Nat} (h : orI xs = orI (xs.drop i)) (hi : i < xs.length) : orI xs = if xs.getD i 0 = 0 then orI (xs.drop (i + 1)) else xs.getD i 0 := by
  rw [h, List.drop_eq_getElem_cons hi, J07 hi]; rfl
theorem J8C {xs : ZI} {i : Nat} (h : orI xs = orI (xs.drop i)) (hi : xs.length ≤ i) : orI xs = 0 := by
  rw [h, List.drop_eq_nil_of_le hi]; rfl
theorem J8y (a b : Int) : orI [a, b] = if a = 0 then b else a := by
  unfold orI orI orI
  by_cases h : b = 0
  · rw [if_pos h, h]
  rw [if_neg h]
def J1A (n m : Nat) : ZR := (List.range m).map fun c => lst n (c + 1)
def J2 (n : Nat) : ZR := (J1A n (2 ^ n - 1)).mergeSort fun x9 y9 => !(ltOf Jc) y9 x9
theorem J05 (n m : Nat) : (J1A n m).length = m := by simp [J1A]
theorem J5i (n : Nat) : (J2 n).length = 2 ^ n - 1 := by unfold J2; rw [List.length_mergeSort, J05]
theorem J5j (n m : Nat) : J1A n (m + 1) = J1A n m ++ [lst n (m + 1)] := by simp [J1A, List.range_succ]
theorem J5d {n : Nat} {s : ZI} : s ∈ J2 n ↔ ∃ c, 1 ≤ c ∧ c < 2 ^ n ∧ lst n c = s := by
  unfold J2
  rw [(List.mergeSort_perm _ _).mem_iff, J1A, List.mem_map]
  constructor
  · rintro ⟨c, hc, rfl⟩
    have := List.mem_range.1 hc
    exact ⟨c + 1, by omega, by omega, rfl⟩
  rintro ⟨c, h1, h2, rfl⟩
  exact ⟨c - 1, List.mem_range.2 (by omega), by rw [show c - 1 + 1 = c by omega]⟩
theorem J8u {n c : Nat} (h1 : 1 ≤ c) (h2 : c < 2 ^ n) : 0 < (lst n c).length := by
  rcases Nat.eq_zero_or_pos (lst n c).length with h | h
  · exfalso
    have e : lst n c = [] := List.eq_nil_of_length_eq_zero h
    have : c = 0 := by
      apply Nat.eq_of_testBit_eq
      intro i
      rw [Nat.zero_testBit]
      by_cases hi : i < n
      · cases hb : c.testBit i with
        | false => rfl
        | true =>
          have hm : (i : Int) ∈ lst n c := mem_members.2 ⟨by omega, by omega, by rw [Int.toNat_natCast]; exact hb⟩
          rw [e] at hm; cases hm
      exact Nat.testBit_lt_two_pow (Nat.lt_of_lt_of_le h2 (Nat.pow_le_pow_right (by omega) (by omega)))
    omega
  exact h
theorem J8E {n c : Nat} (hn : n ≤ 62) (h : c < 2 ^ n) : members (fun k => c.testBit k) 62 = lst n c :=
  J1k (fun k hk => Nat.testBit_lt_two_pow (Nat.lt_of_lt_of_le h (Nat.pow_le_pow_right (by omega) hk))) 62 hn
theorem J7n {out : ZR} {s : ZI} {k : Nat} (ho : out.Pairwise fun x9 y9 => ltOf Jc y9 x9 = false) (hk : k ≤ out.length) (h1 : ∀ j, k ≤ j → j < out.length → Jc s (out.getD j []) < 0) (h2 : k = 0 ∨ ¬ Jc s (out.getD (k - 1) []) < 0) :
    ((out.take k ++ [s]) ++ out.drop k).Pairwise fun x9 y9 => ltOf Jc y9 x9 = false := by
  have hle : ∀ x ∈ out.take k, ltOf Jc s x = false := by
    intro x hx
    obtain ⟨j, hj, rfl⟩ := List.mem_iff_getElem.1 hx
    have hj' : j < k ∧ j < out.length := by rw [List.length_take] at hj; omega
    rcases h2 with h2 | h2
    · omega
    have hs : ltOf Jc s (out.getD (k - 1) []) = false := decide_eq_false h2
    by_cases e : j = k - 1
    · subst e; rw [J07 (by omega)] at hs; simpa using hs
    have := List.pairwise_iff_getElem.1 ho j (k - 1) (by omega) (by omega) (by omega)
    rw [J07 (by omega)] at hs
    simpa using J8h.ntrans _ _ _ hs this
  have hgt : ∀ y ∈ out.drop k, ltOf Jc y s = false := by
    intro y hy
    obtain ⟨j, hj, rfl⟩ := List.mem_iff_getElem.1 hy
    have hj' : k + j < out.length := by rw [List.length_drop] at hj; omega
    have := h1 (k + j) (by omega) hj'
    rw [J07 hj'] at this
    rw [List.getElem_drop]
    refine decide_eq_false fun h => ?_
    have := J3g.1 h
    omega
  refine List.pairwise_append.2 ⟨List.pairwise_append.2 ⟨ho.sublist (List.take_sublist _ _), by simp, fun a ha b hb => ?_⟩, ho.sublist (List.drop_sublist _ _), fun a ha b hb => ?_⟩
  · have : b = s := by simpa using hb
    subst this; exact hle a ha
  rcases List.mem_append.1 ha with ha | ha
  · obtain ⟨i, hi, rfl⟩ := List.mem_iff_getElem.1 ha
    obtain ⟨j, hj, rfl⟩ := List.mem_iff_getElem.1 hb
    have hi' : i < k ∧ i < out.length := by rw [List.length_take] at hi; omega
    have hj' : k + j < out.length := by rw [List.length_drop] at hj; omega
    have := List.pairwise_iff_getElem.1 ho i (k + j) hi'.2 hj' (by omega)
    simpa using this
  · have : a = s := by simpa using ha
    subst this; exact hgt b hb
theorem J8e {out : ZR} {s : ZI} {n m k : Nat} (hp : out.Perm (J1A n m)) (hs : s = lst n (m + 1)) : ((out.take k ++ [s]) ++ out.drop k).Perm (J1A n (m + 1)) := by
  rw [J5j, ← hs, List.append_assoc]
  refine List.Perm.trans (List.perm_append_comm_assoc _ _ _) ?_
  refine List.Perm.trans ?_ (List.perm_append_comm)
  rw [List.take_append_drop]
  exact hp.append_left [s]
theorem J7T {out : ZR} {n m : Nat} (hp : out.Perm (J1A n m)) (hm : m = 2 ^ n - 1) (ho : out.Pairwise fun x9 y9 => ltOf Jc y9 x9 = false) : out = J2 n := by
  subst hm
  exact sortedBy_unique J8h J8F hp ho
abbrev J0m (xs : ZI) (i : Int) : Prop := (0 ≤ i) ∧ (i ≤ (xs.length : Int)) ∧ (orI xs = orI (xs.drop i.toNat))
abbrev J0l (xs : ZI) (i : Int) : Nat := (xs.length - i).toNat
def J5A (f : FuncId) (ds : List D) : Orc := .no
def J5E (xs : ZI) : Ann := .two (.none) (.two (.none) (.two (.two (.none) (.loop (cut1 (fun (i : Int) => J0m xs i) (fun (i : Int) => [(3, .d true (.int .i64 0)), (6, .d false (.sl (.ints xs))), (7, .d true (.int .i64 (xs.length : Int))), (8, .d true (.int .i64 i))]) (fun (i : Int) => [])) (fun g => J0l xs g) (fun _ => .none))) (.none)))
def J2J (xs : ZI) : Prop :=
  ((∃ i' : Int, (J0m xs i') ∧ ((0 : Int) = 0) ∧ (xs = xs) ∧ ((xs.length : Int) = (xs.length : Int)) ∧ ((0 : Int) = i')) ∧ (∀ i : Int, (J0m xs i) → (((decide (i < (xs.length : Int))) = true → ((0 : Int) ≤ i) ∧ ((i : Int) < xs.length) ∧ (i.toNat < xs.length) ∧ ((((xs.getD i.toNat 0) != 0) = true → (((xs.getD i.toNat 0) = (orI xs)))) ∧ (((xs.getD i.toNat 0) != 0) = false → (I6 (i + 1)) ∧ (∃ i' : Int, (J0m xs i') ∧ (J0l xs i' < J0l xs i) ∧ ((0 : Int) = 0) ∧ (xs = xs) ∧ ((xs.length : Int) = (xs.length : Int)) ∧ ((i + 1) = i'))))) ∧ ((decide (i < (xs.length : Int))) = false → (((0 : Int) = (orI xs)))))))
theorem J4Y (xs : ZI)  (w_xs : (xs.length : Int) ≤ 9223372036854775807) : J2J xs := by
  unfold J2J
  refine ⟨?_, ?_⟩
  ·refine ⟨0, ?_⟩
   refine ⟨?_, rfl, rfl, rfl, rfl⟩
   ·refine ⟨?_, ?_, ?_⟩
    ·omega
    ·omega
    ·rfl
  intro i hJ
  obtain ⟨h1, h2, h3⟩ := hJ
  refine ⟨?_, ?_⟩
  ·intro b1
   try simp only [nrmT] at b1
   refine ⟨?_, ?_, ?_, ?_, ?_⟩
   ·omega
   ·omega
   ·omega
   ·intro b2
    try simp only [nrmT] at b2
    rw [J5U h3 (by omega), if_neg (by omega)]
   intro b3
   try simp only [nrmT] at b3
   refine ⟨?_, ?_⟩
   ·omega
   refine ⟨(i + 1), ?_⟩
   refine ⟨?_, ?_, rfl, rfl, rfl, rfl⟩
   ·refine ⟨?_, ?_, ?_⟩
    ·omega
    ·omega
    ·rw [J5U h3 (by omega), if_pos (by omega), show (i + 1).toNat = i.toNat + 1 by omega]
   (simp only [J0l]; omega)
  intro b4
  try simp only [nrmT] at b4
  exact (J8C h3 (by omega)).symm
theorem J4U (xs : ZI)  : PC Try.prog 234 [.sl (.ints xs)] (.one (.d (.int .i64 (orI xs)))) :=
  pc_wf @Try.call234 fun hw => pc_by (by kernel_rfl) Try.func234 @Try.call234 (by kernel_rfl) J5A (J5E xs) (by kernel_rfl) (J4Y xs hw.1) (by kernel_rfl)
def J4e : List D → Orc := orcN [some .ints] fun ds => match ds with
  | [.sl (.ints xs)] => some (.one (.d (.int .i64 (orI xs))))
  | _ => none
def J4f (f : FuncId) (ds : List D) : Orc := bif Nat.beq f 235 then J1b ds else bif Nat.beq f 236 then J1I ds else bif Nat.beq f 234 then J4e ds else .no
def J4w (xs : ZI) (ys : ZI) : Ann := .none
def J2r (xs : ZI) (ys : ZI) : Prop :=
  (PC Try.prog 235 [.int .i64 (xs.length : Int), .int .i64 (ys.length : Int)] (.one (.d (.int .i64 (JV (xs.length : Int) (ys.length : Int)))))) ∧ (PC Try.prog 236 [.sl (.ints xs), .sl (.ints ys)] (.one (.d (.int .i64 (Ja xs ys))))) ∧ ((2 : Nat) = 2) ∧ (PC Try.prog 234 [.sl (.ints ([(JV (xs.length : Int) (ys.length : Int)), (Ja xs ys)]))] (.one (.d (.int .i64 (orI ([(JV (xs.length : Int) (ys.length : Int)), (Ja xs ys)])))))) ∧ (((orI ([(JV (xs.length : Int) (ys.length : Int)), (Ja xs ys)])) = (Jc xs ys)))
theorem J3N (xs : ZI) (ys : ZI)  (w_xs : (xs.length : Int) ≤ 9223372036854775807) (w_ys : (ys.length : Int) ≤ 9223372036854775807) : J2r xs ys := by
  unfold J2r
  refine ⟨J1u (xs.length : Int) (ys.length : Int), J1O xs ys, rfl, J4U ([(JV (xs.length : Int) (ys.length : Int)), (Ja xs ys)]), ?_⟩
  ·rw [J8y]; rfl
theorem J44 (xs : ZI) (ys : ZI)  : PC Try.prog 208 [.sl (.ints xs), .sl (.ints ys)] (.one (.d (.int .i64 (Jc xs ys)))) :=
  pc_wf @Try.call208 fun hw => pc_by (by kernel_rfl) Try.func208 @Try.call208 (by kernel_rfl) J4f (J4w xs ys) (by kernel_rfl) (J3N xs ys hw.1 hw.2.1) (by kernel_rfl)
abbrev J0G (xs : ZI) (ys : ZI) (i : Int) : Prop := (0 ≤ i) ∧ (i ≤ (xs.length : Int)) ∧ (xs.length = ys.length) ∧ (Ja xs ys = Ja (xs.drop i.toNat) (ys.drop i.toNat))
abbrev J0B (xs : ZI) (ys : ZI) (i : Int) : Nat := (xs.length - i).toNat
def J5R (f : FuncId) (ds : List D) : Orc := .no
def J60 (xs : ZI) (ys : ZI) : Ann := .two (.none) (.two (.none) (.two (.two (.none) (.loop (cut1 (fun (i : Int) => J0G xs ys i) (fun (i : Int) => [(0, .d false (.sl (.ints xs))), (1, .d false (.sl (.ints ys))), (5, .d true (.int .i64 i))]) (fun (i : Int) => [])) (fun g => J0B xs ys g) (fun _ => .none))) (.none)))
def J2Z (xs : ZI) (ys : ZI) : Prop :=
  ((((xs.length : Int) != (ys.length : Int)) = true → (((decide ((xs.length : Int) < (ys.length : Int))) = (decide (Jc xs ys < 0))))) ∧ (((xs.length : Int) != (ys.length : Int)) = false → ((∃ i' : Int, (J0G xs ys i') ∧ (xs = xs) ∧ (ys = ys) ∧ ((0 : Int) = i')) ∧ (∀ i : Int, (J0G xs ys i) → (((decide (i < (xs.length : Int))) = true → (true = true) ∧ ((0 : Int) ≤ i) ∧ ((i : Int) < xs.length) ∧ (i.toNat < xs.length) ∧ ((0 : Int) ≤ i) ∧ ((i : Int) < ys.length) ∧ (i.toNat < ys.length) ∧ ((((xs.getD i.toNat 0) != (ys.getD i.toNat 0)) = true → (true = true) ∧ ((0 : Int) ≤ i) ∧ ((i : Int) < xs.length) ∧ (i.toNat < xs.length) ∧ ((0 : Int) ≤ i) ∧ ((i : Int) < ys.length) ∧ (i.toNat < ys.length) ∧ (((decide ((xs.getD i.toNat 0) < (ys.getD i.toNat 0))) = (decide (Jc xs ys < 0))))) ∧ (((xs.getD i.toNat 0) != (ys.getD i.toNat 0)) = false → (I6 (i + 1)) ∧ (∃ i' : Int, (J0G xs ys i') ∧ (J0B xs ys i' < J0B xs ys i) ∧ (xs = xs) ∧ (ys = ys) ∧ ((i + 1) = i'))))) ∧ ((decide (i < (xs.length : Int))) = false → ((false = (decide (Jc xs ys < 0))))))))))
theorem J5O (xs : ZI) (ys : ZI)  (w_xs : (xs.length : Int) ≤ 9223372036854775807) (w_ys : (ys.length : Int) ≤ 9223372036854775807) : J2Z xs ys := by
  unfold J2Z
  refine ⟨?_, ?_⟩
  ·intro b1
   try simp only [nrmT] at b1
   rcases JH xs ys with h | h | h
   · rw [decide_eq_true h.2, decide_eq_true (by omega)]
   · rw [decide_eq_false (by omega), decide_eq_false (by omega)]
   omega
  intro b2
  try simp only [nrmT] at b2
  refine ⟨?_, ?_⟩
  ·refine ⟨0, ?_⟩
   refine ⟨?_, rfl, rfl, rfl⟩
   ·refine ⟨?_, ?_, ?_, ?_⟩
    ·omega
    ·omega
    ·omega
    ·rfl
  intro i hJ
  obtain ⟨h1, h2, hl, h3⟩ := hJ
  refine ⟨?_, ?_⟩
  ·intro b3
   try simp only [nrmT] at b3
   refine ⟨rfl, ?_, ?_, ?_, ?_, ?_, ?_, ?_, ?_⟩
   ·omega
   ·omega
   ·omega
   ·omega
   ·omega
   ·omega
   ·intro b4
    try simp only [nrmT] at b4
    refine ⟨rfl, ?_, ?_, ?_, ?_, ?_, ?_, ?_⟩
    ·omega
    ·omega
    ·omega
    ·omega
    ·omega
    ·omega
    have h5 : Jc xs ys = Ja xs ys := by rcases JH xs ys with h | h | h <;> first | omega | exact h.2
    rw [h5, J2o h3 (by omega) (by omega)]
    by_cases h6 : xs.getD i.toNat 0 < ys.getD i.toNat 0
    · rw [if_pos h6, decide_eq_true h6]; rfl
    rw [if_neg h6, if_pos (by omega), decide_eq_false h6]; rfl
   intro b5
   try simp only [nrmT] at b5
   refine ⟨?_, ?_⟩
   ·omega
   refine ⟨(i + 1), ?_⟩
   refine ⟨?_, ?_, rfl, rfl, rfl⟩
   ·refine ⟨?_, ?_, ?_, ?_⟩
    ·omega
    ·omega
    ·exact hl
    ·rw [J2o h3 (by omega) (by omega), show (i + 1).toNat = i.toNat + 1 by omega, if_neg (by omega), if_neg (by omega)]
   (simp only [J0B]; omega)
  intro b6
  try simp only [nrmT] at b6
  have h5 : Jc xs ys = Ja xs ys := by rcases JH xs ys with h | h | h <;> first | omega | exact h.2
  rw [h5, J45 h3 (by omega) (by omega) (by omega), if_neg (by omega)]; rfl
theorem J5P (xs : ZI) (ys : ZI)  : PC Try.prog 239 [.sl (.ints xs), .sl (.ints ys)] (.one (.d (.bool (decide (Jc xs ys < 0))))) :=
  pc_wf @Try.call239 fun hw => pc_by (by kernel_rfl) Try.func239 @Try.call239 (by kernel_rfl) J5R (J60 xs ys) (by kernel_rfl) (J5O xs ys hw.1 hw.2.1) (by kernel_rfl)
def J5c : List D → Orc := orcN [some .ints, some .ints] fun ds => match ds with
  | [.sl (.ints xs), .sl (.ints ys)] => some (.one (.d (.bool (decide (Jc xs ys < 0)))))
  | _ => none
theorem J11 (xss : ZR) (hz : xss.length < 4611686018427387904) : PU Try.prog 207 26 (.rows xss) (.rows (xss.mergeSort (fun x9 y9 => !(ltOf Jc) y9 x9))) [.fn 208 0 []] false :=
  pu_sortFunc Try.laySortRows 26 xss (fun x => .sl (.ints x)) Jc J8h J8F 208 (fun x _ y _ => J44 x y) _ _ rfl rfl rfl (List.length_mergeSort _) (fun _ => rfl) (fun i x h => by simp [Mem.get, h]) (fun i x h => by simp [Mem.get, h]) hz @Try.call208
abbrev JO (b : Int) (out : ZI) (x : Int) : Prop := (0 ≤ x) ∧ (x ≤ 62) ∧ (out = members (fun k => b.toNat.testBit k) x.toNat)
abbrev Ju (b : Int) (out : ZI) (x : Int) : Nat := (62 - x).toNat
def J4P (f : FuncId) (ds : List D) : Orc := bif Nat.beq f 226 then J5G ds else .no
def J59 (b : Int) : Ann := .two (.none) (.two (.none) (.two (.two (.none) (.loop (cut2 (fun (out : ZI) (x : Int) => JO b out x) (fun (out : ZI) (x : Int) => [(0, .d false (.int .u64 b)), (3, .own 1000000 out.length), (4, .d true (.int .i64 x))]) (fun (out : ZI) (x : Int) => [(1000000, .arr true 3 (.ints out))])) (fun g => Ju b g.1 g.2) (fun _ => .none))) (.none)))
def J2z (b : Int) : Prop :=
  ((∃ out' : ZI, ∃ x' : Int, (JO b out' x') ∧ (b = b) ∧ ((0 : Nat) = out'.length) ∧ ((0 : Int) = x') ∧ ([] = out')) ∧ (∀ out : ZI, ∀ x : Int, (JO b out x) → ((0 : Int) ≤ b ∧ (b : Int) ≤ 18446744073709551615) ∧ ((0 : Int) ≤ x) ∧ (((decide ((b / 2 ^ x.toNat) > 0)) = true → (PC Try.prog 226 [.int .u64 b, .int .i64 x] (.one (.d (.bool (b.toNat.testBit x.toNat))))) ∧ (((b.toNat.testBit x.toNat) = true → (out.length = out.length) ∧ ((1 : Nat) = 1) ∧ ((out.length + 1) * 8 ≤ 140737488355328) ∧ (I6 (x + 1)) ∧ (∃ out' : ZI, ∃ x' : Int, (JO b out' x') ∧ (Ju b out' x' < Ju b out x) ∧ (b = b) ∧ ((out.length + 1) = out'.length) ∧ ((x + 1) = x') ∧ ((out ++ [x]) = out'))) ∧ ((b.toNat.testBit x.toNat) = false → (I6 (x + 1)) ∧ (∃ out' : ZI, ∃ x' : Int, (JO b out' x') ∧ (Ju b out' x' < Ju b out x) ∧ (b = b) ∧ (out.length = out'.length) ∧ ((x + 1) = x') ∧ (out = out'))))) ∧ ((decide ((b / 2 ^ x.toNat) > 0)) = false → ((out.length = out.length) ∧ ((out : ZI) = (members (fun k => b.toNat.testBit k) 62)))))))
theorem J4p (b : Int) (hb : 0 ≤ b ∧ b ≤ 4611686018427387903)  : J2z b := by
  unfold J2z
  refine ⟨?_, ?_⟩
  ·refine ⟨([]), 0, ?_⟩
   refine ⟨?_, rfl, rfl, rfl, ?_⟩
   ·refine ⟨?_, ?_, ?_⟩
    ·omega
    ·omega
    ·rfl
   rfl
  intro out x hJ
  obtain ⟨h1, h2, h3⟩ := hJ
  refine ⟨?_, ?_, ?_, ?_⟩
  ·omega
  ·omega
  ·intro b1
   try simp only [nrmT] at b1
   refine ⟨?_, ?_, ?_⟩
   ·refine J5Y b x ?_ ?_
    ·omega
    ·omega
   ·intro b2
    try simp only [nrmT] at b2
    refine ⟨rfl, rfl, ?_, ?_, ?_⟩
    ·rw [h3]; have := members_len_le (fun k => b.toNat.testBit k) x.toNat; omega
    ·omega
    refine ⟨(out ++ [x]), (x + 1), ?_⟩
    refine ⟨?_, ?_, rfl, ?_, rfl, rfl⟩
    ·refine ⟨?_, ?_, ?_⟩
     ·omega
     ·have := J79 hb h2 b1; omega
     ·rw [h3, show (x + 1).toNat = x.toNat + 1 by omega, members_succ, b2]; simp; try omega
    ·have := J79 hb h2 b1
     (simp only [Ju]; omega)
    (simp_all; done)
   intro b3
   try simp only [nrmT] at b3
   refine ⟨?_, ?_⟩
   ·omega
   refine ⟨out, (x + 1), ?_⟩
   refine ⟨?_, ?_, rfl, rfl, rfl, rfl⟩
   ·refine ⟨?_, ?_, ?_⟩
    ·omega
    ·have := J79 hb h2 b1; omega
    ·rw [h3, show (x + 1).toNat = x.toNat + 1 by omega, members_succ, b3]; simp; try omega
   have := J79 hb h2 b1
   (simp only [Ju]; omega)
  intro b4
  try simp only [nrmT] at b4
  refine ⟨rfl, ?_⟩
  ·rw [h3]; refine (J1k (fun k hk => J8w hb.1 (m := x.toNat) (by omega) k hk) 62 (by omega)).symm
theorem J4h (b : Int) (hb : 0 ≤ b ∧ b ≤ 4611686018427387903) : PC Try.prog 188 [.int .u64 b] (.one (.d (.sl (.ints (members (fun k => b.toNat.testBit k) 62))))) :=
  pc_wf @Try.call188 fun _ => pc_by (by kernel_rfl) Try.func188 @Try.call188 (by kernel_rfl) J4P (J59 b) (by kernel_rfl) (J4p b hb) (by kernel_rfl)
abbrev J22 (n : Int) (out : ZR) (b : Int) : Prop := (1 ≤ b) ∧ (b ≤ ((2 ^ n.toNat : Nat) : Int)) ∧ (out = J1A n.toNat (b.toNat - 1))
abbrev J24 (n : Int) (out : ZR) (b : Int) : Nat := (((2 ^ n.toNat : Nat) : Int) - b).toNat
abbrev J21 (n : Int) (out2 : ZR) : Prop := (out2 = J1A n.toNat (2 ^ n.toNat - 1))
def J8q (f : FuncId) (ds : List D) : Orc := .no
def J89 (n : Int) : Ann := .two (.none) (.two (.none) (.cut (.two (.none) (.loop (cut2 (fun (out : ZR) (b : Int) => J22 n out b) (fun (out : ZR) (b : Int) => [(0, .d false (.int .i64 n)), (3, .own 1000000 out.length), (4, .d true (.int .u64 b))]) (fun (out : ZR) (b : Int) => [(1000000, .arr true 26 (.rows out))])) (fun g => J24 n g.1 g.2) (fun g => (fun (out : ZR) (b : Int) => .two (.none) (.two (.reg [(2, .call none (.one (.d (.sl (.ints (members (fun k => b.toNat.testBit k) 62))))))]) (.none))) (g.1) (g.2)))) (cut1 (fun (out2 : ZR) => J21 n out2) (fun (out2 : ZR) => [(3, .own 1000050 out2.length)]) (fun (out2 : ZR) => [(1000050, .arr true 26 (.rows out2))])) (fun g => (fun (out2 : ZR) => .two (.mark [] [(1, .up (.rows (out2.mergeSort (fun x9 y9 => !(ltOf Jc) y9 x9))) false)]) (.none)) g)))
def J5W (n : Int) : Prop :=
  ((((∃ out' : ZR, ∃ b' : Int, (J22 n out' b') ∧ (n = n) ∧ ((0 : Nat) = out'.length) ∧ ((1 : Int) = b') ∧ ([] = out')) ∧ (∀ out : ZR, ∀ b : Int, (J22 n out b) → ((0 : Int) ≤ 1) ∧ ((0 : Int) ≤ n) ∧ ((0 : Int) ≤ ((1 : Int) * 2 ^ n.toNat) ∧ (((1 : Int) * 2 ^ n.toNat) : Int) ≤ 18446744073709551615) ∧ (((decide (b < ((1 : Int) * 2 ^ n.toNat))) = true → (PC Try.prog 188 [.int .u64 b] (.one (.d (.sl (.ints (members (fun k => b.toNat.testBit k) 62)))))) ∧ (out.length = out.length) ∧ ((1 : Nat) = 1) ∧ ((out.length + 1) * 24 ≤ 140737488355328) ∧ (0 ≤ (b + 1) ∧ (b + 1) ≤ 18446744073709551615) ∧ (∃ out' : ZR, ∃ b' : Int, (J22 n out' b') ∧ (J24 n out' b' < J24 n out b) ∧ (n = n) ∧ ((out.length + 1) = out'.length) ∧ ((b + 1) = b') ∧ ((out ++ [(members (fun k => b.toNat.testBit k) 62)]) = out'))) ∧ ((decide (b < ((1 : Int) * 2 ^ n.toNat))) = false → (∃ out2' : ZR, (J21 n out2') ∧ (out.length = out2'.length) ∧ (out = out2'))))))) ∧ (∀ out2 : ZR, (J21 n out2) → (out2.length = out2.length) ∧ (PU Try.prog 207 26 (.rows out2) (.rows (out2.mergeSort (fun x9 y9 => !(ltOf Jc) y9 x9))) [.fn 208 0 []] false) ∧ ((out2.length = (out2.mergeSort (fun x9 y9 => !(ltOf Jc) y9 x9)).length) ∧ (((out2.mergeSort (fun x9 y9 => !(ltOf Jc) y9 x9)) : ZR) = J2 n.toNat))))
theorem J7Q (n : Int) (hn : 0 ≤ n ∧ n ≤ 8)  : J5W n := by
  unfold J5W
  have p7 := J8G (n := n.toNat) (by omega)
  have pp := Nat.two_pow_pos n.toNat
  have e0 := J6X n.toNat
  have e1 : ((2 : Int) ^ n.toNat) = ((2 ^ n.toNat : Nat) : Int) := by simp
  refine ⟨?_, ?_⟩
  ·refine ⟨?_, ?_⟩
   ·refine ⟨([]), 1, ?_⟩
    refine ⟨?_, rfl, rfl, rfl, ?_⟩
    ·refine ⟨?_, ?_, ?_⟩
     ·omega
     ·generalize 2 ^ n.toNat = M at *
      omega
     ·rfl
    rfl
   ·intro out b hJ
    obtain ⟨h1, h2, h3⟩ := hJ
    refine ⟨?_, ?_, ?_, ?_, ?_⟩
    ·omega
    ·omega
    ·rw [Int.one_mul, e1]
     generalize 2 ^ n.toNat = M at *
     omega
    ·intro b1
     try simp only [nrmT] at b1
     refine ⟨?_, rfl, rfl, ?_, ?_, ?_⟩
     ·refine J4h b ?_
      ·rw [Int.one_mul, e1] at b1
       generalize 2 ^ n.toNat = M at *
       omega
     ·rw [Int.one_mul, e1] at b1
      rw [h3, J05]
      generalize 2 ^ n.toNat = M at *
      omega
     ·rw [Int.one_mul, e1] at b1
      generalize 2 ^ n.toNat = M at *
      omega
     refine ⟨(out ++ [(members (fun k => b.toNat.testBit k) 62)]), (b + 1), ?_⟩
     refine ⟨?_, ?_, rfl, ?_, rfl, rfl⟩
     ·refine ⟨?_, ?_, ?_⟩
      ·omega
      ·rw [Int.one_mul, e1] at b1
       generalize 2 ^ n.toNat = M at *
       omega
      ·rw [Int.one_mul, e1] at b1
       have hb : b.toNat < 2 ^ n.toNat := by
         generalize 2 ^ n.toNat = M at *
         omega
       rw [h3, show (b + 1).toNat - 1 = (b.toNat - 1) + 1 by omega, J5j, show b.toNat - 1 + 1 = b.toNat by omega, J8E (n := n.toNat) (by omega) hb]
     ·rw [Int.one_mul, e1] at b1
      (simp only [J24]; omega)
     first | omega | rfl | (intro hg; simp only [nrmT] at hg; omega) | (intro g1 g2; simp [g1, g2]; done) | (intro g1; simp at g1 ⊢; simp [g1]; done) | (simp only [nrmT] at *; omega) | (simp at * <;> omega) | (simp_all <;> omega) | (simp_all; done)
    intro b2
    try simp only [nrmT] at b2
    refine ⟨out, ?_⟩
    refine ⟨?_, rfl, rfl⟩
    ·unfold J21
     rw [Int.one_mul, e1] at b2
     have hm : b.toNat - 1 = 2 ^ n.toNat - 1 := by
       generalize 2 ^ n.toNat = M at *
       omega
     rw [h3, hm]
  intro out2 hJ
  have h8 := hJ
  refine ⟨rfl, ?_, ?_, ?_⟩
  ·refine J11 out2 ?_
   ·rw [h8, J05]
    generalize 2 ^ n.toNat = M at *
    omega
  ·simp
  rw [h8]; rfl
theorem J7S (n : Int) (hn : 0 ≤ n ∧ n ≤ 8) : PC Try.prog 134 [.int .i64 n] (.one (.own 26 (.rows (J2 n.toNat)))) :=
  pc_wf @Try.call134 fun _ => pc_by (by kernel_rfl) Try.func134 @Try.call134 (by kernel_rfl) J8q (J89 n) (by kernel_rfl) (J7Q n hn) (by kernel_rfl)
def J7H : List D → Orc := orcN [none] fun ds => match ds with
  | [.int .i64 n] => some (.one (.own 26 (.rows (J2 n.toNat))))
  | _ => none
abbrev J13 (n : Int) (out : ZR) (code : Int) : Prop := (1 ≤ code) ∧ (code ≤ ((2 ^ n.toNat : Nat) : Int)) ∧ (out.Perm (J1A n.toNat (code.toNat - 1))) ∧ (out.Pairwise (fun x9 y9 => ltOf Jc y9 x9 = false))
abbrev J19 (n : Int) (out : ZR) (code : Int) : Nat := (((2 ^ n.toNat : Nat) : Int) - code).toNat
abbrev J1n (n : Int) (out : ZR) (code : Int) (k : Int) : Prop := (0 ≤ k) ∧ (k ≤ (out.length : Int)) ∧ (∀ j, k.toNat ≤ j → j < out.length → Jc (lst n.toNat code.toNat) (out.getD j []) < 0)
abbrev J17 (n : Int) (out : ZR) (code : Int) (k : Int) : Nat := k.toNat
def J7e (f : FuncId) (ds : List D) : Orc := bif Nat.beq f 164 then J66 ds else bif Nat.beq f 239 then J5c ds else .no
def J7a (n : Int) : Ann := .two (.none) (.two (.reg [(0, .frz)]) (.two (.two (.none) (.loop (cut2 (fun (out : ZR) (code : Int) => J13 n out code) (fun (out : ZR) (code : Int) => [(0, .d false (.int .i64 n)), (3, .d true (.sl (.rows out))), (4, .d true (.int .i64 code))]) (fun (out : ZR) (code : Int) => [])) (fun g => J19 n g.1 g.2) (fun g => (fun (out : ZR) (code : Int) => .two (.none) (.two (.two (.none) (.two (.loop (cut1 (fun (k : Int) => J1n n out code k) (fun (k : Int) => [(0, .d false (.int .i64 n)), (3, .d true (.sl (.rows out))), (4, .d true (.int .i64 code)), (5, .d true (.sl (.ints (members (fun k => code.toNat.testBit k) n.toNat)))), (6, .d true (.int .i64 k))]) (fun (k : Int) => [])) (fun g => J17 n out code g) (fun _ => .none)) (.none))) (.none))) (g.1) (g.2)))) (.none)))
def J4q (n : Int) : Prop :=
  ((∃ out' : ZR, ∃ code' : Int, (J13 n out' code') ∧ (n = n) ∧ ([] = out') ∧ ((1 : Int) = code')) ∧ (∀ out : ZR, ∀ code : Int, (J13 n out code) → ((0 : Int) ≤ 1) ∧ ((0 : Int) ≤ n) ∧ ((0 : Int) ≤ ((1 : Int) * 2 ^ n.toNat) ∧ (((1 : Int) * 2 ^ n.toNat) : Int) ≤ 9223372036854775807) ∧ (((decide (code < ((1 : Int) * 2 ^ n.toNat))) = true → (PC Try.prog 164 [.int .i64 n, .int .i64 code] (.one (.d (.sl (.ints (members (fun k => code.toNat.testBit k) n.toNat)))))) ∧ ((∃ k' : Int, (J1n n out code k') ∧ (n = n) ∧ (out = out) ∧ (code = code) ∧ ((members (fun k => code.toNat.testBit k) n.toNat) = (members (fun k => code.toNat.testBit k) n.toNat)) ∧ ((out.length : Int) = k')) ∧ (∀ k : Int, (J1n n out code k) → ((decide (k > 0)) = true → (decide (k > 0)) = true) ∧ (((decide (k > 0)) = true → I6 (k - 1))) ∧ ((decide (k > 0)) = true → (decide (k > 0)) = true) ∧ ((decide (k > 0)) = true → (decide (k > 0)) = true) ∧ (((decide (k > 0)) = true → (0 : Int) ≤ (k - 1))) ∧ (((decide (k > 0)) = true → ((k - 1) : Int) < out.length)) ∧ ((decide (k > 0)) = true → (decide (k > 0)) = true) ∧ (((decide (k > 0)) = true → (k - 1).toNat < out.length)) ∧ ((decide (k > 0)) = true → (decide (k > 0)) = true) ∧ ((decide (k > 0)) = true → (decide (k > 0)) = true) ∧ ((decide (k > 0)) = true → PC Try.prog 239 [.sl (.ints (members (fun k => code.toNat.testBit k) n.toNat)), .sl (.ints (out.getD ((k - 1).toNat) []))] (.one (.d (.bool (decide (Jc (members (fun k => code.toNat.testBit k) n.toNat) (out.getD ((k - 1).toNat) []) < 0)))))) ∧ (true = true) ∧ (((decide (k > 0)) = true → (decide (k > 0)) = true)) ∧ (((decide (k > 0)) = false → true = true)) ∧ (((cond (decide (k > 0)) (decide (Jc (members (fun k => code.toNat.testBit k) n.toNat) (out.getD ((k - 1).toNat) []) < 0)) false) = true → (I6 (k - 1)) ∧ (∃ k' : Int, (J1n n out code k') ∧ (J17 n out code k' < J17 n out code k) ∧ (n = n) ∧ (out = out) ∧ (code = code) ∧ ((members (fun k => code.toNat.testBit k) n.toNat) = (members (fun k => code.toNat.testBit k) n.toNat)) ∧ ((k - 1) = k'))) ∧ ((cond (decide (k > 0)) (decide (Jc (members (fun k => code.toNat.testBit k) n.toNat) (out.getD ((k - 1).toNat) []) < 0)) false) = false → (true = true) ∧ ((0 : Int) ≤ k) ∧ ((k : Int) ≤ out.length) ∧ ((0 : Nat) = 0) ∧ (True) ∧ ((0 + ((out.take k.toNat).drop 0).length) * 24 ≤ 140737488355328) ∧ ((0 + ((out.take k.toNat).drop 0).length) = ([] ++ ((out.take k.toNat).drop 0)).length) ∧ ((1 : Nat) = 1) ∧ ((([] ++ ((out.take k.toNat).drop 0)).length + 1) * 24 ≤ 140737488355328) ∧ ((0 : Int) ≤ k) ∧ ((k : Int) ≤ out.length) ∧ (((0 + ((out.take k.toNat).drop 0).length) + 1) = (([] ++ ((out.take k.toNat).drop 0)) ++ [(members (fun k => code.toNat.testBit k) n.toNat)]).length) ∧ (True) ∧ (((([] ++ ((out.take k.toNat).drop 0)) ++ [(members (fun k => code.toNat.testBit k) n.toNat)]).length + ((out.take out.length).drop k.toNat).length) * 24 ≤ 140737488355328) ∧ (I6 (code + 1)) ∧ (∃ out' : ZR, ∃ code' : Int, (J13 n out' code') ∧ (J19 n out' code' < J19 n out code) ∧ (n = n) ∧ ((((0 + ((out.take k.toNat).drop 0).length) + 1) + ((out.take out.length).drop k.toNat).length) = ((([] ++ ((out.take k.toNat).drop 0)) ++ [(members (fun k => code.toNat.testBit k) n.toNat)]) ++ ((out.take out.length).drop k.toNat)).length) ∧ (((([] ++ ((out.take k.toNat).drop 0)) ++ [(members (fun k => code.toNat.testBit k) n.toNat)]) ++ ((out.take out.length).drop k.toNat)) = out') ∧ ((code + 1) = code'))))))) ∧ ((decide (code < ((1 : Int) * 2 ^ n.toNat))) = false → (((out : ZR) = (J2 n.toNat)))))))
theorem J6R (n : Int) (hn : 0 ≤ n ∧ n ≤ 8)  : J4q n := by
  unfold J4q
  have p7 := J8G (n := n.toNat) (by omega)
  have pp := Nat.two_pow_pos n.toNat
  have e0 := J6X n.toNat
  have e1 : ((2 : Int) ^ n.toNat) = ((2 ^ n.toNat : Nat) : Int) := by simp
  refine ⟨?_, ?_⟩
  ·refine ⟨([]), 1, ?_⟩
   refine ⟨?_, rfl, ?_, rfl⟩
   ·refine ⟨?_, ?_, ?_, ?_⟩
    ·omega
    ·generalize 2 ^ n.toNat = M at *
     omega
    ·exact List.Perm.refl _
    ·exact List.Pairwise.nil
   rfl
  intro out code hJ
  obtain ⟨h1, h2, h3, h4⟩ := hJ
  refine ⟨?_, ?_, ?_, ?_, ?_⟩
  ·omega
  ·omega
  ·rw [Int.one_mul, e1]
   generalize 2 ^ n.toNat = M at *
   omega
  ·intro b1
   try simp only [nrmT] at b1
   refine ⟨?_, ?_, ?_⟩
   ·refine J6t n code ?_ ?_
    ·omega
    ·rw [Int.one_mul, e1] at b1
     generalize 2 ^ n.toNat = M at *
     omega
   ·refine ⟨(out.length : Int), ?_⟩
    refine ⟨?_, rfl, rfl, rfl, rfl, rfl⟩
    ·refine ⟨?_, ?_, ?_⟩
     ·omega
     ·omega
     ·intro j h8 h9; omega
   intro k hJ
   obtain ⟨h5, h6, h7⟩ := hJ
   refine ⟨id, ?_, id, id, ?_, ?_, id, ?_, id, id, fun _ => J5P (members (fun k => code.toNat.testBit k) n.toNat) (out.getD ((k - 1).toNat) []), rfl, id, fun _ => rfl, ?_, ?_⟩
   ·have ol := h3.length_eq
    rw [J05] at ol
    rw [Int.one_mul, e1] at b1
    intro hg2
    have := of_decide_eq_true hg2
    generalize 2 ^ n.toNat = M at *
    omega
   ·(intro hg; simp only [nrmT] at hg; omega)
   ·omega
   ·(intro hg; simp only [nrmT] at hg; omega)
   ·intro b2
    refine ⟨?_, ?_⟩
    ·have ol := h3.length_eq
     rw [J05] at ol
     rw [Int.one_mul, e1] at b1
     have hk : 0 < k := by
       revert b2
       by_cases h : k > 0
       · intro _; exact h
       rw [decide_eq_false h]; intro g; cases g
     generalize 2 ^ n.toNat = M at *
     omega
    refine ⟨(k - 1), ?_⟩
    refine ⟨?_, ?_, rfl, rfl, rfl, rfl, rfl⟩
    ·refine ⟨?_, ?_, ?_⟩
     ·have ol := h3.length_eq
      rw [J05] at ol
      rw [Int.one_mul, e1] at b1
      have hk : 0 < k := by
        revert b2
        by_cases h : k > 0
        · intro _; exact h
        rw [decide_eq_false h]; intro g; cases g
      generalize 2 ^ n.toNat = M at *
      omega
     ·have ol := h3.length_eq
      rw [J05] at ol
      rw [Int.one_mul, e1] at b1
      have hk : 0 < k := by
        revert b2
        by_cases h : k > 0
        · intro _; exact h
        rw [decide_eq_false h]; intro g; cases g
      generalize 2 ^ n.toNat = M at *
      omega
     ·intro j h8 h9
      have hk : 0 < k ∧ Jc (lst n.toNat code.toNat) (out.getD (k - 1).toNat []) < 0 := by
        revert b2
        by_cases h : k > 0
        · rw [decide_eq_true h]; intro g; exact ⟨h, of_decide_eq_true g⟩
        rw [decide_eq_false h]; intro g; cases g
      by_cases e : j = (k - 1).toNat
      · rw [e]; exact hk.2
      exact h7 j (by omega) h9
    have hk : 0 < k := by
      revert b2
      by_cases h : k > 0
      · intro _; exact h
      rw [decide_eq_false h]; intro g; cases g
    (simp only [J17]; omega)
   intro b3
   refine ⟨rfl, ?_, ?_, rfl, trivial, ?_, ?_, rfl, ?_, ?_, ?_, ?_, trivial, ?_, ?_, ?_⟩
   ·omega
   ·omega
   ·have ol := h3.length_eq
    rw [J05] at ol
    rw [Int.one_mul, e1] at b1
    simp only [List.length_append, List.length_drop, List.length_take, List.length_cons, List.length_nil]
    generalize 2 ^ n.toNat = M at *
    omega
   ·simp only [List.length_append, List.length_cons, List.length_nil] <;> omega
   ·have ol := h3.length_eq
    rw [J05] at ol
    rw [Int.one_mul, e1] at b1
    simp only [List.length_append, List.length_drop, List.length_take, List.length_cons, List.length_nil]
    generalize 2 ^ n.toNat = M at *
    omega
   ·omega
   ·omega
   ·first | omega | rfl | (intro hg; simp only [nrmT] at hg; omega) | (intro g1 g2; simp [g1, g2]; done) | (intro g1; simp at g1 ⊢; simp [g1]; done) | (simp only [nrmT] at *; omega) | (simp at * <;> omega) | (simp_all <;> omega) | (simp_all; done)
   ·have ol := h3.length_eq
    rw [J05] at ol
    rw [Int.one_mul, e1] at b1
    simp only [List.length_append, List.length_drop, List.length_take, List.length_cons, List.length_nil]
    generalize 2 ^ n.toNat = M at *
    omega
   ·rw [Int.one_mul, e1] at b1
    generalize 2 ^ n.toNat = M at *
    omega
   refine ⟨((([] ++ ((out.take k.toNat).drop 0)) ++ [(members (fun k => code.toNat.testBit k) n.toNat)]) ++ ((out.take out.length).drop k.toNat)), (code + 1), ?_⟩
   refine ⟨?_, ?_, rfl, ?_, rfl, rfl⟩
   ·refine ⟨?_, ?_, ?_, ?_⟩
    ·omega
    ·rw [Int.one_mul, e1] at b1
     generalize 2 ^ n.toNat = M at *
     omega
    ·have hq : (((([] : ZR) ++ ((out.take k.toNat).drop 0)) ++ [(members (fun k => code.toNat.testBit k) n.toNat)]) ++ ((out.take out.length).drop k.toNat)) = (out.take k.toNat ++ [lst n.toNat code.toNat]) ++ out.drop k.toNat := by
       rw [List.nil_append, List.drop_zero, List.take_length]; rfl
     rw [hq, show (code + 1).toNat - 1 = (code.toNat - 1) + 1 by omega]
     exact J8e h3 (by rw [show code.toNat - 1 + 1 = code.toNat by omega])
    ·have hq : (((([] : ZR) ++ ((out.take k.toNat).drop 0)) ++ [(members (fun k => code.toNat.testBit k) n.toNat)]) ++ ((out.take out.length).drop k.toNat)) = (out.take k.toNat ++ [lst n.toNat code.toNat]) ++ out.drop k.toNat := by
       rw [List.nil_append, List.drop_zero, List.take_length]; rfl
     rw [hq]
     refine J7n h4 (by omega) h7 ?_
     by_cases e : k.toNat = 0
     · exact .inl e
     refine .inr fun h => ?_
     rw [decide_eq_true (show k > 0 by omega), decide_eq_true (by rw [show (k - 1).toNat = k.toNat - 1 by omega]; exact h)] at b3
     cases b3
   ·rw [Int.one_mul, e1] at b1
    (simp only [J19]; omega)
   simp only [List.length_append, List.length_cons, List.length_nil] <;> omega
  intro b4
  try simp only [nrmT] at b4
  rw [Int.one_mul, e1] at b4
  exact J7T h3 (by
    generalize 2 ^ n.toNat = M at *
    omega) h4
theorem J6V (n : Int) (hn : 0 ≤ n ∧ n ≤ 8) : PC Try.prog 214 [.int .i64 n] (.one (.d (.sl (.rows (J2 n.toNat))))) :=
  pc_wf @Try.call214 fun _ => pc_by (by kernel_rfl) Try.func214 @Try.call214 (by kernel_rfl) J7e (J7a n) (by kernel_rfl) (J6R n hn) (by kernel_rfl)
def J65 : List D → Orc := orcN [none] fun ds => match ds with
  | [.int .i64 n] => some (.one (.d (.sl (.rows (J2 n.toNat)))))
  | _ => none
theorem J7R {l : ZI} {lo hi : Int} (ha : Asc l) (hb : ∀ x ∈ l, lo ≤ x ∧ x ≤ hi) : J1 l lo hi = true :=
  allTo_iff.2 fun k hk => by
    unfold J0C
    rw [Bool.and_eq_true, Bool.or_eq_true]
    refine ⟨decide_eq_true (hb _ (getD_mem hk)), ?_⟩
    by_cases e : k = 0
    · exact .inl (decide_eq_true e)
    right
    have := List.pairwise_iff_getElem.1 ha (k - 1) k (by omega) hk (by omega)
    rw [J07 hk, J07 (by omega)]
    exact decide_eq_true this
theorem J8B {n c : Nat} : Asc (lst n c) := asc_members _ _
theorem J3l {U : ZI} {E : ZR} (hg : J0 U E = true) {s : ZI} (hs : s ∈ J2 (U.length : Int).toNat) :
    (J0 U E && J1 s 0 ((U.length : Int) - 1) && decide (0 < s.length)) = true ∧ s.length ≤ 7 := by
  obtain ⟨g1, g2, g3⟩ := J9 hg
  rw [Int.toNat_natCast] at hs
  obtain ⟨c, h1, h2, rfl⟩ := J5d.1 hs
  have hl := J8t (n := U.length) (code := c)
  refine ⟨?_, by omega⟩
  rw [hg, J7R J8B (fun x hx => by have := J8D x hx; omega), decide_eq_true (J8u h1 h2)]
  rfl
theorem J8j {n : Nat} (h : 1 ≤ n) : 0 < (J2 n).length := by
  rw [J5i]
  have := Nat.pow_le_pow_right (n := 2) (by omega) h
  omega
theorem J7h {n : Nat} (h : n ≤ 7) : (J2 n).length ≤ 127 := by
  rw [J5i]
  have := Nat.pow_le_pow_right (n := 2) (by omega) h
  have e : (2 : Nat) ^ 7 = 128 := by decide
  omega
def lsB (v : ZI → Int) (b s : ZI) : ZI := if v s < v b then s else b
def J1c (v : ZI → Int) (l : ZR) : ZI := l.foldl (lsB v) (l.getD 0 [])
theorem J8f (v : ZI → Int) (b : ZI) : lsB v b b = b := by unfold lsB; split <;> rfl
theorem J2n {α β : Type} {f : β → α → β} {b : β} {l : List α} {i : Int} {d : α} (h0 : 0 ≤ i) (h : i < (l.length : Int)) : (l.take (i + 1).toNat).foldl f b = f ((l.take i.toNat).foldl f b) (l.getD i.toNat d) := by
  rw [take_step (d := d) h0 h, List.foldl_append]
  rfl
theorem J7f {v : ZI → Int} {l : ZR} (h : 0 < l.length) : J1c v l ∈ l := by
  have key : ∀ (r : ZR) (b : ZI), b ∈ l → (∀ x ∈ r, x ∈ l) → r.foldl (lsB v) b ∈ l := by
    intro r
    induction r with
    | nil => intro b hb _; exact hb
    | cons x r ih =>
      intro b hb hr
      refine ih _ ?_ fun y hy => hr y (List.mem_cons_of_mem _ hy)
      unfold lsB
      split
      · exact hr x List.mem_cons_self
      exact hb
  exact key l _ (getD_mem h) fun x hx => hx
def bsB (v : ZI → Int) (k : Int) (b s : ZI) : ZI := if (cond ((s.length : Int) == k) (cond ((b.length : Int) == 0) true (decide (v s < v b))) false) = true then s else b
def J8r (v : ZI → Int) (k : Int) (l : ZR) : ZI := l.foldl (bsB v k) []
theorem J8k {v : ZI → Int} {k : Int} (hk : 1 ≤ k) (l : ZR) : J8r v k l = J1c v (l.filter fun x9 => !(decide ((x9.length : Int) ≠ k))) := by
  have aux : ∀ (r : ZR) (b : ZI), (b.length : Int) = k → r.foldl (bsB v k) b = (r.filter fun x9 => !(decide ((x9.length : Int) ≠ k))).foldl (lsB v) b := by
    intro r
    induction r with
    | nil => intro b _; rfl
    | cons x r ih =>
      intro b hb
      rw [List.foldl_cons]
      by_cases e : (x.length : Int) = k
      · rw [List.filter_cons, if_pos (by simp [e]), List.foldl_cons]
        have e2 : bsB v k b x = lsB v b x := by
          unfold bsB lsB
          rw [beq_iff_eq.2 e, beq_eq_false_iff_ne.2 (show (b.length : Int) ≠ 0 by omega)]
          simp only [cond_true, cond_false]
          by_cases e3 : v x < v b
          · rw [if_pos e3, if_pos (decide_eq_true e3)]
          rw [if_neg e3, if_neg (by simp [e3])]
        rw [e2]
        refine ih _ ?_
        unfold lsB
        split
        · exact e
        exact hb
      rw [List.filter_cons, if_neg (by simp [e])]
      have e2 : bsB v k b x = b := by unfold bsB; rw [beq_eq_false_iff_ne.2 e]; rfl
      rw [e2]
      exact ih b hb
  unfold J8r J1c
  induction l with
  | nil => rfl
  | cons x r ih =>
    rw [List.foldl_cons]
    by_cases e : (x.length : Int) = k
    · rw [List.filter_cons, if_pos (by simp [e]), List.foldl_cons]
      have e2 : bsB v k [] x = x := by unfold bsB; rw [beq_iff_eq.2 e]; rfl
      rw [e2, aux r x e]
      show _ = List.foldl (lsB v) (lsB v x x) _
      rw [J8f]
    rw [List.filter_cons, if_neg (by simp [e])]
    have e2 : bsB v k [] x = [] := by unfold bsB; rw [beq_eq_false_iff_ne.2 e]; rfl
    rw [e2]
    exact ih
def J1w (xs : ZI) (k : Nat) : Int := foldTo (fun m j => m + xs.getD j 0) 0 k
theorem J35 (xs : ZI) (k : Nat) : J1w xs (k + 1) = J1w xs k + xs.getD k 0 := rfl
theorem J56 {xs : ZI} (h : ∀ x ∈ xs, 0 ≤ x ∧ x ≤ 99) : ∀ k, k ≤ xs.length → 0 ≤ J1w xs k ∧ J1w xs k ≤ 99 * k
  | 0, _ => by simp [J1w, foldTo]
  | k + 1, hk => by
    have h1 := J56 h k (by omega)
    have h2 := h _ (getD_mem (d := 0) (show k < xs.length by omega))
    rw [J35]
    omega
def Jm (E : ZR) (set : ZI) : Int := J1w (JC E set E.length) E.length
theorem J6h {U : ZI} {E : ZR} {set : ZI} (ht : (J0 U E && J1 set 0 ((U.length : Int) - 1) && decide (0 < set.length)) = true) {j : Nat} (hj : j < E.length) : 0 ≤ J3m E set j ∧ J3m E set j ≤ 99 := by
  obtain ⟨hg, hs, hp⟩ := J7 ht
  obtain ⟨rl, rb⟩ := J27 hg hj
  have si := J0t (row := E.getD j []) (set := set) (n := (U.length : Int)) (fun k hk => by have := JD hs k hk; omega) hp set.length (Nat.le_refl _)
  exact rb _ (by omega)
theorem J6m {U : ZI} {E : ZR} {set : ZI} (ht : (J0 U E && J1 set 0 ((U.length : Int) - 1) && decide (0 < set.length)) = true) : ∀ x ∈ JC E set E.length, 0 ≤ x ∧ x ≤ 99 := by
  intro x hx
  obtain ⟨j, hj, rfl⟩ := List.mem_map.1 hx
  exact J6h ht (List.mem_range.1 hj)
theorem J7A {g : Addr → Option Value} {O : Nat → Prop} {v : Value} {x : ZI} (h : R g O v (.sl (.ints x))) : ∃ (ad : Option Addr) (cap : Nat), v = .slice ad x.length cap := by
  cases h with
  | slnil _ h0 => exact ⟨none, 0, by rw [show x.length = 0 from h0]⟩
  | sl _ a n cap hn _ _ _ _ => exact ⟨some a, cap, by rw [hn]; rfl⟩
theorem J8a {g : Addr → Option Value} {O : Nat → Prop} {v : Value} {k : Int} (h : R g O v (.bx [.int .i64 k] 0)) : ∃ b : Addr, v = .pointer (some b) ∧ g b = some (.int .i64 k) := by
  cases h with
  | bx _ a _ f hc hr =>
    refine ⟨a.add 0, rfl, ?_⟩
    have h1 := (hc 0 (by simp)).1
    have h2 := hr 0 (.int .i64 k) rfl
    rw [h1]
    cases hf : f 0 <;> rw [hf] at h2 <;> cases h2
    rfl
theorem J8o {n k : Nat} (h : k ≤ n) : (lst n (2 ^ k - 1)).length = k := by
  unfold lst
  rw [J1k (m := k) (fun i hi => Nat.testBit_lt_two_pow (Nat.lt_of_lt_of_le (Nat.sub_lt (Nat.two_pow_pos k) (by omega)) (Nat.pow_le_pow_right (by omega) hi))) n h, J81, J8c]
theorem J7U {n : Nat} {k : Int} (h1 : 1 ≤ k) (h2 : k ≤ n) : ∃ s ∈ J2 n, (s.length : Int) = k := by
  refine ⟨lst n (2 ^ k.toNat - 1), J5d.2 ⟨_, ?_, ?_, rfl⟩, by rw [J8o (by omega)]; omega⟩
  · have := Nat.pow_le_pow_right (n := 2) (by omega) (show 1 ≤ k.toNat by omega)
    omega
  have h3 := Nat.pow_le_pow_right (n := 2) (by omega) (show k.toNat ≤ n by omega)
  have h4 := Nat.two_pow_pos k.toNat
  omega
theorem J7q {p : ZI → Bool} {l : ZR} (h : ∃ s ∈ l, p s = true) : 0 < (l.filter p).length := by
  obtain ⟨s, h1, h2⟩ := h
  exact List.length_pos_of_mem (List.mem_filter.2 ⟨h1, h2⟩)
def Jz (U : ZI) (E : ZR) (k : Int) : ZI := J1c (Jm E) ((J2 (U.length : Int).toNat).filter fun x9 => !(decide ((x9.length : Int) ≠ k)))
theorem J6Z {U : ZI} {k : Int} (hk : 1 ≤ k ∧ k ≤ (U.length : Int)) : 0 < ((J2 (U.length : Int).toNat).filter fun x9 => !(decide ((x9.length : Int) ≠ k))).length := by
  obtain ⟨s, h1, h2⟩ := J7U (n := (U.length : Int).toNat) hk.1 (by omega)
  exact J7q ⟨s, h1, by simp [h2]⟩
theorem J8v {U : ZI} {k : Int} {E : ZR} (hk : 1 ≤ k ∧ k ≤ (U.length : Int)) : Jz U E k ∈ J2 (U.length : Int).toNat :=
  (List.mem_filter.1 (J7f (J6Z hk))).1
abbrev J2m (list : ZI) (m : Int) (i : Int) : Prop := (0 ≤ i) ∧ (i ≤ (list.length : Int)) ∧ (m = J1w list i.toNat)
abbrev J2l (list : ZI) (m : Int) (i : Int) : Nat := (list.length - i).toNat
def J8z (f : FuncId) (ds : List D) : Orc := .no
def J8A (list : ZI) : Ann := .two (.none) (.two (.none) (.two (.two (.none) (.loop (cut2 (fun (m : Int) (i : Int) => J2m list m i) (fun (m : Int) (i : Int) => [(3, .d true (.int .i64 m)), (6, .d false (.sl (.ints list))), (7, .d true (.int .i64 (list.length : Int))), (8, .d true (.int .i64 i))]) (fun (m : Int) (i : Int) => [])) (fun g => J2l list g.1 g.2) (fun _ => .none))) (.none)))
def J71 (list : ZI) : Prop :=
  ((∃ m' : Int, ∃ i' : Int, (J2m list m' i') ∧ ((0 : Int) = m') ∧ (list = list) ∧ ((list.length : Int) = (list.length : Int)) ∧ ((0 : Int) = i')) ∧ (∀ m : Int, ∀ i : Int, (J2m list m i) → (((decide (i < (list.length : Int))) = true → ((0 : Int) ≤ i) ∧ ((i : Int) < list.length) ∧ (i.toNat < list.length) ∧ (I6 (m + (list.getD i.toNat 0))) ∧ (I6 (i + 1)) ∧ (∃ m' : Int, ∃ i' : Int, (J2m list m' i') ∧ (J2l list m' i' < J2l list m i) ∧ ((m + (list.getD i.toNat 0)) = m') ∧ (list = list) ∧ ((list.length : Int) = (list.length : Int)) ∧ ((i + 1) = i'))) ∧ ((decide (i < (list.length : Int))) = false → ((m = (J1w list list.length)))))))
theorem J8i (list : ZI) (hx : ∀ x ∈ list, 0 ≤ x ∧ x ≤ 99) (hl : list.length ≤ 7) (w_list : (list.length : Int) ≤ 9223372036854775807) : J71 list := by
  unfold J71
  refine ⟨?_, ?_⟩
  ·refine ⟨0, 0, ?_⟩
   refine ⟨?_, rfl, rfl, rfl, rfl⟩
   ·refine ⟨?_, ?_, ?_⟩
    ·omega
    ·omega
    ·rfl
  intro m i hJ
  obtain ⟨h1, h2, h3⟩ := hJ
  refine ⟨?_, ?_⟩
  ·intro b1
   try simp only [nrmT] at b1
   refine ⟨?_, ?_, ?_, ?_, ?_, ?_⟩
   ·omega
   ·omega
   ·omega
   ·have h4 := J56 hx i.toNat (by omega)
    have h5 := hx _ (getD_memI (d := 0) h1 (by omega))
    omega
   ·omega
   refine ⟨(m + (list.getD i.toNat 0)), (i + 1), ?_⟩
   refine ⟨?_, ?_, rfl, rfl, rfl, rfl⟩
   ·refine ⟨?_, ?_, ?_⟩
    ·omega
    ·omega
    ·rw [h3, show (i + 1).toNat = i.toNat + 1 by omega, J35]
   (simp only [J2l]; omega)
  intro b2
  try simp only [nrmT] at b2
  rw [h3, show i.toNat = list.length by omega]
theorem J8l (list : ZI) (hx : ∀ x ∈ list, 0 ≤ x ∧ x ≤ 99) (hl : list.length ≤ 7) : PC Try.prog 219 [.sl (.ints list)] (.one (.d (.int .i64 (J1w list list.length)))) :=
  pc_wf @Try.call219 fun hw => pc_by (by kernel_rfl) Try.func219 @Try.call219 (by kernel_rfl) J8z (J8A list) (by kernel_rfl) (J8i list hx hl hw.1) (by kernel_rfl)
def J7W : List D → Orc := orcN [some .ints] fun ds => match ds with
  | [.sl (.ints list)] => some (.one (.d (.int .i64 (J1w list list.length))))
  | _ => none
abbrev J0Q (U : ZI) (E : ZR) (set : ZI) (m : Int) (i : Int) : Prop := (0 ≤ i) ∧ (i ≤ (E.length : Int)) ∧ (m = J1w (JC E set E.length) i.toNat)
abbrev J0P (U : ZI) (E : ZR) (set : ZI) (m : Int) (i : Int) : Nat := (E.length - i).toNat
def J6x (f : FuncId) (ds : List D) : Orc := bif Nat.beq f 221 then J4d ds else .no
def J6p (U : ZI) (E : ZR) (set : ZI) : Ann := .two (.none) (.two (.none) (.two (.two (.none) (.loop (cut2 (fun (m : Int) (i : Int) => J0Q U E set m i) (fun (m : Int) (i : Int) => [(1, .d false (.sl (.ints set))), (2, .ptr 2 0), (5, .d true (.int .i64 m)), (6, .d true (.int .i64 i))]) (fun (m : Int) (i : Int) => [(2, .box 39 [.d false (.sl (.ints U)), .d false (.sl (.rows E))])])) (fun g => J0P U E set g.1 g.2) (fun _ => .none))) (.none)))
def J3K (U : ZI) (E : ZR) (set : ZI) : Prop :=
  ((∃ m' : Int, ∃ i' : Int, (J0Q U E set m' i') ∧ (set = set) ∧ ((0 : Int) = m') ∧ ((0 : Int) = i') ∧ (U = U) ∧ (E = E)) ∧ (∀ m : Int, ∀ i : Int, (J0Q U E set m i) → (((decide (i < (E.length : Int))) = true → (PC Try.prog 221 [.agg [.sl (.ints U), .sl (.rows E)], .int .i64 i, .sl (.ints set)] (.one (.d (.int .i64 ((E.getD i.toNat []).getD (J5 (E.getD i.toNat []) set set.length).toNat 0))))) ∧ (I6 (m + ((E.getD i.toNat []).getD (J5 (E.getD i.toNat []) set set.length).toNat 0))) ∧ (I6 (i + 1)) ∧ (∃ m' : Int, ∃ i' : Int, (J0Q U E set m' i') ∧ (J0P U E set m' i' < J0P U E set m i) ∧ (set = set) ∧ ((m + ((E.getD i.toNat []).getD (J5 (E.getD i.toNat []) set set.length).toNat 0)) = m') ∧ ((i + 1) = i') ∧ (U = U) ∧ (E = E))) ∧ ((decide (i < (E.length : Int))) = false → ((m = (Jm E set)))))))
theorem J6g (U : ZI) (E : ZR) (set : ZI) (ht : (J0 U E && J1 set 0 ((U.length : Int) - 1) && decide (0 < set.length)) = true) (w_Open : (U.length : Int) ≤ 9223372036854775807) (w_Dist : (E.length : Int) ≤ 9223372036854775807) (v_Dist : ∀ x9 ∈ E, (x9.length : Int) ≤ 9223372036854775807) (w_set : (set.length : Int) ≤ 9223372036854775807) : J3K U E set := by
  unfold J3K
  obtain ⟨hg, hs, hp⟩ := J7 ht
  obtain ⟨g1, g2, g3⟩ := J9 hg
  refine ⟨?_, ?_⟩
  ·refine ⟨0, 0, ?_⟩
   refine ⟨?_, rfl, rfl, rfl, rfl, rfl⟩
   ·refine ⟨?_, ?_, ?_⟩
    ·omega
    ·omega
    ·rfl
  intro m i hJ
  obtain ⟨h1, h2, h3⟩ := hJ
  refine ⟨?_, ?_⟩
  ·intro b1
   try simp only [nrmT] at b1
   refine ⟨?_, ?_, ?_, ?_⟩
   ·refine J4V U E i set ?_ ?_
    ·exact ht
    ·omega
   ·have h4 := J56 (J6m ht) i.toNat (by rw [J2s]; omega)
    have h5 := J6h ht (show i.toNat < E.length by omega)
    unfold J3m at h5
    omega
   ·omega
   refine ⟨(m + ((E.getD i.toNat []).getD (J5 (E.getD i.toNat []) set set.length).toNat 0)), (i + 1), ?_⟩
   refine ⟨?_, ?_, rfl, rfl, rfl, rfl, rfl⟩
   ·refine ⟨?_, ?_, ?_⟩
    ·omega
    ·omega
    ·rw [h3, show (i + 1).toNat = i.toNat + 1 by omega, J35, J7t _ _ _ _ (by omega)]; rfl
   (simp only [J0P]; omega)
  intro b2
  try simp only [nrmT] at b2
  rw [h3, show i.toNat = E.length by omega]; rfl
theorem J36 (U : ZI) (E : ZR) (set : ZI) (ht : (J0 U E && J1 set 0 ((U.length : Int) - 1) && decide (0 < set.length)) = true) : PC Try.prog 162 [.agg [.sl (.ints U), .sl (.rows E)], .sl (.ints set)] (.one (.d (.int .i64 (Jm E set)))) :=
  pc_wf @Try.call162 fun hw => pc_by (by kernel_rfl) Try.func162 @Try.call162 (by kernel_rfl) J6x (J6p U E set) (by kernel_rfl) (J6g U E set ht hw.1.1 hw.1.2.1.1 hw.1.2.1.2 hw.2.1) (by kernel_rfl)
def J5B : List D → Orc := orcN [none, some .ints] fun ds => match ds with
  | [.agg [.sl (.ints U), .sl (.rows E)], .sl (.ints set)] => some (.one (.d (.int .i64 (Jm E set))))
  | _ => none
def J3D (f : FuncId) (ds : List D) : Orc := bif Nat.beq f 210 then J2W ds else bif Nat.beq f 219 then J7W ds else .no
def J3E (U : ZI) (E : ZR) (set : ZI) : Ann := .none
def J1W (U : ZI) (E : ZR) (set : ZI) : Prop :=
  (PC Try.prog 210 [.agg [.sl (.ints U), .sl (.rows E)], .sl (.ints set)] (.one (.own 3 (.ints (JC E set E.length))))) ∧ ((JC E set E.length).length = (JC E set E.length).length) ∧ (PC Try.prog 219 [.sl (.ints (JC E set E.length))] (.one (.d (.int .i64 (J1w (JC E set E.length) (JC E set E.length).length))))) ∧ (((J1w (JC E set E.length) (JC E set E.length).length) = (Jm E set)))
theorem J38 (U : ZI) (E : ZR) (set : ZI) (ht : (J0 U E && J1 set 0 ((U.length : Int) - 1) && decide (0 < set.length)) = true) (w_Open : (U.length : Int) ≤ 9223372036854775807) (w_Dist : (E.length : Int) ≤ 9223372036854775807) (v_Dist : ∀ x9 ∈ E, (x9.length : Int) ≤ 9223372036854775807) (w_set : (set.length : Int) ≤ 9223372036854775807) : J1W U E set := by
  unfold J1W
  obtain ⟨hg, hs, hp⟩ := J7 ht
  obtain ⟨g1, g2, g3⟩ := J9 hg
  refine ⟨?_, rfl, ?_, ?_⟩
  ·refine J3k U E set ?_
   ·exact ht
  ·refine J8l (JC E set E.length) ?_ ?_
   ·exact J6m ht
   ·rw [J2s]; exact g3
  rw [J2s]; rfl
theorem J1H (U : ZI) (E : ZR) (set : ZI) (ht : (J0 U E && J1 set 0 ((U.length : Int) - 1) && decide (0 < set.length)) = true) : PC Try.prog 153 [.agg [.sl (.ints U), .sl (.rows E)], .sl (.ints set)] (.one (.d (.int .i64 (Jm E set)))) :=
  pc_wf @Try.call153 fun hw => pc_by (by kernel_rfl) Try.func153 @Try.call153 (by kernel_rfl) J3D (J3E U E set) (by kernel_rfl) (J38 U E set ht hw.1.1 hw.1.2.1.1 hw.1.2.1.2 hw.2.1) (by kernel_rfl)
def J2V : List D → Orc := orcN [none, some .ints] fun ds => match ds with
  | [.agg [.sl (.ints U), .sl (.rows E)], .sl (.ints set)] => some (.one (.d (.int .i64 (Jm E set))))
  | _ => none
abbrev JL (xss : ZR) (U : ZI) (E : ZR) (best : ZI) (i : Int) : Prop := (0 ≤ i) ∧ (i ≤ (xss.length : Int)) ∧ (best ∈ xss) ∧ (best = (xss.take i.toNat).foldl (lsB (Jm E)) (xss.getD 0 []))
abbrev Jv (xss : ZR) (U : ZI) (E : ZR) (best : ZI) (i : Int) : Nat := (xss.length - i).toNat
def J4J (f : FuncId) (ds : List D) : Orc := bif Nat.beq f 153 then J2V ds else .no
def J4T (xss : ZR) (U : ZI) (E : ZR) : Ann := .two (.none) (.two (.none) (.two (.two (.none) (.loop (cut2 (fun (best : ZI) (i : Int) => JL xss U E best i) (fun (best : ZI) (i : Int) => [(1, .d false (.fn 153 1 [.agg [.sl (.ints U), .sl (.rows E)]])), (5, .d true (.sl (.ints best))), (11, .d true (.sl (.rows xss))), (12, .d true (.int .i64 (xss.length : Int))), (13, .d true (.int .i64 i))]) (fun (best : ZI) (i : Int) => [])) (fun g => Jv xss U E g.1 g.2) (fun _ => .none))) (.none)))
def J2w (xss : ZR) (U : ZI) (E : ZR) : Prop :=
  ((0 : Int) ≤ 0) ∧ ((0 : Int) < xss.length) ∧ (0 < xss.length) ∧ ((∃ best' : ZI, ∃ i' : Int, (JL xss U E best' i') ∧ ((.fn 153 1 [.agg [.sl (.ints U), .sl (.rows E)]] : D) = (.fn 153 1 [.agg [.sl (.ints U), .sl (.rows E)]] : D)) ∧ ((xss.getD 0 []) = best') ∧ (xss = xss) ∧ ((xss.length : Int) = (xss.length : Int)) ∧ ((0 : Int) = i')) ∧ (∀ best : ZI, ∀ i : Int, (JL xss U E best i) → (((decide (i < (xss.length : Int))) = true → ((0 : Int) ≤ i) ∧ ((i : Int) < xss.length) ∧ (i.toNat < xss.length) ∧ (PC Try.prog 153 [.agg [.sl (.ints U), .sl (.rows E)], .sl (.ints (xss.getD i.toNat []))] (.one (.d (.int .i64 (Jm E (xss.getD i.toNat [])))))) ∧ (PC Try.prog 153 [.agg [.sl (.ints U), .sl (.rows E)], .sl (.ints best)] (.one (.d (.int .i64 (Jm E best))))) ∧ (((decide ((Jm E (xss.getD i.toNat [])) < (Jm E best))) = true → (I6 (i + 1)) ∧ (∃ best' : ZI, ∃ i' : Int, (JL xss U E best' i') ∧ (Jv xss U E best' i' < Jv xss U E best i) ∧ ((.fn 153 1 [.agg [.sl (.ints U), .sl (.rows E)]] : D) = (.fn 153 1 [.agg [.sl (.ints U), .sl (.rows E)]] : D)) ∧ ((xss.getD i.toNat []) = best') ∧ (xss = xss) ∧ ((xss.length : Int) = (xss.length : Int)) ∧ ((i + 1) = i'))) ∧ ((decide ((Jm E (xss.getD i.toNat [])) < (Jm E best))) = false → (I6 (i + 1)) ∧ (∃ best' : ZI, ∃ i' : Int, (JL xss U E best' i') ∧ (Jv xss U E best' i' < Jv xss U E best i) ∧ ((.fn 153 1 [.agg [.sl (.ints U), .sl (.rows E)]] : D) = (.fn 153 1 [.agg [.sl (.ints U), .sl (.rows E)]] : D)) ∧ (best = best') ∧ (xss = xss) ∧ ((xss.length : Int) = (xss.length : Int)) ∧ ((i + 1) = i'))))) ∧ ((decide (i < (xss.length : Int))) = false → (((best : ZI) = (J1c (Jm E) xss)))))))
theorem J4r (xss : ZR) (U : ZI) (E : ZR) (hp : 0 < xss.length) (hx : ∀ s ∈ xss, J0 U E && J1 s 0 ((U.length : Int) - 1) && decide (0 < s.length)) (w_xss : (xss.length : Int) ≤ 9223372036854775807) (v_xss : ∀ x9 ∈ xss, (x9.length : Int) ≤ 9223372036854775807) (w_Open : (U.length : Int) ≤ 9223372036854775807) (w_Dist : (E.length : Int) ≤ 9223372036854775807) (v_Dist : ∀ x9 ∈ E, (x9.length : Int) ≤ 9223372036854775807) : J2w xss U E := by
  unfold J2w
  refine ⟨?_, ?_, ?_, ?_, ?_⟩
  ·omega
  ·omega
  ·omega
  ·refine ⟨(xss.getD 0 []), 0, ?_⟩
   refine ⟨?_, rfl, rfl, rfl, rfl, rfl⟩
   ·refine ⟨?_, ?_, ?_, ?_⟩
    ·omega
    ·omega
    ·exact getD_mem hp
    ·rfl
  intro best i hJ
  obtain ⟨h1, h2, h3, h4⟩ := hJ
  refine ⟨?_, ?_⟩
  ·intro b1
   try simp only [nrmT] at b1
   refine ⟨?_, ?_, ?_, ?_, ?_, ?_, ?_⟩
   ·omega
   ·omega
   ·omega
   ·refine J1H U E (xss.getD i.toNat []) ?_
    ·exact hx _ (getD_memI h1 (by omega))
   ·refine J1H U E best ?_
    ·exact hx _ h3
   ·intro b2
    try simp only [nrmT] at b2
    refine ⟨?_, ?_⟩
    ·omega
    refine ⟨(xss.getD i.toNat []), (i + 1), ?_⟩
    refine ⟨?_, ?_, rfl, rfl, rfl, rfl, rfl⟩
    ·refine ⟨?_, ?_, ?_, ?_⟩
     ·omega
     ·omega
     ·exact getD_memI h1 (by omega)
     ·rw [J2n (d := []) h1 (by omega), ← h4]; unfold lsB; rw [if_pos b2]
    (simp only [Jv]; omega)
   intro b3
   try simp only [nrmT] at b3
   refine ⟨?_, ?_⟩
   ·omega
   refine ⟨best, (i + 1), ?_⟩
   refine ⟨?_, ?_, rfl, rfl, rfl, rfl, rfl⟩
   ·refine ⟨?_, ?_, ?_, ?_⟩
    ·omega
    ·omega
    ·exact h3
    ·rw [J2n (d := []) h1 (by omega), ← h4]; unfold lsB; (try dsimp only); rw [if_neg (by omega)]
   (simp only [Jv]; omega)
  intro b4
  try simp only [nrmT] at b4
  rw [h4, take_all (by omega)]; rfl
theorem J49 (xss : ZR) (U : ZI) (E : ZR) (hp : 0 < xss.length) (hx : ∀ s ∈ xss, J0 U E && J1 s 0 ((U.length : Int) - 1) && decide (0 < s.length)) : PCs Try.prog 172 [.sl (.rows xss), .fn 153 1 [.agg [.sl (.ints U), .sl (.rows E)]]] 0 (.sl (.ints (J1c (Jm E) xss))) :=
  pcs_wf @Try.call172 fun hw => pcs_by (by kernel_rfl) Try.func172 @Try.call172 (by kernel_rfl) J4J (J4T xss U E) (by kernel_rfl) (J4r xss U E hp hx hw.1.1 hw.1.2 hw.2.1.1.1 hw.2.1.1.2.1.1 hw.2.1.1.2.1.2) (by kernel_rfl)
def J47 : List D → Orc := orcS 0 fun ds => match ds with
  | [.sl (.rows xss), .fn f0 1 [.agg [.sl (.ints U), .sl (.rows E)]]] => some (.sl (.ints (J1c (Jm E) xss)))
  | _ => none
theorem J5p (x : ZI) (k : Int) : PB Try.prog 218 [.sl (.ints x), .bx [.int .i64 k] 0] (decide ((x.length : Int) ≠ k)) := by
  refine ⟨@Try.call218, fun w vs hall => ?_⟩
  obtain ⟨v1, v2, rfl⟩ : ∃ v1 v2, vs = [v1, v2] := by
    match vs, hall.1 with
    | [a, b], _ => exact ⟨a, b, rfl⟩
  obtain ⟨ad, cap, rfl⟩ := J7A (hall.2 0 v1 _ rfl rfl)
  obtain ⟨b, rfl, hc⟩ := J8a (hall.2 1 v2 _ rfl rfl)
  show Calls Try.prog 218 #[.slice ad x.length cap, .pointer (some b)] w _
  clear hall
  go_enter Try.func218, Try.ntmps218
  go_wp2
  all_goals (go_ret; exact ⟨by first | (simp_all; done) | (simp_all; rfl), 0, rfl⟩)
theorem J0U (xss : ZR) (k : Int) (hp : 0 < xss.length) : PU Try.prog 217 26 (.rows xss) (.rows (xss.filter (fun x9 => !(decide ((x9.length : Int) ≠ k))))) [.fn 218 0 [.bx [.int .i64 k] 0]] true :=
  pu_deleteFunc Try.layDelete Try.zeroValue26 26 xss (fun x9 => decide ((x9.length : Int) ≠ k)) 218 [.bx [.int .i64 k] 0] (fun x => J5p x k) hp
abbrev JW (U : ZI) (E : ZR) (k : Int) (list2 : ZR) : Prop := (list2 = (J2 (U.length : Int).toNat).filter (fun x9 => !(decide ((x9.length : Int) ≠ k))))
def J3V (f : FuncId) (ds : List D) : Orc := bif Nat.beq f 134 then J7H ds else bif Nat.beq f 172 then J47 ds else .no
def J3P (U : ZI) (E : ZR) (k : Int) : Ann := .two (.none) (.cut (.mark [] [(5, .up (.rows ((J2 (U.length : Int).toNat).filter (fun x9 => !(decide ((x9.length : Int) ≠ k))))) true)]) (cut1 (fun (list2 : ZR) => JW U E k list2) (fun (list2 : ZR) => [(2, .ptr 2 0), (5, .d true (.sl (.rows list2)))]) (fun (list2 : ZR) => [(2, .box 39 [.d false (.sl (.ints U)), .d false (.sl (.rows E))])])) (fun _ => .none))
def J2b (U : ZI) (E : ZR) (k : Int) : Prop :=
  (((PC Try.prog 134 [.int .i64 (U.length : Int)] (.one (.own 26 (.rows (J2 (U.length : Int).toNat))))) ∧ ((J2 (U.length : Int).toNat).length = (J2 (U.length : Int).toNat).length) ∧ (PU Try.prog 217 26 (.rows (J2 (U.length : Int).toNat)) (.rows ((J2 (U.length : Int).toNat).filter (fun x9 => !(decide ((x9.length : Int) ≠ k))))) [.fn 218 0 [.bx [.int .i64 k] 0]] true) ∧ (∃ list2' : ZR, (JW U E k list2') ∧ (((J2 (U.length : Int).toNat).filter (fun x9 => !(decide ((x9.length : Int) ≠ k)))).length = ((J2 (U.length : Int).toNat).filter (fun x9 => !(decide ((x9.length : Int) ≠ k)))).length) ∧ (((J2 (U.length : Int).toNat).filter (fun x9 => !(decide ((x9.length : Int) ≠ k)))) = list2') ∧ (U = U) ∧ (E = E))) ∧ (∀ list2 : ZR, (JW U E k list2) → (PCs Try.prog 172 [.sl (.rows list2), .fn 153 1 [.agg [.sl (.ints U), .sl (.rows E)]]] 0 (.sl (.ints (J1c (Jm E) list2)))) ∧ ((((J1c (Jm E) list2) : ZI) = (Jz U E k)))))
theorem J3z (U : ZI) (E : ZR) (k : Int) (hg : J0 U E = true) (hk : 1 ≤ k ∧ k ≤ (U.length : Int)) (w_Open : (U.length : Int) ≤ 9223372036854775807) (w_Dist : (E.length : Int) ≤ 9223372036854775807) (v_Dist : ∀ x9 ∈ E, (x9.length : Int) ≤ 9223372036854775807) : J2b U E k := by
  unfold J2b
  obtain ⟨g1, g2, g3⟩ := J9 hg
  refine ⟨?_, ?_⟩
  ·refine ⟨?_, rfl, ?_, ?_⟩
   ·refine J7S (U.length : Int) ?_
    ·omega
   ·refine J0U (J2 (U.length : Int).toNat) k ?_
    ·exact J8j (by omega)
   ·refine ⟨((J2 (U.length : Int).toNat).filter (fun x9 => !(decide ((x9.length : Int) ≠ k)))), ?_⟩
    refine ⟨?_, rfl, rfl, rfl, rfl⟩
    ·unfold JW
     rfl
  intro list2 hJ
  have h8 := hJ
  refine ⟨?_, ?_⟩
  ·refine J49 list2 U E ?_ ?_
   ·rw [h8]; exact J6Z hk
   ·rw [h8]
    intro s hs
    exact (J3l hg (List.mem_filter.1 hs).1).1
  rw [h8]; rfl
theorem J3y (U : ZI) (E : ZR) (k : Int) (hg : J0 U E = true) (hk : 1 ≤ k ∧ k ≤ (U.length : Int)) : PC Try.prog 143 [.agg [.sl (.ints U), .sl (.rows E)], .int .i64 k] (.one (.d (.sl (.ints (Jz U E k))))) :=
  pc_wf @Try.call143 fun hw => pc_by (by kernel_rfl) Try.func143 @Try.call143 (by kernel_rfl) J3V (J3P U E k) (by kernel_rfl) (J3z U E k hg hk hw.1.1 hw.1.2.1.1 hw.1.2.1.2) (by kernel_rfl)
def J33 : List D → Orc := orcN [none, none] fun ds => match ds with
  | [.agg [.sl (.ints U), .sl (.rows E)], .int .i64 k] => some (.one (.d (.sl (.ints (Jz U E k)))))
  | _ => none
abbrev J0z (U : ZI) (E : ZR) (k : Int) (best : ZI) (i : Int) : Prop := (0 ≤ i) ∧ (i ≤ ((J2 (U.length : Int).toNat).length : Int)) ∧ (best = ((J2 (U.length : Int).toNat).take i.toNat).foldl (bsB (Jm E) k) []) ∧ (best = [] ∨ best ∈ (J2 (U.length : Int).toNat))
abbrev JS (U : ZI) (E : ZR) (k : Int) (best : ZI) (i : Int) : Nat := ((J2 (U.length : Int).toNat).length - i).toNat
def J7v (f : FuncId) (ds : List D) : Orc := bif Nat.beq f 214 then J65 ds else bif Nat.beq f 162 then J5B ds else .no
def J7B (U : ZI) (E : ZR) (k : Int) : Ann := .two (.none) (.two (.reg [(4, .frz)]) (.two (.two (.none) (.loop (cut2 (fun (best : ZI) (i : Int) => J0z U E k best i) (fun (best : ZI) (i : Int) => [(1, .d false (.int .i64 k)), (2, .ptr 2 0), (5, .d true (.sl (.rows (J2 (U.length : Int).toNat)))), (6, .d true (.sl (.ints best))), (7, .d true (.int .i64 i))]) (fun (best : ZI) (i : Int) => [(2, .box 39 [.d false (.sl (.ints U)), .d false (.sl (.rows E))])])) (fun g => JS U E k g.1 g.2) (fun _ => .none))) (.none)))
def J2t (U : ZI) (E : ZR) (k : Int) (best : ZI) (i : Int) : Bool := (cond ((((J2 (U.length : Int).toNat).getD i.toNat []).length : Int) == k) (cond ((best.length : Int) == 0) true (decide ((Jm E ((J2 (U.length : Int).toNat).getD i.toNat [])) < (Jm E best)))) false)
def J4l (U : ZI) (E : ZR) (k : Int) : Prop :=
  (PC Try.prog 214 [.int .i64 (U.length : Int)] (.one (.d (.sl (.rows (J2 (U.length : Int).toNat)))))) ∧ ((∃ best' : ZI, ∃ i' : Int, (J0z U E k best' i') ∧ (k = k) ∧ ((J2 (U.length : Int).toNat) = (J2 (U.length : Int).toNat)) ∧ ([] = best') ∧ ((0 : Int) = i') ∧ (U = U) ∧ (E = E)) ∧ (∀ best : ZI, ∀ i : Int, (J0z U E k best i) → (((decide (i < (((J2 (U.length : Int).toNat).length) : Int))) = true → (true = true) ∧ ((0 : Int) ≤ i) ∧ ((i : Int) < (J2 (U.length : Int).toNat).length) ∧ (i.toNat < (J2 (U.length : Int).toNat).length) ∧ (((((J2 (U.length : Int).toNat).getD i.toNat []).length : Int) == k) = true → ((((J2 (U.length : Int).toNat).getD i.toNat []).length : Int) == k) = true) ∧ (((((J2 (U.length : Int).toNat).getD i.toNat []).length : Int) == k) = true → ((((J2 (U.length : Int).toNat).getD i.toNat []).length : Int) == k) = true) ∧ (((((J2 (U.length : Int).toNat).getD i.toNat []).length : Int) == k) = true → ((((J2 (U.length : Int).toNat).getD i.toNat []).length : Int) == k) = true) ∧ ((((((J2 (U.length : Int).toNat).getD i.toNat []).length : Int) == k) && (!((best.length : Int) == 0))) = true → (((((J2 (U.length : Int).toNat).getD i.toNat []).length : Int) == k) && (!((best.length : Int) == 0))) = true) ∧ ((((((J2 (U.length : Int).toNat).getD i.toNat []).length : Int) == k) && (!((best.length : Int) == 0))) = true → (((((J2 (U.length : Int).toNat).getD i.toNat []).length : Int) == k) && (!((best.length : Int) == 0))) = true) ∧ (((((((J2 (U.length : Int).toNat).getD i.toNat []).length : Int) == k) && (!((best.length : Int) == 0))) = true → (0 : Int) ≤ i)) ∧ (((((((J2 (U.length : Int).toNat).getD i.toNat []).length : Int) == k) && (!((best.length : Int) == 0))) = true → (i : Int) < (J2 (U.length : Int).toNat).length)) ∧ ((((((J2 (U.length : Int).toNat).getD i.toNat []).length : Int) == k) && (!((best.length : Int) == 0))) = true → (((((J2 (U.length : Int).toNat).getD i.toNat []).length : Int) == k) && (!((best.length : Int) == 0))) = true) ∧ (((((((J2 (U.length : Int).toNat).getD i.toNat []).length : Int) == k) && (!((best.length : Int) == 0))) = true → i.toNat < (J2 (U.length : Int).toNat).length)) ∧ ((((((J2 (U.length : Int).toNat).getD i.toNat []).length : Int) == k) && (!((best.length : Int) == 0))) = true → (((((J2 (U.length : Int).toNat).getD i.toNat []).length : Int) == k) && (!((best.length : Int) == 0))) = true) ∧ ((((((J2 (U.length : Int).toNat).getD i.toNat []).length : Int) == k) && (!((best.length : Int) == 0))) = true → (((((J2 (U.length : Int).toNat).getD i.toNat []).length : Int) == k) && (!((best.length : Int) == 0))) = true) ∧ ((((((J2 (U.length : Int).toNat).getD i.toNat []).length : Int) == k) && (!((best.length : Int) == 0))) = true → PC Try.prog 162 [.agg [.sl (.ints U), .sl (.rows E)], .sl (.ints ((J2 (U.length : Int).toNat).getD i.toNat []))] (.one (.d (.int .i64 (Jm E ((J2 (U.length : Int).toNat).getD i.toNat [])))))) ∧ ((((((J2 (U.length : Int).toNat).getD i.toNat []).length : Int) == k) && (!((best.length : Int) == 0))) = true → (((((J2 (U.length : Int).toNat).getD i.toNat []).length : Int) == k) && (!((best.length : Int) == 0))) = true) ∧ ((((((J2 (U.length : Int).toNat).getD i.toNat []).length : Int) == k) && (!((best.length : Int) == 0))) = true → (((((J2 (U.length : Int).toNat).getD i.toNat []).length : Int) == k) && (!((best.length : Int) == 0))) = true) ∧ ((((((J2 (U.length : Int).toNat).getD i.toNat []).length : Int) == k) && (!((best.length : Int) == 0))) = true → PC Try.prog 162 [.agg [.sl (.ints U), .sl (.rows E)], .sl (.ints best)] (.one (.d (.int .i64 (Jm E best))))) ∧ ((((((J2 (U.length : Int).toNat).getD i.toNat []).length : Int) == k) && (!((best.length : Int) == 0))) = true → (((((J2 (U.length : Int).toNat).getD i.toNat []).length : Int) == k) && (!((best.length : Int) == 0))) = true) ∧ ((((((J2 (U.length : Int).toNat).getD i.toNat []).length : Int) == k) && (!((best.length : Int) == 0))) = true → (((((J2 (U.length : Int).toNat).getD i.toNat []).length : Int) == k) && (!((best.length : Int) == 0))) = true) ∧ ((((((J2 (U.length : Int).toNat).getD i.toNat []).length : Int) == k) = true → ((((J2 (U.length : Int).toNat).getD i.toNat []).length : Int) == k) = true)) ∧ ((((((J2 (U.length : Int).toNat).getD i.toNat []).length : Int) == k) = true → ((best.length : Int) == 0) = true → true = true)) ∧ ((((((J2 (U.length : Int).toNat).getD i.toNat []).length : Int) == k) = true → ((best.length : Int) == 0) = false → (((((J2 (U.length : Int).toNat).getD i.toNat []).length : Int) == k) && (!((best.length : Int) == 0))) = true)) ∧ (true = true) ∧ ((((((J2 (U.length : Int).toNat).getD i.toNat []).length : Int) == k) = true → ((((J2 (U.length : Int).toNat).getD i.toNat []).length : Int) == k) = true)) ∧ ((((((J2 (U.length : Int).toNat).getD i.toNat []).length : Int) == k) = false → true = true)) ∧ (((J2t U E k best i) = true → ((0 : Int) ≤ i) ∧ ((i : Int) < (J2 (U.length : Int).toNat).length) ∧ (i.toNat < (J2 (U.length : Int).toNat).length) ∧ (I6 (i + 1)) ∧ (∃ best' : ZI, ∃ i' : Int, (J0z U E k best' i') ∧ (JS U E k best' i' < JS U E k best i) ∧ (k = k) ∧ ((J2 (U.length : Int).toNat) = (J2 (U.length : Int).toNat)) ∧ (((J2 (U.length : Int).toNat).getD i.toNat []) = best') ∧ ((i + 1) = i') ∧ (U = U) ∧ (E = E))) ∧ ((J2t U E k best i) = false → (I6 (i + 1)) ∧ (∃ best' : ZI, ∃ i' : Int, (J0z U E k best' i') ∧ (JS U E k best' i' < JS U E k best i) ∧ (k = k) ∧ ((J2 (U.length : Int).toNat) = (J2 (U.length : Int).toNat)) ∧ (best = best') ∧ ((i + 1) = i') ∧ (U = U) ∧ (E = E))))) ∧ ((decide (i < (((J2 (U.length : Int).toNat).length) : Int))) = false → (((best : ZI) = (Jz U E k)))))))
theorem J6r (U : ZI) (E : ZR) (k : Int) (hg : J0 U E = true) (hk : 1 ≤ k ∧ k ≤ (U.length : Int)) (w_Open : (U.length : Int) ≤ 9223372036854775807) (w_Dist : (E.length : Int) ≤ 9223372036854775807) (v_Dist : ∀ x9 ∈ E, (x9.length : Int) ≤ 9223372036854775807) : J4l U E k := by
  unfold J4l J2t
  obtain ⟨g1, g2, g3⟩ := J9 hg
  have sl := J7h (n := (U.length : Int).toNat) (by omega)
  refine ⟨?_, ?_, ?_⟩
  ·refine J6V (U.length : Int) ?_
   ·omega
  ·refine ⟨([]), 0, ?_⟩
   refine ⟨?_, rfl, rfl, ?_, rfl, rfl, rfl⟩
   ·refine ⟨?_, ?_, ?_, ?_⟩
    ·omega
    ·omega
    ·rfl
    ·exact .inl rfl
   rfl
  intro best i hJ
  obtain ⟨h1, h2, h3, h4⟩ := hJ
  refine ⟨?_, ?_⟩
  ·intro b1
   try simp only [nrmT] at b1
   refine ⟨rfl, ?_, ?_, ?_, id, id, id, id, id, ?_, ?_, id, ?_, id, id, ?_, id, id, ?_, id, id, id, fun _ _ => rfl, ?_, rfl, id, fun _ => rfl, ?_, ?_⟩
   ·omega
   ·omega
   ·omega
   ·intro _; omega
   ·intro _; omega
   ·intro _; omega
   ·intro hg
    refine J36 U E ((J2 (U.length : Int).toNat).getD i.toNat []) ?_
    ·exact (J3l (by assumption) (getD_memI (d := []) h1 (by omega : i < ((J2 (U.length : Int).toNat).length : Int)))).1
   ·intro hg
    refine J36 U E best ?_
    ·rcases h4 with h5 | h5
     · exfalso
       rw [h5] at hg
       simp at hg
     · exact (J3l (by assumption) h5).1
   ·intro q1 q2; rw [q1, q2]; rfl
   ·intro b2
    refine ⟨?_, ?_, ?_, ?_, ?_⟩
    ·omega
    ·omega
    ·omega
    ·omega
    refine ⟨((J2 (U.length : Int).toNat).getD i.toNat []), (i + 1), ?_⟩
    refine ⟨?_, ?_, rfl, rfl, rfl, rfl, rfl, rfl⟩
    ·refine ⟨?_, ?_, ?_, ?_⟩
     ·omega
     ·omega
     ·rw [J2n (d := []) h1 (by omega), ← h3]; unfold bsB; rw [if_pos b2]
     ·exact .inr (getD_memI (d := []) h1 (by omega : i < ((J2 (U.length : Int).toNat).length : Int)))
    (simp only [JS]; omega)
   intro b3
   refine ⟨?_, ?_⟩
   ·omega
   refine ⟨best, (i + 1), ?_⟩
   refine ⟨?_, ?_, rfl, rfl, rfl, rfl, rfl, rfl⟩
   ·refine ⟨?_, ?_, ?_, ?_⟩
    ·omega
    ·omega
    ·rw [J2n (d := []) h1 (by omega), ← h3]; unfold bsB; rw [if_neg (by rw [b3]; simp)]
    ·exact h4
   (simp only [JS]; omega)
  intro b4
  try simp only [nrmT] at b4
  rw [h3, take_all (by omega)]
  exact J8k hk.1 _
theorem J6G (U : ZI) (E : ZR) (k : Int) (hg : J0 U E = true) (hk : 1 ≤ k ∧ k ≤ (U.length : Int)) : PC Try.prog 140 [.agg [.sl (.ints U), .sl (.rows E)], .int .i64 k] (.one (.d (.sl (.ints (Jz U E k))))) :=
  pc_wf @Try.call140 fun hw => pc_by (by kernel_rfl) Try.func140 @Try.call140 (by kernel_rfl) J7v (J7B U E k) (by kernel_rfl) (J6r U E k hg hk hw.1.1 hw.1.2.1.1 hw.1.2.1.2) (by kernel_rfl)
def J63 : List D → Orc := orcN [none, none] fun ds => match ds with
  | [.agg [.sl (.ints U), .sl (.rows E)], .int .i64 k] => some (.one (.d (.sl (.ints (Jz U E k)))))
  | _ => none
theorem J8n {U : ZI} {E : ZR} (hg : J0 U E = true) {k : Int} (hk : 1 ≤ k ∧ k ≤ (U.length : Int)) : (J0 U E && J1 (Jz U E k) 0 ((U.length : Int) - 1) && decide (0 < (Jz U E k).length)) = true := (J3l hg (J8v hk)).1
/-- The clients that each site of a set serves. -/
def clL (D : ZR) (set : ZI) : ZR := tabTo (fun k => members (fun i => decide (J5 (D.getD i []) set set.length = set.getD k 0)) D.length) set.length
def coL (O : ZI) (D : ZR) (set : ZI) : ZR := if (J0 O D && J1 set 0 ((O.length : Int) - 1) && decide (0 < set.length)) = true then clL D set else []
/-- The clients before i that each site of a set serves. -/
def J1S (D : ZR) (set : ZI) (i : Nat) : ZR := tabTo (fun k => members (fun t => decide (J5 (D.getD t []) set set.length = set.getD k 0)) i) set.length
theorem JB (D : ZR) (set : ZI) (i : Nat) : (J1S D set i).length = set.length := tabTo_len _ _
theorem J7L (D : ZR) (set : ZI) : J1S D set 0 = List.replicate set.length [] := by
  unfold J1S tabTo
  rw [List.eq_replicate_iff]
  refine ⟨by simp, fun b hb => ?_⟩
  obtain ⟨k, _, rfl⟩ := List.mem_map.1 hb
  rfl
theorem J2H {D : ZR} {set : ZI} {i k : Nat} (hk : k < set.length) : (J1S D set i).getD k [] = members (fun t => decide (J5 (D.getD t []) set set.length = set.getD k 0)) i := tabTo_get hk
theorem J82 {O : ZI} {D : ZR} {set : ZI} (hs : J1 set 0 ((O.length : Int) - 1) = true) {i k : Nat} (hk : k < set.length) (he : set.getD k 0 = J5 (D.getD i []) set set.length) :
    (J1S D set i).set k ((J1S D set i).getD k [] ++ [(i : Int)]) = J1S D set (i + 1) := by
  refine List.ext_getElem (by rw [List.length_set, JB, JB]) fun j h1 h2 => ?_
  rw [List.length_set, JB] at h1
  rw [← J07 (d := []) (show j < (J1S D set (i + 1)).length by rw [JB]; exact h1), J2H h1, members_succ, List.getElem_set]
  by_cases e : k = j
  · subst e
    rw [if_pos rfl, J2H hk, if_pos (decide_eq_true he.symm)]
  rw [if_neg e, ← J07 (d := []) (show j < (J1S D set i).length by rw [JB]; exact h1), J2H h1, if_neg, List.append_nil]
  intro hd
  have hd := of_decide_eq_true hd
  rcases Nat.lt_or_gt_of_ne e with h | h
  · have := J31 hs h h1; omega
  have := J31 hs h hk; omega
theorem J6N {D : ZR} {set : ZI} (i k : Nat) : ((J1S D set i).getD k []).length ≤ i := by
  by_cases hk : k < set.length
  · rw [J2H hk]; exact members_len_le _ _
  have : (J1S D set i).getD k [] = [] := by
    rw [List.getD_eq_getElem?_getD, List.getElem?_eq_none (by rw [JB]; omega)]; rfl
  rw [this]; exact Nat.zero_le _
def lmB (ss cs : ZI) (k : Int) : Bool := J4 ss cs && inB k 1 (ss.length : Int)
def lmS (ss cs : ZI) (k : Int) : ZI := Jz (List.replicate ss.length 0) (JG ss cs) k
def lgL (ss cs : ZI) (k : Int) : ZR := if lmB ss cs k = true then clL (JG ss cs) (lmS ss cs k) else []
theorem J1z {ss cs : ZI} (h : J4 ss cs = true) : J0 (List.replicate ss.length 0) (JG ss cs) = true := by
  obtain ⟨g1, g2, g3, g4, g5⟩ := JA h
  unfold J0
  have h1 : inB ((List.replicate ss.length (0 : Int)).length : Int) 1 7 = true := by unfold inB; simp; omega
  have h2 : (List.replicate ss.length (0 : Int)).all (fun x => inB x 0 99) = true := by
    rw [List.all_eq_true]
    intro x hx
    rw [(List.mem_replicate.1 hx).2]; decide
  have h3 : (JG ss cs).all (fun l => J6 l ((List.replicate ss.length (0 : Int)).length : Int) 99) = true := by
    rw [List.all_eq_true]
    intro l hl
    obtain ⟨j, hj, rfl⟩ := List.mem_map.1 hl
    have hj := List.mem_range.1 hj
    unfold J6
    rw [J6C, List.length_replicate, decide_eq_true rfl, Bool.and_true, List.all_eq_true]
    intro x hx
    obtain ⟨a, ha, rfl⟩ := List.mem_map.1 hx
    have ha := List.mem_range.1 ha
    have c1 := g5 j hj
    have c2 := JD g4 a ha
    refine decide_eq_true ?_
    omega
  rw [h1, h2, h3, J5f, decide_eq_true g3]; rfl
theorem J06 {ss cs : ZI} {k : Int} (h : lmB ss cs k = true) : J4 ss cs = true ∧ inB k 1 (ss.length : Int) = true ∧ (1 ≤ k ∧ k ≤ (ss.length : Int)) ∧ J0 (List.replicate ss.length 0) (JG ss cs) = true ∧
    (J0 (List.replicate ss.length 0) (JG ss cs) && J1 (lmS ss cs k) 0 (((List.replicate ss.length (0 : Int)).length : Int) - 1) && decide (0 < (lmS ss cs k).length)) = true := by
  have h2 := (Bool.and_eq_true _ _ ▸ (show (J4 ss cs && inB k 1 (ss.length : Int)) = true from h) : _ ∧ _)
  have hk := J2e h2.2
  have hg := J1z h2.1
  exact ⟨h2.1, h2.2, hk, hg, J8n (E := JG ss cs) hg (k := k) (by rw [List.length_replicate]; exact hk)⟩
abbrev JX (U : ZI) (E : ZR) (set : ZI) (site : Int) (out : ZI) (i : Int) : Prop := (0 ≤ i ∧ i ≤ (E.length : Int)) ∧ (out = members (fun i9 => decide (J5 (E.getD i9 []) set set.length = site)) i.toNat)
abbrev Jn (U : ZI) (E : ZR) (set : ZI) (site : Int) (out : ZI) (i : Int) : Nat := (E.length - i).toNat
def J5v (f : FuncId) (ds : List D) : Orc := bif Nat.beq f 238 then J3c ds else .no
def J5J (U : ZI) (E : ZR) (set : ZI) (site : Int) : Ann := .two (.none) (.two (.none) (.two (.two (.none) (.loop (cut2 (fun (out : ZI) (i : Int) => JX U E set site out i) (fun (out : ZI) (i : Int) => [(1, .d false (.sl (.ints set))), (2, .d false (.int .i64 site)), (3, .ptr 3 0), (7, .own 1000000 out.length), (8, .d true (.int .i64 i))]) (fun (out : ZI) (i : Int) => [(1000000, .arr true 3 (.ints out)), (3, .box 39 [.d false (.sl (.ints U)), .d false (.sl (.rows E))])])) (fun g => Jn U E set site g.1 g.2) (fun _ => .none))) (.none)))
def J2L (U : ZI) (E : ZR) (set : ZI) (site : Int) : Prop :=
  ((∃ out' : ZI, ∃ i' : Int, (JX U E set site out' i') ∧ (set = set) ∧ (site = site) ∧ ((0 : Nat) = out'.length) ∧ ((0 : Int) = i') ∧ ([] = out') ∧ (U = U) ∧ (E = E)) ∧ (∀ out : ZI, ∀ i : Int, (JX U E set site out i) → (((decide (i < (E.length : Int))) = true → (PC Try.prog 238 [.agg [.sl (.ints U), .sl (.rows E)], .int .i64 i, .sl (.ints set)] (.one (.d (.int .i64 (J5 (E.getD i.toNat []) set set.length))))) ∧ ((((J5 (E.getD i.toNat []) set set.length) == site) = true → (out.length = out.length) ∧ ((1 : Nat) = 1) ∧ ((out.length + 1) * 8 ≤ 140737488355328) ∧ (I6 (i + 1)) ∧ (∃ out' : ZI, ∃ i' : Int, (JX U E set site out' i') ∧ (Jn U E set site out' i' < Jn U E set site out i) ∧ (set = set) ∧ (site = site) ∧ ((out.length + 1) = out'.length) ∧ ((i + 1) = i') ∧ ((out ++ [i]) = out') ∧ (U = U) ∧ (E = E))) ∧ (((J5 (E.getD i.toNat []) set set.length) == site) = false → (I6 (i + 1)) ∧ (∃ out' : ZI, ∃ i' : Int, (JX U E set site out' i') ∧ (Jn U E set site out' i' < Jn U E set site out i) ∧ (set = set) ∧ (site = site) ∧ (out.length = out'.length) ∧ ((i + 1) = i') ∧ (out = out') ∧ (U = U) ∧ (E = E))))) ∧ ((decide (i < (E.length : Int))) = false → ((out.length = out.length) ∧ ((out : ZI) = (members (fun i9 => decide (J5 (E.getD i9 []) set set.length = site)) E.length)))))))
end Go.Proofs.Ytomnmacmlhkceaa
