/- Contracts of the functions that the law reaches. -/
import Derived.Test.YtomnmacmlhkceaaQw
import Derived.Test.YtomnmacmlhkceaaQua
import Derived.Test.YtomnmacmlhkceaaQuc
import Derived.Test.YtomnmacmlhkceaaSh
import Derived.Test.YtomnmacmlhkceaaProg
import Derived.KernelRfl
set_option linter.unusedVariables false
set_option linter.unusedSimpArgs false
namespace Go.Proofs.Ytomnmacmlhkceaa
open Go

abbrev ZI := List Int
abbrev ZR := List (List Int)
abbrev I6 (x : Int) : Prop := -9223372036854775808 ≤ x ∧ x ≤ 9223372036854775807
def Jak (f : FuncId) (ds : List D) : Orc := .no
def Jay (x : Int) (a : Int) (b : Int) : Ann := .none
def J7K (x : Int) (a : Int) (b : Int) : Prop :=
  ((decide (x ≥ a)) = true → (decide (x ≥ a)) = true) ∧ ((decide (x ≥ a)) = true → (decide (x ≥ a)) = true) ∧ (true = true) ∧ (((decide (x ≥ a)) = true → (decide (x ≥ a)) = true)) ∧ (((decide (x ≥ a)) = false → true = true)) ∧ (((cond (decide (x ≥ a)) (decide (x ≤ b)) false) = (inB x a b)))
theorem J9T (x : Int) (a : Int) (b : Int)   : J7K x a b := by
  unfold J7K
  refine ⟨id, id, rfl, id, fun _ => rfl, ?_⟩
  ·(simp only [inB]; by_cases h : a ≤ x <;> simp_all)
theorem J0X (x : Int) (a : Int) (b : Int)  : PC Try.prog 116 [.int .i64 x, .int .i64 a, .int .i64 b] (.one (.d (.bool (inB x a b)))) :=
  pc_wf @Try.call116 fun _ => pc_by (by kernel_rfl) Try.func116 @Try.call116 (by kernel_rfl) Jak (Jay x a b) (by kernel_rfl) (J9T x a b) (by kernel_rfl)
def J10 : List D → Orc := orcN [none, none, none] fun ds => match ds with
  | [.int .i64 x, .int .i64 a, .int .i64 b] => some (.one (.d (.bool (inB x a b))))
  | _ => none
def J8v (f : FuncId) (ds : List D) : Orc := .no
def J8y (x : Int) (a : Int) (b : Int) : Ann := .none
def J4O (x : Int) (a : Int) (b : Int) : Prop :=
  ((decide (x ≥ a)) = true → (decide (x ≥ a)) = true) ∧ ((decide (x ≥ a)) = true → (decide (x ≥ a)) = true) ∧ (true = true) ∧ (((decide (x ≥ a)) = true → (decide (x ≥ a)) = true)) ∧ (((decide (x ≥ a)) = false → true = true)) ∧ (((cond (decide (x ≥ a)) (decide (x ≤ b)) false) = (inB x a b)))
theorem J7R (x : Int) (a : Int) (b : Int)   : J4O x a b := by
  unfold J4O
  refine ⟨id, id, rfl, id, fun _ => rfl, ?_⟩
  ·(simp only [inB]; by_cases h : a ≤ x <;> simp_all)
theorem J0R (x : Int) (a : Int) (b : Int)  : PC Try.prog 120 [.int .i64 x, .int .i64 a, .int .i64 b] (.one (.d (.bool (inB x a b)))) :=
  pc_wf @Try.call120 fun _ => pc_by (by kernel_rfl) Try.func120 @Try.call120 (by kernel_rfl) J8v (J8y x a b) (by kernel_rfl) (J7R x a b) (by kernel_rfl)
def J0C : List D → Orc := orcN [none, none, none] fun ds => match ds with
  | [.int .i64 x, .int .i64 a, .int .i64 b] => some (.one (.d (.bool (inB x a b))))
  | _ => none
def J1a (xs : ZI) (lo hi : Int) (k : Nat) : Bool := inB (xs.getD k 0) lo hi && (decide (k = 0) || decide (xs.getD (k - 1) 0 < xs.getD k 0))
def J3 (xs : ZI) (lo hi : Int) : Bool := allTo (J1a xs lo hi) xs.length
theorem J2r {xs : ZI} {lo hi i : Int} (h0 : 0 ≤ i) {c : Bool} (hc : (cond (!(inB (xs.getD i.toNat 0) lo hi)) true (cond (decide (i > 0)) (decide (xs.getD (i - 1).toNat 0 ≥ xs.getD i.toNat 0)) false)) = c) :
    J1a xs lo hi i.toNat = !c := by
  subst hc
  have e : (i - 1).toNat = i.toNat - 1 := by omega
  unfold J1a
  rw [e]
  cases inB (xs.getD i.toNat 0) lo hi
  · rfl
  by_cases h : i > 0
  · have h2 : ¬ i.toNat = 0 := by omega
    simp [h, h2]
    by_cases h3 : xs[i.toNat - 1]?.getD 0 < xs[i.toNat]?.getD 0
    · simp [h3]
    simp [h3]; omega
  · have h2 : i.toNat = 0 := by omega
    simp [h, h2]
abbrev J16 (xs : ZI) (lo : Int) (hi : Int) (i : Int) : Prop := (0 ≤ i) ∧ (i ≤ (xs.length : Int)) ∧ (allTo (J1a xs lo hi) i.toNat = true)
abbrev J1d (xs : ZI) (lo : Int) (hi : Int) (i : Int) : Nat := (xs.length - i).toNat
def J7V (f : FuncId) (ds : List D) : Orc := bif Nat.beq f 116 then J10 ds else .no
def J82 (xs : ZI) (lo : Int) (hi : Int) : Ann := .two (.none) (.two (.two (.none) (.loop (cut1 (fun (i : Int) => J16 xs lo hi i) (fun (i : Int) => [(0, .d false (.sl (.ints xs))), (1, .d false (.int .i64 lo)), (2, .d false (.int .i64 hi)), (7, .d true (.int .i64 i))]) (fun (i : Int) => [])) (fun g => J1d xs lo hi g) (fun _ => .none))) (.none))
def J4m (xs : ZI) (lo : Int) (hi : Int) : Prop :=
  ((∃ i' : Int, (J16 xs lo hi i') ∧ (xs = xs) ∧ (lo = lo) ∧ (hi = hi) ∧ ((0 : Int) = i')) ∧ (∀ i : Int, (J16 xs lo hi i) → (((decide (i < (xs.length : Int))) = true → (true = true) ∧ ((0 : Int) ≤ i) ∧ ((i : Int) < xs.length) ∧ (i.toNat < xs.length) ∧ (PC Try.prog 116 [.int .i64 (xs.getD i.toNat 0), .int .i64 lo, .int .i64 hi] (.one (.d (.bool (inB (xs.getD i.toNat 0) lo hi))))) ∧ ((!(!(inB (xs.getD i.toNat 0) lo hi))) = true → (!(!(inB (xs.getD i.toNat 0) lo hi))) = true) ∧ ((!(!(inB (xs.getD i.toNat 0) lo hi))) = true → (!(!(inB (xs.getD i.toNat 0) lo hi))) = true) ∧ (((!(!(inB (xs.getD i.toNat 0) lo hi))) && (decide (i > 0))) = true → ((!(!(inB (xs.getD i.toNat 0) lo hi))) && (decide (i > 0))) = true) ∧ ((((!(!(inB (xs.getD i.toNat 0) lo hi))) && (decide (i > 0))) = true → I6 (i - 1))) ∧ (((!(!(inB (xs.getD i.toNat 0) lo hi))) && (decide (i > 0))) = true → ((!(!(inB (xs.getD i.toNat 0) lo hi))) && (decide (i > 0))) = true) ∧ (((!(!(inB (xs.getD i.toNat 0) lo hi))) && (decide (i > 0))) = true → ((!(!(inB (xs.getD i.toNat 0) lo hi))) && (decide (i > 0))) = true) ∧ ((((!(!(inB (xs.getD i.toNat 0) lo hi))) && (decide (i > 0))) = true → (0 : Int) ≤ (i - 1))) ∧ ((((!(!(inB (xs.getD i.toNat 0) lo hi))) && (decide (i > 0))) = true → ((i - 1) : Int) < xs.length)) ∧ (((!(!(inB (xs.getD i.toNat 0) lo hi))) && (decide (i > 0))) = true → ((!(!(inB (xs.getD i.toNat 0) lo hi))) && (decide (i > 0))) = true) ∧ ((((!(!(inB (xs.getD i.toNat 0) lo hi))) && (decide (i > 0))) = true → (i - 1).toNat < xs.length)) ∧ (((!(!(inB (xs.getD i.toNat 0) lo hi))) && (decide (i > 0))) = true → ((!(!(inB (xs.getD i.toNat 0) lo hi))) && (decide (i > 0))) = true) ∧ (((!(!(inB (xs.getD i.toNat 0) lo hi))) && (decide (i > 0))) = true → ((!(!(inB (xs.getD i.toNat 0) lo hi))) && (decide (i > 0))) = true) ∧ ((((!(!(inB (xs.getD i.toNat 0) lo hi))) && (decide (i > 0))) = true → (0 : Int) ≤ i)) ∧ ((((!(!(inB (xs.getD i.toNat 0) lo hi))) && (decide (i > 0))) = true → (i : Int) < xs.length)) ∧ (((!(!(inB (xs.getD i.toNat 0) lo hi))) && (decide (i > 0))) = true → ((!(!(inB (xs.getD i.toNat 0) lo hi))) && (decide (i > 0))) = true) ∧ ((((!(!(inB (xs.getD i.toNat 0) lo hi))) && (decide (i > 0))) = true → i.toNat < xs.length)) ∧ (((!(!(inB (xs.getD i.toNat 0) lo hi))) && (decide (i > 0))) = true → ((!(!(inB (xs.getD i.toNat 0) lo hi))) && (decide (i > 0))) = true) ∧ (((!(!(inB (xs.getD i.toNat 0) lo hi))) && (decide (i > 0))) = true → ((!(!(inB (xs.getD i.toNat 0) lo hi))) && (decide (i > 0))) = true) ∧ (((!(!(inB (xs.getD i.toNat 0) lo hi))) = true → (!(!(inB (xs.getD i.toNat 0) lo hi))) = true)) ∧ (((!(!(inB (xs.getD i.toNat 0) lo hi))) = true → (decide (i > 0)) = true → ((!(!(inB (xs.getD i.toNat 0) lo hi))) && (decide (i > 0))) = true)) ∧ (((!(!(inB (xs.getD i.toNat 0) lo hi))) = true → (decide (i > 0)) = false → true = true)) ∧ (true = true) ∧ (((!(inB (xs.getD i.toNat 0) lo hi)) = true → true = true)) ∧ (((!(inB (xs.getD i.toNat 0) lo hi)) = false → (!(!(inB (xs.getD i.toNat 0) lo hi))) = true)) ∧ (((cond (!(inB (xs.getD i.toNat 0) lo hi)) true (cond (decide (i > 0)) (decide ((xs.getD ((i - 1).toNat) 0) ≥ (xs.getD i.toNat 0))) false)) = true → ((false = (J3 xs lo hi)))) ∧ ((cond (!(inB (xs.getD i.toNat 0) lo hi)) true (cond (decide (i > 0)) (decide ((xs.getD ((i - 1).toNat) 0) ≥ (xs.getD i.toNat 0))) false)) = false → (I6 (i + 1)) ∧ (∃ i' : Int, (J16 xs lo hi i') ∧ (J1d xs lo hi i' < J1d xs lo hi i) ∧ (xs = xs) ∧ (lo = lo) ∧ (hi = hi) ∧ ((i + 1) = i'))))) ∧ ((decide (i < (xs.length : Int))) = false → ((true = (J3 xs lo hi)))))))
theorem J7y (xs : ZI) (lo : Int) (hi : Int)  (w_xs : (xs.length : Int) ≤ 9223372036854775807) : J4m xs lo hi := by
  unfold J4m
  refine ⟨?_, ?_⟩
  ·refine ⟨0, ?_⟩
   refine ⟨?_, rfl, rfl, rfl, rfl⟩
   ·refine ⟨?_, ?_, ?_⟩
    ·omega
    ·omega
    ·rfl
  intro i hJ
  obtain ⟨h1, h2, h3⟩ := hJ
  refine ⟨?_, ?_⟩
  ·intro b1
   try simp only [nrmT] at b1
   refine ⟨rfl, ?_, ?_, ?_, J0X (xs.getD i.toNat 0) lo hi, id, id, id, ?_, id, id, ?_, ?_, id, ?_, id, id, ?_, ?_, id, ?_, id, id, id, ?_, fun _ _ => rfl, rfl, fun _ => rfl, ?_, ?_, ?_⟩
   ·omega
   ·omega
   ·omega
   ·omega
   ·(intro hg; simp only [nrmT] at hg; omega)
   ·omega
   ·omega
   ·omega
   ·omega
   ·omega
   ·(simp_all; done)
   ·(simp_all; done)
   ·intro b2
    have e := J2r h1 b2
    exact (allTo_falseI h1 (by omega) e).symm
   intro b3
   refine ⟨?_, ?_⟩
   ·omega
   refine ⟨(i + 1), ?_⟩
   refine ⟨?_, ?_, rfl, rfl, rfl, rfl⟩
   ·refine ⟨?_, ?_, ?_⟩
    ·omega
    ·omega
    ·have e := J2r h1 b3
     exact allTo_step h1 h3 e
   (simp only [J1d]; omega)
  intro b4
  try simp only [nrmT] at b4
  have e : i.toNat = xs.length := by omega
  rw [e] at h3
  exact h3.symm
theorem J40 (xs : ZI) (lo : Int) (hi : Int)  : PC Try.prog 167 [.sl (.ints xs), .int .i64 lo, .int .i64 hi] (.one (.d (.bool (J3 xs lo hi)))) :=
  pc_wf @Try.call167 fun hw => pc_by (by kernel_rfl) Try.func167 @Try.call167 (by kernel_rfl) J7V (J82 xs lo hi) (by kernel_rfl) (J7y xs lo hi hw.1) (by kernel_rfl)
def J3L : List D → Orc := orcN [some .ints, none, none] fun ds => match ds with
  | [.sl (.ints xs), .int .i64 lo, .int .i64 hi] => some (.one (.d (.bool (J3 xs lo hi))))
  | _ => none
abbrev J11 (xs : ZI) (below : Int) (i : Int) : Prop := (0 ≤ i) ∧ (i ≤ (xs.length : Int)) ∧ (allTo (J1a xs 0 (below - 1)) i.toNat = true)
abbrev J1f (xs : ZI) (below : Int) (i : Int) : Nat := (xs.length - i).toNat
def J8b (f : FuncId) (ds : List D) : Orc := bif Nat.beq f 120 then J0C ds else .no
def J7X (xs : ZI) (below : Int) : Ann := .two (.none) (.two (.two (.none) (.loop (cut1 (fun (i : Int) => J11 xs below i) (fun (i : Int) => [(0, .d false (.sl (.ints xs))), (1, .d false (.int .i64 below)), (7, .d false (.sl (.ints xs))), (8, .d true (.int .i64 (xs.length : Int))), (9, .d true (.int .i64 i))]) (fun (i : Int) => [])) (fun g => J1f xs below g) (fun _ => .none))) (.none))
def J4c (xs : ZI) (below : Int) : Prop :=
  ((∃ i' : Int, (J11 xs below i') ∧ (xs = xs) ∧ (below = below) ∧ (xs = xs) ∧ ((xs.length : Int) = (xs.length : Int)) ∧ ((0 : Int) = i')) ∧ (∀ i : Int, (J11 xs below i) → (((decide (i < (xs.length : Int))) = true → ((0 : Int) ≤ i) ∧ ((i : Int) < xs.length) ∧ (i.toNat < xs.length) ∧ (I6 (below - 1)) ∧ (PC Try.prog 120 [.int .i64 (xs.getD i.toNat 0), .int .i64 0, .int .i64 (below - 1)] (.one (.d (.bool (inB (xs.getD i.toNat 0) 0 (below - 1)))))) ∧ ((!(!(inB (xs.getD i.toNat 0) 0 (below - 1)))) = true → (!(!(inB (xs.getD i.toNat 0) 0 (below - 1)))) = true) ∧ ((!(!(inB (xs.getD i.toNat 0) 0 (below - 1)))) = true → (!(!(inB (xs.getD i.toNat 0) 0 (below - 1)))) = true) ∧ (((!(!(inB (xs.getD i.toNat 0) 0 (below - 1)))) && (decide (i > 0))) = true → ((!(!(inB (xs.getD i.toNat 0) 0 (below - 1)))) && (decide (i > 0))) = true) ∧ ((((!(!(inB (xs.getD i.toNat 0) 0 (below - 1)))) && (decide (i > 0))) = true → I6 (i - 1))) ∧ (((!(!(inB (xs.getD i.toNat 0) 0 (below - 1)))) && (decide (i > 0))) = true → ((!(!(inB (xs.getD i.toNat 0) 0 (below - 1)))) && (decide (i > 0))) = true) ∧ (((!(!(inB (xs.getD i.toNat 0) 0 (below - 1)))) && (decide (i > 0))) = true → ((!(!(inB (xs.getD i.toNat 0) 0 (below - 1)))) && (decide (i > 0))) = true) ∧ ((((!(!(inB (xs.getD i.toNat 0) 0 (below - 1)))) && (decide (i > 0))) = true → (0 : Int) ≤ (i - 1))) ∧ ((((!(!(inB (xs.getD i.toNat 0) 0 (below - 1)))) && (decide (i > 0))) = true → ((i - 1) : Int) < xs.length)) ∧ (((!(!(inB (xs.getD i.toNat 0) 0 (below - 1)))) && (decide (i > 0))) = true → ((!(!(inB (xs.getD i.toNat 0) 0 (below - 1)))) && (decide (i > 0))) = true) ∧ ((((!(!(inB (xs.getD i.toNat 0) 0 (below - 1)))) && (decide (i > 0))) = true → (i - 1).toNat < xs.length)) ∧ (((!(!(inB (xs.getD i.toNat 0) 0 (below - 1)))) && (decide (i > 0))) = true → ((!(!(inB (xs.getD i.toNat 0) 0 (below - 1)))) && (decide (i > 0))) = true) ∧ (((!(!(inB (xs.getD i.toNat 0) 0 (below - 1)))) && (decide (i > 0))) = true → ((!(!(inB (xs.getD i.toNat 0) 0 (below - 1)))) && (decide (i > 0))) = true) ∧ (((!(!(inB (xs.getD i.toNat 0) 0 (below - 1)))) = true → (!(!(inB (xs.getD i.toNat 0) 0 (below - 1)))) = true)) ∧ (((!(!(inB (xs.getD i.toNat 0) 0 (below - 1)))) = true → (decide (i > 0)) = true → ((!(!(inB (xs.getD i.toNat 0) 0 (below - 1)))) && (decide (i > 0))) = true)) ∧ (((!(!(inB (xs.getD i.toNat 0) 0 (below - 1)))) = true → (decide (i > 0)) = false → true = true)) ∧ (true = true) ∧ (((!(inB (xs.getD i.toNat 0) 0 (below - 1))) = true → true = true)) ∧ (((!(inB (xs.getD i.toNat 0) 0 (below - 1))) = false → (!(!(inB (xs.getD i.toNat 0) 0 (below - 1)))) = true)) ∧ (((cond (!(inB (xs.getD i.toNat 0) 0 (below - 1))) true (cond (decide (i > 0)) (decide ((xs.getD i.toNat 0) ≤ (xs.getD ((i - 1).toNat) 0))) false)) = true → ((false = (J3 xs 0 (below - 1))))) ∧ ((cond (!(inB (xs.getD i.toNat 0) 0 (below - 1))) true (cond (decide (i > 0)) (decide ((xs.getD i.toNat 0) ≤ (xs.getD ((i - 1).toNat) 0))) false)) = false → (I6 (i + 1)) ∧ (∃ i' : Int, (J11 xs below i') ∧ (J1f xs below i' < J1f xs below i) ∧ (xs = xs) ∧ (below = below) ∧ (xs = xs) ∧ ((xs.length : Int) = (xs.length : Int)) ∧ ((i + 1) = i'))))) ∧ ((decide (i < (xs.length : Int))) = false → ((true = (J3 xs 0 (below - 1))))))))
theorem J7d (xs : ZI) (below : Int) (hb : -9223372036854775808 < below ∧ below ≤ 9223372036854775807) (w_xs : (xs.length : Int) ≤ 9223372036854775807) : J4c xs below := by
  unfold J4c
  refine ⟨?_, ?_⟩
  ·refine ⟨0, ?_⟩
   refine ⟨?_, rfl, rfl, rfl, rfl, rfl⟩
   ·refine ⟨?_, ?_, ?_⟩
    ·omega
    ·omega
    ·rfl
  intro i hJ
  obtain ⟨h1, h2, h3⟩ := hJ
  refine ⟨?_, ?_⟩
  ·intro b1
   try simp only [nrmT] at b1
   refine ⟨?_, ?_, ?_, ?_, J0R (xs.getD i.toNat 0) 0 (below - 1), id, id, id, ?_, id, id, ?_, ?_, id, ?_, id, id, id, ?_, fun _ _ => rfl, rfl, fun _ => rfl, ?_, ?_, ?_⟩
   ·omega
   ·omega
   ·omega
   ·omega
   ·omega
   ·(intro hg; simp only [nrmT] at hg; omega)
   ·omega
   ·omega
   ·(simp_all; done)
   ·(simp_all; done)
   ·intro b2
    have e := J2r h1 b2
    exact (allTo_falseI h1 (by omega) e).symm
   intro b3
   refine ⟨?_, ?_⟩
   ·omega
   refine ⟨(i + 1), ?_⟩
   refine ⟨?_, ?_, rfl, rfl, rfl, rfl, rfl⟩
   ·refine ⟨?_, ?_, ?_⟩
    ·omega
    ·omega
    ·have e := J2r h1 b3
     exact allTo_step h1 h3 e
   (simp only [J1f]; omega)
  intro b4
  try simp only [nrmT] at b4
  have e : i.toNat = xs.length := by omega
  rw [e] at h3
  exact h3.symm
theorem J3T (xs : ZI) (below : Int) (hb : -9223372036854775808 < below ∧ below ≤ 9223372036854775807) : PC Try.prog 130 [.sl (.ints xs), .int .i64 below] (.one (.d (.bool (J3 xs 0 (below - 1))))) :=
  pc_wf @Try.call130 fun hw => pc_by (by kernel_rfl) Try.func130 @Try.call130 (by kernel_rfl) J8b (J7X xs below) (by kernel_rfl) (J7d xs below hb hw.1) (by kernel_rfl)
def J3I : List D → Orc := orcN [some .ints, none] fun ds => match ds with
  | [.sl (.ints xs), .int .i64 below] => some (.one (.d (.bool (J3 xs 0 (below - 1)))))
  | _ => none
theorem J9G (m n : Nat) : decide ((m : Int) ≤ (n : Int)) = decide (m ≤ n) := by
  rw [Bool.eq_iff_iff]; simp only [decide_eq_true_eq]; omega
theorem J8P {α : Type} {p : α → Bool} {d : α} {xs : List α} {i : Int} (h2 : (xs.length : Int) ≤ i) (h2' : i ≤ (xs.length : Int)) (h3 : allTo (fun k => p (xs.getD k d)) i.toNat = true) : xs.all p = true := by
  have e : i.toNat = xs.length := by omega
  rw [e, allTo_list] at h3; exact h3
theorem Ja4 {α : Type} {p : α → Bool} {d : α} {xs : List α} {i : Int} (h0 : 0 ≤ i) (h : i < (xs.length : Int)) (h3 : p (xs.getD i.toNat d) = false) : xs.all p = false := by
  rw [← allTo_list (d := d)]; exact allTo_falseI h0 h h3
theorem J0A {x lo hi : Int} (h : inB x lo hi = true) : lo ≤ x ∧ x ≤ hi := of_decide_eq_true h
def J4W (f : FuncId) (ds : List D) : Orc := bif Nat.beq f 120 then J0C ds else .no
def J4Z (x : Int) (lo : Int) (hi : Int) : Ann := .none
def J30 (x : Int) (lo : Int) (hi : Int) : Prop :=
  (PC Try.prog 120 [.int .i64 x, .int .i64 lo, .int .i64 hi] (.one (.d (.bool (inB x lo hi))))) ∧ (((!(inB x lo hi)) = (!(inB x lo hi))))
theorem J4C (x : Int) (lo : Int) (hi : Int)   : J30 x lo hi := by
  unfold J30
  refine ⟨J0R x lo hi, rfl⟩
theorem J4I (x : Int) (lo : Int) (hi : Int)  : PC Try.prog 205 [.int .i64 x, .bx [.int .i64 lo] 0, .bx [.int .i64 hi] 0] (.one (.d (.bool (!(inB x lo hi))))) :=
  pc_wf @Try.call205 fun _ => pc_by (by kernel_rfl) Try.func205 @Try.call205 (by kernel_rfl) J4W (J4Z x lo hi) (by kernel_rfl) (J4C x lo hi) (by kernel_rfl)
def J45 : List D → Orc := orcN [none, none, none] fun ds => match ds with
  | [.int .i64 x, .bx [.int .i64 lo] 0, .bx [.int .i64 hi] 0] => some (.one (.d (.bool (!(inB x lo hi)))))
  | _ => none
abbrev Jw (xs : ZI) (lo : Int) (hi : Int) (i : Int) : Prop := (0 ≤ i) ∧ (i ≤ (xs.length : Int)) ∧ (∀ k, k < i.toNat → (fun x => !(inB x lo hi)) (xs.getD k 0) = false)
abbrev Jv (xs : ZI) (lo : Int) (hi : Int) (i : Int) : Nat := (xs.length - i).toNat
def J2b (f : FuncId) (ds : List D) : Orc := bif Nat.beq f 205 then J45 ds else .no
def J2a (xs : ZI) (lo : Int) (hi : Int) : Ann := .two (.none) (.two (.two (.none) (.loop (cut1 (fun (i : Int) => Jw xs lo hi i) (fun (i : Int) => [(0, .d false (.sl (.ints xs))), (1, .d false (.fn 205 0 [.bx [.int .i64 lo] 0, .bx [.int .i64 hi] 0])), (7, .d true (.int .i64 (xs.length : Int))), (8, .d true (.int .i64 i))]) (fun (i : Int) => [])) (fun g => Jv xs lo hi g) (fun _ => .none))) (.none))
def J0r (xs : ZI) (lo : Int) (hi : Int) : Prop :=
  ((∃ i' : Int, (Jw xs lo hi i') ∧ (xs = xs) ∧ ((.fn 205 0 [.bx [.int .i64 lo] 0, .bx [.int .i64 hi] 0] : D) = (.fn 205 0 [.bx [.int .i64 lo] 0, .bx [.int .i64 hi] 0] : D)) ∧ ((xs.length : Int) = (xs.length : Int)) ∧ ((0 : Int) = i')) ∧ (∀ i : Int, (Jw xs lo hi i) → (((decide (i < (xs.length : Int))) = true → ((0 : Int) ≤ i) ∧ ((i : Int) < xs.length) ∧ (i.toNat < xs.length) ∧ (PC Try.prog 205 [.int .i64 (xs.getD i.toNat 0), .bx [.int .i64 lo] 0, .bx [.int .i64 hi] 0] (.one (.d (.bool (!(inB (xs.getD i.toNat 0) lo hi)))))) ∧ (((!(inB (xs.getD i.toNat 0) lo hi)) = true → ((i = (idxI (fun x => !(inB x lo hi)) xs)))) ∧ ((!(inB (xs.getD i.toNat 0) lo hi)) = false → (I6 (i + 1)) ∧ (∃ i' : Int, (Jw xs lo hi i') ∧ (Jv xs lo hi i' < Jv xs lo hi i) ∧ (xs = xs) ∧ ((.fn 205 0 [.bx [.int .i64 lo] 0, .bx [.int .i64 hi] 0] : D) = (.fn 205 0 [.bx [.int .i64 lo] 0, .bx [.int .i64 hi] 0] : D)) ∧ ((xs.length : Int) = (xs.length : Int)) ∧ ((i + 1) = i'))))) ∧ ((decide (i < (xs.length : Int))) = false → ((((-1) : Int) = (idxI (fun x => !(inB x lo hi)) xs)))))))
theorem J1N (xs : ZI) (lo : Int) (hi : Int)  (w_xs : (xs.length : Int) ≤ 9223372036854775807) : J0r xs lo hi := by
  unfold J0r
  refine ⟨?_, ?_⟩
  ·refine ⟨0, ?_⟩
   refine ⟨?_, rfl, rfl, rfl, rfl⟩
   ·refine ⟨?_, ?_, ?_⟩
    ·omega
    ·omega
    ·omega
  intro i hJ
  obtain ⟨h1, h2, h3⟩ := hJ
  refine ⟨?_, ?_⟩
  ·intro b1
   try simp only [nrmT] at b1
   refine ⟨?_, ?_, ?_, J4I (xs.getD i.toNat 0) lo hi, ?_, ?_⟩
   ·omega
   ·omega
   ·omega
   ·intro b2
    try simp only [nrmT] at b2
    exact idx_found (p := fun x => !(inB x lo hi)) h1 b1 h3 (by simpa using b2)
   intro b3
   try simp only [nrmT] at b3
   refine ⟨?_, ?_⟩
   ·omega
   refine ⟨(i + 1), ?_⟩
   refine ⟨?_, ?_, rfl, rfl, rfl, rfl⟩
   ·refine ⟨?_, ?_, ?_⟩
    ·omega
    ·omega
    ·exact idx_step (p := fun x => !(inB x lo hi)) h1 h3 (by simpa using b3)
   (simp only [Jv]; omega)
  intro b4
  try simp only [nrmT] at b4
  exact (idx_none (by omega) h3).symm
theorem J1M (xs : ZI) (lo : Int) (hi : Int)  : PC Try.prog 204 [.sl (.ints xs), .fn 205 0 [.bx [.int .i64 lo] 0, .bx [.int .i64 hi] 0]] (.one (.d (.int .i64 (idxI (fun x => !(inB x lo hi)) xs)))) :=
  pc_wf @Try.call204 fun hw => pc_by (by kernel_rfl) Try.func204 @Try.call204 (by kernel_rfl) J2b (J2a xs lo hi) (by kernel_rfl) (J1N xs lo hi hw.1) (by kernel_rfl)
def J1J : List D → Orc := orcN [some .ints, none] fun ds => match ds with
  | [.sl (.ints xs), .fn f0 0 [.bx [.int .i64 lo] 0, .bx [.int .i64 hi] 0]] => bif Nat.beq f0 205 then some (.one (.d (.int .i64 (idxI (fun x => !(inB x lo hi)) xs)))) else none
  | _ => none
def J1C (f : FuncId) (ds : List D) : Orc := bif Nat.beq f 204 then J1J ds else .no
def J1A (xs : ZI) (lo : Int) (hi : Int) : Ann := .none
def J0b (xs : ZI) (lo : Int) (hi : Int) : Prop :=
  (PC Try.prog 204 [.sl (.ints xs), .fn 205 0 [.bx [.int .i64 lo] 0, .bx [.int .i64 hi] 0]] (.one (.d (.int .i64 (idxI (fun x => !(inB x lo hi)) xs))))) ∧ (((decide ((idxI (fun x => !(inB x lo hi)) xs) ≥ 0)) = (xs.any (fun x => !(inB x lo hi)))))
theorem J1k (xs : ZI) (lo : Int) (hi : Int)  (w_xs : (xs.length : Int) ≤ 9223372036854775807) : J0b xs lo hi := by
  unfold J0b
  refine ⟨J1M xs lo hi, ?_⟩
  ·exact idx_any _ _
theorem J1m (xs : ZI) (lo : Int) (hi : Int)  : PC Try.prog 127 [.sl (.ints xs), .fn 205 0 [.bx [.int .i64 lo] 0, .bx [.int .i64 hi] 0]] (.one (.d (.bool (xs.any (fun x => !(inB x lo hi)))))) :=
  pc_wf @Try.call127 fun hw => pc_by (by kernel_rfl) Try.func127 @Try.call127 (by kernel_rfl) J1C (J1A xs lo hi) (by kernel_rfl) (J1k xs lo hi hw.1) (by kernel_rfl)
def J1h : List D → Orc := orcN [some .ints, none] fun ds => match ds with
  | [.sl (.ints xs), .fn f0 0 [.bx [.int .i64 lo] 0, .bx [.int .i64 hi] 0]] => bif Nat.beq f0 205 then some (.one (.d (.bool (xs.any (fun x => !(inB x lo hi)))))) else none
  | _ => none
def J6D (f : FuncId) (ds : List D) : Orc := bif Nat.beq f 127 then J1h ds else .no
def J6n (xs : ZI) (lo : Int) (hi : Int) : Ann := .none
def J3F (xs : ZI) (lo : Int) (hi : Int) : Prop :=
  (PC Try.prog 127 [.sl (.ints xs), .fn 205 0 [.bx [.int .i64 lo] 0, .bx [.int .i64 hi] 0]] (.one (.d (.bool (xs.any (fun x => !(inB x lo hi))))))) ∧ (((!(xs.any (fun x => !(inB x lo hi)))) = (xs.all (fun x => inB x lo hi))))
theorem J6c (xs : ZI) (lo : Int) (hi : Int)  (w_xs : (xs.length : Int) ≤ 9223372036854775807) : J3F xs lo hi := by
  unfold J3F
  refine ⟨J1m xs lo hi, ?_⟩
  ·exact any_not _ _
theorem J1Q (xs : ZI) (lo : Int) (hi : Int)  : PC Try.prog 131 [.sl (.ints xs), .int .i64 lo, .int .i64 hi] (.one (.d (.bool (xs.all (fun x => inB x lo hi))))) :=
  pc_wf @Try.call131 fun hw => pc_by (by kernel_rfl) Try.func131 @Try.call131 (by kernel_rfl) J6D (J6n xs lo hi) (by kernel_rfl) (J6c xs lo hi hw.1) (by kernel_rfl)
def J1v : List D → Orc := orcN [some .ints, none, none] fun ds => match ds with
  | [.sl (.ints xs), .int .i64 lo, .int .i64 hi] => some (.one (.d (.bool (xs.all (fun x => inB x lo hi)))))
  | _ => none
theorem J2V {α : Type} [BEq α] [LawfulBEq α] {d : α} {xs ys : List α} (hl : xs.length = ys.length) : allTo (fun k => xs.getD k d == ys.getD k d) xs.length = (xs == ys) := by
  rw [Bool.eq_iff_iff, allTo_iff]
  simp only [beq_iff_eq]
  constructor
  · intro h
    refine List.ext_getElem hl fun k h1 h2 => ?_
    have := h k h1
    simpa [h1, h2] using this
  intro h k _
  rw [h]
theorem J9W {α : Type} [BEq α] [LawfulBEq α] {xs ys : List α} (h : ¬ xs.length = ys.length) : (xs == ys) = false := by
  rw [Bool.eq_false_iff]; intro h2; simp only [beq_iff_eq] at h2; exact h (by rw [h2])
def Jg (row : ZI) (n most : Int) : Bool := row.all (fun x => inB x 0 most) && decide ((row.length : Int) = n)
def J0 (U : ZI) (E : ZR) : Bool :=
  inB (U.length : Int) 1 7 && U.all (fun x => inB x 0 99) && decide (E.length ≤ 7) && E.all (fun l => Jg l (U.length : Int) 99)
theorem Jc {U : ZI} {E : ZR} (h : J0 U E = true) : 1 ≤ U.length ∧ U.length ≤ 7 ∧ E.length ≤ 7 := by
  simp only [J0, Bool.and_eq_true, decide_eq_true_eq] at h
  have := J0A h.1.1.1
  omega
theorem Jo {U : ZI} {E : ZR} (h : J0 U E = true) {i : Nat} (hi : i < E.length) : (E.getD i []).length = U.length ∧ ∀ a, a < U.length → 0 ≤ (E.getD i []).getD a 0 ∧ (E.getD i []).getD a 0 ≤ 99 := by
  simp only [J0, Bool.and_eq_true, decide_eq_true_eq] at h
  have h2 := List.all_eq_true.1 h.2 _ (getD_mem (d := []) hi)
  simp only [Jg, Bool.and_eq_true, decide_eq_true_eq] at h2
  refine ⟨by omega, fun a ha => ?_⟩
  exact J0A (List.all_eq_true.1 h2.1 _ (getD_mem (by omega)))
abbrev J2l (row : ZI) (n : Int) (most : Int) (i : Int) : Prop := (0 ≤ i) ∧ (i ≤ (row.length : Int)) ∧ (allTo (fun k => inB (row.getD k 0) 0 most) i.toNat = true)
abbrev J2p (row : ZI) (n : Int) (most : Int) (i : Int) : Nat := (row.length - i).toNat
def J9F (f : FuncId) (ds : List D) : Orc := bif Nat.beq f 116 then J10 ds else .no
def J9J (row : ZI) (n : Int) (most : Int) : Ann := .two (.none) (.two (.two (.none) (.loop (cut1 (fun (i : Int) => J2l row n most i) (fun (i : Int) => [(0, .d false (.sl (.ints row))), (1, .d false (.int .i64 n)), (2, .d false (.int .i64 most)), (7, .d true (.int .i64 i))]) (fun (i : Int) => [])) (fun g => J2p row n most g) (fun _ => .none))) (.none))
def J72 (row : ZI) (n : Int) (most : Int) : Prop :=
  ((∃ i' : Int, (J2l row n most i') ∧ (row = row) ∧ (n = n) ∧ (most = most) ∧ ((0 : Int) = i')) ∧ (∀ i : Int, (J2l row n most i) → (((decide (i < (row.length : Int))) = true → ((0 : Int) ≤ i) ∧ ((i : Int) < row.length) ∧ (i.toNat < row.length) ∧ (PC Try.prog 116 [.int .i64 (row.getD i.toNat 0), .int .i64 0, .int .i64 most] (.one (.d (.bool (inB (row.getD i.toNat 0) 0 most))))) ∧ (((!(inB (row.getD i.toNat 0) 0 most)) = true → ((false = (Jg row n most)))) ∧ ((!(inB (row.getD i.toNat 0) 0 most)) = false → (I6 (i + 1)) ∧ (∃ i' : Int, (J2l row n most i') ∧ (J2p row n most i' < J2p row n most i) ∧ (row = row) ∧ (n = n) ∧ (most = most) ∧ ((i + 1) = i'))))) ∧ ((decide (i < (row.length : Int))) = false → ((((row.length : Int) == n) = (Jg row n most)))))))
theorem J9j (row : ZI) (n : Int) (most : Int)  (w_row : (row.length : Int) ≤ 9223372036854775807) : J72 row n most := by
  unfold J72
  refine ⟨?_, ?_⟩
  ·refine ⟨0, ?_⟩
   refine ⟨?_, rfl, rfl, rfl, rfl⟩
   ·refine ⟨?_, ?_, ?_⟩
    ·omega
    ·omega
    ·rfl
  intro i hJ
  obtain ⟨h1, h2, h3⟩ := hJ
  refine ⟨?_, ?_⟩
  ·intro b1
   try simp only [nrmT] at b1
   refine ⟨?_, ?_, ?_, J0X (row.getD i.toNat 0) 0 most, ?_, ?_⟩
   ·omega
   ·omega
   ·omega
   ·intro b2
    try simp only [nrmT] at b2
    unfold Jg
    rw [Ja4 (p := fun x => inB x 0 most) (d := 0) h1 (by omega) b2]; rfl
   intro b3
   try simp only [nrmT] at b3
   refine ⟨?_, ?_⟩
   ·omega
   refine ⟨(i + 1), ?_⟩
   refine ⟨?_, ?_, rfl, rfl, rfl, rfl⟩
   ·refine ⟨?_, ?_, ?_⟩
    ·omega
    ·omega
    ·exact allTo_step h1 h3 b3
   (simp only [J2p]; omega)
  intro b4
  try simp only [nrmT] at b4
  unfold Jg
  rw [J8P (p := fun x => inB x 0 most) (d := 0) (by omega) h2 h3, Bool.true_and]; rfl
theorem J5F (row : ZI) (n : Int) (most : Int)  : PC Try.prog 150 [.sl (.ints row), .int .i64 n, .int .i64 most] (.one (.d (.bool (Jg row n most)))) :=
  pc_wf @Try.call150 fun hw => pc_by (by kernel_rfl) Try.func150 @Try.call150 (by kernel_rfl) J9F (J9J row n most) (by kernel_rfl) (J9j row n most hw.1) (by kernel_rfl)
def J8t : List D → Orc := orcN [some .ints, none, none] fun ds => match ds with
  | [.sl (.ints row), .int .i64 n, .int .i64 most] => some (.one (.d (.bool (Jg row n most))))
  | _ => none
abbrev J1W (U : ZI) (E : ZR) (i : Int) : Prop := (0 ≤ i) ∧ (i ≤ (E.length : Int)) ∧ (allTo (fun k => Jg (E.getD k []) (U.length : Int) 99) i.toNat = true)
abbrev J1Z (U : ZI) (E : ZR) (i : Int) : Nat := (E.length - i).toNat
def J9f (f : FuncId) (ds : List D) : Orc := bif Nat.beq f 150 then J8t ds else bif Nat.beq f 116 then J10 ds else .no
def J92 (U : ZI) (E : ZR) : Ann := .two (.none) (.two (.none) (.two (.two (.none) (.loop (cut1 (fun (i : Int) => J1W U E i) (fun (i : Int) => [(1, .ptr 1 0), (3, .d true (.int .i64 (U.length : Int))), (4, .d true (.int .i64 i))]) (fun (i : Int) => [(1, .box 39 [.d false (.sl (.ints U)), .d false (.sl (.rows E))])])) (fun g => J1Z U E g) (fun _ => .none))) (.none)))
def J5T (U : ZI) (E : ZR) : Prop :=
  ((∃ i' : Int, (J1W U E i') ∧ ((U.length : Int) = (U.length : Int)) ∧ ((0 : Int) = i') ∧ (U = U) ∧ (E = E)) ∧ (∀ i : Int, (J1W U E i) → (((decide (i < (E.length : Int))) = true → ((0 : Int) ≤ i) ∧ ((i : Int) < E.length) ∧ (i.toNat < E.length) ∧ (PC Try.prog 150 [.sl (.ints (E.getD i.toNat [])), .int .i64 (U.length : Int), .int .i64 99] (.one (.d (.bool (Jg (E.getD i.toNat []) (U.length : Int) 99))))) ∧ (((!(Jg (E.getD i.toNat []) (U.length : Int) 99)) = true → ((false = (J0 U E)))) ∧ ((!(Jg (E.getD i.toNat []) (U.length : Int) 99)) = false → (I6 (i + 1)) ∧ (∃ i' : Int, (J1W U E i') ∧ (J1Z U E i' < J1Z U E i) ∧ ((U.length : Int) = (U.length : Int)) ∧ ((i + 1) = i') ∧ (U = U) ∧ (E = E))))) ∧ ((decide (i < (E.length : Int))) = false → (PC Try.prog 116 [.int .i64 (U.length : Int), .int .i64 1, .int .i64 7] (.one (.d (.bool (inB (U.length : Int) 1 7))))) ∧ ((inB (U.length : Int) 1 7) = true → (inB (U.length : Int) 1 7) = true) ∧ ((inB (U.length : Int) 1 7) = true → (inB (U.length : Int) 1 7) = true) ∧ ((inB (U.length : Int) 1 7) = true → (inB (U.length : Int) 1 7) = true) ∧ ((inB (U.length : Int) 1 7) = true → PC Try.prog 150 [.sl (.ints U), .int .i64 (U.length : Int), .int .i64 99] (.one (.d (.bool (Jg U (U.length : Int) 99))))) ∧ (true = true) ∧ (((inB (U.length : Int) 1 7) = true → (inB (U.length : Int) 1 7) = true)) ∧ (((inB (U.length : Int) 1 7) = false → true = true)) ∧ ((cond (inB (U.length : Int) 1 7) (Jg U (U.length : Int) 99) false) = true → (cond (inB (U.length : Int) 1 7) (Jg U (U.length : Int) 99) false) = true) ∧ ((cond (inB (U.length : Int) 1 7) (Jg U (U.length : Int) 99) false) = true → (cond (inB (U.length : Int) 1 7) (Jg U (U.length : Int) 99) false) = true) ∧ ((cond (inB (U.length : Int) 1 7) (Jg U (U.length : Int) 99) false) = true → (cond (inB (U.length : Int) 1 7) (Jg U (U.length : Int) 99) false) = true) ∧ (true = true) ∧ (((cond (inB (U.length : Int) 1 7) (Jg U (U.length : Int) 99) false) = true → (cond (inB (U.length : Int) 1 7) (Jg U (U.length : Int) 99) false) = true)) ∧ (((cond (inB (U.length : Int) 1 7) (Jg U (U.length : Int) 99) false) = false → true = true)) ∧ (((cond (cond (inB (U.length : Int) 1 7) (Jg U (U.length : Int) 99) false) (decide ((E.length : Int) ≤ 7)) false) = (J0 U E)))))))
theorem J8C (U : ZI) (E : ZR)  (w_Open : (U.length : Int) ≤ 9223372036854775807) (w_Dist : (E.length : Int) ≤ 9223372036854775807) (v_Dist : ∀ x9 ∈ E, (x9.length : Int) ≤ 9223372036854775807) : J5T U E := by
  unfold J5T
  refine ⟨?_, ?_⟩
  ·refine ⟨0, ?_⟩
   refine ⟨?_, rfl, rfl, rfl, rfl⟩
   ·refine ⟨?_, ?_, ?_⟩
    ·omega
    ·omega
    ·rfl
  intro i hJ
  obtain ⟨h1, h2, h3⟩ := hJ
  refine ⟨?_, ?_⟩
  ·intro b1
   try simp only [nrmT] at b1
   refine ⟨?_, ?_, ?_, J5F (E.getD i.toNat []) (U.length : Int) 99, ?_, ?_⟩
   ·omega
   ·omega
   ·omega
   ·intro b2
    try simp only [nrmT] at b2
    unfold J0
    rw [Ja4 (p := fun l => Jg l (U.length : Int) 99) (d := []) h1 (by omega) b2, Bool.and_false]
   intro b3
   try simp only [nrmT] at b3
   refine ⟨?_, ?_⟩
   ·omega
   refine ⟨(i + 1), ?_⟩
   refine ⟨?_, ?_, rfl, rfl, rfl, rfl⟩
   ·refine ⟨?_, ?_, ?_⟩
    ·omega
    ·omega
    ·exact allTo_step h1 h3 b3
   (simp only [J1Z]; omega)
  intro b4
  try simp only [nrmT] at b4
  refine ⟨J0X (U.length : Int) 1 7, id, id, id, fun _ => J5F U (U.length : Int) 99, rfl, id, fun _ => rfl, id, id, id, rfl, id, fun _ => rfl, ?_⟩
  ·unfold J0
   rw [J8P (p := fun l => Jg l (U.length : Int) 99) (d := []) (by omega) h2 h3, show decide ((E.length : Int) ≤ 7) = decide (E.length ≤ 7) from J9G _ 7]
   unfold Jg
   cases inB (U.length : Int) 1 7 <;> cases U.all (fun x => inB x 0 99) <;> cases decide (E.length ≤ 7) <;> simp
theorem J8q (U : ZI) (E : ZR)  : PC Try.prog 115 [.agg [.sl (.ints U), .sl (.rows E)]] (.one (.d (.bool (J0 U E)))) :=
  pc_wf @Try.call115 fun hw => pc_by (by kernel_rfl) Try.func115 @Try.call115 (by kernel_rfl) J9f (J92 U E) (by kernel_rfl) (J8C U E hw.1.1 hw.1.2.1.1 hw.1.2.1.2) (by kernel_rfl)
def J84 : List D → Orc := orcN [none] fun ds => match ds with
  | [.agg [.sl (.ints U), .sl (.rows E)]] => some (.one (.d (.bool (J0 U E))))
  | _ => none
def J7e (f : FuncId) (ds : List D) : Orc := bif Nat.beq f 131 then J1v ds else .no
def J7k (xs : ZI) (U : ZI) (E : ZR) : Ann := .none
def J3W (xs : ZI) (U : ZI) (E : ZR) : Prop :=
  ((!((xs.length : Int) != (U.length : Int))) = true → (!((xs.length : Int) != (U.length : Int))) = true) ∧ ((!((xs.length : Int) != (U.length : Int))) = true → PC Try.prog 131 [.sl (.ints xs), .int .i64 0, .int .i64 99] (.one (.d (.bool (xs.all (fun x => inB x 0 99)))))) ∧ ((!((xs.length : Int) != (U.length : Int))) = true → (!((xs.length : Int) != (U.length : Int))) = true) ∧ (true = true) ∧ ((((xs.length : Int) != (U.length : Int)) = true → true = true)) ∧ ((((xs.length : Int) != (U.length : Int)) = false → (!((xs.length : Int) != (U.length : Int))) = true)) ∧ (((cond ((xs.length : Int) != (U.length : Int)) true (!(xs.all (fun x => inB x 0 99)))) = (!(Jg xs (U.length : Int) 99))))
theorem J6S (xs : ZI) (U : ZI) (E : ZR)  (w_xs : (xs.length : Int) ≤ 9223372036854775807) (w_Open : (U.length : Int) ≤ 9223372036854775807) (w_Dist : (E.length : Int) ≤ 9223372036854775807) (v_Dist : ∀ x9 ∈ E, (x9.length : Int) ≤ 9223372036854775807) : J3W xs U E := by
  unfold J3W
  refine ⟨id, fun _ => J1Q xs 0 99, id, rfl, fun _ => rfl, ?_, ?_⟩
  ·(simp_all; done)
  unfold Jg
  by_cases h : (xs.length : Int) = (U.length : Int)
  · simp [h]
  simp [h]
theorem J6J (xs : ZI) (U : ZI) (E : ZR)  : PC Try.prog 200 [.sl (.ints xs), .bx [.sl (.ints U), .sl (.rows E)] 0] (.one (.d (.bool (!(Jg xs (U.length : Int) 99))))) :=
  pc_wf @Try.call200 fun hw => pc_by (by kernel_rfl) Try.func200 @Try.call200 (by kernel_rfl) J7e (J7k xs U E) (by kernel_rfl) (J6S xs U E hw.1 hw.2.1.1 hw.2.1.2.1.1 hw.2.1.2.1.2) (by kernel_rfl)
def J5n : List D → Orc := orcN [some .ints, none] fun ds => match ds with
  | [.sl (.ints xs), .bx [.sl (.ints U), .sl (.rows E)] 0] => some (.one (.d (.bool (!(Jg xs (U.length : Int) 99)))))
  | _ => none
abbrev Jt (xs : ZR) (U : ZI) (E : ZR) (i : Int) : Prop := (0 ≤ i) ∧ (i ≤ (xs.length : Int)) ∧ (∀ k, k < i.toNat → (fun x => !(Jg x (U.length : Int) 99)) (xs.getD k []) = false)
abbrev Ju (xs : ZR) (U : ZI) (E : ZR) (i : Int) : Nat := (xs.length - i).toNat
def J29 (f : FuncId) (ds : List D) : Orc := bif Nat.beq f 200 then J5n ds else .no
def J28 (xs : ZR) (U : ZI) (E : ZR) : Ann := .two (.none) (.two (.two (.none) (.loop (cut1 (fun (i : Int) => Jt xs U E i) (fun (i : Int) => [(0, .d false (.sl (.rows xs))), (1, .d false (.fn 200 0 [.bx [.sl (.ints U), .sl (.rows E)] 0])), (7, .d true (.int .i64 (xs.length : Int))), (8, .d true (.int .i64 i))]) (fun (i : Int) => [])) (fun g => Ju xs U E g) (fun _ => .none))) (.none))
def J0q (xs : ZR) (U : ZI) (E : ZR) : Prop :=
  ((∃ i' : Int, (Jt xs U E i') ∧ (xs = xs) ∧ ((.fn 200 0 [.bx [.sl (.ints U), .sl (.rows E)] 0] : D) = (.fn 200 0 [.bx [.sl (.ints U), .sl (.rows E)] 0] : D)) ∧ ((xs.length : Int) = (xs.length : Int)) ∧ ((0 : Int) = i')) ∧ (∀ i : Int, (Jt xs U E i) → (((decide (i < (xs.length : Int))) = true → ((0 : Int) ≤ i) ∧ ((i : Int) < xs.length) ∧ (i.toNat < xs.length) ∧ (PC Try.prog 200 [.sl (.ints (xs.getD i.toNat [])), .bx [.sl (.ints U), .sl (.rows E)] 0] (.one (.d (.bool (!(Jg (xs.getD i.toNat []) (U.length : Int) 99)))))) ∧ (((!(Jg (xs.getD i.toNat []) (U.length : Int) 99)) = true → ((i = (idxI (fun x => !(Jg x (U.length : Int) 99)) xs)))) ∧ ((!(Jg (xs.getD i.toNat []) (U.length : Int) 99)) = false → (I6 (i + 1)) ∧ (∃ i' : Int, (Jt xs U E i') ∧ (Ju xs U E i' < Ju xs U E i) ∧ (xs = xs) ∧ ((.fn 200 0 [.bx [.sl (.ints U), .sl (.rows E)] 0] : D) = (.fn 200 0 [.bx [.sl (.ints U), .sl (.rows E)] 0] : D)) ∧ ((xs.length : Int) = (xs.length : Int)) ∧ ((i + 1) = i'))))) ∧ ((decide (i < (xs.length : Int))) = false → ((((-1) : Int) = (idxI (fun x => !(Jg x (U.length : Int) 99)) xs)))))))
theorem J21 (xs : ZR) (U : ZI) (E : ZR)  (w_xs : (xs.length : Int) ≤ 9223372036854775807) (v_xs : ∀ x9 ∈ xs, (x9.length : Int) ≤ 9223372036854775807) (w_Open : (U.length : Int) ≤ 9223372036854775807) (w_Dist : (E.length : Int) ≤ 9223372036854775807) (v_Dist : ∀ x9 ∈ E, (x9.length : Int) ≤ 9223372036854775807) : J0q xs U E := by
  unfold J0q
  refine ⟨?_, ?_⟩
  ·refine ⟨0, ?_⟩
   refine ⟨?_, rfl, rfl, rfl, rfl⟩
   ·refine ⟨?_, ?_, ?_⟩
    ·omega
    ·omega
    ·omega
  intro i hJ
  obtain ⟨h1, h2, h3⟩ := hJ
  refine ⟨?_, ?_⟩
  ·intro b1
   try simp only [nrmT] at b1
   refine ⟨?_, ?_, ?_, J6J (xs.getD i.toNat []) U E, ?_, ?_⟩
   ·omega
   ·omega
   ·omega
   ·intro b2
    try simp only [nrmT] at b2
    exact idx_found (p := fun x => !(Jg x (U.length : Int) 99)) h1 b1 h3 (by simpa using b2)
   intro b3
   try simp only [nrmT] at b3
   refine ⟨?_, ?_⟩
   ·omega
   refine ⟨(i + 1), ?_⟩
   refine ⟨?_, ?_, rfl, rfl, rfl, rfl⟩
   ·refine ⟨?_, ?_, ?_⟩
    ·omega
    ·omega
    ·exact idx_step (p := fun x => !(Jg x (U.length : Int) 99)) h1 h3 (by simpa using b3)
   (simp only [Ju]; omega)
  intro b4
  try simp only [nrmT] at b4
  exact (idx_none (by omega) h3).symm
theorem J26 (xs : ZR) (U : ZI) (E : ZR)  : PC Try.prog 224 [.sl (.rows xs), .fn 200 0 [.bx [.sl (.ints U), .sl (.rows E)] 0]] (.one (.d (.int .i64 (idxI (fun x => !(Jg x (U.length : Int) 99)) xs)))) :=
  pc_wf @Try.call224 fun hw => pc_by (by kernel_rfl) Try.func224 @Try.call224 (by kernel_rfl) J29 (J28 xs U E) (by kernel_rfl) (J21 xs U E hw.1.1 hw.1.2 hw.2.1.1.1 hw.2.1.1.2.1.1 hw.2.1.1.2.1.2) (by kernel_rfl)
def J1K : List D → Orc := orcN [some .rows, none] fun ds => match ds with
  | [.sl (.rows xs), .fn f0 0 [.bx [.sl (.ints U), .sl (.rows E)] 0]] => bif Nat.beq f0 200 then some (.one (.d (.int .i64 (idxI (fun x => !(Jg x (U.length : Int) 99)) xs)))) else none
  | _ => none
def J1w (f : FuncId) (ds : List D) : Orc := bif Nat.beq f 224 then J1K ds else .no
def J1x (xs : ZR) (U : ZI) (E : ZR) : Ann := .none
def J01 (xs : ZR) (U : ZI) (E : ZR) : Prop :=
  (PC Try.prog 224 [.sl (.rows xs), .fn 200 0 [.bx [.sl (.ints U), .sl (.rows E)] 0]] (.one (.d (.int .i64 (idxI (fun x => !(Jg x (U.length : Int) 99)) xs))))) ∧ (((decide ((idxI (fun x => !(Jg x (U.length : Int) 99)) xs) ≥ 0)) = (xs.any (fun x => !(Jg x (U.length : Int) 99)))))
theorem J1n (xs : ZR) (U : ZI) (E : ZR)  (w_xs : (xs.length : Int) ≤ 9223372036854775807) (v_xs : ∀ x9 ∈ xs, (x9.length : Int) ≤ 9223372036854775807) (w_Open : (U.length : Int) ≤ 9223372036854775807) (w_Dist : (E.length : Int) ≤ 9223372036854775807) (v_Dist : ∀ x9 ∈ E, (x9.length : Int) ≤ 9223372036854775807) : J01 xs U E := by
  unfold J01
  refine ⟨J26 xs U E, ?_⟩
  ·exact idx_any _ _
theorem J1o (xs : ZR) (U : ZI) (E : ZR)  : PC Try.prog 169 [.sl (.rows xs), .fn 200 0 [.bx [.sl (.ints U), .sl (.rows E)] 0]] (.one (.d (.bool (xs.any (fun x => !(Jg x (U.length : Int) 99)))))) :=
  pc_wf @Try.call169 fun hw => pc_by (by kernel_rfl) Try.func169 @Try.call169 (by kernel_rfl) J1w (J1x xs U E) (by kernel_rfl) (J1n xs U E hw.1.1 hw.1.2 hw.2.1.1.1 hw.2.1.1.2.1.1 hw.2.1.1.2.1.2) (by kernel_rfl)
def J1i : List D → Orc := orcN [some .rows, none] fun ds => match ds with
  | [.sl (.rows xs), .fn f0 0 [.bx [.sl (.ints U), .sl (.rows E)] 0]] => bif Nat.beq f0 200 then some (.one (.d (.bool (xs.any (fun x => !(Jg x (U.length : Int) 99)))))) else none
  | _ => none
def J8p (f : FuncId) (ds : List D) : Orc := bif Nat.beq f 120 then J0C ds else bif Nat.beq f 131 then J1v ds else bif Nat.beq f 169 then J1i ds else .no
def J8D (U : ZI) (E : ZR) : Ann := .none
def Jn (U : ZI) (E : ZR) : Bool := (cond (cond (inB (U.length : Int) 1 7) (U.all (fun x => inB x 0 99)) false) (decide ((E.length : Int) ≤ 7)) false)
def J4L (U : ZI) (E : ZR) : Prop :=
  (PC Try.prog 120 [.int .i64 (U.length : Int), .int .i64 1, .int .i64 7] (.one (.d (.bool (inB (U.length : Int) 1 7))))) ∧ ((inB (U.length : Int) 1 7) = true → (inB (U.length : Int) 1 7) = true) ∧ ((inB (U.length : Int) 1 7) = true → (inB (U.length : Int) 1 7) = true) ∧ ((inB (U.length : Int) 1 7) = true → PC Try.prog 131 [.sl (.ints U), .int .i64 0, .int .i64 99] (.one (.d (.bool (U.all (fun x => inB x 0 99)))))) ∧ (true = true) ∧ (((inB (U.length : Int) 1 7) = true → (inB (U.length : Int) 1 7) = true)) ∧ (((inB (U.length : Int) 1 7) = false → true = true)) ∧ ((cond (inB (U.length : Int) 1 7) (U.all (fun x => inB x 0 99)) false) = true → (cond (inB (U.length : Int) 1 7) (U.all (fun x => inB x 0 99)) false) = true) ∧ ((cond (inB (U.length : Int) 1 7) (U.all (fun x => inB x 0 99)) false) = true → (cond (inB (U.length : Int) 1 7) (U.all (fun x => inB x 0 99)) false) = true) ∧ ((cond (inB (U.length : Int) 1 7) (U.all (fun x => inB x 0 99)) false) = true → (cond (inB (U.length : Int) 1 7) (U.all (fun x => inB x 0 99)) false) = true) ∧ (true = true) ∧ (((cond (inB (U.length : Int) 1 7) (U.all (fun x => inB x 0 99)) false) = true → (cond (inB (U.length : Int) 1 7) (U.all (fun x => inB x 0 99)) false) = true)) ∧ (((cond (inB (U.length : Int) 1 7) (U.all (fun x => inB x 0 99)) false) = false → true = true)) ∧ ((Jn U E) = true → (Jn U E) = true) ∧ ((Jn U E) = true → (Jn U E) = true) ∧ ((Jn U E) = true → (Jn U E) = true) ∧ ((Jn U E) = true → PC Try.prog 169 [.sl (.rows E), .fn 200 0 [.bx [.sl (.ints U), .sl (.rows E)] 0]] (.one (.d (.bool (E.any (fun x => !(Jg x (U.length : Int) 99))))))) ∧ ((Jn U E) = true → (Jn U E) = true) ∧ (true = true) ∧ (((Jn U E) = true → (Jn U E) = true)) ∧ (((Jn U E) = false → true = true)) ∧ (((cond (Jn U E) (!(E.any (fun x => !(Jg x (U.length : Int) 99)))) false) = (J0 U E)))
theorem J86 (U : ZI) (E : ZR)  (w_Open : (U.length : Int) ≤ 9223372036854775807) (w_Dist : (E.length : Int) ≤ 9223372036854775807) (v_Dist : ∀ x9 ∈ E, (x9.length : Int) ≤ 9223372036854775807) : J4L U E := by
  unfold J4L Jn
  refine ⟨J0R (U.length : Int) 1 7, id, id, fun _ => J1Q U 0 99, rfl, id, fun _ => rfl, id, id, id, rfl, id, fun _ => rfl, id, id, id, fun _ => J1o E U E, id, rfl, id, fun _ => rfl, ?_⟩
  ·unfold J0
   rw [any_not, show decide ((E.length : Int) ≤ 7) = decide (E.length ≤ 7) from J9G _ 7]
   cases inB (U.length : Int) 1 7 <;> cases U.all (fun x => inB x 0 99) <;> cases decide (E.length ≤ 7) <;> simp
theorem J3c (U : ZI) (E : ZR)  : PC Try.prog 119 [.agg [.sl (.ints U), .sl (.rows E)]] (.one (.d (.bool (J0 U E)))) :=
  pc_wf @Try.call119 fun hw => pc_by (by kernel_rfl) Try.func119 @Try.call119 (by kernel_rfl) J8p (J8D U E) (by kernel_rfl) (J86 U E hw.1.1 hw.1.2.1.1 hw.1.2.1.2) (by kernel_rfl)
def J2J : List D → Orc := orcN [none] fun ds => match ds with
  | [.agg [.sl (.ints U), .sl (.rows E)]] => some (.one (.d (.bool (J0 U E))))
  | _ => none
def Jk (f : Nat → Int) (n : Nat) : Int := foldTo (fun s k => s + f k) 0 n
theorem Ji {xs : ZI} {lo hi : Int} (h : J3 xs lo hi = true) : ∀ k, k < xs.length → lo + k ≤ xs.getD k 0 ∧ xs.getD k 0 ≤ hi := by
  intro k
  induction k with
  | zero =>
    intro hk
    have h1 := allTo_iff.1 h 0 hk
    simp only [J1a, Bool.and_eq_true] at h1
    have := J0A h1.1
    omega
  | succ k ih =>
    intro hk
    have h0 := ih (by omega)
    have h1 := allTo_iff.1 h (k + 1) hk
    simp only [J1a, Bool.and_eq_true, Bool.or_eq_true, decide_eq_true_eq, Nat.add_sub_cancel] at h1
    have := J0A h1.1
    have h2 := h1.2
    omega
theorem Jh {xs : ZI} {lo hi : Int} (h : J3 xs lo hi = true) (hlo : lo ≤ hi + 1) : (xs.length : Int) ≤ hi - lo + 1 := by
  by_cases h0 : xs.length = 0
  · omega
  have := Ji h (xs.length - 1) (by omega)
  omega
def J8u (f : FuncId) (ds : List D) : Orc := .no
def J8E (b : Int) (x : Int) : Ann := .none
def J4K (b : Int) (x : Int) : Prop :=
  ((0 : Int) ≤ b ∧ (b : Int) ≤ 18446744073709551615) ∧ ((0 : Int) ≤ x) ∧ ((0 : Int) ≤ (b / 2 ^ x.toNat) ∧ ((b / 2 ^ x.toNat) : Int) ≤ 18446744073709551615) ∧ ((0 : Int) ≤ 1 ∧ (1 : Int) ≤ 18446744073709551615) ∧ ((((((b / 2 ^ x.toNat).toNat &&& 1 : Nat) : Int) == 1) = (b.toNat.testBit x.toNat)))
theorem J89 (b : Int) (x : Int) (hb : 0 ≤ b ∧ b ≤ 4611686018427387903) (hx : 0 ≤ x)  : J4K b x := by
  unfold J4K
  refine ⟨?_, ?_, ?_, ?_, ?_⟩
  ·omega
  ·omega
  ·have h1 : 0 ≤ b / 2 ^ x.toNat := Int.ediv_nonneg hb.1 (Int.le_of_lt (Int.pow_pos (by omega)))
   have h2 : b / 2 ^ x.toNat ≤ b := Int.ediv_le_self _ hb.1
   omega
  ·omega
  have e : b = ((b.toNat : Nat) : Int) := by omega
  have h := shr_bit (n := b.toNat) (k := x.toNat)
  rw [← e] at h
  rw [h]
  cases b.toNat.testBit x.toNat <;> rfl
theorem J7Z (b : Int) (x : Int) (hb : 0 ≤ b ∧ b ≤ 4611686018427387903) (hx : 0 ≤ x) : PC Try.prog 226 [.int .u64 b, .int .i64 x] (.one (.d (.bool (b.toNat.testBit x.toNat)))) :=
  pc_wf @Try.call226 fun _ => pc_by (by kernel_rfl) Try.func226 @Try.call226 (by kernel_rfl) J8u (J8E b x) (by kernel_rfl) (J89 b x hb hx) (by kernel_rfl)
def J7f : List D → Orc := orcN [none, none] fun ds => match ds with
  | [.int .u64 b, .int .i64 x] => some (.one (.d (.bool (b.toNat.testBit x.toNat))))
  | _ => none
theorem J69 {xs : ZI} {lo hi : Int} (h : J3 xs lo hi = true) : ∀ x ∈ xs, lo ≤ x ∧ x ≤ hi := by
  intro x hx
  obtain ⟨k, hk, rfl⟩ := List.mem_iff_getElem.1 hx
  have := Ji h k hk
  simp [hk] at this
  omega
theorem JaW {n : Nat} (h : n ≤ 8) : (2 : Nat) ^ n ≤ 256 := Nat.le_trans (Nat.pow_le_pow_right (by omega) h) (by decide)
theorem JR {α : Type} {xs : List α} {k : Nat} {d : α} (h : k < xs.length) : xs.getD k d = xs[k] := by simp [h]
abbrev JL (xs : ZI) (x : Int) (i : Int) : Prop := (0 ≤ i) ∧ (i ≤ (xs.length : Int)) ∧ (∀ k, k < i.toNat → (fun y => x == y) (xs.getD k 0) = false)
abbrev JM (xs : ZI) (x : Int) (i : Int) : Nat := (xs.length - i).toNat
def J3h (f : FuncId) (ds : List D) : Orc := .no
def J3g (xs : ZI) (x : Int) : Ann := .two (.none) (.two (.two (.none) (.loop (cut1 (fun (i : Int) => JL xs x i) (fun (i : Int) => [(0, .d false (.sl (.ints xs))), (1, .d false (.int .i64 x)), (7, .d true (.int .i64 (xs.length : Int))), (8, .d true (.int .i64 i))]) (fun (i : Int) => [])) (fun g => JM xs x g) (fun _ => .none))) (.none))
def J1g (xs : ZI) (x : Int) : Prop :=
  ((∃ i' : Int, (JL xs x i') ∧ (xs = xs) ∧ (x = x) ∧ ((xs.length : Int) = (xs.length : Int)) ∧ ((0 : Int) = i')) ∧ (∀ i : Int, (JL xs x i) → (((decide (i < (xs.length : Int))) = true → ((0 : Int) ≤ i) ∧ ((i : Int) < xs.length) ∧ (i.toNat < xs.length) ∧ (((x == (xs.getD i.toNat 0)) = true → ((i = (idxI (fun y => x == y) xs)))) ∧ ((x == (xs.getD i.toNat 0)) = false → (I6 (i + 1)) ∧ (∃ i' : Int, (JL xs x i') ∧ (JM xs x i' < JM xs x i) ∧ (xs = xs) ∧ (x = x) ∧ ((xs.length : Int) = (xs.length : Int)) ∧ ((i + 1) = i'))))) ∧ ((decide (i < (xs.length : Int))) = false → ((((-1) : Int) = (idxI (fun y => x == y) xs)))))))
theorem J3e (xs : ZI) (x : Int)  (w_xs : (xs.length : Int) ≤ 9223372036854775807) : J1g xs x := by
  unfold J1g
  refine ⟨?_, ?_⟩
  ·refine ⟨0, ?_⟩
   refine ⟨?_, rfl, rfl, rfl, rfl⟩
   ·refine ⟨?_, ?_, ?_⟩
    ·omega
    ·omega
    ·omega
  intro i hJ
  obtain ⟨h1, h2, h3⟩ := hJ
  refine ⟨?_, ?_⟩
  ·intro b1
   try simp only [nrmT] at b1
   refine ⟨?_, ?_, ?_, ?_, ?_⟩
   ·omega
   ·omega
   ·omega
   ·intro b2
    try simp only [nrmT] at b2
    exact idx_found (p := fun y => x == y) h1 b1 h3 (by simpa using b2)
   intro b3
   try simp only [nrmT] at b3
   refine ⟨?_, ?_⟩
   ·omega
   refine ⟨(i + 1), ?_⟩
   refine ⟨?_, ?_, rfl, rfl, rfl, rfl⟩
   ·refine ⟨?_, ?_, ?_⟩
    ·omega
    ·omega
    ·exact idx_step (p := fun y => x == y) h1 h3 (by simpa using b3)
   (simp only [JM]; omega)
  intro b4
  try simp only [nrmT] at b4
  exact (idx_none (by omega) h3).symm
theorem J35 (xs : ZI) (x : Int)  : PC Try.prog 216 [.sl (.ints xs), .int .i64 x] (.one (.d (.int .i64 (idxI (fun y => x == y) xs)))) :=
  pc_wf @Try.call216 fun hw => pc_by (by kernel_rfl) Try.func216 @Try.call216 (by kernel_rfl) J3h (J3g xs x) (by kernel_rfl) (J3e xs x hw.1) (by kernel_rfl)
def J2R : List D → Orc := orcN [some .ints, none] fun ds => match ds with
  | [.sl (.ints xs), .int .i64 x] => some (.one (.d (.int .i64 (idxI (fun y => x == y) xs))))
  | _ => none
def J9S (f : FuncId) (ds : List D) : Orc := bif Nat.beq f 167 then J3L ds else .no
def Ja0 (U : ZI) (E : ZR) (set : ZI) : Ann := .none
def J7b (U : ZI) (E : ZR) (set : ZI) : Prop :=
  (I6 ((U.length : Int) - 1)) ∧ (PC Try.prog 167 [.sl (.ints set), .int .i64 0, .int .i64 ((U.length : Int) - 1)] (.one (.d (.bool (J3 set 0 ((U.length : Int) - 1)))))) ∧ (((J3 set 0 ((U.length : Int) - 1)) = (J3 set 0 ((U.length : Int) - 1))))
theorem J8V (U : ZI) (E : ZR) (set : ZI)  (w_Open : (U.length : Int) ≤ 9223372036854775807) (w_Dist : (E.length : Int) ≤ 9223372036854775807) (v_Dist : ∀ x9 ∈ E, (x9.length : Int) ≤ 9223372036854775807) (w_set : (set.length : Int) ≤ 9223372036854775807) : J7b U E set := by
  unfold J7b
  refine ⟨?_, J40 set 0 ((U.length : Int) - 1), rfl⟩
  ·omega
theorem J98 (U : ZI) (E : ZR) (set : ZI)  : PC Try.prog 237 [.agg [.sl (.ints U), .sl (.rows E)], .sl (.ints set)] (.one (.d (.bool (J3 set 0 ((U.length : Int) - 1))))) :=
  pc_wf @Try.call237 fun hw => pc_by (by kernel_rfl) Try.func237 @Try.call237 (by kernel_rfl) J9S (Ja0 U E set) (by kernel_rfl) (J8V U E set hw.1.1 hw.1.2.1.1 hw.1.2.1.2 hw.2.1) (by kernel_rfl)
def J8o : List D → Orc := orcN [none, some .ints] fun ds => match ds with
  | [.agg [.sl (.ints U), .sl (.rows E)], .sl (.ints set)] => some (.one (.d (.bool (J3 set 0 ((U.length : Int) - 1)))))
  | _ => none
def J9K (f : FuncId) (ds : List D) : Orc := bif Nat.beq f 115 then J84 ds else bif Nat.beq f 237 then J8o ds else .no
def J9C (U : ZI) (E : ZR) (set : ZI) : Ann := .none
def J6Z (U : ZI) (E : ZR) (set : ZI) : Prop :=
  (PC Try.prog 115 [.agg [.sl (.ints U), .sl (.rows E)]] (.one (.d (.bool (J0 U E))))) ∧ ((J0 U E) = true → (J0 U E) = true) ∧ ((J0 U E) = true → (J0 U E) = true) ∧ ((J0 U E) = true → PC Try.prog 237 [.agg [.sl (.ints U), .sl (.rows E)], .sl (.ints set)] (.one (.d (.bool (J3 set 0 ((U.length : Int) - 1)))))) ∧ (true = true) ∧ (((J0 U E) = true → (J0 U E) = true)) ∧ (((J0 U E) = false → true = true)) ∧ ((cond (J0 U E) (J3 set 0 ((U.length : Int) - 1)) false) = true → (cond (J0 U E) (J3 set 0 ((U.length : Int) - 1)) false) = true) ∧ ((cond (J0 U E) (J3 set 0 ((U.length : Int) - 1)) false) = true → (cond (J0 U E) (J3 set 0 ((U.length : Int) - 1)) false) = true) ∧ (true = true) ∧ (((cond (J0 U E) (J3 set 0 ((U.length : Int) - 1)) false) = true → (cond (J0 U E) (J3 set 0 ((U.length : Int) - 1)) false) = true)) ∧ (((cond (J0 U E) (J3 set 0 ((U.length : Int) - 1)) false) = false → true = true)) ∧ (((cond (cond (J0 U E) (J3 set 0 ((U.length : Int) - 1)) false) (decide ((set.length : Int) > 0)) false) = (J0 U E && J3 set 0 ((U.length : Int) - 1) && decide (0 < set.length))))
theorem J9m (U : ZI) (E : ZR) (set : ZI)  (w_Open : (U.length : Int) ≤ 9223372036854775807) (w_Dist : (E.length : Int) ≤ 9223372036854775807) (v_Dist : ∀ x9 ∈ E, (x9.length : Int) ≤ 9223372036854775807) (w_set : (set.length : Int) ≤ 9223372036854775807) : J6Z U E set := by
  unfold J6Z
  refine ⟨J8q U E, id, id, fun _ => J98 U E set, rfl, id, fun _ => rfl, id, id, rfl, id, fun _ => rfl, ?_⟩
  ·rw [(show decide ((set.length : Int) > 0) = decide (0 < set.length) by rw [Bool.eq_iff_iff]; simp only [decide_eq_true_eq]; omega)]
   cases J0 U E <;> cases J3 set 0 ((U.length : Int) - 1) <;> cases decide (0 < set.length) <;> rfl
theorem J8X (U : ZI) (E : ZR) (set : ZI)  : PC Try.prog 212 [.agg [.sl (.ints U), .sl (.rows E)], .sl (.ints set)] (.one (.d (.bool (J0 U E && J3 set 0 ((U.length : Int) - 1) && decide (0 < set.length))))) :=
  pc_wf @Try.call212 fun hw => pc_by (by kernel_rfl) Try.func212 @Try.call212 (by kernel_rfl) J9K (J9C U E set) (by kernel_rfl) (J9m U E set hw.1.1 hw.1.2.1.1 hw.1.2.1.2 hw.2.1) (by kernel_rfl)
def J8B : List D → Orc := orcN [none, some .ints] fun ds => match ds with
  | [.agg [.sl (.ints U), .sl (.rows E)], .sl (.ints set)] => some (.one (.d (.bool (J0 U E && J3 set 0 ((U.length : Int) - 1) && decide (0 < set.length)))))
  | _ => none
def J5s (f : FuncId) (ds : List D) : Orc := bif Nat.beq f 130 then J3I ds else .no
def J5l (U : ZI) (E : ZR) (set : ZI) : Ann := .none
def J3o (U : ZI) (E : ZR) (set : ZI) : Prop :=
  ((decide ((set.length : Int) > 0)) = true → (decide ((set.length : Int) > 0)) = true) ∧ ((decide ((set.length : Int) > 0)) = true → (decide ((set.length : Int) > 0)) = true) ∧ ((decide ((set.length : Int) > 0)) = true → (decide ((set.length : Int) > 0)) = true) ∧ ((decide ((set.length : Int) > 0)) = true → (decide ((set.length : Int) > 0)) = true) ∧ ((decide ((set.length : Int) > 0)) = true → PC Try.prog 130 [.sl (.ints set), .int .i64 (U.length : Int)] (.one (.d (.bool (J3 set 0 ((U.length : Int) - 1)))))) ∧ (true = true) ∧ (((decide ((set.length : Int) > 0)) = true → (decide ((set.length : Int) > 0)) = true)) ∧ (((decide ((set.length : Int) > 0)) = false → true = true)) ∧ (((cond (decide ((set.length : Int) > 0)) (J3 set 0 ((U.length : Int) - 1)) false) = (J3 set 0 ((U.length : Int) - 1) && decide (0 < set.length))))
theorem J4T (U : ZI) (E : ZR) (set : ZI)  (w_Open : (U.length : Int) ≤ 9223372036854775807) (w_Dist : (E.length : Int) ≤ 9223372036854775807) (v_Dist : ∀ x9 ∈ E, (x9.length : Int) ≤ 9223372036854775807) (w_set : (set.length : Int) ≤ 9223372036854775807) : J3o U E set := by
  unfold J3o
  refine ⟨id, id, id, id, ?_, rfl, id, fun _ => rfl, ?_⟩
  ·intro hg
   refine J3T set (U.length : Int) ?_
   ·omega
  rw [(show decide ((set.length : Int) > 0) = decide (0 < set.length) by rw [Bool.eq_iff_iff]; simp only [decide_eq_true_eq]; omega)]
  cases J3 set 0 ((U.length : Int) - 1) <;> cases decide (0 < set.length) <;> rfl
theorem J59 (U : ZI) (E : ZR) (set : ZI)  : PC Try.prog 211 [.agg [.sl (.ints U), .sl (.rows E)], .sl (.ints set)] (.one (.d (.bool (J3 set 0 ((U.length : Int) - 1) && decide (0 < set.length))))) :=
  pc_wf @Try.call211 fun hw => pc_by (by kernel_rfl) Try.func211 @Try.call211 (by kernel_rfl) J5s (J5l U E set) (by kernel_rfl) (J4T U E set hw.1.1 hw.1.2.1.1 hw.1.2.1.2 hw.2.1) (by kernel_rfl)
def J4x : List D → Orc := orcN [none, some .ints] fun ds => match ds with
  | [.agg [.sl (.ints U), .sl (.rows E)], .sl (.ints set)] => some (.one (.d (.bool (J3 set 0 ((U.length : Int) - 1) && decide (0 < set.length)))))
  | _ => none
def J8d (f : FuncId) (ds : List D) : Orc := bif Nat.beq f 119 then J2J ds else bif Nat.beq f 211 then J4x ds else .no
def J8a (U : ZI) (E : ZR) (set : ZI) : Ann := .none
def J4g (U : ZI) (E : ZR) (set : ZI) : Prop :=
  (PC Try.prog 119 [.agg [.sl (.ints U), .sl (.rows E)]] (.one (.d (.bool (J0 U E))))) ∧ ((J0 U E) = true → (J0 U E) = true) ∧ ((J0 U E) = true → (J0 U E) = true) ∧ ((J0 U E) = true → PC Try.prog 211 [.agg [.sl (.ints U), .sl (.rows E)], .sl (.ints set)] (.one (.d (.bool (J3 set 0 ((U.length : Int) - 1) && decide (0 < set.length)))))) ∧ (true = true) ∧ (((J0 U E) = true → (J0 U E) = true)) ∧ (((J0 U E) = false → true = true)) ∧ (((cond (J0 U E) (J3 set 0 ((U.length : Int) - 1) && decide (0 < set.length)) false) = (J0 U E && J3 set 0 ((U.length : Int) - 1) && decide (0 < set.length))))
theorem J7o (U : ZI) (E : ZR) (set : ZI)  (w_Open : (U.length : Int) ≤ 9223372036854775807) (w_Dist : (E.length : Int) ≤ 9223372036854775807) (v_Dist : ∀ x9 ∈ E, (x9.length : Int) ≤ 9223372036854775807) (w_set : (set.length : Int) ≤ 9223372036854775807) : J4g U E set := by
  unfold J4g
  refine ⟨J3c U E, id, id, fun _ => J59 U E set, rfl, id, fun _ => rfl, ?_⟩
  ·cases J0 U E <;> cases J3 set 0 ((U.length : Int) - 1) <;> cases decide (0 < set.length) <;> rfl
theorem J7C (U : ZI) (E : ZR) (set : ZI)  : PC Try.prog 136 [.agg [.sl (.ints U), .sl (.rows E)], .sl (.ints set)] (.one (.d (.bool (J0 U E && J3 set 0 ((U.length : Int) - 1) && decide (0 < set.length))))) :=
  pc_wf @Try.call136 fun hw => pc_by (by kernel_rfl) Try.func136 @Try.call136 (by kernel_rfl) J8d (J8a U E set) (by kernel_rfl) (J7o U E set hw.1.1 hw.1.2.1.1 hw.1.2.1.2 hw.2.1) (by kernel_rfl)
def J6r : List D → Orc := orcN [none, some .ints] fun ds => match ds with
  | [.agg [.sl (.ints U), .sl (.rows E)], .sl (.ints set)] => some (.one (.d (.bool (J0 U E && J3 set 0 ((U.length : Int) - 1) && decide (0 < set.length)))))
  | _ => none
theorem Jb {U set : ZI} {E : ZR} (h : (J0 U E && J3 set 0 ((U.length : Int) - 1) && decide (0 < set.length)) = true) :
    J0 U E = true ∧ J3 set 0 ((U.length : Int) - 1) = true ∧ 0 < set.length := by
  simp only [Bool.and_eq_true, decide_eq_true_eq] at h
  exact ⟨h.1.1, h.1.2, h.2⟩
theorem J9t {b x : Int} (hb : 0 ≤ b ∧ b ≤ 4611686018427387903) (h2 : x ≤ 62) (h : 0 < b / 2 ^ x.toNat) : x < 62 := by
  by_cases e : x = 62
  · subst e
    have e2 : (2 : Int) ^ (62 : Int).toNat = 4611686018427387904 := by decide
    rw [e2] at h
    omega
  omega
theorem JaL {b : Int} {m : Nat} (hb : 0 ≤ b) (h : ¬ 0 < b / 2 ^ m) (k : Nat) (hk : m ≤ k) : b.toNat.testBit k = false := by
  have h1 : b.toNat / 2 ^ m = 0 := by
    have h2 : ((b.toNat / 2 ^ m : Nat) : Int) = b / 2 ^ m := by
      rw [Int.natCast_ediv, Int.toNat_of_nonneg hb]; simp
    have h3 : (0 : Int) ≤ ((b.toNat / 2 ^ m : Nat) : Int) := Int.natCast_nonneg _
    omega
  have h4 : b.toNat < 2 ^ m := (Nat.div_eq_zero_iff_lt (Nat.two_pow_pos m)).1 h1
  exact Nat.testBit_lt_two_pow (Nat.lt_of_lt_of_le h4 (Nat.pow_le_pow_right (by omega) hk))
theorem J27 {p : Nat → Bool} {m : Nat} (h : ∀ k, m ≤ k → p k = false) : ∀ n, m ≤ n → members p n = members p m
  | 0, hn => by have : m = 0 := by omega
                rw [this]
  | n + 1, hn => by
    by_cases e : m = n + 1
    · rw [e]
    rw [members_succ, J27 h n (by omega), h n (by omega)]; simp
def J1u (row set : ZI) (b : Int) (k : Nat) : Int := if row.getD (set.getD k 0).toNat 0 < row.getD b.toNat 0 then set.getD k 0 else b
def Ja (row set : ZI) (k : Nat) : Int := foldTo (J1u row set) (set.getD 0 0) k
theorem J62 (row set : ZI) : Ja row set 1 = set.getD 0 0 := by
  show J1u row set (set.getD 0 0) 0 = _
  unfold J1u; split <;> rfl
theorem J00 (row set : ZI) (k : Nat) : Ja row set (k + 1) = J1u row set (Ja row set k) k := rfl
theorem J0P {row set : ZI} {n : Int} (h : ∀ k, k < set.length → 0 ≤ set.getD k 0 ∧ set.getD k 0 < n) (hp : 0 < set.length) : ∀ k, k ≤ set.length → 0 ≤ Ja row set k ∧ Ja row set k < n
  | 0, _ => h 0 hp
  | k + 1, hk => by
    rw [J00]
    unfold J1u
    split
    · exact h k (by omega)
    exact J0P h hp k (by omega)
abbrev J0V (U : ZI) (E : ZR) (client : Int) (set : ZI) (best : Int) (k : Int) : Prop := (1 ≤ k) ∧ (k ≤ (set.length : Int)) ∧ (best = Ja (E.getD client.toNat []) set k.toNat)
abbrev J02 (U : ZI) (E : ZR) (client : Int) (set : ZI) (best : Int) (k : Int) : Nat := (set.length - k).toNat
def J9u (f : FuncId) (ds : List D) : Orc := .no
def J9l (U : ZI) (E : ZR) (client : Int) (set : ZI) : Ann := .two (.none) (.two (.none) (.two (.two (.none) (.loop (cut2 (fun (best : Int) (k : Int) => J0V U E client set best k) (fun (best : Int) (k : Int) => [(1, .d false (.int .i64 client)), (2, .d false (.sl (.ints set))), (3, .ptr 3 0), (7, .d true (.int .i64 best)), (8, .d true (.int .i64 k))]) (fun (best : Int) (k : Int) => [(3, .box 39 [.d false (.sl (.ints U)), .d false (.sl (.rows E))])])) (fun g => J02 U E client set g.1 g.2) (fun _ => .none))) (.none)))
def J5x (U : ZI) (E : ZR) (client : Int) (set : ZI) : Prop :=
  ((0 : Int) ≤ 0) ∧ ((0 : Int) < set.length) ∧ (0 < set.length) ∧ ((∃ best' : Int, ∃ k' : Int, (J0V U E client set best' k') ∧ (client = client) ∧ (set = set) ∧ ((set.getD 0 0) = best') ∧ ((1 : Int) = k') ∧ (U = U) ∧ (E = E)) ∧ (∀ best : Int, ∀ k : Int, (J0V U E client set best k) → (((decide (k < (set.length : Int))) = true → (true = true) ∧ ((0 : Int) ≤ client) ∧ ((client : Int) < E.length) ∧ (client.toNat < E.length) ∧ ((0 : Int) ≤ k) ∧ ((k : Int) < set.length) ∧ (k.toNat < set.length) ∧ ((0 : Int) ≤ (set.getD k.toNat 0)) ∧ (((set.getD k.toNat 0) : Int) < (E.getD client.toNat []).length) ∧ ((set.getD k.toNat 0).toNat < (E.getD client.toNat []).length) ∧ ((0 : Int) ≤ client) ∧ ((client : Int) < E.length) ∧ (client.toNat < E.length) ∧ ((0 : Int) ≤ best) ∧ ((best : Int) < (E.getD client.toNat []).length) ∧ (best.toNat < (E.getD client.toNat []).length) ∧ (((decide (((E.getD client.toNat []).getD ((set.getD k.toNat 0).toNat) 0) < ((E.getD client.toNat []).getD best.toNat 0))) = true → ((0 : Int) ≤ k) ∧ ((k : Int) < set.length) ∧ (k.toNat < set.length) ∧ (I6 (k + 1)) ∧ (∃ best' : Int, ∃ k' : Int, (J0V U E client set best' k') ∧ (J02 U E client set best' k' < J02 U E client set best k) ∧ (client = client) ∧ (set = set) ∧ ((set.getD k.toNat 0) = best') ∧ ((k + 1) = k') ∧ (U = U) ∧ (E = E))) ∧ ((decide (((E.getD client.toNat []).getD ((set.getD k.toNat 0).toNat) 0) < ((E.getD client.toNat []).getD best.toNat 0))) = false → (I6 (k + 1)) ∧ (∃ best' : Int, ∃ k' : Int, (J0V U E client set best' k') ∧ (J02 U E client set best' k' < J02 U E client set best k) ∧ (client = client) ∧ (set = set) ∧ (best = best') ∧ ((k + 1) = k') ∧ (U = U) ∧ (E = E))))) ∧ ((decide (k < (set.length : Int))) = false → ((best = (Ja (E.getD client.toNat []) set set.length)))))))
theorem J8n (U : ZI) (E : ZR) (client : Int) (set : ZI) (ht : (J0 U E && J3 set 0 ((U.length : Int) - 1) && decide (0 < set.length)) = true) (hc : 0 ≤ client ∧ client < (E.length : Int)) (w_Open : (U.length : Int) ≤ 9223372036854775807) (w_Dist : (E.length : Int) ≤ 9223372036854775807) (v_Dist : ∀ x9 ∈ E, (x9.length : Int) ≤ 9223372036854775807) (w_set : (set.length : Int) ≤ 9223372036854775807) : J5x U E client set := by
  unfold J5x
  obtain ⟨hg, hs, hp⟩ := Jb ht
  obtain ⟨g1, g2, g3⟩ := Jc hg
  have cs := fun k => Ji hs k
  obtain ⟨rl, rb⟩ := Jo (i := client.toNat) hg (by omega)
  have si := J0P (row := E.getD client.toNat []) (set := set) (n := (U.length : Int)) (fun k hk => by have := cs k hk; omega) hp
  refine ⟨?_, ?_, ?_, ?_, ?_⟩
  ·omega
  ·omega
  ·omega
  ·refine ⟨(set.getD 0 0), 1, ?_⟩
   refine ⟨?_, rfl, rfl, rfl, rfl, rfl, rfl⟩
   ·refine ⟨?_, ?_, ?_⟩
    ·omega
    ·omega
    ·exact (J62 _ _).symm
  intro best k hJ
  obtain ⟨h1, h2, h3⟩ := hJ
  refine ⟨?_, ?_⟩
  ·intro b1
   try simp only [nrmT] at b1
   refine ⟨rfl, ?_, ?_, ?_, ?_, ?_, ?_, ?_, ?_, ?_, ?_, ?_, ?_, ?_, ?_, ?_, ?_, ?_⟩
   ·omega
   ·omega
   ·omega
   ·omega
   ·omega
   ·omega
   ·have := cs k.toNat (by omega)
    omega
   ·have := cs k.toNat (by omega)
    omega
   ·have := cs k.toNat (by omega)
    omega
   ·omega
   ·omega
   ·omega
   ·have := si k.toNat (by omega)
    omega
   ·have := si k.toNat (by omega)
    omega
   ·have := si k.toNat (by omega)
    omega
   ·intro b2
    try simp only [nrmT] at b2
    refine ⟨?_, ?_, ?_, ?_, ?_⟩
    ·omega
    ·omega
    ·omega
    ·omega
    refine ⟨(set.getD k.toNat 0), (k + 1), ?_⟩
    refine ⟨?_, ?_, rfl, rfl, rfl, rfl, rfl, rfl⟩
    ·refine ⟨?_, ?_, ?_⟩
     ·omega
     ·omega
     ·rw [show (k + 1).toNat = k.toNat + 1 by omega, J00, ← h3]; unfold J1u; rw [if_pos b2]
    (simp only [J02]; omega)
   intro b3
   try simp only [nrmT] at b3
   refine ⟨?_, ?_⟩
   ·omega
   refine ⟨best, (k + 1), ?_⟩
   refine ⟨?_, ?_, rfl, rfl, rfl, rfl, rfl, rfl⟩
   ·refine ⟨?_, ?_, ?_⟩
    ·omega
    ·omega
    ·rw [show (k + 1).toNat = k.toNat + 1 by omega, J00, ← h3]; unfold J1u; rw [if_neg (by omega)]
   (simp only [J02]; omega)
  intro b4
  try simp only [nrmT] at b4
  rw [h3, show k.toNat = set.length by omega]
theorem J4P (U : ZI) (E : ZR) (client : Int) (set : ZI) (ht : (J0 U E && J3 set 0 ((U.length : Int) - 1) && decide (0 < set.length)) = true) (hc : 0 ≤ client ∧ client < (E.length : Int)) : PC Try.prog 238 [.agg [.sl (.ints U), .sl (.rows E)], .int .i64 client, .sl (.ints set)] (.one (.d (.int .i64 (Ja (E.getD client.toNat []) set set.length)))) :=
  pc_wf @Try.call238 fun hw => pc_by (by kernel_rfl) Try.func238 @Try.call238 (by kernel_rfl) J9u (J9l U E client set) (by kernel_rfl) (J8n U E client set ht hc hw.1.1 hw.1.2.1.1 hw.1.2.1.2 hw.2.2.1) (by kernel_rfl)
def J4k : List D → Orc := orcN [none, none, some .ints] fun ds => match ds with
  | [.agg [.sl (.ints U), .sl (.rows E)], .int .i64 client, .sl (.ints set)] => some (.one (.d (.int .i64 (Ja (E.getD client.toNat []) set set.length))))
  | _ => none
abbrev JV (U : ZI) (E : ZR) (client : Int) (set : ZI) (best : Int) (k : Int) : Prop := (0 ≤ k) ∧ (k ≤ (set.length : Int)) ∧ (best = Ja (E.getD client.toNat []) set k.toNat)
abbrev Jz (U : ZI) (E : ZR) (client : Int) (set : ZI) (best : Int) (k : Int) : Nat := (set.length - k).toNat
def J50 (f : FuncId) (ds : List D) : Orc := .no
def J5f (U : ZI) (E : ZR) (client : Int) (set : ZI) : Ann := .two (.none) (.two (.none) (.two (.two (.none) (.loop (cut2 (fun (best : Int) (k : Int) => JV U E client set best k) (fun (best : Int) (k : Int) => [(1, .d false (.int .i64 client)), (3, .ptr 3 0), (7, .d true (.int .i64 best)), (13, .d false (.sl (.ints set))), (14, .d true (.int .i64 (set.length : Int))), (15, .d true (.int .i64 k))]) (fun (best : Int) (k : Int) => [(3, .box 39 [.d false (.sl (.ints U)), .d false (.sl (.rows E))])])) (fun g => Jz U E client set g.1 g.2) (fun _ => .none))) (.none)))
def J34 (U : ZI) (E : ZR) (client : Int) (set : ZI) : Prop :=
  ((0 : Int) ≤ 0) ∧ ((0 : Int) < set.length) ∧ (0 < set.length) ∧ ((∃ best' : Int, ∃ k' : Int, (JV U E client set best' k') ∧ (client = client) ∧ ((set.getD 0 0) = best') ∧ (set = set) ∧ ((set.length : Int) = (set.length : Int)) ∧ ((0 : Int) = k') ∧ (U = U) ∧ (E = E)) ∧ (∀ best : Int, ∀ k : Int, (JV U E client set best k) → (((decide (k < (set.length : Int))) = true → ((0 : Int) ≤ k) ∧ ((k : Int) < set.length) ∧ (k.toNat < set.length) ∧ (true = true) ∧ ((0 : Int) ≤ client) ∧ ((client : Int) < E.length) ∧ (client.toNat < E.length) ∧ ((0 : Int) ≤ (set.getD k.toNat 0)) ∧ (((set.getD k.toNat 0) : Int) < (E.getD client.toNat []).length) ∧ ((set.getD k.toNat 0).toNat < (E.getD client.toNat []).length) ∧ ((0 : Int) ≤ client) ∧ ((client : Int) < E.length) ∧ (client.toNat < E.length) ∧ ((0 : Int) ≤ best) ∧ ((best : Int) < (E.getD client.toNat []).length) ∧ (best.toNat < (E.getD client.toNat []).length) ∧ (((decide (((E.getD client.toNat []).getD ((set.getD k.toNat 0).toNat) 0) < ((E.getD client.toNat []).getD best.toNat 0))) = true → (I6 (k + 1)) ∧ (∃ best' : Int, ∃ k' : Int, (JV U E client set best' k') ∧ (Jz U E client set best' k' < Jz U E client set best k) ∧ (client = client) ∧ ((set.getD k.toNat 0) = best') ∧ (set = set) ∧ ((set.length : Int) = (set.length : Int)) ∧ ((k + 1) = k') ∧ (U = U) ∧ (E = E))) ∧ ((decide (((E.getD client.toNat []).getD ((set.getD k.toNat 0).toNat) 0) < ((E.getD client.toNat []).getD best.toNat 0))) = false → (I6 (k + 1)) ∧ (∃ best' : Int, ∃ k' : Int, (JV U E client set best' k') ∧ (Jz U E client set best' k' < Jz U E client set best k) ∧ (client = client) ∧ (best = best') ∧ (set = set) ∧ ((set.length : Int) = (set.length : Int)) ∧ ((k + 1) = k') ∧ (U = U) ∧ (E = E))))) ∧ ((decide (k < (set.length : Int))) = false → ((best = (Ja (E.getD client.toNat []) set set.length)))))))
theorem J4w (U : ZI) (E : ZR) (client : Int) (set : ZI) (ht : (J0 U E && J3 set 0 ((U.length : Int) - 1) && decide (0 < set.length)) = true) (hc : 0 ≤ client ∧ client < (E.length : Int)) (w_Open : (U.length : Int) ≤ 9223372036854775807) (w_Dist : (E.length : Int) ≤ 9223372036854775807) (v_Dist : ∀ x9 ∈ E, (x9.length : Int) ≤ 9223372036854775807) (w_set : (set.length : Int) ≤ 9223372036854775807) : J34 U E client set := by
  unfold J34
  obtain ⟨hg, hs, hp⟩ := Jb ht
  obtain ⟨g1, g2, g3⟩ := Jc hg
  have cs := fun k => Ji hs k
  obtain ⟨rl, rb⟩ := Jo (i := client.toNat) hg (by omega)
  have si := J0P (row := E.getD client.toNat []) (set := set) (n := (U.length : Int)) (fun k hk => by have := cs k hk; omega) hp
  refine ⟨?_, ?_, ?_, ?_, ?_⟩
  ·omega
  ·omega
  ·omega
  ·refine ⟨(set.getD 0 0), 0, ?_⟩
   refine ⟨?_, rfl, rfl, rfl, rfl, rfl, rfl, rfl⟩
   ·refine ⟨?_, ?_, ?_⟩
    ·omega
    ·omega
    ·rfl
  intro best k hJ
  obtain ⟨h1, h2, h3⟩ := hJ
  refine ⟨?_, ?_⟩
  ·intro b1
   try simp only [nrmT] at b1
   refine ⟨?_, ?_, ?_, rfl, ?_, ?_, ?_, ?_, ?_, ?_, ?_, ?_, ?_, ?_, ?_, ?_, ?_, ?_⟩
   ·omega
   ·omega
   ·omega
   ·omega
   ·omega
   ·omega
   ·have := cs k.toNat (by omega)
    omega
   ·have := cs k.toNat (by omega)
    omega
   ·have := cs k.toNat (by omega)
    omega
   ·omega
   ·omega
   ·omega
   ·have := si k.toNat (by omega)
    omega
   ·have := si k.toNat (by omega)
    omega
   ·have := si k.toNat (by omega)
    omega
   ·intro b2
    try simp only [nrmT] at b2
    refine ⟨?_, ?_⟩
    ·omega
    refine ⟨(set.getD k.toNat 0), (k + 1), ?_⟩
    refine ⟨?_, ?_, rfl, rfl, rfl, rfl, rfl, rfl, rfl⟩
    ·refine ⟨?_, ?_, ?_⟩
     ·omega
     ·omega
     ·rw [show (k + 1).toNat = k.toNat + 1 by omega, J00, ← h3]; unfold J1u; rw [if_pos b2]
    (simp only [Jz]; omega)
   intro b3
   try simp only [nrmT] at b3
   refine ⟨?_, ?_⟩
   ·omega
   refine ⟨best, (k + 1), ?_⟩
   refine ⟨?_, ?_, rfl, rfl, rfl, rfl, rfl, rfl, rfl⟩
   ·refine ⟨?_, ?_, ?_⟩
    ·omega
    ·omega
    ·rw [show (k + 1).toNat = k.toNat + 1 by omega, J00, ← h3]; unfold J1u; rw [if_neg (by omega)]
   (simp only [Jz]; omega)
  intro b4
  try simp only [nrmT] at b4
  rw [h3, show k.toNat = set.length by omega]
theorem J4v (U : ZI) (E : ZR) (client : Int) (set : ZI) (ht : (J0 U E && J3 set 0 ((U.length : Int) - 1) && decide (0 < set.length)) = true) (hc : 0 ≤ client ∧ client < (E.length : Int)) : PC Try.prog 240 [.agg [.sl (.ints U), .sl (.rows E)], .int .i64 client, .sl (.ints set)] (.one (.d (.int .i64 (Ja (E.getD client.toNat []) set set.length)))) :=
  pc_wf @Try.call240 fun hw => pc_by (by kernel_rfl) Try.func240 @Try.call240 (by kernel_rfl) J50 (J5f U E client set) (by kernel_rfl) (J4w U E client set ht hc hw.1.1 hw.1.2.1.1 hw.1.2.1.2 hw.2.2.1) (by kernel_rfl)
def J4a : List D → Orc := orcN [none, none, some .ints] fun ds => match ds with
  | [.agg [.sl (.ints U), .sl (.rows E)], .int .i64 client, .sl (.ints set)] => some (.one (.d (.int .i64 (Ja (E.getD client.toNat []) set set.length))))
  | _ => none
def J7u (f : FuncId) (ds : List D) : Orc := bif Nat.beq f 238 then J4k ds else .no
def J7t (U : ZI) (E : ZR) (client : Int) (set : ZI) : Ann := .none
def J3Z (U : ZI) (E : ZR) (client : Int) (set : ZI) : Prop :=
  (true = true) ∧ ((0 : Int) ≤ client) ∧ ((client : Int) < E.length) ∧ (client.toNat < E.length) ∧ (PC Try.prog 238 [.agg [.sl (.ints U), .sl (.rows E)], .int .i64 client, .sl (.ints set)] (.one (.d (.int .i64 (Ja (E.getD client.toNat []) set set.length))))) ∧ ((0 : Int) ≤ (Ja (E.getD client.toNat []) set set.length)) ∧ (((Ja (E.getD client.toNat []) set set.length) : Int) < (E.getD client.toNat []).length) ∧ ((Ja (E.getD client.toNat []) set set.length).toNat < (E.getD client.toNat []).length) ∧ ((((E.getD client.toNat []).getD ((Ja (E.getD client.toNat []) set set.length).toNat) 0) = ((E.getD client.toNat []).getD (Ja (E.getD client.toNat []) set set.length).toNat 0)))
theorem J6O (U : ZI) (E : ZR) (client : Int) (set : ZI) (ht : (J0 U E && J3 set 0 ((U.length : Int) - 1) && decide (0 < set.length)) = true) (hc : 0 ≤ client ∧ client < (E.length : Int)) (w_Open : (U.length : Int) ≤ 9223372036854775807) (w_Dist : (E.length : Int) ≤ 9223372036854775807) (v_Dist : ∀ x9 ∈ E, (x9.length : Int) ≤ 9223372036854775807) (w_set : (set.length : Int) ≤ 9223372036854775807) : J3Z U E client set := by
  unfold J3Z
  obtain ⟨hg, hs, hp⟩ := Jb ht
  obtain ⟨g1, g2, g3⟩ := Jc hg
  have cs := fun k => Ji hs k
  obtain ⟨rl, rb⟩ := Jo (i := client.toNat) hg (by omega)
  have si := J0P (row := E.getD client.toNat []) (set := set) (n := (U.length : Int)) (fun k hk => by have := cs k hk; omega) hp
  have sl := si set.length (Nat.le_refl _)
  refine ⟨rfl, ?_, ?_, ?_, ?_, ?_, ?_, ?_, ?_⟩
  ·omega
  ·omega
  ·omega
  ·refine J4P U E client set ?_ ?_
   ·omega
   ·omega
  ·omega
  ·omega
  ·omega
  omega
theorem J6p (U : ZI) (E : ZR) (client : Int) (set : ZI) (ht : (J0 U E && J3 set 0 ((U.length : Int) - 1) && decide (0 < set.length)) = true) (hc : 0 ≤ client ∧ client < (E.length : Int)) : PC Try.prog 221 [.agg [.sl (.ints U), .sl (.rows E)], .int .i64 client, .sl (.ints set)] (.one (.d (.int .i64 ((E.getD client.toNat []).getD (Ja (E.getD client.toNat []) set set.length).toNat 0)))) :=
  pc_wf @Try.call221 fun hw => pc_by (by kernel_rfl) Try.func221 @Try.call221 (by kernel_rfl) J7u (J7t U E client set) (by kernel_rfl) (J6O U E client set ht hc hw.1.1 hw.1.2.1.1 hw.1.2.1.2 hw.2.2.1) (by kernel_rfl)
def J5y : List D → Orc := orcN [none, none, some .ints] fun ds => match ds with
  | [.agg [.sl (.ints U), .sl (.rows E)], .int .i64 client, .sl (.ints set)] => some (.one (.d (.int .i64 ((E.getD client.toNat []).getD (Ja (E.getD client.toNat []) set set.length).toNat 0))))
  | _ => none
def J9 (E : ZR) (set : ZI) (n : Nat) : ZI := (List.range n).map fun i => Ja (E.getD i []) set set.length
def Jr (E : ZR) (set : ZI) (i : Nat) : Int := (E.getD i []).getD (Ja (E.getD i []) set set.length).toNat 0
def JP (E : ZR) (set : ZI) (n : Nat) : ZI := (List.range n).map (Jr E set)
theorem JQ (E : ZR) (set : ZI) (n : Nat) : (J9 E set n).length = n := by simp [J9]
theorem J3w (E : ZR) (set : ZI) (n : Nat) : (JP E set n).length = n := by simp [JP]
theorem JH (E : ZR) (set : ZI) (n i : Nat) (h : i < n) : (J9 E set n).getD i 0 = Ja (E.getD i []) set set.length := by simp [J9, h]
theorem J2S (E : ZR) (set : ZI) (n i : Nat) (h : i < n) : (JP E set n).getD i 0 = Jr E set i := by simp [JP, h]
theorem J95 (E : ZR) (set : ZI) (n : Nat) : J9 E set (n + 1) = J9 E set n ++ [Ja (E.getD n []) set set.length] := by simp [J9, List.range_succ]
theorem J9i (E : ZR) (set : ZI) (n : Nat) : JP E set (n + 1) = JP E set n ++ [Jr E set n] := by simp [JP, List.range_succ]
abbrev J0i (U : ZI) (E : ZR) (set : ZI) (out : ZI) (i : Int) : Prop := (0 ≤ i) ∧ (i ≤ (E.length : Int)) ∧ (out = J9 E set i.toNat)
abbrev J0l (U : ZI) (E : ZR) (set : ZI) (out : ZI) (i : Int) : Nat := (E.length - i).toNat
def J4R (f : FuncId) (ds : List D) : Orc := bif Nat.beq f 240 then J4a ds else .no
def J5k (U : ZI) (E : ZR) (set : ZI) : Ann := .two (.none) (.two (.none) (.two (.two (.none) (.loop (cut2 (fun (out : ZI) (i : Int) => J0i U E set out i) (fun (out : ZI) (i : Int) => [(1, .d false (.sl (.ints set))), (2, .ptr 2 0), (5, .own 1000000 out.length), (10, .d true (.int .i64 (E.length : Int))), (11, .d true (.int .i64 i))]) (fun (out : ZI) (i : Int) => [(1000000, .arr true 3 (.ints out)), (2, .box 39 [.d false (.sl (.ints U)), .d false (.sl (.rows E))])])) (fun g => J0l U E set g.1 g.2) (fun _ => .none))) (.none)))
def J32 (U : ZI) (E : ZR) (set : ZI) : Prop :=
  ((∃ out' : ZI, ∃ i' : Int, (J0i U E set out' i') ∧ (set = set) ∧ ((0 : Nat) = out'.length) ∧ ((E.length : Int) = (E.length : Int)) ∧ ((0 : Int) = i') ∧ ([] = out') ∧ (U = U) ∧ (E = E)) ∧ (∀ out : ZI, ∀ i : Int, (J0i U E set out i) → (((decide (i < (E.length : Int))) = true → (PC Try.prog 240 [.agg [.sl (.ints U), .sl (.rows E)], .int .i64 i, .sl (.ints set)] (.one (.d (.int .i64 (Ja (E.getD i.toNat []) set set.length))))) ∧ (out.length = out.length) ∧ ((1 : Nat) = 1) ∧ ((out.length + 1) * 8 ≤ 140737488355328) ∧ (I6 (i + 1)) ∧ (∃ out' : ZI, ∃ i' : Int, (J0i U E set out' i') ∧ (J0l U E set out' i' < J0l U E set out i) ∧ (set = set) ∧ ((out.length + 1) = out'.length) ∧ ((E.length : Int) = (E.length : Int)) ∧ ((i + 1) = i') ∧ ((out ++ [(Ja (E.getD i.toNat []) set set.length)]) = out') ∧ (U = U) ∧ (E = E))) ∧ ((decide (i < (E.length : Int))) = false → ((out.length = out.length) ∧ ((out : ZI) = J9 E set E.length))))))
theorem J4A (U : ZI) (E : ZR) (set : ZI) (ht : (J0 U E && J3 set 0 ((U.length : Int) - 1) && decide (0 < set.length)) = true) (w_Open : (U.length : Int) ≤ 9223372036854775807) (w_Dist : (E.length : Int) ≤ 9223372036854775807) (v_Dist : ∀ x9 ∈ E, (x9.length : Int) ≤ 9223372036854775807) (w_set : (set.length : Int) ≤ 9223372036854775807) : J32 U E set := by
  unfold J32
  obtain ⟨hg, hs, hp⟩ := Jb ht
  obtain ⟨g1, g2, g3⟩ := Jc hg
  have cs := fun k => Ji hs k
  have si := fun (i : Nat) (hi : i < E.length) => J0P (row := E.getD i []) (set := set) (n := (U.length : Int)) (fun k hk => by have := cs k hk; omega) hp set.length (Nat.le_refl _)
  refine ⟨?_, ?_⟩
  ·refine ⟨([]), 0, ?_⟩
   refine ⟨?_, rfl, rfl, rfl, rfl, ?_, rfl, rfl⟩
   ·refine ⟨?_, ?_, ?_⟩
    ·omega
    ·omega
    ·rfl
   rfl
  intro out i hJ
  obtain ⟨h1, h2, h3⟩ := hJ
  refine ⟨?_, ?_⟩
  ·intro b1
   try simp only [nrmT] at b1
   refine ⟨?_, rfl, rfl, ?_, ?_, ?_⟩
   ·refine J4v U E i set ?_ ?_
    ·omega
    ·omega
   ·rw [h3, JQ]; omega
   ·omega
   refine ⟨(out ++ [(Ja (E.getD i.toNat []) set set.length)]), (i + 1), ?_⟩
   refine ⟨?_, ?_, rfl, ?_, rfl, rfl, rfl, rfl, rfl⟩
   ·refine ⟨?_, ?_, ?_⟩
    ·omega
    ·omega
    ·rw [h3, show (i + 1).toNat = i.toNat + 1 by omega, J95]
   ·(simp only [J0l]; omega)
   (simp_all; done)
  intro b2
  try simp only [nrmT] at b2
  refine ⟨rfl, ?_⟩
  ·rw [h3, show i.toNat = E.length by omega]
theorem J2L (U : ZI) (E : ZR) (set : ZI) (ht : (J0 U E && J3 set 0 ((U.length : Int) - 1) && decide (0 < set.length)) = true) : PC Try.prog 215 [.agg [.sl (.ints U), .sl (.rows E)], .sl (.ints set)] (.one (.own 3 (.ints (J9 E set E.length)))) :=
  pc_wf @Try.call215 fun hw => pc_by (by kernel_rfl) Try.func215 @Try.call215 (by kernel_rfl) J4R (J5k U E set) (by kernel_rfl) (J4A U E set ht hw.1.1 hw.1.2.1.1 hw.1.2.1.2 hw.2.1) (by kernel_rfl)
def J2A : List D → Orc := orcN [none, some .ints] fun ds => match ds with
  | [.agg [.sl (.ints U), .sl (.rows E)], .sl (.ints set)] => some (.one (.own 3 (.ints (J9 E set E.length))))
  | _ => none
abbrev J0d (U : ZI) (E : ZR) (set : ZI) (out : ZI) (i : Int) : Prop := (0 ≤ i) ∧ (i ≤ (E.length : Int)) ∧ (out = JP E set i.toNat)
abbrev J0c (U : ZI) (E : ZR) (set : ZI) (out : ZI) (i : Int) : Nat := (E.length - i).toNat
def J4F (f : FuncId) (ds : List D) : Orc := bif Nat.beq f 215 then J2A ds else .no
def J4E (U : ZI) (E : ZR) (set : ZI) : Ann := .two (.none) (.two (.none) (.two (.two (.none) (.loop (cut2 (fun (out : ZI) (i : Int) => J0d U E set out i) (fun (out : ZI) (i : Int) => [(2, .ptr 2 0), (5, .own 1000000 out.length), (11, .own 11 ((J9 E set E.length).length)), (12, .d true (.int .i64 (((J9 E set E.length).length) : Int))), (13, .d true (.int .i64 i))]) (fun (out : ZI) (i : Int) => [(1000000, .arr true 3 (.ints out)), (2, .box 39 [.d false (.sl (.ints U)), .d false (.sl (.rows E))]), (11, .arr true 3 (.ints (J9 E set E.length)))])) (fun g => J0c U E set g.1 g.2) (fun _ => .none))) (.none)))
def J2O (U : ZI) (E : ZR) (set : ZI) : Prop :=
  (PC Try.prog 215 [.agg [.sl (.ints U), .sl (.rows E)], .sl (.ints set)] (.one (.own 3 (.ints (J9 E set E.length))))) ∧ ((∃ out' : ZI, ∃ i' : Int, (J0d U E set out' i') ∧ ((0 : Nat) = out'.length) ∧ ((J9 E set E.length).length = (J9 E set E.length).length) ∧ ((((J9 E set E.length).length) : Int) = (((J9 E set E.length).length) : Int)) ∧ ((0 : Int) = i') ∧ ([] = out') ∧ (U = U) ∧ (E = E) ∧ (J9 E set E.length = J9 E set E.length)) ∧ (∀ out : ZI, ∀ i : Int, (J0d U E set out i) → (((decide (i < (((J9 E set E.length).length) : Int))) = true → ((0 : Int) ≤ i) ∧ ((i : Int) < (((J9 E set E.length).length) : Int)) ∧ (i.toNat < (J9 E set E.length).length) ∧ ((0 : Int) ≤ i) ∧ ((i : Int) < E.length) ∧ (i.toNat < E.length) ∧ ((0 : Int) ≤ ((J9 E set E.length).getD i.toNat 0)) ∧ ((((J9 E set E.length).getD i.toNat 0) : Int) < (E.getD i.toNat []).length) ∧ (((J9 E set E.length).getD i.toNat 0).toNat < (E.getD i.toNat []).length) ∧ (out.length = out.length) ∧ ((1 : Nat) = 1) ∧ ((out.length + 1) * 8 ≤ 140737488355328) ∧ (I6 (i + 1)) ∧ (∃ out' : ZI, ∃ i' : Int, (J0d U E set out' i') ∧ (J0c U E set out' i' < J0c U E set out i) ∧ ((out.length + 1) = out'.length) ∧ ((J9 E set E.length).length = (J9 E set E.length).length) ∧ ((((J9 E set E.length).length) : Int) = (((J9 E set E.length).length) : Int)) ∧ ((i + 1) = i') ∧ ((out ++ [((E.getD i.toNat []).getD (((J9 E set E.length).getD i.toNat 0).toNat) 0)]) = out') ∧ (U = U) ∧ (E = E) ∧ (J9 E set E.length = J9 E set E.length))) ∧ ((decide (i < (((J9 E set E.length).length) : Int))) = false → ((out.length = out.length) ∧ ((out : ZI) = JP E set E.length))))))
theorem J4d (U : ZI) (E : ZR) (set : ZI) (ht : (J0 U E && J3 set 0 ((U.length : Int) - 1) && decide (0 < set.length)) = true) (w_Open : (U.length : Int) ≤ 9223372036854775807) (w_Dist : (E.length : Int) ≤ 9223372036854775807) (v_Dist : ∀ x9 ∈ E, (x9.length : Int) ≤ 9223372036854775807) (w_set : (set.length : Int) ≤ 9223372036854775807) : J2O U E set := by
  unfold J2O
  obtain ⟨hg, hs, hp⟩ := Jb ht
  obtain ⟨g1, g2, g3⟩ := Jc hg
  have cs := fun k => Ji hs k
  have si := fun (i : Nat) (hi : i < E.length) => J0P (row := E.getD i []) (set := set) (n := (U.length : Int)) (fun k hk => by have := cs k hk; omega) hp set.length (Nat.le_refl _)
  have e0 := JQ E set E.length
  refine ⟨?_, ?_, ?_⟩
  ·refine J2L U E set ?_
   ·omega
  ·refine ⟨([]), 0, ?_⟩
   refine ⟨?_, rfl, rfl, rfl, rfl, ?_, rfl, rfl, rfl⟩
   ·refine ⟨?_, ?_, ?_⟩
    ·omega
    ·omega
    ·rfl
   rfl
  intro out i hJ
  obtain ⟨h1, h2, h3⟩ := hJ
  refine ⟨?_, ?_⟩
  ·intro b1
   try simp only [nrmT] at b1
   refine ⟨?_, ?_, ?_, ?_, ?_, ?_, ?_, ?_, ?_, rfl, rfl, ?_, ?_, ?_⟩
   ·omega
   ·omega
   ·omega
   ·omega
   ·omega
   ·omega
   ·rw [JH _ _ _ _ (by omega)]; obtain ⟨rl, rb⟩ := Jo (i := i.toNat) hg (by omega); have := si i.toNat (by omega); omega
   ·rw [JH _ _ _ _ (by omega)]; obtain ⟨rl, rb⟩ := Jo (i := i.toNat) hg (by omega); have := si i.toNat (by omega); omega
   ·rw [JH _ _ _ _ (by omega)]; obtain ⟨rl, rb⟩ := Jo (i := i.toNat) hg (by omega); have := si i.toNat (by omega); omega
   ·rw [h3, J3w]; omega
   ·omega
   refine ⟨(out ++ [((E.getD i.toNat []).getD (((J9 E set E.length).getD i.toNat 0).toNat) 0)]), (i + 1), ?_⟩
   refine ⟨?_, ?_, ?_, rfl, rfl, rfl, rfl, rfl, rfl, rfl⟩
   ·refine ⟨?_, ?_, ?_⟩
    ·omega
    ·omega
    ·rw [h3, show (i + 1).toNat = i.toNat + 1 by omega, J9i, JH _ _ _ _ (by omega)]; rfl
   ·(simp only [J0c]; omega)
   (simp_all; done)
  intro b2
  try simp only [nrmT] at b2
  refine ⟨rfl, ?_⟩
  ·rw [h3, show i.toNat = E.length by omega]
theorem J48 (U : ZI) (E : ZR) (set : ZI) (ht : (J0 U E && J3 set 0 ((U.length : Int) - 1) && decide (0 < set.length)) = true) : PC Try.prog 210 [.agg [.sl (.ints U), .sl (.rows E)], .sl (.ints set)] (.one (.own 3 (.ints (JP E set E.length)))) :=
  pc_wf @Try.call210 fun hw => pc_by (by kernel_rfl) Try.func210 @Try.call210 (by kernel_rfl) J4F (J4E U E set) (by kernel_rfl) (J4d U E set ht hw.1.1 hw.1.2.1.1 hw.1.2.1.2 hw.2.1) (by kernel_rfl)
def J43 : List D → Orc := orcN [none, some .ints] fun ds => match ds with
  | [.agg [.sl (.ints U), .sl (.rows E)], .sl (.ints set)] => some (.one (.own 3 (.ints (JP E set E.length))))
  | _ => none
theorem JS {row set : ZI} (hp : 0 < set.length) : ∀ k, k ≤ set.length → Ja row set k ∈ set
  | 0, _ => getD_mem hp
  | k + 1, hk => by
    rw [J00]
    unfold J1u
    split
    · exact getD_mem (by omega)
    exact JS hp k (by omega)
theorem JZ {xs : ZI} {lo hi : Int} (h : J3 xs lo hi = true) {i : Nat} : ∀ {j : Nat}, i < j → j < xs.length → xs.getD i 0 < xs.getD j 0
  | 0, hi, _ => by omega
  | j + 1, hi, hj => by
    have h1 := allTo_iff.1 h (j + 1) hj
    simp only [J1a, Bool.and_eq_true, Bool.or_eq_true, decide_eq_true_eq, Nat.add_sub_cancel] at h1
    have h2 := h1.2
    by_cases e : i = j
    · subst e; omega
    have := JZ h (i := i) (j := j) (by omega) (by omega)
    omega
theorem J0Q {set : ZI} {s : Int} (h : s ∈ set) : 0 ≤ idxI (fun y => s == y) set ∧ idxI (fun y => s == y) set < set.length ∧ set.getD (idxI (fun y => s == y) set).toNat 0 = s := by
  unfold idxI
  cases hf : set.findIdx? (fun y => s == y) with
  | none =>
    have := List.findIdx?_eq_none_iff.1 hf s h
    simp at this
  | some k =>
    obtain ⟨hk, hp, _⟩ := List.findIdx?_eq_some_iff_getElem.1 hf
    have e : set[k] = s := (by simpa using hp : s = set[k]).symm
    refine ⟨by simp, by simpa using hk, ?_⟩
    simp [hk, e]
def J9s (f : FuncId) (ds : List D) : Orc := .no
def J97 (a : Int) (b : Int) : Ann := .none
def J5J (a : Int) (b : Int) : Prop :=
  (((decide (a > b)) = true → ((a = (max a b)))) ∧ ((decide (a > b)) = false → ((b = (max a b)))))
theorem J8f (a : Int) (b : Int)   : J5J a b := by
  unfold J5J
  refine ⟨?_, ?_⟩
  ·intro b1
   try simp only [nrmT] at b1
   omega
  intro b2
  try simp only [nrmT] at b2
  omega
theorem J8l (a : Int) (b : Int)  : PC Try.prog 152 [.int .i64 a, .int .i64 b] (.one (.d (.int .i64 (max a b)))) :=
  pc_wf @Try.call152 fun _ => pc_by (by kernel_rfl) Try.func152 @Try.call152 (by kernel_rfl) J9s (J97 a b) (by kernel_rfl) (J8f a b) (by kernel_rfl)
def J85 : List D → Orc := orcN [none, none] fun ds => match ds with
  | [.int .i64 a, .int .i64 b] => some (.one (.d (.int .i64 (max a b))))
  | _ => none
theorem J0x (f : Nat → Int) (n : Nat) : Jk f (n + 1) = Jk f n + f n := rfl
theorem J3O {xs : ZI} {lo hi : Int} (h : J3 xs lo hi = true) : Asc xs := by
  refine List.pairwise_iff_getElem.2 fun i j hi hj hij => ?_
  have := JZ h hij hj
  rwa [JR hi, JR hj] at this
def Jac (n : Nat) : ZI := members (fun _ => true) n
theorem J9y {n : Nat} : members (fun k => (2 ^ n - 1).testBit k) n = Jac n :=
  members_congr fun k hk => by simp [Nat.testBit_two_pow_sub_one, hk]
abbrev J0T (n : Int) (code : Int) (out : ZI) (x : Int) : Prop := (0 ≤ x) ∧ (x ≤ n) ∧ (out = members (fun k => code.toNat.testBit k) x.toNat)
abbrev J03 (n : Int) (code : Int) (out : ZI) (x : Int) : Nat := (n - x).toNat
def J9a (f : FuncId) (ds : List D) : Orc := .no
def J93 (n : Int) (code : Int) : Ann := .two (.none) (.two (.none) (.two (.two (.none) (.loop (cut2 (fun (out : ZI) (x : Int) => J0T n code out x) (fun (out : ZI) (x : Int) => [(0, .d false (.int .i64 n)), (1, .d false (.int .i64 code)), (5, .own 1000000 out.length), (6, .d true (.int .i64 x))]) (fun (out : ZI) (x : Int) => [(1000000, .arr true 3 (.ints out))])) (fun g => J03 n code g.1 g.2) (fun _ => .none))) (.none)))
def J5P (n : Int) (code : Int) : Prop :=
  ((∃ out' : ZI, ∃ x' : Int, (J0T n code out' x') ∧ (n = n) ∧ (code = code) ∧ ((0 : Nat) = out'.length) ∧ ((0 : Int) = x') ∧ ([] = out')) ∧ (∀ out : ZI, ∀ x : Int, (J0T n code out x) → (((decide (x < n)) = true → ((0 : Int) ≤ code ∧ (code : Int) ≤ 9223372036854775807) ∧ ((0 : Int) ≤ x) ∧ ((0 : Int) ≤ (code / 2 ^ x.toNat) ∧ ((code / 2 ^ x.toNat) : Int) ≤ 9223372036854775807) ∧ ((0 : Int) ≤ 1 ∧ (1 : Int) ≤ 9223372036854775807) ∧ ((((((code / 2 ^ x.toNat).toNat &&& 1 : Nat) : Int) == 1) = true → (out.length = out.length) ∧ ((1 : Nat) = 1) ∧ ((out.length + 1) * 8 ≤ 140737488355328) ∧ (I6 (x + 1)) ∧ (∃ out' : ZI, ∃ x' : Int, (J0T n code out' x') ∧ (J03 n code out' x' < J03 n code out x) ∧ (n = n) ∧ (code = code) ∧ ((out.length + 1) = out'.length) ∧ ((x + 1) = x') ∧ ((out ++ [x]) = out'))) ∧ (((((code / 2 ^ x.toNat).toNat &&& 1 : Nat) : Int) == 1) = false → (I6 (x + 1)) ∧ (∃ out' : ZI, ∃ x' : Int, (J0T n code out' x') ∧ (J03 n code out' x' < J03 n code out x) ∧ (n = n) ∧ (code = code) ∧ (out.length = out'.length) ∧ ((x + 1) = x') ∧ (out = out'))))) ∧ ((decide (x < n)) = false → ((out.length = out.length) ∧ ((out : ZI) = (members (fun k => code.toNat.testBit k) n.toNat)))))))
theorem J8m (n : Int) (code : Int) (hn : 0 ≤ n ∧ n ≤ 62) (hc : 0 ≤ code ∧ code ≤ 4611686018427387903)  : J5P n code := by
  unfold J5P
  refine ⟨?_, ?_⟩
  ·refine ⟨([]), 0, ?_⟩
   refine ⟨?_, rfl, rfl, rfl, rfl, ?_⟩
   ·refine ⟨?_, ?_, ?_⟩
    ·omega
    ·omega
    ·rfl
   rfl
  intro out x hJ
  obtain ⟨h1, h2, h3⟩ := hJ
  refine ⟨?_, ?_⟩
  ·intro b1
   try simp only [nrmT] at b1
   refine ⟨?_, ?_, ?_, ?_, ?_, ?_⟩
   ·omega
   ·omega
   ·have h5 : 0 ≤ code / 2 ^ x.toNat := Int.ediv_nonneg hc.1 (Int.le_of_lt (Int.pow_pos (by omega)))
    have h6 : code / 2 ^ x.toNat ≤ code := Int.ediv_le_self _ hc.1
    omega
   ·omega
   ·intro b2
    try simp only [nrmT] at b2
    refine ⟨rfl, rfl, ?_, ?_, ?_⟩
    ·rw [h3]; have := members_len_le (fun k => code.toNat.testBit k) x.toNat; omega
    ·omega
    refine ⟨(out ++ [x]), (x + 1), ?_⟩
    refine ⟨?_, ?_, rfl, rfl, ?_, rfl, rfl⟩
    ·refine ⟨?_, ?_, ?_⟩
     ·omega
     ·omega
     ·have hb := shr_bit (n := code.toNat) (k := x.toNat)
      rw [show ((code.toNat : Nat) : Int) = code by omega] at hb
      have ht : code.toNat.testBit x.toNat = true := by
        cases h : code.toNat.testBit x.toNat with
        | true => rfl
        | false => rw [h] at hb; simp at hb; simp at b2; omega
      rw [h3, show (x + 1).toNat = x.toNat + 1 by omega, members_succ, if_pos ht, show ((x.toNat : Nat) : Int) = x by omega]
    ·(simp only [J03]; omega)
    simp
   intro b3
   try simp only [nrmT] at b3
   refine ⟨?_, ?_⟩
   ·omega
   refine ⟨out, (x + 1), ?_⟩
   refine ⟨?_, ?_, rfl, rfl, rfl, rfl, rfl⟩
   ·refine ⟨?_, ?_, ?_⟩
    ·omega
    ·omega
    ·have hb := shr_bit (n := code.toNat) (k := x.toNat)
     rw [show ((code.toNat : Nat) : Int) = code by omega] at hb
     have ht : code.toNat.testBit x.toNat = false := by
       cases h : code.toNat.testBit x.toNat with
       | false => rfl
       | true => rw [h] at hb; simp at hb; simp at b3; omega
     rw [h3, show (x + 1).toNat = x.toNat + 1 by omega, members_succ, ht]; simp
   (simp only [J03]; omega)
  intro b4
  try simp only [nrmT] at b4
  refine ⟨rfl, ?_⟩
  ·rw [h3, show x.toNat = n.toNat by omega]
theorem J8F (n : Int) (code : Int) (hn : 0 ≤ n ∧ n ≤ 62) (hc : 0 ≤ code ∧ code ≤ 4611686018427387903) : PC Try.prog 164 [.int .i64 n, .int .i64 code] (.one (.d (.sl (.ints (members (fun k => code.toNat.testBit k) n.toNat))))) :=
  pc_wf @Try.call164 fun _ => pc_by (by kernel_rfl) Try.func164 @Try.call164 (by kernel_rfl) J9a (J93 n code) (by kernel_rfl) (J8m n code hn hc) (by kernel_rfl)
def J7U : List D → Orc := orcN [none, none] fun ds => match ds with
  | [.int .i64 n, .int .i64 code] => some (.one (.d (.sl (.ints (members (fun k => code.toNat.testBit k) n.toNat)))))
  | _ => none
def J51 (f : FuncId) (ds : List D) : Orc := bif Nat.beq f 119 then J2J ds else bif Nat.beq f 120 then J0C ds else .no
def J54 (U : ZI) (E : ZR) (k : Int) : Ann := .none
def J3a (U : ZI) (E : ZR) (k : Int) : Prop :=
  (PC Try.prog 119 [.agg [.sl (.ints U), .sl (.rows E)]] (.one (.d (.bool (J0 U E))))) ∧ ((J0 U E) = true → (J0 U E) = true) ∧ ((J0 U E) = true → (J0 U E) = true) ∧ ((J0 U E) = true → (J0 U E) = true) ∧ ((J0 U E) = true → (J0 U E) = true) ∧ ((J0 U E) = true → PC Try.prog 120 [.int .i64 k, .int .i64 1, .int .i64 (U.length : Int)] (.one (.d (.bool (inB k 1 (U.length : Int)))))) ∧ (true = true) ∧ (((J0 U E) = true → (J0 U E) = true)) ∧ (((J0 U E) = false → true = true)) ∧ (((cond (J0 U E) (inB k 1 (U.length : Int)) false) = (J0 U E && inB k 1 (U.length : Int))))
theorem J4y (U : ZI) (E : ZR) (k : Int)  (w_Open : (U.length : Int) ≤ 9223372036854775807) (w_Dist : (E.length : Int) ≤ 9223372036854775807) (v_Dist : ∀ x9 ∈ E, (x9.length : Int) ≤ 9223372036854775807) : J3a U E k := by
  unfold J3a
  refine ⟨J3c U E, id, id, id, id, fun _ => J0R k 1 (U.length : Int), rfl, id, fun _ => rfl, ?_⟩
  ·cases J0 U E <;> rfl
theorem J2P (U : ZI) (E : ZR) (k : Int)  : PC Try.prog 141 [.agg [.sl (.ints U), .sl (.rows E)], .int .i64 k] (.one (.d (.bool (J0 U E && inB k 1 (U.length : Int))))) :=
  pc_wf @Try.call141 fun hw => pc_by (by kernel_rfl) Try.func141 @Try.call141 (by kernel_rfl) J51 (J54 U E k) (by kernel_rfl) (J4y U E k hw.1.1 hw.1.2.1.1 hw.1.2.1.2) (by kernel_rfl)
def J2B : List D → Orc := orcN [none, none] fun ds => match ds with
  | [.agg [.sl (.ints U), .sl (.rows E)], .int .i64 k] => some (.one (.d (.bool (J0 U E && inB k 1 (U.length : Int)))))
  | _ => none
theorem J9B : ∀ (n : Nat) (out : ZI), (∀ i, i < n → (i : Int) ∈ out) → n ≤ out.length
  | 0, _, _ => Nat.zero_le _
  | n + 1, out, h => by
    have h1 := h n (Nat.lt_succ_self n)
    have h2 := J9B n (out.erase (n : Int)) fun i hi => (List.mem_erase_of_ne (by omega)).2 (h i (by omega))
    rw [List.length_erase_of_mem h1] at h2
    have := List.length_pos_of_mem h1
    omega
theorem J9r {out : ZI} {n : Nat} (ho : ∀ i, i < n → out.contains (i : Int) = true) : n ≤ out.length :=
  J9B n out fun i hi => List.contains_iff_mem.1 (ho i hi)
def J0e (a b : Int) : Int := if a < b then -1 else if a > b then 1 else 0
def Jl : ZI → ZI → Int
  | [], [] => 0
  | [], _ :: _ => -1
  | _ :: _, [] => 1
  | x :: r, y :: s => if x < y then -1 else if x > y then 1 else Jl r s
theorem J3m {xs ys : ZI} {i : Nat} (h : Jl xs ys = Jl (xs.drop i) (ys.drop i)) (h1 : i < xs.length) (h2 : i < ys.length) :
    Jl xs ys = if xs.getD i 0 < ys.getD i 0 then -1 else if xs.getD i 0 > ys.getD i 0 then 1 else Jl (xs.drop (i + 1)) (ys.drop (i + 1)) := by
  rw [h, List.drop_eq_getElem_cons h1, List.drop_eq_getElem_cons h2, JR h1, JR h2]
  rfl
theorem J9o {xs ys : ZI} {i : Nat} (h : Jl xs ys = Jl (xs.drop i) (ys.drop i)) (h1 : i < xs.length) (h2 : ys.length ≤ i) : Jl xs ys = 1 := by
  rw [h, List.drop_eq_getElem_cons h1, List.drop_eq_nil_of_le h2]
  rfl
theorem J5b {xs ys : ZI} {i : Nat} (h : Jl xs ys = Jl (xs.drop i) (ys.drop i)) (h1 : xs.length ≤ i) (h2 : i ≤ ys.length) (h3 : i = xs.length) : Jl xs ys = if xs.length < ys.length then -1 else 0 := by
  rw [h, List.drop_eq_nil_of_le h1]
  by_cases e : xs.length < ys.length
  · rw [if_pos e, List.drop_eq_getElem_cons (by omega)]
    rfl
  rw [if_neg e, List.drop_eq_nil_of_le (by omega)]
  rfl
def J4Y (f : FuncId) (ds : List D) : Orc := .no
def J5g (x : Int) : Ann := .none
def J37 (x : Int) : Prop :=
  (((x != x) = false))
theorem J4H (x : Int)   : J37 x := by
  unfold J37
  simp
theorem J0s (x : Int)  : PC Try.prog 231 [.int .i64 x] (.one (.d (.bool false))) :=
  pc_wf @Try.call231 fun _ => pc_by (by kernel_rfl) Try.func231 @Try.call231 (by kernel_rfl) J4Y (J5g x) (by kernel_rfl) (J4H x) (by kernel_rfl)
def J2t : List D → Orc := orcN [none] fun ds => match ds with
  | [.int .i64 x] => some (.one (.d (.bool false)))
  | _ => none
def J4h (f : FuncId) (ds : List D) : Orc := bif Nat.beq f 231 then J2t ds else .no
def J4e (a : Int) (b : Int) : Ann := .two (.none) (.two (.none) (.two (.none) (.two (.two (.none) (.goF (.none))) (.two (.two (.none) (.goF (.none))) (.none)))))
def J2x (a : Int) (b : Int) : Prop :=
  (PC Try.prog 231 [.int .i64 a] (.one (.d (.bool false)))) ∧ (PC Try.prog 231 [.int .i64 b] (.one (.d (.bool false)))) ∧ (false = false) ∧ (false = false) ∧ (((decide (a < b)) = true → ((((-1) : Int) = (J0e a b)))) ∧ ((decide (a < b)) = false → (((decide (a > b)) = true → (((1 : Int) = (J0e a b)))) ∧ ((decide (a > b)) = false → (((0 : Int) = (J0e a b)))))))
theorem J41 (a : Int) (b : Int)   : J2x a b := by
  unfold J2x
  refine ⟨J0s a, J0s b, rfl, rfl, ?_, ?_⟩
  ·intro b1
   try simp only [nrmT] at b1
   unfold J0e; first | rw [if_pos (by omega)] | rw [if_neg (by omega), if_pos (by omega)] | rw [if_neg (by omega), if_neg (by omega)]
  intro b2
  try simp only [nrmT] at b2
  refine ⟨?_, ?_⟩
  ·intro b3
   try simp only [nrmT] at b3
   unfold J0e; first | rw [if_pos (by omega)] | rw [if_neg (by omega), if_pos (by omega)] | rw [if_neg (by omega), if_neg (by omega)]
  intro b4
  try simp only [nrmT] at b4
  unfold J0e; first | rw [if_pos (by omega)] | rw [if_neg (by omega), if_pos (by omega)] | rw [if_neg (by omega), if_neg (by omega)]
theorem J2d (a : Int) (b : Int)  : PC Try.prog 235 [.int .i64 a, .int .i64 b] (.one (.d (.int .i64 (J0e a b)))) :=
  pc_wf @Try.call235 fun _ => pc_by (by kernel_rfl) Try.func235 @Try.call235 (by kernel_rfl) J4h (J4e a b) (by kernel_rfl) (J41 a b) (by kernel_rfl)
def J1V : List D → Orc := orcN [none, none] fun ds => match ds with
  | [.int .i64 a, .int .i64 b] => some (.one (.d (.int .i64 (J0e a b))))
  | _ => none
abbrev JE (xs : ZI) (ys : ZI) (i : Int) : Prop := (0 ≤ i) ∧ (i ≤ (xs.length : Int)) ∧ (i ≤ (ys.length : Int)) ∧ (Jl xs ys = Jl (xs.drop i.toNat) (ys.drop i.toNat))
abbrev JF (xs : ZI) (ys : ZI) (i : Int) : Nat := (xs.length - i).toNat
def J2X (f : FuncId) (ds : List D) : Orc := bif Nat.beq f 235 then J1V ds else .no
def J2W (xs : ZI) (ys : ZI) : Ann := .two (.none) (.two (.two (.none) (.loop (cut1 (fun (i : Int) => JE xs ys i) (fun (i : Int) => [(0, .d false (.sl (.ints xs))), (1, .d false (.sl (.ints ys))), (9, .d false (.sl (.ints xs))), (10, .d true (.int .i64 (xs.length : Int))), (11, .d true (.int .i64 i))]) (fun (i : Int) => [])) (fun g => JF xs ys g) (fun _ => .none))) (.none))
def J0K (xs : ZI) (ys : ZI) : Prop :=
  ((∃ i' : Int, (JE xs ys i') ∧ (xs = xs) ∧ (ys = ys) ∧ (xs = xs) ∧ ((xs.length : Int) = (xs.length : Int)) ∧ ((0 : Int) = i')) ∧ (∀ i : Int, (JE xs ys i) → (((decide (i < (xs.length : Int))) = true → ((0 : Int) ≤ i) ∧ ((i : Int) < xs.length) ∧ (i.toNat < xs.length) ∧ (((decide (i ≥ (ys.length : Int))) = true → (((1 : Int) = (Jl xs ys)))) ∧ ((decide (i ≥ (ys.length : Int))) = false → ((0 : Int) ≤ i) ∧ ((i : Int) < ys.length) ∧ (i.toNat < ys.length) ∧ (PC Try.prog 235 [.int .i64 (xs.getD i.toNat 0), .int .i64 (ys.getD i.toNat 0)] (.one (.d (.int .i64 (J0e (xs.getD i.toNat 0) (ys.getD i.toNat 0)))))) ∧ ((((J0e (xs.getD i.toNat 0) (ys.getD i.toNat 0)) != 0) = true → (((J0e (xs.getD i.toNat 0) (ys.getD i.toNat 0)) = (Jl xs ys)))) ∧ (((J0e (xs.getD i.toNat 0) (ys.getD i.toNat 0)) != 0) = false → (I6 (i + 1)) ∧ (∃ i' : Int, (JE xs ys i') ∧ (JF xs ys i' < JF xs ys i) ∧ (xs = xs) ∧ (ys = ys) ∧ (xs = xs) ∧ ((xs.length : Int) = (xs.length : Int)) ∧ ((i + 1) = i'))))))) ∧ ((decide (i < (xs.length : Int))) = false → (((decide ((xs.length : Int) < (ys.length : Int))) = true → ((((-1) : Int) = (Jl xs ys)))) ∧ ((decide ((xs.length : Int) < (ys.length : Int))) = false → (((0 : Int) = (Jl xs ys)))))))))
theorem J2F (xs : ZI) (ys : ZI)  (w_xs : (xs.length : Int) ≤ 9223372036854775807) (w_ys : (ys.length : Int) ≤ 9223372036854775807) : J0K xs ys := by
  unfold J0K
  refine ⟨?_, ?_⟩
  ·refine ⟨0, ?_⟩
   refine ⟨?_, rfl, rfl, rfl, rfl, rfl⟩
   ·refine ⟨?_, ?_, ?_, ?_⟩
    ·omega
    ·omega
    ·omega
    ·rfl
  intro i hJ
  obtain ⟨h1, h2, h2y, h3⟩ := hJ
  refine ⟨?_, ?_⟩
  ·intro b1
   try simp only [nrmT] at b1
   refine ⟨?_, ?_, ?_, ?_, ?_⟩
   ·omega
   ·omega
   ·omega
   ·intro b2
    try simp only [nrmT] at b2
    exact (J9o h3 (by omega) (by omega)).symm
   intro b3
   try simp only [nrmT] at b3
   refine ⟨?_, ?_, ?_, J2d (xs.getD i.toNat 0) (ys.getD i.toNat 0), ?_, ?_⟩
   ·omega
   ·omega
   ·omega
   ·intro b4
    try simp only [nrmT] at b4
    rw [J3m h3 (by omega) (by omega)]
    unfold J0e at b4 ⊢
    by_cases h5 : xs.getD i.toNat 0 < ys.getD i.toNat 0
    · rw [if_pos h5, if_pos h5]
    rw [if_neg h5] at b4 ⊢
    by_cases h6 : xs.getD i.toNat 0 > ys.getD i.toNat 0
    · rw [if_pos h6, if_neg h5, if_pos h6]
    rw [if_neg h6] at b4; omega
   intro b5
   try simp only [nrmT] at b5
   refine ⟨?_, ?_⟩
   ·omega
   refine ⟨(i + 1), ?_⟩
   refine ⟨?_, ?_, rfl, rfl, rfl, rfl, rfl⟩
   ·refine ⟨?_, ?_, ?_, ?_⟩
    ·omega
    ·omega
    ·omega
    ·have h7 := J3m h3 (by omega) (by omega)
     unfold J0e at b5
     rw [h7, show (i + 1).toNat = i.toNat + 1 by omega]
     by_cases h5 : xs.getD i.toNat 0 < ys.getD i.toNat 0
     · rw [if_pos h5] at b5; omega
     rw [if_neg h5] at b5 ⊢
     by_cases h6 : xs.getD i.toNat 0 > ys.getD i.toNat 0
     · rw [if_pos h6] at b5; omega
     rw [if_neg h6]
   (simp only [JF]; omega)
  intro b6
  try simp only [nrmT] at b6
  refine ⟨?_, ?_⟩
  ·intro b7
   try simp only [nrmT] at b7
   rw [J5b h3 (by omega) (by omega) (by omega), if_pos (by omega)]
  intro b8
  try simp only [nrmT] at b8
  rw [J5b h3 (by omega) (by omega) (by omega), if_neg (by omega)]
theorem J2K (xs : ZI) (ys : ZI)  : PC Try.prog 236 [.sl (.ints xs), .sl (.ints ys)] (.one (.d (.int .i64 (Jl xs ys)))) :=
  pc_wf @Try.call236 fun hw => pc_by (by kernel_rfl) Try.func236 @Try.call236 (by kernel_rfl) J2X (J2W xs ys) (by kernel_rfl) (J2F xs ys hw.1 hw.2.1) (by kernel_rfl)
def J2C : List D → Orc := orcN [some .ints, some .ints] fun ds => match ds with
  | [.sl (.ints xs), .sl (.ints ys)] => some (.one (.d (.int .i64 (Jl xs ys))))
  | _ => none
def lst (n code : Nat) : ZI := members (fun k => code.testBit k) n
theorem JaX {n code : Nat} : ∀ x ∈ lst n code, 0 ≤ x ∧ x < (n : Int) := fun x hx => by
  have := mem_members.1 hx
  omega
theorem JaG {n code : Nat} : (lst n code).length ≤ n := members_len_le _ _
theorem J8Q (n : Nat) : (1 : Int) * 2 ^ ((n : Int)).toNat = ((2 ^ n : Nat) : Int) := by
  rw [Int.toNat_natCast]; simp
theorem Ja7 (n : Nat) : (Jac n).length = n := by
  unfold Jac members
  have e : (List.range n).filter (fun _ => true) = List.range n := List.filter_eq_self.2 fun _ _ => rfl
  rw [e]; simp
def J1P (xs : ZI) : Bool := allTo (fun k => decide (xs.getD k 0 ≤ xs.getD (k + 1) 0)) (xs.length - 1)
theorem JaP {xs : ZI} {i : Int} (h1 : 0 < i) (h2 : i < (xs.length : Int)) (h : xs.getD i.toNat 0 < xs.getD (i - 1).toNat 0) : J1P xs = false := by
  unfold J1P
  refine allTo_false (k := (i - 1).toNat) (by omega) ?_
  rw [show (i - 1).toNat + 1 = i.toNat by omega]
  exact decide_eq_false (by omega)
theorem Jah {xs : ZI} {i : Int} (h1 : i ≤ 0) (h : ∀ k : Nat, i ≤ (k : Int) → k + 1 < xs.length → xs.getD k 0 ≤ xs.getD (k + 1) 0) : J1P xs = true :=
  allTo_iff.2 fun k hk => decide_eq_true (h k (by omega) (by omega))
def J1t (c : ZI) (k : Nat) : Bool := inB (c.getD k 0) 0 99 && (decide (k = 0) || !(decide (c.getD (k - 1) 0 > c.getD k 0)))
def J4 (sites clients : ZI) : Bool := allTo (J1t clients) clients.length && (inB (sites.length : Int) 1 7 && J3 sites 0 99 && decide (clients.length ≤ 7))
theorem Ja3 {c : ZI} : allTo (J1t c) c.length = (c.all (fun x => inB x 0 99) && J1P c) := by
  rw [Bool.eq_iff_iff, allTo_iff, Bool.and_eq_true, ← allTo_list (d := 0), allTo_iff, J1P, allTo_iff]
  constructor
  · intro h
    refine ⟨fun k hk => ?_, fun k hk => ?_⟩
    · have := h k hk
      rw [J1t, Bool.and_eq_true] at this
      exact this.1
    have := h (k + 1) (by omega)
    rw [J1t, Bool.and_eq_true, decide_eq_false (by omega), Bool.false_or, Nat.add_sub_cancel, Bool.not_eq_true', decide_eq_false_iff_not] at this
    exact decide_eq_true (by omega)
  rintro ⟨h1, h2⟩ k hk
  rw [J1t, h1 k hk, Bool.true_and]
  by_cases e : k = 0
  · rw [decide_eq_true e]; rfl
  have h3 := h2 (k - 1) (by omega)
  rw [show k - 1 + 1 = k by omega, decide_eq_true_eq] at h3
  rw [decide_eq_false e, decide_eq_false (by omega)]; rfl
theorem J5V {c : ZI} {i : Int} (h : 0 ≤ i) {b : Bool} (hb : (!(inB (c.getD i.toNat 0) 0 99) || (decide (i > 0) && decide (c.getD (i - 1).toNat 0 > c.getD i.toNat 0))) = b) : J1t c i.toNat = !b := by
  rw [← hb, J1t]
  by_cases e : i = 0
  · subst e
    cases inB (c.getD (0 : Int).toNat 0) 0 99 <;> simp
  rw [decide_eq_false (by omega), decide_eq_true (show i > 0 by omega), show (i - 1).toNat = i.toNat - 1 by omega]
  cases inB (c.getD i.toNat 0) 0 99 <;> simp
def J1G (sites : ZI) (c : Int) : ZI := tabTo (fun a => max (c - sites.getD a 0) (sites.getD a 0 - c)) sites.length
def J6 (sites clients : ZI) : ZR := tabTo (fun j => J1G sites (clients.getD j 0)) clients.length
theorem J8j (sites : ZI) (c : Int) : (J1G sites c).length = sites.length := tabTo_len _ _
theorem J3k (sites clients : ZI) : (J6 sites clients).length = clients.length := tabTo_len _ _
theorem J9A {sites clients : ZI} {j : Nat} (h : j < clients.length) : (J6 sites clients).getD j [] = J1G sites (clients.getD j 0) := tabTo_get h
theorem J1 {sites clients : ZI} (h : J4 sites clients = true) : 1 ≤ sites.length ∧ sites.length ≤ 7 ∧ clients.length ≤ 7 ∧ J3 sites 0 99 = true ∧ ∀ k, k < clients.length → 0 ≤ clients.getD k 0 ∧ clients.getD k 0 ≤ 99 := by
  rw [J4, Bool.and_eq_true, Bool.and_eq_true, Bool.and_eq_true, decide_eq_true_eq] at h
  obtain ⟨h1, ⟨h2, h3⟩, h4⟩ := h
  have h5 := J0A h2
  refine ⟨by omega, by omega, h4, h3, fun k hk => ?_⟩
  have h6 := allTo_iff.1 h1 k hk
  rw [J1t, Bool.and_eq_true] at h6
  have := J0A h6.1
  omega
def lfO (sites clients : ZI) : ZI := if J4 sites clients = true then List.replicate sites.length 0 else []
def lfD (sites clients : ZI) : ZR := if J4 sites clients = true then J6 sites clients else []
theorem J1c {sites clients : ZI} (h : J4 sites clients = true) : lfO sites clients = List.replicate sites.length 0 := by rw [lfO, if_pos h]
theorem J1H {sites clients : ZI} (h : J4 sites clients = true) : lfD sites clients = J6 sites clients := by rw [lfD, if_pos h]
theorem J4l {sites clients : ZI} (h : J4 sites clients = false) : lfO sites clients = [] := by rw [lfO, h]; rfl
theorem J4f {sites clients : ZI} (h : J4 sites clients = false) : lfD sites clients = [] := by rw [lfD, h]; rfl
def J5C (f : FuncId) (ds : List D) : Orc := bif Nat.beq f 231 then J2t ds else .no
def J5p (a : Int) (b : Int) : Ann := .none
def J3r (a : Int) (b : Int) : Prop :=
  (PC Try.prog 231 [.int .i64 a] (.one (.d (.bool false)))) ∧ (false = true → false = true) ∧ (false = true → PC Try.prog 231 [.int .i64 b] (.one (.d (.bool false)))) ∧ (false = true → false = true) ∧ (true = true) ∧ ((false = true → false = true)) ∧ ((false = false → true = true)) ∧ ((!(cond false true false)) = true → (!(cond false true false)) = true) ∧ ((!(cond false true false)) = true → (!(cond false true false)) = true) ∧ (true = true) ∧ (((cond false true false) = true → true = true)) ∧ (((cond false true false) = false → (!(cond false true false)) = true)) ∧ (((cond (cond false true false) true (decide (a < b))) = (decide (a < b))))
theorem J5a (a : Int) (b : Int)   : J3r a b := by
  unfold J3r
  refine ⟨J0s a, id, fun _ => J0s b, id, rfl, id, fun _ => rfl, id, id, rfl, fun _ => rfl, ?_, ?_⟩
  ·simp
  simp
theorem J5i (a : Int) (b : Int)  : PC Try.prog 206 [.int .i64 a, .int .i64 b] (.one (.d (.bool (decide (a < b))))) :=
  pc_wf @Try.call206 fun _ => pc_by (by kernel_rfl) Try.func206 @Try.call206 (by kernel_rfl) J5C (J5p a b) (by kernel_rfl) (J5a a b) (by kernel_rfl)
def J4B : List D → Orc := orcN [none, none] fun ds => match ds with
  | [.int .i64 a, .int .i64 b] => some (.one (.d (.bool (decide (a < b)))))
  | _ => none
abbrev JA (xs : ZI) (i : Int) : Prop := (-1 ≤ i) ∧ (i < (xs.length : Int)) ∧ (∀ k : Nat, i ≤ (k : Int) → k + 1 < xs.length → xs.getD k 0 ≤ xs.getD (k + 1) 0)
abbrev Jp (xs : ZI) (i : Int) : Nat := (i + 1).toNat
def J2E (f : FuncId) (ds : List D) : Orc := bif Nat.beq f 206 then J4B ds else .no
def J2H (xs : ZI) : Ann := .two (.none) (.two (.two (.none) (.loop (cut1 (fun (i : Int) => JA xs i) (fun (i : Int) => [(0, .d false (.sl (.ints xs))), (3, .d true (.int .i64 i))]) (fun (i : Int) => [])) (fun g => Jp xs g) (fun _ => .none))) (.none))
def J0B (xs : ZI) : Prop :=
  (I6 ((xs.length : Int) - 1)) ∧ ((∃ i' : Int, (JA xs i') ∧ (xs = xs) ∧ (((xs.length : Int) - 1) = i')) ∧ (∀ i : Int, (JA xs i) → (((decide (i > 0)) = true → (true = true) ∧ ((0 : Int) ≤ i) ∧ ((i : Int) < xs.length) ∧ (i.toNat < xs.length) ∧ (I6 (i - 1)) ∧ ((0 : Int) ≤ (i - 1)) ∧ (((i - 1) : Int) < xs.length) ∧ ((i - 1).toNat < xs.length) ∧ (PC Try.prog 206 [.int .i64 (xs.getD i.toNat 0), .int .i64 (xs.getD ((i - 1).toNat) 0)] (.one (.d (.bool (decide ((xs.getD i.toNat 0) < (xs.getD ((i - 1).toNat) 0))))))) ∧ (((decide ((xs.getD i.toNat 0) < (xs.getD ((i - 1).toNat) 0))) = true → ((false = (J1P xs)))) ∧ ((decide ((xs.getD i.toNat 0) < (xs.getD ((i - 1).toNat) 0))) = false → (I6 (i - 1)) ∧ (∃ i' : Int, (JA xs i') ∧ (Jp xs i' < Jp xs i) ∧ (xs = xs) ∧ ((i - 1) = i'))))) ∧ ((decide (i > 0)) = false → ((true = (J1P xs)))))))
theorem J2y (xs : ZI)  (w_xs : (xs.length : Int) ≤ 9223372036854775807) : J0B xs := by
  unfold J0B
  refine ⟨?_, ?_, ?_⟩
  ·first | omega | rfl | (intro hg; simp only [nrmT] at hg; omega) | (intro g1 g2; simp [g1, g2]; done) | (intro g1; simp at g1 ⊢; simp [g1]; done) | (simp only [nrmT] at *; omega) | (simp at * <;> omega) | (simp_all <;> omega) | (simp_all; done)
  ·refine ⟨((xs.length : Int) - 1), ?_⟩
   refine ⟨?_, rfl, rfl⟩
   ·refine ⟨?_, ?_, ?_⟩
    ·first | omega | rfl | (intro hg; simp only [nrmT] at hg; omega) | (intro g1 g2; simp [g1, g2]; done) | (intro g1; simp at g1 ⊢; simp [g1]; done) | (simp only [nrmT] at *; omega) | (simp at * <;> omega) | (simp_all <;> omega) | (simp_all; done)
    ·first | omega | rfl | (intro hg; simp only [nrmT] at hg; omega) | (intro g1 g2; simp [g1, g2]; done) | (intro g1; simp at g1 ⊢; simp [g1]; done) | (simp only [nrmT] at *; omega) | (simp at * <;> omega) | (simp_all <;> omega) | (simp_all; done)
    ·intro k h4 h5; omega
  intro i hJ
  obtain ⟨h1, h2, h3⟩ := hJ
  refine ⟨?_, ?_⟩
  ·intro b1
   try simp only [nrmT] at b1
   refine ⟨rfl, ?_, ?_, ?_, ?_, ?_, ?_, ?_, J5i (xs.getD i.toNat 0) (xs.getD ((i - 1).toNat) 0), ?_, ?_⟩
   ·first | omega | rfl | (intro hg; simp only [nrmT] at hg; omega) | (intro g1 g2; simp [g1, g2]; done) | (intro g1; simp at g1 ⊢; simp [g1]; done) | (simp only [nrmT] at *; omega) | (simp at * <;> omega) | (simp_all <;> omega) | (simp_all; done)
   ·first | omega | rfl | (intro hg; simp only [nrmT] at hg; omega) | (intro g1 g2; simp [g1, g2]; done) | (intro g1; simp at g1 ⊢; simp [g1]; done) | (simp only [nrmT] at *; omega) | (simp at * <;> omega) | (simp_all <;> omega) | (simp_all; done)
   ·first | omega | rfl | (intro hg; simp only [nrmT] at hg; omega) | (intro g1 g2; simp [g1, g2]; done) | (intro g1; simp at g1 ⊢; simp [g1]; done) | (simp only [nrmT] at *; omega) | (simp at * <;> omega) | (simp_all <;> omega) | (simp_all; done)
   ·first | omega | rfl | (intro hg; simp only [nrmT] at hg; omega) | (intro g1 g2; simp [g1, g2]; done) | (intro g1; simp at g1 ⊢; simp [g1]; done) | (simp only [nrmT] at *; omega) | (simp at * <;> omega) | (simp_all <;> omega) | (simp_all; done)
   ·first | omega | rfl | (intro hg; simp only [nrmT] at hg; omega) | (intro g1 g2; simp [g1, g2]; done) | (intro g1; simp at g1 ⊢; simp [g1]; done) | (simp only [nrmT] at *; omega) | (simp at * <;> omega) | (simp_all <;> omega) | (simp_all; done)
   ·first | omega | rfl | (intro hg; simp only [nrmT] at hg; omega) | (intro g1 g2; simp [g1, g2]; done) | (intro g1; simp at g1 ⊢; simp [g1]; done) | (simp only [nrmT] at *; omega) | (simp at * <;> omega) | (simp_all <;> omega) | (simp_all; done)
   ·first | omega | rfl | (intro hg; simp only [nrmT] at hg; omega) | (intro g1 g2; simp [g1, g2]; done) | (intro g1; simp at g1 ⊢; simp [g1]; done) | (simp only [nrmT] at *; omega) | (simp at * <;> omega) | (simp_all <;> omega) | (simp_all; done)
   ·intro b2
    try simp only [nrmT] at b2
    exact (JaP (by omega) h2 b2).symm
   intro b3
   try simp only [nrmT] at b3
   refine ⟨?_, ?_⟩
   ·first | omega | rfl | (intro hg; simp only [nrmT] at hg; omega) | (intro g1 g2; simp [g1, g2]; done) | (intro g1; simp at g1 ⊢; simp [g1]; done) | (simp only [nrmT] at *; omega) | (simp at * <;> omega) | (simp_all <;> omega) | (simp_all; done)
   refine ⟨(i - 1), ?_⟩
   refine ⟨?_, ?_, rfl, rfl⟩
   ·refine ⟨?_, ?_, ?_⟩
    ·first | omega | rfl | (intro hg; simp only [nrmT] at hg; omega) | (intro g1 g2; simp [g1, g2]; done) | (intro g1; simp at g1 ⊢; simp [g1]; done) | (simp only [nrmT] at *; omega) | (simp at * <;> omega) | (simp_all <;> omega) | (simp_all; done)
    ·first | omega | rfl | (intro hg; simp only [nrmT] at hg; omega) | (intro g1 g2; simp [g1, g2]; done) | (intro g1; simp at g1 ⊢; simp [g1]; done) | (simp only [nrmT] at *; omega) | (simp at * <;> omega) | (simp_all <;> omega) | (simp_all; done)
    ·intro k h4 h5
     by_cases e : i ≤ (k : Int)
     · exact h3 k e h5
     have e1 : k = (i - 1).toNat := by omega
     have e2 : k + 1 = i.toNat := by omega
     rw [e2, e1]
     omega
   first | (show _ < _; omega) | (simp only [Jp]; omega) | (simp only [Jp] at *; simp at *; omega)
  intro b4
  try simp only [nrmT] at b4
  exact (Jah (by omega) h3).symm
theorem J2u (xs : ZI)  : PC Try.prog 132 [.sl (.ints xs)] (.one (.d (.bool (J1P xs)))) :=
  pc_wf @Try.call132 fun hw => pc_by (by kernel_rfl) Try.func132 @Try.call132 (by kernel_rfl) J2E (J2H xs) (by kernel_rfl) (J2y xs hw.1) (by kernel_rfl)
def J2f : List D → Orc := orcN [some .ints] fun ds => match ds with
  | [.sl (.ints xs)] => some (.one (.d (.bool (J1P xs))))
  | _ => none
theorem JG {sites clients : ZI} : J4 sites clients = !(cond (cond (cond (cond (!(inB (sites.length : Int) 1 7)) true (!(J3 sites 0 (100 - 1)))) true (decide ((clients.length : Int) > 7))) true (!(clients.all (fun x => inB x 0 99)))) true (!(J1P clients))) := by
  have d : decide ((clients.length : Int) > 7) = !(decide (clients.length ≤ 7)) := by
    by_cases h : clients.length ≤ 7
    · rw [decide_eq_true h, decide_eq_false (by omega)]; rfl
    rw [decide_eq_false h, decide_eq_true (by omega)]; rfl
  unfold J4
  rw [Ja3, d, show (100 - 1 : Int) = 99 from rfl]
  cases clients.all (fun x => inB x 0 99) <;> cases J1P clients <;> cases inB (sites.length : Int) 1 7 <;> cases J3 sites 0 99 <;> cases decide (clients.length ≤ 7) <;> rfl
theorem J8I {sites : ZI} {c : Int} {a : Nat} (h : a < sites.length) : (J1G sites c).getD a 0 = max (c - sites.getD a 0) (sites.getD a 0 - c) := tabTo_get h
abbrev J22 (sites : ZI) (clients : ZI) (i : Int) : Prop := (0 ≤ i) ∧ (i ≤ (clients.length : Int)) ∧ (allTo (J1t clients) i.toNat = true)
abbrev J0N (sites : ZI) (clients : ZI) (i : Int) : Nat := (clients.length - i).toNat
def J91 (f : FuncId) (ds : List D) : Orc := bif Nat.beq f 116 then J10 ds else bif Nat.beq f 167 then J3L ds else .no
def J9n (sites : ZI) (clients : ZI) : Ann := .two (.none) (.two (.two (.none) (.loop (cut1 (fun (i : Int) => J22 sites clients i) (fun (i : Int) => [(0, .d false (.sl (.ints sites))), (1, .d false (.sl (.ints clients))), (5, .d true (.int .i64 i))]) (fun (i : Int) => [])) (fun g => J0N sites clients g) (fun _ => .none))) (.none))
def J3z (clients : ZI) (i : Int) : Bool := (cond (!(inB (clients.getD i.toNat 0) 0 99)) true (cond (decide (i > 0)) (decide ((clients.getD ((i - 1).toNat) 0) > (clients.getD i.toNat 0))) false))
def J61 (sites : ZI) (clients : ZI) : Prop :=
  ((∃ i' : Int, (J22 sites clients i') ∧ (sites = sites) ∧ (clients = clients) ∧ ((0 : Int) = i')) ∧ (∀ i : Int, (J22 sites clients i) → (((decide (i < (clients.length : Int))) = true → (true = true) ∧ ((0 : Int) ≤ i) ∧ ((i : Int) < clients.length) ∧ (i.toNat < clients.length) ∧ (PC Try.prog 116 [.int .i64 (clients.getD i.toNat 0), .int .i64 0, .int .i64 99] (.one (.d (.bool (inB (clients.getD i.toNat 0) 0 99))))) ∧ ((!(!(inB (clients.getD i.toNat 0) 0 99))) = true → (!(!(inB (clients.getD i.toNat 0) 0 99))) = true) ∧ ((!(!(inB (clients.getD i.toNat 0) 0 99))) = true → (!(!(inB (clients.getD i.toNat 0) 0 99))) = true) ∧ (((!(!(inB (clients.getD i.toNat 0) 0 99))) && (decide (i > 0))) = true → ((!(!(inB (clients.getD i.toNat 0) 0 99))) && (decide (i > 0))) = true) ∧ ((((!(!(inB (clients.getD i.toNat 0) 0 99))) && (decide (i > 0))) = true → I6 (i - 1))) ∧ (((!(!(inB (clients.getD i.toNat 0) 0 99))) && (decide (i > 0))) = true → ((!(!(inB (clients.getD i.toNat 0) 0 99))) && (decide (i > 0))) = true) ∧ (((!(!(inB (clients.getD i.toNat 0) 0 99))) && (decide (i > 0))) = true → ((!(!(inB (clients.getD i.toNat 0) 0 99))) && (decide (i > 0))) = true) ∧ ((((!(!(inB (clients.getD i.toNat 0) 0 99))) && (decide (i > 0))) = true → (0 : Int) ≤ (i - 1))) ∧ ((((!(!(inB (clients.getD i.toNat 0) 0 99))) && (decide (i > 0))) = true → ((i - 1) : Int) < clients.length)) ∧ (((!(!(inB (clients.getD i.toNat 0) 0 99))) && (decide (i > 0))) = true → ((!(!(inB (clients.getD i.toNat 0) 0 99))) && (decide (i > 0))) = true) ∧ ((((!(!(inB (clients.getD i.toNat 0) 0 99))) && (decide (i > 0))) = true → (i - 1).toNat < clients.length)) ∧ (((!(!(inB (clients.getD i.toNat 0) 0 99))) && (decide (i > 0))) = true → ((!(!(inB (clients.getD i.toNat 0) 0 99))) && (decide (i > 0))) = true) ∧ (((!(!(inB (clients.getD i.toNat 0) 0 99))) && (decide (i > 0))) = true → ((!(!(inB (clients.getD i.toNat 0) 0 99))) && (decide (i > 0))) = true) ∧ ((((!(!(inB (clients.getD i.toNat 0) 0 99))) && (decide (i > 0))) = true → (0 : Int) ≤ i)) ∧ ((((!(!(inB (clients.getD i.toNat 0) 0 99))) && (decide (i > 0))) = true → (i : Int) < clients.length)) ∧ (((!(!(inB (clients.getD i.toNat 0) 0 99))) && (decide (i > 0))) = true → ((!(!(inB (clients.getD i.toNat 0) 0 99))) && (decide (i > 0))) = true) ∧ ((((!(!(inB (clients.getD i.toNat 0) 0 99))) && (decide (i > 0))) = true → i.toNat < clients.length)) ∧ (((!(!(inB (clients.getD i.toNat 0) 0 99))) && (decide (i > 0))) = true → ((!(!(inB (clients.getD i.toNat 0) 0 99))) && (decide (i > 0))) = true) ∧ (((!(!(inB (clients.getD i.toNat 0) 0 99))) && (decide (i > 0))) = true → ((!(!(inB (clients.getD i.toNat 0) 0 99))) && (decide (i > 0))) = true) ∧ (((!(!(inB (clients.getD i.toNat 0) 0 99))) = true → (!(!(inB (clients.getD i.toNat 0) 0 99))) = true)) ∧ (((!(!(inB (clients.getD i.toNat 0) 0 99))) = true → (decide (i > 0)) = true → ((!(!(inB (clients.getD i.toNat 0) 0 99))) && (decide (i > 0))) = true)) ∧ (((!(!(inB (clients.getD i.toNat 0) 0 99))) = true → (decide (i > 0)) = false → true = true)) ∧ (true = true) ∧ (((!(inB (clients.getD i.toNat 0) 0 99)) = true → true = true)) ∧ (((!(inB (clients.getD i.toNat 0) 0 99)) = false → (!(!(inB (clients.getD i.toNat 0) 0 99))) = true)) ∧ (((J3z clients i) = true → ((false = (J4 sites clients)))) ∧ ((J3z clients i) = false → (I6 (i + 1)) ∧ (∃ i' : Int, (J22 sites clients i') ∧ (J0N sites clients i' < J0N sites clients i) ∧ (sites = sites) ∧ (clients = clients) ∧ ((i + 1) = i'))))) ∧ ((decide (i < (clients.length : Int))) = false → (PC Try.prog 116 [.int .i64 (sites.length : Int), .int .i64 1, .int .i64 7] (.one (.d (.bool (inB (sites.length : Int) 1 7))))) ∧ ((inB (sites.length : Int) 1 7) = true → (inB (sites.length : Int) 1 7) = true) ∧ ((inB (sites.length : Int) 1 7) = true → PC Try.prog 167 [.sl (.ints sites), .int .i64 0, .int .i64 99] (.one (.d (.bool (J3 sites 0 99))))) ∧ (true = true) ∧ (((inB (sites.length : Int) 1 7) = true → (inB (sites.length : Int) 1 7) = true)) ∧ (((inB (sites.length : Int) 1 7) = false → true = true)) ∧ ((cond (inB (sites.length : Int) 1 7) (J3 sites 0 99) false) = true → (cond (inB (sites.length : Int) 1 7) (J3 sites 0 99) false) = true) ∧ ((cond (inB (sites.length : Int) 1 7) (J3 sites 0 99) false) = true → (cond (inB (sites.length : Int) 1 7) (J3 sites 0 99) false) = true) ∧ (true = true) ∧ (((cond (inB (sites.length : Int) 1 7) (J3 sites 0 99) false) = true → (cond (inB (sites.length : Int) 1 7) (J3 sites 0 99) false) = true)) ∧ (((cond (inB (sites.length : Int) 1 7) (J3 sites 0 99) false) = false → true = true)) ∧ (((cond (cond (inB (sites.length : Int) 1 7) (J3 sites 0 99) false) (decide ((clients.length : Int) ≤ 7)) false) = (J4 sites clients)))))))
theorem J8w (sites : ZI) (clients : ZI)  (w_sites : (sites.length : Int) ≤ 9223372036854775807) (w_clients : (clients.length : Int) ≤ 9223372036854775807) : J61 sites clients := by
  unfold J61 J3z
  refine ⟨?_, ?_⟩
  ·refine ⟨0, ?_⟩
   refine ⟨?_, rfl, rfl, rfl⟩
   ·refine ⟨?_, ?_, ?_⟩
    ·first | omega | rfl | (intro hg; simp only [nrmT] at hg; omega) | (intro g1 g2; simp [g1, g2]; done) | (intro g1; simp at g1 ⊢; simp [g1]; done) | (simp only [nrmT] at *; omega) | (simp at * <;> omega) | (simp_all <;> omega) | (simp_all; done)
    ·first | omega | rfl | (intro hg; simp only [nrmT] at hg; omega) | (intro g1 g2; simp [g1, g2]; done) | (intro g1; simp at g1 ⊢; simp [g1]; done) | (simp only [nrmT] at *; omega) | (simp at * <;> omega) | (simp_all <;> omega) | (simp_all; done)
    ·first | omega | rfl | (intro hg; simp only [nrmT] at hg; omega) | (intro g1 g2; simp [g1, g2]; done) | (intro g1; simp at g1 ⊢; simp [g1]; done) | (simp only [nrmT] at *; omega) | (simp at * <;> omega) | (simp_all <;> omega) | (simp_all; done)
  intro i hJ
  obtain ⟨h1, h2, h3⟩ := hJ
  refine ⟨?_, ?_⟩
  ·intro b1
   try simp only [nrmT] at b1
   refine ⟨rfl, ?_, ?_, ?_, J0X (clients.getD i.toNat 0) 0 99, id, id, id, ?_, id, id, ?_, ?_, id, ?_, id, id, ?_, ?_, id, ?_, id, id, id, ?_, fun _ _ => rfl, rfl, fun _ => rfl, ?_, ?_, ?_⟩
   ·first | omega | rfl | (intro hg; simp only [nrmT] at hg; omega) | (intro g1 g2; simp [g1, g2]; done) | (intro g1; simp at g1 ⊢; simp [g1]; done) | (simp only [nrmT] at *; omega) | (simp at * <;> omega) | (simp_all <;> omega) | (simp_all; done)
   ·first | omega | rfl | (intro hg; simp only [nrmT] at hg; omega) | (intro g1 g2; simp [g1, g2]; done) | (intro g1; simp at g1 ⊢; simp [g1]; done) | (simp only [nrmT] at *; omega) | (simp at * <;> omega) | (simp_all <;> omega) | (simp_all; done)
   ·first | omega | rfl | (intro hg; simp only [nrmT] at hg; omega) | (intro g1 g2; simp [g1, g2]; done) | (intro g1; simp at g1 ⊢; simp [g1]; done) | (simp only [nrmT] at *; omega) | (simp at * <;> omega) | (simp_all <;> omega) | (simp_all; done)
   ·first | omega | rfl | (intro hg; simp only [nrmT] at hg; omega) | (intro g1 g2; simp [g1, g2]; done) | (intro g1; simp at g1 ⊢; simp [g1]; done) | (simp only [nrmT] at *; omega) | (simp at * <;> omega) | (simp_all <;> omega) | (simp_all; done)
   ·first | omega | rfl | (intro hg; simp only [nrmT] at hg; omega) | (intro g1 g2; simp [g1, g2]; done) | (intro g1; simp at g1 ⊢; simp [g1]; done) | (simp only [nrmT] at *; omega) | (simp at * <;> omega) | (simp_all <;> omega) | (simp_all; done)
   ·first | omega | rfl | (intro hg; simp only [nrmT] at hg; omega) | (intro g1 g2; simp [g1, g2]; done) | (intro g1; simp at g1 ⊢; simp [g1]; done) | (simp only [nrmT] at *; omega) | (simp at * <;> omega) | (simp_all <;> omega) | (simp_all; done)
   ·first | omega | rfl | (intro hg; simp only [nrmT] at hg; omega) | (intro g1 g2; simp [g1, g2]; done) | (intro g1; simp at g1 ⊢; simp [g1]; done) | (simp only [nrmT] at *; omega) | (simp at * <;> omega) | (simp_all <;> omega) | (simp_all; done)
   ·first | omega | rfl | (intro hg; simp only [nrmT] at hg; omega) | (intro g1 g2; simp [g1, g2]; done) | (intro g1; simp at g1 ⊢; simp [g1]; done) | (simp only [nrmT] at *; omega) | (simp at * <;> omega) | (simp_all <;> omega) | (simp_all; done)
   ·first | omega | rfl | (intro hg; simp only [nrmT] at hg; omega) | (intro g1 g2; simp [g1, g2]; done) | (intro g1; simp at g1 ⊢; simp [g1]; done) | (simp only [nrmT] at *; omega) | (simp at * <;> omega) | (simp_all <;> omega) | (simp_all; done)
   ·first | omega | rfl | (intro hg; simp only [nrmT] at hg; omega) | (intro g1 g2; simp [g1, g2]; done) | (intro g1; simp at g1 ⊢; simp [g1]; done) | (simp only [nrmT] at *; omega) | (simp at * <;> omega) | (simp_all <;> omega) | (simp_all; done)
   ·first | omega | rfl | (intro hg; simp only [nrmT] at hg; omega) | (intro g1 g2; simp [g1, g2]; done) | (intro g1; simp at g1 ⊢; simp [g1]; done) | (simp only [nrmT] at *; omega) | (simp at * <;> omega) | (simp_all <;> omega) | (simp_all; done)
   ·first | omega | rfl | (intro hg; simp only [nrmT] at hg; omega) | (intro g1 g2; simp [g1, g2]; done) | (intro g1; simp at g1 ⊢; simp [g1]; done) | (simp only [nrmT] at *; omega) | (simp at * <;> omega) | (simp_all <;> omega) | (simp_all; done)
   ·intro b2
    unfold J4
    rw [allTo_falseI h1 (by omega) (by rw [J5V h1 (b := true) (by revert b2; cases inB (clients.getD i.toNat 0) 0 99 <;> simp)]; rfl)]
    rfl
   intro b3
   refine ⟨?_, ?_⟩
   ·first | omega | rfl | (intro hg; simp only [nrmT] at hg; omega) | (intro g1 g2; simp [g1, g2]; done) | (intro g1; simp at g1 ⊢; simp [g1]; done) | (simp only [nrmT] at *; omega) | (simp at * <;> omega) | (simp_all <;> omega) | (simp_all; done)
   refine ⟨(i + 1), ?_⟩
   refine ⟨?_, ?_, rfl, rfl, rfl⟩
   ·refine ⟨?_, ?_, ?_⟩
    ·first | omega | rfl | (intro hg; simp only [nrmT] at hg; omega) | (intro g1 g2; simp [g1, g2]; done) | (intro g1; simp at g1 ⊢; simp [g1]; done) | (simp only [nrmT] at *; omega) | (simp at * <;> omega) | (simp_all <;> omega) | (simp_all; done)
    ·first | omega | rfl | (intro hg; simp only [nrmT] at hg; omega) | (intro g1 g2; simp [g1, g2]; done) | (intro g1; simp at g1 ⊢; simp [g1]; done) | (simp only [nrmT] at *; omega) | (simp at * <;> omega) | (simp_all <;> omega) | (simp_all; done)
    ·exact allTo_step h1 h3 (by rw [J5V h1 (b := false) (by revert b3; cases inB (clients.getD i.toNat 0) 0 99 <;> simp)]; rfl)
   first | (show _ < _; omega) | (simp only [J0N]; omega) | (simp only [J0N] at *; simp at *; omega)
  intro b4
  try simp only [nrmT] at b4
  refine ⟨J0X (sites.length : Int) 1 7, id, fun _ => J40 sites 0 99, rfl, id, fun _ => rfl, id, id, rfl, id, fun _ => rfl, ?_⟩
  ·unfold J4
   rw [← show allTo (J1t clients) i.toNat = allTo (J1t clients) clients.length by rw [show i.toNat = clients.length by omega], h3, Bool.true_and]
   rw [show decide ((clients.length : Int) ≤ 7) = decide (clients.length ≤ 7) by congr 1; exact propext ⟨fun h => by omega, fun h => by omega⟩]
   cases inB (sites.length : Int) 1 7 <;> cases J3 sites 0 99 <;> rfl
theorem J3y (sites : ZI) (clients : ZI)  : PC Try.prog 137 [.sl (.ints sites), .sl (.ints clients)] (.one (.d (.bool (J4 sites clients)))) :=
  pc_wf @Try.call137 fun hw => pc_by (by kernel_rfl) Try.func137 @Try.call137 (by kernel_rfl) J91 (J9n sites clients) (by kernel_rfl) (J8w sites clients hw.1 hw.2.1) (by kernel_rfl)
def J31 : List D → Orc := orcN [some .ints, some .ints] fun ds => match ds with
  | [.sl (.ints sites), .sl (.ints clients)] => some (.one (.d (.bool (J4 sites clients))))
  | _ => none
abbrev J1R (sites : ZI) (clients : ZI) (i : Int) (op : ZI) (out : ZR) : Prop := (0 ≤ i) ∧ (i ≤ (clients.length : Int)) ∧ (op = List.replicate sites.length 0) ∧ (out = tabTo (fun j => J1G sites (clients.getD j 0)) i.toNat)
abbrev J0Y (sites : ZI) (clients : ZI) (i : Int) (op : ZI) (out : ZR) : Nat := (clients.length - i).toNat
abbrev J1X (sites : ZI) (clients : ZI) (i : Int) (op : ZI) (out : ZR) (row : ZI) (a : Int) : Prop := (0 ≤ a) ∧ (a ≤ (sites.length : Int)) ∧ (row = tabTo (fun c => max (clients.getD i.toNat 0 - sites.getD c 0) (sites.getD c 0 - clients.getD i.toNat 0)) a.toNat)
abbrev J0O (sites : ZI) (clients : ZI) (i : Int) (op : ZI) (out : ZR) (row : ZI) (a : Int) : Nat := (sites.length - a).toNat
abbrev J1U (sites : ZI) (clients : ZI) (i : Int) (op : ZI) (out : ZR) (row2 : ZI) : Prop := (row2 = J1G sites (clients.getD i.toNat 0))
def J9e (f : FuncId) (ds : List D) : Orc := bif Nat.beq f 152 then J85 ds else .no
def J8R (sites : ZI) (clients : ZI) : Ann := .two (.none) (.two (.none) (.two (.two (.none) (.loop (cut3 (fun (i : Int) (op : ZI) (out : ZR) => J1R sites clients i op out) (fun (i : Int) (op : ZI) (out : ZR) => [(0, .d false (.sl (.ints sites))), (1, .d false (.sl (.ints clients))), (4, .ptr 4 0), (5, .ptr 5 0), (6, .d true (.int .i64 i))]) (fun (i : Int) (op : ZI) (out : ZR) => [(4, .box 39 [.d true (.nil), .d true (.nil)]), (1000001, .arr true 3 (.ints op)), (1000002, .arr true 26 (.rows out)), (5, .box 39 [.own 1000001 op.length, .own 1000002 out.length])])) (fun g => J0Y sites clients g.1 g.2.1 g.2.2) (fun g => (fun (i : Int) (op : ZI) (out : ZR) => .two (.none) (.two (.two (.none) (.cut (.two (.none) (.loop (cut2 (fun (row : ZI) (a : Int) => J1X sites clients i op out row a) (fun (row : ZI) (a : Int) => [(0, .d false (.sl (.ints sites))), (1, .d false (.sl (.ints clients))), (4, .ptr 4 0), (5, .ptr 5 0), (6, .d true (.int .i64 i)), (7, .own 1000100 row.length), (8, .d true (.int .i64 a))]) (fun (row : ZI) (a : Int) => [(1000100, .arr true 3 (.ints row)), (4, .box 39 [.d true (.nil), .d true (.nil)]), (5, .box 39 [.own 1000001 op.length, .own 1000002 out.length]), (1000001, .arr true 3 (.ints op)), (1000002, .arr true 26 (.rows out))])) (fun g => J0O sites clients i op out g.1 g.2) (fun _ => .none))) (cut1 (fun (row2 : ZI) => J1U sites clients i op out row2) (fun (row2 : ZI) => [(0, .d false (.sl (.ints sites))), (1, .d false (.sl (.ints clients))), (4, .ptr 4 0), (5, .ptr 5 0), (6, .d true (.int .i64 i)), (7, .d true (.sl (.ints row2)))]) (fun (row2 : ZI) => [(4, .box 39 [.d true (.nil), .d true (.nil)]), (5, .box 39 [.own 1000001 op.length, .own 1000002 out.length]), (1000001, .arr true 3 (.ints op)), (1000002, .arr true 26 (.rows out))])) (fun _ => .none))) (.none))) (g.1) (g.2.1) (g.2.2)))) (.none)))
def J60 (sites : ZI) (clients : ZI) : Prop :=
  ((sites.length : Int) = (sites.length : Int)) ∧ ((0 : Int) ≤ (sites.length : Int)) ∧ (((sites.length : Int) : Int) * ((8 : Nat) : Int) ≤ 140737488355328) ∧ ((∃ i' : Int, ∃ op' : ZI, ∃ out' : ZR, (J1R sites clients i' op' out') ∧ (sites = sites) ∧ (clients = clients) ∧ ((0 : Int) = i') ∧ ((List.replicate ((sites.length : Int).toNat) (0 : Int)) = op') ∧ ([] = out') ∧ ((sites.length : Int).toNat = op'.length) ∧ ((0 : Nat) = out'.length)) ∧ (∀ i : Int, ∀ op : ZI, ∀ out : ZR, (J1R sites clients i op out) → (((decide (i < (clients.length : Int))) = true → ((((∃ row' : ZI, ∃ a' : Int, (J1X sites clients i op out row' a') ∧ (sites = sites) ∧ (clients = clients) ∧ (i = i) ∧ ((0 : Nat) = row'.length) ∧ ((0 : Int) = a') ∧ ([] = row') ∧ (op.length = op.length) ∧ (out.length = out.length) ∧ (op = op) ∧ (out = out)) ∧ (∀ row : ZI, ∀ a : Int, (J1X sites clients i op out row a) → (((decide (a < (sites.length : Int))) = true → (true = true) ∧ ((0 : Int) ≤ i) ∧ ((i : Int) < clients.length) ∧ (i.toNat < clients.length) ∧ ((0 : Int) ≤ a) ∧ ((a : Int) < sites.length) ∧ (a.toNat < sites.length) ∧ (I6 ((clients.getD i.toNat 0) - (sites.getD a.toNat 0))) ∧ ((0 : Int) ≤ a) ∧ ((a : Int) < sites.length) ∧ (a.toNat < sites.length) ∧ ((0 : Int) ≤ i) ∧ ((i : Int) < clients.length) ∧ (i.toNat < clients.length) ∧ (I6 ((sites.getD a.toNat 0) - (clients.getD i.toNat 0))) ∧ (PC Try.prog 152 [.int .i64 ((clients.getD i.toNat 0) - (sites.getD a.toNat 0)), .int .i64 ((sites.getD a.toNat 0) - (clients.getD i.toNat 0))] (.one (.d (.int .i64 (max ((clients.getD i.toNat 0) - (sites.getD a.toNat 0)) ((sites.getD a.toNat 0) - (clients.getD i.toNat 0))))))) ∧ (row.length = row.length) ∧ ((1 : Nat) = 1) ∧ ((row.length + 1) * 8 ≤ 140737488355328) ∧ (I6 (a + 1)) ∧ (∃ row' : ZI, ∃ a' : Int, (J1X sites clients i op out row' a') ∧ (J0O sites clients i op out row' a' < J0O sites clients i op out row a) ∧ (sites = sites) ∧ (clients = clients) ∧ (i = i) ∧ ((row.length + 1) = row'.length) ∧ ((a + 1) = a') ∧ ((row ++ [(max ((clients.getD i.toNat 0) - (sites.getD a.toNat 0)) ((sites.getD a.toNat 0) - (clients.getD i.toNat 0)))]) = row') ∧ (op.length = op.length) ∧ (out.length = out.length) ∧ (op = op) ∧ (out = out))) ∧ ((decide (a < (sites.length : Int))) = false → (∃ row2' : ZI, (J1U sites clients i op out row2') ∧ (sites = sites) ∧ (clients = clients) ∧ (i = i) ∧ (row.length = row.length) ∧ (row = row2') ∧ (op.length = op.length) ∧ (out.length = out.length) ∧ (op = op) ∧ (out = out))))))) ∧ (∀ row2 : ZI, (J1U sites clients i op out row2) → (out.length = out.length) ∧ ((1 : Nat) = 1) ∧ ((out.length + 1) * 24 ≤ 140737488355328) ∧ (I6 (i + 1)) ∧ (∃ i' : Int, ∃ op' : ZI, ∃ out' : ZR, (J1R sites clients i' op' out') ∧ (J0Y sites clients i' op' out' < J0Y sites clients i op out) ∧ (sites = sites) ∧ (clients = clients) ∧ ((i + 1) = i') ∧ (op = op') ∧ ((out ++ [row2]) = out') ∧ (op.length = op'.length) ∧ ((out.length + 1) = out'.length))))) ∧ ((decide (i < (clients.length : Int))) = false → ((op.length = op.length) ∧ (out.length = out.length) ∧ ((.agg [.sl (.ints op), .sl (.rows out)] : D) = .agg [.sl (.ints (List.replicate sites.length 0)), .sl (.rows (J6 sites clients))]))))))
theorem J8G (sites : ZI) (clients : ZI) (hg : J4 sites clients = true) (w_sites : (sites.length : Int) ≤ 9223372036854775807) (w_clients : (clients.length : Int) ≤ 9223372036854775807) : J60 sites clients := by
  unfold J60
  obtain ⟨g1, g2, g3, g4, g5⟩ := J1 hg
  have sr := fun (k : Nat) (hk : k < sites.length) => Ji g4 k hk
  refine ⟨rfl, ?_, ?_, ?_, ?_⟩
  ·first | omega | rfl | (intro hg; simp only [nrmT] at hg; omega) | (intro g1 g2; simp [g1, g2]; done) | (intro g1; simp at g1 ⊢; simp [g1]; done) | (simp only [nrmT] at *; omega) | (simp at * <;> omega) | (simp_all <;> omega) | (simp_all; done)
  ·first | omega | rfl | (intro hg; simp only [nrmT] at hg; omega) | (intro g1 g2; simp [g1, g2]; done) | (intro g1; simp at g1 ⊢; simp [g1]; done) | (simp only [nrmT] at *; omega) | (simp at * <;> omega) | (simp_all <;> omega) | (simp_all; done)
  ·refine ⟨0, (List.replicate ((sites.length : Int).toNat) (0 : Int)), ([]), ?_⟩
   refine ⟨?_, rfl, rfl, rfl, rfl, ?_, ?_, rfl⟩
   ·refine ⟨?_, ?_, ?_, ?_⟩
    ·first | omega | rfl | (intro hg; simp only [nrmT] at hg; omega) | (intro g1 g2; simp [g1, g2]; done) | (intro g1; simp at g1 ⊢; simp [g1]; done) | (simp only [nrmT] at *; omega) | (simp at * <;> omega) | (simp_all <;> omega) | (simp_all; done)
    ·first | omega | rfl | (intro hg; simp only [nrmT] at hg; omega) | (intro g1 g2; simp [g1, g2]; done) | (intro g1; simp at g1 ⊢; simp [g1]; done) | (simp only [nrmT] at *; omega) | (simp at * <;> omega) | (simp_all <;> omega) | (simp_all; done)
    ·first | omega | rfl | (intro hg; simp only [nrmT] at hg; omega) | (intro g1 g2; simp [g1, g2]; done) | (intro g1; simp at g1 ⊢; simp [g1]; done) | (simp only [nrmT] at *; omega) | (simp at * <;> omega) | (simp_all <;> omega) | (simp_all; done)
    ·first | omega | rfl | (intro hg; simp only [nrmT] at hg; omega) | (intro g1 g2; simp [g1, g2]; done) | (intro g1; simp at g1 ⊢; simp [g1]; done) | (simp only [nrmT] at *; omega) | (simp at * <;> omega) | (simp_all <;> omega) | (simp_all; done)
   ·first | omega | rfl | (intro hg; simp only [nrmT] at hg; omega) | (intro g1 g2; simp [g1, g2]; done) | (intro g1; simp at g1 ⊢; simp [g1]; done) | (simp only [nrmT] at *; omega) | (simp at * <;> omega) | (simp_all <;> omega) | (simp_all; done)
   first | omega | rfl | (intro hg; simp only [nrmT] at hg; omega) | (intro g1 g2; simp [g1, g2]; done) | (intro g1; simp at g1 ⊢; simp [g1]; done) | (simp only [nrmT] at *; omega) | (simp at * <;> omega) | (simp_all <;> omega) | (simp_all; done)
  intro i op out hJ
  obtain ⟨h1, h2, hop, h3⟩ := hJ
  refine ⟨?_, ?_⟩
  ·intro b1
   try simp only [nrmT] at b1
   refine ⟨?_, ?_⟩
   ·refine ⟨?_, ?_⟩
    ·refine ⟨([]), 0, ?_⟩
     refine ⟨?_, rfl, rfl, rfl, rfl, rfl, ?_, rfl, rfl, rfl, rfl⟩
     ·refine ⟨?_, ?_, ?_⟩
      ·first | omega | rfl | (intro hg; simp only [nrmT] at hg; omega) | (intro g1 g2; simp [g1, g2]; done) | (intro g1; simp at g1 ⊢; simp [g1]; done) | (simp only [nrmT] at *; omega) | (simp at * <;> omega) | (simp_all <;> omega) | (simp_all; done)
      ·first | omega | rfl | (intro hg; simp only [nrmT] at hg; omega) | (intro g1 g2; simp [g1, g2]; done) | (intro g1; simp at g1 ⊢; simp [g1]; done) | (simp only [nrmT] at *; omega) | (simp at * <;> omega) | (simp_all <;> omega) | (simp_all; done)
      ·first | omega | rfl | (intro hg; simp only [nrmT] at hg; omega) | (intro g1 g2; simp [g1, g2]; done) | (intro g1; simp at g1 ⊢; simp [g1]; done) | (simp only [nrmT] at *; omega) | (simp at * <;> omega) | (simp_all <;> omega) | (simp_all; done)
     first | omega | rfl | (intro hg; simp only [nrmT] at hg; omega) | (intro g1 g2; simp [g1, g2]; done) | (intro g1; simp at g1 ⊢; simp [g1]; done) | (simp only [nrmT] at *; omega) | (simp at * <;> omega) | (simp_all <;> omega) | (simp_all; done)
    ·intro row a hJ
     obtain ⟨h4, h5, h6⟩ := hJ
     refine ⟨?_, ?_⟩
     ·intro b2
      try simp only [nrmT] at b2
      refine ⟨rfl, ?_, ?_, ?_, ?_, ?_, ?_, ?_, ?_, ?_, ?_, ?_, ?_, ?_, ?_, J8l ((clients.getD i.toNat 0) - (sites.getD a.toNat 0)) ((sites.getD a.toNat 0) - (clients.getD i.toNat 0)), rfl, rfl, ?_, ?_, ?_⟩
      ·first | omega | rfl | (intro hg; simp only [nrmT] at hg; omega) | (intro g1 g2; simp [g1, g2]; done) | (intro g1; simp at g1 ⊢; simp [g1]; done) | (simp only [nrmT] at *; omega) | (simp at * <;> omega) | (simp_all <;> omega) | (simp_all; done)
      ·first | omega | rfl | (intro hg; simp only [nrmT] at hg; omega) | (intro g1 g2; simp [g1, g2]; done) | (intro g1; simp at g1 ⊢; simp [g1]; done) | (simp only [nrmT] at *; omega) | (simp at * <;> omega) | (simp_all <;> omega) | (simp_all; done)
      ·first | omega | rfl | (intro hg; simp only [nrmT] at hg; omega) | (intro g1 g2; simp [g1, g2]; done) | (intro g1; simp at g1 ⊢; simp [g1]; done) | (simp only [nrmT] at *; omega) | (simp at * <;> omega) | (simp_all <;> omega) | (simp_all; done)
      ·first | omega | rfl | (intro hg; simp only [nrmT] at hg; omega) | (intro g1 g2; simp [g1, g2]; done) | (intro g1; simp at g1 ⊢; simp [g1]; done) | (simp only [nrmT] at *; omega) | (simp at * <;> omega) | (simp_all <;> omega) | (simp_all; done)
      ·first | omega | rfl | (intro hg; simp only [nrmT] at hg; omega) | (intro g1 g2; simp [g1, g2]; done) | (intro g1; simp at g1 ⊢; simp [g1]; done) | (simp only [nrmT] at *; omega) | (simp at * <;> omega) | (simp_all <;> omega) | (simp_all; done)
      ·first | omega | rfl | (intro hg; simp only [nrmT] at hg; omega) | (intro g1 g2; simp [g1, g2]; done) | (intro g1; simp at g1 ⊢; simp [g1]; done) | (simp only [nrmT] at *; omega) | (simp at * <;> omega) | (simp_all <;> omega) | (simp_all; done)
      ·have q1 := g5 i.toNat (by omega)
       have q2 := sr a.toNat (by omega)
       omega
      ·first | omega | rfl | (intro hg; simp only [nrmT] at hg; omega) | (intro g1 g2; simp [g1, g2]; done) | (intro g1; simp at g1 ⊢; simp [g1]; done) | (simp only [nrmT] at *; omega) | (simp at * <;> omega) | (simp_all <;> omega) | (simp_all; done)
      ·first | omega | rfl | (intro hg; simp only [nrmT] at hg; omega) | (intro g1 g2; simp [g1, g2]; done) | (intro g1; simp at g1 ⊢; simp [g1]; done) | (simp only [nrmT] at *; omega) | (simp at * <;> omega) | (simp_all <;> omega) | (simp_all; done)
      ·first | omega | rfl | (intro hg; simp only [nrmT] at hg; omega) | (intro g1 g2; simp [g1, g2]; done) | (intro g1; simp at g1 ⊢; simp [g1]; done) | (simp only [nrmT] at *; omega) | (simp at * <;> omega) | (simp_all <;> omega) | (simp_all; done)
      ·first | omega | rfl | (intro hg; simp only [nrmT] at hg; omega) | (intro g1 g2; simp [g1, g2]; done) | (intro g1; simp at g1 ⊢; simp [g1]; done) | (simp only [nrmT] at *; omega) | (simp at * <;> omega) | (simp_all <;> omega) | (simp_all; done)
      ·first | omega | rfl | (intro hg; simp only [nrmT] at hg; omega) | (intro g1 g2; simp [g1, g2]; done) | (intro g1; simp at g1 ⊢; simp [g1]; done) | (simp only [nrmT] at *; omega) | (simp at * <;> omega) | (simp_all <;> omega) | (simp_all; done)
      ·first | omega | rfl | (intro hg; simp only [nrmT] at hg; omega) | (intro g1 g2; simp [g1, g2]; done) | (intro g1; simp at g1 ⊢; simp [g1]; done) | (simp only [nrmT] at *; omega) | (simp at * <;> omega) | (simp_all <;> omega) | (simp_all; done)
      ·have q1 := g5 i.toNat (by omega)
       have q2 := sr a.toNat (by omega)
       omega
      ·have hg0 : J4 sites clients = true := by first | exact hg | (rw [JG, b2]; rfl)
       obtain ⟨q1, q2, q3, q4, q5⟩ := J1 hg0
       rw [h6, tabTo_len]; omega
      ·first | omega | rfl | (intro hg; simp only [nrmT] at hg; omega) | (intro g1 g2; simp [g1, g2]; done) | (intro g1; simp at g1 ⊢; simp [g1]; done) | (simp only [nrmT] at *; omega) | (simp at * <;> omega) | (simp_all <;> omega) | (simp_all; done)
      refine ⟨(row ++ [(max ((clients.getD i.toNat 0) - (sites.getD a.toNat 0)) ((sites.getD a.toNat 0) - (clients.getD i.toNat 0)))]), (a + 1), ?_⟩
      refine ⟨?_, ?_, rfl, rfl, rfl, ?_, rfl, rfl, rfl, rfl, rfl, rfl⟩
      ·refine ⟨?_, ?_, ?_⟩
       ·first | omega | rfl | (intro hg; simp only [nrmT] at hg; omega) | (intro g1 g2; simp [g1, g2]; done) | (intro g1; simp at g1 ⊢; simp [g1]; done) | (simp only [nrmT] at *; omega) | (simp at * <;> omega) | (simp_all <;> omega) | (simp_all; done)
       ·first | omega | rfl | (intro hg; simp only [nrmT] at hg; omega) | (intro g1 g2; simp [g1, g2]; done) | (intro g1; simp at g1 ⊢; simp [g1]; done) | (simp only [nrmT] at *; omega) | (simp at * <;> omega) | (simp_all <;> omega) | (simp_all; done)
       ·rw [show (a + 1).toNat = a.toNat + 1 by omega, tabTo_succ, h6]
      ·first | (show _ < _; omega) | (simp only [J0O]; omega) | (simp only [J0O] at *; simp at *; omega)
      first | omega | rfl | (intro hg; simp only [nrmT] at hg; omega) | (intro g1 g2; simp [g1, g2]; done) | (intro g1; simp at g1 ⊢; simp [g1]; done) | (simp only [nrmT] at *; omega) | (simp at * <;> omega) | (simp_all <;> omega) | (simp_all; done)
     intro b3
     try simp only [nrmT] at b3
     refine ⟨row, ?_⟩
     refine ⟨?_, rfl, rfl, rfl, rfl, rfl, rfl, rfl, rfl, rfl⟩
     ·unfold J1U
      rw [h6, show a.toNat = sites.length by omega]; rfl
   intro row2 hJ
   have h8 := hJ
   refine ⟨rfl, rfl, ?_, ?_, ?_⟩
   ·have hg0 : J4 sites clients = true := by first | exact hg | (rw [JG, b2]; rfl)
    obtain ⟨q1, q2, q3, q4, q5⟩ := J1 hg0
    rw [h3, tabTo_len]; omega
   ·first | omega | rfl | (intro hg; simp only [nrmT] at hg; omega) | (intro g1 g2; simp [g1, g2]; done) | (intro g1; simp at g1 ⊢; simp [g1]; done) | (simp only [nrmT] at *; omega) | (simp at * <;> omega) | (simp_all <;> omega) | (simp_all; done)
   refine ⟨(i + 1), op, (out ++ [row2]), ?_⟩
   refine ⟨?_, ?_, rfl, rfl, rfl, rfl, rfl, rfl, ?_⟩
   ·refine ⟨?_, ?_, ?_, ?_⟩
    ·first | omega | rfl | (intro hg; simp only [nrmT] at hg; omega) | (intro g1 g2; simp [g1, g2]; done) | (intro g1; simp at g1 ⊢; simp [g1]; done) | (simp only [nrmT] at *; omega) | (simp at * <;> omega) | (simp_all <;> omega) | (simp_all; done)
    ·first | omega | rfl | (intro hg; simp only [nrmT] at hg; omega) | (intro g1 g2; simp [g1, g2]; done) | (intro g1; simp at g1 ⊢; simp [g1]; done) | (simp only [nrmT] at *; omega) | (simp at * <;> omega) | (simp_all <;> omega) | (simp_all; done)
    ·first | omega | rfl | (intro hg; simp only [nrmT] at hg; omega) | (intro g1 g2; simp [g1, g2]; done) | (intro g1; simp at g1 ⊢; simp [g1]; done) | (simp only [nrmT] at *; omega) | (simp at * <;> omega) | (simp_all <;> omega) | (simp_all; done)
    ·rw [h8, show (i + 1).toNat = i.toNat + 1 by omega, tabTo_succ, h3]
   ·first | (show _ < _; omega) | (simp only [J0Y]; omega) | (simp only [J0Y] at *; simp at *; omega)
   first | omega | rfl | (intro hg; simp only [nrmT] at hg; omega) | (intro g1 g2; simp [g1, g2]; done) | (intro g1; simp at g1 ⊢; simp [g1]; done) | (simp only [nrmT] at *; omega) | (simp at * <;> omega) | (simp_all <;> omega) | (simp_all; done)
  intro b4
  try simp only [nrmT] at b4
  refine ⟨rfl, rfl, ?_⟩
  ·rw [hop, h3, show i.toNat = clients.length by omega]; rfl
theorem J3B (sites : ZI) (clients : ZI) (hg : J4 sites clients = true) : PC Try.prog 138 [.sl (.ints sites), .sl (.ints clients)] (.one (.d (.agg [.sl (.ints (List.replicate sites.length 0)), .sl (.rows (J6 sites clients))]))) :=
  pc_wf @Try.call138 fun hw => pc_by (by kernel_rfl) Try.func138 @Try.call138 (by kernel_rfl) J9e (J8R sites clients) (by kernel_rfl) (J8G sites clients hg hw.1 hw.2.1) (by kernel_rfl)
def J36 : List D → Orc := orcN [some .ints, some .ints] fun ds => match ds with
  | [.sl (.ints sites), .sl (.ints clients)] => some (.one (.d (.agg [.sl (.ints (List.replicate sites.length 0)), .sl (.rows (J6 sites clients))])))
  | _ => none
abbrev J0L (sites : ZI) (clients : ZI) (i : Int) (op : ZI) (out : ZR) : Prop := (0 ≤ i) ∧ (i ≤ (clients.length : Int)) ∧ (op = List.replicate sites.length 0) ∧ (out = tabTo (fun j => J1G sites (clients.getD j 0)) i.toNat)
abbrev J0j (sites : ZI) (clients : ZI) (i : Int) (op : ZI) (out : ZR) : Nat := (clients.length - i).toNat
abbrev J0G (sites : ZI) (clients : ZI) (i : Int) (op : ZI) (out : ZR) (row : ZI) (a : Int) : Prop := (0 ≤ a) ∧ (a ≤ (sites.length : Int)) ∧ (row = tabTo (fun c => max (clients.getD i.toNat 0 - sites.getD c 0) (sites.getD c 0 - clients.getD i.toNat 0)) a.toNat)
abbrev J0m (sites : ZI) (clients : ZI) (i : Int) (op : ZI) (out : ZR) (row : ZI) (a : Int) : Nat := (sites.length - a).toNat
abbrev J0F (sites : ZI) (clients : ZI) (i : Int) (op : ZI) (out : ZR) (row2 : ZI) : Prop := (row2 = J1G sites (clients.getD i.toNat 0))
def J7s (f : FuncId) (ds : List D) : Orc := bif Nat.beq f 120 then J0C ds else bif Nat.beq f 130 then J3I ds else bif Nat.beq f 131 then J1v ds else bif Nat.beq f 132 then J2f ds else .no
def J7B (sites : ZI) (clients : ZI) : Ann := .two (.none) (.two (.none) (.two (.none) (.two (.two (.none) (.loop (cut3 (fun (i : Int) (op : ZI) (out : ZR) => J0L sites clients i op out) (fun (i : Int) (op : ZI) (out : ZR) => [(0, .d false (.sl (.ints sites))), (4, .ptr 4 0), (6, .ptr 6 0), (41, .d false (.sl (.ints clients))), (42, .d true (.int .i64 (clients.length : Int))), (43, .d true (.int .i64 i))]) (fun (i : Int) (op : ZI) (out : ZR) => [(4, .box 39 [.d true (.nil), .d true (.nil)]), (1000001, .arr true 3 (.ints op)), (1000002, .arr true 26 (.rows out)), (6, .box 39 [.own 1000001 op.length, .own 1000002 out.length])])) (fun g => J0j sites clients g.1 g.2.1 g.2.2) (fun g => (fun (i : Int) (op : ZI) (out : ZR) => .two (.none) (.two (.none) (.two (.two (.none) (.two (.none) (.cut (.two (.none) (.loop (cut2 (fun (row : ZI) (a : Int) => J0G sites clients i op out row a) (fun (row : ZI) (a : Int) => [(0, .d false (.sl (.ints sites))), (4, .ptr 4 0), (6, .ptr 6 0), (8, .d false (.int .i64 (clients.getD i.toNat 0))), (9, .own 1000100 row.length), (41, .d false (.sl (.ints clients))), (42, .d true (.int .i64 (clients.length : Int))), (43, .d true (.int .i64 i)), (48, .d false (.sl (.ints sites))), (49, .d true (.int .i64 (sites.length : Int))), (50, .d true (.int .i64 a))]) (fun (row : ZI) (a : Int) => [(1000100, .arr true 3 (.ints row)), (4, .box 39 [.d true (.nil), .d true (.nil)]), (6, .box 39 [.own 1000001 op.length, .own 1000002 out.length]), (1000001, .arr true 3 (.ints op)), (1000002, .arr true 26 (.rows out))])) (fun g => J0m sites clients i op out g.1 g.2) (fun _ => .none))) (cut1 (fun (row2 : ZI) => J0F sites clients i op out row2) (fun (row2 : ZI) => [(0, .d false (.sl (.ints sites))), (4, .ptr 4 0), (6, .ptr 6 0), (9, .d true (.sl (.ints row2))), (41, .d false (.sl (.ints clients))), (42, .d true (.int .i64 (clients.length : Int))), (43, .d true (.int .i64 i))]) (fun (row2 : ZI) => [(4, .box 39 [.d true (.nil), .d true (.nil)]), (6, .box 39 [.own 1000001 op.length, .own 1000002 out.length]), (1000001, .arr true 3 (.ints op)), (1000002, .arr true 26 (.rows out))])) (fun _ => .none)))) (.none)))) (g.1) (g.2.1) (g.2.2)))) (.none))))
def Jx (sites : ZI) (clients : ZI) : Bool := (cond (cond (!(inB (sites.length : Int) 1 7)) true (!(J3 sites 0 (100 - 1)))) true (decide ((clients.length : Int) > 7)))
def Jq (sites : ZI) (clients : ZI) : Bool := (cond (Jx sites clients) true (!(clients.all (fun x => inB x 0 99))))
def J3Y (sites : ZI) (clients : ZI) : Prop :=
  (PC Try.prog 120 [.int .i64 (sites.length : Int), .int .i64 1, .int .i64 7] (.one (.d (.bool (inB (sites.length : Int) 1 7))))) ∧ ((!(!(inB (sites.length : Int) 1 7))) = true → (!(!(inB (sites.length : Int) 1 7))) = true) ∧ ((!(!(inB (sites.length : Int) 1 7))) = true → PC Try.prog 130 [.sl (.ints sites), .int .i64 100] (.one (.d (.bool (J3 sites 0 (100 - 1)))))) ∧ ((!(!(inB (sites.length : Int) 1 7))) = true → (!(!(inB (sites.length : Int) 1 7))) = true) ∧ (true = true) ∧ (((!(inB (sites.length : Int) 1 7)) = true → true = true)) ∧ (((!(inB (sites.length : Int) 1 7)) = false → (!(!(inB (sites.length : Int) 1 7))) = true)) ∧ ((!(cond (!(inB (sites.length : Int) 1 7)) true (!(J3 sites 0 (100 - 1))))) = true → (!(cond (!(inB (sites.length : Int) 1 7)) true (!(J3 sites 0 (100 - 1))))) = true) ∧ ((!(cond (!(inB (sites.length : Int) 1 7)) true (!(J3 sites 0 (100 - 1))))) = true → (!(cond (!(inB (sites.length : Int) 1 7)) true (!(J3 sites 0 (100 - 1))))) = true) ∧ (true = true) ∧ (((cond (!(inB (sites.length : Int) 1 7)) true (!(J3 sites 0 (100 - 1)))) = true → true = true)) ∧ (((cond (!(inB (sites.length : Int) 1 7)) true (!(J3 sites 0 (100 - 1)))) = false → (!(cond (!(inB (sites.length : Int) 1 7)) true (!(J3 sites 0 (100 - 1))))) = true)) ∧ ((!(Jx sites clients)) = true → (!(Jx sites clients)) = true) ∧ ((!(Jx sites clients)) = true → PC Try.prog 131 [.sl (.ints clients), .int .i64 0, .int .i64 99] (.one (.d (.bool (clients.all (fun x => inB x 0 99)))))) ∧ ((!(Jx sites clients)) = true → (!(Jx sites clients)) = true) ∧ (true = true) ∧ (((Jx sites clients) = true → true = true)) ∧ (((Jx sites clients) = false → (!(Jx sites clients)) = true)) ∧ ((!(Jq sites clients)) = true → (!(Jq sites clients)) = true) ∧ ((!(Jq sites clients)) = true → PC Try.prog 132 [.sl (.ints clients)] (.one (.d (.bool (J1P clients))))) ∧ ((!(Jq sites clients)) = true → (!(Jq sites clients)) = true) ∧ (true = true) ∧ (((Jq sites clients) = true → true = true)) ∧ (((Jq sites clients) = false → (!(Jq sites clients)) = true)) ∧ (((cond (Jq sites clients) true (!(J1P clients))) = true → (((lfO sites clients).length = 0) ∧ ((lfD sites clients).length = 0) ∧ (false = (J4 sites clients)))) ∧ ((cond (Jq sites clients) true (!(J1P clients))) = false → ((sites.length : Int) = (sites.length : Int)) ∧ ((0 : Int) ≤ (sites.length : Int)) ∧ (((sites.length : Int) : Int) * ((8 : Nat) : Int) ≤ 140737488355328) ∧ ((∃ i' : Int, ∃ op' : ZI, ∃ out' : ZR, (J0L sites clients i' op' out') ∧ (sites = sites) ∧ (clients = clients) ∧ ((clients.length : Int) = (clients.length : Int)) ∧ ((0 : Int) = i') ∧ ((List.replicate ((sites.length : Int).toNat) (0 : Int)) = op') ∧ ((out').length = 0) ∧ ((sites.length : Int).toNat = op'.length) ∧ ((0 : Nat) = out'.length)) ∧ (∀ i : Int, ∀ op : ZI, ∀ out : ZR, (J0L sites clients i op out) → (((decide (i < (clients.length : Int))) = true → ((0 : Int) ≤ i) ∧ ((i : Int) < clients.length) ∧ (i.toNat < clients.length) ∧ ((((∃ row' : ZI, ∃ a' : Int, (J0G sites clients i op out row' a') ∧ (sites = sites) ∧ ((clients.getD i.toNat 0) = (clients.getD i.toNat 0)) ∧ ((0 : Nat) = row'.length) ∧ (clients = clients) ∧ ((clients.length : Int) = (clients.length : Int)) ∧ (i = i) ∧ (sites = sites) ∧ ((sites.length : Int) = (sites.length : Int)) ∧ ((0 : Int) = a') ∧ ([] = row') ∧ (op.length = op.length) ∧ (out.length = out.length) ∧ (op = op) ∧ (out = out)) ∧ (∀ row : ZI, ∀ a : Int, (J0G sites clients i op out row a) → (((decide (a < (sites.length : Int))) = true → ((0 : Int) ≤ a) ∧ ((a : Int) < sites.length) ∧ (a.toNat < sites.length) ∧ (I6 ((clients.getD i.toNat 0) - (sites.getD a.toNat 0))) ∧ (I6 ((sites.getD a.toNat 0) - (clients.getD i.toNat 0))) ∧ (row.length = row.length) ∧ ((1 : Nat) = 1) ∧ ((row.length + 1) * 8 ≤ 140737488355328) ∧ (I6 (a + 1)) ∧ (∃ row' : ZI, ∃ a' : Int, (J0G sites clients i op out row' a') ∧ (J0m sites clients i op out row' a' < J0m sites clients i op out row a) ∧ (sites = sites) ∧ ((clients.getD i.toNat 0) = (clients.getD i.toNat 0)) ∧ ((row.length + 1) = row'.length) ∧ (clients = clients) ∧ ((clients.length : Int) = (clients.length : Int)) ∧ (i = i) ∧ (sites = sites) ∧ ((sites.length : Int) = (sites.length : Int)) ∧ ((a + 1) = a') ∧ ((row ++ [(max ((clients.getD i.toNat 0) - (sites.getD a.toNat 0)) ((sites.getD a.toNat 0) - (clients.getD i.toNat 0)))]) = row') ∧ (op.length = op.length) ∧ (out.length = out.length) ∧ (op = op) ∧ (out = out))) ∧ ((decide (a < (sites.length : Int))) = false → (∃ row2' : ZI, (J0F sites clients i op out row2') ∧ (sites = sites) ∧ (row.length = row.length) ∧ (row = row2') ∧ (clients = clients) ∧ ((clients.length : Int) = (clients.length : Int)) ∧ (i = i) ∧ (op.length = op.length) ∧ (out.length = out.length) ∧ (op = op) ∧ (out = out))))))) ∧ (∀ row2 : ZI, (J0F sites clients i op out row2) → (out.length = out.length) ∧ ((1 : Nat) = 1) ∧ ((out.length + 1) * 24 ≤ 140737488355328) ∧ (I6 (i + 1)) ∧ (∃ i' : Int, ∃ op' : ZI, ∃ out' : ZR, (J0L sites clients i' op' out') ∧ (J0j sites clients i' op' out' < J0j sites clients i op out) ∧ (sites = sites) ∧ (clients = clients) ∧ ((clients.length : Int) = (clients.length : Int)) ∧ ((i + 1) = i') ∧ (op = op') ∧ ((out ++ [row2]) = out') ∧ (op.length = op'.length) ∧ ((out.length + 1) = out'.length))))) ∧ ((decide (i < (clients.length : Int))) = false → ((op.length = op.length) ∧ (out.length = out.length) ∧ ((.agg [.sl (.ints op), .sl (.rows out)] : D) = .agg [.sl (.ints (lfO sites clients)), .sl (.rows (lfD sites clients))]) ∧ (true = (J4 sites clients)))))))))
theorem J6U (sites : ZI) (clients : ZI)  (w_sites : (sites.length : Int) ≤ 9223372036854775807) (w_clients : (clients.length : Int) ≤ 9223372036854775807) : J3Y sites clients := by
  unfold J3Y Jq Jx
  refine ⟨J0R (sites.length : Int) 1 7, id, ?_, id, rfl, fun _ => rfl, ?_, id, id, rfl, fun _ => rfl, ?_, id, fun _ => J1Q clients 0 99, id, rfl, fun _ => rfl, ?_, id, fun _ => J2u clients, id, rfl, fun _ => rfl, ?_, ?_, ?_⟩
  ·intro hg
   refine J3T sites 100 ?_
   ·first | omega | rfl | (intro hg; simp only [nrmT] at hg; omega) | (intro g1 g2; simp [g1, g2]; done) | (intro g1; simp at g1 ⊢; simp [g1]; done) | (simp only [nrmT] at *; omega) | (simp at * <;> omega) | (simp_all <;> omega) | (simp_all; done)
  ·intro h; rw [h]; rfl
  ·intro h; rw [h]; rfl
  ·intro h; rw [h]; rfl
  ·intro h; rw [h]; rfl
  ·intro b1
   refine ⟨?_, ?_, ?_⟩
   ·have hq : J4 sites clients = false := by rw [JG, b1]; rfl
    first | (rw [J4l hq]; rfl) | (rw [J4f hq]; rfl)
   ·have hq : J4 sites clients = false := by rw [JG, b1]; rfl
    first | (rw [J4l hq]; rfl) | (rw [J4f hq]; rfl)
   have hq : J4 sites clients = false := by rw [JG, b1]; rfl
   exact hq.symm
  intro b2
  refine ⟨rfl, ?_, ?_, ?_, ?_⟩
  ·first | omega | rfl | (intro hg; simp only [nrmT] at hg; omega) | (intro g1 g2; simp [g1, g2]; done) | (intro g1; simp at g1 ⊢; simp [g1]; done) | (simp only [nrmT] at *; omega) | (simp at * <;> omega) | (simp_all <;> omega) | (simp_all; done)
  ·have hg : J4 sites clients = true := by rw [JG, b2]; rfl
   obtain ⟨g1, g2, g3, g4, g5⟩ := J1 hg
   have sr := fun (k : Nat) (hk : k < sites.length) => Ji g4 k hk
   omega
  ·refine ⟨0, (List.replicate ((sites.length : Int).toNat) (0 : Int)), ([]), ?_⟩
   refine ⟨?_, rfl, rfl, rfl, rfl, rfl, ?_, ?_, rfl⟩
   ·refine ⟨?_, ?_, ?_, ?_⟩
    ·first | omega | rfl | (intro hg; simp only [nrmT] at hg; omega) | (intro g1 g2; simp [g1, g2]; done) | (intro g1; simp at g1 ⊢; simp [g1]; done) | (simp only [nrmT] at *; omega) | (simp at * <;> omega) | (simp_all <;> omega) | (simp_all; done)
    ·first | omega | rfl | (intro hg; simp only [nrmT] at hg; omega) | (intro g1 g2; simp [g1, g2]; done) | (intro g1; simp at g1 ⊢; simp [g1]; done) | (simp only [nrmT] at *; omega) | (simp at * <;> omega) | (simp_all <;> omega) | (simp_all; done)
    ·rw [Int.toNat_natCast]
    ·first | omega | rfl | (intro hg; simp only [nrmT] at hg; omega) | (intro g1 g2; simp [g1, g2]; done) | (intro g1; simp at g1 ⊢; simp [g1]; done) | (simp only [nrmT] at *; omega) | (simp at * <;> omega) | (simp_all <;> omega) | (simp_all; done)
   ·first | omega | rfl | (intro hg; simp only [nrmT] at hg; omega) | (intro g1 g2; simp [g1, g2]; done) | (intro g1; simp at g1 ⊢; simp [g1]; done) | (simp only [nrmT] at *; omega) | (simp at * <;> omega) | (simp_all <;> omega) | (simp_all; done)
   first | omega | rfl | (intro hg; simp only [nrmT] at hg; omega) | (intro g1 g2; simp [g1, g2]; done) | (intro g1; simp at g1 ⊢; simp [g1]; done) | (simp only [nrmT] at *; omega) | (simp at * <;> omega) | (simp_all <;> omega) | (simp_all; done)
  intro i op out hJ
  obtain ⟨h1, h2, hop, h3⟩ := hJ
  refine ⟨?_, ?_⟩
  ·intro b3
   try simp only [nrmT] at b3
   refine ⟨?_, ?_, ?_, ?_, ?_⟩
   ·first | omega | rfl | (intro hg; simp only [nrmT] at hg; omega) | (intro g1 g2; simp [g1, g2]; done) | (intro g1; simp at g1 ⊢; simp [g1]; done) | (simp only [nrmT] at *; omega) | (simp at * <;> omega) | (simp_all <;> omega) | (simp_all; done)
   ·first | omega | rfl | (intro hg; simp only [nrmT] at hg; omega) | (intro g1 g2; simp [g1, g2]; done) | (intro g1; simp at g1 ⊢; simp [g1]; done) | (simp only [nrmT] at *; omega) | (simp at * <;> omega) | (simp_all <;> omega) | (simp_all; done)
   ·first | omega | rfl | (intro hg; simp only [nrmT] at hg; omega) | (intro g1 g2; simp [g1, g2]; done) | (intro g1; simp at g1 ⊢; simp [g1]; done) | (simp only [nrmT] at *; omega) | (simp at * <;> omega) | (simp_all <;> omega) | (simp_all; done)
   ·refine ⟨?_, ?_⟩
    ·refine ⟨([]), 0, ?_⟩
     refine ⟨?_, rfl, rfl, rfl, rfl, rfl, rfl, rfl, rfl, rfl, ?_, rfl, rfl, rfl, rfl⟩
     ·refine ⟨?_, ?_, ?_⟩
      ·first | omega | rfl | (intro hg; simp only [nrmT] at hg; omega) | (intro g1 g2; simp [g1, g2]; done) | (intro g1; simp at g1 ⊢; simp [g1]; done) | (simp only [nrmT] at *; omega) | (simp at * <;> omega) | (simp_all <;> omega) | (simp_all; done)
      ·first | omega | rfl | (intro hg; simp only [nrmT] at hg; omega) | (intro g1 g2; simp [g1, g2]; done) | (intro g1; simp at g1 ⊢; simp [g1]; done) | (simp only [nrmT] at *; omega) | (simp at * <;> omega) | (simp_all <;> omega) | (simp_all; done)
      ·first | omega | rfl | (intro hg; simp only [nrmT] at hg; omega) | (intro g1 g2; simp [g1, g2]; done) | (intro g1; simp at g1 ⊢; simp [g1]; done) | (simp only [nrmT] at *; omega) | (simp at * <;> omega) | (simp_all <;> omega) | (simp_all; done)
     first | omega | rfl | (intro hg; simp only [nrmT] at hg; omega) | (intro g1 g2; simp [g1, g2]; done) | (intro g1; simp at g1 ⊢; simp [g1]; done) | (simp only [nrmT] at *; omega) | (simp at * <;> omega) | (simp_all <;> omega) | (simp_all; done)
    ·intro row a hJ
     obtain ⟨h4, h5, h6⟩ := hJ
     refine ⟨?_, ?_⟩
     ·intro b4
      try simp only [nrmT] at b4
      refine ⟨?_, ?_, ?_, ?_, ?_, rfl, rfl, ?_, ?_, ?_⟩
      ·first | omega | rfl | (intro hg; simp only [nrmT] at hg; omega) | (intro g1 g2; simp [g1, g2]; done) | (intro g1; simp at g1 ⊢; simp [g1]; done) | (simp only [nrmT] at *; omega) | (simp at * <;> omega) | (simp_all <;> omega) | (simp_all; done)
      ·first | omega | rfl | (intro hg; simp only [nrmT] at hg; omega) | (intro g1 g2; simp [g1, g2]; done) | (intro g1; simp at g1 ⊢; simp [g1]; done) | (simp only [nrmT] at *; omega) | (simp at * <;> omega) | (simp_all <;> omega) | (simp_all; done)
      ·first | omega | rfl | (intro hg; simp only [nrmT] at hg; omega) | (intro g1 g2; simp [g1, g2]; done) | (intro g1; simp at g1 ⊢; simp [g1]; done) | (simp only [nrmT] at *; omega) | (simp at * <;> omega) | (simp_all <;> omega) | (simp_all; done)
      ·have hg : J4 sites clients = true := by rw [JG, b2]; rfl
       obtain ⟨g1, g2, g3, g4, g5⟩ := J1 hg
       have sr := fun (k : Nat) (hk : k < sites.length) => Ji g4 k hk
       have q1 := g5 i.toNat (by omega)
       have q2 := sr a.toNat (by omega)
       omega
      ·have hg : J4 sites clients = true := by rw [JG, b2]; rfl
       obtain ⟨g1, g2, g3, g4, g5⟩ := J1 hg
       have sr := fun (k : Nat) (hk : k < sites.length) => Ji g4 k hk
       have q1 := g5 i.toNat (by omega)
       have q2 := sr a.toNat (by omega)
       omega
      ·have hg0 : J4 sites clients = true := by first | exact hg | (rw [JG, b2]; rfl)
       obtain ⟨q1, q2, q3, q4, q5⟩ := J1 hg0
       rw [h6, tabTo_len]; omega
      ·first | omega | rfl | (intro hg; simp only [nrmT] at hg; omega) | (intro g1 g2; simp [g1, g2]; done) | (intro g1; simp at g1 ⊢; simp [g1]; done) | (simp only [nrmT] at *; omega) | (simp at * <;> omega) | (simp_all <;> omega) | (simp_all; done)
      refine ⟨(row ++ [(max ((clients.getD i.toNat 0) - (sites.getD a.toNat 0)) ((sites.getD a.toNat 0) - (clients.getD i.toNat 0)))]), (a + 1), ?_⟩
      refine ⟨?_, ?_, rfl, rfl, ?_, rfl, rfl, rfl, rfl, rfl, rfl, rfl, rfl, rfl, rfl, rfl⟩
      ·refine ⟨?_, ?_, ?_⟩
       ·first | omega | rfl | (intro hg; simp only [nrmT] at hg; omega) | (intro g1 g2; simp [g1, g2]; done) | (intro g1; simp at g1 ⊢; simp [g1]; done) | (simp only [nrmT] at *; omega) | (simp at * <;> omega) | (simp_all <;> omega) | (simp_all; done)
       ·first | omega | rfl | (intro hg; simp only [nrmT] at hg; omega) | (intro g1 g2; simp [g1, g2]; done) | (intro g1; simp at g1 ⊢; simp [g1]; done) | (simp only [nrmT] at *; omega) | (simp at * <;> omega) | (simp_all <;> omega) | (simp_all; done)
       ·rw [show (a + 1).toNat = a.toNat + 1 by omega, tabTo_succ, h6]
      ·first | (show _ < _; omega) | (simp only [J0m]; omega) | (simp only [J0m] at *; simp at *; omega)
      first | omega | rfl | (intro hg; simp only [nrmT] at hg; omega) | (intro g1 g2; simp [g1, g2]; done) | (intro g1; simp at g1 ⊢; simp [g1]; done) | (simp only [nrmT] at *; omega) | (simp at * <;> omega) | (simp_all <;> omega) | (simp_all; done)
     intro b5
     try simp only [nrmT] at b5
     refine ⟨row, ?_⟩
     refine ⟨?_, rfl, rfl, rfl, rfl, rfl, rfl, rfl, rfl, rfl, rfl⟩
     ·unfold J0F
      rw [h6, show a.toNat = sites.length by omega]; rfl
   intro row2 hJ
   have h8 := hJ
   refine ⟨rfl, rfl, ?_, ?_, ?_⟩
   ·have hg0 : J4 sites clients = true := by first | exact hg | (rw [JG, b2]; rfl)
    obtain ⟨q1, q2, q3, q4, q5⟩ := J1 hg0
    rw [h3, tabTo_len]; omega
   ·first | omega | rfl | (intro hg; simp only [nrmT] at hg; omega) | (intro g1 g2; simp [g1, g2]; done) | (intro g1; simp at g1 ⊢; simp [g1]; done) | (simp only [nrmT] at *; omega) | (simp at * <;> omega) | (simp_all <;> omega) | (simp_all; done)
   refine ⟨(i + 1), op, (out ++ [row2]), ?_⟩
   refine ⟨?_, ?_, rfl, rfl, rfl, rfl, rfl, rfl, rfl, ?_⟩
   ·refine ⟨?_, ?_, ?_, ?_⟩
    ·first | omega | rfl | (intro hg; simp only [nrmT] at hg; omega) | (intro g1 g2; simp [g1, g2]; done) | (intro g1; simp at g1 ⊢; simp [g1]; done) | (simp only [nrmT] at *; omega) | (simp at * <;> omega) | (simp_all <;> omega) | (simp_all; done)
    ·first | omega | rfl | (intro hg; simp only [nrmT] at hg; omega) | (intro g1 g2; simp [g1, g2]; done) | (intro g1; simp at g1 ⊢; simp [g1]; done) | (simp only [nrmT] at *; omega) | (simp at * <;> omega) | (simp_all <;> omega) | (simp_all; done)
    ·first | omega | rfl | (intro hg; simp only [nrmT] at hg; omega) | (intro g1 g2; simp [g1, g2]; done) | (intro g1; simp at g1 ⊢; simp [g1]; done) | (simp only [nrmT] at *; omega) | (simp at * <;> omega) | (simp_all <;> omega) | (simp_all; done)
    ·rw [h8, show (i + 1).toNat = i.toNat + 1 by omega, tabTo_succ, h3]
   ·first | (show _ < _; omega) | (simp only [J0j]; omega) | (simp only [J0j] at *; simp at *; omega)
   first | omega | rfl | (intro hg; simp only [nrmT] at hg; omega) | (intro g1 g2; simp [g1, g2]; done) | (intro g1; simp at g1 ⊢; simp [g1]; done) | (simp only [nrmT] at *; omega) | (simp at * <;> omega) | (simp_all <;> omega) | (simp_all; done)
  intro b6
  try simp only [nrmT] at b6
  refine ⟨rfl, rfl, ?_, ?_⟩
  ·have hg : J4 sites clients = true := by rw [JG, b2]; rfl
   rw [hop, h3, show i.toNat = clients.length by omega, J1c hg, J1H hg]; rfl
  have hg : J4 sites clients = true := by rw [JG, b2]; rfl
  exact hg.symm
theorem J2k (sites : ZI) (clients : ZI)  : PC Try.prog 39 [.sl (.ints sites), .sl (.ints clients)] (.tup [.d (.agg [.sl (.ints (lfO sites clients)), .sl (.rows (lfD sites clients))]), .d (.bool (J4 sites clients))]) :=
  pc_wf @Try.call39 fun hw => pc_by (by kernel_rfl) Try.func39 @Try.call39 (by kernel_rfl) J7s (J7B sites clients) (by kernel_rfl) (J6U sites clients hw.1 hw.2.1) (by kernel_rfl)
def J24 : List D → Orc := orcN [some .ints, some .ints] fun ds => match ds with
  | [.sl (.ints sites), .sl (.ints clients)] => some (.tup [.d (.agg [.sl (.ints (lfO sites clients)), .sl (.rows (lfD sites clients))]), .d (.bool (J4 sites clients))])
  | _ => none
def J7z (f : FuncId) (ds : List D) : Orc := bif Nat.beq f 137 then J31 ds else bif Nat.beq f 138 then J36 ds else .no
def J7A (sites : ZI) (clients : ZI) : Ann := .none
def J3S (sites : ZI) (clients : ZI) : Prop :=
  (PC Try.prog 137 [.sl (.ints sites), .sl (.ints clients)] (.one (.d (.bool (J4 sites clients))))) ∧ (((!(J4 sites clients)) = true → (((lfO sites clients).length = 0) ∧ ((lfD sites clients).length = 0) ∧ (false = (J4 sites clients)))) ∧ ((!(J4 sites clients)) = false → (PC Try.prog 138 [.sl (.ints sites), .sl (.ints clients)] (.one (.d (.agg [.sl (.ints (List.replicate sites.length 0)), .sl (.rows (J6 sites clients))])))) ∧ (((.agg [.sl (.ints (List.replicate sites.length 0)), .sl (.rows (J6 sites clients))] : D) = .agg [.sl (.ints (lfO sites clients)), .sl (.rows (lfD sites clients))]) ∧ (true = (J4 sites clients)))))
theorem J6f (sites : ZI) (clients : ZI)  (w_sites : (sites.length : Int) ≤ 9223372036854775807) (w_clients : (clients.length : Int) ≤ 9223372036854775807) : J3S sites clients := by
  unfold J3S
  refine ⟨J3y sites clients, ?_, ?_⟩
  ·intro b1
   try simp only [nrmT] at b1
   refine ⟨?_, ?_, ?_⟩
   ·first | (rw [J4l b1]; rfl) | (rw [J4f b1]; rfl)
   ·first | (rw [J4l b1]; rfl) | (rw [J4f b1]; rfl)
   exact b1.symm
  intro b2
  try simp only [nrmT] at b2
  refine ⟨?_, ?_, ?_⟩
  ·refine J3B sites clients ?_
   ·exact b2
  ·rw [J1c b2, J1H b2]
  exact b2.symm
theorem J6R (sites : ZI) (clients : ZI)  : PC Try.prog 72 [.sl (.ints sites), .sl (.ints clients)] (.tup [.d (.agg [.sl (.ints (lfO sites clients)), .sl (.rows (lfD sites clients))]), .d (.bool (J4 sites clients))]) :=
  pc_wf @Try.call72 fun hw => pc_by (by kernel_rfl) Try.func72 @Try.call72 (by kernel_rfl) J7z (J7A sites clients) (by kernel_rfl) (J6f sites clients hw.1 hw.2.1) (by kernel_rfl)
def J5X : List D → Orc := orcN [some .ints, some .ints] fun ds => match ds with
  | [.sl (.ints sites), .sl (.ints clients)] => some (.tup [.d (.agg [.sl (.ints (lfO sites clients)), .sl (.rows (lfD sites clients))]), .d (.bool (J4 sites clients))])
  | _ => none
def Jm (a b : ZI) : Int := if J0e (a.length : Int) (b.length : Int) = 0 then Jl a b else J0e (a.length : Int) (b.length : Int)
theorem J6W : ∀ x : ZI, Jl x x = 0
  | [] => rfl
  | x :: r => by unfold Jl; rw [if_neg (by omega), if_neg (by omega)]; exact J6W r
theorem J71 : ∀ {x y : ZI}, Jl x y = 0 → x = y
  | [], [], _ => rfl
  | [], _ :: _, h => by simp [Jl] at h
  | _ :: _, [], h => by simp [Jl] at h
  | x :: r, y :: s, h => by
    unfold Jl at h
    by_cases h1 : x < y
    · rw [if_pos h1] at h; omega
    rw [if_neg h1] at h
    by_cases h2 : x > y
    · rw [if_pos h2] at h; omega
    rw [if_neg h2] at h
    have : x = y := by omega
    rw [this, J71 h]
theorem J77 : ∀ {x y : ZI}, Jl x y < 0 ↔ 0 < Jl y x
  | [], [] => by simp [Jl]
  | [], _ :: _ => by simp [Jl]
  | _ :: _, [] => by simp [Jl]
  | x :: r, y :: s => by
    unfold Jl
    by_cases h1 : x < y
    · rw [if_pos h1, if_neg (by omega), if_pos (by omega)]; omega
    rw [if_neg h1]
    by_cases h2 : x > y
    · rw [if_pos h2, if_pos (by omega)]; omega
    rw [if_neg h2, if_neg (by omega), if_neg (by omega)]; exact J77
theorem J8N : ∀ {x y z : ZI}, Jl x y < 0 → Jl y z < 0 → Jl x z < 0
  | [], _, [], h1, h2 => by
    exfalso
    rename_i y
    cases y with
    | nil => simp [Jl] at h1
    | cons y s => simp [Jl] at h2
  | [], _, _ :: _, _, _ => by simp [Jl]
  | _ :: _, [], _, h, _ => by simp [Jl] at h
  | _ :: _, _ :: _, [], _, h => by simp [Jl] at h
  | x :: r, y :: s, z :: t, h1, h2 => by
    unfold Jl at h1 h2 ⊢
    by_cases a1 : x < y
    · by_cases a2 : y < z
      · rw [if_pos (by omega)]; omega
      · rw [if_neg a2] at h2
        by_cases a3 : y > z
        · rw [if_pos a3] at h2; omega
        rw [if_pos (by omega)]; omega
    rw [if_neg a1] at h1
    by_cases a4 : x > y
    · rw [if_pos a4] at h1; omega
    rw [if_neg a4] at h1
    by_cases a2 : y < z
    · rw [if_pos (by omega)]; omega
    rw [if_neg a2] at h2
    by_cases a3 : y > z
    · rw [if_pos a3] at h2; omega
    rw [if_neg a3] at h2
    rw [if_neg (by omega), if_neg (by omega)]
    exact J8N h1 h2
theorem JT (a b : ZI) : (a.length < b.length ∧ Jm a b < 0) ∨ (b.length < a.length ∧ 0 < Jm a b) ∨ (a.length = b.length ∧ Jm a b = Jl a b) := by
  unfold Jm J0e
  by_cases h1 : (a.length : Int) < b.length
  · rw [if_pos h1]; left; exact ⟨by omega, by rw [if_neg (by omega)]; omega⟩
  rw [if_neg h1]
  by_cases h2 : (a.length : Int) > b.length
  · rw [if_pos h2]; right; left; exact ⟨by omega, by rw [if_neg (by omega)]; omega⟩
  rw [if_neg h2]; right; right; exact ⟨by omega, by rw [if_pos rfl]⟩
theorem J79 (a : ZI) : Jm a a = 0 := by
  rcases JT a a with h | h | h
  · omega
  · omega
  rw [h.2, J6W]
theorem J7a {a b : ZI} (h : Jm a b = 0) : a = b := by
  rcases JT a b with h1 | h1 | h1
  · omega
  · omega
  exact J71 (h1.2 ▸ h)
theorem J4i {a b : ZI} : Jm a b < 0 ↔ 0 < Jm b a := by
  rcases JT a b with h1 | h1 | h1 <;> rcases JT b a with h2 | h2 | h2
  · omega
  · omega
  · omega
  · omega
  · omega
  · omega
  · omega
  · omega
  rw [h1.2, h2.2]; exact J77
theorem J8K {a b c : ZI} (h : Jm a b < 0) (k : Jm b c < 0) : Jm a c < 0 := by
  rcases JT a b with h1 | h1 | h1 <;> rcases JT b c with h2 | h2 | h2 <;> rcases JT a c with h3 | h3 | h3
  all_goals first | omega | (rw [h3.2]; exact J8N (h1.2 ▸ h) (h2.2 ▸ k))
theorem J9R {β : Type} {c : β → β → Int} (hs : ∀ x, c x x = 0) (h0 : ∀ {x y}, c x y = 0 → x = y) (hf : ∀ {x y}, c x y < 0 ↔ 0 < c y x) (ht : ∀ {x y z}, c x y < 0 → c y z < 0 → c x z < 0) :
    Go.Sort.SWO (ltOf c) ∧ ∀ x y, ltOf c x y = false → ltOf c y x = false → x = y := by
  refine ⟨⟨fun x => ?_, fun x y z h1 h2 => ?_, fun x y z h1 h2 => ?_⟩, fun x y h1 h2 => ?_⟩
  · exact decide_eq_false (by rw [hs]; omega)
  · exact decide_eq_true (ht (of_decide_eq_true h1) (of_decide_eq_true h2))
  · have h1 := of_decide_eq_false h1
    have h2 := of_decide_eq_false h2
    refine decide_eq_false fun h3 => ?_
    by_cases e1 : c x y = 0
    · rw [h0 e1] at h3; omega
    by_cases e2 : c y z = 0
    · rw [← h0 e2] at h3; omega
    · have a1 : c y x < 0 := hf.2 (by omega)
      have a2 : c z y < 0 := hf.2 (by omega)
      have a3 := ht a2 a1
      have a4 := hf.1 h3
      omega
  have h1 := of_decide_eq_false h1
  have h2 := of_decide_eq_false h2
  refine h0 ?_
  by_cases e1 : 0 < c x y
  · have := hf.2 e1; omega
  omega
theorem Ja9 : Go.Sort.SWO (ltOf Jm) := (J9R J79 J7a J4i J8K).1
theorem JaU : ∀ x y, ltOf Jm x y = false → ltOf Jm y x = false → x = y := (J9R J79 J7a J4i J8K).2
def orI : ZI → Int
  | [] => 0
  | x :: r => if x = 0 then orI r else x
theorem J7T {xs : ZI} {i : Nat} (h : orI xs = orI (xs.drop i)) (hi : i < xs.length) : orI xs = if xs.getD i 0 = 0 then orI (xs.drop (i + 1)) else xs.getD i 0 := by
  rw [h, List.drop_eq_getElem_cons hi, JR hi]; rfl
theorem JaQ {xs : ZI} {i : Nat} (h : orI xs = orI (xs.drop i)) (hi : xs.length ≤ i) : orI xs = 0 := by
  rw [h, List.drop_eq_nil_of_le hi]; rfl
theorem JaC (a b : Int) : orI [a, b] = if a = 0 then b else a := by
  unfold orI orI orI
  by_cases h : b = 0
  · rw [if_pos h, h]
  rw [if_neg h]
def J2g (n m : Nat) : ZR := (List.range m).map fun c => lst n (c + 1)
def J8 (n : Nat) : ZR := (J2g n (2 ^ n - 1)).mergeSort fun x9 y9 => !(ltOf Jm) y9 x9
theorem J0o (n m : Nat) : (J2g n m).length = m := by simp [J2g]
theorem J76 (n : Nat) : (J8 n).length = 2 ^ n - 1 := by unfold J8; rw [List.length_mergeSort, J0o]
theorem J78 (n m : Nat) : J2g n (m + 1) = J2g n m ++ [lst n (m + 1)] := by simp [J2g, List.range_succ]
theorem J3s {n : Nat} {s : ZI} : s ∈ J8 n ↔ ∃ c, 1 ≤ c ∧ c < 2 ^ n ∧ lst n c = s := by
  unfold J8
  rw [(List.mergeSort_perm _ _).mem_iff, J2g, List.mem_map]
  constructor
  · rintro ⟨c, hc, rfl⟩
    have := List.mem_range.1 hc
    exact ⟨c + 1, by omega, by omega, rfl⟩
  rintro ⟨c, h1, h2, rfl⟩
  exact ⟨c - 1, List.mem_range.2 (by omega), by rw [show c - 1 + 1 = c by omega]⟩
theorem JaD {n c : Nat} (h1 : 1 ≤ c) (h2 : c < 2 ^ n) : 0 < (lst n c).length := by
  rcases Nat.eq_zero_or_pos (lst n c).length with h | h
  · exfalso
    have e : lst n c = [] := List.eq_nil_of_length_eq_zero h
    have : c = 0 := by
      apply Nat.eq_of_testBit_eq
      intro i
      rw [Nat.zero_testBit]
      by_cases hi : i < n
      · cases hb : c.testBit i with
        | false => rfl
        | true =>
          have hm : (i : Int) ∈ lst n c := mem_members.2 ⟨by omega, by omega, by rw [Int.toNat_natCast]; exact hb⟩
          rw [e] at hm; cases hm
      exact Nat.testBit_lt_two_pow (Nat.lt_of_lt_of_le h2 (Nat.pow_le_pow_right (by omega) (by omega)))
    omega
  exact h
theorem JaT {n c : Nat} (hn : n ≤ 62) (h : c < 2 ^ n) : members (fun k => c.testBit k) 62 = lst n c :=
  J27 (fun k hk => Nat.testBit_lt_two_pow (Nat.lt_of_lt_of_le h (Nat.pow_le_pow_right (by omega) hk))) 62 hn
theorem J8T {out : ZR} {s : ZI} {k : Nat} (ho : out.Pairwise fun x9 y9 => ltOf Jm y9 x9 = false) (hk : k ≤ out.length) (h1 : ∀ j, k ≤ j → j < out.length → Jm s (out.getD j []) < 0) (h2 : k = 0 ∨ ¬ Jm s (out.getD (k - 1) []) < 0) :
    ((out.take k ++ [s]) ++ out.drop k).Pairwise fun x9 y9 => ltOf Jm y9 x9 = false := by
  have hle : ∀ x ∈ out.take k, ltOf Jm s x = false := by
    intro x hx
    obtain ⟨j, hj, rfl⟩ := List.mem_iff_getElem.1 hx
    have hj' : j < k ∧ j < out.length := by rw [List.length_take] at hj; omega
    rcases h2 with h2 | h2
    · omega
    have hs : ltOf Jm s (out.getD (k - 1) []) = false := decide_eq_false h2
    by_cases e : j = k - 1
    · subst e; rw [JR (by omega)] at hs; simpa using hs
    have := List.pairwise_iff_getElem.1 ho j (k - 1) (by omega) (by omega) (by omega)
    rw [JR (by omega)] at hs
    simpa using Ja9.ntrans _ _ _ hs this
  have hgt : ∀ y ∈ out.drop k, ltOf Jm y s = false := by
    intro y hy
    obtain ⟨j, hj, rfl⟩ := List.mem_iff_getElem.1 hy
    have hj' : k + j < out.length := by rw [List.length_drop] at hj; omega
    have := h1 (k + j) (by omega) hj'
    rw [JR hj'] at this
    rw [List.getElem_drop]
    refine decide_eq_false fun h => ?_
    have := J4i.1 h
    omega
  refine List.pairwise_append.2 ⟨List.pairwise_append.2 ⟨ho.sublist (List.take_sublist _ _), by simp, fun a ha b hb => ?_⟩, ho.sublist (List.drop_sublist _ _), fun a ha b hb => ?_⟩
  · have : b = s := by simpa using hb
    subst this; exact hle a ha
  rcases List.mem_append.1 ha with ha | ha
  · obtain ⟨i, hi, rfl⟩ := List.mem_iff_getElem.1 ha
    obtain ⟨j, hj, rfl⟩ := List.mem_iff_getElem.1 hb
    have hi' : i < k ∧ i < out.length := by rw [List.length_take] at hi; omega
    have hj' : k + j < out.length := by rw [List.length_drop] at hj; omega
    have := List.pairwise_iff_getElem.1 ho i (k + j) hi'.2 hj' (by omega)
    simpa using this
  · have : a = s := by simpa using ha
    subst this; exact hgt b hb
theorem Jar {out : ZR} {s : ZI} {n m k : Nat} (hp : out.Perm (J2g n m)) (hs : s = lst n (m + 1)) : ((out.take k ++ [s]) ++ out.drop k).Perm (J2g n (m + 1)) := by
  rw [J78, ← hs, List.append_assoc]
  refine List.Perm.trans (List.perm_append_comm_assoc _ _ _) ?_
  refine List.Perm.trans ?_ (List.perm_append_comm)
  rw [List.take_append_drop]
  exact hp.append_left [s]
theorem J9z {out : ZR} {n m : Nat} (hp : out.Perm (J2g n m)) (hm : m = 2 ^ n - 1) (ho : out.Pairwise fun x9 y9 => ltOf Jm y9 x9 = false) : out = J8 n := by
  subst hm
  exact sortedBy_unique Ja9 JaU hp ho
abbrev J0D (xs : ZI) (i : Int) : Prop := (0 ≤ i) ∧ (i ≤ (xs.length : Int)) ∧ (orI xs = orI (xs.drop i.toNat))
abbrev J0I (xs : ZI) (i : Int) : Nat := (xs.length - i).toNat
def J7p (f : FuncId) (ds : List D) : Orc := .no
def J7r (xs : ZI) : Ann := .two (.none) (.two (.none) (.two (.two (.none) (.loop (cut1 (fun (i : Int) => J0D xs i) (fun (i : Int) => [(3, .d true (.int .i64 0)), (6, .d false (.sl (.ints xs))), (7, .d true (.int .i64 (xs.length : Int))), (8, .d true (.int .i64 i))]) (fun (i : Int) => [])) (fun g => J0I xs g) (fun _ => .none))) (.none)))
def J3U (xs : ZI) : Prop :=
  ((∃ i' : Int, (J0D xs i') ∧ ((0 : Int) = 0) ∧ (xs = xs) ∧ ((xs.length : Int) = (xs.length : Int)) ∧ ((0 : Int) = i')) ∧ (∀ i : Int, (J0D xs i) → (((decide (i < (xs.length : Int))) = true → ((0 : Int) ≤ i) ∧ ((i : Int) < xs.length) ∧ (i.toNat < xs.length) ∧ ((((xs.getD i.toNat 0) != 0) = true → (((xs.getD i.toNat 0) = (orI xs)))) ∧ (((xs.getD i.toNat 0) != 0) = false → (I6 (i + 1)) ∧ (∃ i' : Int, (J0D xs i') ∧ (J0I xs i' < J0I xs i) ∧ ((0 : Int) = 0) ∧ (xs = xs) ∧ ((xs.length : Int) = (xs.length : Int)) ∧ ((i + 1) = i'))))) ∧ ((decide (i < (xs.length : Int))) = false → (((0 : Int) = (orI xs)))))))
theorem J6N (xs : ZI)  (w_xs : (xs.length : Int) ≤ 9223372036854775807) : J3U xs := by
  unfold J3U
  refine ⟨?_, ?_⟩
  ·refine ⟨0, ?_⟩
   refine ⟨?_, rfl, rfl, rfl, rfl⟩
   ·refine ⟨?_, ?_, ?_⟩
    ·omega
    ·omega
    ·rfl
  intro i hJ
  obtain ⟨h1, h2, h3⟩ := hJ
  refine ⟨?_, ?_⟩
  ·intro b1
   try simp only [nrmT] at b1
   refine ⟨?_, ?_, ?_, ?_, ?_⟩
   ·omega
   ·omega
   ·omega
   ·intro b2
    try simp only [nrmT] at b2
    rw [J7T h3 (by omega), if_neg (by omega)]
   intro b3
   try simp only [nrmT] at b3
   refine ⟨?_, ?_⟩
   ·omega
   refine ⟨(i + 1), ?_⟩
   refine ⟨?_, ?_, rfl, rfl, rfl, rfl⟩
   ·refine ⟨?_, ?_, ?_⟩
    ·omega
    ·omega
    ·rw [J7T h3 (by omega), if_pos (by omega), show (i + 1).toNat = i.toNat + 1 by omega]
   (simp only [J0I]; omega)
  intro b4
  try simp only [nrmT] at b4
  exact (JaQ h3 (by omega)).symm
theorem J6k (xs : ZI)  : PC Try.prog 234 [.sl (.ints xs)] (.one (.d (.int .i64 (orI xs)))) :=
  pc_wf @Try.call234 fun hw => pc_by (by kernel_rfl) Try.func234 @Try.call234 (by kernel_rfl) J7p (J7r xs) (by kernel_rfl) (J6N xs hw.1) (by kernel_rfl)
def J5Y : List D → Orc := orcN [some .ints] fun ds => match ds with
  | [.sl (.ints xs)] => some (.one (.d (.int .i64 (orI xs))))
  | _ => none
def J5u (f : FuncId) (ds : List D) : Orc := bif Nat.beq f 235 then J1V ds else bif Nat.beq f 236 then J2C ds else bif Nat.beq f 234 then J5Y ds else .no
def J5R (xs : ZI) (ys : ZI) : Ann := .none
def J3n (xs : ZI) (ys : ZI) : Prop :=
  (PC Try.prog 235 [.int .i64 (xs.length : Int), .int .i64 (ys.length : Int)] (.one (.d (.int .i64 (J0e (xs.length : Int) (ys.length : Int)))))) ∧ (PC Try.prog 236 [.sl (.ints xs), .sl (.ints ys)] (.one (.d (.int .i64 (Jl xs ys))))) ∧ ((2 : Nat) = 2) ∧ (PC Try.prog 234 [.sl (.ints ([(J0e (xs.length : Int) (ys.length : Int)), (Jl xs ys)]))] (.one (.d (.int .i64 (orI ([(J0e (xs.length : Int) (ys.length : Int)), (Jl xs ys)])))))) ∧ (((orI ([(J0e (xs.length : Int) (ys.length : Int)), (Jl xs ys)])) = (Jm xs ys)))
theorem J4V (xs : ZI) (ys : ZI)  (w_xs : (xs.length : Int) ≤ 9223372036854775807) (w_ys : (ys.length : Int) ≤ 9223372036854775807) : J3n xs ys := by
  unfold J3n
  refine ⟨J2d (xs.length : Int) (ys.length : Int), J2K xs ys, rfl, J6k ([(J0e (xs.length : Int) (ys.length : Int)), (Jl xs ys)]), ?_⟩
  ·rw [JaC]; rfl
theorem J57 (xs : ZI) (ys : ZI)  : PC Try.prog 208 [.sl (.ints xs), .sl (.ints ys)] (.one (.d (.int .i64 (Jm xs ys)))) :=
  pc_wf @Try.call208 fun hw => pc_by (by kernel_rfl) Try.func208 @Try.call208 (by kernel_rfl) J5u (J5R xs ys) (by kernel_rfl) (J4V xs ys hw.1 hw.2.1) (by kernel_rfl)
abbrev J17 (xs : ZI) (ys : ZI) (i : Int) : Prop := (0 ≤ i) ∧ (i ≤ (xs.length : Int)) ∧ (xs.length = ys.length) ∧ (Jl xs ys = Jl (xs.drop i.toNat) (ys.drop i.toNat))
abbrev J13 (xs : ZI) (ys : ZI) (i : Int) : Nat := (xs.length - i).toNat
def J7Y (f : FuncId) (ds : List D) : Orc := .no
def J7S (xs : ZI) (ys : ZI) : Ann := .two (.none) (.two (.none) (.two (.two (.none) (.loop (cut1 (fun (i : Int) => J17 xs ys i) (fun (i : Int) => [(0, .d false (.sl (.ints xs))), (1, .d false (.sl (.ints ys))), (5, .d true (.int .i64 i))]) (fun (i : Int) => [])) (fun g => J13 xs ys g) (fun _ => .none))) (.none)))
def J4q (xs : ZI) (ys : ZI) : Prop :=
  ((((xs.length : Int) != (ys.length : Int)) = true → (((decide ((xs.length : Int) < (ys.length : Int))) = (decide (Jm xs ys < 0))))) ∧ (((xs.length : Int) != (ys.length : Int)) = false → ((∃ i' : Int, (J17 xs ys i') ∧ (xs = xs) ∧ (ys = ys) ∧ ((0 : Int) = i')) ∧ (∀ i : Int, (J17 xs ys i) → (((decide (i < (xs.length : Int))) = true → (true = true) ∧ ((0 : Int) ≤ i) ∧ ((i : Int) < xs.length) ∧ (i.toNat < xs.length) ∧ ((0 : Int) ≤ i) ∧ ((i : Int) < ys.length) ∧ (i.toNat < ys.length) ∧ ((((xs.getD i.toNat 0) != (ys.getD i.toNat 0)) = true → (true = true) ∧ ((0 : Int) ≤ i) ∧ ((i : Int) < xs.length) ∧ (i.toNat < xs.length) ∧ ((0 : Int) ≤ i) ∧ ((i : Int) < ys.length) ∧ (i.toNat < ys.length) ∧ (((decide ((xs.getD i.toNat 0) < (ys.getD i.toNat 0))) = (decide (Jm xs ys < 0))))) ∧ (((xs.getD i.toNat 0) != (ys.getD i.toNat 0)) = false → (I6 (i + 1)) ∧ (∃ i' : Int, (J17 xs ys i') ∧ (J13 xs ys i' < J13 xs ys i) ∧ (xs = xs) ∧ (ys = ys) ∧ ((i + 1) = i'))))) ∧ ((decide (i < (xs.length : Int))) = false → ((false = (decide (Jm xs ys < 0))))))))))
theorem J7x (xs : ZI) (ys : ZI)  (w_xs : (xs.length : Int) ≤ 9223372036854775807) (w_ys : (ys.length : Int) ≤ 9223372036854775807) : J4q xs ys := by
  unfold J4q
  refine ⟨?_, ?_⟩
  ·intro b1
   try simp only [nrmT] at b1
   rcases JT xs ys with h | h | h
   · rw [decide_eq_true h.2, decide_eq_true (by omega)]
   · rw [decide_eq_false (by omega), decide_eq_false (by omega)]
   omega
  intro b2
  try simp only [nrmT] at b2
  refine ⟨?_, ?_⟩
  ·refine ⟨0, ?_⟩
   refine ⟨?_, rfl, rfl, rfl⟩
   ·refine ⟨?_, ?_, ?_, ?_⟩
    ·omega
    ·omega
    ·omega
    ·rfl
  intro i hJ
  obtain ⟨h1, h2, hl, h3⟩ := hJ
  refine ⟨?_, ?_⟩
  ·intro b3
   try simp only [nrmT] at b3
   refine ⟨rfl, ?_, ?_, ?_, ?_, ?_, ?_, ?_, ?_⟩
   ·omega
   ·omega
   ·omega
   ·omega
   ·omega
   ·omega
   ·intro b4
    try simp only [nrmT] at b4
    refine ⟨rfl, ?_, ?_, ?_, ?_, ?_, ?_, ?_⟩
    ·omega
    ·omega
    ·omega
    ·omega
    ·omega
    ·omega
    have h5 : Jm xs ys = Jl xs ys := by rcases JT xs ys with h | h | h <;> first | omega | exact h.2
    rw [h5, J3m h3 (by omega) (by omega)]
    by_cases h6 : xs.getD i.toNat 0 < ys.getD i.toNat 0
    · rw [if_pos h6, decide_eq_true h6]; rfl
    rw [if_neg h6, if_pos (by omega), decide_eq_false h6]; rfl
   intro b5
   try simp only [nrmT] at b5
   refine ⟨?_, ?_⟩
   ·omega
   refine ⟨(i + 1), ?_⟩
   refine ⟨?_, ?_, rfl, rfl, rfl⟩
   ·refine ⟨?_, ?_, ?_, ?_⟩
    ·omega
    ·omega
    ·exact hl
    ·rw [J3m h3 (by omega) (by omega), show (i + 1).toNat = i.toNat + 1 by omega, if_neg (by omega), if_neg (by omega)]
   (simp only [J13]; omega)
  intro b6
  try simp only [nrmT] at b6
  have h5 : Jm xs ys = Jl xs ys := by rcases JT xs ys with h | h | h <;> first | omega | exact h.2
  rw [h5, J5b h3 (by omega) (by omega) (by omega), if_neg (by omega)]; rfl
theorem J7w (xs : ZI) (ys : ZI)  : PC Try.prog 239 [.sl (.ints xs), .sl (.ints ys)] (.one (.d (.bool (decide (Jm xs ys < 0))))) :=
  pc_wf @Try.call239 fun hw => pc_by (by kernel_rfl) Try.func239 @Try.call239 (by kernel_rfl) J7Y (J7S xs ys) (by kernel_rfl) (J7x xs ys hw.1 hw.2.1) (by kernel_rfl)
def J6C : List D → Orc := orcN [some .ints, some .ints] fun ds => match ds with
  | [.sl (.ints xs), .sl (.ints ys)] => some (.one (.d (.bool (decide (Jm xs ys < 0)))))
  | _ => none
theorem J1I (xss : ZR) (hz : xss.length < 4611686018427387904) : PU Try.prog 207 26 (.rows xss) (.rows (xss.mergeSort (fun x9 y9 => !(ltOf Jm) y9 x9))) [.fn 208 0 []] false :=
  pu_sortFunc Try.laySortRows 26 xss (fun x => .sl (.ints x)) Jm Ja9 JaU 208 (fun x _ y _ => J57 x y) _ _ rfl rfl rfl (List.length_mergeSort _) (fun _ => rfl) (fun i x h => by simp [Mem.get, h]) (fun i x h => by simp [Mem.get, h]) hz @Try.call208
abbrev J05 (b : Int) (out : ZI) (x : Int) : Prop := (0 ≤ x) ∧ (x ≤ 62) ∧ (out = members (fun k => b.toNat.testBit k) x.toNat)
abbrev JI (b : Int) (out : ZI) (x : Int) : Nat := (62 - x).toNat
def J6z (f : FuncId) (ds : List D) : Orc := bif Nat.beq f 226 then J7f ds else .no
def J6y (b : Int) : Ann := .two (.none) (.two (.none) (.two (.two (.none) (.loop (cut2 (fun (out : ZI) (x : Int) => J05 b out x) (fun (out : ZI) (x : Int) => [(0, .d false (.int .u64 b)), (3, .own 1000000 out.length), (4, .d true (.int .i64 x))]) (fun (out : ZI) (x : Int) => [(1000000, .arr true 3 (.ints out))])) (fun g => JI b g.1 g.2) (fun _ => .none))) (.none)))
def J3K (b : Int) : Prop :=
  ((∃ out' : ZI, ∃ x' : Int, (J05 b out' x') ∧ (b = b) ∧ ((0 : Nat) = out'.length) ∧ ((0 : Int) = x') ∧ ([] = out')) ∧ (∀ out : ZI, ∀ x : Int, (J05 b out x) → ((0 : Int) ≤ b ∧ (b : Int) ≤ 18446744073709551615) ∧ ((0 : Int) ≤ x) ∧ (((decide ((b / 2 ^ x.toNat) > 0)) = true → (PC Try.prog 226 [.int .u64 b, .int .i64 x] (.one (.d (.bool (b.toNat.testBit x.toNat))))) ∧ (((b.toNat.testBit x.toNat) = true → (out.length = out.length) ∧ ((1 : Nat) = 1) ∧ ((out.length + 1) * 8 ≤ 140737488355328) ∧ (I6 (x + 1)) ∧ (∃ out' : ZI, ∃ x' : Int, (J05 b out' x') ∧ (JI b out' x' < JI b out x) ∧ (b = b) ∧ ((out.length + 1) = out'.length) ∧ ((x + 1) = x') ∧ ((out ++ [x]) = out'))) ∧ ((b.toNat.testBit x.toNat) = false → (I6 (x + 1)) ∧ (∃ out' : ZI, ∃ x' : Int, (J05 b out' x') ∧ (JI b out' x' < JI b out x) ∧ (b = b) ∧ (out.length = out'.length) ∧ ((x + 1) = x') ∧ (out = out'))))) ∧ ((decide ((b / 2 ^ x.toNat) > 0)) = false → ((out.length = out.length) ∧ ((out : ZI) = (members (fun k => b.toNat.testBit k) 62)))))))
theorem J64 (b : Int) (hb : 0 ≤ b ∧ b ≤ 4611686018427387903)  : J3K b := by
  unfold J3K
  refine ⟨?_, ?_⟩
  ·refine ⟨([]), 0, ?_⟩
   refine ⟨?_, rfl, rfl, rfl, ?_⟩
   ·refine ⟨?_, ?_, ?_⟩
    ·omega
    ·omega
    ·rfl
   rfl
  intro out x hJ
  obtain ⟨h1, h2, h3⟩ := hJ
  refine ⟨?_, ?_, ?_, ?_⟩
  ·omega
  ·omega
  ·intro b1
   try simp only [nrmT] at b1
   refine ⟨?_, ?_, ?_⟩
   ·refine J7Z b x ?_ ?_
    ·omega
    ·omega
   ·intro b2
    try simp only [nrmT] at b2
    refine ⟨rfl, rfl, ?_, ?_, ?_⟩
    ·rw [h3]; have := members_len_le (fun k => b.toNat.testBit k) x.toNat; omega
    ·omega
    refine ⟨(out ++ [x]), (x + 1), ?_⟩
    refine ⟨?_, ?_, rfl, ?_, rfl, rfl⟩
    ·refine ⟨?_, ?_, ?_⟩
     ·omega
     ·have := J9t hb h2 b1; omega
     ·rw [h3, show (x + 1).toNat = x.toNat + 1 by omega, members_succ, b2]; simp; try omega
    ·have := J9t hb h2 b1
     (simp only [JI]; omega)
    (simp_all; done)
   intro b3
   try simp only [nrmT] at b3
   refine ⟨?_, ?_⟩
   ·omega
   refine ⟨out, (x + 1), ?_⟩
   refine ⟨?_, ?_, rfl, rfl, rfl, rfl⟩
   ·refine ⟨?_, ?_, ?_⟩
    ·omega
    ·have := J9t hb h2 b1; omega
    ·rw [h3, show (x + 1).toNat = x.toNat + 1 by omega, members_succ, b3]; simp; try omega
   have := J9t hb h2 b1
   (simp only [JI]; omega)
  intro b4
  try simp only [nrmT] at b4
  refine ⟨rfl, ?_⟩
  ·rw [h3]; refine (J27 (fun k hk => JaL hb.1 (m := x.toNat) (by omega) k hk) 62 (by omega)).symm
theorem J63 (b : Int) (hb : 0 ≤ b ∧ b ≤ 4611686018427387903) : PC Try.prog 188 [.int .u64 b] (.one (.d (.sl (.ints (members (fun k => b.toNat.testBit k) 62))))) :=
  pc_wf @Try.call188 fun _ => pc_by (by kernel_rfl) Try.func188 @Try.call188 (by kernel_rfl) J6z (J6y b) (by kernel_rfl) (J64 b hb) (by kernel_rfl)
abbrev J2Y (n : Int) (out : ZR) (b : Int) : Prop := (1 ≤ b) ∧ (b ≤ ((2 ^ n.toNat : Nat) : Int)) ∧ (out = J2g n.toNat (b.toNat - 1))
abbrev J2T (n : Int) (out : ZR) (b : Int) : Nat := (((2 ^ n.toNat : Nat) : Int) - b).toNat
abbrev J2U (n : Int) (out2 : ZR) : Prop := (out2 = J2g n.toNat (2 ^ n.toNat - 1))
def Jai (f : FuncId) (ds : List D) : Orc := .no
def Jav (n : Int) : Ann := .two (.none) (.two (.none) (.cut (.two (.none) (.loop (cut2 (fun (out : ZR) (b : Int) => J2Y n out b) (fun (out : ZR) (b : Int) => [(0, .d false (.int .i64 n)), (3, .own 1000000 out.length), (4, .d true (.int .u64 b))]) (fun (out : ZR) (b : Int) => [(1000000, .arr true 26 (.rows out))])) (fun g => J2T n g.1 g.2) (fun g => (fun (out : ZR) (b : Int) => .two (.none) (.two (.reg [(2, .call none (.one (.d (.sl (.ints (members (fun k => b.toNat.testBit k) 62))))))]) (.none))) (g.1) (g.2)))) (cut1 (fun (out2 : ZR) => J2U n out2) (fun (out2 : ZR) => [(3, .own 1000050 out2.length)]) (fun (out2 : ZR) => [(1000050, .arr true 26 (.rows out2))])) (fun g => (fun (out2 : ZR) => .two (.mark [] [(1, .up (.rows (out2.mergeSort (fun x9 y9 => !(ltOf Jm) y9 x9))) false)]) (.none)) g)))
def J7L (n : Int) : Prop :=
  ((((∃ out' : ZR, ∃ b' : Int, (J2Y n out' b') ∧ (n = n) ∧ ((0 : Nat) = out'.length) ∧ ((1 : Int) = b') ∧ ([] = out')) ∧ (∀ out : ZR, ∀ b : Int, (J2Y n out b) → ((0 : Int) ≤ 1) ∧ ((0 : Int) ≤ n) ∧ ((0 : Int) ≤ ((1 : Int) * 2 ^ n.toNat) ∧ (((1 : Int) * 2 ^ n.toNat) : Int) ≤ 18446744073709551615) ∧ (((decide (b < ((1 : Int) * 2 ^ n.toNat))) = true → (PC Try.prog 188 [.int .u64 b] (.one (.d (.sl (.ints (members (fun k => b.toNat.testBit k) 62)))))) ∧ (out.length = out.length) ∧ ((1 : Nat) = 1) ∧ ((out.length + 1) * 24 ≤ 140737488355328) ∧ (0 ≤ (b + 1) ∧ (b + 1) ≤ 18446744073709551615) ∧ (∃ out' : ZR, ∃ b' : Int, (J2Y n out' b') ∧ (J2T n out' b' < J2T n out b) ∧ (n = n) ∧ ((out.length + 1) = out'.length) ∧ ((b + 1) = b') ∧ ((out ++ [(members (fun k => b.toNat.testBit k) 62)]) = out'))) ∧ ((decide (b < ((1 : Int) * 2 ^ n.toNat))) = false → (∃ out2' : ZR, (J2U n out2') ∧ (out.length = out2'.length) ∧ (out = out2'))))))) ∧ (∀ out2 : ZR, (J2U n out2) → (out2.length = out2.length) ∧ (PU Try.prog 207 26 (.rows out2) (.rows (out2.mergeSort (fun x9 y9 => !(ltOf Jm) y9 x9))) [.fn 208 0 []] false) ∧ ((out2.length = (out2.mergeSort (fun x9 y9 => !(ltOf Jm) y9 x9)).length) ∧ (((out2.mergeSort (fun x9 y9 => !(ltOf Jm) y9 x9)) : ZR) = J8 n.toNat))))
theorem J9Q (n : Int) (hn : 0 ≤ n ∧ n ≤ 8)  : J7L n := by
  unfold J7L
  have p7 := JaW (n := n.toNat) (by omega)
  have pp := Nat.two_pow_pos n.toNat
  have e0 := J8Q n.toNat
  have e1 : ((2 : Int) ^ n.toNat) = ((2 ^ n.toNat : Nat) : Int) := by simp
  refine ⟨?_, ?_⟩
  ·refine ⟨?_, ?_⟩
   ·refine ⟨([]), 1, ?_⟩
    refine ⟨?_, rfl, rfl, rfl, ?_⟩
    ·refine ⟨?_, ?_, ?_⟩
     ·omega
     ·generalize 2 ^ n.toNat = M at *
      omega
     ·rfl
    rfl
   ·intro out b hJ
    obtain ⟨h1, h2, h3⟩ := hJ
    refine ⟨?_, ?_, ?_, ?_, ?_⟩
    ·omega
    ·omega
    ·rw [Int.one_mul, e1]
     generalize 2 ^ n.toNat = M at *
     omega
    ·intro b1
     try simp only [nrmT] at b1
     refine ⟨?_, rfl, rfl, ?_, ?_, ?_⟩
     ·refine J63 b ?_
      ·rw [Int.one_mul, e1] at b1
       generalize 2 ^ n.toNat = M at *
       omega
     ·rw [Int.one_mul, e1] at b1
      rw [h3, J0o]
      generalize 2 ^ n.toNat = M at *
      omega
     ·rw [Int.one_mul, e1] at b1
      generalize 2 ^ n.toNat = M at *
      omega
     refine ⟨(out ++ [(members (fun k => b.toNat.testBit k) 62)]), (b + 1), ?_⟩
     refine ⟨?_, ?_, rfl, ?_, rfl, rfl⟩
     ·refine ⟨?_, ?_, ?_⟩
      ·omega
      ·rw [Int.one_mul, e1] at b1
       generalize 2 ^ n.toNat = M at *
       omega
      ·rw [Int.one_mul, e1] at b1
       have hb : b.toNat < 2 ^ n.toNat := by
         generalize 2 ^ n.toNat = M at *
         omega
       rw [h3, show (b + 1).toNat - 1 = (b.toNat - 1) + 1 by omega, J78, show b.toNat - 1 + 1 = b.toNat by omega, JaT (n := n.toNat) (by omega) hb]
     ·rw [Int.one_mul, e1] at b1
      (simp only [J2T]; omega)
     first | omega | rfl | (intro hg; simp only [nrmT] at hg; omega) | (intro g1 g2; simp [g1, g2]; done) | (intro g1; simp at g1 ⊢; simp [g1]; done) | (simp only [nrmT] at *; omega) | (simp at * <;> omega) | (simp_all <;> omega) | (simp_all; done)
    intro b2
    try simp only [nrmT] at b2
    refine ⟨out, ?_⟩
    refine ⟨?_, rfl, rfl⟩
    ·unfold J2U
     rw [Int.one_mul, e1] at b2
     have hm : b.toNat - 1 = 2 ^ n.toNat - 1 := by
       generalize 2 ^ n.toNat = M at *
       omega
     rw [h3, hm]
  intro out2 hJ
  have h8 := hJ
  refine ⟨rfl, ?_, ?_, ?_⟩
  ·refine J1I out2 ?_
   ·rw [h8, J0o]
    generalize 2 ^ n.toNat = M at *
    omega
  ·simp
  rw [h8]; rfl
theorem Ja2 (n : Int) (hn : 0 ≤ n ∧ n ≤ 8) : PC Try.prog 134 [.int .i64 n] (.one (.own 26 (.rows (J8 n.toNat)))) :=
  pc_wf @Try.call134 fun _ => pc_by (by kernel_rfl) Try.func134 @Try.call134 (by kernel_rfl) Jai (Jav n) (by kernel_rfl) (J9Q n hn) (by kernel_rfl)
def J9h : List D → Orc := orcN [none] fun ds => match ds with
  | [.int .i64 n] => some (.one (.own 26 (.rows (J8 n.toNat))))
  | _ => none
abbrev J1T (n : Int) (out : ZR) (code : Int) : Prop := (1 ≤ code) ∧ (code ≤ ((2 ^ n.toNat : Nat) : Int)) ∧ (out.Perm (J2g n.toNat (code.toNat - 1))) ∧ (out.Pairwise (fun x9 y9 => ltOf Jm y9 x9 = false))
abbrev J23 (n : Int) (out : ZR) (code : Int) : Nat := (((2 ^ n.toNat : Nat) : Int) - code).toNat
abbrev J1S (n : Int) (out : ZR) (code : Int) (k : Int) : Prop := (0 ≤ k) ∧ (k ≤ (out.length : Int)) ∧ (∀ j, k.toNat ≤ j → j < out.length → Jm (lst n.toNat code.toNat) (out.getD j []) < 0)
abbrev J20 (n : Int) (out : ZR) (code : Int) (k : Int) : Nat := k.toNat
def J9v (f : FuncId) (ds : List D) : Orc := bif Nat.beq f 164 then J7U ds else bif Nat.beq f 239 then J6C ds else .no
def J9q (n : Int) : Ann := .two (.none) (.two (.reg [(0, .frz)]) (.two (.two (.none) (.loop (cut2 (fun (out : ZR) (code : Int) => J1T n out code) (fun (out : ZR) (code : Int) => [(0, .d false (.int .i64 n)), (3, .d true (.sl (.rows out))), (4, .d true (.int .i64 code))]) (fun (out : ZR) (code : Int) => [])) (fun g => J23 n g.1 g.2) (fun g => (fun (out : ZR) (code : Int) => .two (.none) (.two (.two (.none) (.two (.loop (cut1 (fun (k : Int) => J1S n out code k) (fun (k : Int) => [(0, .d false (.int .i64 n)), (3, .d true (.sl (.rows out))), (4, .d true (.int .i64 code)), (5, .d true (.sl (.ints (members (fun k => code.toNat.testBit k) n.toNat)))), (6, .d true (.int .i64 k))]) (fun (k : Int) => [])) (fun g => J20 n out code g) (fun _ => .none)) (.none))) (.none))) (g.1) (g.2)))) (.none)))
def J5w (n : Int) : Prop :=
  ((∃ out' : ZR, ∃ code' : Int, (J1T n out' code') ∧ (n = n) ∧ ([] = out') ∧ ((1 : Int) = code')) ∧ (∀ out : ZR, ∀ code : Int, (J1T n out code) → ((0 : Int) ≤ 1) ∧ ((0 : Int) ≤ n) ∧ ((0 : Int) ≤ ((1 : Int) * 2 ^ n.toNat) ∧ (((1 : Int) * 2 ^ n.toNat) : Int) ≤ 9223372036854775807) ∧ (((decide (code < ((1 : Int) * 2 ^ n.toNat))) = true → (PC Try.prog 164 [.int .i64 n, .int .i64 code] (.one (.d (.sl (.ints (members (fun k => code.toNat.testBit k) n.toNat)))))) ∧ ((∃ k' : Int, (J1S n out code k') ∧ (n = n) ∧ (out = out) ∧ (code = code) ∧ ((members (fun k => code.toNat.testBit k) n.toNat) = (members (fun k => code.toNat.testBit k) n.toNat)) ∧ ((out.length : Int) = k')) ∧ (∀ k : Int, (J1S n out code k) → ((decide (k > 0)) = true → (decide (k > 0)) = true) ∧ (((decide (k > 0)) = true → I6 (k - 1))) ∧ ((decide (k > 0)) = true → (decide (k > 0)) = true) ∧ ((decide (k > 0)) = true → (decide (k > 0)) = true) ∧ (((decide (k > 0)) = true → (0 : Int) ≤ (k - 1))) ∧ (((decide (k > 0)) = true → ((k - 1) : Int) < out.length)) ∧ ((decide (k > 0)) = true → (decide (k > 0)) = true) ∧ (((decide (k > 0)) = true → (k - 1).toNat < out.length)) ∧ ((decide (k > 0)) = true → (decide (k > 0)) = true) ∧ ((decide (k > 0)) = true → (decide (k > 0)) = true) ∧ ((decide (k > 0)) = true → PC Try.prog 239 [.sl (.ints (members (fun k => code.toNat.testBit k) n.toNat)), .sl (.ints (out.getD ((k - 1).toNat) []))] (.one (.d (.bool (decide (Jm (members (fun k => code.toNat.testBit k) n.toNat) (out.getD ((k - 1).toNat) []) < 0)))))) ∧ (true = true) ∧ (((decide (k > 0)) = true → (decide (k > 0)) = true)) ∧ (((decide (k > 0)) = false → true = true)) ∧ (((cond (decide (k > 0)) (decide (Jm (members (fun k => code.toNat.testBit k) n.toNat) (out.getD ((k - 1).toNat) []) < 0)) false) = true → (I6 (k - 1)) ∧ (∃ k' : Int, (J1S n out code k') ∧ (J20 n out code k' < J20 n out code k) ∧ (n = n) ∧ (out = out) ∧ (code = code) ∧ ((members (fun k => code.toNat.testBit k) n.toNat) = (members (fun k => code.toNat.testBit k) n.toNat)) ∧ ((k - 1) = k'))) ∧ ((cond (decide (k > 0)) (decide (Jm (members (fun k => code.toNat.testBit k) n.toNat) (out.getD ((k - 1).toNat) []) < 0)) false) = false → (true = true) ∧ ((0 : Int) ≤ k) ∧ ((k : Int) ≤ out.length) ∧ ((0 : Nat) = 0) ∧ (True) ∧ ((0 + ((out.take k.toNat).drop 0).length) * 24 ≤ 140737488355328) ∧ ((0 + ((out.take k.toNat).drop 0).length) = ([] ++ ((out.take k.toNat).drop 0)).length) ∧ ((1 : Nat) = 1) ∧ ((([] ++ ((out.take k.toNat).drop 0)).length + 1) * 24 ≤ 140737488355328) ∧ ((0 : Int) ≤ k) ∧ ((k : Int) ≤ out.length) ∧ (((0 + ((out.take k.toNat).drop 0).length) + 1) = (([] ++ ((out.take k.toNat).drop 0)) ++ [(members (fun k => code.toNat.testBit k) n.toNat)]).length) ∧ (True) ∧ (((([] ++ ((out.take k.toNat).drop 0)) ++ [(members (fun k => code.toNat.testBit k) n.toNat)]).length + ((out.take out.length).drop k.toNat).length) * 24 ≤ 140737488355328) ∧ (I6 (code + 1)) ∧ (∃ out' : ZR, ∃ code' : Int, (J1T n out' code') ∧ (J23 n out' code' < J23 n out code) ∧ (n = n) ∧ ((((0 + ((out.take k.toNat).drop 0).length) + 1) + ((out.take out.length).drop k.toNat).length) = ((([] ++ ((out.take k.toNat).drop 0)) ++ [(members (fun k => code.toNat.testBit k) n.toNat)]) ++ ((out.take out.length).drop k.toNat)).length) ∧ (((([] ++ ((out.take k.toNat).drop 0)) ++ [(members (fun k => code.toNat.testBit k) n.toNat)]) ++ ((out.take out.length).drop k.toNat)) = out') ∧ ((code + 1) = code'))))))) ∧ ((decide (code < ((1 : Int) * 2 ^ n.toNat))) = false → (((out : ZR) = (J8 n.toNat)))))))
theorem J8g (n : Int) (hn : 0 ≤ n ∧ n ≤ 8)  : J5w n := by
  unfold J5w
  have p7 := JaW (n := n.toNat) (by omega)
  have pp := Nat.two_pow_pos n.toNat
  have e0 := J8Q n.toNat
  have e1 : ((2 : Int) ^ n.toNat) = ((2 ^ n.toNat : Nat) : Int) := by simp
  refine ⟨?_, ?_⟩
  ·refine ⟨([]), 1, ?_⟩
   refine ⟨?_, rfl, ?_, rfl⟩
   ·refine ⟨?_, ?_, ?_, ?_⟩
    ·omega
    ·generalize 2 ^ n.toNat = M at *
     omega
    ·exact List.Perm.refl _
    ·exact List.Pairwise.nil
   rfl
  intro out code hJ
  obtain ⟨h1, h2, h3, h4⟩ := hJ
  refine ⟨?_, ?_, ?_, ?_, ?_⟩
  ·omega
  ·omega
  ·rw [Int.one_mul, e1]
   generalize 2 ^ n.toNat = M at *
   omega
  ·intro b1
   try simp only [nrmT] at b1
   refine ⟨?_, ?_, ?_⟩
   ·refine J8F n code ?_ ?_
    ·omega
    ·rw [Int.one_mul, e1] at b1
     generalize 2 ^ n.toNat = M at *
     omega
   ·refine ⟨(out.length : Int), ?_⟩
    refine ⟨?_, rfl, rfl, rfl, rfl, rfl⟩
    ·refine ⟨?_, ?_, ?_⟩
     ·omega
     ·omega
     ·intro j h8 h9; omega
   intro k hJ
   obtain ⟨h5, h6, h7⟩ := hJ
   refine ⟨id, ?_, id, id, ?_, ?_, id, ?_, id, id, fun _ => J7w (members (fun k => code.toNat.testBit k) n.toNat) (out.getD ((k - 1).toNat) []), rfl, id, fun _ => rfl, ?_, ?_⟩
   ·have ol := h3.length_eq
    rw [J0o] at ol
    rw [Int.one_mul, e1] at b1
    intro hg2
    have := of_decide_eq_true hg2
    generalize 2 ^ n.toNat = M at *
    omega
   ·(intro hg; simp only [nrmT] at hg; omega)
   ·omega
   ·(intro hg; simp only [nrmT] at hg; omega)
   ·intro b2
    refine ⟨?_, ?_⟩
    ·have ol := h3.length_eq
     rw [J0o] at ol
     rw [Int.one_mul, e1] at b1
     have hk : 0 < k := by
       revert b2
       by_cases h : k > 0
       · intro _; exact h
       rw [decide_eq_false h]; intro g; cases g
     generalize 2 ^ n.toNat = M at *
     omega
    refine ⟨(k - 1), ?_⟩
    refine ⟨?_, ?_, rfl, rfl, rfl, rfl, rfl⟩
    ·refine ⟨?_, ?_, ?_⟩
     ·have ol := h3.length_eq
      rw [J0o] at ol
      rw [Int.one_mul, e1] at b1
      have hk : 0 < k := by
        revert b2
        by_cases h : k > 0
        · intro _; exact h
        rw [decide_eq_false h]; intro g; cases g
      generalize 2 ^ n.toNat = M at *
      omega
     ·have ol := h3.length_eq
      rw [J0o] at ol
      rw [Int.one_mul, e1] at b1
      have hk : 0 < k := by
        revert b2
        by_cases h : k > 0
        · intro _; exact h
        rw [decide_eq_false h]; intro g; cases g
      generalize 2 ^ n.toNat = M at *
      omega
     ·intro j h8 h9
      have hk : 0 < k ∧ Jm (lst n.toNat code.toNat) (out.getD (k - 1).toNat []) < 0 := by
        revert b2
        by_cases h : k > 0
        · rw [decide_eq_true h]; intro g; exact ⟨h, of_decide_eq_true g⟩
        rw [decide_eq_false h]; intro g; cases g
      by_cases e : j = (k - 1).toNat
      · rw [e]; exact hk.2
      exact h7 j (by omega) h9
    have hk : 0 < k := by
      revert b2
      by_cases h : k > 0
      · intro _; exact h
      rw [decide_eq_false h]; intro g; cases g
    (simp only [J20]; omega)
   intro b3
   refine ⟨rfl, ?_, ?_, rfl, trivial, ?_, ?_, rfl, ?_, ?_, ?_, ?_, trivial, ?_, ?_, ?_⟩
   ·omega
   ·omega
   ·have ol := h3.length_eq
    rw [J0o] at ol
    rw [Int.one_mul, e1] at b1
    simp only [List.length_append, List.length_drop, List.length_take, List.length_cons, List.length_nil]
    generalize 2 ^ n.toNat = M at *
    omega
   ·simp only [List.length_append, List.length_cons, List.length_nil] <;> omega
   ·have ol := h3.length_eq
    rw [J0o] at ol
    rw [Int.one_mul, e1] at b1
    simp only [List.length_append, List.length_drop, List.length_take, List.length_cons, List.length_nil]
    generalize 2 ^ n.toNat = M at *
    omega
   ·omega
   ·omega
   ·first | omega | rfl | (intro hg; simp only [nrmT] at hg; omega) | (intro g1 g2; simp [g1, g2]; done) | (intro g1; simp at g1 ⊢; simp [g1]; done) | (simp only [nrmT] at *; omega) | (simp at * <;> omega) | (simp_all <;> omega) | (simp_all; done)
   ·have ol := h3.length_eq
    rw [J0o] at ol
    rw [Int.one_mul, e1] at b1
    simp only [List.length_append, List.length_drop, List.length_take, List.length_cons, List.length_nil]
    generalize 2 ^ n.toNat = M at *
    omega
   ·rw [Int.one_mul, e1] at b1
    generalize 2 ^ n.toNat = M at *
    omega
   refine ⟨((([] ++ ((out.take k.toNat).drop 0)) ++ [(members (fun k => code.toNat.testBit k) n.toNat)]) ++ ((out.take out.length).drop k.toNat)), (code + 1), ?_⟩
   refine ⟨?_, ?_, rfl, ?_, rfl, rfl⟩
   ·refine ⟨?_, ?_, ?_, ?_⟩
    ·omega
    ·rw [Int.one_mul, e1] at b1
     generalize 2 ^ n.toNat = M at *
     omega
    ·have hq : (((([] : ZR) ++ ((out.take k.toNat).drop 0)) ++ [(members (fun k => code.toNat.testBit k) n.toNat)]) ++ ((out.take out.length).drop k.toNat)) = (out.take k.toNat ++ [lst n.toNat code.toNat]) ++ out.drop k.toNat := by
       rw [List.nil_append, List.drop_zero, List.take_length]; rfl
     rw [hq, show (code + 1).toNat - 1 = (code.toNat - 1) + 1 by omega]
     exact Jar h3 (by rw [show code.toNat - 1 + 1 = code.toNat by omega])
    ·have hq : (((([] : ZR) ++ ((out.take k.toNat).drop 0)) ++ [(members (fun k => code.toNat.testBit k) n.toNat)]) ++ ((out.take out.length).drop k.toNat)) = (out.take k.toNat ++ [lst n.toNat code.toNat]) ++ out.drop k.toNat := by
       rw [List.nil_append, List.drop_zero, List.take_length]; rfl
     rw [hq]
     refine J8T h4 (by omega) h7 ?_
     by_cases e : k.toNat = 0
     · exact .inl e
     refine .inr fun h => ?_
     rw [decide_eq_true (show k > 0 by omega), decide_eq_true (by rw [show (k - 1).toNat = k.toNat - 1 by omega]; exact h)] at b3
     cases b3
   ·rw [Int.one_mul, e1] at b1
    (simp only [J23]; omega)
   simp only [List.length_append, List.length_cons, List.length_nil] <;> omega
  intro b4
  try simp only [nrmT] at b4
  rw [Int.one_mul, e1] at b4
  exact J9z h3 (by
    generalize 2 ^ n.toNat = M at *
    omega) h4
theorem J8x (n : Int) (hn : 0 ≤ n ∧ n ≤ 8) : PC Try.prog 214 [.int .i64 n] (.one (.d (.sl (.rows (J8 n.toNat))))) :=
  pc_wf @Try.call214 fun _ => pc_by (by kernel_rfl) Try.func214 @Try.call214 (by kernel_rfl) J9v (J9q n) (by kernel_rfl) (J8g n hn) (by kernel_rfl)
def J7M : List D → Orc := orcN [none] fun ds => match ds with
  | [.int .i64 n] => some (.one (.d (.sl (.rows (J8 n.toNat)))))
  | _ => none
theorem J4o {l : ZI} {lo hi : Int} (ha : Asc l) (hb : ∀ x ∈ l, lo ≤ x ∧ x ≤ hi) : J3 l lo hi = true :=
  allTo_iff.2 fun k hk => by
    unfold J1a
    rw [Bool.and_eq_true, Bool.or_eq_true]
    refine ⟨decide_eq_true (hb _ (getD_mem hk)), ?_⟩
    by_cases e : k = 0
    · exact .inl (decide_eq_true e)
    right
    have := List.pairwise_iff_getElem.1 ha (k - 1) k (by omega) hk (by omega)
    rw [JR hk, JR (by omega)]
    exact decide_eq_true this
theorem JaN {n c : Nat} : Asc (lst n c) := asc_members _ _
theorem J3D {U : ZI} {E : ZR} (hg : J0 U E = true) {s : ZI} (hs : s ∈ J8 (U.length : Int).toNat) :
    (J0 U E && J3 s 0 ((U.length : Int) - 1) && decide (0 < s.length)) = true ∧ s.length ≤ 7 := by
  obtain ⟨g1, g2, g3⟩ := Jc hg
  rw [Int.toNat_natCast] at hs
  obtain ⟨c, h1, h2, rfl⟩ := J3s.1 hs
  have hl := JaG (n := U.length) (code := c)
  refine ⟨?_, by omega⟩
  rw [hg, J4o JaN (fun x hx => by have := JaX x hx; omega), decide_eq_true (JaD h1 h2)]
  rfl
theorem Jab {n : Nat} (h : 1 ≤ n) : 0 < (J8 n).length := by
  rw [J76]
  have := Nat.pow_le_pow_right (n := 2) (by omega) h
  omega
theorem J8Z {n : Nat} (h : n ≤ 7) : (J8 n).length ≤ 127 := by
  rw [J76]
  have := Nat.pow_le_pow_right (n := 2) (by omega) h
  have e : (2 : Nat) ^ 7 = 128 := by decide
  omega
def lsB (v : ZI → Int) (b s : ZI) : ZI := if v s < v b then s else b
def J1l (v : ZI → Int) (l : ZR) : ZI := l.foldl (lsB v) (l.getD 0 [])
theorem Jas (v : ZI → Int) (b : ZI) : lsB v b b = b := by unfold lsB; split <;> rfl
theorem J3q {α β : Type} {f : β → α → β} {b : β} {l : List α} {i : Int} {d : α} (h0 : 0 ≤ i) (h : i < (l.length : Int)) : (l.take (i + 1).toNat).foldl f b = f ((l.take i.toNat).foldl f b) (l.getD i.toNat d) := by
  rw [take_step (d := d) h0 h, List.foldl_append]
  rfl
theorem J66 {v : ZI → Int} {l : ZR} (h : 0 < l.length) : J1l v l ∈ l := by
  have key : ∀ (r : ZR) (b : ZI), b ∈ l → (∀ x ∈ r, x ∈ l) → r.foldl (lsB v) b ∈ l := by
    intro r
    induction r with
    | nil => intro b hb _; exact hb
    | cons x r ih =>
      intro b hb hr
      refine ih _ ?_ fun y hy => hr y (List.mem_cons_of_mem _ hy)
      unfold lsB
      split
      · exact hr x List.mem_cons_self
      exact hb
  exact key l _ (getD_mem h) fun x hx => hx
def bsB (v : ZI → Int) (k : Int) (b s : ZI) : ZI := if (cond ((s.length : Int) == k) (cond ((b.length : Int) == 0) true (decide (v s < v b))) false) = true then s else b
def Jaz (v : ZI → Int) (k : Int) (l : ZR) : ZI := l.foldl (bsB v k) []
theorem Jaw {v : ZI → Int} {k : Int} (hk : 1 ≤ k) (l : ZR) : Jaz v k l = J1l v (l.filter fun x9 => !(decide ((x9.length : Int) ≠ k))) := by
  have aux : ∀ (r : ZR) (b : ZI), (b.length : Int) = k → r.foldl (bsB v k) b = (r.filter fun x9 => !(decide ((x9.length : Int) ≠ k))).foldl (lsB v) b := by
    intro r
    induction r with
    | nil => intro b _; rfl
    | cons x r ih =>
      intro b hb
      rw [List.foldl_cons]
      by_cases e : (x.length : Int) = k
      · rw [List.filter_cons, if_pos (by simp [e]), List.foldl_cons]
        have e2 : bsB v k b x = lsB v b x := by
          unfold bsB lsB
          rw [beq_iff_eq.2 e, beq_eq_false_iff_ne.2 (show (b.length : Int) ≠ 0 by omega)]
          simp only [cond_true, cond_false]
          by_cases e3 : v x < v b
          · rw [if_pos e3, if_pos (decide_eq_true e3)]
          rw [if_neg e3, if_neg (by simp [e3])]
        rw [e2]
        refine ih _ ?_
        unfold lsB
        split
        · exact e
        exact hb
      rw [List.filter_cons, if_neg (by simp [e])]
      have e2 : bsB v k b x = b := by unfold bsB; rw [beq_eq_false_iff_ne.2 e]; rfl
      rw [e2]
      exact ih b hb
  unfold Jaz J1l
  induction l with
  | nil => rfl
  | cons x r ih =>
    rw [List.foldl_cons]
    by_cases e : (x.length : Int) = k
    · rw [List.filter_cons, if_pos (by simp [e]), List.foldl_cons]
      have e2 : bsB v k [] x = x := by unfold bsB; rw [beq_iff_eq.2 e]; rfl
      rw [e2, aux r x e]
      show _ = List.foldl (lsB v) (lsB v x x) _
      rw [Jas]
    rw [List.filter_cons, if_neg (by simp [e])]
    have e2 : bsB v k [] x = [] := by unfold bsB; rw [beq_eq_false_iff_ne.2 e]; rfl
    rw [e2]
    exact ih
def J1j (xs : ZI) (k : Nat) : Int := foldTo (fun m j => m + xs.getD j 0) 0 k
theorem J2v (xs : ZI) (k : Nat) : J1j xs (k + 1) = J1j xs k + xs.getD k 0 := rfl
theorem J6q {xs : ZI} (h : ∀ x ∈ xs, 0 ≤ x ∧ x ≤ 99) : ∀ k, k ≤ xs.length → 0 ≤ J1j xs k ∧ J1j xs k ≤ 99 * k
  | 0, _ => by simp [J1j, foldTo]
  | k + 1, hk => by
    have h1 := J6q h k (by omega)
    have h2 := h _ (getD_mem (d := 0) (show k < xs.length by omega))
    rw [J2v]
    omega
def Jd (E : ZR) (set : ZI) : Int := J1j (JP E set E.length) E.length
theorem J7W {U : ZI} {E : ZR} {set : ZI} (ht : (J0 U E && J3 set 0 ((U.length : Int) - 1) && decide (0 < set.length)) = true) {j : Nat} (hj : j < E.length) : 0 ≤ Jr E set j ∧ Jr E set j ≤ 99 := by
  obtain ⟨hg, hs, hp⟩ := Jb ht
  obtain ⟨rl, rb⟩ := Jo hg hj
  have si := J0P (row := E.getD j []) (set := set) (n := (U.length : Int)) (fun k hk => by have := Ji hs k hk; omega) hp set.length (Nat.le_refl _)
  exact rb _ (by omega)
theorem J7D {U : ZI} {E : ZR} {set : ZI} (ht : (J0 U E && J3 set 0 ((U.length : Int) - 1) && decide (0 < set.length)) = true) : ∀ x ∈ JP E set E.length, 0 ≤ x ∧ x ≤ 99 := by
  intro x hx
  obtain ⟨j, hj, rfl⟩ := List.mem_map.1 hx
  exact J7W ht (List.mem_range.1 hj)
theorem J8W {g : Addr → Option Value} {O : Nat → Prop} {v : Value} {x : ZI} (h : R g O v (.sl (.ints x))) : ∃ (ad : Option Addr) (cap : Nat), v = .slice ad x.length cap := by
  cases h with
  | slnil _ h0 => exact ⟨none, 0, by rw [show x.length = 0 from h0]⟩
  | sl _ a n cap hn _ _ _ _ => exact ⟨some a, cap, by rw [hn]; rfl⟩
theorem Jau {g : Addr → Option Value} {O : Nat → Prop} {v : Value} {k : Int} (h : R g O v (.bx [.int .i64 k] 0)) : ∃ b : Addr, v = .pointer (some b) ∧ g b = some (.int .i64 k) := by
  cases h with
  | bx _ a _ f hc hr =>
    refine ⟨a.add 0, rfl, ?_⟩
    have h1 := (hc 0 (by simp)).1
    have h2 := hr 0 (.int .i64 k) rfl
    rw [h1]
    cases hf : f 0 <;> rw [hf] at h2 <;> cases h2
    rfl
theorem Jaf {n k : Nat} (h : k ≤ n) : (lst n (2 ^ k - 1)).length = k := by
  unfold lst
  rw [J27 (m := k) (fun i hi => Nat.testBit_lt_two_pow (Nat.lt_of_lt_of_le (Nat.sub_lt (Nat.two_pow_pos k) (by omega)) (Nat.pow_le_pow_right (by omega) hi))) n h, J9y, Ja7]
theorem J9L {n : Nat} {k : Int} (h1 : 1 ≤ k) (h2 : k ≤ n) : ∃ s ∈ J8 n, (s.length : Int) = k := by
  refine ⟨lst n (2 ^ k.toNat - 1), J3s.2 ⟨_, ?_, ?_, rfl⟩, by rw [Jaf (by omega)]; omega⟩
  · have := Nat.pow_le_pow_right (n := 2) (by omega) (show 1 ≤ k.toNat by omega)
    omega
  have h3 := Nat.pow_le_pow_right (n := 2) (by omega) (show k.toNat ≤ n by omega)
  have h4 := Nat.two_pow_pos k.toNat
  omega
theorem J9c {p : ZI → Bool} {l : ZR} (h : ∃ s ∈ l, p s = true) : 0 < (l.filter p).length := by
  obtain ⟨s, h1, h2⟩ := h
  exact List.length_pos_of_mem (List.mem_filter.2 ⟨h1, h2⟩)
def Jj (U : ZI) (E : ZR) (k : Int) : ZI := J1l (Jd E) ((J8 (U.length : Int).toNat).filter fun x9 => !(decide ((x9.length : Int) ≠ k)))
theorem J6s {U : ZI} {k : Int} (hk : 1 ≤ k ∧ k ≤ (U.length : Int)) : 0 < ((J8 (U.length : Int).toNat).filter fun x9 => !(decide ((x9.length : Int) ≠ k))).length := by
  obtain ⟨s, h1, h2⟩ := J9L (n := (U.length : Int).toNat) hk.1 (by omega)
  exact J9c ⟨s, h1, by simp [h2]⟩
theorem J6u {U : ZI} {k : Int} {E : ZR} (hk : 1 ≤ k ∧ k ≤ (U.length : Int)) : Jj U E k ∈ J8 (U.length : Int).toNat :=
  (List.mem_filter.1 (J66 (J6s hk))).1
abbrev J3i (list : ZI) (m : Int) (i : Int) : Prop := (0 ≤ i) ∧ (i ≤ (list.length : Int)) ∧ (m = J1j list i.toNat)
abbrev J3v (list : ZI) (m : Int) (i : Int) : Nat := (list.length - i).toNat
def JaR (f : FuncId) (ds : List D) : Orc := .no
def JaO (list : ZI) : Ann := .two (.none) (.two (.none) (.two (.two (.none) (.loop (cut2 (fun (m : Int) (i : Int) => J3i list m i) (fun (m : Int) (i : Int) => [(3, .d true (.int .i64 m)), (6, .d false (.sl (.ints list))), (7, .d true (.int .i64 (list.length : Int))), (8, .d true (.int .i64 i))]) (fun (m : Int) (i : Int) => [])) (fun g => J3v list g.1 g.2) (fun _ => .none))) (.none)))
def J8J (list : ZI) : Prop :=
  ((∃ m' : Int, ∃ i' : Int, (J3i list m' i') ∧ ((0 : Int) = m') ∧ (list = list) ∧ ((list.length : Int) = (list.length : Int)) ∧ ((0 : Int) = i')) ∧ (∀ m : Int, ∀ i : Int, (J3i list m i) → (((decide (i < (list.length : Int))) = true → ((0 : Int) ≤ i) ∧ ((i : Int) < list.length) ∧ (i.toNat < list.length) ∧ (I6 (m + (list.getD i.toNat 0))) ∧ (I6 (i + 1)) ∧ (∃ m' : Int, ∃ i' : Int, (J3i list m' i') ∧ (J3v list m' i' < J3v list m i) ∧ ((m + (list.getD i.toNat 0)) = m') ∧ (list = list) ∧ ((list.length : Int) = (list.length : Int)) ∧ ((i + 1) = i'))) ∧ ((decide (i < (list.length : Int))) = false → ((m = (J1j list list.length)))))))
theorem Jaa (list : ZI) (hx : ∀ x ∈ list, 0 ≤ x ∧ x ≤ 99) (hl : list.length ≤ 7) (w_list : (list.length : Int) ≤ 9223372036854775807) : J8J list := by
  unfold J8J
  refine ⟨?_, ?_⟩
  ·refine ⟨0, 0, ?_⟩
   refine ⟨?_, rfl, rfl, rfl, rfl⟩
   ·refine ⟨?_, ?_, ?_⟩
    ·omega
    ·omega
    ·rfl
  intro m i hJ
  obtain ⟨h1, h2, h3⟩ := hJ
  refine ⟨?_, ?_⟩
  ·intro b1
   try simp only [nrmT] at b1
   refine ⟨?_, ?_, ?_, ?_, ?_, ?_⟩
   ·omega
   ·omega
   ·omega
   ·have h4 := J6q hx i.toNat (by omega)
    have h5 := hx _ (getD_memI (d := 0) h1 (by omega))
    omega
   ·omega
   refine ⟨(m + (list.getD i.toNat 0)), (i + 1), ?_⟩
   refine ⟨?_, ?_, rfl, rfl, rfl, rfl⟩
   ·refine ⟨?_, ?_, ?_⟩
    ·omega
    ·omega
    ·rw [h3, show (i + 1).toNat = i.toNat + 1 by omega, J2v]
   (simp only [J3v]; omega)
  intro b2
  try simp only [nrmT] at b2
  rw [h3, show i.toNat = list.length by omega]
theorem Jaj (list : ZI) (hx : ∀ x ∈ list, 0 ≤ x ∧ x ≤ 99) (hl : list.length ≤ 7) : PC Try.prog 219 [.sl (.ints list)] (.one (.d (.int .i64 (J1j list list.length)))) :=
  pc_wf @Try.call219 fun hw => pc_by (by kernel_rfl) Try.func219 @Try.call219 (by kernel_rfl) JaR (JaO list) (by kernel_rfl) (Jaa list hx hl hw.1) (by kernel_rfl)
def J9H : List D → Orc := orcN [some .ints] fun ds => match ds with
  | [.sl (.ints list)] => some (.one (.d (.int .i64 (J1j list list.length))))
  | _ => none
abbrev J1q (U : ZI) (E : ZR) (set : ZI) (m : Int) (i : Int) : Prop := (0 ≤ i) ∧ (i ≤ (E.length : Int)) ∧ (m = J1j (JP E set E.length) i.toNat)
abbrev J1p (U : ZI) (E : ZR) (set : ZI) (m : Int) (i : Int) : Nat := (E.length - i).toNat
def J8i (f : FuncId) (ds : List D) : Orc := bif Nat.beq f 221 then J5y ds else .no
def J8H (U : ZI) (E : ZR) (set : ZI) : Ann := .two (.none) (.two (.none) (.two (.two (.none) (.loop (cut2 (fun (m : Int) (i : Int) => J1q U E set m i) (fun (m : Int) (i : Int) => [(1, .d false (.sl (.ints set))), (2, .ptr 2 0), (5, .d true (.int .i64 m)), (6, .d true (.int .i64 i))]) (fun (m : Int) (i : Int) => [(2, .box 39 [.d false (.sl (.ints U)), .d false (.sl (.rows E))])])) (fun g => J1p U E set g.1 g.2) (fun _ => .none))) (.none)))
def J4N (U : ZI) (E : ZR) (set : ZI) : Prop :=
  ((∃ m' : Int, ∃ i' : Int, (J1q U E set m' i') ∧ (set = set) ∧ ((0 : Int) = m') ∧ ((0 : Int) = i') ∧ (U = U) ∧ (E = E)) ∧ (∀ m : Int, ∀ i : Int, (J1q U E set m i) → (((decide (i < (E.length : Int))) = true → (PC Try.prog 221 [.agg [.sl (.ints U), .sl (.rows E)], .int .i64 i, .sl (.ints set)] (.one (.d (.int .i64 ((E.getD i.toNat []).getD (Ja (E.getD i.toNat []) set set.length).toNat 0))))) ∧ (I6 (m + ((E.getD i.toNat []).getD (Ja (E.getD i.toNat []) set set.length).toNat 0))) ∧ (I6 (i + 1)) ∧ (∃ m' : Int, ∃ i' : Int, (J1q U E set m' i') ∧ (J1p U E set m' i' < J1p U E set m i) ∧ (set = set) ∧ ((m + ((E.getD i.toNat []).getD (Ja (E.getD i.toNat []) set set.length).toNat 0)) = m') ∧ ((i + 1) = i') ∧ (U = U) ∧ (E = E))) ∧ ((decide (i < (E.length : Int))) = false → ((m = (Jd E set)))))))
theorem J7O (U : ZI) (E : ZR) (set : ZI) (ht : (J0 U E && J3 set 0 ((U.length : Int) - 1) && decide (0 < set.length)) = true) (w_Open : (U.length : Int) ≤ 9223372036854775807) (w_Dist : (E.length : Int) ≤ 9223372036854775807) (v_Dist : ∀ x9 ∈ E, (x9.length : Int) ≤ 9223372036854775807) (w_set : (set.length : Int) ≤ 9223372036854775807) : J4N U E set := by
  unfold J4N
  obtain ⟨hg, hs, hp⟩ := Jb ht
  obtain ⟨g1, g2, g3⟩ := Jc hg
  refine ⟨?_, ?_⟩
  ·refine ⟨0, 0, ?_⟩
   refine ⟨?_, rfl, rfl, rfl, rfl, rfl⟩
   ·refine ⟨?_, ?_, ?_⟩
    ·omega
    ·omega
    ·rfl
  intro m i hJ
  obtain ⟨h1, h2, h3⟩ := hJ
  refine ⟨?_, ?_⟩
  ·intro b1
   try simp only [nrmT] at b1
   refine ⟨?_, ?_, ?_, ?_⟩
   ·refine J6p U E i set ?_ ?_
    ·exact ht
    ·omega
   ·have h4 := J6q (J7D ht) i.toNat (by rw [J3w]; omega)
    have h5 := J7W ht (show i.toNat < E.length by omega)
    unfold Jr at h5
    omega
   ·omega
   refine ⟨(m + ((E.getD i.toNat []).getD (Ja (E.getD i.toNat []) set set.length).toNat 0)), (i + 1), ?_⟩
   refine ⟨?_, ?_, rfl, rfl, rfl, rfl, rfl⟩
   ·refine ⟨?_, ?_, ?_⟩
    ·omega
    ·omega
    ·rw [h3, show (i + 1).toNat = i.toNat + 1 by omega, J2v, J2S _ _ _ _ (by omega)]; rfl
   (simp only [J1p]; omega)
  intro b2
  try simp only [nrmT] at b2
  rw [h3, show i.toNat = E.length by omega]; rfl
theorem J3f (U : ZI) (E : ZR) (set : ZI) (ht : (J0 U E && J3 set 0 ((U.length : Int) - 1) && decide (0 < set.length)) = true) : PC Try.prog 162 [.agg [.sl (.ints U), .sl (.rows E)], .sl (.ints set)] (.one (.d (.int .i64 (Jd E set)))) :=
  pc_wf @Try.call162 fun hw => pc_by (by kernel_rfl) Try.func162 @Try.call162 (by kernel_rfl) J8i (J8H U E set) (by kernel_rfl) (J7O U E set ht hw.1.1 hw.1.2.1.1 hw.1.2.1.2 hw.2.1) (by kernel_rfl)
def J3X : List D → Orc := orcN [none, some .ints] fun ds => match ds with
  | [.agg [.sl (.ints U), .sl (.rows E)], .sl (.ints set)] => some (.one (.d (.int .i64 (Jd E set))))
  | _ => none
def J4z (f : FuncId) (ds : List D) : Orc := bif Nat.beq f 210 then J43 ds else bif Nat.beq f 219 then J9H ds else .no
def J4D (U : ZI) (E : ZR) (set : ZI) : Ann := .none
def J2M (U : ZI) (E : ZR) (set : ZI) : Prop :=
  (PC Try.prog 210 [.agg [.sl (.ints U), .sl (.rows E)], .sl (.ints set)] (.one (.own 3 (.ints (JP E set E.length))))) ∧ ((JP E set E.length).length = (JP E set E.length).length) ∧ (PC Try.prog 219 [.sl (.ints (JP E set E.length))] (.one (.d (.int .i64 (J1j (JP E set E.length) (JP E set E.length).length))))) ∧ (((J1j (JP E set E.length) (JP E set E.length).length) = (Jd E set)))
theorem J4n (U : ZI) (E : ZR) (set : ZI) (ht : (J0 U E && J3 set 0 ((U.length : Int) - 1) && decide (0 < set.length)) = true) (w_Open : (U.length : Int) ≤ 9223372036854775807) (w_Dist : (E.length : Int) ≤ 9223372036854775807) (v_Dist : ∀ x9 ∈ E, (x9.length : Int) ≤ 9223372036854775807) (w_set : (set.length : Int) ≤ 9223372036854775807) : J2M U E set := by
  unfold J2M
  obtain ⟨hg, hs, hp⟩ := Jb ht
  obtain ⟨g1, g2, g3⟩ := Jc hg
  refine ⟨?_, rfl, ?_, ?_⟩
  ·refine J48 U E set ?_
   ·exact ht
  ·refine Jaj (JP E set E.length) ?_ ?_
   ·exact J7D ht
   ·rw [J3w]; exact g3
  rw [J3w]; rfl
theorem J0M (U : ZI) (E : ZR) (set : ZI) (ht : (J0 U E && J3 set 0 ((U.length : Int) - 1) && decide (0 < set.length)) = true) : PC Try.prog 153 [.agg [.sl (.ints U), .sl (.rows E)], .sl (.ints set)] (.one (.d (.int .i64 (Jd E set)))) :=
  pc_wf @Try.call153 fun hw => pc_by (by kernel_rfl) Try.func153 @Try.call153 (by kernel_rfl) J4z (J4D U E set) (by kernel_rfl) (J4n U E set ht hw.1.1 hw.1.2.1.1 hw.1.2.1.2 hw.2.1) (by kernel_rfl)
def J2c : List D → Orc := orcN [none, some .ints] fun ds => match ds with
  | [.agg [.sl (.ints U), .sl (.rows E)], .sl (.ints set)] => some (.one (.d (.int .i64 (Jd E set))))
  | _ => none
abbrev J09 (xss : ZR) (U : ZI) (E : ZR) (best : ZI) (i : Int) : Prop := (0 ≤ i) ∧ (i ≤ (xss.length : Int)) ∧ (best ∈ xss) ∧ (best = (xss.take i.toNat).foldl (lsB (Jd E)) (xss.getD 0 []))
abbrev JJ (xss : ZR) (U : ZI) (E : ZR) (best : ZI) (i : Int) : Nat := (xss.length - i).toNat
def J6d (f : FuncId) (ds : List D) : Orc := bif Nat.beq f 153 then J2c ds else .no
def J6g (xss : ZR) (U : ZI) (E : ZR) : Ann := .two (.none) (.two (.none) (.two (.two (.none) (.loop (cut2 (fun (best : ZI) (i : Int) => J09 xss U E best i) (fun (best : ZI) (i : Int) => [(1, .d false (.fn 153 1 [.agg [.sl (.ints U), .sl (.rows E)]])), (5, .d true (.sl (.ints best))), (11, .d true (.sl (.rows xss))), (12, .d true (.int .i64 (xss.length : Int))), (13, .d true (.int .i64 i))]) (fun (best : ZI) (i : Int) => [])) (fun g => JJ xss U E g.1 g.2) (fun _ => .none))) (.none)))
def J3G (xss : ZR) (U : ZI) (E : ZR) : Prop :=
  ((0 : Int) ≤ 0) ∧ ((0 : Int) < xss.length) ∧ (0 < xss.length) ∧ ((∃ best' : ZI, ∃ i' : Int, (J09 xss U E best' i') ∧ ((.fn 153 1 [.agg [.sl (.ints U), .sl (.rows E)]] : D) = (.fn 153 1 [.agg [.sl (.ints U), .sl (.rows E)]] : D)) ∧ ((xss.getD 0 []) = best') ∧ (xss = xss) ∧ ((xss.length : Int) = (xss.length : Int)) ∧ ((0 : Int) = i')) ∧ (∀ best : ZI, ∀ i : Int, (J09 xss U E best i) → (((decide (i < (xss.length : Int))) = true → ((0 : Int) ≤ i) ∧ ((i : Int) < xss.length) ∧ (i.toNat < xss.length) ∧ (PC Try.prog 153 [.agg [.sl (.ints U), .sl (.rows E)], .sl (.ints (xss.getD i.toNat []))] (.one (.d (.int .i64 (Jd E (xss.getD i.toNat [])))))) ∧ (PC Try.prog 153 [.agg [.sl (.ints U), .sl (.rows E)], .sl (.ints best)] (.one (.d (.int .i64 (Jd E best))))) ∧ (((decide ((Jd E (xss.getD i.toNat [])) < (Jd E best))) = true → (I6 (i + 1)) ∧ (∃ best' : ZI, ∃ i' : Int, (J09 xss U E best' i') ∧ (JJ xss U E best' i' < JJ xss U E best i) ∧ ((.fn 153 1 [.agg [.sl (.ints U), .sl (.rows E)]] : D) = (.fn 153 1 [.agg [.sl (.ints U), .sl (.rows E)]] : D)) ∧ ((xss.getD i.toNat []) = best') ∧ (xss = xss) ∧ ((xss.length : Int) = (xss.length : Int)) ∧ ((i + 1) = i'))) ∧ ((decide ((Jd E (xss.getD i.toNat [])) < (Jd E best))) = false → (I6 (i + 1)) ∧ (∃ best' : ZI, ∃ i' : Int, (J09 xss U E best' i') ∧ (JJ xss U E best' i' < JJ xss U E best i) ∧ ((.fn 153 1 [.agg [.sl (.ints U), .sl (.rows E)]] : D) = (.fn 153 1 [.agg [.sl (.ints U), .sl (.rows E)]] : D)) ∧ (best = best') ∧ (xss = xss) ∧ ((xss.length : Int) = (xss.length : Int)) ∧ ((i + 1) = i'))))) ∧ ((decide (i < (xss.length : Int))) = false → (((best : ZI) = (J1l (Jd E) xss)))))))
theorem J6a (xss : ZR) (U : ZI) (E : ZR) (hp : 0 < xss.length) (hx : ∀ s ∈ xss, J0 U E && J3 s 0 ((U.length : Int) - 1) && decide (0 < s.length)) (w_xss : (xss.length : Int) ≤ 9223372036854775807) (v_xss : ∀ x9 ∈ xss, (x9.length : Int) ≤ 9223372036854775807) (w_Open : (U.length : Int) ≤ 9223372036854775807) (w_Dist : (E.length : Int) ≤ 9223372036854775807) (v_Dist : ∀ x9 ∈ E, (x9.length : Int) ≤ 9223372036854775807) : J3G xss U E := by
  unfold J3G
  refine ⟨?_, ?_, ?_, ?_, ?_⟩
  ·omega
  ·omega
  ·omega
  ·refine ⟨(xss.getD 0 []), 0, ?_⟩
   refine ⟨?_, rfl, rfl, rfl, rfl, rfl⟩
   ·refine ⟨?_, ?_, ?_, ?_⟩
    ·omega
    ·omega
    ·exact getD_mem hp
    ·rfl
  intro best i hJ
  obtain ⟨h1, h2, h3, h4⟩ := hJ
  refine ⟨?_, ?_⟩
  ·intro b1
   try simp only [nrmT] at b1
   refine ⟨?_, ?_, ?_, ?_, ?_, ?_, ?_⟩
   ·omega
   ·omega
   ·omega
   ·refine J0M U E (xss.getD i.toNat []) ?_
    ·exact hx _ (getD_memI h1 (by omega))
   ·refine J0M U E best ?_
    ·exact hx _ h3
   ·intro b2
    try simp only [nrmT] at b2
    refine ⟨?_, ?_⟩
    ·omega
    refine ⟨(xss.getD i.toNat []), (i + 1), ?_⟩
    refine ⟨?_, ?_, rfl, rfl, rfl, rfl, rfl⟩
    ·refine ⟨?_, ?_, ?_, ?_⟩
     ·omega
     ·omega
     ·exact getD_memI h1 (by omega)
     ·rw [J3q (d := []) h1 (by omega), ← h4]; unfold lsB; rw [if_pos b2]
    (simp only [JJ]; omega)
   intro b3
   try simp only [nrmT] at b3
   refine ⟨?_, ?_⟩
   ·omega
   refine ⟨best, (i + 1), ?_⟩
   refine ⟨?_, ?_, rfl, rfl, rfl, rfl, rfl⟩
   ·refine ⟨?_, ?_, ?_, ?_⟩
    ·omega
    ·omega
    ·exact h3
    ·rw [J3q (d := []) h1 (by omega), ← h4]; unfold lsB; (try dsimp only); rw [if_neg (by omega)]
   (simp only [JJ]; omega)
  intro b4
  try simp only [nrmT] at b4
  rw [h4, take_all (by omega)]; rfl
theorem J5U (xss : ZR) (U : ZI) (E : ZR) (hp : 0 < xss.length) (hx : ∀ s ∈ xss, J0 U E && J3 s 0 ((U.length : Int) - 1) && decide (0 < s.length)) : PCs Try.prog 172 [.sl (.rows xss), .fn 153 1 [.agg [.sl (.ints U), .sl (.rows E)]]] 0 (.sl (.ints (J1l (Jd E) xss))) :=
  pcs_wf @Try.call172 fun hw => pcs_by (by kernel_rfl) Try.func172 @Try.call172 (by kernel_rfl) J6d (J6g xss U E) (by kernel_rfl) (J6a xss U E hp hx hw.1.1 hw.1.2 hw.2.1.1.1 hw.2.1.1.2.1.1 hw.2.1.1.2.1.2) (by kernel_rfl)
def J5d : List D → Orc := orcS 0 fun ds => match ds with
  | [.sl (.rows xss), .fn f0 1 [.agg [.sl (.ints U), .sl (.rows E)]]] => some (.sl (.ints (J1l (Jd E) xss)))
  | _ => none
theorem J7n (x : ZI) (k : Int) : PB Try.prog 218 [.sl (.ints x), .bx [.int .i64 k] 0] (decide ((x.length : Int) ≠ k)) := by
  refine ⟨@Try.call218, fun w vs hall => ?_⟩
  obtain ⟨v1, v2, rfl⟩ : ∃ v1 v2, vs = [v1, v2] := by
    match vs, hall.1 with
    | [a, b], _ => exact ⟨a, b, rfl⟩
  obtain ⟨ad, cap, rfl⟩ := J8W (hall.2 0 v1 _ rfl rfl)
  obtain ⟨b, rfl, hc⟩ := Jau (hall.2 1 v2 _ rfl rfl)
  show Calls Try.prog 218 #[.slice ad x.length cap, .pointer (some b)] w _
  clear hall
  go_enter Try.func218, Try.ntmps218
  go_wp2
  all_goals (go_ret; exact ⟨by first | (simp_all; done) | (simp_all; rfl), 0, rfl⟩)
theorem J1y (xss : ZR) (k : Int) (hp : 0 < xss.length) : PU Try.prog 217 26 (.rows xss) (.rows (xss.filter (fun x9 => !(decide ((x9.length : Int) ≠ k))))) [.fn 218 0 [.bx [.int .i64 k] 0]] true :=
  pu_deleteFunc Try.layDelete Try.zeroValue26 26 xss (fun x9 => decide ((x9.length : Int) ≠ k)) 218 [.bx [.int .i64 k] 0] (fun x => J7n x k) hp
abbrev J0g (U : ZI) (E : ZR) (k : Int) (list2 : ZR) : Prop := (list2 = (J8 (U.length : Int).toNat).filter (fun x9 => !(decide ((x9.length : Int) ≠ k))))
def J4X (f : FuncId) (ds : List D) : Orc := bif Nat.beq f 134 then J9h ds else bif Nat.beq f 172 then J5d ds else .no
def J53 (U : ZI) (E : ZR) (k : Int) : Ann := .two (.none) (.cut (.mark [] [(5, .up (.rows ((J8 (U.length : Int).toNat).filter (fun x9 => !(decide ((x9.length : Int) ≠ k))))) true)]) (cut1 (fun (list2 : ZR) => J0g U E k list2) (fun (list2 : ZR) => [(2, .ptr 2 0), (5, .d true (.sl (.rows list2)))]) (fun (list2 : ZR) => [(2, .box 39 [.d false (.sl (.ints U)), .d false (.sl (.rows E))])])) (fun _ => .none))
def J39 (U : ZI) (E : ZR) (k : Int) : Prop :=
  (((PC Try.prog 134 [.int .i64 (U.length : Int)] (.one (.own 26 (.rows (J8 (U.length : Int).toNat))))) ∧ ((J8 (U.length : Int).toNat).length = (J8 (U.length : Int).toNat).length) ∧ (PU Try.prog 217 26 (.rows (J8 (U.length : Int).toNat)) (.rows ((J8 (U.length : Int).toNat).filter (fun x9 => !(decide ((x9.length : Int) ≠ k))))) [.fn 218 0 [.bx [.int .i64 k] 0]] true) ∧ (∃ list2' : ZR, (J0g U E k list2') ∧ (((J8 (U.length : Int).toNat).filter (fun x9 => !(decide ((x9.length : Int) ≠ k)))).length = ((J8 (U.length : Int).toNat).filter (fun x9 => !(decide ((x9.length : Int) ≠ k)))).length) ∧ (((J8 (U.length : Int).toNat).filter (fun x9 => !(decide ((x9.length : Int) ≠ k)))) = list2') ∧ (U = U) ∧ (E = E))) ∧ (∀ list2 : ZR, (J0g U E k list2) → (PCs Try.prog 172 [.sl (.rows list2), .fn 153 1 [.agg [.sl (.ints U), .sl (.rows E)]]] 0 (.sl (.ints (J1l (Jd E) list2)))) ∧ ((((J1l (Jd E) list2) : ZI) = (Jj U E k)))))
theorem J4G (U : ZI) (E : ZR) (k : Int) (hg : J0 U E = true) (hk : 1 ≤ k ∧ k ≤ (U.length : Int)) (w_Open : (U.length : Int) ≤ 9223372036854775807) (w_Dist : (E.length : Int) ≤ 9223372036854775807) (v_Dist : ∀ x9 ∈ E, (x9.length : Int) ≤ 9223372036854775807) : J39 U E k := by
  unfold J39
  obtain ⟨g1, g2, g3⟩ := Jc hg
  refine ⟨?_, ?_⟩
  ·refine ⟨?_, rfl, ?_, ?_⟩
   ·refine Ja2 (U.length : Int) ?_
    ·omega
   ·refine J1y (J8 (U.length : Int).toNat) k ?_
    ·exact Jab (by omega)
   ·refine ⟨((J8 (U.length : Int).toNat).filter (fun x9 => !(decide ((x9.length : Int) ≠ k)))), ?_⟩
    refine ⟨?_, rfl, rfl, rfl, rfl⟩
    ·unfold J0g
     rfl
  intro list2 hJ
  have h8 := hJ
  refine ⟨?_, ?_⟩
  ·refine J5U list2 U E ?_ ?_
   ·rw [h8]; exact J6s hk
   ·rw [h8]
    intro s hs
    exact (J3D hg (List.mem_filter.1 hs).1).1
  rw [h8]; rfl
theorem J2N (U : ZI) (E : ZR) (k : Int) (hg : J0 U E = true) (hk : 1 ≤ k ∧ k ≤ (U.length : Int)) : PC Try.prog 143 [.agg [.sl (.ints U), .sl (.rows E)], .int .i64 k] (.one (.d (.sl (.ints (Jj U E k))))) :=
  pc_wf @Try.call143 fun hw => pc_by (by kernel_rfl) Try.func143 @Try.call143 (by kernel_rfl) J4X (J53 U E k) (by kernel_rfl) (J4G U E k hg hk hw.1.1 hw.1.2.1.1 hw.1.2.1.2) (by kernel_rfl)
def J2z : List D → Orc := orcN [none, none] fun ds => match ds with
  | [.agg [.sl (.ints U), .sl (.rows E)], .int .i64 k] => some (.one (.d (.sl (.ints (Jj U E k)))))
  | _ => none
abbrev J0U (U : ZI) (E : ZR) (k : Int) (best : ZI) (i : Int) : Prop := (0 ≤ i) ∧ (i ≤ ((J8 (U.length : Int).toNat).length : Int)) ∧ (best = ((J8 (U.length : Int).toNat).take i.toNat).foldl (bsB (Jd E) k) []) ∧ (best = [] ∨ best ∈ (J8 (U.length : Int).toNat))
abbrev J07 (U : ZI) (E : ZR) (k : Int) (best : ZI) (i : Int) : Nat := ((J8 (U.length : Int).toNat).length - i).toNat
def J9b (f : FuncId) (ds : List D) : Orc := bif Nat.beq f 214 then J7M ds else bif Nat.beq f 162 then J3X ds else .no
def J8S (U : ZI) (E : ZR) (k : Int) : Ann := .two (.none) (.two (.reg [(4, .frz)]) (.two (.two (.none) (.loop (cut2 (fun (best : ZI) (i : Int) => J0U U E k best i) (fun (best : ZI) (i : Int) => [(1, .d false (.int .i64 k)), (2, .ptr 2 0), (5, .d true (.sl (.rows (J8 (U.length : Int).toNat)))), (6, .d true (.sl (.ints best))), (7, .d true (.int .i64 i))]) (fun (best : ZI) (i : Int) => [(2, .box 39 [.d false (.sl (.ints U)), .d false (.sl (.rows E))])])) (fun g => J07 U E k g.1 g.2) (fun _ => .none))) (.none)))
def J3A (U : ZI) (E : ZR) (k : Int) (best : ZI) (i : Int) : Bool := (cond ((((J8 (U.length : Int).toNat).getD i.toNat []).length : Int) == k) (cond ((best.length : Int) == 0) true (decide ((Jd E ((J8 (U.length : Int).toNat).getD i.toNat [])) < (Jd E best)))) false)
def J67 (U : ZI) (E : ZR) (k : Int) : Prop :=
  (PC Try.prog 214 [.int .i64 (U.length : Int)] (.one (.d (.sl (.rows (J8 (U.length : Int).toNat)))))) ∧ ((∃ best' : ZI, ∃ i' : Int, (J0U U E k best' i') ∧ (k = k) ∧ ((J8 (U.length : Int).toNat) = (J8 (U.length : Int).toNat)) ∧ ([] = best') ∧ ((0 : Int) = i') ∧ (U = U) ∧ (E = E)) ∧ (∀ best : ZI, ∀ i : Int, (J0U U E k best i) → (((decide (i < (((J8 (U.length : Int).toNat).length) : Int))) = true → (true = true) ∧ ((0 : Int) ≤ i) ∧ ((i : Int) < (J8 (U.length : Int).toNat).length) ∧ (i.toNat < (J8 (U.length : Int).toNat).length) ∧ (((((J8 (U.length : Int).toNat).getD i.toNat []).length : Int) == k) = true → ((((J8 (U.length : Int).toNat).getD i.toNat []).length : Int) == k) = true) ∧ (((((J8 (U.length : Int).toNat).getD i.toNat []).length : Int) == k) = true → ((((J8 (U.length : Int).toNat).getD i.toNat []).length : Int) == k) = true) ∧ (((((J8 (U.length : Int).toNat).getD i.toNat []).length : Int) == k) = true → ((((J8 (U.length : Int).toNat).getD i.toNat []).length : Int) == k) = true) ∧ ((((((J8 (U.length : Int).toNat).getD i.toNat []).length : Int) == k) && (!((best.length : Int) == 0))) = true → (((((J8 (U.length : Int).toNat).getD i.toNat []).length : Int) == k) && (!((best.length : Int) == 0))) = true) ∧ ((((((J8 (U.length : Int).toNat).getD i.toNat []).length : Int) == k) && (!((best.length : Int) == 0))) = true → (((((J8 (U.length : Int).toNat).getD i.toNat []).length : Int) == k) && (!((best.length : Int) == 0))) = true) ∧ (((((((J8 (U.length : Int).toNat).getD i.toNat []).length : Int) == k) && (!((best.length : Int) == 0))) = true → (0 : Int) ≤ i)) ∧ (((((((J8 (U.length : Int).toNat).getD i.toNat []).length : Int) == k) && (!((best.length : Int) == 0))) = true → (i : Int) < (J8 (U.length : Int).toNat).length)) ∧ ((((((J8 (U.length : Int).toNat).getD i.toNat []).length : Int) == k) && (!((best.length : Int) == 0))) = true → (((((J8 (U.length : Int).toNat).getD i.toNat []).length : Int) == k) && (!((best.length : Int) == 0))) = true) ∧ (((((((J8 (U.length : Int).toNat).getD i.toNat []).length : Int) == k) && (!((best.length : Int) == 0))) = true → i.toNat < (J8 (U.length : Int).toNat).length)) ∧ ((((((J8 (U.length : Int).toNat).getD i.toNat []).length : Int) == k) && (!((best.length : Int) == 0))) = true → (((((J8 (U.length : Int).toNat).getD i.toNat []).length : Int) == k) && (!((best.length : Int) == 0))) = true) ∧ ((((((J8 (U.length : Int).toNat).getD i.toNat []).length : Int) == k) && (!((best.length : Int) == 0))) = true → (((((J8 (U.length : Int).toNat).getD i.toNat []).length : Int) == k) && (!((best.length : Int) == 0))) = true) ∧ ((((((J8 (U.length : Int).toNat).getD i.toNat []).length : Int) == k) && (!((best.length : Int) == 0))) = true → PC Try.prog 162 [.agg [.sl (.ints U), .sl (.rows E)], .sl (.ints ((J8 (U.length : Int).toNat).getD i.toNat []))] (.one (.d (.int .i64 (Jd E ((J8 (U.length : Int).toNat).getD i.toNat [])))))) ∧ ((((((J8 (U.length : Int).toNat).getD i.toNat []).length : Int) == k) && (!((best.length : Int) == 0))) = true → (((((J8 (U.length : Int).toNat).getD i.toNat []).length : Int) == k) && (!((best.length : Int) == 0))) = true) ∧ ((((((J8 (U.length : Int).toNat).getD i.toNat []).length : Int) == k) && (!((best.length : Int) == 0))) = true → (((((J8 (U.length : Int).toNat).getD i.toNat []).length : Int) == k) && (!((best.length : Int) == 0))) = true) ∧ ((((((J8 (U.length : Int).toNat).getD i.toNat []).length : Int) == k) && (!((best.length : Int) == 0))) = true → PC Try.prog 162 [.agg [.sl (.ints U), .sl (.rows E)], .sl (.ints best)] (.one (.d (.int .i64 (Jd E best))))) ∧ ((((((J8 (U.length : Int).toNat).getD i.toNat []).length : Int) == k) && (!((best.length : Int) == 0))) = true → (((((J8 (U.length : Int).toNat).getD i.toNat []).length : Int) == k) && (!((best.length : Int) == 0))) = true) ∧ ((((((J8 (U.length : Int).toNat).getD i.toNat []).length : Int) == k) && (!((best.length : Int) == 0))) = true → (((((J8 (U.length : Int).toNat).getD i.toNat []).length : Int) == k) && (!((best.length : Int) == 0))) = true) ∧ ((((((J8 (U.length : Int).toNat).getD i.toNat []).length : Int) == k) = true → ((((J8 (U.length : Int).toNat).getD i.toNat []).length : Int) == k) = true)) ∧ ((((((J8 (U.length : Int).toNat).getD i.toNat []).length : Int) == k) = true → ((best.length : Int) == 0) = true → true = true)) ∧ ((((((J8 (U.length : Int).toNat).getD i.toNat []).length : Int) == k) = true → ((best.length : Int) == 0) = false → (((((J8 (U.length : Int).toNat).getD i.toNat []).length : Int) == k) && (!((best.length : Int) == 0))) = true)) ∧ (true = true) ∧ ((((((J8 (U.length : Int).toNat).getD i.toNat []).length : Int) == k) = true → ((((J8 (U.length : Int).toNat).getD i.toNat []).length : Int) == k) = true)) ∧ ((((((J8 (U.length : Int).toNat).getD i.toNat []).length : Int) == k) = false → true = true)) ∧ (((J3A U E k best i) = true → ((0 : Int) ≤ i) ∧ ((i : Int) < (J8 (U.length : Int).toNat).length) ∧ (i.toNat < (J8 (U.length : Int).toNat).length) ∧ (I6 (i + 1)) ∧ (∃ best' : ZI, ∃ i' : Int, (J0U U E k best' i') ∧ (J07 U E k best' i' < J07 U E k best i) ∧ (k = k) ∧ ((J8 (U.length : Int).toNat) = (J8 (U.length : Int).toNat)) ∧ (((J8 (U.length : Int).toNat).getD i.toNat []) = best') ∧ ((i + 1) = i') ∧ (U = U) ∧ (E = E))) ∧ ((J3A U E k best i) = false → (I6 (i + 1)) ∧ (∃ best' : ZI, ∃ i' : Int, (J0U U E k best' i') ∧ (J07 U E k best' i' < J07 U E k best i) ∧ (k = k) ∧ ((J8 (U.length : Int).toNat) = (J8 (U.length : Int).toNat)) ∧ (best = best') ∧ ((i + 1) = i') ∧ (U = U) ∧ (E = E))))) ∧ ((decide (i < (((J8 (U.length : Int).toNat).length) : Int))) = false → (((best : ZI) = (Jj U E k)))))))
theorem J8r (U : ZI) (E : ZR) (k : Int) (hg : J0 U E = true) (hk : 1 ≤ k ∧ k ≤ (U.length : Int)) (w_Open : (U.length : Int) ≤ 9223372036854775807) (w_Dist : (E.length : Int) ≤ 9223372036854775807) (v_Dist : ∀ x9 ∈ E, (x9.length : Int) ≤ 9223372036854775807) : J67 U E k := by
  unfold J67 J3A
  obtain ⟨g1, g2, g3⟩ := Jc hg
  have sl := J8Z (n := (U.length : Int).toNat) (by omega)
  refine ⟨?_, ?_, ?_⟩
  ·refine J8x (U.length : Int) ?_
   ·omega
  ·refine ⟨([]), 0, ?_⟩
   refine ⟨?_, rfl, rfl, ?_, rfl, rfl, rfl⟩
   ·refine ⟨?_, ?_, ?_, ?_⟩
    ·omega
    ·omega
    ·rfl
    ·exact .inl rfl
   rfl
  intro best i hJ
  obtain ⟨h1, h2, h3, h4⟩ := hJ
  refine ⟨?_, ?_⟩
  ·intro b1
   try simp only [nrmT] at b1
   refine ⟨rfl, ?_, ?_, ?_, id, id, id, id, id, ?_, ?_, id, ?_, id, id, ?_, id, id, ?_, id, id, id, fun _ _ => rfl, ?_, rfl, id, fun _ => rfl, ?_, ?_⟩
   ·omega
   ·omega
   ·omega
   ·intro _; omega
   ·intro _; omega
   ·intro _; omega
   ·intro hg
    refine J3f U E ((J8 (U.length : Int).toNat).getD i.toNat []) ?_
    ·exact (J3D (by assumption) (getD_memI (d := []) h1 (by omega : i < ((J8 (U.length : Int).toNat).length : Int)))).1
   ·intro hg
    refine J3f U E best ?_
    ·rcases h4 with h5 | h5
     · exfalso
       rw [h5] at hg
       simp at hg
     · exact (J3D (by assumption) h5).1
   ·intro q1 q2; rw [q1, q2]; rfl
   ·intro b2
    refine ⟨?_, ?_, ?_, ?_, ?_⟩
    ·omega
    ·omega
    ·omega
    ·omega
    refine ⟨((J8 (U.length : Int).toNat).getD i.toNat []), (i + 1), ?_⟩
    refine ⟨?_, ?_, rfl, rfl, rfl, rfl, rfl, rfl⟩
    ·refine ⟨?_, ?_, ?_, ?_⟩
     ·omega
     ·omega
     ·rw [J3q (d := []) h1 (by omega), ← h3]; unfold bsB; rw [if_pos b2]
     ·exact .inr (getD_memI (d := []) h1 (by omega : i < ((J8 (U.length : Int).toNat).length : Int)))
    (simp only [J07]; omega)
   intro b3
   refine ⟨?_, ?_⟩
   ·omega
   refine ⟨best, (i + 1), ?_⟩
   refine ⟨?_, ?_, rfl, rfl, rfl, rfl, rfl, rfl⟩
   ·refine ⟨?_, ?_, ?_, ?_⟩
    ·omega
    ·omega
    ·rw [J3q (d := []) h1 (by omega), ← h3]; unfold bsB; rw [if_neg (by rw [b3]; simp)]
    ·exact h4
   (simp only [J07]; omega)
  intro b4
  try simp only [nrmT] at b4
  rw [h3, take_all (by omega)]
  exact Jaw hk.1 _
theorem J4Q (U : ZI) (E : ZR) (k : Int) (hg : J0 U E = true) (hk : 1 ≤ k ∧ k ≤ (U.length : Int)) : PC Try.prog 140 [.agg [.sl (.ints U), .sl (.rows E)], .int .i64 k] (.one (.d (.sl (.ints (Jj U E k))))) :=
  pc_wf @Try.call140 fun hw => pc_by (by kernel_rfl) Try.func140 @Try.call140 (by kernel_rfl) J9b (J8S U E k) (by kernel_rfl) (J8r U E k hg hk hw.1.1 hw.1.2.1.1 hw.1.2.1.2) (by kernel_rfl)
def J49 : List D → Orc := orcN [none, none] fun ds => match ds with
  | [.agg [.sl (.ints U), .sl (.rows E)], .int .i64 k] => some (.one (.d (.sl (.ints (Jj U E k)))))
  | _ => none
def J2j (U : ZI) (E : ZR) (k : Int) : Int := if (J0 U E && inB k 1 (U.length : Int)) = true then Jd E (Jj U E k) else 0
def J5v (f : FuncId) (ds : List D) : Orc := bif Nat.beq f 141 then J2B ds else bif Nat.beq f 143 then J2z ds else bif Nat.beq f 153 then J2c ds else .no
def J5K (U : ZI) (E : ZR) (k : Int) : Ann := .none
def J3p (U : ZI) (E : ZR) (k : Int) : Prop :=
  (PC Try.prog 141 [.agg [.sl (.ints U), .sl (.rows E)], .int .i64 k] (.one (.d (.bool (J0 U E && inB k 1 (U.length : Int)))))) ∧ (((!(J0 U E && inB k 1 (U.length : Int))) = true → (((0 : Int) = (J2j U E k)) ∧ (false = (J0 U E && inB k 1 (U.length : Int))))) ∧ ((!(J0 U E && inB k 1 (U.length : Int))) = false → (true = true) ∧ (PC Try.prog 143 [.agg [.sl (.ints U), .sl (.rows E)], .int .i64 k] (.one (.d (.sl (.ints (Jj U E k)))))) ∧ (PC Try.prog 153 [.agg [.sl (.ints U), .sl (.rows E)], .sl (.ints (Jj U E k))] (.one (.d (.int .i64 (Jd E (Jj U E k)))))) ∧ (((Jd E (Jj U E k)) = (J2j U E k)) ∧ (true = (J0 U E && inB k 1 (U.length : Int))))))
theorem J5c (U : ZI) (E : ZR) (k : Int)  (w_Open : (U.length : Int) ≤ 9223372036854775807) (w_Dist : (E.length : Int) ≤ 9223372036854775807) (v_Dist : ∀ x9 ∈ E, (x9.length : Int) ≤ 9223372036854775807) : J3p U E k := by
  unfold J3p
  refine ⟨J2P U E k, ?_, ?_⟩
  ·intro b1
   try simp only [Bool.not_eq_true', Bool.not_eq_false', Bool.not_not] at b1
   refine ⟨?_, ?_⟩
   ·have hgk : (J0 U E && inB k 1 (U.length : Int)) = false := by simpa using b1
    unfold J2j; rw [hgk]; rfl
   have hgk : (J0 U E && inB k 1 (U.length : Int)) = false := by simpa using b1
   exact hgk.symm
  intro b2
  try simp only [Bool.not_eq_true', Bool.not_eq_false', Bool.not_not] at b2
  refine ⟨rfl, ?_, ?_, ?_, ?_⟩
  ·refine J2N U E k ?_ ?_
   ·have hgk : (J0 U E && inB k 1 (U.length : Int)) = true := by simpa using b2
    obtain ⟨hg, hk⟩ := (Bool.and_eq_true _ _ ▸ hgk : _ ∧ _)
    have hk2 := J0A hk
    exact hg
   ·have hgk : (J0 U E && inB k 1 (U.length : Int)) = true := by simpa using b2
    obtain ⟨hg, hk⟩ := (Bool.and_eq_true _ _ ▸ hgk : _ ∧ _)
    have hk2 := J0A hk
    exact hk2
  ·refine J0M U E (Jj U E k) ?_
   ·have hgk : (J0 U E && inB k 1 (U.length : Int)) = true := by simpa using b2
    obtain ⟨hg, hk⟩ := (Bool.and_eq_true _ _ ▸ hgk : _ ∧ _)
    have hk2 := J0A hk
    exact (J3D hg (J6u hk2)).1
  ·have hgk : (J0 U E && inB k 1 (U.length : Int)) = true := by simpa using b2
   obtain ⟨hg, hk⟩ := (Bool.and_eq_true _ _ ▸ hgk : _ ∧ _)
   have hk2 := J0A hk
   unfold J2j; rw [if_pos hgk]
  have hgk : (J0 U E && inB k 1 (U.length : Int)) = true := by simpa using b2
  obtain ⟨hg, hk⟩ := (Bool.and_eq_true _ _ ▸ hgk : _ ∧ _)
  have hk2 := J0A hk
  exact hgk.symm
theorem J3d (U : ZI) (E : ZR) (k : Int)  : PC Try.prog 59 [.agg [.sl (.ints U), .sl (.rows E)], .int .i64 k] (.tup [.d (.int .i64 (J2j U E k)), .d (.bool (J0 U E && inB k 1 (U.length : Int)))]) :=
  pc_wf @Try.call59 fun hw => pc_by (by kernel_rfl) Try.func59 @Try.call59 (by kernel_rfl) J5v (J5K U E k) (by kernel_rfl) (J5c U E k hw.1.1 hw.1.2.1.1 hw.1.2.1.2) (by kernel_rfl)
def J2Q : List D → Orc := orcN [none, none] fun ds => match ds with
  | [.agg [.sl (.ints U), .sl (.rows E)], .int .i64 k] => some (.tup [.d (.int .i64 (J2j U E k)), .d (.bool (J0 U E && inB k 1 (U.length : Int)))])
  | _ => none
def J9g (U : ZI) (E : ZR) (n : Nat) : ZI := tabTo (fun j => Jd E (Jj U E ((j : Int) + 1))) n
theorem J83 {U : ZI} {E : ZR} (hg : J0 U E = true) {k : Int} (hk : 1 ≤ k ∧ k ≤ (U.length : Int)) : (J0 U E && J3 (Jj U E k) 0 ((U.length : Int) - 1) && decide (0 < (Jj U E k).length)) = true := (J3D hg (J6u hk)).1
theorem J9w {v : ZI → Int} {l : ZR} : ∀ x ∈ l, v (J1l v l) ≤ v x := by
  have key : ∀ (r : ZR) (b : ZI), v (r.foldl (lsB v) b) ≤ v b ∧ ∀ x ∈ r, v (r.foldl (lsB v) b) ≤ v x := by
    intro r
    induction r with
    | nil => intro b; exact ⟨Int.le_refl _, fun x hx => by cases hx⟩
    | cons y r ih =>
      intro b
      obtain ⟨h1, h2⟩ := ih (lsB v b y)
      have h3 : v (lsB v b y) ≤ v b ∧ v (lsB v b y) ≤ v y := by
        unfold lsB
        split <;> omega
      refine ⟨Int.le_trans h1 h3.1, fun x hx => ?_⟩
      rcases List.mem_cons.1 hx with rfl | hx
      · exact Int.le_trans h1 h3.2
      exact h2 x hx
  exact fun x hx => (key l _).2 x hx
theorem J7Q {U : ZI} {E : ZR} {k : Int} (hk : 1 ≤ k ∧ k ≤ (U.length : Int)) : ((Jj U E k).length : Int) = k := by
  have h := (List.mem_filter.1 (J66 (v := Jd E) (J6s hk))).2
  have h : (!(decide (((Jj U E k).length : Int) ≠ k))) = true := h
  simpa using h
def chs (n : Nat) : ZR := [[]] ++ J8 n
theorem JaE {n : Nat} {s : ZI} : s ∈ chs n ↔ ∃ c, c < 2 ^ n ∧ lst n c = s := by
  unfold chs
  rw [List.mem_append, J3s]
  have h0 : lst n 0 = [] := by
    cases e : lst n 0 with
    | nil => rfl
    | cons x r =>
      have hm : x ∈ lst n 0 := by rw [e]; exact List.mem_cons_self
      have := (mem_members.1 hm).2.2
      rw [Nat.zero_testBit] at this
      cases this
  constructor
  · rintro (h | ⟨c, h1, h2, h3⟩)
    · exact ⟨0, Nat.two_pow_pos n, by rw [List.mem_singleton.1 h, h0]⟩
    · exact ⟨c, h2, h3⟩
  rintro ⟨c, h1, h2⟩
  by_cases e : c = 0
  · left; rw [← h2, e, h0]; exact List.mem_singleton.2 rfl
  exact .inr ⟨c, by omega, h1, h2⟩
/-- How far a cursor has read, and its seed. -/
structure Cur where
  pos : Int
  seed : Int
abbrev J04 : Cur := ⟨0, 0⟩
def okC (c : Cur) (b : Int) : Prop := 0 ≤ c.pos ∧ c.pos ≤ b ∧ 0 ≤ c.seed ∧ c.seed ≤ 18446744073709551615
def nxB (code : List Nat) (c : Cur) : Int := if c.pos < (code.length : Int) then ((code.getD c.pos.toNat 0 : Nat) : Int) else 0
def Je (code : List Nat) (c : Cur) : Cur := ⟨c.pos + 1, IntKind.u64.wrap (IntKind.u64.wrap (IntKind.u64.wrap (c.seed * 6364136223846793005) + nxB code c) + 462197)⟩
def JB (code : List Nat) (c : Cur) : Int := if c.pos + 1 ≤ (code.length : Int) then nxB code c else ((((Je code c).seed / 2 ^ 40).toNat &&& 255 : Nat) : Int)
theorem J5h (n : Int) : 0 ≤ IntKind.u64.wrap n ∧ IntKind.u64.wrap n ≤ 18446744073709551615 := by
  have h : IntKind.u64.wrap n = n % 18446744073709551616 := rfl
  omega
theorem J9U {code : List Nat} (hb : ∀ x9 ∈ code, x9 < 256) (c : Cur) (h0 : 0 ≤ c.pos) : 0 ≤ nxB code c ∧ nxB code c ≤ 255 := by
  unfold nxB
  split
  · have := hb _ (getD_mem (d := 0) (show c.pos.toNat < code.length by omega))
    omega
  omega
theorem J9M (n : Nat) : n &&& 255 ≤ 255 := Nat.and_le_right
theorem J0S {code : List Nat} (hb : ∀ x9 ∈ code, x9 < 256) {c : Cur} (h0 : 0 ≤ c.pos) : 0 ≤ JB code c ∧ JB code c ≤ 255 := by
  unfold JB
  split
  · exact J9U hb c h0
  have := J9M ((Je code c).seed / 2 ^ 40).toNat
  omega
theorem J0v {code : List Nat} {c : Cur} {b : Int} (h : okC c b) : okC (Je code c) (b + 1) := by
  obtain ⟨h1, h2, _, _⟩ := h
  exact ⟨by show 0 ≤ c.pos + 1; omega, by show c.pos + 1 ≤ b + 1; omega, (J5h _).1, (J5h _).2⟩
theorem Js {c : Cur} {b b' : Int} (h : okC c b) (hb : b ≤ b') : okC c b' := ⟨h.1, Int.le_trans h.2.1 hb, h.2.2⟩
def J6v (f : FuncId) (ds : List D) : Orc := .no
def J6Q (u : Value) (code : List Nat) (c : Cur) : Ann := .two (.none) (.two (.none) (.two (.none) (.two (.none) (.two (.reg [(5, .wrap), (8, .wrap), (9, .wrap)]) (.none)))))
def J2e (u : Value) (code : List Nat) (c : Cur) : Prop :=
  (true = true) ∧ (((decide (c.pos < (code.length : Int))) = true → (true = true) ∧ ((0 : Int) ≤ c.pos) ∧ ((c.pos : Int) < code.length) ∧ (c.pos.toNat < code.length) ∧ (I6 ((code.getD c.pos.toNat 0 : Nat) : Int)) ∧ (I6 (c.pos + 1)) ∧ (0 ≤ ((code.getD c.pos.toNat 0 : Nat) : Int) ∧ ((code.getD c.pos.toNat 0 : Nat) : Int) ≤ 18446744073709551615) ∧ (true = true) ∧ (((decide ((c.pos + 1) ≤ (code.length : Int))) = true → (((.lit u (.sl (.bytes code)) : D) = .lit u (.sl (.bytes code))) ∧ ((c.pos + 1) = (Je code c).pos) ∧ ((IntKind.u64.wrap ((IntKind.u64.wrap ((IntKind.u64.wrap (c.seed * 6364136223846793005)) + ((code.getD c.pos.toNat 0 : Nat) : Int))) + 462197)) = (Je code c).seed) ∧ (((code.getD c.pos.toNat 0 : Nat) : Int) = (JB code c)))) ∧ ((decide ((c.pos + 1) ≤ (code.length : Int))) = false → ((0 : Int) ≤ (IntKind.u64.wrap ((IntKind.u64.wrap ((IntKind.u64.wrap (c.seed * 6364136223846793005)) + ((code.getD c.pos.toNat 0 : Nat) : Int))) + 462197)) ∧ ((IntKind.u64.wrap ((IntKind.u64.wrap ((IntKind.u64.wrap (c.seed * 6364136223846793005)) + ((code.getD c.pos.toNat 0 : Nat) : Int))) + 462197)) : Int) ≤ 18446744073709551615) ∧ ((0 : Int) ≤ 40) ∧ ((0 : Int) ≤ ((IntKind.u64.wrap ((IntKind.u64.wrap ((IntKind.u64.wrap (c.seed * 6364136223846793005)) + ((code.getD c.pos.toNat 0 : Nat) : Int))) + 462197)) / 2 ^ 40) ∧ (((IntKind.u64.wrap ((IntKind.u64.wrap ((IntKind.u64.wrap (c.seed * 6364136223846793005)) + ((code.getD c.pos.toNat 0 : Nat) : Int))) + 462197)) / 2 ^ 40) : Int) ≤ 18446744073709551615) ∧ ((0 : Int) ≤ 255 ∧ (255 : Int) ≤ 18446744073709551615) ∧ (I6 ((((IntKind.u64.wrap ((IntKind.u64.wrap ((IntKind.u64.wrap (c.seed * 6364136223846793005)) + ((code.getD c.pos.toNat 0 : Nat) : Int))) + 462197)) / 2 ^ 40).toNat &&& 255 : Nat) : Int)) ∧ (((.lit u (.sl (.bytes code)) : D) = .lit u (.sl (.bytes code))) ∧ ((c.pos + 1) = (Je code c).pos) ∧ ((IntKind.u64.wrap ((IntKind.u64.wrap ((IntKind.u64.wrap (c.seed * 6364136223846793005)) + ((code.getD c.pos.toNat 0 : Nat) : Int))) + 462197)) = (Je code c).seed) ∧ (((((IntKind.u64.wrap ((IntKind.u64.wrap ((IntKind.u64.wrap (c.seed * 6364136223846793005)) + ((code.getD c.pos.toNat 0 : Nat) : Int))) + 462197)) / 2 ^ 40).toNat &&& 255 : Nat) : Int) = (JB code c)))))) ∧ ((decide (c.pos < (code.length : Int))) = false → (I6 (c.pos + 1)) ∧ (0 ≤ (0 : Int) ∧ (0 : Int) ≤ 18446744073709551615) ∧ (true = true) ∧ (((decide ((c.pos + 1) ≤ (code.length : Int))) = true → (((.lit u (.sl (.bytes code)) : D) = .lit u (.sl (.bytes code))) ∧ ((c.pos + 1) = (Je code c).pos) ∧ ((IntKind.u64.wrap ((IntKind.u64.wrap ((IntKind.u64.wrap (c.seed * 6364136223846793005)) + 0)) + 462197)) = (Je code c).seed) ∧ ((0 : Int) = (JB code c)))) ∧ ((decide ((c.pos + 1) ≤ (code.length : Int))) = false → ((0 : Int) ≤ (IntKind.u64.wrap ((IntKind.u64.wrap ((IntKind.u64.wrap (c.seed * 6364136223846793005)) + 0)) + 462197)) ∧ ((IntKind.u64.wrap ((IntKind.u64.wrap ((IntKind.u64.wrap (c.seed * 6364136223846793005)) + 0)) + 462197)) : Int) ≤ 18446744073709551615) ∧ ((0 : Int) ≤ 40) ∧ ((0 : Int) ≤ ((IntKind.u64.wrap ((IntKind.u64.wrap ((IntKind.u64.wrap (c.seed * 6364136223846793005)) + 0)) + 462197)) / 2 ^ 40) ∧ (((IntKind.u64.wrap ((IntKind.u64.wrap ((IntKind.u64.wrap (c.seed * 6364136223846793005)) + 0)) + 462197)) / 2 ^ 40) : Int) ≤ 18446744073709551615) ∧ ((0 : Int) ≤ 255 ∧ (255 : Int) ≤ 18446744073709551615) ∧ (I6 ((((IntKind.u64.wrap ((IntKind.u64.wrap ((IntKind.u64.wrap (c.seed * 6364136223846793005)) + 0)) + 462197)) / 2 ^ 40).toNat &&& 255 : Nat) : Int)) ∧ (((.lit u (.sl (.bytes code)) : D) = .lit u (.sl (.bytes code))) ∧ ((c.pos + 1) = (Je code c).pos) ∧ ((IntKind.u64.wrap ((IntKind.u64.wrap ((IntKind.u64.wrap (c.seed * 6364136223846793005)) + 0)) + 462197)) = (Je code c).seed) ∧ (((((IntKind.u64.wrap ((IntKind.u64.wrap ((IntKind.u64.wrap (c.seed * 6364136223846793005)) + 0)) + 462197)) / 2 ^ 40).toNat &&& 255 : Nat) : Int) = (JB code c)))))))
theorem J5Z (u : Value) (code : List Nat) (c : Cur) (hb : ∀ x9 ∈ code, x9 < 256) (hc : okC c 1000000000000)  : J2e u code c := by
  unfold J2e
  obtain ⟨c1, c2, c3, c4⟩ := hc
  have nb := J9U hb c c1
  have w64 := J5h
  refine ⟨rfl, ?_, ?_⟩
  ·intro b1
   try simp only [nrmT] at b1
   refine ⟨rfl, ?_, ?_, ?_, ?_, ?_, ?_, rfl, ?_, ?_⟩
   ·first | omega | rfl | (intro hg; simp only [nrmT] at hg; omega) | (intro g1 g2; simp [g1, g2]; done) | (intro g1; simp at g1 ⊢; simp [g1]; done) | (simp only [nrmT] at *; omega) | (simp at * <;> omega) | (simp_all <;> omega) | (simp_all; done)
   ·first | omega | rfl | (intro hg; simp only [nrmT] at hg; omega) | (intro g1 g2; simp [g1, g2]; done) | (intro g1; simp at g1 ⊢; simp [g1]; done) | (simp only [nrmT] at *; omega) | (simp at * <;> omega) | (simp_all <;> omega) | (simp_all; done)
   ·first | omega | rfl | (intro hg; simp only [nrmT] at hg; omega) | (intro g1 g2; simp [g1, g2]; done) | (intro g1; simp at g1 ⊢; simp [g1]; done) | (simp only [nrmT] at *; omega) | (simp at * <;> omega) | (simp_all <;> omega) | (simp_all; done)
   ·have := hb _ (getD_mem (d := 0) (show c.pos.toNat < code.length by omega))
    omega
   ·first | omega | rfl | (intro hg; simp only [nrmT] at hg; omega) | (intro g1 g2; simp [g1, g2]; done) | (intro g1; simp at g1 ⊢; simp [g1]; done) | (simp only [nrmT] at *; omega) | (simp at * <;> omega) | (simp_all <;> omega) | (simp_all; done)
   ·have := hb _ (getD_mem (d := 0) (show c.pos.toNat < code.length by omega))
    omega
   ·intro b2
    try simp only [nrmT] at b2
    refine ⟨rfl, ?_, ?_, ?_⟩
    ·first | omega | rfl | (intro hg; simp only [nrmT] at hg; omega) | (intro g1 g2; simp [g1, g2]; done) | (intro g1; simp at g1 ⊢; simp [g1]; done) | (simp only [nrmT] at *; omega) | (simp at * <;> omega) | (simp_all <;> omega) | (simp_all; done)
    ·have hs : (Je code c).seed = IntKind.u64.wrap (IntKind.u64.wrap (IntKind.u64.wrap (c.seed * 6364136223846793005) + nxB code c) + 462197) := rfl
     first | rw [show nxB code c = ((code.getD c.pos.toNat 0 : Nat) : Int) from if_pos (by omega)] at hs | rw [show nxB code c = 0 from if_neg (by omega)] at hs
     first | exact hs.symm | (exfalso; omega)
    unfold JB nxB; rw [if_pos (by omega), if_pos (by omega)]
   intro b3
   try simp only [nrmT] at b3
   refine ⟨?_, ?_, ?_, ?_, ?_, rfl, ?_, ?_, ?_⟩
   ·have := hb _ (getD_mem (d := 0) (show c.pos.toNat < code.length by omega))
    omega
   ·first | omega | rfl | (intro hg; simp only [nrmT] at hg; omega) | (intro g1 g2; simp [g1, g2]; done) | (intro g1; simp at g1 ⊢; simp [g1]; done) | (simp only [nrmT] at *; omega) | (simp at * <;> omega) | (simp_all <;> omega) | (simp_all; done)
   ·have := hb _ (getD_mem (d := 0) (show c.pos.toNat < code.length by omega))
    omega
   ·first | omega | rfl | (intro hg; simp only [nrmT] at hg; omega) | (intro g1 g2; simp [g1, g2]; done) | (intro g1; simp at g1 ⊢; simp [g1]; done) | (simp only [nrmT] at *; omega) | (simp at * <;> omega) | (simp_all <;> omega) | (simp_all; done)
   ·have := hb _ (getD_mem (d := 0) (show c.pos.toNat < code.length by omega))
    omega
   ·first | omega | rfl | (intro hg; simp only [nrmT] at hg; omega) | (intro g1 g2; simp [g1, g2]; done) | (intro g1; simp at g1 ⊢; simp [g1]; done) | (simp only [nrmT] at *; omega) | (simp at * <;> omega) | (simp_all <;> omega) | (simp_all; done)
   ·have hs : (Je code c).seed = IntKind.u64.wrap (IntKind.u64.wrap (IntKind.u64.wrap (c.seed * 6364136223846793005) + nxB code c) + 462197) := rfl
    first | rw [show nxB code c = ((code.getD c.pos.toNat 0 : Nat) : Int) from if_pos (by omega)] at hs | rw [show nxB code c = 0 from if_neg (by omega)] at hs
    first | exact hs.symm | (exfalso; omega)
   have hs : (Je code c).seed = IntKind.u64.wrap (IntKind.u64.wrap (IntKind.u64.wrap (c.seed * 6364136223846793005) + nxB code c) + 462197) := rfl
   first | rw [show nxB code c = ((code.getD c.pos.toNat 0 : Nat) : Int) from if_pos (by omega)] at hs | rw [show nxB code c = 0 from if_neg (by omega)] at hs
   unfold JB
   rw [if_neg (by omega), hs]
  intro b4
  try simp only [nrmT] at b4
  refine ⟨?_, ?_, rfl, ?_, ?_⟩
  ·first | omega | rfl | (intro hg; simp only [nrmT] at hg; omega) | (intro g1 g2; simp [g1, g2]; done) | (intro g1; simp at g1 ⊢; simp [g1]; done) | (simp only [nrmT] at *; omega) | (simp at * <;> omega) | (simp_all <;> omega) | (simp_all; done)
  ·first | omega | rfl | (intro hg; simp only [nrmT] at hg; omega) | (intro g1 g2; simp [g1, g2]; done) | (intro g1; simp at g1 ⊢; simp [g1]; done) | (simp only [nrmT] at *; omega) | (simp at * <;> omega) | (simp_all <;> omega) | (simp_all; done)
  ·intro b5
   try simp only [nrmT] at b5
   refine ⟨rfl, ?_, ?_, ?_⟩
   ·first | omega | rfl | (intro hg; simp only [nrmT] at hg; omega) | (intro g1 g2; simp [g1, g2]; done) | (intro g1; simp at g1 ⊢; simp [g1]; done) | (simp only [nrmT] at *; omega) | (simp at * <;> omega) | (simp_all <;> omega) | (simp_all; done)
   ·have hs : (Je code c).seed = IntKind.u64.wrap (IntKind.u64.wrap (IntKind.u64.wrap (c.seed * 6364136223846793005) + nxB code c) + 462197) := rfl
    first | rw [show nxB code c = ((code.getD c.pos.toNat 0 : Nat) : Int) from if_pos (by omega)] at hs | rw [show nxB code c = 0 from if_neg (by omega)] at hs
    first | exact hs.symm | (exfalso; omega)
   first | omega | rfl | (intro hg; simp only [nrmT] at hg; omega) | (intro g1 g2; simp [g1, g2]; done) | (intro g1; simp at g1 ⊢; simp [g1]; done) | (simp only [nrmT] at *; omega) | (simp at * <;> omega) | (simp_all <;> omega) | (simp_all; done)
  intro b6
  try simp only [nrmT] at b6
  refine ⟨?_, ?_, ?_, ?_, ?_, rfl, ?_, ?_, ?_⟩
  ·exact w64 _
  ·first | omega | rfl | (intro hg; simp only [nrmT] at hg; omega) | (intro g1 g2; simp [g1, g2]; done) | (intro g1; simp at g1 ⊢; simp [g1]; done) | (simp only [nrmT] at *; omega) | (simp at * <;> omega) | (simp_all <;> omega) | (simp_all; done)
  ·have := w64 (IntKind.u64.wrap (IntKind.u64.wrap (c.seed * 6364136223846793005) + 0) + 462197)
   generalize IntKind.u64.wrap (IntKind.u64.wrap (IntKind.u64.wrap (c.seed * 6364136223846793005) + 0) + 462197) = z at *
   omega
  ·first | omega | rfl | (intro hg; simp only [nrmT] at hg; omega) | (intro g1 g2; simp [g1, g2]; done) | (intro g1; simp at g1 ⊢; simp [g1]; done) | (simp only [nrmT] at *; omega) | (simp at * <;> omega) | (simp_all <;> omega) | (simp_all; done)
  ·have := J9M ((IntKind.u64.wrap (IntKind.u64.wrap (IntKind.u64.wrap (c.seed * 6364136223846793005) + 0) + 462197)) / 2 ^ 40).toNat
   omega
  ·first | omega | rfl | (intro hg; simp only [nrmT] at hg; omega) | (intro g1 g2; simp [g1, g2]; done) | (intro g1; simp at g1 ⊢; simp [g1]; done) | (simp only [nrmT] at *; omega) | (simp at * <;> omega) | (simp_all <;> omega) | (simp_all; done)
  ·have hs : (Je code c).seed = IntKind.u64.wrap (IntKind.u64.wrap (IntKind.u64.wrap (c.seed * 6364136223846793005) + nxB code c) + 462197) := rfl
   first | rw [show nxB code c = ((code.getD c.pos.toNat 0 : Nat) : Int) from if_pos (by omega)] at hs | rw [show nxB code c = 0 from if_neg (by omega)] at hs
   first | exact hs.symm | (exfalso; omega)
  have hs : (Je code c).seed = IntKind.u64.wrap (IntKind.u64.wrap (IntKind.u64.wrap (c.seed * 6364136223846793005) + nxB code c) + 462197) := rfl
  first | rw [show nxB code c = ((code.getD c.pos.toNat 0 : Nat) : Int) from if_pos (by omega)] at hs | rw [show nxB code c = 0 from if_neg (by omega)] at hs
  unfold JB
  rw [if_neg (by omega), hs]
theorem J3j (code : List Nat) (c : Cur) (hb : ∀ x9 ∈ code, x9 < 256) (hc : okC c 1000000000000) : PK Try.prog 195 98 (.sl (.bytes code)) [.int .i64 c.pos, .int .u64 c.seed] [.int .i64 (Je code c).pos, .int .u64 (Je code c).seed] [] (.one (.d (.int .i64 (JB code c)))) :=
  pk_by (Q := fun u => J2e u code c) (by kernel_rfl) Try.func195 @Try.call195 (by kernel_rfl) J6v (fun u => J6Q u code c) (by kernel_rfl) (fun u => J5Z u code c hb hc) (fun u => by kernel_rfl)
def J5 (code : List Nat) (c : Cur) (n : Int) : Cur := if n ≤ 1 then c else if n > 200 then Je code (Je code c) else Je code c
def J7 (code : List Nat) (c : Cur) (n : Int) : Int := if n ≤ 1 then 0 else (if n > 200 then JB code c * 256 + JB code (Je code c) else JB code c) % n
theorem J0u {code : List Nat} {c : Cur} {n b : Int} (h : okC c b) : okC (J5 code c n) (b + 2) := by
  unfold J5
  split
  · exact Js h (by omega)
  split
  · have := J0v (code := code) (J0v (code := code) h)
    exact Js this (by omega)
  · exact Js (J0v h) (by omega)
theorem JK (code : List Nat) (c : Cur) {n : Int} (hn : 1 ≤ n) : 0 ≤ J7 code c n ∧ J7 code c n < n := by
  unfold J7
  split
  · omega
  exact ⟨Int.emod_nonneg _ (by omega), Int.emod_lt_of_pos _ (by omega)⟩
theorem Jaq (code : List Nat) (c : Cur) (n : Int) : 0 ≤ J7 code c n := by
  by_cases h : 1 ≤ n
  · exact (JK code c h).1
  unfold J7; rw [if_pos (by omega)]; omega
def J6G (f : FuncId) (ds : List D) : Orc := .no
def J6T (u : Value) (code : List Nat) (c : Cur) (n : Int) : Ann := .two (.none) (.two (.none) (.two (.mark [] [(1, .cell [.int .i64 ((Je code c).pos), .int .u64 ((Je code c).seed)] (.one (.d (.int .i64 (JB code c)))))]) (.two (.two (.none) (.two (.mark [] [(3, .cell [.int .i64 ((Je code (Je code c)).pos), .int .u64 ((Je code (Je code c)).seed)] (.one (.d (.int .i64 (JB code (Je code c))))))]) (.none))) (.none))))
def J2i (u : Value) (code : List Nat) (c : Cur) (n : Int) : Prop :=
  (((decide (n ≤ 1)) = true → (((.lit u (.sl (.bytes code)) : D) = .lit u (.sl (.bytes code))) ∧ (c.pos = (J5 code c n).pos) ∧ (c.seed = (J5 code c n).seed) ∧ ((0 : Int) = (J7 code c n)))) ∧ ((decide (n ≤ 1)) = false → (PK Try.prog 195 98 (.sl (.bytes code)) [.int .i64 c.pos, .int .u64 c.seed] [.int .i64 ((Je code c).pos), .int .u64 ((Je code c).seed)] [] (.one (.d (.int .i64 (JB code c))))) ∧ (((decide (n > 200)) = true → (I6 ((JB code c) * 256)) ∧ (PK Try.prog 195 98 (.sl (.bytes code)) [.int .i64 ((Je code c).pos), .int .u64 ((Je code c).seed)] [.int .i64 ((Je code (Je code c)).pos), .int .u64 ((Je code (Je code c)).seed)] [] (.one (.d (.int .i64 (JB code (Je code c)))))) ∧ (I6 (((JB code c) * 256) + (JB code (Je code c)))) ∧ ((0 : Int) ≤ (((JB code c) * 256) + (JB code (Je code c)))) ∧ ((1 : Int) ≤ n) ∧ (((.lit u (.sl (.bytes code)) : D) = .lit u (.sl (.bytes code))) ∧ ((Je code (Je code c)).pos = (J5 code c n).pos) ∧ ((Je code (Je code c)).seed = (J5 code c n).seed) ∧ (((((JB code c) * 256) + (JB code (Je code c))) % n) = (J7 code c n)))) ∧ ((decide (n > 200)) = false → ((0 : Int) ≤ (JB code c)) ∧ ((1 : Int) ≤ n) ∧ (((.lit u (.sl (.bytes code)) : D) = .lit u (.sl (.bytes code))) ∧ ((Je code c).pos = (J5 code c n).pos) ∧ ((Je code c).seed = (J5 code c n).seed) ∧ (((JB code c) % n) = (J7 code c n)))))))
theorem J6b (u : Value) (code : List Nat) (c : Cur) (n : Int) (hb : ∀ x9 ∈ code, x9 < 256) (hc : okC c 900000000000)  : J2i u code c n := by
  unfold J2i
  refine ⟨?_, ?_⟩
  ·intro b1
   try simp only [nrmT] at b1
   refine ⟨rfl, ?_, ?_, ?_⟩
   ·unfold J5; first | rw [if_pos (by omega)] | rw [if_neg (by omega), if_pos (by omega)] | rw [if_neg (by omega), if_neg (by omega)]
   ·unfold J5; first | rw [if_pos (by omega)] | rw [if_neg (by omega), if_pos (by omega)] | rw [if_neg (by omega), if_neg (by omega)]
   unfold J7; first | rw [if_pos (by omega)] | rw [if_neg (by omega), if_pos (by omega)] | rw [if_neg (by omega), if_neg (by omega)]
  intro b2
  try simp only [nrmT] at b2
  refine ⟨?_, ?_, ?_⟩
  ·refine J3j code c ?_ ?_
   ·exact hb
   ·exact Js (by assumption) (by omega)
  ·intro b3
   try simp only [nrmT] at b3
   refine ⟨?_, ?_, ?_, ?_, ?_, rfl, ?_, ?_, ?_⟩
   ·have q0 := J0S hb (c := c) hc.1
    have q1 := J0S hb (c := Je code c) (J0v hc).1
    omega
   ·refine J3j code (Je code c) ?_ ?_
    ·exact hb
    ·exact Js (J0v (by assumption)) (by omega)
   ·have q0 := J0S hb (c := c) hc.1
    have q1 := J0S hb (c := Je code c) (J0v hc).1
    omega
   ·have q0 := J0S hb (c := c) hc.1
    have q1 := J0S hb (c := Je code c) (J0v hc).1
    omega
   ·omega
   ·unfold J5; first | rw [if_pos (by omega)] | rw [if_neg (by omega), if_pos (by omega)] | rw [if_neg (by omega), if_neg (by omega)]
   ·unfold J5; first | rw [if_pos (by omega)] | rw [if_neg (by omega), if_pos (by omega)] | rw [if_neg (by omega), if_neg (by omega)]
   unfold J7; first | rw [if_pos (by omega)] | rw [if_neg (by omega), if_pos (by omega)] | rw [if_neg (by omega), if_neg (by omega)]
  intro b4
  try simp only [nrmT] at b4
  refine ⟨?_, ?_, rfl, ?_, ?_, ?_⟩
  ·have q0 := J0S hb (c := c) hc.1
   have q1 := J0S hb (c := Je code c) (J0v hc).1
   omega
  ·omega
  ·unfold J5; first | rw [if_pos (by omega)] | rw [if_neg (by omega), if_pos (by omega)] | rw [if_neg (by omega), if_neg (by omega)]
  ·unfold J5; first | rw [if_pos (by omega)] | rw [if_neg (by omega), if_pos (by omega)] | rw [if_neg (by omega), if_neg (by omega)]
  unfold J7; first | rw [if_pos (by omega)] | rw [if_neg (by omega), if_pos (by omega)] | rw [if_neg (by omega), if_neg (by omega)]
theorem JD (code : List Nat) (c : Cur) (n : Int) (hb : ∀ x9 ∈ code, x9 < 256) (hc : okC c 900000000000) : PK Try.prog 107 98 (.sl (.bytes code)) [.int .i64 c.pos, .int .u64 c.seed] [.int .i64 (J5 code c n).pos, .int .u64 (J5 code c n).seed] [.int .i64 n] (.one (.d (.int .i64 (J7 code c n)))) :=
  pk_by (Q := fun u => J2i u code c n) (by kernel_rfl) Try.func107 @Try.call107 (by kernel_rfl) J6G (fun u => J6T u code c n) (by kernel_rfl) (fun u => J6b u code c n hb hc) (fun u => by kernel_rfl)
def J5W (f : FuncId) (ds : List D) : Orc := .no
def J5D (u : Value) (code : List Nat) (c : Cur) (list : ZI) : Ann := .two (.none) (.two (.mark [] [(4, .cell [.int .i64 ((J5 code c (list.length : Int)).pos), .int .u64 ((J5 code c (list.length : Int)).seed)] (.one (.d (.int .i64 (J7 code c (list.length : Int))))))]) (.none))
def J1Y (u : Value) (code : List Nat) (c : Cur) (list : ZI) : Prop :=
  (PK Try.prog 107 98 (.sl (.bytes code)) [.int .i64 c.pos, .int .u64 c.seed] [.int .i64 ((J5 code c (list.length : Int)).pos), .int .u64 ((J5 code c (list.length : Int)).seed)] [.int .i64 (list.length : Int)] (.one (.d (.int .i64 (J7 code c (list.length : Int)))))) ∧ ((0 : Int) ≤ (J7 code c (list.length : Int))) ∧ (((J7 code c (list.length : Int)) : Int) < list.length) ∧ ((J7 code c (list.length : Int)).toNat < list.length) ∧ (((.lit u (.sl (.bytes code)) : D) = .lit u (.sl (.bytes code))) ∧ ((J5 code c (list.length : Int)).pos = (J5 code c (list.length : Int)).pos) ∧ ((J5 code c (list.length : Int)).seed = (J5 code c (list.length : Int)).seed) ∧ ((list.getD ((J7 code c (list.length : Int)).toNat) 0) = (list.getD (J7 code c (list.length : Int)).toNat 0)))
theorem J56 (u : Value) (code : List Nat) (c : Cur) (list : ZI) (hb : ∀ x9 ∈ code, x9 < 256) (hc : okC c 800000000000) (hl : 0 < list.length)  : J1Y u code c list := by
  unfold J1Y
  refine ⟨?_, ?_, ?_, ?_, rfl, rfl, rfl, ?_⟩
  ·refine JD code c (list.length : Int) ?_ ?_
   ·exact hb
   ·exact Js (by assumption) (by omega)
  ·have := JK code c (n := (list.length : Int)) (by omega)
   omega
  ·have := JK code c (n := (list.length : Int)) (by omega)
   omega
  ·have := JK code c (n := (list.length : Int)) (by omega)
   omega
  have := JK code c (n := (list.length : Int)) (by omega)
  omega
theorem J38 (code : List Nat) (c : Cur) (list : ZI) (hb : ∀ x9 ∈ code, x9 < 256) (hc : okC c 800000000000) (hl : 0 < list.length) : PK Try.prog 106 98 (.sl (.bytes code)) [.int .i64 c.pos, .int .u64 c.seed] [.int .i64 (J5 code c (list.length : Int)).pos, .int .u64 (J5 code c (list.length : Int)).seed] [.sl (.ints list)] (.one (.d (.int .i64 (list.getD (J7 code c (list.length : Int)).toNat 0)))) :=
  pk_by (Q := fun u => J1Y u code c list) (by kernel_rfl) Try.func106 @Try.call106 (by kernel_rfl) J5W (fun u => J5D u code c list) (by kernel_rfl) (fun u => J56 u code c list hb hc hl) (fun u => by kernel_rfl)
theorem J7H : okC J04 0 := by unfold okC; decide
theorem J75 {α : Type} {l : List α} {x d : α} {j : Nat} (h : j < (l ++ [x]).length) : (l ++ [x]).getD j d = if j < l.length then l.getD j d else x := by
  rw [List.length_append, List.length_singleton] at h
  by_cases e : j < l.length
  · rw [if_pos e]; simp [List.getElem?_append_left e]
  have : j = l.length := by omega
  rw [if_neg e, this]
  simp
def Jam (f : FuncId) (ds : List D) : Orc := .no
def Jax (code : List Nat) : Ann := .none
def J7I (code : List Nat) : Prop :=
  (((decide ((code.length : Int) > 65536)) = (decide ((code.length : Int) > 65536))))
theorem J9x (code : List Nat)  (w_code : (code.length : Int) ≤ 9223372036854775807) : J7I code := by
  unfold J7I
  exact rfl
theorem J9O (code : List Nat)  : PC Try.prog 14 [.sl (.bytes code)] (.one (.d (.bool (decide ((code.length : Int) > 65536))))) :=
  pc_wf @Try.call14 fun hw => pc_by (by kernel_rfl) Try.func14 @Try.call14 (by kernel_rfl) Jam (Jax code) (by kernel_rfl) (J9x code hw.1) (by kernel_rfl)
def J8U : List D → Orc := orcN [some .bytes] fun ds => match ds with
  | [.sl (.bytes code)] => some (.one (.d (.bool (decide ((code.length : Int) > 65536)))))
  | _ => none
abbrev J2s (xs : ZI) (ys : ZI) (i : Int) : Prop := (0 ≤ i) ∧ (i ≤ (xs.length : Int)) ∧ (allTo (fun k => xs.getD k 0 == ys.getD k 0) i.toNat = true) ∧ (xs.length = ys.length)
abbrev J2n (xs : ZI) (ys : ZI) (i : Int) : Nat := (xs.length - i).toNat
def J9P (f : FuncId) (ds : List D) : Orc := .no
def J9E (xs : ZI) (ys : ZI) : Ann := .two (.none) (.two (.none) (.two (.two (.none) (.loop (cut1 (fun (i : Int) => J2s xs ys i) (fun (i : Int) => [(0, .d false (.sl (.ints xs))), (1, .d false (.sl (.ints ys))), (5, .d true (.int .i64 i))]) (fun (i : Int) => [])) (fun g => J2n xs ys g) (fun _ => .none))) (.none)))
def J73 (xs : ZI) (ys : ZI) : Prop :=
  ((((xs.length : Int) != (ys.length : Int)) = true → ((false = (xs == ys)))) ∧ (((xs.length : Int) != (ys.length : Int)) = false → ((∃ i' : Int, (J2s xs ys i') ∧ (xs = xs) ∧ (ys = ys) ∧ ((0 : Int) = i')) ∧ (∀ i : Int, (J2s xs ys i) → (((decide (i < (xs.length : Int))) = true → (true = true) ∧ ((0 : Int) ≤ i) ∧ ((i : Int) < xs.length) ∧ (i.toNat < xs.length) ∧ ((0 : Int) ≤ i) ∧ ((i : Int) < ys.length) ∧ (i.toNat < ys.length) ∧ ((((xs.getD i.toNat 0) != (ys.getD i.toNat 0)) = true → ((false = (xs == ys)))) ∧ (((xs.getD i.toNat 0) != (ys.getD i.toNat 0)) = false → (I6 (i + 1)) ∧ (∃ i' : Int, (J2s xs ys i') ∧ (J2n xs ys i' < J2n xs ys i) ∧ (xs = xs) ∧ (ys = ys) ∧ ((i + 1) = i'))))) ∧ ((decide (i < (xs.length : Int))) = false → ((true = (xs == ys)))))))))
theorem J9d (xs : ZI) (ys : ZI)  (w_xs : (xs.length : Int) ≤ 9223372036854775807) (w_ys : (ys.length : Int) ≤ 9223372036854775807) : J73 xs ys := by
  unfold J73
  refine ⟨?_, ?_⟩
  ·intro b1
   try simp only [nrmT] at b1
   exact (J9W (by omega)).symm
  intro b2
  try simp only [nrmT] at b2
  refine ⟨?_, ?_⟩
  ·refine ⟨0, ?_⟩
   refine ⟨?_, rfl, rfl, rfl⟩
   ·refine ⟨?_, ?_, ?_, ?_⟩
    ·omega
    ·omega
    ·rfl
    ·omega
  intro i hJ
  obtain ⟨h1, h2, h3, h4⟩ := hJ
  refine ⟨?_, ?_⟩
  ·intro b3
   try simp only [nrmT] at b3
   refine ⟨rfl, ?_, ?_, ?_, ?_, ?_, ?_, ?_, ?_⟩
   ·omega
   ·omega
   ·omega
   ·omega
   ·omega
   ·omega
   ·intro b4
    try simp only [nrmT] at b4
    rw [← J2V (d := 0) h4]; exact (allTo_falseI h1 (by omega) (by simpa using b4)).symm
   intro b5
   try simp only [nrmT] at b5
   refine ⟨?_, ?_⟩
   ·omega
   refine ⟨(i + 1), ?_⟩
   refine ⟨?_, ?_, rfl, rfl, rfl⟩
   ·refine ⟨?_, ?_, ?_, ?_⟩
    ·omega
    ·omega
    ·exact allTo_step h1 h3 (by simpa using b5)
    ·omega
   (simp only [J2n]; omega)
  intro b6
  try simp only [nrmT] at b6
  rw [← J2V (d := 0) h4, ← h3]; congr 1; omega
theorem J5q (xs : ZI) (ys : ZI)  : PC Try.prog 18 [.sl (.ints xs), .sl (.ints ys)] (.one (.d (.bool (xs == ys)))) :=
  pc_wf @Try.call18 fun hw => pc_by (by kernel_rfl) Try.func18 @Try.call18 (by kernel_rfl) J9P (J9E xs ys) (by kernel_rfl) (J9d xs ys hw.1 hw.2.1) (by kernel_rfl)
def J4M : List D → Orc := orcN [some .ints, some .ints] fun ds => match ds with
  | [.sl (.ints xs), .sl (.ints ys)] => some (.one (.d (.bool (xs == ys))))
  | _ => none
abbrev J1r (u : Value) (l : ZI) (n : Int) (k : Int) : Prop := (0 ≤ k) ∧ (k ≤ (l.length : Int)) ∧ (∀ j, j < k.toNat → l.getD j 0 < n)
abbrev J1s (u : Value) (l : ZI) (n : Int) (k : Int) : Nat := (l.length - k).toNat
def J8k (f : FuncId) (ds : List D) : Orc := .no
def J8e (u : Value) (l : ZI) (n : Int) : Ann := .two (.none) (.two (.none) (.two (.loop (cut1 (fun (k : Int) => J1r u l n k) (fun (k : Int) => [(0, .d false (.lit u (.sl (.ints l)))), (1, .d false (.int .i64 n)), (5, .d true (.int .i64 k))]) (fun (k : Int) => [])) (fun g => J1s u l n g) (fun _ => .none)) (.none)))
def J3x (u : Value) (l : ZI) (n : Int) : Prop :=
  ((∃ k' : Int, (J1r u l n k') ∧ ((.lit u (.sl (.ints l)) : D) = .lit u (.sl (.ints l))) ∧ (n = n) ∧ ((0 : Int) = k')) ∧ (∀ k : Int, (J1r u l n k) → ((decide (k < (l.length : Int))) = true → (decide (k < (l.length : Int))) = true) ∧ ((decide (k < (l.length : Int))) = true → (decide (k < (l.length : Int))) = true) ∧ (((decide (k < (l.length : Int))) = true → (0 : Int) ≤ k)) ∧ (((decide (k < (l.length : Int))) = true → (k : Int) < l.length)) ∧ ((decide (k < (l.length : Int))) = true → (decide (k < (l.length : Int))) = true) ∧ (((decide (k < (l.length : Int))) = true → k.toNat < l.length)) ∧ ((decide (k < (l.length : Int))) = true → (decide (k < (l.length : Int))) = true) ∧ ((decide (k < (l.length : Int))) = true → (decide (k < (l.length : Int))) = true) ∧ (true = true) ∧ (((decide (k < (l.length : Int))) = true → (decide (k < (l.length : Int))) = true)) ∧ (((decide (k < (l.length : Int))) = false → true = true)) ∧ (((cond (decide (k < (l.length : Int))) (decide ((l.getD k.toNat 0) < n)) false) = true → (I6 (k + 1)) ∧ (∃ k' : Int, (J1r u l n k') ∧ (J1s u l n k' < J1s u l n k) ∧ ((.lit u (.sl (.ints l)) : D) = .lit u (.sl (.ints l))) ∧ (n = n) ∧ ((k + 1) = k'))) ∧ ((cond (decide (k < (l.length : Int))) (decide ((l.getD k.toNat 0) < n)) false) = false → ((decide (k < (l.length : Int))) = true → (decide (k < (l.length : Int))) = true) ∧ ((decide (k < (l.length : Int))) = true → (decide (k < (l.length : Int))) = true) ∧ (((decide (k < (l.length : Int))) = true → (0 : Int) ≤ k)) ∧ (((decide (k < (l.length : Int))) = true → (k : Int) < l.length)) ∧ ((decide (k < (l.length : Int))) = true → (decide (k < (l.length : Int))) = true) ∧ (((decide (k < (l.length : Int))) = true → k.toNat < l.length)) ∧ ((decide (k < (l.length : Int))) = true → (decide (k < (l.length : Int))) = true) ∧ ((decide (k < (l.length : Int))) = true → (decide (k < (l.length : Int))) = true) ∧ (true = true) ∧ (((decide (k < (l.length : Int))) = true → (decide (k < (l.length : Int))) = true)) ∧ (((decide (k < (l.length : Int))) = false → true = true)) ∧ (((cond (decide (k < (l.length : Int))) ((l.getD k.toNat 0) == n) false) = true → (((.lit u (.sl (.ints l)) : D) = .lit u (.sl (.ints l))) ∧ (((putL l n) : ZI) = l))) ∧ ((cond (decide (k < (l.length : Int))) ((l.getD k.toNat 0) == n) false) = false → (true = true) ∧ ((0 : Int) ≤ k) ∧ ((k : Int) ≤ l.length) ∧ ((0 : Nat) = 0) ∧ (True) ∧ ((0 + ((l.take k.toNat).drop 0).length) * 8 ≤ 140737488355328) ∧ ((0 + ((l.take k.toNat).drop 0).length) = ([] ++ ((l.take k.toNat).drop 0)).length) ∧ ((1 : Nat) = 1) ∧ ((([] ++ ((l.take k.toNat).drop 0)).length + 1) * 8 ≤ 140737488355328) ∧ ((0 : Int) ≤ k) ∧ ((k : Int) ≤ l.length) ∧ (((0 + ((l.take k.toNat).drop 0).length) + 1) = (([] ++ ((l.take k.toNat).drop 0)) ++ [n]).length) ∧ (True) ∧ (((([] ++ ((l.take k.toNat).drop 0)) ++ [n]).length + ((l.take l.length).drop k.toNat).length) * 8 ≤ 140737488355328) ∧ (((((0 + ((l.take k.toNat).drop 0).length) + 1) + ((l.take l.length).drop k.toNat).length) = ((([] ++ ((l.take k.toNat).drop 0)) ++ [n]) ++ ((l.take l.length).drop k.toNat)).length) ∧ ((((([] ++ ((l.take k.toNat).drop 0)) ++ [n]) ++ ((l.take l.length).drop k.toNat)) : ZI) = (putL l n)))))))))
end Go.Proofs.Ytomnmacmlhkceaa
