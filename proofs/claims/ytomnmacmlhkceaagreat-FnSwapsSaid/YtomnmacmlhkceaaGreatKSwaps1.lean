/- Contracts of the functions that the law reaches. -/
import Derived.Test.YtomnmacmlhkceaaGreatQw
import Derived.Test.YtomnmacmlhkceaaGreatQua
import Derived.Test.YtomnmacmlhkceaaGreatQuc
import Derived.Test.YtomnmacmlhkceaaGreatSh
import Derived.Test.YtomnmacmlhkceaaGreatProg
import Derived.KernelRfl
set_option linter.unusedVariables false
set_option linter.unusedSimpArgs false
namespace Go.Proofs.YtomnmacmlhkceaaGreat
open Go

abbrev ZI := List Int
abbrev ZR := List (List Int)
abbrev I6 (x : Int) : Prop := -9223372036854775808 ≤ x ∧ x ≤ 9223372036854775807
def Jco (f : FuncId) (ds : List D) : Orc := .no
def Jct (x : Int) (a : Int) (b : Int) : Ann := .none
def J9G (x : Int) (a : Int) (b : Int) : Prop :=
  ((decide (x ≥ a)) = true → (decide (x ≥ a)) = true) ∧ ((decide (x ≥ a)) = true → (decide (x ≥ a)) = true) ∧ (true = true) ∧ (((decide (x ≥ a)) = true → (decide (x ≥ a)) = true)) ∧ (((decide (x ≥ a)) = false → true = true)) ∧ (((cond (decide (x ≥ a)) (decide (x ≤ b)) false) = (inB x a b)))
theorem Jc0 (x : Int) (a : Int) (b : Int)   : J9G x a b := by
  unfold J9G
  refine ⟨id, id, rfl, id, fun _ => rfl, ?_⟩
  ·(simp only [inB]; by_cases h : a ≤ x <;> simp_all)
theorem J4y (x : Int) (a : Int) (b : Int)  : PC Tryz.prog 129 [.int .i64 x, .int .i64 a, .int .i64 b] (.one (.d (.bool (inB x a b)))) :=
  pc_wf @Tryz.call129 fun _ => pc_by (by kernel_rfl) Tryz.func129 @Tryz.call129 (by kernel_rfl) Jco (Jct x a b) (by kernel_rfl) (Jc0 x a b) (by kernel_rfl)
def J3R : List D → Orc := orcN [none, none, none] fun ds => match ds with
  | [.int .i64 x, .int .i64 a, .int .i64 b] => some (.one (.d (.bool (inB x a b))))
  | _ => none
def Jar (f : FuncId) (ds : List D) : Orc := .no
def JaC (x : Int) (a : Int) (b : Int) : Ann := .none
def J6D (x : Int) (a : Int) (b : Int) : Prop :=
  ((decide (x ≥ a)) = true → (decide (x ≥ a)) = true) ∧ ((decide (x ≥ a)) = true → (decide (x ≥ a)) = true) ∧ (true = true) ∧ (((decide (x ≥ a)) = true → (decide (x ≥ a)) = true)) ∧ (((decide (x ≥ a)) = false → true = true)) ∧ (((cond (decide (x ≥ a)) (decide (x ≤ b)) false) = (inB x a b)))
theorem J9P (x : Int) (a : Int) (b : Int)   : J6D x a b := by
  unfold J6D
  refine ⟨id, id, rfl, id, fun _ => rfl, ?_⟩
  ·(simp only [inB]; by_cases h : a ≤ x <;> simp_all)
theorem J1t (x : Int) (a : Int) (b : Int)  : PC Tryz.prog 132 [.int .i64 x, .int .i64 a, .int .i64 b] (.one (.d (.bool (inB x a b)))) :=
  pc_wf @Tryz.call132 fun _ => pc_by (by kernel_rfl) Tryz.func132 @Tryz.call132 (by kernel_rfl) Jar (JaC x a b) (by kernel_rfl) (J9P x a b) (by kernel_rfl)
def J1h : List D → Orc := orcN [none, none, none] fun ds => match ds with
  | [.int .i64 x, .int .i64 a, .int .i64 b] => some (.one (.d (.bool (inB x a b))))
  | _ => none
def J1D (xs : ZI) (lo hi : Int) (k : Nat) : Bool := inB (xs.getD k 0) lo hi && (decide (k = 0) || decide (xs.getD (k - 1) 0 < xs.getD k 0))
def J2 (xs : ZI) (lo hi : Int) : Bool := allTo (J1D xs lo hi) xs.length
theorem J3l {xs : ZI} {lo hi i : Int} (h0 : 0 ≤ i) {c : Bool} (hc : (cond (!(inB (xs.getD i.toNat 0) lo hi)) true (cond (decide (i > 0)) (decide (xs.getD (i - 1).toNat 0 ≥ xs.getD i.toNat 0)) false)) = c) :
    J1D xs lo hi i.toNat = !c := by
  subst hc
  have e : (i - 1).toNat = i.toNat - 1 := by omega
  unfold J1D
  rw [e]
  cases inB (xs.getD i.toNat 0) lo hi
  · rfl
  by_cases h : i > 0
  · have h2 : ¬ i.toNat = 0 := by omega
    simp [h, h2]
    by_cases h3 : xs[i.toNat - 1]?.getD 0 < xs[i.toNat]?.getD 0
    · simp [h3]
    simp [h3]; omega
  · have h2 : i.toNat = 0 := by omega
    simp [h, h2]
abbrev J1H (xs : ZI) (lo : Int) (hi : Int) (i : Int) : Prop := (0 ≤ i) ∧ (i ≤ (xs.length : Int)) ∧ (allTo (J1D xs lo hi) i.toNat = true)
abbrev J1W (xs : ZI) (lo : Int) (hi : Int) (i : Int) : Nat := (xs.length - i).toNat
def J9L (f : FuncId) (ds : List D) : Orc := bif Nat.beq f 129 then J3R ds else .no
def Jah (xs : ZI) (lo : Int) (hi : Int) : Ann := .two (.none) (.two (.two (.none) (.loop (cut1 (fun (i : Int) => J1H xs lo hi i) (fun (i : Int) => [(0, .d false (.sl (.ints xs))), (1, .d false (.int .i64 lo)), (2, .d false (.int .i64 hi)), (7, .d true (.int .i64 i))]) (fun (i : Int) => [])) (fun g => J1W xs lo hi g) (fun _ => .none))) (.none))
def J5B (xs : ZI) (lo : Int) (hi : Int) : Prop :=
  ((∃ i' : Int, (J1H xs lo hi i') ∧ (xs = xs) ∧ (lo = lo) ∧ (hi = hi) ∧ ((0 : Int) = i')) ∧ (∀ i : Int, (J1H xs lo hi i) → (((decide (i < (xs.length : Int))) = true → (true = true) ∧ ((0 : Int) ≤ i) ∧ ((i : Int) < xs.length) ∧ (i.toNat < xs.length) ∧ (PC Tryz.prog 129 [.int .i64 (xs.getD i.toNat 0), .int .i64 lo, .int .i64 hi] (.one (.d (.bool (inB (xs.getD i.toNat 0) lo hi))))) ∧ ((!(!(inB (xs.getD i.toNat 0) lo hi))) = true → (!(!(inB (xs.getD i.toNat 0) lo hi))) = true) ∧ ((!(!(inB (xs.getD i.toNat 0) lo hi))) = true → (!(!(inB (xs.getD i.toNat 0) lo hi))) = true) ∧ (((!(!(inB (xs.getD i.toNat 0) lo hi))) && (decide (i > 0))) = true → ((!(!(inB (xs.getD i.toNat 0) lo hi))) && (decide (i > 0))) = true) ∧ ((((!(!(inB (xs.getD i.toNat 0) lo hi))) && (decide (i > 0))) = true → I6 (i - 1))) ∧ (((!(!(inB (xs.getD i.toNat 0) lo hi))) && (decide (i > 0))) = true → ((!(!(inB (xs.getD i.toNat 0) lo hi))) && (decide (i > 0))) = true) ∧ (((!(!(inB (xs.getD i.toNat 0) lo hi))) && (decide (i > 0))) = true → ((!(!(inB (xs.getD i.toNat 0) lo hi))) && (decide (i > 0))) = true) ∧ ((((!(!(inB (xs.getD i.toNat 0) lo hi))) && (decide (i > 0))) = true → (0 : Int) ≤ (i - 1))) ∧ ((((!(!(inB (xs.getD i.toNat 0) lo hi))) && (decide (i > 0))) = true → ((i - 1) : Int) < xs.length)) ∧ (((!(!(inB (xs.getD i.toNat 0) lo hi))) && (decide (i > 0))) = true → ((!(!(inB (xs.getD i.toNat 0) lo hi))) && (decide (i > 0))) = true) ∧ ((((!(!(inB (xs.getD i.toNat 0) lo hi))) && (decide (i > 0))) = true → (i - 1).toNat < xs.length)) ∧ (((!(!(inB (xs.getD i.toNat 0) lo hi))) && (decide (i > 0))) = true → ((!(!(inB (xs.getD i.toNat 0) lo hi))) && (decide (i > 0))) = true) ∧ (((!(!(inB (xs.getD i.toNat 0) lo hi))) && (decide (i > 0))) = true → ((!(!(inB (xs.getD i.toNat 0) lo hi))) && (decide (i > 0))) = true) ∧ ((((!(!(inB (xs.getD i.toNat 0) lo hi))) && (decide (i > 0))) = true → (0 : Int) ≤ i)) ∧ ((((!(!(inB (xs.getD i.toNat 0) lo hi))) && (decide (i > 0))) = true → (i : Int) < xs.length)) ∧ (((!(!(inB (xs.getD i.toNat 0) lo hi))) && (decide (i > 0))) = true → ((!(!(inB (xs.getD i.toNat 0) lo hi))) && (decide (i > 0))) = true) ∧ ((((!(!(inB (xs.getD i.toNat 0) lo hi))) && (decide (i > 0))) = true → i.toNat < xs.length)) ∧ (((!(!(inB (xs.getD i.toNat 0) lo hi))) && (decide (i > 0))) = true → ((!(!(inB (xs.getD i.toNat 0) lo hi))) && (decide (i > 0))) = true) ∧ (((!(!(inB (xs.getD i.toNat 0) lo hi))) && (decide (i > 0))) = true → ((!(!(inB (xs.getD i.toNat 0) lo hi))) && (decide (i > 0))) = true) ∧ (((!(!(inB (xs.getD i.toNat 0) lo hi))) = true → (!(!(inB (xs.getD i.toNat 0) lo hi))) = true)) ∧ (((!(!(inB (xs.getD i.toNat 0) lo hi))) = true → (decide (i > 0)) = true → ((!(!(inB (xs.getD i.toNat 0) lo hi))) && (decide (i > 0))) = true)) ∧ (((!(!(inB (xs.getD i.toNat 0) lo hi))) = true → (decide (i > 0)) = false → true = true)) ∧ (true = true) ∧ (((!(inB (xs.getD i.toNat 0) lo hi)) = true → true = true)) ∧ (((!(inB (xs.getD i.toNat 0) lo hi)) = false → (!(!(inB (xs.getD i.toNat 0) lo hi))) = true)) ∧ (((cond (!(inB (xs.getD i.toNat 0) lo hi)) true (cond (decide (i > 0)) (decide ((xs.getD ((i - 1).toNat) 0) ≥ (xs.getD i.toNat 0))) false)) = true → ((false = (J2 xs lo hi)))) ∧ ((cond (!(inB (xs.getD i.toNat 0) lo hi)) true (cond (decide (i > 0)) (decide ((xs.getD ((i - 1).toNat) 0) ≥ (xs.getD i.toNat 0))) false)) = false → (I6 (i + 1)) ∧ (∃ i' : Int, (J1H xs lo hi i') ∧ (J1W xs lo hi i' < J1W xs lo hi i) ∧ (xs = xs) ∧ (lo = lo) ∧ (hi = hi) ∧ ((i + 1) = i'))))) ∧ ((decide (i < (xs.length : Int))) = false → ((true = (J2 xs lo hi)))))))
theorem J9t (xs : ZI) (lo : Int) (hi : Int)  (w_xs : (xs.length : Int) ≤ 9223372036854775807) : J5B xs lo hi := by
  unfold J5B
  refine ⟨?_, ?_⟩
  ·refine ⟨0, ?_⟩
   refine ⟨?_, rfl, rfl, rfl, rfl⟩
   ·refine ⟨?_, ?_, ?_⟩
    ·omega
    ·omega
    ·rfl
  intro i hJ
  obtain ⟨h1, h2, h3⟩ := hJ
  refine ⟨?_, ?_⟩
  ·intro b1
   try simp only [nrmT] at b1
   refine ⟨rfl, ?_, ?_, ?_, J4y (xs.getD i.toNat 0) lo hi, id, id, id, ?_, id, id, ?_, ?_, id, ?_, id, id, ?_, ?_, id, ?_, id, id, id, ?_, fun _ _ => rfl, rfl, fun _ => rfl, ?_, ?_, ?_⟩
   ·omega
   ·omega
   ·omega
   ·omega
   ·(intro hg; simp only [nrmT] at hg; omega)
   ·omega
   ·omega
   ·omega
   ·omega
   ·omega
   ·(simp_all; done)
   ·(simp_all; done)
   ·intro b2
    have e := J3l h1 b2
    exact (allTo_falseI h1 (by omega) e).symm
   intro b3
   refine ⟨?_, ?_⟩
   ·omega
   refine ⟨(i + 1), ?_⟩
   refine ⟨?_, ?_, rfl, rfl, rfl, rfl⟩
   ·refine ⟨?_, ?_, ?_⟩
    ·omega
    ·omega
    ·have e := J3l h1 b3
     exact allTo_step h1 h3 e
   (simp only [J1W]; omega)
  intro b4
  try simp only [nrmT] at b4
  have e : i.toNat = xs.length := by omega
  rw [e] at h3
  exact h3.symm
theorem J99 (xs : ZI) (lo : Int) (hi : Int)  : PC Tryz.prog 164 [.sl (.ints xs), .int .i64 lo, .int .i64 hi] (.one (.d (.bool (J2 xs lo hi)))) :=
  pc_wf @Tryz.call164 fun hw => pc_by (by kernel_rfl) Tryz.func164 @Tryz.call164 (by kernel_rfl) J9L (Jah xs lo hi) (by kernel_rfl) (J9t xs lo hi hw.1) (by kernel_rfl)
def J8t : List D → Orc := orcN [some .ints, none, none] fun ds => match ds with
  | [.sl (.ints xs), .int .i64 lo, .int .i64 hi] => some (.one (.d (.bool (J2 xs lo hi))))
  | _ => none
abbrev J1P (xs : ZI) (below : Int) (i : Int) : Prop := (0 ≤ i) ∧ (i ≤ (xs.length : Int)) ∧ (allTo (J1D xs 0 (below - 1)) i.toNat = true)
abbrev J1M (xs : ZI) (below : Int) (i : Int) : Nat := (xs.length - i).toNat
def Ja5 (f : FuncId) (ds : List D) : Orc := bif Nat.beq f 132 then J1h ds else .no
def J9V (xs : ZI) (below : Int) : Ann := .two (.none) (.two (.two (.none) (.loop (cut1 (fun (i : Int) => J1P xs below i) (fun (i : Int) => [(0, .d false (.sl (.ints xs))), (1, .d false (.int .i64 below)), (7, .d false (.sl (.ints xs))), (8, .d true (.int .i64 (xs.length : Int))), (9, .d true (.int .i64 i))]) (fun (i : Int) => [])) (fun g => J1M xs below g) (fun _ => .none))) (.none))
def J5z (xs : ZI) (below : Int) : Prop :=
  ((∃ i' : Int, (J1P xs below i') ∧ (xs = xs) ∧ (below = below) ∧ (xs = xs) ∧ ((xs.length : Int) = (xs.length : Int)) ∧ ((0 : Int) = i')) ∧ (∀ i : Int, (J1P xs below i) → (((decide (i < (xs.length : Int))) = true → ((0 : Int) ≤ i) ∧ ((i : Int) < xs.length) ∧ (i.toNat < xs.length) ∧ (I6 (below - 1)) ∧ (PC Tryz.prog 132 [.int .i64 (xs.getD i.toNat 0), .int .i64 0, .int .i64 (below - 1)] (.one (.d (.bool (inB (xs.getD i.toNat 0) 0 (below - 1)))))) ∧ ((!(!(inB (xs.getD i.toNat 0) 0 (below - 1)))) = true → (!(!(inB (xs.getD i.toNat 0) 0 (below - 1)))) = true) ∧ ((!(!(inB (xs.getD i.toNat 0) 0 (below - 1)))) = true → (!(!(inB (xs.getD i.toNat 0) 0 (below - 1)))) = true) ∧ (((!(!(inB (xs.getD i.toNat 0) 0 (below - 1)))) && (decide (i > 0))) = true → ((!(!(inB (xs.getD i.toNat 0) 0 (below - 1)))) && (decide (i > 0))) = true) ∧ ((((!(!(inB (xs.getD i.toNat 0) 0 (below - 1)))) && (decide (i > 0))) = true → I6 (i - 1))) ∧ (((!(!(inB (xs.getD i.toNat 0) 0 (below - 1)))) && (decide (i > 0))) = true → ((!(!(inB (xs.getD i.toNat 0) 0 (below - 1)))) && (decide (i > 0))) = true) ∧ (((!(!(inB (xs.getD i.toNat 0) 0 (below - 1)))) && (decide (i > 0))) = true → ((!(!(inB (xs.getD i.toNat 0) 0 (below - 1)))) && (decide (i > 0))) = true) ∧ ((((!(!(inB (xs.getD i.toNat 0) 0 (below - 1)))) && (decide (i > 0))) = true → (0 : Int) ≤ (i - 1))) ∧ ((((!(!(inB (xs.getD i.toNat 0) 0 (below - 1)))) && (decide (i > 0))) = true → ((i - 1) : Int) < xs.length)) ∧ (((!(!(inB (xs.getD i.toNat 0) 0 (below - 1)))) && (decide (i > 0))) = true → ((!(!(inB (xs.getD i.toNat 0) 0 (below - 1)))) && (decide (i > 0))) = true) ∧ ((((!(!(inB (xs.getD i.toNat 0) 0 (below - 1)))) && (decide (i > 0))) = true → (i - 1).toNat < xs.length)) ∧ (((!(!(inB (xs.getD i.toNat 0) 0 (below - 1)))) && (decide (i > 0))) = true → ((!(!(inB (xs.getD i.toNat 0) 0 (below - 1)))) && (decide (i > 0))) = true) ∧ (((!(!(inB (xs.getD i.toNat 0) 0 (below - 1)))) && (decide (i > 0))) = true → ((!(!(inB (xs.getD i.toNat 0) 0 (below - 1)))) && (decide (i > 0))) = true) ∧ (((!(!(inB (xs.getD i.toNat 0) 0 (below - 1)))) = true → (!(!(inB (xs.getD i.toNat 0) 0 (below - 1)))) = true)) ∧ (((!(!(inB (xs.getD i.toNat 0) 0 (below - 1)))) = true → (decide (i > 0)) = true → ((!(!(inB (xs.getD i.toNat 0) 0 (below - 1)))) && (decide (i > 0))) = true)) ∧ (((!(!(inB (xs.getD i.toNat 0) 0 (below - 1)))) = true → (decide (i > 0)) = false → true = true)) ∧ (true = true) ∧ (((!(inB (xs.getD i.toNat 0) 0 (below - 1))) = true → true = true)) ∧ (((!(inB (xs.getD i.toNat 0) 0 (below - 1))) = false → (!(!(inB (xs.getD i.toNat 0) 0 (below - 1)))) = true)) ∧ (((cond (!(inB (xs.getD i.toNat 0) 0 (below - 1))) true (cond (decide (i > 0)) (decide ((xs.getD i.toNat 0) ≤ (xs.getD ((i - 1).toNat) 0))) false)) = true → ((false = (J2 xs 0 (below - 1))))) ∧ ((cond (!(inB (xs.getD i.toNat 0) 0 (below - 1))) true (cond (decide (i > 0)) (decide ((xs.getD i.toNat 0) ≤ (xs.getD ((i - 1).toNat) 0))) false)) = false → (I6 (i + 1)) ∧ (∃ i' : Int, (J1P xs below i') ∧ (J1M xs below i' < J1M xs below i) ∧ (xs = xs) ∧ (below = below) ∧ (xs = xs) ∧ ((xs.length : Int) = (xs.length : Int)) ∧ ((i + 1) = i'))))) ∧ ((decide (i < (xs.length : Int))) = false → ((true = (J2 xs 0 (below - 1))))))))
theorem J9b (xs : ZI) (below : Int) (hb : -9223372036854775808 < below ∧ below ≤ 9223372036854775807) (w_xs : (xs.length : Int) ≤ 9223372036854775807) : J5z xs below := by
  unfold J5z
  refine ⟨?_, ?_⟩
  ·refine ⟨0, ?_⟩
   refine ⟨?_, rfl, rfl, rfl, rfl, rfl⟩
   ·refine ⟨?_, ?_, ?_⟩
    ·omega
    ·omega
    ·rfl
  intro i hJ
  obtain ⟨h1, h2, h3⟩ := hJ
  refine ⟨?_, ?_⟩
  ·intro b1
   try simp only [nrmT] at b1
   refine ⟨?_, ?_, ?_, ?_, J1t (xs.getD i.toNat 0) 0 (below - 1), id, id, id, ?_, id, id, ?_, ?_, id, ?_, id, id, id, ?_, fun _ _ => rfl, rfl, fun _ => rfl, ?_, ?_, ?_⟩
   ·omega
   ·omega
   ·omega
   ·omega
   ·omega
   ·(intro hg; simp only [nrmT] at hg; omega)
   ·omega
   ·omega
   ·(simp_all; done)
   ·(simp_all; done)
   ·intro b2
    have e := J3l h1 b2
    exact (allTo_falseI h1 (by omega) e).symm
   intro b3
   refine ⟨?_, ?_⟩
   ·omega
   refine ⟨(i + 1), ?_⟩
   refine ⟨?_, ?_, rfl, rfl, rfl, rfl, rfl⟩
   ·refine ⟨?_, ?_, ?_⟩
    ·omega
    ·omega
    ·have e := J3l h1 b3
     exact allTo_step h1 h3 e
   (simp only [J1M]; omega)
  intro b4
  try simp only [nrmT] at b4
  have e : i.toNat = xs.length := by omega
  rw [e] at h3
  exact h3.symm
theorem J9z (xs : ZI) (below : Int) (hb : -9223372036854775808 < below ∧ below ≤ 9223372036854775807) : PC Tryz.prog 162 [.sl (.ints xs), .int .i64 below] (.one (.d (.bool (J2 xs 0 (below - 1))))) :=
  pc_wf @Tryz.call162 fun hw => pc_by (by kernel_rfl) Tryz.func162 @Tryz.call162 (by kernel_rfl) Ja5 (J9V xs below) (by kernel_rfl) (J9b xs below hb hw.1) (by kernel_rfl)
def J85 : List D → Orc := orcN [some .ints, none] fun ds => match ds with
  | [.sl (.ints xs), .int .i64 below] => some (.one (.d (.bool (J2 xs 0 (below - 1)))))
  | _ => none
theorem Jcd (m n : Nat) : decide ((m : Int) ≤ (n : Int)) = decide (m ≤ n) := by
  rw [Bool.eq_iff_iff]; simp only [decide_eq_true_eq]; omega
theorem JaU {α : Type} {p : α → Bool} {d : α} {xs : List α} {i : Int} (h2 : (xs.length : Int) ≤ i) (h2' : i ≤ (xs.length : Int)) (h3 : allTo (fun k => p (xs.getD k d)) i.toNat = true) : xs.all p = true := by
  have e : i.toNat = xs.length := by omega
  rw [e, allTo_list] at h3; exact h3
theorem Jc3 {α : Type} {p : α → Bool} {d : α} {xs : List α} {i : Int} (h0 : 0 ≤ i) (h : i < (xs.length : Int)) (h3 : p (xs.getD i.toNat d) = false) : xs.all p = false := by
  rw [← allTo_list (d := d)]; exact allTo_falseI h0 h h3
theorem J28 {x lo hi : Int} (h : inB x lo hi = true) : lo ≤ x ∧ x ≤ hi := of_decide_eq_true h
def J6L (f : FuncId) (ds : List D) : Orc := bif Nat.beq f 132 then J1h ds else .no
def J7e (x : Int) (lo : Int) (hi : Int) : Ann := .none
def J4a (x : Int) (lo : Int) (hi : Int) : Prop :=
  (PC Tryz.prog 132 [.int .i64 x, .int .i64 lo, .int .i64 hi] (.one (.d (.bool (inB x lo hi))))) ∧ (((!(inB x lo hi)) = (!(inB x lo hi))))
theorem J6p (x : Int) (lo : Int) (hi : Int)   : J4a x lo hi := by
  unfold J4a
  refine ⟨J1t x lo hi, rfl⟩
theorem J6b (x : Int) (lo : Int) (hi : Int)  : PC Tryz.prog 220 [.int .i64 x, .bx [.int .i64 lo] 0, .bx [.int .i64 hi] 0] (.one (.d (.bool (!(inB x lo hi))))) :=
  pc_wf @Tryz.call220 fun _ => pc_by (by kernel_rfl) Tryz.func220 @Tryz.call220 (by kernel_rfl) J6L (J7e x lo hi) (by kernel_rfl) (J6p x lo hi) (by kernel_rfl)
def J5D : List D → Orc := orcN [none, none, none] fun ds => match ds with
  | [.int .i64 x, .bx [.int .i64 lo] 0, .bx [.int .i64 hi] 0] => some (.one (.d (.bool (!(inB x lo hi)))))
  | _ => none
abbrev Jy (xs : ZI) (lo : Int) (hi : Int) (i : Int) : Prop := (0 ≤ i) ∧ (i ≤ (xs.length : Int)) ∧ (∀ k, k < i.toNat → (fun x => !(inB x lo hi)) (xs.getD k 0) = false)
abbrev Jz (xs : ZI) (lo : Int) (hi : Int) (i : Int) : Nat := (xs.length - i).toNat
def J2Z (f : FuncId) (ds : List D) : Orc := bif Nat.beq f 220 then J5D ds else .no
def J31 (xs : ZI) (lo : Int) (hi : Int) : Ann := .two (.none) (.two (.two (.none) (.loop (cut1 (fun (i : Int) => Jy xs lo hi i) (fun (i : Int) => [(0, .d false (.sl (.ints xs))), (1, .d false (.fn 220 0 [.bx [.int .i64 lo] 0, .bx [.int .i64 hi] 0])), (7, .d true (.int .i64 (xs.length : Int))), (8, .d true (.int .i64 i))]) (fun (i : Int) => [])) (fun g => Jz xs lo hi g) (fun _ => .none))) (.none))
def J0S (xs : ZI) (lo : Int) (hi : Int) : Prop :=
  ((∃ i' : Int, (Jy xs lo hi i') ∧ (xs = xs) ∧ ((.fn 220 0 [.bx [.int .i64 lo] 0, .bx [.int .i64 hi] 0] : D) = (.fn 220 0 [.bx [.int .i64 lo] 0, .bx [.int .i64 hi] 0] : D)) ∧ ((xs.length : Int) = (xs.length : Int)) ∧ ((0 : Int) = i')) ∧ (∀ i : Int, (Jy xs lo hi i) → (((decide (i < (xs.length : Int))) = true → ((0 : Int) ≤ i) ∧ ((i : Int) < xs.length) ∧ (i.toNat < xs.length) ∧ (PC Tryz.prog 220 [.int .i64 (xs.getD i.toNat 0), .bx [.int .i64 lo] 0, .bx [.int .i64 hi] 0] (.one (.d (.bool (!(inB (xs.getD i.toNat 0) lo hi)))))) ∧ (((!(inB (xs.getD i.toNat 0) lo hi)) = true → ((i = (idxI (fun x => !(inB x lo hi)) xs)))) ∧ ((!(inB (xs.getD i.toNat 0) lo hi)) = false → (I6 (i + 1)) ∧ (∃ i' : Int, (Jy xs lo hi i') ∧ (Jz xs lo hi i' < Jz xs lo hi i) ∧ (xs = xs) ∧ ((.fn 220 0 [.bx [.int .i64 lo] 0, .bx [.int .i64 hi] 0] : D) = (.fn 220 0 [.bx [.int .i64 lo] 0, .bx [.int .i64 hi] 0] : D)) ∧ ((xs.length : Int) = (xs.length : Int)) ∧ ((i + 1) = i'))))) ∧ ((decide (i < (xs.length : Int))) = false → ((((-1) : Int) = (idxI (fun x => !(inB x lo hi)) xs)))))))
theorem J2K (xs : ZI) (lo : Int) (hi : Int)  (w_xs : (xs.length : Int) ≤ 9223372036854775807) : J0S xs lo hi := by
  unfold J0S
  refine ⟨?_, ?_⟩
  ·refine ⟨0, ?_⟩
   refine ⟨?_, rfl, rfl, rfl, rfl⟩
   ·refine ⟨?_, ?_, ?_⟩
    ·omega
    ·omega
    ·omega
  intro i hJ
  obtain ⟨h1, h2, h3⟩ := hJ
  refine ⟨?_, ?_⟩
  ·intro b1
   try simp only [nrmT] at b1
   refine ⟨?_, ?_, ?_, J6b (xs.getD i.toNat 0) lo hi, ?_, ?_⟩
   ·omega
   ·omega
   ·omega
   ·intro b2
    try simp only [nrmT] at b2
    exact idx_found (p := fun x => !(inB x lo hi)) h1 b1 h3 (by simpa using b2)
   intro b3
   try simp only [nrmT] at b3
   refine ⟨?_, ?_⟩
   ·omega
   refine ⟨(i + 1), ?_⟩
   refine ⟨?_, ?_, rfl, rfl, rfl, rfl⟩
   ·refine ⟨?_, ?_, ?_⟩
    ·omega
    ·omega
    ·exact idx_step (p := fun x => !(inB x lo hi)) h1 h3 (by simpa using b3)
   (simp only [Jz]; omega)
  intro b4
  try simp only [nrmT] at b4
  exact (idx_none (by omega) h3).symm
theorem J2N (xs : ZI) (lo : Int) (hi : Int)  : PC Tryz.prog 237 [.sl (.ints xs), .fn 220 0 [.bx [.int .i64 lo] 0, .bx [.int .i64 hi] 0]] (.one (.d (.int .i64 (idxI (fun x => !(inB x lo hi)) xs)))) :=
  pc_wf @Tryz.call237 fun hw => pc_by (by kernel_rfl) Tryz.func237 @Tryz.call237 (by kernel_rfl) J2Z (J31 xs lo hi) (by kernel_rfl) (J2K xs lo hi hw.1) (by kernel_rfl)
def J2H : List D → Orc := orcN [some .ints, none] fun ds => match ds with
  | [.sl (.ints xs), .fn f0 0 [.bx [.int .i64 lo] 0, .bx [.int .i64 hi] 0]] => bif Nat.beq f0 220 then some (.one (.d (.int .i64 (idxI (fun x => !(inB x lo hi)) xs)))) else none
  | _ => none
def J2B (f : FuncId) (ds : List D) : Orc := bif Nat.beq f 237 then J2H ds else .no
def J2o (xs : ZI) (lo : Int) (hi : Int) : Ann := .none
def J0z (xs : ZI) (lo : Int) (hi : Int) : Prop :=
  (PC Tryz.prog 237 [.sl (.ints xs), .fn 220 0 [.bx [.int .i64 lo] 0, .bx [.int .i64 hi] 0]] (.one (.d (.int .i64 (idxI (fun x => !(inB x lo hi)) xs))))) ∧ (((decide ((idxI (fun x => !(inB x lo hi)) xs) ≥ 0)) = (xs.any (fun x => !(inB x lo hi)))))
theorem J2a (xs : ZI) (lo : Int) (hi : Int)  (w_xs : (xs.length : Int) ≤ 9223372036854775807) : J0z xs lo hi := by
  unfold J0z
  refine ⟨J2N xs lo hi, ?_⟩
  ·exact idx_any _ _
theorem J29 (xs : ZI) (lo : Int) (hi : Int)  : PC Tryz.prog 218 [.sl (.ints xs), .fn 220 0 [.bx [.int .i64 lo] 0, .bx [.int .i64 hi] 0]] (.one (.d (.bool (xs.any (fun x => !(inB x lo hi)))))) :=
  pc_wf @Tryz.call218 fun hw => pc_by (by kernel_rfl) Tryz.func218 @Tryz.call218 (by kernel_rfl) J2B (J2o xs lo hi) (by kernel_rfl) (J2a xs lo hi hw.1) (by kernel_rfl)
def J22 : List D → Orc := orcN [some .ints, none] fun ds => match ds with
  | [.sl (.ints xs), .fn f0 0 [.bx [.int .i64 lo] 0, .bx [.int .i64 hi] 0]] => bif Nat.beq f0 220 then some (.one (.d (.bool (xs.any (fun x => !(inB x lo hi)))))) else none
  | _ => none
def J8i (f : FuncId) (ds : List D) : Orc := bif Nat.beq f 218 then J22 ds else .no
def J8n (xs : ZI) (lo : Int) (hi : Int) : Ann := .none
def J4N (xs : ZI) (lo : Int) (hi : Int) : Prop :=
  (PC Tryz.prog 218 [.sl (.ints xs), .fn 220 0 [.bx [.int .i64 lo] 0, .bx [.int .i64 hi] 0]] (.one (.d (.bool (xs.any (fun x => !(inB x lo hi))))))) ∧ (((!(xs.any (fun x => !(inB x lo hi)))) = (xs.all (fun x => inB x lo hi))))
theorem J7L (xs : ZI) (lo : Int) (hi : Int)  (w_xs : (xs.length : Int) ≤ 9223372036854775807) : J4N xs lo hi := by
  unfold J4N
  refine ⟨J29 xs lo hi, ?_⟩
  ·exact any_not _ _
theorem J4v (xs : ZI) (lo : Int) (hi : Int)  : PC Tryz.prog 168 [.sl (.ints xs), .int .i64 lo, .int .i64 hi] (.one (.d (.bool (xs.all (fun x => inB x lo hi))))) :=
  pc_wf @Tryz.call168 fun hw => pc_by (by kernel_rfl) Tryz.func168 @Tryz.call168 (by kernel_rfl) J8i (J8n xs lo hi) (by kernel_rfl) (J7L xs lo hi hw.1) (by kernel_rfl)
def J49 : List D → Orc := orcN [some .ints, none, none] fun ds => match ds with
  | [.sl (.ints xs), .int .i64 lo, .int .i64 hi] => some (.one (.d (.bool (xs.all (fun x => inB x lo hi)))))
  | _ => none
theorem J7l {α : Type} [BEq α] [LawfulBEq α] {d : α} {xs ys : List α} (hl : xs.length = ys.length) : allTo (fun k => xs.getD k d == ys.getD k d) xs.length = (xs == ys) := by
  rw [Bool.eq_iff_iff, allTo_iff]
  simp only [beq_iff_eq]
  constructor
  · intro h
    refine List.ext_getElem hl fun k h1 h2 => ?_
    have := h k h1
    simpa [h1, h2] using this
  intro h k _
  rw [h]
theorem JcW {α : Type} [BEq α] [LawfulBEq α] {xs ys : List α} (h : ¬ xs.length = ys.length) : (xs == ys) = false := by
  rw [Bool.eq_false_iff]; intro h2; simp only [beq_iff_eq] at h2; exact h (by rw [h2])
def Jh (row : ZI) (n most : Int) : Bool := row.all (fun x => inB x 0 most) && decide ((row.length : Int) = n)
def J0 (U : ZI) (E : ZR) : Bool :=
  inB (U.length : Int) 1 7 && U.all (fun x => inB x 0 99) && decide (E.length ≤ 7) && E.all (fun l => Jh l (U.length : Int) 99)
theorem J9 {U : ZI} {E : ZR} (h : J0 U E = true) : 1 ≤ U.length ∧ U.length ≤ 7 ∧ E.length ≤ 7 := by
  simp only [J0, Bool.and_eq_true, decide_eq_true_eq] at h
  have := J28 h.1.1.1
  omega
theorem Jv {U : ZI} {E : ZR} (h : J0 U E = true) {i : Nat} (hi : i < E.length) : (E.getD i []).length = U.length ∧ ∀ a, a < U.length → 0 ≤ (E.getD i []).getD a 0 ∧ (E.getD i []).getD a 0 ≤ 99 := by
  simp only [J0, Bool.and_eq_true, decide_eq_true_eq] at h
  have h2 := List.all_eq_true.1 h.2 _ (getD_mem (d := []) hi)
  simp only [Jh, Bool.and_eq_true, decide_eq_true_eq] at h2
  refine ⟨by omega, fun a ha => ?_⟩
  exact J28 (List.all_eq_true.1 h2.1 _ (getD_mem (by omega)))
abbrev J3c (row : ZI) (n : Int) (most : Int) (i : Int) : Prop := (0 ≤ i) ∧ (i ≤ (row.length : Int)) ∧ (allTo (fun k => inB (row.getD k 0) 0 most) i.toNat = true)
abbrev J3g (row : ZI) (n : Int) (most : Int) (i : Int) : Nat := (row.length - i).toNat
def JbO (f : FuncId) (ds : List D) : Orc := bif Nat.beq f 129 then J3R ds else .no
def Jc9 (row : ZI) (n : Int) (most : Int) : Ann := .two (.none) (.two (.two (.none) (.loop (cut1 (fun (i : Int) => J3c row n most i) (fun (i : Int) => [(0, .d false (.sl (.ints row))), (1, .d false (.int .i64 n)), (2, .d false (.int .i64 most)), (7, .d true (.int .i64 i))]) (fun (i : Int) => [])) (fun g => J3g row n most g) (fun _ => .none))) (.none))
def J8V (row : ZI) (n : Int) (most : Int) : Prop :=
  ((∃ i' : Int, (J3c row n most i') ∧ (row = row) ∧ (n = n) ∧ (most = most) ∧ ((0 : Int) = i')) ∧ (∀ i : Int, (J3c row n most i) → (((decide (i < (row.length : Int))) = true → ((0 : Int) ≤ i) ∧ ((i : Int) < row.length) ∧ (i.toNat < row.length) ∧ (PC Tryz.prog 129 [.int .i64 (row.getD i.toNat 0), .int .i64 0, .int .i64 most] (.one (.d (.bool (inB (row.getD i.toNat 0) 0 most))))) ∧ (((!(inB (row.getD i.toNat 0) 0 most)) = true → ((false = (Jh row n most)))) ∧ ((!(inB (row.getD i.toNat 0) 0 most)) = false → (I6 (i + 1)) ∧ (∃ i' : Int, (J3c row n most i') ∧ (J3g row n most i' < J3g row n most i) ∧ (row = row) ∧ (n = n) ∧ (most = most) ∧ ((i + 1) = i'))))) ∧ ((decide (i < (row.length : Int))) = false → ((((row.length : Int) == n) = (Jh row n most)))))))
theorem Jb6 (row : ZI) (n : Int) (most : Int)  (w_row : (row.length : Int) ≤ 9223372036854775807) : J8V row n most := by
  unfold J8V
  refine ⟨?_, ?_⟩
  ·refine ⟨0, ?_⟩
   refine ⟨?_, rfl, rfl, rfl, rfl⟩
   ·refine ⟨?_, ?_, ?_⟩
    ·omega
    ·omega
    ·rfl
  intro i hJ
  obtain ⟨h1, h2, h3⟩ := hJ
  refine ⟨?_, ?_⟩
  ·intro b1
   try simp only [nrmT] at b1
   refine ⟨?_, ?_, ?_, J4y (row.getD i.toNat 0) 0 most, ?_, ?_⟩
   ·omega
   ·omega
   ·omega
   ·intro b2
    try simp only [nrmT] at b2
    unfold Jh
    rw [Jc3 (p := fun x => inB x 0 most) (d := 0) h1 (by omega) b2]; rfl
   intro b3
   try simp only [nrmT] at b3
   refine ⟨?_, ?_⟩
   ·omega
   refine ⟨(i + 1), ?_⟩
   refine ⟨?_, ?_, rfl, rfl, rfl, rfl⟩
   ·refine ⟨?_, ?_, ?_⟩
    ·omega
    ·omega
    ·exact allTo_step h1 h3 b3
   (simp only [J3g]; omega)
  intro b4
  try simp only [nrmT] at b4
  unfold Jh
  rw [JaU (p := fun x => inB x 0 most) (d := 0) (by omega) h2 h3, Bool.true_and]; rfl
theorem J80 (row : ZI) (n : Int) (most : Int)  : PC Tryz.prog 202 [.sl (.ints row), .int .i64 n, .int .i64 most] (.one (.d (.bool (Jh row n most)))) :=
  pc_wf @Tryz.call202 fun hw => pc_by (by kernel_rfl) Tryz.func202 @Tryz.call202 (by kernel_rfl) JbO (Jc9 row n most) (by kernel_rfl) (Jb6 row n most hw.1) (by kernel_rfl)
def JaP : List D → Orc := orcN [some .ints, none, none] fun ds => match ds with
  | [.sl (.ints row), .int .i64 n, .int .i64 most] => some (.one (.d (.bool (Jh row n most))))
  | _ => none
abbrev J2L (U : ZI) (E : ZR) (i : Int) : Prop := (0 ≤ i) ∧ (i ≤ (E.length : Int)) ∧ (allTo (fun k => Jh (E.getD k []) (U.length : Int) 99) i.toNat = true)
abbrev J2Y (U : ZI) (E : ZR) (i : Int) : Nat := (E.length - i).toNat
def Jb1 (f : FuncId) (ds : List D) : Orc := bif Nat.beq f 202 then JaP ds else bif Nat.beq f 129 then J3R ds else .no
def Jbj (U : ZI) (E : ZR) : Ann := .two (.none) (.two (.none) (.two (.two (.none) (.loop (cut1 (fun (i : Int) => J2L U E i) (fun (i : Int) => [(1, .ptr 1 0), (3, .d true (.int .i64 (U.length : Int))), (4, .d true (.int .i64 i))]) (fun (i : Int) => [(1, .box 27 [.d false (.sl (.ints U)), .d false (.sl (.rows E))])])) (fun g => J2Y U E g) (fun _ => .none))) (.none)))
def J7A (U : ZI) (E : ZR) : Prop :=
  ((∃ i' : Int, (J2L U E i') ∧ ((U.length : Int) = (U.length : Int)) ∧ ((0 : Int) = i') ∧ (U = U) ∧ (E = E)) ∧ (∀ i : Int, (J2L U E i) → (((decide (i < (E.length : Int))) = true → ((0 : Int) ≤ i) ∧ ((i : Int) < E.length) ∧ (i.toNat < E.length) ∧ (PC Tryz.prog 202 [.sl (.ints (E.getD i.toNat [])), .int .i64 (U.length : Int), .int .i64 99] (.one (.d (.bool (Jh (E.getD i.toNat []) (U.length : Int) 99))))) ∧ (((!(Jh (E.getD i.toNat []) (U.length : Int) 99)) = true → ((false = (J0 U E)))) ∧ ((!(Jh (E.getD i.toNat []) (U.length : Int) 99)) = false → (I6 (i + 1)) ∧ (∃ i' : Int, (J2L U E i') ∧ (J2Y U E i' < J2Y U E i) ∧ ((U.length : Int) = (U.length : Int)) ∧ ((i + 1) = i') ∧ (U = U) ∧ (E = E))))) ∧ ((decide (i < (E.length : Int))) = false → (PC Tryz.prog 129 [.int .i64 (U.length : Int), .int .i64 1, .int .i64 7] (.one (.d (.bool (inB (U.length : Int) 1 7))))) ∧ ((inB (U.length : Int) 1 7) = true → (inB (U.length : Int) 1 7) = true) ∧ ((inB (U.length : Int) 1 7) = true → (inB (U.length : Int) 1 7) = true) ∧ ((inB (U.length : Int) 1 7) = true → (inB (U.length : Int) 1 7) = true) ∧ ((inB (U.length : Int) 1 7) = true → PC Tryz.prog 202 [.sl (.ints U), .int .i64 (U.length : Int), .int .i64 99] (.one (.d (.bool (Jh U (U.length : Int) 99))))) ∧ (true = true) ∧ (((inB (U.length : Int) 1 7) = true → (inB (U.length : Int) 1 7) = true)) ∧ (((inB (U.length : Int) 1 7) = false → true = true)) ∧ ((cond (inB (U.length : Int) 1 7) (Jh U (U.length : Int) 99) false) = true → (cond (inB (U.length : Int) 1 7) (Jh U (U.length : Int) 99) false) = true) ∧ ((cond (inB (U.length : Int) 1 7) (Jh U (U.length : Int) 99) false) = true → (cond (inB (U.length : Int) 1 7) (Jh U (U.length : Int) 99) false) = true) ∧ ((cond (inB (U.length : Int) 1 7) (Jh U (U.length : Int) 99) false) = true → (cond (inB (U.length : Int) 1 7) (Jh U (U.length : Int) 99) false) = true) ∧ (true = true) ∧ (((cond (inB (U.length : Int) 1 7) (Jh U (U.length : Int) 99) false) = true → (cond (inB (U.length : Int) 1 7) (Jh U (U.length : Int) 99) false) = true)) ∧ (((cond (inB (U.length : Int) 1 7) (Jh U (U.length : Int) 99) false) = false → true = true)) ∧ (((cond (cond (inB (U.length : Int) 1 7) (Jh U (U.length : Int) 99) false) (decide ((E.length : Int) ≤ 7)) false) = (J0 U E)))))))
theorem JaN (U : ZI) (E : ZR)  (w_Open : (U.length : Int) ≤ 9223372036854775807) (w_Dist : (E.length : Int) ≤ 9223372036854775807) (v_Dist : ∀ x9 ∈ E, (x9.length : Int) ≤ 9223372036854775807) : J7A U E := by
  unfold J7A
  refine ⟨?_, ?_⟩
  ·refine ⟨0, ?_⟩
   refine ⟨?_, rfl, rfl, rfl, rfl⟩
   ·refine ⟨?_, ?_, ?_⟩
    ·omega
    ·omega
    ·rfl
  intro i hJ
  obtain ⟨h1, h2, h3⟩ := hJ
  refine ⟨?_, ?_⟩
  ·intro b1
   try simp only [nrmT] at b1
   refine ⟨?_, ?_, ?_, J80 (E.getD i.toNat []) (U.length : Int) 99, ?_, ?_⟩
   ·omega
   ·omega
   ·omega
   ·intro b2
    try simp only [nrmT] at b2
    unfold J0
    rw [Jc3 (p := fun l => Jh l (U.length : Int) 99) (d := []) h1 (by omega) b2, Bool.and_false]
   intro b3
   try simp only [nrmT] at b3
   refine ⟨?_, ?_⟩
   ·omega
   refine ⟨(i + 1), ?_⟩
   refine ⟨?_, ?_, rfl, rfl, rfl, rfl⟩
   ·refine ⟨?_, ?_, ?_⟩
    ·omega
    ·omega
    ·exact allTo_step h1 h3 b3
   (simp only [J2Y]; omega)
  intro b4
  try simp only [nrmT] at b4
  refine ⟨J4y (U.length : Int) 1 7, id, id, id, fun _ => J80 U (U.length : Int) 99, rfl, id, fun _ => rfl, id, id, id, rfl, id, fun _ => rfl, ?_⟩
  ·unfold J0
   rw [JaU (p := fun l => Jh l (U.length : Int) 99) (d := []) (by omega) h2 h3, show decide ((E.length : Int) ≤ 7) = decide (E.length ≤ 7) from Jcd _ 7]
   unfold Jh
   cases inB (U.length : Int) 1 7 <;> cases U.all (fun x => inB x 0 99) <;> cases decide (E.length ≤ 7) <;> simp
theorem Jap (U : ZI) (E : ZR)  : PC Tryz.prog 112 [.agg [.sl (.ints U), .sl (.rows E)]] (.one (.d (.bool (J0 U E)))) :=
  pc_wf @Tryz.call112 fun hw => pc_by (by kernel_rfl) Tryz.func112 @Tryz.call112 (by kernel_rfl) Jb1 (Jbj U E) (by kernel_rfl) (JaN U E hw.1.1 hw.1.2.1.1 hw.1.2.1.2) (by kernel_rfl)
def Ja3 : List D → Orc := orcN [none] fun ds => match ds with
  | [.agg [.sl (.ints U), .sl (.rows E)]] => some (.one (.d (.bool (J0 U E))))
  | _ => none
def J9e (f : FuncId) (ds : List D) : Orc := bif Nat.beq f 168 then J49 ds else .no
def J9o (xs : ZI) (U : ZI) (E : ZR) : Ann := .none
def J53 (xs : ZI) (U : ZI) (E : ZR) : Prop :=
  ((!((xs.length : Int) != (U.length : Int))) = true → (!((xs.length : Int) != (U.length : Int))) = true) ∧ ((!((xs.length : Int) != (U.length : Int))) = true → PC Tryz.prog 168 [.sl (.ints xs), .int .i64 0, .int .i64 99] (.one (.d (.bool (xs.all (fun x => inB x 0 99)))))) ∧ ((!((xs.length : Int) != (U.length : Int))) = true → (!((xs.length : Int) != (U.length : Int))) = true) ∧ (true = true) ∧ ((((xs.length : Int) != (U.length : Int)) = true → true = true)) ∧ ((((xs.length : Int) != (U.length : Int)) = false → (!((xs.length : Int) != (U.length : Int))) = true)) ∧ (((cond ((xs.length : Int) != (U.length : Int)) true (!(xs.all (fun x => inB x 0 99)))) = (!(Jh xs (U.length : Int) 99))))
theorem J8z (xs : ZI) (U : ZI) (E : ZR)  (w_xs : (xs.length : Int) ≤ 9223372036854775807) (w_Open : (U.length : Int) ≤ 9223372036854775807) (w_Dist : (E.length : Int) ≤ 9223372036854775807) (v_Dist : ∀ x9 ∈ E, (x9.length : Int) ≤ 9223372036854775807) : J53 xs U E := by
  unfold J53
  refine ⟨id, fun _ => J4v xs 0 99, id, rfl, fun _ => rfl, ?_, ?_⟩
  ·(simp_all; done)
  unfold Jh
  by_cases h : (xs.length : Int) = (U.length : Int)
  · simp [h]
  simp [h]
theorem J8b (xs : ZI) (U : ZI) (E : ZR)  : PC Tryz.prog 201 [.sl (.ints xs), .bx [.sl (.ints U), .sl (.rows E)] 0] (.one (.d (.bool (!(Jh xs (U.length : Int) 99))))) :=
  pc_wf @Tryz.call201 fun hw => pc_by (by kernel_rfl) Tryz.func201 @Tryz.call201 (by kernel_rfl) J9e (J9o xs U E) (by kernel_rfl) (J8z xs U E hw.1 hw.2.1.1 hw.2.1.2.1.1 hw.2.1.2.1.2) (by kernel_rfl)
def J7n : List D → Orc := orcN [some .ints, none] fun ds => match ds with
  | [.sl (.ints xs), .bx [.sl (.ints U), .sl (.rows E)] 0] => some (.one (.d (.bool (!(Jh xs (U.length : Int) 99)))))
  | _ => none
abbrev JB (xs : ZR) (U : ZI) (E : ZR) (i : Int) : Prop := (0 ≤ i) ∧ (i ≤ (xs.length : Int)) ∧ (∀ k, k < i.toNat → (fun x => !(Jh x (U.length : Int) 99)) (xs.getD k []) = false)
abbrev JA (xs : ZR) (U : ZI) (E : ZR) (i : Int) : Nat := (xs.length - i).toNat
def J32 (f : FuncId) (ds : List D) : Orc := bif Nat.beq f 201 then J7n ds else .no
def J30 (xs : ZR) (U : ZI) (E : ZR) : Ann := .two (.none) (.two (.two (.none) (.loop (cut1 (fun (i : Int) => JB xs U E i) (fun (i : Int) => [(0, .d false (.sl (.rows xs))), (1, .d false (.fn 201 0 [.bx [.sl (.ints U), .sl (.rows E)] 0])), (7, .d true (.int .i64 (xs.length : Int))), (8, .d true (.int .i64 i))]) (fun (i : Int) => [])) (fun g => JA xs U E g) (fun _ => .none))) (.none))
def J0T (xs : ZR) (U : ZI) (E : ZR) : Prop :=
  ((∃ i' : Int, (JB xs U E i') ∧ (xs = xs) ∧ ((.fn 201 0 [.bx [.sl (.ints U), .sl (.rows E)] 0] : D) = (.fn 201 0 [.bx [.sl (.ints U), .sl (.rows E)] 0] : D)) ∧ ((xs.length : Int) = (xs.length : Int)) ∧ ((0 : Int) = i')) ∧ (∀ i : Int, (JB xs U E i) → (((decide (i < (xs.length : Int))) = true → ((0 : Int) ≤ i) ∧ ((i : Int) < xs.length) ∧ (i.toNat < xs.length) ∧ (PC Tryz.prog 201 [.sl (.ints (xs.getD i.toNat [])), .bx [.sl (.ints U), .sl (.rows E)] 0] (.one (.d (.bool (!(Jh (xs.getD i.toNat []) (U.length : Int) 99)))))) ∧ (((!(Jh (xs.getD i.toNat []) (U.length : Int) 99)) = true → ((i = (idxI (fun x => !(Jh x (U.length : Int) 99)) xs)))) ∧ ((!(Jh (xs.getD i.toNat []) (U.length : Int) 99)) = false → (I6 (i + 1)) ∧ (∃ i' : Int, (JB xs U E i') ∧ (JA xs U E i' < JA xs U E i) ∧ (xs = xs) ∧ ((.fn 201 0 [.bx [.sl (.ints U), .sl (.rows E)] 0] : D) = (.fn 201 0 [.bx [.sl (.ints U), .sl (.rows E)] 0] : D)) ∧ ((xs.length : Int) = (xs.length : Int)) ∧ ((i + 1) = i'))))) ∧ ((decide (i < (xs.length : Int))) = false → ((((-1) : Int) = (idxI (fun x => !(Jh x (U.length : Int) 99)) xs)))))))
theorem J2M (xs : ZR) (U : ZI) (E : ZR)  (w_xs : (xs.length : Int) ≤ 9223372036854775807) (v_xs : ∀ x9 ∈ xs, (x9.length : Int) ≤ 9223372036854775807) (w_Open : (U.length : Int) ≤ 9223372036854775807) (w_Dist : (E.length : Int) ≤ 9223372036854775807) (v_Dist : ∀ x9 ∈ E, (x9.length : Int) ≤ 9223372036854775807) : J0T xs U E := by
  unfold J0T
  refine ⟨?_, ?_⟩
  ·refine ⟨0, ?_⟩
   refine ⟨?_, rfl, rfl, rfl, rfl⟩
   ·refine ⟨?_, ?_, ?_⟩
    ·omega
    ·omega
    ·omega
  intro i hJ
  obtain ⟨h1, h2, h3⟩ := hJ
  refine ⟨?_, ?_⟩
  ·intro b1
   try simp only [nrmT] at b1
   refine ⟨?_, ?_, ?_, J8b (xs.getD i.toNat []) U E, ?_, ?_⟩
   ·omega
   ·omega
   ·omega
   ·intro b2
    try simp only [nrmT] at b2
    exact idx_found (p := fun x => !(Jh x (U.length : Int) 99)) h1 b1 h3 (by simpa using b2)
   intro b3
   try simp only [nrmT] at b3
   refine ⟨?_, ?_⟩
   ·omega
   refine ⟨(i + 1), ?_⟩
   refine ⟨?_, ?_, rfl, rfl, rfl, rfl⟩
   ·refine ⟨?_, ?_, ?_⟩
    ·omega
    ·omega
    ·exact idx_step (p := fun x => !(Jh x (U.length : Int) 99)) h1 h3 (by simpa using b3)
   (simp only [JA]; omega)
  intro b4
  try simp only [nrmT] at b4
  exact (idx_none (by omega) h3).symm
theorem J2X (xs : ZR) (U : ZI) (E : ZR)  : PC Tryz.prog 226 [.sl (.rows xs), .fn 201 0 [.bx [.sl (.ints U), .sl (.rows E)] 0]] (.one (.d (.int .i64 (idxI (fun x => !(Jh x (U.length : Int) 99)) xs)))) :=
  pc_wf @Tryz.call226 fun hw => pc_by (by kernel_rfl) Tryz.func226 @Tryz.call226 (by kernel_rfl) J32 (J30 xs U E) (by kernel_rfl) (J2M xs U E hw.1.1 hw.1.2 hw.2.1.1.1 hw.2.1.1.2.1.1 hw.2.1.1.2.1.2) (by kernel_rfl)
def J2I : List D → Orc := orcN [some .rows, none] fun ds => match ds with
  | [.sl (.rows xs), .fn f0 0 [.bx [.sl (.ints U), .sl (.rows E)] 0]] => bif Nat.beq f0 201 then some (.one (.d (.int .i64 (idxI (fun x => !(Jh x (U.length : Int) 99)) xs)))) else none
  | _ => none
def J2t (f : FuncId) (ds : List D) : Orc := bif Nat.beq f 226 then J2I ds else .no
def J2A (xs : ZR) (U : ZI) (E : ZR) : Ann := .none
def J0w (xs : ZR) (U : ZI) (E : ZR) : Prop :=
  (PC Tryz.prog 226 [.sl (.rows xs), .fn 201 0 [.bx [.sl (.ints U), .sl (.rows E)] 0]] (.one (.d (.int .i64 (idxI (fun x => !(Jh x (U.length : Int) 99)) xs))))) ∧ (((decide ((idxI (fun x => !(Jh x (U.length : Int) 99)) xs) ≥ 0)) = (xs.any (fun x => !(Jh x (U.length : Int) 99)))))
theorem J27 (xs : ZR) (U : ZI) (E : ZR)  (w_xs : (xs.length : Int) ≤ 9223372036854775807) (v_xs : ∀ x9 ∈ xs, (x9.length : Int) ≤ 9223372036854775807) (w_Open : (U.length : Int) ≤ 9223372036854775807) (w_Dist : (E.length : Int) ≤ 9223372036854775807) (v_Dist : ∀ x9 ∈ E, (x9.length : Int) ≤ 9223372036854775807) : J0w xs U E := by
  unfold J0w
  refine ⟨J2X xs U E, ?_⟩
  ·exact idx_any _ _
theorem J2d (xs : ZR) (U : ZI) (E : ZR)  : PC Tryz.prog 195 [.sl (.rows xs), .fn 201 0 [.bx [.sl (.ints U), .sl (.rows E)] 0]] (.one (.d (.bool (xs.any (fun x => !(Jh x (U.length : Int) 99)))))) :=
  pc_wf @Tryz.call195 fun hw => pc_by (by kernel_rfl) Tryz.func195 @Tryz.call195 (by kernel_rfl) J2t (J2A xs U E) (by kernel_rfl) (J27 xs U E hw.1.1 hw.1.2 hw.2.1.1.1 hw.2.1.1.2.1.1 hw.2.1.1.2.1.2) (by kernel_rfl)
def J24 : List D → Orc := orcN [some .rows, none] fun ds => match ds with
  | [.sl (.rows xs), .fn f0 0 [.bx [.sl (.ints U), .sl (.rows E)] 0]] => bif Nat.beq f0 201 then some (.one (.d (.bool (xs.any (fun x => !(Jh x (U.length : Int) 99)))))) else none
  | _ => none
def Jao (f : FuncId) (ds : List D) : Orc := bif Nat.beq f 132 then J1h ds else bif Nat.beq f 168 then J49 ds else bif Nat.beq f 195 then J24 ds else .no
def JaM (U : ZI) (E : ZR) : Ann := .none
def Jr (U : ZI) (E : ZR) : Bool := (cond (cond (inB (U.length : Int) 1 7) (U.all (fun x => inB x 0 99)) false) (decide ((E.length : Int) ≤ 7)) false)
def J6s (U : ZI) (E : ZR) : Prop :=
  (PC Tryz.prog 132 [.int .i64 (U.length : Int), .int .i64 1, .int .i64 7] (.one (.d (.bool (inB (U.length : Int) 1 7))))) ∧ ((inB (U.length : Int) 1 7) = true → (inB (U.length : Int) 1 7) = true) ∧ ((inB (U.length : Int) 1 7) = true → (inB (U.length : Int) 1 7) = true) ∧ ((inB (U.length : Int) 1 7) = true → PC Tryz.prog 168 [.sl (.ints U), .int .i64 0, .int .i64 99] (.one (.d (.bool (U.all (fun x => inB x 0 99)))))) ∧ (true = true) ∧ (((inB (U.length : Int) 1 7) = true → (inB (U.length : Int) 1 7) = true)) ∧ (((inB (U.length : Int) 1 7) = false → true = true)) ∧ ((cond (inB (U.length : Int) 1 7) (U.all (fun x => inB x 0 99)) false) = true → (cond (inB (U.length : Int) 1 7) (U.all (fun x => inB x 0 99)) false) = true) ∧ ((cond (inB (U.length : Int) 1 7) (U.all (fun x => inB x 0 99)) false) = true → (cond (inB (U.length : Int) 1 7) (U.all (fun x => inB x 0 99)) false) = true) ∧ ((cond (inB (U.length : Int) 1 7) (U.all (fun x => inB x 0 99)) false) = true → (cond (inB (U.length : Int) 1 7) (U.all (fun x => inB x 0 99)) false) = true) ∧ (true = true) ∧ (((cond (inB (U.length : Int) 1 7) (U.all (fun x => inB x 0 99)) false) = true → (cond (inB (U.length : Int) 1 7) (U.all (fun x => inB x 0 99)) false) = true)) ∧ (((cond (inB (U.length : Int) 1 7) (U.all (fun x => inB x 0 99)) false) = false → true = true)) ∧ ((Jr U E) = true → (Jr U E) = true) ∧ ((Jr U E) = true → (Jr U E) = true) ∧ ((Jr U E) = true → (Jr U E) = true) ∧ ((Jr U E) = true → PC Tryz.prog 195 [.sl (.rows E), .fn 201 0 [.bx [.sl (.ints U), .sl (.rows E)] 0]] (.one (.d (.bool (E.any (fun x => !(Jh x (U.length : Int) 99))))))) ∧ ((Jr U E) = true → (Jr U E) = true) ∧ (true = true) ∧ (((Jr U E) = true → (Jr U E) = true)) ∧ (((Jr U E) = false → true = true)) ∧ (((cond (Jr U E) (!(E.any (fun x => !(Jh x (U.length : Int) 99)))) false) = (J0 U E)))
theorem Jaj (U : ZI) (E : ZR)  (w_Open : (U.length : Int) ≤ 9223372036854775807) (w_Dist : (E.length : Int) ≤ 9223372036854775807) (v_Dist : ∀ x9 ∈ E, (x9.length : Int) ≤ 9223372036854775807) : J6s U E := by
  unfold J6s Jr
  refine ⟨J1t (U.length : Int) 1 7, id, id, fun _ => J4v U 0 99, rfl, id, fun _ => rfl, id, id, id, rfl, id, fun _ => rfl, id, id, id, fun _ => J2d E U E, id, rfl, id, fun _ => rfl, ?_⟩
  ·unfold J0
   rw [any_not, show decide ((E.length : Int) ≤ 7) = decide (E.length ≤ 7) from Jcd _ 7]
   cases inB (U.length : Int) 1 7 <;> cases U.all (fun x => inB x 0 99) <;> cases decide (E.length ≤ 7) <;> simp
theorem J46 (U : ZI) (E : ZR)  : PC Tryz.prog 111 [.agg [.sl (.ints U), .sl (.rows E)]] (.one (.d (.bool (J0 U E)))) :=
  pc_wf @Tryz.call111 fun hw => pc_by (by kernel_rfl) Tryz.func111 @Tryz.call111 (by kernel_rfl) Jao (JaM U E) (by kernel_rfl) (Jaj U E hw.1.1 hw.1.2.1.1 hw.1.2.1.2) (by kernel_rfl)
def J3x : List D → Orc := orcN [none] fun ds => match ds with
  | [.agg [.sl (.ints U), .sl (.rows E)]] => some (.one (.d (.bool (J0 U E))))
  | _ => none
def Jaq (f : FuncId) (ds : List D) : Orc := .no
def JaD (a : Int) (b : Int) : Ann := .none
def J6z (a : Int) (b : Int) : Prop :=
  (((decide (a < b)) = true → ((a = (min a b)))) ∧ ((decide (a < b)) = false → ((b = (min a b)))))
theorem J9C (a : Int) (b : Int)   : J6z a b := by
  unfold J6z
  refine ⟨?_, ?_⟩
  ·intro b1
   try simp only [nrmT] at b1
   omega
  intro b2
  try simp only [nrmT] at b2
  omega
theorem J5x (a : Int) (b : Int)  : PC Tryz.prog 161 [.int .i64 a, .int .i64 b] (.one (.d (.int .i64 (min a b)))) :=
  pc_wf @Tryz.call161 fun _ => pc_by (by kernel_rfl) Tryz.func161 @Tryz.call161 (by kernel_rfl) Jaq (JaD a b) (by kernel_rfl) (J9C a b) (by kernel_rfl)
def J52 : List D → Orc := orcN [none, none] fun ds => match ds with
  | [.int .i64 a, .int .i64 b] => some (.one (.d (.int .i64 (min a b))))
  | _ => none
def J0c (f : Nat → Int) (n : Nat) : Int := foldTo (fun s k => s + f k) 0 n
theorem J16 {xs : ZI} {lo hi : Int} (h : J2 xs lo hi = true) : ∀ k, k < xs.length → lo + k ≤ xs.getD k 0 ∧ xs.getD k 0 ≤ hi := by
  intro k
  induction k with
  | zero =>
    intro hk
    have h1 := allTo_iff.1 h 0 hk
    simp only [J1D, Bool.and_eq_true] at h1
    have := J28 h1.1
    omega
  | succ k ih =>
    intro hk
    have h0 := ih (by omega)
    have h1 := allTo_iff.1 h (k + 1) hk
    simp only [J1D, Bool.and_eq_true, Bool.or_eq_true, decide_eq_true_eq, Nat.add_sub_cancel] at h1
    have := J28 h1.1
    have h2 := h1.2
    omega
theorem J18 {xs : ZI} {lo hi : Int} (h : J2 xs lo hi = true) (hlo : lo ≤ hi + 1) : (xs.length : Int) ≤ hi - lo + 1 := by
  by_cases h0 : xs.length = 0
  · omega
  have := J16 h (xs.length - 1) (by omega)
  omega
abbrev J39 (list : ZI) (out : Int) (i : Int) : Prop := (0 ≤ i) ∧ (i ≤ (list.length : Int)) ∧ (out = ((bagTo list i.toNat : Nat) : Int))
abbrev J3f (list : ZI) (out : Int) (i : Int) : Nat := (list.length - i).toNat
def Jc8 (f : FuncId) (ds : List D) : Orc := .no
def Jc1 (list : ZI) : Ann := .two (.none) (.two (.none) (.two (.two (.none) (.loop (cut2 (fun (out : Int) (i : Int) => J39 list out i) (fun (out : Int) (i : Int) => [(3, .d true (.int .u64 out)), (6, .d false (.sl (.ints list))), (7, .d true (.int .i64 (list.length : Int))), (8, .d true (.int .i64 i))]) (fun (out : Int) (i : Int) => [])) (fun g => J3f list g.1 g.2) (fun _ => .none))) (.none)))
def J8S (list : ZI) : Prop :=
  ((∃ out' : Int, ∃ i' : Int, (J39 list out' i') ∧ ((0 : Int) = out') ∧ (list = list) ∧ ((list.length : Int) = (list.length : Int)) ∧ ((0 : Int) = i')) ∧ (∀ out : Int, ∀ i : Int, (J39 list out i) → (((decide (i < (list.length : Int))) = true → ((0 : Int) ≤ i) ∧ ((i : Int) < list.length) ∧ (i.toNat < list.length) ∧ ((0 : Int) ≤ 1) ∧ ((0 : Int) ≤ (list.getD i.toNat 0)) ∧ ((0 : Int) ≤ ((1 : Int) * 2 ^ ((list.getD i.toNat 0).toNat)) ∧ (((1 : Int) * 2 ^ ((list.getD i.toNat 0).toNat)) : Int) ≤ 18446744073709551615) ∧ ((0 : Int) ≤ out ∧ (out : Int) ≤ 18446744073709551615) ∧ ((0 : Int) ≤ ((1 : Int) * 2 ^ ((list.getD i.toNat 0).toNat)) ∧ (((1 : Int) * 2 ^ ((list.getD i.toNat 0).toNat)) : Int) ≤ 18446744073709551615) ∧ (I6 (i + 1)) ∧ (∃ out' : Int, ∃ i' : Int, (J39 list out' i') ∧ (J3f list out' i' < J3f list out i) ∧ (((out.toNat ||| ((1 : Int) * 2 ^ ((list.getD i.toNat 0).toNat)).toNat : Nat) : Int) = out') ∧ (list = list) ∧ ((list.length : Int) = (list.length : Int)) ∧ ((i + 1) = i'))) ∧ ((decide (i < (list.length : Int))) = false → ((out = ((bagN list : Nat) : Int)))))))
theorem Jba (list : ZI) (hb : ∀ x ∈ list, 0 ≤ x ∧ x < 62) (w_list : (list.length : Int) ≤ 9223372036854775807) : J8S list := by
  unfold J8S
  have lt := bagTo_lt (m := 62) hb
  have he : (2 : Nat) ^ 62 = 4611686018427387904 := by decide
  refine ⟨?_, ?_⟩
  ·refine ⟨0, 0, ?_⟩
   refine ⟨?_, rfl, rfl, rfl, rfl⟩
   ·refine ⟨?_, ?_, ?_⟩
    ·omega
    ·omega
    ·rfl
  intro out i hJ
  obtain ⟨h1, h2, h3⟩ := hJ
  refine ⟨?_, ?_⟩
  ·intro b1
   try simp only [nrmT] at b1
   refine ⟨?_, ?_, ?_, ?_, ?_, ?_, ?_, ?_, ?_, ?_⟩
   ·omega
   ·omega
   ·omega
   ·omega
   ·have := hb _ (getD_memI (d := 0) h1 (by omega))
    omega
   ·have h7 := hb _ (getD_memI (d := 0) h1 (by omega))
    have h8 := pow_le (x := list.getD i.toNat 0) (m := 62) (by omega)
    rw [he] at h8
    omega
   ·have := lt i.toNat (by omega)
    omega
   ·have h7 := hb _ (getD_memI (d := 0) h1 (by omega))
    have h8 := pow_le (x := list.getD i.toNat 0) (m := 62) (by omega)
    rw [he] at h8
    omega
   ·omega
   refine ⟨((out.toNat ||| ((1 : Int) * 2 ^ ((list.getD i.toNat 0).toNat)).toNat : Nat) : Int), (i + 1), ?_⟩
   refine ⟨?_, ?_, rfl, rfl, rfl, rfl⟩
   ·refine ⟨?_, ?_, ?_⟩
    ·omega
    ·omega
    ·have e : (i + 1).toNat = i.toNat + 1 := by omega
     rw [one_pow, h3, Int.toNat_natCast, e]
     rfl
   (simp only [J3f]; omega)
  intro b2
  try simp only [nrmT] at b2
  rw [h3]
  unfold bagN
  rw [show i.toNat = list.length by omega]
theorem Jbh (list : ZI) (hb : ∀ x ∈ list, 0 ≤ x ∧ x < 62) : PC Tryz.prog 180 [.sl (.ints list)] (.one (.d (.int .u64 ((bagN list : Nat) : Int)))) :=
  pc_wf @Tryz.call180 fun hw => pc_by (by kernel_rfl) Tryz.func180 @Tryz.call180 (by kernel_rfl) Jc8 (Jc1 list) (by kernel_rfl) (Jba list hb hw.1) (by kernel_rfl)
def JaI : List D → Orc := orcN [some .ints] fun ds => match ds with
  | [.sl (.ints list)] => some (.one (.d (.int .u64 ((bagN list : Nat) : Int))))
  | _ => none
def JaL (f : FuncId) (ds : List D) : Orc := .no
def Jak (b : Int) (x : Int) : Ann := .none
def J6y (b : Int) (x : Int) : Prop :=
  ((0 : Int) ≤ b ∧ (b : Int) ≤ 18446744073709551615) ∧ ((0 : Int) ≤ x) ∧ ((0 : Int) ≤ (b / 2 ^ x.toNat) ∧ ((b / 2 ^ x.toNat) : Int) ≤ 18446744073709551615) ∧ ((0 : Int) ≤ 1 ∧ (1 : Int) ≤ 18446744073709551615) ∧ ((((((b / 2 ^ x.toNat).toNat &&& 1 : Nat) : Int) == 1) = (b.toNat.testBit x.toNat)))
theorem J9S (b : Int) (x : Int) (hb : 0 ≤ b ∧ b ≤ 4611686018427387903) (hx : 0 ≤ x)  : J6y b x := by
  unfold J6y
  refine ⟨?_, ?_, ?_, ?_, ?_⟩
  ·omega
  ·omega
  ·have h1 : 0 ≤ b / 2 ^ x.toNat := Int.ediv_nonneg hb.1 (Int.le_of_lt (Int.pow_pos (by omega)))
   have h2 : b / 2 ^ x.toNat ≤ b := Int.ediv_le_self _ hb.1
   omega
  ·omega
  have e : b = ((b.toNat : Nat) : Int) := by omega
  have h := shr_bit (n := b.toNat) (k := x.toNat)
  rw [← e] at h
  rw [h]
  cases b.toNat.testBit x.toNat <;> rfl
theorem J5I (b : Int) (x : Int) (hb : 0 ≤ b ∧ b ≤ 4611686018427387903) (hx : 0 ≤ x) : PC Tryz.prog 138 [.int .u64 b, .int .i64 x] (.one (.d (.bool (b.toNat.testBit x.toNat)))) :=
  pc_wf @Tryz.call138 fun _ => pc_by (by kernel_rfl) Tryz.func138 @Tryz.call138 (by kernel_rfl) JaL (Jak b x) (by kernel_rfl) (J9S b x hb hx) (by kernel_rfl)
def J51 : List D → Orc := orcN [none, none] fun ds => match ds with
  | [.int .u64 b, .int .i64 x] => some (.one (.d (.bool (b.toNat.testBit x.toNat))))
  | _ => none
theorem JC {xs : ZI} {lo hi : Int} (h : J2 xs lo hi = true) : ∀ x ∈ xs, lo ≤ x ∧ x ≤ hi := by
  intro x hx
  obtain ⟨k, hk, rfl⟩ := List.mem_iff_getElem.1 hx
  have := J16 h k hk
  simp [hk] at this
  omega
theorem Jd2 {n : Nat} (h : n ≤ 8) : (2 : Nat) ^ n ≤ 256 := Nat.le_trans (Nat.pow_le_pow_right (by omega) h) (by decide)
abbrev J3e (l : ZI) (n : Int) (k : Int) : Prop := (0 ≤ k) ∧ (k ≤ (l.length : Int)) ∧ (∀ j, j < k.toNat → l.getD j 0 < n)
abbrev J3m (l : ZI) (n : Int) (k : Int) : Nat := (l.length - k).toNat
def Jc5 (f : FuncId) (ds : List D) : Orc := .no
def Jcf (l : ZI) (n : Int) : Ann := .two (.none) (.two (.none) (.two (.loop (cut1 (fun (k : Int) => J3e l n k) (fun (k : Int) => [(0, .d true (.sl (.ints l))), (1, .d false (.int .i64 n)), (5, .d true (.int .i64 k))]) (fun (k : Int) => [])) (fun g => J3m l n g) (fun _ => .none)) (.two (.none) (.two (.reg [(6, .frz)]) (.none)))))
def J8M (l : ZI) (n : Int) : Prop :=
  ((∃ k' : Int, (J3e l n k') ∧ (l = l) ∧ (n = n) ∧ ((0 : Int) = k')) ∧ (∀ k : Int, (J3e l n k) → ((decide (k < (l.length : Int))) = true → (decide (k < (l.length : Int))) = true) ∧ ((decide (k < (l.length : Int))) = true → (decide (k < (l.length : Int))) = true) ∧ (((decide (k < (l.length : Int))) = true → (0 : Int) ≤ k)) ∧ (((decide (k < (l.length : Int))) = true → (k : Int) < l.length)) ∧ ((decide (k < (l.length : Int))) = true → (decide (k < (l.length : Int))) = true) ∧ (((decide (k < (l.length : Int))) = true → k.toNat < l.length)) ∧ ((decide (k < (l.length : Int))) = true → (decide (k < (l.length : Int))) = true) ∧ ((decide (k < (l.length : Int))) = true → (decide (k < (l.length : Int))) = true) ∧ (true = true) ∧ (((decide (k < (l.length : Int))) = true → (decide (k < (l.length : Int))) = true)) ∧ (((decide (k < (l.length : Int))) = false → true = true)) ∧ (((cond (decide (k < (l.length : Int))) (decide ((l.getD k.toNat 0) < n)) false) = true → (I6 (k + 1)) ∧ (∃ k' : Int, (J3e l n k') ∧ (J3m l n k' < J3m l n k) ∧ (l = l) ∧ (n = n) ∧ ((k + 1) = k'))) ∧ ((cond (decide (k < (l.length : Int))) (decide ((l.getD k.toNat 0) < n)) false) = false → ((decide (k < (l.length : Int))) = true → (decide (k < (l.length : Int))) = true) ∧ ((decide (k < (l.length : Int))) = true → (decide (k < (l.length : Int))) = true) ∧ (((decide (k < (l.length : Int))) = true → (0 : Int) ≤ k)) ∧ (((decide (k < (l.length : Int))) = true → (k : Int) < l.length)) ∧ ((decide (k < (l.length : Int))) = true → (decide (k < (l.length : Int))) = true) ∧ (((decide (k < (l.length : Int))) = true → k.toNat < l.length)) ∧ ((decide (k < (l.length : Int))) = true → (decide (k < (l.length : Int))) = true) ∧ ((decide (k < (l.length : Int))) = true → (decide (k < (l.length : Int))) = true) ∧ (true = true) ∧ (((decide (k < (l.length : Int))) = true → (decide (k < (l.length : Int))) = true)) ∧ (((decide (k < (l.length : Int))) = false → true = true)) ∧ (((cond (decide (k < (l.length : Int))) ((l.getD k.toNat 0) == n) false) = true → (((l : ZI) = (putL l n)))) ∧ ((cond (decide (k < (l.length : Int))) ((l.getD k.toNat 0) == n) false) = false → (true = true) ∧ ((0 : Int) ≤ k) ∧ ((k : Int) ≤ l.length) ∧ ((0 : Nat) = 0) ∧ (True) ∧ ((0 + ((l.take k.toNat).drop 0).length) * 8 ≤ 140737488355328) ∧ ((0 + ((l.take k.toNat).drop 0).length) = ([] ++ ((l.take k.toNat).drop 0)).length) ∧ (True) ∧ ((([] ++ ((l.take k.toNat).drop 0)).length + 1) * 8 ≤ 140737488355328) ∧ ((0 : Int) ≤ k) ∧ ((k : Int) ≤ l.length) ∧ (((0 + ((l.take k.toNat).drop 0).length) + 1) = (([] ++ ((l.take k.toNat).drop 0)) ++ [n]).length) ∧ (True) ∧ (((([] ++ ((l.take k.toNat).drop 0)) ++ [n]).length + ((l.take l.length).drop k.toNat).length) * 8 ≤ 140737488355328) ∧ (((((0 + ((l.take k.toNat).drop 0).length) + 1) + ((l.take l.length).drop k.toNat).length) = ((([] ++ ((l.take k.toNat).drop 0)) ++ [n]) ++ ((l.take l.length).drop k.toNat)).length) ∧ ((((([] ++ ((l.take k.toNat).drop 0)) ++ [n]) ++ ((l.take l.length).drop k.toNat)) : ZI) = (putL l n)))))))))
theorem Jbw (l : ZI) (n : Int) (hl : l.length ≤ 1048576) (w_l : (l.length : Int) ≤ 9223372036854775807) : J8M l n := by
  unfold J8M
  refine ⟨?_, ?_⟩
  ·refine ⟨0, ?_⟩
   refine ⟨?_, rfl, rfl, rfl⟩
   ·refine ⟨?_, ?_, ?_⟩
    ·omega
    ·omega
    ·omega
  intro k hJ
  obtain ⟨h1, h2, h3⟩ := hJ
  refine ⟨id, id, ?_, ?_, id, ?_, id, id, rfl, id, fun _ => rfl, ?_, ?_⟩
  ·omega
  ·(intro hg; simp only [nrmT] at hg; omega)
  ·(intro hg; simp only [nrmT] at hg; omega)
  ·intro b1
   refine ⟨?_, ?_⟩
   ·have h5 : k < (l.length : Int) ∧ l.getD k.toNat 0 < n := by
      revert b1; by_cases h : k < (l.length : Int)
      · rw [decide_eq_true h]; intro g; exact ⟨h, by simpa using g⟩
      rw [decide_eq_false h]; intro g; cases g
    omega
   refine ⟨(k + 1), ?_⟩
   refine ⟨?_, ?_, rfl, rfl, rfl⟩
   ·refine ⟨?_, ?_, ?_⟩
    ·omega
    ·have h5 : k < (l.length : Int) ∧ l.getD k.toNat 0 < n := by
       revert b1; by_cases h : k < (l.length : Int)
       · rw [decide_eq_true h]; intro g; exact ⟨h, by simpa using g⟩
       rw [decide_eq_false h]; intro g; cases g
     omega
    ·have h5 : k < (l.length : Int) ∧ l.getD k.toNat 0 < n := by
       revert b1; by_cases h : k < (l.length : Int)
       · rw [decide_eq_true h]; intro g; exact ⟨h, by simpa using g⟩
       rw [decide_eq_false h]; intro g; cases g
     intro j hj
     by_cases e : j = k.toNat
     · rw [e]; exact h5.2
     exact h3 j (by omega)
   have h5 : k < (l.length : Int) ∧ l.getD k.toNat 0 < n := by
     revert b1; by_cases h : k < (l.length : Int)
     · rw [decide_eq_true h]; intro g; exact ⟨h, by simpa using g⟩
     rw [decide_eq_false h]; intro g; cases g
   (simp only [J3m]; omega)
  intro b2
  refine ⟨id, id, ?_, ?_, id, ?_, id, id, rfl, id, fun _ => rfl, ?_, ?_⟩
  ·omega
  ·(intro hg; simp only [nrmT] at hg; omega)
  ·(intro hg; simp only [nrmT] at hg; omega)
  ·intro b3
   have h6 : k.toNat < l.length → ¬ l.getD k.toNat 0 < n := by
     intro g1 g2
     rw [decide_eq_true (show k < (l.length : Int) by omega), decide_eq_true g2] at b2
     cases b2
   have h7 : k < (l.length : Int) ∧ l.getD k.toNat 0 = n := by
     revert b3; by_cases h : k < (l.length : Int)
     · rw [decide_eq_true h]; intro g; exact ⟨h, by simpa using g⟩
     rw [decide_eq_false h]; intro g; cases g
   rw [putL_at l n k.toNat (by omega) h3 h6, if_pos ⟨by omega, h7.2⟩]
  intro b4
  refine ⟨rfl, ?_, ?_, rfl, trivial, ?_, ?_, trivial, ?_, ?_, ?_, ?_, trivial, ?_, ?_, ?_⟩
  ·omega
  ·omega
  ·(simp only [List.length_append, List.length_take, List.length_drop, List.length_cons, List.length_nil]; omega)
  ·(simp only [List.length_append, List.length_take, List.length_drop, List.length_cons, List.length_nil]; done)
  ·(simp only [List.length_append, List.length_take, List.length_drop, List.length_cons, List.length_nil]; omega)
  ·omega
  ·omega
  ·(simp only [List.length_append, List.length_take, List.length_drop, List.length_cons, List.length_nil]; done)
  ·(simp only [List.length_append, List.length_take, List.length_drop, List.length_cons, List.length_nil]; omega)
  ·(simp only [List.length_append, List.length_take, List.length_drop, List.length_cons, List.length_nil]; done)
  have h6 : k.toNat < l.length → ¬ l.getD k.toNat 0 < n := by
    intro g1 g2
    rw [decide_eq_true (show k < (l.length : Int) by omega), decide_eq_true g2] at b2
    cases b2
  have h7 : ¬ (k.toNat < l.length ∧ l.getD k.toNat 0 = n) := by
    rintro ⟨g1, g2⟩
    rw [decide_eq_true (show k < (l.length : Int) by omega), g2] at b4
    simp at b4
  rw [putL_at l n k.toNat (by omega) h3 h6, if_neg h7]
  simp
theorem JbA (l : ZI) (n : Int) (hl : l.length ≤ 1048576) : PCs Tryz.prog 140 [.sl (.ints l), .int .i64 n] 0 (.sl (.ints (putL l n))) :=
  pcs_wf @Tryz.call140 fun hw => pcs_by (by kernel_rfl) Tryz.func140 @Tryz.call140 (by kernel_rfl) Jc5 (Jcf l n) (by kernel_rfl) (Jbw l n hl hw.1) (by kernel_rfl)
def Jal : List D → Orc := orcS 0 fun ds => match ds with
  | [.sl (.ints l), .int .i64 n] => some (.sl (.ints (putL l n)))
  | _ => none
theorem JZ {α : Type} {xs : List α} {k : Nat} {d : α} (h : k < xs.length) : xs.getD k d = xs[k] := by simp [h]
abbrev JY (xs : ZI) (x : Int) (i : Int) : Prop := (0 ≤ i) ∧ (i ≤ (xs.length : Int)) ∧ (∀ k, k < i.toNat → (fun y => x == y) (xs.getD k 0) = false)
abbrev JX (xs : ZI) (x : Int) (i : Int) : Nat := (xs.length - i).toNat
def J4n (f : FuncId) (ds : List D) : Orc := .no
def J4o (xs : ZI) (x : Int) : Ann := .two (.none) (.two (.two (.none) (.loop (cut1 (fun (i : Int) => JY xs x i) (fun (i : Int) => [(0, .d false (.sl (.ints xs))), (1, .d false (.int .i64 x)), (7, .d true (.int .i64 (xs.length : Int))), (8, .d true (.int .i64 i))]) (fun (i : Int) => [])) (fun g => JX xs x g) (fun _ => .none))) (.none))
def J1X (xs : ZI) (x : Int) : Prop :=
  ((∃ i' : Int, (JY xs x i') ∧ (xs = xs) ∧ (x = x) ∧ ((xs.length : Int) = (xs.length : Int)) ∧ ((0 : Int) = i')) ∧ (∀ i : Int, (JY xs x i) → (((decide (i < (xs.length : Int))) = true → ((0 : Int) ≤ i) ∧ ((i : Int) < xs.length) ∧ (i.toNat < xs.length) ∧ (((x == (xs.getD i.toNat 0)) = true → ((i = (idxI (fun y => x == y) xs)))) ∧ ((x == (xs.getD i.toNat 0)) = false → (I6 (i + 1)) ∧ (∃ i' : Int, (JY xs x i') ∧ (JX xs x i' < JX xs x i) ∧ (xs = xs) ∧ (x = x) ∧ ((xs.length : Int) = (xs.length : Int)) ∧ ((i + 1) = i'))))) ∧ ((decide (i < (xs.length : Int))) = false → ((((-1) : Int) = (idxI (fun y => x == y) xs)))))))
theorem J3W (xs : ZI) (x : Int)  (w_xs : (xs.length : Int) ≤ 9223372036854775807) : J1X xs x := by
  unfold J1X
  refine ⟨?_, ?_⟩
  ·refine ⟨0, ?_⟩
   refine ⟨?_, rfl, rfl, rfl, rfl⟩
   ·refine ⟨?_, ?_, ?_⟩
    ·omega
    ·omega
    ·omega
  intro i hJ
  obtain ⟨h1, h2, h3⟩ := hJ
  refine ⟨?_, ?_⟩
  ·intro b1
   try simp only [nrmT] at b1
   refine ⟨?_, ?_, ?_, ?_, ?_⟩
   ·omega
   ·omega
   ·omega
   ·intro b2
    try simp only [nrmT] at b2
    exact idx_found (p := fun y => x == y) h1 b1 h3 (by simpa using b2)
   intro b3
   try simp only [nrmT] at b3
   refine ⟨?_, ?_⟩
   ·omega
   refine ⟨(i + 1), ?_⟩
   refine ⟨?_, ?_, rfl, rfl, rfl, rfl⟩
   ·refine ⟨?_, ?_, ?_⟩
    ·omega
    ·omega
    ·exact idx_step (p := fun y => x == y) h1 h3 (by simpa using b3)
   (simp only [JX]; omega)
  intro b4
  try simp only [nrmT] at b4
  exact (idx_none (by omega) h3).symm
theorem J4f (xs : ZI) (x : Int)  : PC Tryz.prog 152 [.sl (.ints xs), .int .i64 x] (.one (.d (.int .i64 (idxI (fun y => x == y) xs)))) :=
  pc_wf @Tryz.call152 fun hw => pc_by (by kernel_rfl) Tryz.func152 @Tryz.call152 (by kernel_rfl) J4n (J4o xs x) (by kernel_rfl) (J3W xs x hw.1) (by kernel_rfl)
def J3S : List D → Orc := orcN [some .ints, none] fun ds => match ds with
  | [.sl (.ints xs), .int .i64 x] => some (.one (.d (.int .i64 (idxI (fun y => x == y) xs))))
  | _ => none
def J3z (f : FuncId) (ds : List D) : Orc := bif Nat.beq f 152 then J3S ds else .no
def J3y (xs : ZI) (x : Int) : Ann := .none
def J1g (xs : ZI) (x : Int) : Prop :=
  (PC Tryz.prog 152 [.sl (.ints xs), .int .i64 x] (.one (.d (.int .i64 (idxI (fun y => x == y) xs))))) ∧ (((decide ((idxI (fun y => x == y) xs) ≥ 0)) = (xs.contains x)))
theorem J3s (xs : ZI) (x : Int)  (w_xs : (xs.length : Int) ≤ 9223372036854775807) : J1g xs x := by
  unfold J1g
  refine ⟨J4f xs x, ?_⟩
  ·rw [idx_any, List.contains_eq_any_beq]
theorem J06 (xs : ZI) (x : Int)  : PC Tryz.prog 131 [.sl (.ints xs), .int .i64 x] (.one (.d (.bool (xs.contains x)))) :=
  pc_wf @Tryz.call131 fun hw => pc_by (by kernel_rfl) Tryz.func131 @Tryz.call131 (by kernel_rfl) J3z (J3y xs x) (by kernel_rfl) (J3s xs x hw.1) (by kernel_rfl)
def J13 : List D → Orc := orcN [some .ints, none] fun ds => match ds with
  | [.sl (.ints xs), .int .i64 x] => some (.one (.d (.bool (xs.contains x))))
  | _ => none
theorem JcG {xs : ZI} {x i : Int} (h2 : (xs.length : Int) ≤ i) (h3 : ∀ k, k < i.toNat → (fun y => x == y) (xs.getD k 0) = false) : xs.contains x = false := by
  rw [List.contains_eq_any_beq, List.any_eq_false]
  intro y hy
  obtain ⟨k, hk, rfl⟩ := List.mem_iff_getElem.1 hy
  have := h3 k (by omega)
  simp [hk] at this
  simpa using this
theorem JbU {xs : ZI} {x i : Int} (h1 : 0 ≤ i) (h2 : i < (xs.length : Int)) (h : xs.getD i.toNat 0 = x) : xs.contains x = true := by
  rw [List.contains_iff_mem, ← h]; exact getD_memI h1 h2
abbrev J3j (xs : ZI) (x : Int) (i : Int) : Prop := (0 ≤ i) ∧ (i ≤ (xs.length : Int)) ∧ (∀ k, k < i.toNat → (fun y => x == y) (xs.getD k 0) = false)
abbrev J3i (xs : ZI) (x : Int) (i : Int) : Nat := (xs.length - i).toNat
def JbN (f : FuncId) (ds : List D) : Orc := .no
def JbL (xs : ZI) (x : Int) : Ann := .two (.none) (.two (.two (.none) (.loop (cut1 (fun (i : Int) => J3j xs x i) (fun (i : Int) => [(0, .d false (.sl (.ints xs))), (1, .d false (.int .i64 x)), (5, .d true (.int .i64 i))]) (fun (i : Int) => [])) (fun g => J3i xs x g) (fun _ => .none))) (.none))
def J8R (xs : ZI) (x : Int) : Prop :=
  ((∃ i' : Int, (J3j xs x i') ∧ (xs = xs) ∧ (x = x) ∧ ((0 : Int) = i')) ∧ (∀ i : Int, (J3j xs x i) → (((decide (i < (xs.length : Int))) = true → ((0 : Int) ≤ i) ∧ ((i : Int) < xs.length) ∧ (i.toNat < xs.length) ∧ ((((xs.getD i.toNat 0) == x) = true → ((true = (xs.contains x)))) ∧ (((xs.getD i.toNat 0) == x) = false → (I6 (i + 1)) ∧ (∃ i' : Int, (J3j xs x i') ∧ (J3i xs x i' < J3i xs x i) ∧ (xs = xs) ∧ (x = x) ∧ ((i + 1) = i'))))) ∧ ((decide (i < (xs.length : Int))) = false → ((false = (xs.contains x)))))))
theorem Jbu (xs : ZI) (x : Int)  (w_xs : (xs.length : Int) ≤ 9223372036854775807) : J8R xs x := by
  unfold J8R
  refine ⟨?_, ?_⟩
  ·refine ⟨0, ?_⟩
   refine ⟨?_, rfl, rfl, rfl⟩
   ·refine ⟨?_, ?_, ?_⟩
    ·omega
    ·omega
    ·omega
  intro i hJ
  obtain ⟨h1, h2, h3⟩ := hJ
  refine ⟨?_, ?_⟩
  ·intro b1
   try simp only [nrmT] at b1
   refine ⟨?_, ?_, ?_, ?_, ?_⟩
   ·omega
   ·omega
   ·omega
   ·intro b2
    try simp only [nrmT] at b2
    exact (JbU h1 b1 b2).symm
   intro b3
   try simp only [nrmT] at b3
   refine ⟨?_, ?_⟩
   ·omega
   refine ⟨(i + 1), ?_⟩
   refine ⟨?_, ?_, rfl, rfl, rfl⟩
   ·refine ⟨?_, ?_, ?_⟩
    ·omega
    ·omega
    ·exact idx_step (p := fun y => x == y) h1 h3 (by simp only [beq_eq_false_iff_ne]; exact fun h => b3 h.symm)
   (simp only [J3i]; omega)
  intro b4
  try simp only [nrmT] at b4
  exact (JcG (by omega) h3).symm
theorem J4V (xs : ZI) (x : Int)  : PC Tryz.prog 128 [.sl (.ints xs), .int .i64 x] (.one (.d (.bool (xs.contains x)))) :=
  pc_wf @Tryz.call128 fun hw => pc_by (by kernel_rfl) Tryz.func128 @Tryz.call128 (by kernel_rfl) JbN (JbL xs x) (by kernel_rfl) (Jbu xs x hw.1) (by kernel_rfl)
def J6u : List D → Orc := orcN [some .ints, none] fun ds => match ds with
  | [.sl (.ints xs), .int .i64 x] => some (.one (.d (.bool (xs.contains x))))
  | _ => none
def JbY (f : FuncId) (ds : List D) : Orc := bif Nat.beq f 164 then J8t ds else .no
def Jca (U : ZI) (E : ZR) (set : ZI) : Ann := .none
def J8X (U : ZI) (E : ZR) (set : ZI) : Prop :=
  (I6 ((U.length : Int) - 1)) ∧ (PC Tryz.prog 164 [.sl (.ints set), .int .i64 0, .int .i64 ((U.length : Int) - 1)] (.one (.d (.bool (J2 set 0 ((U.length : Int) - 1)))))) ∧ (((J2 set 0 ((U.length : Int) - 1)) = (J2 set 0 ((U.length : Int) - 1))))
theorem Jbg (U : ZI) (E : ZR) (set : ZI)  (w_Open : (U.length : Int) ≤ 9223372036854775807) (w_Dist : (E.length : Int) ≤ 9223372036854775807) (v_Dist : ∀ x9 ∈ E, (x9.length : Int) ≤ 9223372036854775807) (w_set : (set.length : Int) ≤ 9223372036854775807) : J8X U E set := by
  unfold J8X
  refine ⟨?_, J99 set 0 ((U.length : Int) - 1), rfl⟩
  ·omega
theorem Jb9 (U : ZI) (E : ZR) (set : ZI)  : PC Tryz.prog 206 [.agg [.sl (.ints U), .sl (.rows E)], .sl (.ints set)] (.one (.d (.bool (J2 set 0 ((U.length : Int) - 1))))) :=
  pc_wf @Tryz.call206 fun hw => pc_by (by kernel_rfl) Tryz.func206 @Tryz.call206 (by kernel_rfl) JbY (Jca U E set) (by kernel_rfl) (Jbg U E set hw.1.1 hw.1.2.1.1 hw.1.2.1.2 hw.2.1) (by kernel_rfl)
def Jam : List D → Orc := orcN [none, some .ints] fun ds => match ds with
  | [.agg [.sl (.ints U), .sl (.rows E)], .sl (.ints set)] => some (.one (.d (.bool (J2 set 0 ((U.length : Int) - 1)))))
  | _ => none
def JbW (f : FuncId) (ds : List D) : Orc := bif Nat.beq f 112 then Ja3 ds else bif Nat.beq f 206 then Jam ds else .no
def JbP (U : ZI) (E : ZR) (set : ZI) : Ann := .none
def J8Y (U : ZI) (E : ZR) (set : ZI) : Prop :=
  (PC Tryz.prog 112 [.agg [.sl (.ints U), .sl (.rows E)]] (.one (.d (.bool (J0 U E))))) ∧ ((J0 U E) = true → (J0 U E) = true) ∧ ((J0 U E) = true → (J0 U E) = true) ∧ ((J0 U E) = true → PC Tryz.prog 206 [.agg [.sl (.ints U), .sl (.rows E)], .sl (.ints set)] (.one (.d (.bool (J2 set 0 ((U.length : Int) - 1)))))) ∧ (true = true) ∧ (((J0 U E) = true → (J0 U E) = true)) ∧ (((J0 U E) = false → true = true)) ∧ ((cond (J0 U E) (J2 set 0 ((U.length : Int) - 1)) false) = true → (cond (J0 U E) (J2 set 0 ((U.length : Int) - 1)) false) = true) ∧ ((cond (J0 U E) (J2 set 0 ((U.length : Int) - 1)) false) = true → (cond (J0 U E) (J2 set 0 ((U.length : Int) - 1)) false) = true) ∧ (true = true) ∧ (((cond (J0 U E) (J2 set 0 ((U.length : Int) - 1)) false) = true → (cond (J0 U E) (J2 set 0 ((U.length : Int) - 1)) false) = true)) ∧ (((cond (J0 U E) (J2 set 0 ((U.length : Int) - 1)) false) = false → true = true)) ∧ (((cond (cond (J0 U E) (J2 set 0 ((U.length : Int) - 1)) false) (decide ((set.length : Int) > 0)) false) = (J0 U E && J2 set 0 ((U.length : Int) - 1) && decide (0 < set.length))))
theorem Jby (U : ZI) (E : ZR) (set : ZI)  (w_Open : (U.length : Int) ≤ 9223372036854775807) (w_Dist : (E.length : Int) ≤ 9223372036854775807) (v_Dist : ∀ x9 ∈ E, (x9.length : Int) ≤ 9223372036854775807) (w_set : (set.length : Int) ≤ 9223372036854775807) : J8Y U E set := by
  unfold J8Y
  refine ⟨Jap U E, id, id, fun _ => Jb9 U E set, rfl, id, fun _ => rfl, id, id, rfl, id, fun _ => rfl, ?_⟩
  ·rw [(show decide ((set.length : Int) > 0) = decide (0 < set.length) by rw [Bool.eq_iff_iff]; simp only [decide_eq_true_eq]; omega)]
   cases J0 U E <;> cases J2 set 0 ((U.length : Int) - 1) <;> cases decide (0 < set.length) <;> rfl
theorem J3K (U : ZI) (E : ZR) (set : ZI)  : PC Tryz.prog 120 [.agg [.sl (.ints U), .sl (.rows E)], .sl (.ints set)] (.one (.d (.bool (J0 U E && J2 set 0 ((U.length : Int) - 1) && decide (0 < set.length))))) :=
  pc_wf @Tryz.call120 fun hw => pc_by (by kernel_rfl) Tryz.func120 @Tryz.call120 (by kernel_rfl) JbW (JbP U E set) (by kernel_rfl) (Jby U E set hw.1.1 hw.1.2.1.1 hw.1.2.1.2 hw.2.1) (by kernel_rfl)
def J3d : List D → Orc := orcN [none, some .ints] fun ds => match ds with
  | [.agg [.sl (.ints U), .sl (.rows E)], .sl (.ints set)] => some (.one (.d (.bool (J0 U E && J2 set 0 ((U.length : Int) - 1) && decide (0 < set.length)))))
  | _ => none
def J7V (f : FuncId) (ds : List D) : Orc := bif Nat.beq f 162 then J85 ds else .no
def J7I (U : ZI) (E : ZR) (set : ZI) : Ann := .none
def J4u (U : ZI) (E : ZR) (set : ZI) : Prop :=
  ((decide ((set.length : Int) > 0)) = true → (decide ((set.length : Int) > 0)) = true) ∧ ((decide ((set.length : Int) > 0)) = true → (decide ((set.length : Int) > 0)) = true) ∧ ((decide ((set.length : Int) > 0)) = true → (decide ((set.length : Int) > 0)) = true) ∧ ((decide ((set.length : Int) > 0)) = true → (decide ((set.length : Int) > 0)) = true) ∧ ((decide ((set.length : Int) > 0)) = true → PC Tryz.prog 162 [.sl (.ints set), .int .i64 (U.length : Int)] (.one (.d (.bool (J2 set 0 ((U.length : Int) - 1)))))) ∧ (true = true) ∧ (((decide ((set.length : Int) > 0)) = true → (decide ((set.length : Int) > 0)) = true)) ∧ (((decide ((set.length : Int) > 0)) = false → true = true)) ∧ (((cond (decide ((set.length : Int) > 0)) (J2 set 0 ((U.length : Int) - 1)) false) = (J2 set 0 ((U.length : Int) - 1) && decide (0 < set.length))))
theorem J70 (U : ZI) (E : ZR) (set : ZI)  (w_Open : (U.length : Int) ≤ 9223372036854775807) (w_Dist : (E.length : Int) ≤ 9223372036854775807) (v_Dist : ∀ x9 ∈ E, (x9.length : Int) ≤ 9223372036854775807) (w_set : (set.length : Int) ≤ 9223372036854775807) : J4u U E set := by
  unfold J4u
  refine ⟨id, id, id, id, ?_, rfl, id, fun _ => rfl, ?_⟩
  ·intro hg
   refine J9z set (U.length : Int) ?_
   ·omega
  rw [(show decide ((set.length : Int) > 0) = decide (0 < set.length) by rw [Bool.eq_iff_iff]; simp only [decide_eq_true_eq]; omega)]
  cases J2 set 0 ((U.length : Int) - 1) <;> cases decide (0 < set.length) <;> rfl
theorem J7d (U : ZI) (E : ZR) (set : ZI)  : PC Tryz.prog 203 [.agg [.sl (.ints U), .sl (.rows E)], .sl (.ints set)] (.one (.d (.bool (J2 set 0 ((U.length : Int) - 1) && decide (0 < set.length))))) :=
  pc_wf @Tryz.call203 fun hw => pc_by (by kernel_rfl) Tryz.func203 @Tryz.call203 (by kernel_rfl) J7V (J7I U E set) (by kernel_rfl) (J70 U E set hw.1.1 hw.1.2.1.1 hw.1.2.1.2 hw.2.1) (by kernel_rfl)
def J6c : List D → Orc := orcN [none, some .ints] fun ds => match ds with
  | [.agg [.sl (.ints U), .sl (.rows E)], .sl (.ints set)] => some (.one (.d (.bool (J2 set 0 ((U.length : Int) - 1) && decide (0 < set.length)))))
  | _ => none
def Ja1 (f : FuncId) (ds : List D) : Orc := bif Nat.beq f 111 then J3x ds else bif Nat.beq f 203 then J6c ds else .no
def J9D (U : ZI) (E : ZR) (set : ZI) : Ann := .none
def J5w (U : ZI) (E : ZR) (set : ZI) : Prop :=
  (PC Tryz.prog 111 [.agg [.sl (.ints U), .sl (.rows E)]] (.one (.d (.bool (J0 U E))))) ∧ ((J0 U E) = true → (J0 U E) = true) ∧ ((J0 U E) = true → (J0 U E) = true) ∧ ((J0 U E) = true → PC Tryz.prog 203 [.agg [.sl (.ints U), .sl (.rows E)], .sl (.ints set)] (.one (.d (.bool (J2 set 0 ((U.length : Int) - 1) && decide (0 < set.length)))))) ∧ (true = true) ∧ (((J0 U E) = true → (J0 U E) = true)) ∧ (((J0 U E) = false → true = true)) ∧ (((cond (J0 U E) (J2 set 0 ((U.length : Int) - 1) && decide (0 < set.length)) false) = (J0 U E && J2 set 0 ((U.length : Int) - 1) && decide (0 < set.length))))
theorem J9f (U : ZI) (E : ZR) (set : ZI)  (w_Open : (U.length : Int) ≤ 9223372036854775807) (w_Dist : (E.length : Int) ≤ 9223372036854775807) (v_Dist : ∀ x9 ∈ E, (x9.length : Int) ≤ 9223372036854775807) (w_set : (set.length : Int) ≤ 9223372036854775807) : J5w U E set := by
  unfold J5w
  refine ⟨J46 U E, id, id, fun _ => J7d U E set, rfl, id, fun _ => rfl, ?_⟩
  ·cases J0 U E <;> cases J2 set 0 ((U.length : Int) - 1) <;> cases decide (0 < set.length) <;> rfl
theorem J1i (U : ZI) (E : ZR) (set : ZI)  : PC Tryz.prog 113 [.agg [.sl (.ints U), .sl (.rows E)], .sl (.ints set)] (.one (.d (.bool (J0 U E && J2 set 0 ((U.length : Int) - 1) && decide (0 < set.length))))) :=
  pc_wf @Tryz.call113 fun hw => pc_by (by kernel_rfl) Tryz.func113 @Tryz.call113 (by kernel_rfl) Ja1 (J9D U E set) (by kernel_rfl) (J9f U E set hw.1.1 hw.1.2.1.1 hw.1.2.1.2 hw.2.1) (by kernel_rfl)
def J0Z : List D → Orc := orcN [none, some .ints] fun ds => match ds with
  | [.agg [.sl (.ints U), .sl (.rows E)], .sl (.ints set)] => some (.one (.d (.bool (J0 U E && J2 set 0 ((U.length : Int) - 1) && decide (0 < set.length)))))
  | _ => none
theorem J7 {U set : ZI} {E : ZR} (h : (J0 U E && J2 set 0 ((U.length : Int) - 1) && decide (0 < set.length)) = true) :
    J0 U E = true ∧ J2 set 0 ((U.length : Int) - 1) = true ∧ 0 < set.length := by
  simp only [Bool.and_eq_true, decide_eq_true_eq] at h
  exact ⟨h.1.1, h.1.2, h.2⟩
theorem J5G {b x : Int} (hb : 0 ≤ b ∧ b ≤ 4611686018427387903) (h2 : x ≤ 62) (h : 0 < b / 2 ^ x.toNat) : x < 62 := by
  by_cases e : x = 62
  · subst e
    have e2 : (2 : Int) ^ (62 : Int).toNat = 4611686018427387904 := by decide
    rw [e2] at h
    omega
  omega
theorem JaX {b : Int} {m : Nat} (hb : 0 ≤ b) (h : ¬ 0 < b / 2 ^ m) (k : Nat) (hk : m ≤ k) : b.toNat.testBit k = false := by
  have h1 : b.toNat / 2 ^ m = 0 := by
    have h2 : ((b.toNat / 2 ^ m : Nat) : Int) = b / 2 ^ m := by
      rw [Int.natCast_ediv, Int.toNat_of_nonneg hb]; simp
    have h3 : (0 : Int) ≤ ((b.toNat / 2 ^ m : Nat) : Int) := Int.natCast_nonneg _
    omega
  have h4 : b.toNat < 2 ^ m := (Nat.div_eq_zero_iff_lt (Nat.two_pow_pos m)).1 h1
  exact Nat.testBit_lt_two_pow (Nat.lt_of_lt_of_le h4 (Nat.pow_le_pow_right (by omega) hk))
theorem J1y {p : Nat → Bool} {m : Nat} (h : ∀ k, m ≤ k → p k = false) : ∀ n, m ≤ n → members p n = members p m
  | 0, hn => by have : m = 0 := by omega
                rw [this]
  | n + 1, hn => by
    by_cases e : m = n + 1
    · rw [e]
    rw [members_succ, J1y h n (by omega), h n (by omega)]; simp
abbrev J15 (b : Int) (out : ZI) (x : Int) : Prop := (0 ≤ x) ∧ (x ≤ 62) ∧ (out = members (fun k => b.toNat.testBit k) x.toNat)
abbrev J03 (b : Int) (out : ZI) (x : Int) : Nat := (62 - x).toNat
def Jad (f : FuncId) (ds : List D) : Orc := bif Nat.beq f 138 then J51 ds else .no
def Ja4 (b : Int) : Ann := .two (.none) (.two (.none) (.two (.two (.none) (.loop (cut2 (fun (out : ZI) (x : Int) => J15 b out x) (fun (out : ZI) (x : Int) => [(0, .d false (.int .u64 b)), (3, .own 1000000 out.length), (4, .d true (.int .i64 x))]) (fun (out : ZI) (x : Int) => [(1000000, .arr true 3 (.ints out))])) (fun g => J03 b g.1 g.2) (fun _ => .none))) (.none)))
def J5O (b : Int) : Prop :=
  ((∃ out' : ZI, ∃ x' : Int, (J15 b out' x') ∧ (b = b) ∧ ((0 : Nat) = out'.length) ∧ ((0 : Int) = x') ∧ ([] = out')) ∧ (∀ out : ZI, ∀ x : Int, (J15 b out x) → ((0 : Int) ≤ b ∧ (b : Int) ≤ 18446744073709551615) ∧ ((0 : Int) ≤ x) ∧ (((decide ((b / 2 ^ x.toNat) > 0)) = true → (PC Tryz.prog 138 [.int .u64 b, .int .i64 x] (.one (.d (.bool (b.toNat.testBit x.toNat))))) ∧ (((b.toNat.testBit x.toNat) = true → (out.length = out.length) ∧ ((1 : Nat) = 1) ∧ ((out.length + 1) * 8 ≤ 140737488355328) ∧ (I6 (x + 1)) ∧ (∃ out' : ZI, ∃ x' : Int, (J15 b out' x') ∧ (J03 b out' x' < J03 b out x) ∧ (b = b) ∧ ((out.length + 1) = out'.length) ∧ ((x + 1) = x') ∧ ((out ++ [x]) = out'))) ∧ ((b.toNat.testBit x.toNat) = false → (I6 (x + 1)) ∧ (∃ out' : ZI, ∃ x' : Int, (J15 b out' x') ∧ (J03 b out' x' < J03 b out x) ∧ (b = b) ∧ (out.length = out'.length) ∧ ((x + 1) = x') ∧ (out = out'))))) ∧ ((decide ((b / 2 ^ x.toNat) > 0)) = false → ((out.length = out.length) ∧ ((out : ZI) = members (fun k => b.toNat.testBit k) 62))))))
theorem J9p (b : Int) (hb : 0 ≤ b ∧ b ≤ 4611686018427387903)  : J5O b := by
  unfold J5O
  refine ⟨?_, ?_⟩
  ·refine ⟨([]), 0, ?_⟩
   refine ⟨?_, rfl, rfl, rfl, ?_⟩
   ·refine ⟨?_, ?_, ?_⟩
    ·omega
    ·omega
    ·rfl
   rfl
  intro out x hJ
  obtain ⟨h1, h2, h3⟩ := hJ
  refine ⟨?_, ?_, ?_, ?_⟩
  ·omega
  ·omega
  ·intro b1
   try simp only [nrmT] at b1
   refine ⟨?_, ?_, ?_⟩
   ·refine J5I b x ?_ ?_
    ·omega
    ·omega
   ·intro b2
    try simp only [nrmT] at b2
    refine ⟨rfl, rfl, ?_, ?_, ?_⟩
    ·rw [h3]; have := members_len_le (fun k => b.toNat.testBit k) x.toNat; omega
    ·omega
    refine ⟨(out ++ [x]), (x + 1), ?_⟩
    refine ⟨?_, ?_, rfl, ?_, rfl, rfl⟩
    ·refine ⟨?_, ?_, ?_⟩
     ·omega
     ·have := J5G hb h2 b1; omega
     ·rw [h3, show (x + 1).toNat = x.toNat + 1 by omega, members_succ, b2]; simp; try omega
    ·have := J5G hb h2 b1
     (simp only [J03]; omega)
    (simp_all; done)
   intro b3
   try simp only [nrmT] at b3
   refine ⟨?_, ?_⟩
   ·omega
   refine ⟨out, (x + 1), ?_⟩
   refine ⟨?_, ?_, rfl, rfl, rfl, rfl⟩
   ·refine ⟨?_, ?_, ?_⟩
    ·omega
    ·have := J5G hb h2 b1; omega
    ·rw [h3, show (x + 1).toNat = x.toNat + 1 by omega, members_succ, b3]; simp; try omega
   have := J5G hb h2 b1
   (simp only [J03]; omega)
  intro b4
  try simp only [nrmT] at b4
  refine ⟨rfl, ?_⟩
  ·rw [h3]; refine (J1y (fun k hk => JaX hb.1 (m := x.toNat) (by omega) k hk) 62 (by omega)).symm
theorem J9A (b : Int) (hb : 0 ≤ b ∧ b ≤ 4611686018427387903) : PC Tryz.prog 139 [.int .u64 b] (.one (.own 3 (.ints (members (fun k => b.toNat.testBit k) 62)))) :=
  pc_wf @Tryz.call139 fun _ => pc_by (by kernel_rfl) Tryz.func139 @Tryz.call139 (by kernel_rfl) Jad (Ja4 b) (by kernel_rfl) (J9p b hb) (by kernel_rfl)
def J8r : List D → Orc := orcN [none] fun ds => match ds with
  | [.int .u64 b] => some (.one (.own 3 (.ints (members (fun k => b.toNat.testBit k) 62))))
  | _ => none
def J2R (row set : ZI) (b : Int) (k : Nat) : Int := if row.getD (set.getD k 0).toNat 0 < row.getD b.toNat 0 then set.getD k 0 else b
def Ji (row set : ZI) (k : Nat) : Int := foldTo (J2R row set) (set.getD 0 0) k
theorem Jbo (row set : ZI) : Ji row set 1 = set.getD 0 0 := by
  show J2R row set (set.getD 0 0) 0 = _
  unfold J2R; split <;> rfl
theorem J0R (row set : ZI) (k : Nat) : Ji row set (k + 1) = J2R row set (Ji row set k) k := rfl
theorem J1B {row set : ZI} {n : Int} (h : ∀ k, k < set.length → 0 ≤ set.getD k 0 ∧ set.getD k 0 < n) (hp : 0 < set.length) : ∀ k, k ≤ set.length → 0 ≤ Ji row set k ∧ Ji row set k < n
  | 0, _ => h 0 hp
  | k + 1, hk => by
    rw [J0R]
    unfold J2R
    split
    · exact h k (by omega)
    exact J1B h hp k (by omega)
abbrev J1A (U : ZI) (E : ZR) (client : Int) (set : ZI) (best : Int) (k : Int) : Prop := (1 ≤ k) ∧ (k ≤ (set.length : Int)) ∧ (best = Ji (E.getD client.toNat []) set k.toNat)
abbrev J0v (U : ZI) (E : ZR) (client : Int) (set : ZI) (best : Int) (k : Int) : Nat := (set.length - k).toNat
def Jbe (f : FuncId) (ds : List D) : Orc := .no
def Jbm (U : ZI) (E : ZR) (client : Int) (set : ZI) : Ann := .two (.none) (.two (.none) (.two (.two (.none) (.loop (cut2 (fun (best : Int) (k : Int) => J1A U E client set best k) (fun (best : Int) (k : Int) => [(1, .d false (.int .i64 client)), (2, .d false (.sl (.ints set))), (3, .ptr 3 0), (7, .d true (.int .i64 best)), (8, .d true (.int .i64 k))]) (fun (best : Int) (k : Int) => [(3, .box 27 [.d false (.sl (.ints U)), .d false (.sl (.rows E))])])) (fun g => J0v U E client set g.1 g.2) (fun _ => .none))) (.none)))
def J7Y (U : ZI) (E : ZR) (client : Int) (set : ZI) : Prop :=
  ((0 : Int) ≤ 0) ∧ ((0 : Int) < set.length) ∧ (0 < set.length) ∧ ((∃ best' : Int, ∃ k' : Int, (J1A U E client set best' k') ∧ (client = client) ∧ (set = set) ∧ ((set.getD 0 0) = best') ∧ ((1 : Int) = k') ∧ (U = U) ∧ (E = E)) ∧ (∀ best : Int, ∀ k : Int, (J1A U E client set best k) → (((decide (k < (set.length : Int))) = true → (true = true) ∧ ((0 : Int) ≤ client) ∧ ((client : Int) < E.length) ∧ (client.toNat < E.length) ∧ ((0 : Int) ≤ k) ∧ ((k : Int) < set.length) ∧ (k.toNat < set.length) ∧ ((0 : Int) ≤ (set.getD k.toNat 0)) ∧ (((set.getD k.toNat 0) : Int) < (E.getD client.toNat []).length) ∧ ((set.getD k.toNat 0).toNat < (E.getD client.toNat []).length) ∧ ((0 : Int) ≤ client) ∧ ((client : Int) < E.length) ∧ (client.toNat < E.length) ∧ ((0 : Int) ≤ best) ∧ ((best : Int) < (E.getD client.toNat []).length) ∧ (best.toNat < (E.getD client.toNat []).length) ∧ (((decide (((E.getD client.toNat []).getD ((set.getD k.toNat 0).toNat) 0) < ((E.getD client.toNat []).getD best.toNat 0))) = true → ((0 : Int) ≤ k) ∧ ((k : Int) < set.length) ∧ (k.toNat < set.length) ∧ (I6 (k + 1)) ∧ (∃ best' : Int, ∃ k' : Int, (J1A U E client set best' k') ∧ (J0v U E client set best' k' < J0v U E client set best k) ∧ (client = client) ∧ (set = set) ∧ ((set.getD k.toNat 0) = best') ∧ ((k + 1) = k') ∧ (U = U) ∧ (E = E))) ∧ ((decide (((E.getD client.toNat []).getD ((set.getD k.toNat 0).toNat) 0) < ((E.getD client.toNat []).getD best.toNat 0))) = false → (I6 (k + 1)) ∧ (∃ best' : Int, ∃ k' : Int, (J1A U E client set best' k') ∧ (J0v U E client set best' k' < J0v U E client set best k) ∧ (client = client) ∧ (set = set) ∧ (best = best') ∧ ((k + 1) = k') ∧ (U = U) ∧ (E = E))))) ∧ ((decide (k < (set.length : Int))) = false → ((best = (Ji (E.getD client.toNat []) set set.length)))))))
theorem Jax (U : ZI) (E : ZR) (client : Int) (set : ZI) (ht : (J0 U E && J2 set 0 ((U.length : Int) - 1) && decide (0 < set.length)) = true) (hc : 0 ≤ client ∧ client < (E.length : Int)) (w_Open : (U.length : Int) ≤ 9223372036854775807) (w_Dist : (E.length : Int) ≤ 9223372036854775807) (v_Dist : ∀ x9 ∈ E, (x9.length : Int) ≤ 9223372036854775807) (w_set : (set.length : Int) ≤ 9223372036854775807) : J7Y U E client set := by
  unfold J7Y
  obtain ⟨hg, hs, hp⟩ := J7 ht
  obtain ⟨g1, g2, g3⟩ := J9 hg
  have cs := fun k => J16 hs k
  obtain ⟨rl, rb⟩ := Jv (i := client.toNat) hg (by omega)
  have si := J1B (row := E.getD client.toNat []) (set := set) (n := (U.length : Int)) (fun k hk => by have := cs k hk; omega) hp
  refine ⟨?_, ?_, ?_, ?_, ?_⟩
  ·omega
  ·omega
  ·omega
  ·refine ⟨(set.getD 0 0), 1, ?_⟩
   refine ⟨?_, rfl, rfl, rfl, rfl, rfl, rfl⟩
   ·refine ⟨?_, ?_, ?_⟩
    ·omega
    ·omega
    ·exact (Jbo _ _).symm
  intro best k hJ
  obtain ⟨h1, h2, h3⟩ := hJ
  refine ⟨?_, ?_⟩
  ·intro b1
   try simp only [nrmT] at b1
   refine ⟨rfl, ?_, ?_, ?_, ?_, ?_, ?_, ?_, ?_, ?_, ?_, ?_, ?_, ?_, ?_, ?_, ?_, ?_⟩
   ·omega
   ·omega
   ·omega
   ·omega
   ·omega
   ·omega
   ·have := cs k.toNat (by omega)
    omega
   ·have := cs k.toNat (by omega)
    omega
   ·have := cs k.toNat (by omega)
    omega
   ·omega
   ·omega
   ·omega
   ·have := si k.toNat (by omega)
    omega
   ·have := si k.toNat (by omega)
    omega
   ·have := si k.toNat (by omega)
    omega
   ·intro b2
    try simp only [nrmT] at b2
    refine ⟨?_, ?_, ?_, ?_, ?_⟩
    ·omega
    ·omega
    ·omega
    ·omega
    refine ⟨(set.getD k.toNat 0), (k + 1), ?_⟩
    refine ⟨?_, ?_, rfl, rfl, rfl, rfl, rfl, rfl⟩
    ·refine ⟨?_, ?_, ?_⟩
     ·omega
     ·omega
     ·rw [show (k + 1).toNat = k.toNat + 1 by omega, J0R, ← h3]; unfold J2R; rw [if_pos b2]
    (simp only [J0v]; omega)
   intro b3
   try simp only [nrmT] at b3
   refine ⟨?_, ?_⟩
   ·omega
   refine ⟨best, (k + 1), ?_⟩
   refine ⟨?_, ?_, rfl, rfl, rfl, rfl, rfl, rfl⟩
   ·refine ⟨?_, ?_, ?_⟩
    ·omega
    ·omega
    ·rw [show (k + 1).toNat = k.toNat + 1 by omega, J0R, ← h3]; unfold J2R; rw [if_neg (by omega)]
   (simp only [J0v]; omega)
  intro b4
  try simp only [nrmT] at b4
  rw [h3, show k.toNat = set.length by omega]
theorem Jaz (U : ZI) (E : ZR) (client : Int) (set : ZI) (ht : (J0 U E && J2 set 0 ((U.length : Int) - 1) && decide (0 < set.length)) = true) (hc : 0 ≤ client ∧ client < (E.length : Int)) : PC Tryz.prog 153 [.agg [.sl (.ints U), .sl (.rows E)], .int .i64 client, .sl (.ints set)] (.one (.d (.int .i64 (Ji (E.getD client.toNat []) set set.length)))) :=
  pc_wf @Tryz.call153 fun hw => pc_by (by kernel_rfl) Tryz.func153 @Tryz.call153 (by kernel_rfl) Jbe (Jbm U E client set) (by kernel_rfl) (Jax U E client set ht hc hw.1.1 hw.1.2.1.1 hw.1.2.1.2 hw.2.2.1) (by kernel_rfl)
def J9U : List D → Orc := orcN [none, none, some .ints] fun ds => match ds with
  | [.agg [.sl (.ints U), .sl (.rows E)], .int .i64 client, .sl (.ints set)] => some (.one (.d (.int .i64 (Ji (E.getD client.toNat []) set set.length))))
  | _ => none
abbrev J05 (U : ZI) (E : ZR) (client : Int) (set : ZI) (best : Int) (k : Int) : Prop := (0 ≤ k) ∧ (k ≤ (set.length : Int)) ∧ (best = Ji (E.getD client.toNat []) set k.toNat)
abbrev JE (U : ZI) (E : ZR) (client : Int) (set : ZI) (best : Int) (k : Int) : Nat := (set.length - k).toNat
def J6O (f : FuncId) (ds : List D) : Orc := .no
def J72 (U : ZI) (E : ZR) (client : Int) (set : ZI) : Ann := .two (.none) (.two (.none) (.two (.two (.none) (.loop (cut2 (fun (best : Int) (k : Int) => J05 U E client set best k) (fun (best : Int) (k : Int) => [(1, .d false (.int .i64 client)), (3, .ptr 3 0), (7, .d true (.int .i64 best)), (13, .d false (.sl (.ints set))), (14, .d true (.int .i64 (set.length : Int))), (15, .d true (.int .i64 k))]) (fun (best : Int) (k : Int) => [(3, .box 27 [.d false (.sl (.ints U)), .d false (.sl (.rows E))])])) (fun g => JE U E client set g.1 g.2) (fun _ => .none))) (.none)))
def J4g (U : ZI) (E : ZR) (client : Int) (set : ZI) : Prop :=
  ((0 : Int) ≤ 0) ∧ ((0 : Int) < set.length) ∧ (0 < set.length) ∧ ((∃ best' : Int, ∃ k' : Int, (J05 U E client set best' k') ∧ (client = client) ∧ ((set.getD 0 0) = best') ∧ (set = set) ∧ ((set.length : Int) = (set.length : Int)) ∧ ((0 : Int) = k') ∧ (U = U) ∧ (E = E)) ∧ (∀ best : Int, ∀ k : Int, (J05 U E client set best k) → (((decide (k < (set.length : Int))) = true → ((0 : Int) ≤ k) ∧ ((k : Int) < set.length) ∧ (k.toNat < set.length) ∧ (true = true) ∧ ((0 : Int) ≤ client) ∧ ((client : Int) < E.length) ∧ (client.toNat < E.length) ∧ ((0 : Int) ≤ (set.getD k.toNat 0)) ∧ (((set.getD k.toNat 0) : Int) < (E.getD client.toNat []).length) ∧ ((set.getD k.toNat 0).toNat < (E.getD client.toNat []).length) ∧ ((0 : Int) ≤ client) ∧ ((client : Int) < E.length) ∧ (client.toNat < E.length) ∧ ((0 : Int) ≤ best) ∧ ((best : Int) < (E.getD client.toNat []).length) ∧ (best.toNat < (E.getD client.toNat []).length) ∧ (((decide (((E.getD client.toNat []).getD ((set.getD k.toNat 0).toNat) 0) < ((E.getD client.toNat []).getD best.toNat 0))) = true → (I6 (k + 1)) ∧ (∃ best' : Int, ∃ k' : Int, (J05 U E client set best' k') ∧ (JE U E client set best' k' < JE U E client set best k) ∧ (client = client) ∧ ((set.getD k.toNat 0) = best') ∧ (set = set) ∧ ((set.length : Int) = (set.length : Int)) ∧ ((k + 1) = k') ∧ (U = U) ∧ (E = E))) ∧ ((decide (((E.getD client.toNat []).getD ((set.getD k.toNat 0).toNat) 0) < ((E.getD client.toNat []).getD best.toNat 0))) = false → (I6 (k + 1)) ∧ (∃ best' : Int, ∃ k' : Int, (J05 U E client set best' k') ∧ (JE U E client set best' k' < JE U E client set best k) ∧ (client = client) ∧ (best = best') ∧ (set = set) ∧ ((set.length : Int) = (set.length : Int)) ∧ ((k + 1) = k') ∧ (U = U) ∧ (E = E))))) ∧ ((decide (k < (set.length : Int))) = false → ((best = (Ji (E.getD client.toNat []) set set.length)))))))
theorem J6d (U : ZI) (E : ZR) (client : Int) (set : ZI) (ht : (J0 U E && J2 set 0 ((U.length : Int) - 1) && decide (0 < set.length)) = true) (hc : 0 ≤ client ∧ client < (E.length : Int)) (w_Open : (U.length : Int) ≤ 9223372036854775807) (w_Dist : (E.length : Int) ≤ 9223372036854775807) (v_Dist : ∀ x9 ∈ E, (x9.length : Int) ≤ 9223372036854775807) (w_set : (set.length : Int) ≤ 9223372036854775807) : J4g U E client set := by
  unfold J4g
  obtain ⟨hg, hs, hp⟩ := J7 ht
  obtain ⟨g1, g2, g3⟩ := J9 hg
  have cs := fun k => J16 hs k
  obtain ⟨rl, rb⟩ := Jv (i := client.toNat) hg (by omega)
  have si := J1B (row := E.getD client.toNat []) (set := set) (n := (U.length : Int)) (fun k hk => by have := cs k hk; omega) hp
  refine ⟨?_, ?_, ?_, ?_, ?_⟩
  ·omega
  ·omega
  ·omega
  ·refine ⟨(set.getD 0 0), 0, ?_⟩
   refine ⟨?_, rfl, rfl, rfl, rfl, rfl, rfl, rfl⟩
   ·refine ⟨?_, ?_, ?_⟩
    ·omega
    ·omega
    ·rfl
  intro best k hJ
  obtain ⟨h1, h2, h3⟩ := hJ
  refine ⟨?_, ?_⟩
  ·intro b1
   try simp only [nrmT] at b1
   refine ⟨?_, ?_, ?_, rfl, ?_, ?_, ?_, ?_, ?_, ?_, ?_, ?_, ?_, ?_, ?_, ?_, ?_, ?_⟩
   ·omega
   ·omega
   ·omega
   ·omega
   ·omega
   ·omega
   ·have := cs k.toNat (by omega)
    omega
   ·have := cs k.toNat (by omega)
    omega
   ·have := cs k.toNat (by omega)
    omega
   ·omega
   ·omega
   ·omega
   ·have := si k.toNat (by omega)
    omega
   ·have := si k.toNat (by omega)
    omega
   ·have := si k.toNat (by omega)
    omega
   ·intro b2
    try simp only [nrmT] at b2
    refine ⟨?_, ?_⟩
    ·omega
    refine ⟨(set.getD k.toNat 0), (k + 1), ?_⟩
    refine ⟨?_, ?_, rfl, rfl, rfl, rfl, rfl, rfl, rfl⟩
    ·refine ⟨?_, ?_, ?_⟩
     ·omega
     ·omega
     ·rw [show (k + 1).toNat = k.toNat + 1 by omega, J0R, ← h3]; unfold J2R; rw [if_pos b2]
    (simp only [JE]; omega)
   intro b3
   try simp only [nrmT] at b3
   refine ⟨?_, ?_⟩
   ·omega
   refine ⟨best, (k + 1), ?_⟩
   refine ⟨?_, ?_, rfl, rfl, rfl, rfl, rfl, rfl, rfl⟩
   ·refine ⟨?_, ?_, ?_⟩
    ·omega
    ·omega
    ·rw [show (k + 1).toNat = k.toNat + 1 by omega, J0R, ← h3]; unfold J2R; rw [if_neg (by omega)]
   (simp only [JE]; omega)
  intro b4
  try simp only [nrmT] at b4
  rw [h3, show k.toNat = set.length by omega]
theorem J61 (U : ZI) (E : ZR) (client : Int) (set : ZI) (ht : (J0 U E && J2 set 0 ((U.length : Int) - 1) && decide (0 < set.length)) = true) (hc : 0 ≤ client ∧ client < (E.length : Int)) : PC Tryz.prog 212 [.agg [.sl (.ints U), .sl (.rows E)], .int .i64 client, .sl (.ints set)] (.one (.d (.int .i64 (Ji (E.getD client.toNat []) set set.length)))) :=
  pc_wf @Tryz.call212 fun hw => pc_by (by kernel_rfl) Tryz.func212 @Tryz.call212 (by kernel_rfl) J6O (J72 U E client set) (by kernel_rfl) (J6d U E client set ht hc hw.1.1 hw.1.2.1.1 hw.1.2.1.2 hw.2.2.1) (by kernel_rfl)
def J5t : List D → Orc := orcN [none, none, some .ints] fun ds => match ds with
  | [.agg [.sl (.ints U), .sl (.rows E)], .int .i64 client, .sl (.ints set)] => some (.one (.d (.int .i64 (Ji (E.getD client.toNat []) set set.length))))
  | _ => none
def J94 (f : FuncId) (ds : List D) : Orc := bif Nat.beq f 153 then J9U ds else .no
def J9l (U : ZI) (E : ZR) (client : Int) (set : ZI) : Ann := .none
def J50 (U : ZI) (E : ZR) (client : Int) (set : ZI) : Prop :=
  (true = true) ∧ ((0 : Int) ≤ client) ∧ ((client : Int) < E.length) ∧ (client.toNat < E.length) ∧ (PC Tryz.prog 153 [.agg [.sl (.ints U), .sl (.rows E)], .int .i64 client, .sl (.ints set)] (.one (.d (.int .i64 (Ji (E.getD client.toNat []) set set.length))))) ∧ ((0 : Int) ≤ (Ji (E.getD client.toNat []) set set.length)) ∧ (((Ji (E.getD client.toNat []) set set.length) : Int) < (E.getD client.toNat []).length) ∧ ((Ji (E.getD client.toNat []) set set.length).toNat < (E.getD client.toNat []).length) ∧ ((((E.getD client.toNat []).getD ((Ji (E.getD client.toNat []) set set.length).toNat) 0) = ((E.getD client.toNat []).getD (Ji (E.getD client.toNat []) set set.length).toNat 0)))
theorem J8D (U : ZI) (E : ZR) (client : Int) (set : ZI) (ht : (J0 U E && J2 set 0 ((U.length : Int) - 1) && decide (0 < set.length)) = true) (hc : 0 ≤ client ∧ client < (E.length : Int)) (w_Open : (U.length : Int) ≤ 9223372036854775807) (w_Dist : (E.length : Int) ≤ 9223372036854775807) (v_Dist : ∀ x9 ∈ E, (x9.length : Int) ≤ 9223372036854775807) (w_set : (set.length : Int) ≤ 9223372036854775807) : J50 U E client set := by
  unfold J50
  obtain ⟨hg, hs, hp⟩ := J7 ht
  obtain ⟨g1, g2, g3⟩ := J9 hg
  have cs := fun k => J16 hs k
  obtain ⟨rl, rb⟩ := Jv (i := client.toNat) hg (by omega)
  have si := J1B (row := E.getD client.toNat []) (set := set) (n := (U.length : Int)) (fun k hk => by have := cs k hk; omega) hp
  have sl := si set.length (Nat.le_refl _)
  refine ⟨rfl, ?_, ?_, ?_, ?_, ?_, ?_, ?_, ?_⟩
  ·omega
  ·omega
  ·omega
  ·refine Jaz U E client set ?_ ?_
   ·omega
   ·omega
  ·omega
  ·omega
  ·omega
  omega
theorem J89 (U : ZI) (E : ZR) (client : Int) (set : ZI) (ht : (J0 U E && J2 set 0 ((U.length : Int) - 1) && decide (0 < set.length)) = true) (hc : 0 ≤ client ∧ client < (E.length : Int)) : PC Tryz.prog 150 [.agg [.sl (.ints U), .sl (.rows E)], .int .i64 client, .sl (.ints set)] (.one (.d (.int .i64 ((E.getD client.toNat []).getD (Ji (E.getD client.toNat []) set set.length).toNat 0)))) :=
  pc_wf @Tryz.call150 fun hw => pc_by (by kernel_rfl) Tryz.func150 @Tryz.call150 (by kernel_rfl) J94 (J9l U E client set) (by kernel_rfl) (J8D U E client set ht hc hw.1.1 hw.1.2.1.1 hw.1.2.1.2 hw.2.2.1) (by kernel_rfl)
def J7U : List D → Orc := orcN [none, none, some .ints] fun ds => match ds with
  | [.agg [.sl (.ints U), .sl (.rows E)], .int .i64 client, .sl (.ints set)] => some (.one (.d (.int .i64 ((E.getD client.toNat []).getD (Ji (E.getD client.toNat []) set set.length).toNat 0))))
  | _ => none
def Jp (E : ZR) (set : ZI) (n : Nat) : ZI := (List.range n).map fun i => Ji (E.getD i []) set set.length
def Jo (E : ZR) (set : ZI) (i : Nat) : Int := (E.getD i []).getD (Ji (E.getD i []) set set.length).toNat 0
def JW (E : ZR) (set : ZI) (n : Nat) : ZI := (List.range n).map (Jo E set)
theorem J8T (E : ZR) (set : ZI) (n : Nat) : (Jp E set n).length = n := by simp [Jp]
theorem J3n (E : ZR) (set : ZI) (n : Nat) : (JW E set n).length = n := by simp [JW]
theorem J3N (E : ZR) (set : ZI) (n i : Nat) (h : i < n) : (Jp E set n).getD i 0 = Ji (E.getD i []) set set.length := by simp [Jp, h]
theorem J3L (E : ZR) (set : ZI) (n i : Nat) (h : i < n) : (JW E set n).getD i 0 = Jo E set i := by simp [JW, h]
theorem JbC (E : ZR) (set : ZI) (n : Nat) : Jp E set (n + 1) = Jp E set n ++ [Ji (E.getD n []) set set.length] := by simp [Jp, List.range_succ]
theorem Jbz (E : ZR) (set : ZI) (n : Nat) : JW E set (n + 1) = JW E set n ++ [Jo E set n] := by simp [JW, List.range_succ]
abbrev J0P (U : ZI) (E : ZR) (set : ZI) (out : ZI) (i : Int) : Prop := (0 ≤ i) ∧ (i ≤ (E.length : Int)) ∧ (out = Jp E set i.toNat)
abbrev J0K (U : ZI) (E : ZR) (set : ZI) (out : ZI) (i : Int) : Nat := (E.length - i).toNat
def J77 (f : FuncId) (ds : List D) : Orc := bif Nat.beq f 212 then J5t ds else .no
def J76 (U : ZI) (E : ZR) (set : ZI) : Ann := .two (.none) (.two (.none) (.two (.two (.none) (.loop (cut2 (fun (out : ZI) (i : Int) => J0P U E set out i) (fun (out : ZI) (i : Int) => [(1, .d false (.sl (.ints set))), (2, .ptr 2 0), (5, .own 1000000 out.length), (10, .d true (.int .i64 (E.length : Int))), (11, .d true (.int .i64 i))]) (fun (out : ZI) (i : Int) => [(1000000, .arr true 3 (.ints out)), (2, .box 27 [.d false (.sl (.ints U)), .d false (.sl (.rows E))])])) (fun g => J0K U E set g.1 g.2) (fun _ => .none))) (.none)))
def J4i (U : ZI) (E : ZR) (set : ZI) : Prop :=
  ((∃ out' : ZI, ∃ i' : Int, (J0P U E set out' i') ∧ (set = set) ∧ ((0 : Nat) = out'.length) ∧ ((E.length : Int) = (E.length : Int)) ∧ ((0 : Int) = i') ∧ ([] = out') ∧ (U = U) ∧ (E = E)) ∧ (∀ out : ZI, ∀ i : Int, (J0P U E set out i) → (((decide (i < (E.length : Int))) = true → (PC Tryz.prog 212 [.agg [.sl (.ints U), .sl (.rows E)], .int .i64 i, .sl (.ints set)] (.one (.d (.int .i64 (Ji (E.getD i.toNat []) set set.length))))) ∧ (out.length = out.length) ∧ ((1 : Nat) = 1) ∧ ((out.length + 1) * 8 ≤ 140737488355328) ∧ (I6 (i + 1)) ∧ (∃ out' : ZI, ∃ i' : Int, (J0P U E set out' i') ∧ (J0K U E set out' i' < J0K U E set out i) ∧ (set = set) ∧ ((out.length + 1) = out'.length) ∧ ((E.length : Int) = (E.length : Int)) ∧ ((i + 1) = i') ∧ ((out ++ [(Ji (E.getD i.toNat []) set set.length)]) = out') ∧ (U = U) ∧ (E = E))) ∧ ((decide (i < (E.length : Int))) = false → ((out.length = out.length) ∧ ((out : ZI) = Jp E set E.length))))))
theorem J67 (U : ZI) (E : ZR) (set : ZI) (ht : (J0 U E && J2 set 0 ((U.length : Int) - 1) && decide (0 < set.length)) = true) (w_Open : (U.length : Int) ≤ 9223372036854775807) (w_Dist : (E.length : Int) ≤ 9223372036854775807) (v_Dist : ∀ x9 ∈ E, (x9.length : Int) ≤ 9223372036854775807) (w_set : (set.length : Int) ≤ 9223372036854775807) : J4i U E set := by
  unfold J4i
  obtain ⟨hg, hs, hp⟩ := J7 ht
  obtain ⟨g1, g2, g3⟩ := J9 hg
  have cs := fun k => J16 hs k
  have si := fun (i : Nat) (hi : i < E.length) => J1B (row := E.getD i []) (set := set) (n := (U.length : Int)) (fun k hk => by have := cs k hk; omega) hp set.length (Nat.le_refl _)
  refine ⟨?_, ?_⟩
  ·refine ⟨([]), 0, ?_⟩
   refine ⟨?_, rfl, rfl, rfl, rfl, ?_, rfl, rfl⟩
   ·refine ⟨?_, ?_, ?_⟩
    ·omega
    ·omega
    ·rfl
   rfl
  intro out i hJ
  obtain ⟨h1, h2, h3⟩ := hJ
  refine ⟨?_, ?_⟩
  ·intro b1
   try simp only [nrmT] at b1
   refine ⟨?_, rfl, rfl, ?_, ?_, ?_⟩
   ·refine J61 U E i set ?_ ?_
    ·omega
    ·omega
   ·rw [h3, J8T]; omega
   ·omega
   refine ⟨(out ++ [(Ji (E.getD i.toNat []) set set.length)]), (i + 1), ?_⟩
   refine ⟨?_, ?_, rfl, ?_, rfl, rfl, rfl, rfl, rfl⟩
   ·refine ⟨?_, ?_, ?_⟩
    ·omega
    ·omega
    ·rw [h3, show (i + 1).toNat = i.toNat + 1 by omega, JbC]
   ·(simp only [J0K]; omega)
   (simp_all; done)
  intro b2
  try simp only [nrmT] at b2
  refine ⟨rfl, ?_⟩
  ·rw [h3, show i.toNat = E.length by omega]
theorem J6k (U : ZI) (E : ZR) (set : ZI) (ht : (J0 U E && J2 set 0 ((U.length : Int) - 1) && decide (0 < set.length)) = true) : PC Tryz.prog 151 [.agg [.sl (.ints U), .sl (.rows E)], .sl (.ints set)] (.one (.own 3 (.ints (Jp E set E.length)))) :=
  pc_wf @Tryz.call151 fun hw => pc_by (by kernel_rfl) Tryz.func151 @Tryz.call151 (by kernel_rfl) J77 (J76 U E set) (by kernel_rfl) (J67 U E set ht hw.1.1 hw.1.2.1.1 hw.1.2.1.2 hw.2.1) (by kernel_rfl)
def J5T : List D → Orc := orcN [none, some .ints] fun ds => match ds with
  | [.agg [.sl (.ints U), .sl (.rows E)], .sl (.ints set)] => some (.one (.own 3 (.ints (Jp E set E.length))))
  | _ => none
abbrev J0G (U : ZI) (E : ZR) (set : ZI) (out : ZI) (i : Int) : Prop := (0 ≤ i) ∧ (i ≤ (E.length : Int)) ∧ (out = JW E set i.toNat)
abbrev J0F (U : ZI) (E : ZR) (set : ZI) (out : ZI) (i : Int) : Nat := (E.length - i).toNat
def J62 (f : FuncId) (ds : List D) : Orc := bif Nat.beq f 151 then J5T ds else .no
def J68 (U : ZI) (E : ZR) (set : ZI) : Ann := .two (.none) (.two (.none) (.two (.two (.none) (.loop (cut2 (fun (out : ZI) (i : Int) => J0G U E set out i) (fun (out : ZI) (i : Int) => [(2, .ptr 2 0), (5, .own 1000000 out.length), (11, .own 11 ((Jp E set E.length).length)), (12, .d true (.int .i64 (((Jp E set E.length).length) : Int))), (13, .d true (.int .i64 i))]) (fun (out : ZI) (i : Int) => [(1000000, .arr true 3 (.ints out)), (2, .box 27 [.d false (.sl (.ints U)), .d false (.sl (.rows E))]), (11, .arr true 3 (.ints (Jp E set E.length)))])) (fun g => J0F U E set g.1 g.2) (fun _ => .none))) (.none)))
def J3I (U : ZI) (E : ZR) (set : ZI) : Prop :=
  (PC Tryz.prog 151 [.agg [.sl (.ints U), .sl (.rows E)], .sl (.ints set)] (.one (.own 3 (.ints (Jp E set E.length))))) ∧ ((∃ out' : ZI, ∃ i' : Int, (J0G U E set out' i') ∧ ((0 : Nat) = out'.length) ∧ ((Jp E set E.length).length = (Jp E set E.length).length) ∧ ((((Jp E set E.length).length) : Int) = (((Jp E set E.length).length) : Int)) ∧ ((0 : Int) = i') ∧ ([] = out') ∧ (U = U) ∧ (E = E) ∧ (Jp E set E.length = Jp E set E.length)) ∧ (∀ out : ZI, ∀ i : Int, (J0G U E set out i) → (((decide (i < (((Jp E set E.length).length) : Int))) = true → ((0 : Int) ≤ i) ∧ ((i : Int) < (((Jp E set E.length).length) : Int)) ∧ (i.toNat < (Jp E set E.length).length) ∧ ((0 : Int) ≤ i) ∧ ((i : Int) < E.length) ∧ (i.toNat < E.length) ∧ ((0 : Int) ≤ ((Jp E set E.length).getD i.toNat 0)) ∧ ((((Jp E set E.length).getD i.toNat 0) : Int) < (E.getD i.toNat []).length) ∧ (((Jp E set E.length).getD i.toNat 0).toNat < (E.getD i.toNat []).length) ∧ (out.length = out.length) ∧ ((1 : Nat) = 1) ∧ ((out.length + 1) * 8 ≤ 140737488355328) ∧ (I6 (i + 1)) ∧ (∃ out' : ZI, ∃ i' : Int, (J0G U E set out' i') ∧ (J0F U E set out' i' < J0F U E set out i) ∧ ((out.length + 1) = out'.length) ∧ ((Jp E set E.length).length = (Jp E set E.length).length) ∧ ((((Jp E set E.length).length) : Int) = (((Jp E set E.length).length) : Int)) ∧ ((i + 1) = i') ∧ ((out ++ [((E.getD i.toNat []).getD (((Jp E set E.length).getD i.toNat 0).toNat) 0)]) = out') ∧ (U = U) ∧ (E = E) ∧ (Jp E set E.length = Jp E set E.length))) ∧ ((decide (i < (((Jp E set E.length).length) : Int))) = false → ((out.length = out.length) ∧ ((out : ZI) = JW E set E.length))))))
theorem J5r (U : ZI) (E : ZR) (set : ZI) (ht : (J0 U E && J2 set 0 ((U.length : Int) - 1) && decide (0 < set.length)) = true) (w_Open : (U.length : Int) ≤ 9223372036854775807) (w_Dist : (E.length : Int) ≤ 9223372036854775807) (v_Dist : ∀ x9 ∈ E, (x9.length : Int) ≤ 9223372036854775807) (w_set : (set.length : Int) ≤ 9223372036854775807) : J3I U E set := by
  unfold J3I
  obtain ⟨hg, hs, hp⟩ := J7 ht
  obtain ⟨g1, g2, g3⟩ := J9 hg
  have cs := fun k => J16 hs k
  have si := fun (i : Nat) (hi : i < E.length) => J1B (row := E.getD i []) (set := set) (n := (U.length : Int)) (fun k hk => by have := cs k hk; omega) hp set.length (Nat.le_refl _)
  have e0 := J8T E set E.length
  refine ⟨?_, ?_, ?_⟩
  ·refine J6k U E set ?_
   ·omega
  ·refine ⟨([]), 0, ?_⟩
   refine ⟨?_, rfl, rfl, rfl, rfl, ?_, rfl, rfl, rfl⟩
   ·refine ⟨?_, ?_, ?_⟩
    ·omega
    ·omega
    ·rfl
   rfl
  intro out i hJ
  obtain ⟨h1, h2, h3⟩ := hJ
  refine ⟨?_, ?_⟩
  ·intro b1
   try simp only [nrmT] at b1
   refine ⟨?_, ?_, ?_, ?_, ?_, ?_, ?_, ?_, ?_, rfl, rfl, ?_, ?_, ?_⟩
   ·omega
   ·omega
   ·omega
   ·omega
   ·omega
   ·omega
   ·rw [J3N _ _ _ _ (by omega)]; obtain ⟨rl, rb⟩ := Jv (i := i.toNat) hg (by omega); have := si i.toNat (by omega); omega
   ·rw [J3N _ _ _ _ (by omega)]; obtain ⟨rl, rb⟩ := Jv (i := i.toNat) hg (by omega); have := si i.toNat (by omega); omega
   ·rw [J3N _ _ _ _ (by omega)]; obtain ⟨rl, rb⟩ := Jv (i := i.toNat) hg (by omega); have := si i.toNat (by omega); omega
   ·rw [h3, J3n]; omega
   ·omega
   refine ⟨(out ++ [((E.getD i.toNat []).getD (((Jp E set E.length).getD i.toNat 0).toNat) 0)]), (i + 1), ?_⟩
   refine ⟨?_, ?_, ?_, rfl, rfl, rfl, rfl, rfl, rfl, rfl⟩
   ·refine ⟨?_, ?_, ?_⟩
    ·omega
    ·omega
    ·rw [h3, show (i + 1).toNat = i.toNat + 1 by omega, Jbz, J3N _ _ _ _ (by omega)]; rfl
   ·(simp only [J0F]; omega)
   (simp_all; done)
  intro b2
  try simp only [nrmT] at b2
  refine ⟨rfl, ?_⟩
  ·rw [h3, show i.toNat = E.length by omega]
theorem J5u (U : ZI) (E : ZR) (set : ZI) (ht : (J0 U E && J2 set 0 ((U.length : Int) - 1) && decide (0 < set.length)) = true) : PC Tryz.prog 149 [.agg [.sl (.ints U), .sl (.rows E)], .sl (.ints set)] (.one (.own 3 (.ints (JW E set E.length)))) :=
  pc_wf @Tryz.call149 fun hw => pc_by (by kernel_rfl) Tryz.func149 @Tryz.call149 (by kernel_rfl) J62 (J68 U E set) (by kernel_rfl) (J5r U E set ht hw.1.1 hw.1.2.1.1 hw.1.2.1.2 hw.2.1) (by kernel_rfl)
def J5a : List D → Orc := orcN [none, some .ints] fun ds => match ds with
  | [.agg [.sl (.ints U), .sl (.rows E)], .sl (.ints set)] => some (.one (.own 3 (.ints (JW E set E.length))))
  | _ => none
theorem J3J {row set : ZI} (hp : 0 < set.length) : ∀ k, k ≤ set.length → Ji row set k ∈ set
  | 0, _ => getD_mem hp
  | k + 1, hk => by
    rw [J0R]
    unfold J2R
    split
    · exact getD_mem (by omega)
    exact J3J hp k (by omega)
theorem J8Z {xs : ZI} {lo hi : Int} (h : J2 xs lo hi = true) {i : Nat} : ∀ {j : Nat}, i < j → j < xs.length → xs.getD i 0 < xs.getD j 0
  | 0, hi, _ => by omega
  | j + 1, hi, hj => by
    have h1 := allTo_iff.1 h (j + 1) hj
    simp only [J1D, Bool.and_eq_true, Bool.or_eq_true, decide_eq_true_eq, Nat.add_sub_cancel] at h1
    have h2 := h1.2
    by_cases e : i = j
    · subst e; omega
    have := J8Z h (i := i) (j := j) (by omega) (by omega)
    omega
theorem Jcv {set : ZI} {s : Int} (h : s ∈ set) : 0 ≤ idxI (fun y => s == y) set ∧ idxI (fun y => s == y) set < set.length ∧ set.getD (idxI (fun y => s == y) set).toNat 0 = s := by
  unfold idxI
  cases hf : set.findIdx? (fun y => s == y) with
  | none =>
    have := List.findIdx?_eq_none_iff.1 hf s h
    simp at this
  | some k =>
    obtain ⟨hk, hp, _⟩ := List.findIdx?_eq_some_iff_getElem.1 hf
    have e : set[k] = s := (by simpa using hp : s = set[k]).symm
    refine ⟨by simp, by simpa using hk, ?_⟩
    simp [hk, e]
def Jb4 (f : FuncId) (ds : List D) : Orc := .no
def Jbr (a : Int) (b : Int) : Ann := .none
def J7C (a : Int) (b : Int) : Prop :=
  (((decide (a > b)) = true → ((a = (max a b)))) ∧ ((decide (a > b)) = false → ((b = (max a b)))))
theorem Jav (a : Int) (b : Int)   : J7C a b := by
  unfold J7C
  refine ⟨?_, ?_⟩
  ·intro b1
   try simp only [nrmT] at b1
   omega
  intro b2
  try simp only [nrmT] at b2
  omega
theorem JaK (a : Int) (b : Int)  : PC Tryz.prog 154 [.int .i64 a, .int .i64 b] (.one (.d (.int .i64 (max a b)))) :=
  pc_wf @Tryz.call154 fun _ => pc_by (by kernel_rfl) Tryz.func154 @Tryz.call154 (by kernel_rfl) Jb4 (Jbr a b) (by kernel_rfl) (Jav a b) (by kernel_rfl)
def J9H : List D → Orc := orcN [none, none] fun ds => match ds with
  | [.int .i64 a, .int .i64 b] => some (.one (.d (.int .i64 (max a b))))
  | _ => none
def JbI (f : FuncId) (ds : List D) : Orc := .no
def JbE (l : ZI) : Ann := .none
def J8G (l : ZI) : Prop :=
  ((0 : Nat) = 0) ∧ (True) ∧ ((0 + l.length) * 8 ≤ 140737488355328) ∧ (((0 + l.length) = ([] ++ l).length) ∧ ((([] ++ l) : ZI) = l))
theorem Jbv (l : ZI) (hl : l.length ≤ 1048576) (w_l : (l.length : Int) ≤ 9223372036854775807) : J8G l := by
  unfold J8G
  refine ⟨rfl, trivial, ?_, ?_, ?_⟩
  ·omega
  ·(simp_all; done)
  rfl
theorem J4T (l : ZI) (hl : l.length ≤ 1048576) : PC Tryz.prog 98 [.sl (.ints l)] (.one (.own 3 (.ints l))) :=
  pc_wf @Tryz.call98 fun hw => pc_by (by kernel_rfl) Tryz.func98 @Tryz.call98 (by kernel_rfl) JbI (JbE l) (by kernel_rfl) (Jbv l hl hw.1) (by kernel_rfl)
def J6C : List D → Orc := orcN [some .ints] fun ds => match ds with
  | [.sl (.ints l)] => some (.one (.own 3 (.ints l)))
  | _ => none
theorem J0O (f : Nat → Int) (n : Nat) : J0c f (n + 1) = J0c f n + f n := rfl
def J4p (f : FuncId) (ds : List D) : Orc := .no
def J4m (xs : ZI) : Ann := .two (.none) (.two (.two (.none) (.goF (.none))) (.none))
def J1Y (xs : ZI) : Prop :=
  (0 < xs.length) ∧ (false = false) ∧ ((0 : Nat) = 0) ∧ (True) ∧ ((0 + xs.length) * 8 ≤ 140737488355328) ∧ (((0 + xs.length) = ([] ++ xs).length) ∧ ((([] ++ xs) : ZI) = xs))
theorem J3Z (xs : ZI) (hl : 0 < xs.length ∧ xs.length ≤ 1048576) (w_xs : (xs.length : Int) ≤ 9223372036854775807) : J1Y xs := by
  unfold J1Y
  refine ⟨?_, rfl, rfl, trivial, ?_, ?_, ?_⟩
  ·exact hl.1
  ·omega
  ·(simp_all; done)
  rfl
theorem J41 (xs : ZI) (hl : 0 < xs.length ∧ xs.length ≤ 1048576) : PC Tryz.prog 117 [.sl (.ints xs)] (.one (.own 3 (.ints xs))) :=
  pc_wf @Tryz.call117 fun hw => pc_by (by kernel_rfl) Tryz.func117 @Tryz.call117 (by kernel_rfl) J4p (J4m xs) (by kernel_rfl) (J3Z xs hl hw.1) (by kernel_rfl)
def J3U : List D → Orc := orcN [some .ints] fun ds => match ds with
  | [.sl (.ints xs)] => some (.one (.own 3 (.ints xs)))
  | _ => none
theorem J0L {xs : ZI} {lo hi : Int} (h : J2 xs lo hi = true) : Asc xs := by
  refine List.pairwise_iff_getElem.2 fun i j hi hj hij => ?_
  have := J8Z h hij hj
  rwa [JZ hi, JZ hj] at this
def J3X (n : Nat) : ZI := members (fun _ => true) n
theorem Jc4 {n : Nat} : members (fun k => (2 ^ n - 1).testBit k) n = J3X n :=
  members_congr fun k hk => by simp [Nat.testBit_two_pow_sub_one, hk]
def J6X (f : FuncId) (ds : List D) : Orc := bif Nat.beq f 111 then J3x ds else bif Nat.beq f 132 then J1h ds else .no
def J6W (U : ZI) (E : ZR) (k : Int) : Ann := .none
def J4l (U : ZI) (E : ZR) (k : Int) : Prop :=
  (PC Tryz.prog 111 [.agg [.sl (.ints U), .sl (.rows E)]] (.one (.d (.bool (J0 U E))))) ∧ ((J0 U E) = true → (J0 U E) = true) ∧ ((J0 U E) = true → (J0 U E) = true) ∧ ((J0 U E) = true → (J0 U E) = true) ∧ ((J0 U E) = true → (J0 U E) = true) ∧ ((J0 U E) = true → PC Tryz.prog 132 [.int .i64 k, .int .i64 1, .int .i64 (U.length : Int)] (.one (.d (.bool (inB k 1 (U.length : Int)))))) ∧ (true = true) ∧ (((J0 U E) = true → (J0 U E) = true)) ∧ (((J0 U E) = false → true = true)) ∧ (((cond (J0 U E) (inB k 1 (U.length : Int)) false) = (J0 U E && inB k 1 (U.length : Int))))
theorem J6m (U : ZI) (E : ZR) (k : Int)  (w_Open : (U.length : Int) ≤ 9223372036854775807) (w_Dist : (E.length : Int) ≤ 9223372036854775807) (v_Dist : ∀ x9 ∈ E, (x9.length : Int) ≤ 9223372036854775807) : J4l U E k := by
  unfold J4l
  refine ⟨J46 U E, id, id, id, id, fun _ => J1t k 1 (U.length : Int), rfl, id, fun _ => rfl, ?_⟩
  ·cases J0 U E <;> rfl
theorem J6h (U : ZI) (E : ZR) (k : Int)  : PC Tryz.prog 93 [.agg [.sl (.ints U), .sl (.rows E)], .int .i64 k] (.one (.d (.bool (J0 U E && inB k 1 (U.length : Int))))) :=
  pc_wf @Tryz.call93 fun hw => pc_by (by kernel_rfl) Tryz.func93 @Tryz.call93 (by kernel_rfl) J6X (J6W U E k) (by kernel_rfl) (J6m U E k hw.1.1 hw.1.2.1.1 hw.1.2.1.2) (by kernel_rfl)
def J5v : List D → Orc := orcN [none, none] fun ds => match ds with
  | [.agg [.sl (.ints U), .sl (.rows E)], .int .i64 k] => some (.one (.d (.bool (J0 U E && inB k 1 (U.length : Int)))))
  | _ => none
def J0H (a b : Int) : Int := if a < b then -1 else if a > b then 1 else 0
def Jm : ZI → ZI → Int
  | [], [] => 0
  | [], _ :: _ => -1
  | _ :: _, [] => 1
  | x :: r, y :: s => if x < y then -1 else if x > y then 1 else Jm r s
theorem J92 {xs ys : ZI} {i : Nat} (h : Jm xs ys = Jm (xs.drop i) (ys.drop i)) (h1 : i < xs.length) (h2 : i < ys.length) :
    Jm xs ys = if xs.getD i 0 < ys.getD i 0 then -1 else if xs.getD i 0 > ys.getD i 0 then 1 else Jm (xs.drop (i + 1)) (ys.drop (i + 1)) := by
  rw [h, List.drop_eq_getElem_cons h1, List.drop_eq_getElem_cons h2, JZ h1, JZ h2]
  rfl
theorem Jbn {xs ys : ZI} {i : Nat} (h : Jm xs ys = Jm (xs.drop i) (ys.drop i)) (h1 : i < xs.length) (h2 : ys.length ≤ i) : Jm xs ys = 1 := by
  rw [h, List.drop_eq_getElem_cons h1, List.drop_eq_nil_of_le h2]
  rfl
theorem Ja6 {xs ys : ZI} {i : Nat} (h : Jm xs ys = Jm (xs.drop i) (ys.drop i)) (h1 : xs.length ≤ i) (h2 : i ≤ ys.length) (h3 : i = xs.length) : Jm xs ys = if xs.length < ys.length then -1 else 0 := by
  rw [h, List.drop_eq_nil_of_le h1]
  by_cases e : xs.length < ys.length
  · rw [if_pos e, List.drop_eq_getElem_cons (by omega)]
    rfl
  rw [if_neg e, List.drop_eq_nil_of_le (by omega)]
  rfl
def J7a (f : FuncId) (ds : List D) : Orc := .no
def J6K (x : Int) : Ann := .none
def J42 (x : Int) : Prop :=
  (((x != x) = false))
theorem J69 (x : Int)   : J42 x := by
  unfold J42
  simp
theorem J3H (x : Int)  : PC Tryz.prog 236 [.int .i64 x] (.one (.d (.bool false))) :=
  pc_wf @Tryz.call236 fun _ => pc_by (by kernel_rfl) Tryz.func236 @Tryz.call236 (by kernel_rfl) J7a (J6K x) (by kernel_rfl) (J69 x) (by kernel_rfl)
def J5i : List D → Orc := orcN [none] fun ds => match ds with
  | [.int .i64 x] => some (.one (.d (.bool false)))
  | _ => none
def J5o (f : FuncId) (ds : List D) : Orc := bif Nat.beq f 236 then J5i ds else .no
def J5N (a : Int) (b : Int) : Ann := .two (.none) (.two (.none) (.two (.none) (.two (.two (.none) (.goF (.none))) (.two (.two (.none) (.goF (.none))) (.none)))))
def J3o (a : Int) (b : Int) : Prop :=
  (PC Tryz.prog 236 [.int .i64 a] (.one (.d (.bool false)))) ∧ (PC Tryz.prog 236 [.int .i64 b] (.one (.d (.bool false)))) ∧ (false = false) ∧ (false = false) ∧ (((decide (a < b)) = true → ((((-1) : Int) = (J0H a b)))) ∧ ((decide (a < b)) = false → (((decide (a > b)) = true → (((1 : Int) = (J0H a b)))) ∧ ((decide (a > b)) = false → (((0 : Int) = (J0H a b)))))))
theorem J5c (a : Int) (b : Int)   : J3o a b := by
  unfold J3o
  refine ⟨J3H a, J3H b, rfl, rfl, ?_, ?_⟩
  ·intro b1
   try simp only [nrmT] at b1
   unfold J0H; first | rw [if_pos (by omega)] | rw [if_neg (by omega), if_pos (by omega)] | rw [if_neg (by omega), if_neg (by omega)]
  intro b2
  try simp only [nrmT] at b2
  refine ⟨?_, ?_⟩
  ·intro b3
   try simp only [nrmT] at b3
   unfold J0H; first | rw [if_pos (by omega)] | rw [if_neg (by omega), if_pos (by omega)] | rw [if_neg (by omega), if_neg (by omega)]
  intro b4
  try simp only [nrmT] at b4
  unfold J0H; first | rw [if_pos (by omega)] | rw [if_neg (by omega), if_pos (by omega)] | rw [if_neg (by omega), if_neg (by omega)]
theorem J34 (a : Int) (b : Int)  : PC Tryz.prog 216 [.int .i64 a, .int .i64 b] (.one (.d (.int .i64 (J0H a b)))) :=
  pc_wf @Tryz.call216 fun _ => pc_by (by kernel_rfl) Tryz.func216 @Tryz.call216 (by kernel_rfl) J5o (J5N a b) (by kernel_rfl) (J5c a b) (by kernel_rfl)
def J2U : List D → Orc := orcN [none, none] fun ds => match ds with
  | [.int .i64 a, .int .i64 b] => some (.one (.d (.int .i64 (J0H a b))))
  | _ => none
abbrev JN (xs : ZI) (ys : ZI) (i : Int) : Prop := (0 ≤ i) ∧ (i ≤ (xs.length : Int)) ∧ (i ≤ (ys.length : Int)) ∧ (Jm xs ys = Jm (xs.drop i.toNat) (ys.drop i.toNat))
abbrev JM (xs : ZI) (ys : ZI) (i : Int) : Nat := (xs.length - i).toNat
def J3O (f : FuncId) (ds : List D) : Orc := bif Nat.beq f 216 then J2U ds else .no
def J3M (xs : ZI) (ys : ZI) : Ann := .two (.none) (.two (.two (.none) (.loop (cut1 (fun (i : Int) => JN xs ys i) (fun (i : Int) => [(0, .d false (.sl (.ints xs))), (1, .d false (.sl (.ints ys))), (9, .d false (.sl (.ints xs))), (10, .d true (.int .i64 (xs.length : Int))), (11, .d true (.int .i64 i))]) (fun (i : Int) => [])) (fun g => JM xs ys g) (fun _ => .none))) (.none))
def J1q (xs : ZI) (ys : ZI) : Prop :=
  ((∃ i' : Int, (JN xs ys i') ∧ (xs = xs) ∧ (ys = ys) ∧ (xs = xs) ∧ ((xs.length : Int) = (xs.length : Int)) ∧ ((0 : Int) = i')) ∧ (∀ i : Int, (JN xs ys i) → (((decide (i < (xs.length : Int))) = true → ((0 : Int) ≤ i) ∧ ((i : Int) < xs.length) ∧ (i.toNat < xs.length) ∧ (((decide (i ≥ (ys.length : Int))) = true → (((1 : Int) = (Jm xs ys)))) ∧ ((decide (i ≥ (ys.length : Int))) = false → ((0 : Int) ≤ i) ∧ ((i : Int) < ys.length) ∧ (i.toNat < ys.length) ∧ (PC Tryz.prog 216 [.int .i64 (xs.getD i.toNat 0), .int .i64 (ys.getD i.toNat 0)] (.one (.d (.int .i64 (J0H (xs.getD i.toNat 0) (ys.getD i.toNat 0)))))) ∧ ((((J0H (xs.getD i.toNat 0) (ys.getD i.toNat 0)) != 0) = true → (((J0H (xs.getD i.toNat 0) (ys.getD i.toNat 0)) = (Jm xs ys)))) ∧ (((J0H (xs.getD i.toNat 0) (ys.getD i.toNat 0)) != 0) = false → (I6 (i + 1)) ∧ (∃ i' : Int, (JN xs ys i') ∧ (JM xs ys i' < JM xs ys i) ∧ (xs = xs) ∧ (ys = ys) ∧ (xs = xs) ∧ ((xs.length : Int) = (xs.length : Int)) ∧ ((i + 1) = i'))))))) ∧ ((decide (i < (xs.length : Int))) = false → (((decide ((xs.length : Int) < (ys.length : Int))) = true → ((((-1) : Int) = (Jm xs ys)))) ∧ ((decide ((xs.length : Int) < (ys.length : Int))) = false → (((0 : Int) = (Jm xs ys)))))))))
theorem J3D (xs : ZI) (ys : ZI)  (w_xs : (xs.length : Int) ≤ 9223372036854775807) (w_ys : (ys.length : Int) ≤ 9223372036854775807) : J1q xs ys := by
  unfold J1q
  refine ⟨?_, ?_⟩
  ·refine ⟨0, ?_⟩
   refine ⟨?_, rfl, rfl, rfl, rfl, rfl⟩
   ·refine ⟨?_, ?_, ?_, ?_⟩
    ·omega
    ·omega
    ·omega
    ·rfl
  intro i hJ
  obtain ⟨h1, h2, h2y, h3⟩ := hJ
  refine ⟨?_, ?_⟩
  ·intro b1
   try simp only [nrmT] at b1
   refine ⟨?_, ?_, ?_, ?_, ?_⟩
   ·omega
   ·omega
   ·omega
   ·intro b2
    try simp only [nrmT] at b2
    exact (Jbn h3 (by omega) (by omega)).symm
   intro b3
   try simp only [nrmT] at b3
   refine ⟨?_, ?_, ?_, J34 (xs.getD i.toNat 0) (ys.getD i.toNat 0), ?_, ?_⟩
   ·omega
   ·omega
   ·omega
   ·intro b4
    try simp only [nrmT] at b4
    rw [J92 h3 (by omega) (by omega)]
    unfold J0H at b4 ⊢
    by_cases h5 : xs.getD i.toNat 0 < ys.getD i.toNat 0
    · rw [if_pos h5, if_pos h5]
    rw [if_neg h5] at b4 ⊢
    by_cases h6 : xs.getD i.toNat 0 > ys.getD i.toNat 0
    · rw [if_pos h6, if_neg h5, if_pos h6]
    rw [if_neg h6] at b4; omega
   intro b5
   try simp only [nrmT] at b5
   refine ⟨?_, ?_⟩
   ·omega
   refine ⟨(i + 1), ?_⟩
   refine ⟨?_, ?_, rfl, rfl, rfl, rfl, rfl⟩
   ·refine ⟨?_, ?_, ?_, ?_⟩
    ·omega
    ·omega
    ·omega
    ·have h7 := J92 h3 (by omega) (by omega)
     unfold J0H at b5
     rw [h7, show (i + 1).toNat = i.toNat + 1 by omega]
     by_cases h5 : xs.getD i.toNat 0 < ys.getD i.toNat 0
     · rw [if_pos h5] at b5; omega
     rw [if_neg h5] at b5 ⊢
     by_cases h6 : xs.getD i.toNat 0 > ys.getD i.toNat 0
     · rw [if_pos h6] at b5; omega
     rw [if_neg h6]
   (simp only [JM]; omega)
  intro b6
  try simp only [nrmT] at b6
  refine ⟨?_, ?_⟩
  ·intro b7
   try simp only [nrmT] at b7
   rw [Ja6 h3 (by omega) (by omega) (by omega), if_pos (by omega)]
  intro b8
  try simp only [nrmT] at b8
  rw [Ja6 h3 (by omega) (by omega) (by omega), if_neg (by omega)]
theorem J3A (xs : ZI) (ys : ZI)  : PC Tryz.prog 198 [.sl (.ints xs), .sl (.ints ys)] (.one (.d (.int .i64 (Jm xs ys)))) :=
  pc_wf @Tryz.call198 fun hw => pc_by (by kernel_rfl) Tryz.func198 @Tryz.call198 (by kernel_rfl) J3O (J3M xs ys) (by kernel_rfl) (J3D xs ys hw.1 hw.2.1) (by kernel_rfl)
def J3p : List D → Orc := orcN [some .ints, some .ints] fun ds => match ds with
  | [.sl (.ints xs), .sl (.ints ys)] => some (.one (.d (.int .i64 (Jm xs ys))))
  | _ => none
def lst (n code : Nat) : ZI := members (fun k => code.testBit k) n
theorem JcZ {n code : Nat} : ∀ x ∈ lst n code, 0 ≤ x ∧ x < (n : Int) := fun x hx => by
  have := mem_members.1 hx
  omega
theorem JcF {n code : Nat} : (lst n code).length ≤ n := members_len_le _ _
theorem JcL (n : Nat) : (1 : Int) * 2 ^ ((n : Int)).toNat = ((2 ^ n : Nat) : Int) := by
  rw [Int.toNat_natCast]; simp
theorem J43 {n k : Nat} (h : k < n) : (J3X n).getD k 0 = (k : Int) := by
  unfold J3X members
  have e : (List.range n).filter (fun _ => true) = List.range n := List.filter_eq_self.2 fun _ _ => rfl
  rw [e]
  simp [h]
theorem J4P (n : Nat) : (J3X n).length = n := by
  unfold J3X members
  have e : (List.range n).filter (fun _ => true) = List.range n := List.filter_eq_self.2 fun _ _ => rfl
  rw [e]; simp
def J0x (a b : ZI) : Int := if J0H (a.length : Int) (b.length : Int) = 0 then Jm a b else J0H (a.length : Int) (b.length : Int)
theorem J8F : ∀ x : ZI, Jm x x = 0
  | [] => rfl
  | x :: r => by unfold Jm; rw [if_neg (by omega), if_neg (by omega)]; exact J8F r
theorem J8Q : ∀ {x y : ZI}, Jm x y = 0 → x = y
  | [], [], _ => rfl
  | [], _ :: _, h => by simp [Jm] at h
  | _ :: _, [], h => by simp [Jm] at h
  | x :: r, y :: s, h => by
    unfold Jm at h
    by_cases h1 : x < y
    · rw [if_pos h1] at h; omega
    rw [if_neg h1] at h
    by_cases h2 : x > y
    · rw [if_pos h2] at h; omega
    rw [if_neg h2] at h
    have : x = y := by omega
    rw [this, J8Q h]
theorem J8O : ∀ {x y : ZI}, Jm x y < 0 ↔ 0 < Jm y x
  | [], [] => by simp [Jm]
  | [], _ :: _ => by simp [Jm]
  | _ :: _, [] => by simp [Jm]
  | x :: r, y :: s => by
    unfold Jm
    by_cases h1 : x < y
    · rw [if_pos h1, if_neg (by omega), if_pos (by omega)]; omega
    rw [if_neg h1]
    by_cases h2 : x > y
    · rw [if_pos h2, if_pos (by omega)]; omega
    rw [if_neg h2, if_neg (by omega), if_neg (by omega)]; exact J8O
theorem JaZ : ∀ {x y z : ZI}, Jm x y < 0 → Jm y z < 0 → Jm x z < 0
  | [], _, [], h1, h2 => by
    exfalso
    rename_i y
    cases y with
    | nil => simp [Jm] at h1
    | cons y s => simp [Jm] at h2
  | [], _, _ :: _, _, _ => by simp [Jm]
  | _ :: _, [], _, h, _ => by simp [Jm] at h
  | _ :: _, _ :: _, [], _, h => by simp [Jm] at h
  | x :: r, y :: s, z :: t, h1, h2 => by
    unfold Jm at h1 h2 ⊢
    by_cases a1 : x < y
    · by_cases a2 : y < z
      · rw [if_pos (by omega)]; omega
      · rw [if_neg a2] at h2
        by_cases a3 : y > z
        · rw [if_pos a3] at h2; omega
        rw [if_pos (by omega)]; omega
    rw [if_neg a1] at h1
    by_cases a4 : x > y
    · rw [if_pos a4] at h1; omega
    rw [if_neg a4] at h1
    by_cases a2 : y < z
    · rw [if_pos (by omega)]; omega
    rw [if_neg a2] at h2
    by_cases a3 : y > z
    · rw [if_pos a3] at h2; omega
    rw [if_neg a3] at h2
    rw [if_neg (by omega), if_neg (by omega)]
    exact JaZ h1 h2
theorem J1c (a b : ZI) : (a.length < b.length ∧ J0x a b < 0) ∨ (b.length < a.length ∧ 0 < J0x a b) ∨ (a.length = b.length ∧ J0x a b = Jm a b) := by
  unfold J0x J0H
  by_cases h1 : (a.length : Int) < b.length
  · rw [if_pos h1]; left; exact ⟨by omega, by rw [if_neg (by omega)]; omega⟩
  rw [if_neg h1]
  by_cases h2 : (a.length : Int) > b.length
  · rw [if_pos h2]; right; left; exact ⟨by omega, by rw [if_neg (by omega)]; omega⟩
  rw [if_neg h2]; right; right; exact ⟨by omega, by rw [if_pos rfl]⟩
theorem J8L (a : ZI) : J0x a a = 0 := by
  rcases J1c a a with h | h | h
  · omega
  · omega
  rw [h.2, J8F]
theorem J91 {a b : ZI} (h : J0x a b = 0) : a = b := by
  rcases J1c a b with h1 | h1 | h1
  · omega
  · omega
  exact J8Q (h1.2 ▸ h)
theorem J8U {a b : ZI} : J0x a b < 0 ↔ 0 < J0x b a := by
  rcases J1c a b with h1 | h1 | h1 <;> rcases J1c b a with h2 | h2 | h2
  · omega
  · omega
  · omega
  · omega
  · omega
  · omega
  · omega
  · omega
  rw [h1.2, h2.2]; exact J8O
theorem JaY {a b c : ZI} (h : J0x a b < 0) (k : J0x b c < 0) : J0x a c < 0 := by
  rcases J1c a b with h1 | h1 | h1 <;> rcases J1c b c with h2 | h2 | h2 <;> rcases J1c a c with h3 | h3 | h3
  all_goals first | omega | (rw [h3.2]; exact JaZ (h1.2 ▸ h) (h2.2 ▸ k))
theorem Jcc {β : Type} {c : β → β → Int} (hs : ∀ x, c x x = 0) (h0 : ∀ {x y}, c x y = 0 → x = y) (hf : ∀ {x y}, c x y < 0 ↔ 0 < c y x) (ht : ∀ {x y z}, c x y < 0 → c y z < 0 → c x z < 0) :
    Go.Sort.SWO (ltOf c) ∧ ∀ x y, ltOf c x y = false → ltOf c y x = false → x = y := by
  refine ⟨⟨fun x => ?_, fun x y z h1 h2 => ?_, fun x y z h1 h2 => ?_⟩, fun x y h1 h2 => ?_⟩
  · exact decide_eq_false (by rw [hs]; omega)
  · exact decide_eq_true (ht (of_decide_eq_true h1) (of_decide_eq_true h2))
  · have h1 := of_decide_eq_false h1
    have h2 := of_decide_eq_false h2
    refine decide_eq_false fun h3 => ?_
    by_cases e1 : c x y = 0
    · rw [h0 e1] at h3; omega
    by_cases e2 : c y z = 0
    · rw [← h0 e2] at h3; omega
    · have a1 : c y x < 0 := hf.2 (by omega)
      have a2 : c z y < 0 := hf.2 (by omega)
      have a3 := ht a2 a1
      have a4 := hf.1 h3
      omega
  have h1 := of_decide_eq_false h1
  have h2 := of_decide_eq_false h2
  refine h0 ?_
  by_cases e1 : 0 < c x y
  · have := hf.2 e1; omega
  omega
theorem Jd3 : Go.Sort.SWO (ltOf J0x) := (Jcc J8L J91 J8U JaY).1
theorem Jd1 : ∀ x y, ltOf J0x x y = false → ltOf J0x y x = false → x = y := (Jcc J8L J91 J8U JaY).2
def orI : ZI → Int
  | [] => 0
  | x :: r => if x = 0 then orI r else x
theorem Jab {xs : ZI} {i : Nat} (h : orI xs = orI (xs.drop i)) (hi : i < xs.length) : orI xs = if xs.getD i 0 = 0 then orI (xs.drop (i + 1)) else xs.getD i 0 := by
  rw [h, List.drop_eq_getElem_cons hi, JZ hi]; rfl
theorem JcN {xs : ZI} {i : Nat} (h : orI xs = orI (xs.drop i)) (hi : xs.length ≤ i) : orI xs = 0 := by
  rw [h, List.drop_eq_nil_of_le hi]; rfl
theorem JcO (a b : Int) : orI [a, b] = if a = 0 then b else a := by
  unfold orI orI orI
  by_cases h : b = 0
  · rw [if_pos h, h]
  rw [if_neg h]
def J4R (n m : Nat) : ZR := (List.range m).map fun c => lst n (c + 1)
def JQ (n : Nat) : ZR := (J4R n (2 ^ n - 1)).mergeSort fun x9 y9 => !(ltOf J0x) y9 x9
theorem J78 (n m : Nat) : (J4R n m).length = m := by simp [J4R]
theorem JbT (n : Nat) : (JQ n).length = 2 ^ n - 1 := by unfold JQ; rw [List.length_mergeSort, J78]
theorem JbJ (n m : Nat) : J4R n (m + 1) = J4R n m ++ [lst n (m + 1)] := by simp [J4R, List.range_succ]
theorem J8I {n : Nat} {s : ZI} : s ∈ JQ n ↔ ∃ c, 1 ≤ c ∧ c < 2 ^ n ∧ lst n c = s := by
  unfold JQ
  rw [(List.mergeSort_perm _ _).mem_iff, J4R, List.mem_map]
  constructor
  · rintro ⟨c, hc, rfl⟩
    have := List.mem_range.1 hc
    exact ⟨c + 1, by omega, by omega, rfl⟩
  rintro ⟨c, h1, h2, rfl⟩
  exact ⟨c - 1, List.mem_range.2 (by omega), by rw [show c - 1 + 1 = c by omega]⟩
theorem JcU {n c : Nat} (h1 : 1 ≤ c) (h2 : c < 2 ^ n) : 0 < (lst n c).length := by
  rcases Nat.eq_zero_or_pos (lst n c).length with h | h
  · exfalso
    have e : lst n c = [] := List.eq_nil_of_length_eq_zero h
    have : c = 0 := by
      apply Nat.eq_of_testBit_eq
      intro i
      rw [Nat.zero_testBit]
      by_cases hi : i < n
      · cases hb : c.testBit i with
        | false => rfl
        | true =>
          have hm : (i : Int) ∈ lst n c := mem_members.2 ⟨by omega, by omega, by rw [Int.toNat_natCast]; exact hb⟩
          rw [e] at hm; cases hm
      exact Nat.testBit_lt_two_pow (Nat.lt_of_lt_of_le h2 (Nat.pow_le_pow_right (by omega) (by omega)))
    omega
  exact h
theorem JcY {n c : Nat} (hn : n ≤ 62) (h : c < 2 ^ n) : members (fun k => c.testBit k) 62 = lst n c :=
  J1y (fun k hk => Nat.testBit_lt_two_pow (Nat.lt_of_lt_of_le h (Nat.pow_le_pow_right (by omega) hk))) 62 hn
abbrev J1p (xs : ZI) (i : Int) : Prop := (0 ≤ i) ∧ (i ≤ (xs.length : Int)) ∧ (orI xs = orI (xs.drop i.toNat))
abbrev J1s (xs : ZI) (i : Int) : Nat := (xs.length - i).toNat
def J9g (f : FuncId) (ds : List D) : Orc := .no
def J9y (xs : ZI) : Ann := .two (.none) (.two (.none) (.two (.two (.none) (.loop (cut1 (fun (i : Int) => J1p xs i) (fun (i : Int) => [(3, .d true (.int .i64 0)), (6, .d false (.sl (.ints xs))), (7, .d true (.int .i64 (xs.length : Int))), (8, .d true (.int .i64 i))]) (fun (i : Int) => [])) (fun g => J1s xs g) (fun _ => .none))) (.none)))
def J4Z (xs : ZI) : Prop :=
  ((∃ i' : Int, (J1p xs i') ∧ ((0 : Int) = 0) ∧ (xs = xs) ∧ ((xs.length : Int) = (xs.length : Int)) ∧ ((0 : Int) = i')) ∧ (∀ i : Int, (J1p xs i) → (((decide (i < (xs.length : Int))) = true → ((0 : Int) ≤ i) ∧ ((i : Int) < xs.length) ∧ (i.toNat < xs.length) ∧ ((((xs.getD i.toNat 0) != 0) = true → (((xs.getD i.toNat 0) = (orI xs)))) ∧ (((xs.getD i.toNat 0) != 0) = false → (I6 (i + 1)) ∧ (∃ i' : Int, (J1p xs i') ∧ (J1s xs i' < J1s xs i) ∧ ((0 : Int) = 0) ∧ (xs = xs) ∧ ((xs.length : Int) = (xs.length : Int)) ∧ ((i + 1) = i'))))) ∧ ((decide (i < (xs.length : Int))) = false → (((0 : Int) = (orI xs)))))))
theorem J8e (xs : ZI)  (w_xs : (xs.length : Int) ≤ 9223372036854775807) : J4Z xs := by
  unfold J4Z
  refine ⟨?_, ?_⟩
  ·refine ⟨0, ?_⟩
   refine ⟨?_, rfl, rfl, rfl, rfl⟩
   ·refine ⟨?_, ?_, ?_⟩
    ·omega
    ·omega
    ·rfl
  intro i hJ
  obtain ⟨h1, h2, h3⟩ := hJ
  refine ⟨?_, ?_⟩
  ·intro b1
   try simp only [nrmT] at b1
   refine ⟨?_, ?_, ?_, ?_, ?_⟩
   ·omega
   ·omega
   ·omega
   ·intro b2
    try simp only [nrmT] at b2
    rw [Jab h3 (by omega), if_neg (by omega)]
   intro b3
   try simp only [nrmT] at b3
   refine ⟨?_, ?_⟩
   ·omega
   refine ⟨(i + 1), ?_⟩
   refine ⟨?_, ?_, rfl, rfl, rfl, rfl⟩
   ·refine ⟨?_, ?_, ?_⟩
    ·omega
    ·omega
    ·rw [Jab h3 (by omega), if_pos (by omega), show (i + 1).toNat = i.toNat + 1 by omega]
   (simp only [J1s]; omega)
  intro b4
  try simp only [nrmT] at b4
  exact (JcN h3 (by omega)).symm
theorem J8f (xs : ZI)  : PC Tryz.prog 231 [.sl (.ints xs)] (.one (.d (.int .i64 (orI xs)))) :=
  pc_wf @Tryz.call231 fun hw => pc_by (by kernel_rfl) Tryz.func231 @Tryz.call231 (by kernel_rfl) J9g (J9y xs) (by kernel_rfl) (J8e xs hw.1) (by kernel_rfl)
def J7F : List D → Orc := orcN [some .ints] fun ds => match ds with
  | [.sl (.ints xs)] => some (.one (.d (.int .i64 (orI xs))))
  | _ => none
def J7p (f : FuncId) (ds : List D) : Orc := bif Nat.beq f 216 then J2U ds else bif Nat.beq f 198 then J3p ds else bif Nat.beq f 231 then J7F ds else .no
def J81 (xs : ZI) (ys : ZI) : Ann := .none
def J4t (xs : ZI) (ys : ZI) : Prop :=
  (PC Tryz.prog 216 [.int .i64 (xs.length : Int), .int .i64 (ys.length : Int)] (.one (.d (.int .i64 (J0H (xs.length : Int) (ys.length : Int)))))) ∧ (PC Tryz.prog 198 [.sl (.ints xs), .sl (.ints ys)] (.one (.d (.int .i64 (Jm xs ys))))) ∧ ((2 : Nat) = 2) ∧ (PC Tryz.prog 231 [.sl (.ints ([(J0H (xs.length : Int) (ys.length : Int)), (Jm xs ys)]))] (.one (.d (.int .i64 (orI ([(J0H (xs.length : Int) (ys.length : Int)), (Jm xs ys)])))))) ∧ (((orI ([(J0H (xs.length : Int) (ys.length : Int)), (Jm xs ys)])) = (J0x xs ys)))
theorem J6E (xs : ZI) (ys : ZI)  (w_xs : (xs.length : Int) ≤ 9223372036854775807) (w_ys : (ys.length : Int) ≤ 9223372036854775807) : J4t xs ys := by
  unfold J4t
  refine ⟨J34 (xs.length : Int) (ys.length : Int), J3A xs ys, rfl, J8f ([(J0H (xs.length : Int) (ys.length : Int)), (Jm xs ys)]), ?_⟩
  ·rw [JcO]; rfl
theorem J7c (xs : ZI) (ys : ZI)  : PC Tryz.prog 205 [.sl (.ints xs), .sl (.ints ys)] (.one (.d (.int .i64 (J0x xs ys)))) :=
  pc_wf @Tryz.call205 fun hw => pc_by (by kernel_rfl) Tryz.func205 @Tryz.call205 (by kernel_rfl) J7p (J81 xs ys) (by kernel_rfl) (J6E xs ys hw.1 hw.2.1) (by kernel_rfl)
theorem J2J (xss : ZR) (hz : xss.length < 4611686018427387904) : PU Tryz.prog 204 24 (.rows xss) (.rows (xss.mergeSort (fun x9 y9 => !(ltOf J0x) y9 x9))) [.fn 205 0 []] false :=
  pu_sortFunc Tryz.laySortRows 24 xss (fun x => .sl (.ints x)) J0x Jd3 Jd1 205 (fun x _ y _ => J7c x y) _ _ rfl rfl rfl (List.length_mergeSort _) (fun _ => rfl) (fun i x h => by simp [Mem.get, h]) (fun i x h => by simp [Mem.get, h]) hz @Tryz.call205
abbrev J0u (b : Int) (out : ZI) (x : Int) : Prop := (0 ≤ x) ∧ (x ≤ 62) ∧ (out = members (fun k => b.toNat.testBit k) x.toNat)
abbrev JR (b : Int) (out : ZI) (x : Int) : Nat := (62 - x).toNat
def J8k (f : FuncId) (ds : List D) : Orc := bif Nat.beq f 138 then J51 ds else .no
def J88 (b : Int) : Ann := .two (.none) (.two (.none) (.two (.two (.none) (.loop (cut2 (fun (out : ZI) (x : Int) => J0u b out x) (fun (out : ZI) (x : Int) => [(0, .d false (.int .u64 b)), (3, .own 1000000 out.length), (4, .d true (.int .i64 x))]) (fun (out : ZI) (x : Int) => [(1000000, .arr true 3 (.ints out))])) (fun g => JR b g.1 g.2) (fun _ => .none))) (.none)))
def J4O (b : Int) : Prop :=
  ((∃ out' : ZI, ∃ x' : Int, (J0u b out' x') ∧ (b = b) ∧ ((0 : Nat) = out'.length) ∧ ((0 : Int) = x') ∧ ([] = out')) ∧ (∀ out : ZI, ∀ x : Int, (J0u b out x) → ((0 : Int) ≤ b ∧ (b : Int) ≤ 18446744073709551615) ∧ ((0 : Int) ≤ x) ∧ (((decide ((b / 2 ^ x.toNat) > 0)) = true → (PC Tryz.prog 138 [.int .u64 b, .int .i64 x] (.one (.d (.bool (b.toNat.testBit x.toNat))))) ∧ (((b.toNat.testBit x.toNat) = true → (out.length = out.length) ∧ ((1 : Nat) = 1) ∧ ((out.length + 1) * 8 ≤ 140737488355328) ∧ (I6 (x + 1)) ∧ (∃ out' : ZI, ∃ x' : Int, (J0u b out' x') ∧ (JR b out' x' < JR b out x) ∧ (b = b) ∧ ((out.length + 1) = out'.length) ∧ ((x + 1) = x') ∧ ((out ++ [x]) = out'))) ∧ ((b.toNat.testBit x.toNat) = false → (I6 (x + 1)) ∧ (∃ out' : ZI, ∃ x' : Int, (J0u b out' x') ∧ (JR b out' x' < JR b out x) ∧ (b = b) ∧ (out.length = out'.length) ∧ ((x + 1) = x') ∧ (out = out'))))) ∧ ((decide ((b / 2 ^ x.toNat) > 0)) = false → ((out.length = out.length) ∧ ((out : ZI) = (members (fun k => b.toNat.testBit k) 62)))))))
theorem J7Z (b : Int) (hb : 0 ≤ b ∧ b ≤ 4611686018427387903)  : J4O b := by
  unfold J4O
  refine ⟨?_, ?_⟩
  ·refine ⟨([]), 0, ?_⟩
   refine ⟨?_, rfl, rfl, rfl, ?_⟩
   ·refine ⟨?_, ?_, ?_⟩
    ·omega
    ·omega
    ·rfl
   rfl
  intro out x hJ
  obtain ⟨h1, h2, h3⟩ := hJ
  refine ⟨?_, ?_, ?_, ?_⟩
  ·omega
  ·omega
  ·intro b1
   try simp only [nrmT] at b1
   refine ⟨?_, ?_, ?_⟩
   ·refine J5I b x ?_ ?_
    ·omega
    ·omega
   ·intro b2
    try simp only [nrmT] at b2
    refine ⟨rfl, rfl, ?_, ?_, ?_⟩
    ·rw [h3]; have := members_len_le (fun k => b.toNat.testBit k) x.toNat; omega
    ·omega
    refine ⟨(out ++ [x]), (x + 1), ?_⟩
    refine ⟨?_, ?_, rfl, ?_, rfl, rfl⟩
    ·refine ⟨?_, ?_, ?_⟩
     ·omega
     ·have := J5G hb h2 b1; omega
     ·rw [h3, show (x + 1).toNat = x.toNat + 1 by omega, members_succ, b2]; simp; try omega
    ·have := J5G hb h2 b1
     (simp only [JR]; omega)
    (simp_all; done)
   intro b3
   try simp only [nrmT] at b3
   refine ⟨?_, ?_⟩
   ·omega
   refine ⟨out, (x + 1), ?_⟩
   refine ⟨?_, ?_, rfl, rfl, rfl, rfl⟩
   ·refine ⟨?_, ?_, ?_⟩
    ·omega
    ·have := J5G hb h2 b1; omega
    ·rw [h3, show (x + 1).toNat = x.toNat + 1 by omega, members_succ, b3]; simp; try omega
   have := J5G hb h2 b1
   (simp only [JR]; omega)
  intro b4
  try simp only [nrmT] at b4
  refine ⟨rfl, ?_⟩
  ·rw [h3]; refine (J1y (fun k hk => JaX hb.1 (m := x.toNat) (by omega) k hk) 62 (by omega)).symm
theorem J7Q (b : Int) (hb : 0 ≤ b ∧ b ≤ 4611686018427387903) : PC Tryz.prog 139 [.int .u64 b] (.one (.d (.sl (.ints (members (fun k => b.toNat.testBit k) 62))))) :=
  pc_wf @Tryz.call139 fun _ => pc_by (by kernel_rfl) Tryz.func139 @Tryz.call139 (by kernel_rfl) J8k (J88 b) (by kernel_rfl) (J7Z b hb) (by kernel_rfl)
abbrev J3P (n : Int) (out : ZR) (b : Int) : Prop := (1 ≤ b) ∧ (b ≤ ((2 ^ n.toNat : Nat) : Int)) ∧ (out = J4R n.toNat (b.toNat - 1))
abbrev J3Q (n : Int) (out : ZR) (b : Int) : Nat := (((2 ^ n.toNat : Nat) : Int) - b).toNat
abbrev J3T (n : Int) (out2 : ZR) : Prop := (out2 = J4R n.toNat (2 ^ n.toNat - 1))
def Jcl (f : FuncId) (ds : List D) : Orc := .no
def Jcu (n : Int) : Ann := .two (.none) (.two (.none) (.cut (.two (.none) (.loop (cut2 (fun (out : ZR) (b : Int) => J3P n out b) (fun (out : ZR) (b : Int) => [(0, .d false (.int .i64 n)), (3, .own 1000000 out.length), (4, .d true (.int .u64 b))]) (fun (out : ZR) (b : Int) => [(1000000, .arr true 24 (.rows out))])) (fun g => J3Q n g.1 g.2) (fun g => (fun (out : ZR) (b : Int) => .two (.none) (.two (.reg [(2, .call none (.one (.d (.sl (.ints (members (fun k => b.toNat.testBit k) 62))))))]) (.none))) (g.1) (g.2)))) (cut1 (fun (out2 : ZR) => J3T n out2) (fun (out2 : ZR) => [(3, .own 1000050 out2.length)]) (fun (out2 : ZR) => [(1000050, .arr true 24 (.rows out2))])) (fun g => (fun (out2 : ZR) => .two (.mark [] [(1, .up (.rows (out2.mergeSort (fun x9 y9 => !(ltOf J0x) y9 x9))) false)]) (.none)) g)))
def J9W (n : Int) : Prop :=
  ((((∃ out' : ZR, ∃ b' : Int, (J3P n out' b') ∧ (n = n) ∧ ((0 : Nat) = out'.length) ∧ ((1 : Int) = b') ∧ ([] = out')) ∧ (∀ out : ZR, ∀ b : Int, (J3P n out b) → ((0 : Int) ≤ 1) ∧ ((0 : Int) ≤ n) ∧ ((0 : Int) ≤ ((1 : Int) * 2 ^ n.toNat) ∧ (((1 : Int) * 2 ^ n.toNat) : Int) ≤ 18446744073709551615) ∧ (((decide (b < ((1 : Int) * 2 ^ n.toNat))) = true → (PC Tryz.prog 139 [.int .u64 b] (.one (.d (.sl (.ints (members (fun k => b.toNat.testBit k) 62)))))) ∧ (out.length = out.length) ∧ ((1 : Nat) = 1) ∧ ((out.length + 1) * 24 ≤ 140737488355328) ∧ (0 ≤ (b + 1) ∧ (b + 1) ≤ 18446744073709551615) ∧ (∃ out' : ZR, ∃ b' : Int, (J3P n out' b') ∧ (J3Q n out' b' < J3Q n out b) ∧ (n = n) ∧ ((out.length + 1) = out'.length) ∧ ((b + 1) = b') ∧ ((out ++ [(members (fun k => b.toNat.testBit k) 62)]) = out'))) ∧ ((decide (b < ((1 : Int) * 2 ^ n.toNat))) = false → (∃ out2' : ZR, (J3T n out2') ∧ (out.length = out2'.length) ∧ (out = out2'))))))) ∧ (∀ out2 : ZR, (J3T n out2) → (out2.length = out2.length) ∧ (PU Tryz.prog 204 24 (.rows out2) (.rows (out2.mergeSort (fun x9 y9 => !(ltOf J0x) y9 x9))) [.fn 205 0 []] false) ∧ ((out2.length = (out2.mergeSort (fun x9 y9 => !(ltOf J0x) y9 x9)).length) ∧ (((out2.mergeSort (fun x9 y9 => !(ltOf J0x) y9 x9)) : ZR) = JQ n.toNat))))
theorem JbF (n : Int) (hn : 0 ≤ n ∧ n ≤ 8)  : J9W n := by
  unfold J9W
  have p7 := Jd2 (n := n.toNat) (by omega)
  have pp := Nat.two_pow_pos n.toNat
  have e0 := JcL n.toNat
  have e1 : ((2 : Int) ^ n.toNat) = ((2 ^ n.toNat : Nat) : Int) := by simp
  refine ⟨?_, ?_⟩
  ·refine ⟨?_, ?_⟩
   ·refine ⟨([]), 1, ?_⟩
    refine ⟨?_, rfl, rfl, rfl, ?_⟩
    ·refine ⟨?_, ?_, ?_⟩
     ·omega
     ·generalize 2 ^ n.toNat = M at *
      omega
     ·rfl
    rfl
   ·intro out b hJ
    obtain ⟨h1, h2, h3⟩ := hJ
    refine ⟨?_, ?_, ?_, ?_, ?_⟩
    ·omega
    ·omega
    ·rw [Int.one_mul, e1]
     generalize 2 ^ n.toNat = M at *
     omega
    ·intro b1
     try simp only [nrmT] at b1
     refine ⟨?_, rfl, rfl, ?_, ?_, ?_⟩
     ·refine J7Q b ?_
      ·rw [Int.one_mul, e1] at b1
       generalize 2 ^ n.toNat = M at *
       omega
     ·rw [Int.one_mul, e1] at b1
      rw [h3, J78]
      generalize 2 ^ n.toNat = M at *
      omega
     ·rw [Int.one_mul, e1] at b1
      generalize 2 ^ n.toNat = M at *
      omega
     refine ⟨(out ++ [(members (fun k => b.toNat.testBit k) 62)]), (b + 1), ?_⟩
     refine ⟨?_, ?_, rfl, ?_, rfl, rfl⟩
     ·refine ⟨?_, ?_, ?_⟩
      ·omega
      ·rw [Int.one_mul, e1] at b1
       generalize 2 ^ n.toNat = M at *
       omega
      ·rw [Int.one_mul, e1] at b1
       have hb : b.toNat < 2 ^ n.toNat := by
         generalize 2 ^ n.toNat = M at *
         omega
       rw [h3, show (b + 1).toNat - 1 = (b.toNat - 1) + 1 by omega, JbJ, show b.toNat - 1 + 1 = b.toNat by omega, JcY (n := n.toNat) (by omega) hb]
     ·rw [Int.one_mul, e1] at b1
      (simp only [J3Q]; omega)
     first | omega | rfl | (intro hg; simp only [nrmT] at hg; omega) | (intro g1 g2; simp [g1, g2]; done) | (intro g1; simp at g1 ⊢; simp [g1]; done) | (simp only [nrmT] at *; omega) | (simp at * <;> omega) | (simp_all <;> omega) | (simp_all; done)
    intro b2
    try simp only [nrmT] at b2
    refine ⟨out, ?_⟩
    refine ⟨?_, rfl, rfl⟩
    ·unfold J3T
     rw [Int.one_mul, e1] at b2
     have hm : b.toNat - 1 = 2 ^ n.toNat - 1 := by
       generalize 2 ^ n.toNat = M at *
       omega
     rw [h3, hm]
  intro out2 hJ
  have h8 := hJ
  refine ⟨rfl, ?_, ?_, ?_⟩
  ·refine J2J out2 ?_
   ·rw [h8, J78]
    generalize 2 ^ n.toNat = M at *
    omega
  ·simp
  rw [h8]; rfl
theorem JbZ (n : Int) (hn : 0 ≤ n ∧ n ≤ 8) : PC Tryz.prog 115 [.int .i64 n] (.one (.own 24 (.rows (JQ n.toNat)))) :=
  pc_wf @Tryz.call115 fun _ => pc_by (by kernel_rfl) Tryz.func115 @Tryz.call115 (by kernel_rfl) Jcl (Jcu n) (by kernel_rfl) (JbF n hn) (by kernel_rfl)
def Jb5 : List D → Orc := orcN [none] fun ds => match ds with
  | [.int .i64 n] => some (.one (.own 24 (.rows (JQ n.toNat))))
  | _ => none
theorem J8N {l : ZI} {lo hi : Int} (ha : Asc l) (hb : ∀ x ∈ l, lo ≤ x ∧ x ≤ hi) : J2 l lo hi = true :=
  allTo_iff.2 fun k hk => by
    unfold J1D
    rw [Bool.and_eq_true, Bool.or_eq_true]
    refine ⟨decide_eq_true (hb _ (getD_mem hk)), ?_⟩
    by_cases e : k = 0
    · exact .inl (decide_eq_true e)
    right
    have := List.pairwise_iff_getElem.1 ha (k - 1) k (by omega) hk (by omega)
    rw [JZ hk, JZ (by omega)]
    exact decide_eq_true this
theorem JcQ {n c : Nat} : Asc (lst n c) := asc_members _ _
theorem J8x {U : ZI} {E : ZR} (hg : J0 U E = true) {s : ZI} (hs : s ∈ JQ (U.length : Int).toNat) :
    (J0 U E && J2 s 0 ((U.length : Int) - 1) && decide (0 < s.length)) = true ∧ s.length ≤ 7 := by
  obtain ⟨g1, g2, g3⟩ := J9 hg
  rw [Int.toNat_natCast] at hs
  obtain ⟨c, h1, h2, rfl⟩ := J8I.1 hs
  have hl := JcF (n := U.length) (code := c)
  refine ⟨?_, by omega⟩
  rw [hg, J8N JcQ (fun x hx => by have := JcZ x hx; omega), decide_eq_true (JcU h1 h2)]
  rfl
theorem Jcm {n : Nat} (h : 1 ≤ n) : 0 < (JQ n).length := by
  rw [JbT]
  have := Nat.pow_le_pow_right (n := 2) (by omega) h
  omega
def lsB (v : ZI → Int) (b s : ZI) : ZI := if v s < v b then s else b
def J3Y (v : ZI → Int) (l : ZR) : ZI := l.foldl (lsB v) (l.getD 0 [])
theorem J8K {α β : Type} {f : β → α → β} {b : β} {l : List α} {i : Int} {d : α} (h0 : 0 ≤ i) (h : i < (l.length : Int)) : (l.take (i + 1).toNat).foldl f b = f ((l.take i.toNat).foldl f b) (l.getD i.toNat d) := by
  rw [take_step (d := d) h0 h, List.foldl_append]
  rfl
theorem J82 {v : ZI → Int} {l : ZR} (h : 0 < l.length) : J3Y v l ∈ l := by
  have key : ∀ (r : ZR) (b : ZI), b ∈ l → (∀ x ∈ r, x ∈ l) → r.foldl (lsB v) b ∈ l := by
    intro r
    induction r with
    | nil => intro b hb _; exact hb
    | cons x r ih =>
      intro b hb hr
      refine ih _ ?_ fun y hy => hr y (List.mem_cons_of_mem _ hy)
      unfold lsB
      split
      · exact hr x List.mem_cons_self
      exact hb
  exact key l _ (getD_mem h) fun x hx => hx
def J2z (xs : ZI) (k : Nat) : Int := foldTo (fun m j => m + xs.getD j 0) 0 k
theorem J3r (xs : ZI) (k : Nat) : J2z xs (k + 1) = J2z xs k + xs.getD k 0 := rfl
theorem J5U {xs : ZI} (h : ∀ x ∈ xs, 0 ≤ x ∧ x ≤ 99) : ∀ k, k ≤ xs.length → 0 ≤ J2z xs k ∧ J2z xs k ≤ 99 * k
  | 0, _ => by simp [J2z, foldTo]
  | k + 1, hk => by
    have h1 := J5U h k (by omega)
    have h2 := h _ (getD_mem (d := 0) (show k < xs.length by omega))
    rw [J3r]
    omega
def J5 (E : ZR) (set : ZI) : Int := J2z (JW E set E.length) E.length
theorem J48 {U : ZI} {E : ZR} {set : ZI} (ht : (J0 U E && J2 set 0 ((U.length : Int) - 1) && decide (0 < set.length)) = true) {j : Nat} (hj : j < E.length) : 0 ≤ Jo E set j ∧ Jo E set j ≤ 99 := by
  obtain ⟨hg, hs, hp⟩ := J7 ht
  obtain ⟨rl, rb⟩ := Jv hg hj
  have si := J1B (row := E.getD j []) (set := set) (n := (U.length : Int)) (fun k hk => by have := J16 hs k hk; omega) hp set.length (Nat.le_refl _)
  exact rb _ (by omega)
theorem J73 {U : ZI} {E : ZR} {set : ZI} (ht : (J0 U E && J2 set 0 ((U.length : Int) - 1) && decide (0 < set.length)) = true) : ∀ x ∈ JW E set E.length, 0 ≤ x ∧ x ≤ 99 := by
  intro x hx
  obtain ⟨j, hj, rfl⟩ := List.mem_map.1 hx
  exact J48 ht (List.mem_range.1 hj)
theorem J8 {U : ZI} {E : ZR} {set : ZI} (ht : (J0 U E && J2 set 0 ((U.length : Int) - 1) && decide (0 < set.length)) = true) : 0 ≤ J5 E set ∧ J5 E set ≤ 693 := by
  have h1 := J5U (J73 ht) E.length (by rw [J3n]; exact Nat.le_refl _)
  obtain ⟨hg, hs, hp⟩ := J7 ht
  have h2 := J9 hg
  unfold J5
  omega
theorem Jbd {g : Addr → Option Value} {O : Nat → Prop} {v : Value} {x : ZI} (h : R g O v (.sl (.ints x))) : ∃ (ad : Option Addr) (cap : Nat), v = .slice ad x.length cap := by
  cases h with
  | slnil _ h0 => exact ⟨none, 0, by rw [show x.length = 0 from h0]⟩
  | sl _ a n cap hn _ _ _ _ => exact ⟨some a, cap, by rw [hn]; rfl⟩
theorem Jcn {g : Addr → Option Value} {O : Nat → Prop} {v : Value} {k : Int} (h : R g O v (.bx [.int .i64 k] 0)) : ∃ b : Addr, v = .pointer (some b) ∧ g b = some (.int .i64 k) := by
  cases h with
  | bx _ a _ f hc hr =>
    refine ⟨a.add 0, rfl, ?_⟩
    have h1 := (hc 0 (by simp)).1
    have h2 := hr 0 (.int .i64 k) rfl
    rw [h1]
    cases hf : f 0 <;> rw [hf] at h2 <;> cases h2
    rfl
theorem Jcp {n k : Nat} (h : k ≤ n) : (lst n (2 ^ k - 1)).length = k := by
  unfold lst
  rw [J1y (m := k) (fun i hi => Nat.testBit_lt_two_pow (Nat.lt_of_lt_of_le (Nat.sub_lt (Nat.two_pow_pos k) (by omega)) (Nat.pow_le_pow_right (by omega) hi))) n h, Jc4, J4P]
theorem Jce {n : Nat} {k : Int} (h1 : 1 ≤ k) (h2 : k ≤ n) : ∃ s ∈ JQ n, (s.length : Int) = k := by
  refine ⟨lst n (2 ^ k.toNat - 1), J8I.2 ⟨_, ?_, ?_, rfl⟩, by rw [Jcp (by omega)]; omega⟩
  · have := Nat.pow_le_pow_right (n := 2) (by omega) (show 1 ≤ k.toNat by omega)
    omega
  have h3 := Nat.pow_le_pow_right (n := 2) (by omega) (show k.toNat ≤ n by omega)
  have h4 := Nat.two_pow_pos k.toNat
  omega
theorem Jb7 {p : ZI → Bool} {l : ZR} (h : ∃ s ∈ l, p s = true) : 0 < (l.filter p).length := by
  obtain ⟨s, h1, h2⟩ := h
  exact List.length_pos_of_mem (List.mem_filter.2 ⟨h1, h2⟩)
def J2E (U : ZI) (E : ZR) (k : Int) : ZI := J3Y (J5 E) ((JQ (U.length : Int).toNat).filter fun x9 => !(decide ((x9.length : Int) ≠ k)))
theorem J8h {U : ZI} {k : Int} (hk : 1 ≤ k ∧ k ≤ (U.length : Int)) : 0 < ((JQ (U.length : Int).toNat).filter fun x9 => !(decide ((x9.length : Int) ≠ k))).length := by
  obtain ⟨s, h1, h2⟩ := Jce (n := (U.length : Int).toNat) hk.1 (by omega)
  exact Jb7 ⟨s, h1, by simp [h2]⟩
theorem JaW {U : ZI} {k : Int} {E : ZR} (hk : 1 ≤ k ∧ k ≤ (U.length : Int)) : J2E U E k ∈ JQ (U.length : Int).toNat :=
  (List.mem_filter.1 (J82 (J8h hk))).1
abbrev J4r (list : ZI) (m : Int) (i : Int) : Prop := (0 ≤ i) ∧ (i ≤ (list.length : Int)) ∧ (m = J2z list i.toNat)
abbrev J4C (list : ZI) (m : Int) (i : Int) : Nat := (list.length - i).toNat
def JcT (f : FuncId) (ds : List D) : Orc := .no
def JcM (list : ZI) : Ann := .two (.none) (.two (.none) (.two (.two (.none) (.loop (cut2 (fun (m : Int) (i : Int) => J4r list m i) (fun (m : Int) (i : Int) => [(3, .d true (.int .i64 m)), (6, .d false (.sl (.ints list))), (7, .d true (.int .i64 (list.length : Int))), (8, .d true (.int .i64 i))]) (fun (m : Int) (i : Int) => [])) (fun g => J4C list g.1 g.2) (fun _ => .none))) (.none)))
def JaQ (list : ZI) : Prop :=
  ((∃ m' : Int, ∃ i' : Int, (J4r list m' i') ∧ ((0 : Int) = m') ∧ (list = list) ∧ ((list.length : Int) = (list.length : Int)) ∧ ((0 : Int) = i')) ∧ (∀ m : Int, ∀ i : Int, (J4r list m i) → (((decide (i < (list.length : Int))) = true → ((0 : Int) ≤ i) ∧ ((i : Int) < list.length) ∧ (i.toNat < list.length) ∧ (I6 (m + (list.getD i.toNat 0))) ∧ (I6 (i + 1)) ∧ (∃ m' : Int, ∃ i' : Int, (J4r list m' i') ∧ (J4C list m' i' < J4C list m i) ∧ ((m + (list.getD i.toNat 0)) = m') ∧ (list = list) ∧ ((list.length : Int) = (list.length : Int)) ∧ ((i + 1) = i'))) ∧ ((decide (i < (list.length : Int))) = false → ((m = (J2z list list.length)))))))
theorem Jch (list : ZI) (hx : ∀ x ∈ list, 0 ≤ x ∧ x ≤ 99) (hl : list.length ≤ 7) (w_list : (list.length : Int) ≤ 9223372036854775807) : JaQ list := by
  unfold JaQ
  refine ⟨?_, ?_⟩
  ·refine ⟨0, 0, ?_⟩
   refine ⟨?_, rfl, rfl, rfl, rfl⟩
   ·refine ⟨?_, ?_, ?_⟩
    ·omega
    ·omega
    ·rfl
  intro m i hJ
  obtain ⟨h1, h2, h3⟩ := hJ
  refine ⟨?_, ?_⟩
  ·intro b1
   try simp only [nrmT] at b1
   refine ⟨?_, ?_, ?_, ?_, ?_, ?_⟩
   ·omega
   ·omega
   ·omega
   ·have h4 := J5U hx i.toNat (by omega)
    have h5 := hx _ (getD_memI (d := 0) h1 (by omega))
    omega
   ·omega
   refine ⟨(m + (list.getD i.toNat 0)), (i + 1), ?_⟩
   refine ⟨?_, ?_, rfl, rfl, rfl, rfl⟩
   ·refine ⟨?_, ?_, ?_⟩
    ·omega
    ·omega
    ·rw [h3, show (i + 1).toNat = i.toNat + 1 by omega, J3r]
   (simp only [J4C]; omega)
  intro b2
  try simp only [nrmT] at b2
  rw [h3, show i.toNat = list.length by omega]
theorem Jck (list : ZI) (hx : ∀ x ∈ list, 0 ≤ x ∧ x ≤ 99) (hl : list.length ≤ 7) : PC Tryz.prog 207 [.sl (.ints list)] (.one (.d (.int .i64 (J2z list list.length)))) :=
  pc_wf @Tryz.call207 fun hw => pc_by (by kernel_rfl) Tryz.func207 @Tryz.call207 (by kernel_rfl) JcT (JcM list) (by kernel_rfl) (Jch list hx hl hw.1) (by kernel_rfl)
def JbK : List D → Orc := orcN [some .ints] fun ds => match ds with
  | [.sl (.ints list)] => some (.one (.d (.int .i64 (J2z list list.length))))
  | _ => none
abbrev J2k (U : ZI) (E : ZR) (set : ZI) (m : Int) (i : Int) : Prop := (0 ≤ i) ∧ (i ≤ (E.length : Int)) ∧ (m = J2z (JW E set E.length) i.toNat)
abbrev J2m (U : ZI) (E : ZR) (set : ZI) (m : Int) (i : Int) : Nat := (E.length - i).toNat
def Jan (f : FuncId) (ds : List D) : Orc := bif Nat.beq f 150 then J7U ds else .no
def JaF (U : ZI) (E : ZR) (set : ZI) : Ann := .two (.none) (.two (.none) (.two (.two (.none) (.loop (cut2 (fun (m : Int) (i : Int) => J2k U E set m i) (fun (m : Int) (i : Int) => [(1, .d false (.sl (.ints set))), (2, .ptr 2 0), (5, .d true (.int .i64 m)), (6, .d true (.int .i64 i))]) (fun (m : Int) (i : Int) => [(2, .box 27 [.d false (.sl (.ints U)), .d false (.sl (.rows E))])])) (fun g => J2m U E set g.1 g.2) (fun _ => .none))) (.none)))
def J6x (U : ZI) (E : ZR) (set : ZI) : Prop :=
  ((∃ m' : Int, ∃ i' : Int, (J2k U E set m' i') ∧ (set = set) ∧ ((0 : Int) = m') ∧ ((0 : Int) = i') ∧ (U = U) ∧ (E = E)) ∧ (∀ m : Int, ∀ i : Int, (J2k U E set m i) → (((decide (i < (E.length : Int))) = true → (PC Tryz.prog 150 [.agg [.sl (.ints U), .sl (.rows E)], .int .i64 i, .sl (.ints set)] (.one (.d (.int .i64 ((E.getD i.toNat []).getD (Ji (E.getD i.toNat []) set set.length).toNat 0))))) ∧ (I6 (m + ((E.getD i.toNat []).getD (Ji (E.getD i.toNat []) set set.length).toNat 0))) ∧ (I6 (i + 1)) ∧ (∃ m' : Int, ∃ i' : Int, (J2k U E set m' i') ∧ (J2m U E set m' i' < J2m U E set m i) ∧ (set = set) ∧ ((m + ((E.getD i.toNat []).getD (Ji (E.getD i.toNat []) set set.length).toNat 0)) = m') ∧ ((i + 1) = i') ∧ (U = U) ∧ (E = E))) ∧ ((decide (i < (E.length : Int))) = false → ((m = (J5 E set)))))))
theorem J9N (U : ZI) (E : ZR) (set : ZI) (ht : (J0 U E && J2 set 0 ((U.length : Int) - 1) && decide (0 < set.length)) = true) (w_Open : (U.length : Int) ≤ 9223372036854775807) (w_Dist : (E.length : Int) ≤ 9223372036854775807) (v_Dist : ∀ x9 ∈ E, (x9.length : Int) ≤ 9223372036854775807) (w_set : (set.length : Int) ≤ 9223372036854775807) : J6x U E set := by
  unfold J6x
  obtain ⟨hg, hs, hp⟩ := J7 ht
  obtain ⟨g1, g2, g3⟩ := J9 hg
  refine ⟨?_, ?_⟩
  ·refine ⟨0, 0, ?_⟩
   refine ⟨?_, rfl, rfl, rfl, rfl, rfl⟩
   ·refine ⟨?_, ?_, ?_⟩
    ·omega
    ·omega
    ·rfl
  intro m i hJ
  obtain ⟨h1, h2, h3⟩ := hJ
  refine ⟨?_, ?_⟩
  ·intro b1
   try simp only [nrmT] at b1
   refine ⟨?_, ?_, ?_, ?_⟩
   ·refine J89 U E i set ?_ ?_
    ·exact ht
    ·omega
   ·have h4 := J5U (J73 ht) i.toNat (by rw [J3n]; omega)
    have h5 := J48 ht (show i.toNat < E.length by omega)
    unfold Jo at h5
    omega
   ·omega
   refine ⟨(m + ((E.getD i.toNat []).getD (Ji (E.getD i.toNat []) set set.length).toNat 0)), (i + 1), ?_⟩
   refine ⟨?_, ?_, rfl, rfl, rfl, rfl, rfl⟩
   ·refine ⟨?_, ?_, ?_⟩
    ·omega
    ·omega
    ·rw [h3, show (i + 1).toNat = i.toNat + 1 by omega, J3r, J3L _ _ _ _ (by omega)]; rfl
   (simp only [J2m]; omega)
  intro b2
  try simp only [nrmT] at b2
  rw [h3, show i.toNat = E.length by omega]; rfl
theorem J5S (U : ZI) (E : ZR) (set : ZI) (ht : (J0 U E && J2 set 0 ((U.length : Int) - 1) && decide (0 < set.length)) = true) : PC Tryz.prog 137 [.agg [.sl (.ints U), .sl (.rows E)], .sl (.ints set)] (.one (.d (.int .i64 (J5 E set)))) :=
  pc_wf @Tryz.call137 fun hw => pc_by (by kernel_rfl) Tryz.func137 @Tryz.call137 (by kernel_rfl) Jan (JaF U E set) (by kernel_rfl) (J9N U E set ht hw.1.1 hw.1.2.1.1 hw.1.2.1.2 hw.2.1) (by kernel_rfl)
def J9c : List D → Orc := orcN [none, some .ints] fun ds => match ds with
  | [.agg [.sl (.ints U), .sl (.rows E)], .sl (.ints set)] => some (.one (.d (.int .i64 (J5 E set))))
  | _ => none
def J66 (f : FuncId) (ds : List D) : Orc := bif Nat.beq f 149 then J5a ds else bif Nat.beq f 207 then JbK ds else .no
def J6l (U : ZI) (E : ZR) (set : ZI) : Ann := .none
def J3E (U : ZI) (E : ZR) (set : ZI) : Prop :=
  (PC Tryz.prog 149 [.agg [.sl (.ints U), .sl (.rows E)], .sl (.ints set)] (.one (.own 3 (.ints (JW E set E.length))))) ∧ ((JW E set E.length).length = (JW E set E.length).length) ∧ (PC Tryz.prog 207 [.sl (.ints (JW E set E.length))] (.one (.d (.int .i64 (J2z (JW E set E.length) (JW E set E.length).length))))) ∧ (((J2z (JW E set E.length) (JW E set E.length).length) = (J5 E set)))
theorem J5Q (U : ZI) (E : ZR) (set : ZI) (ht : (J0 U E && J2 set 0 ((U.length : Int) - 1) && decide (0 < set.length)) = true) (w_Open : (U.length : Int) ≤ 9223372036854775807) (w_Dist : (E.length : Int) ≤ 9223372036854775807) (v_Dist : ∀ x9 ∈ E, (x9.length : Int) ≤ 9223372036854775807) (w_set : (set.length : Int) ≤ 9223372036854775807) : J3E U E set := by
  unfold J3E
  obtain ⟨hg, hs, hp⟩ := J7 ht
  obtain ⟨g1, g2, g3⟩ := J9 hg
  refine ⟨?_, rfl, ?_, ?_⟩
  ·refine J5u U E set ?_
   ·exact ht
  ·refine Jck (JW E set E.length) ?_ ?_
   ·exact J73 ht
   ·rw [J3n]; exact g3
  rw [J3n]; rfl
theorem Jw (U : ZI) (E : ZR) (set : ZI) (ht : (J0 U E && J2 set 0 ((U.length : Int) - 1) && decide (0 < set.length)) = true) : PC Tryz.prog 125 [.agg [.sl (.ints U), .sl (.rows E)], .sl (.ints set)] (.one (.d (.int .i64 (J5 E set)))) :=
  pc_wf @Tryz.call125 fun hw => pc_by (by kernel_rfl) Tryz.func125 @Tryz.call125 (by kernel_rfl) J66 (J6l U E set) (by kernel_rfl) (J5Q U E set ht hw.1.1 hw.1.2.1.1 hw.1.2.1.2 hw.2.1) (by kernel_rfl)
def J01 : List D → Orc := orcN [none, some .ints] fun ds => match ds with
  | [.agg [.sl (.ints U), .sl (.rows E)], .sl (.ints set)] => some (.one (.d (.int .i64 (J5 E set))))
  | _ => none
abbrev J0t (xss : ZR) (U : ZI) (E : ZR) (best : ZI) (i : Int) : Prop := (0 ≤ i) ∧ (i ≤ (xss.length : Int)) ∧ (best ∈ xss) ∧ (best = (xss.take i.toNat).foldl (lsB (J5 E)) (xss.getD 0 []))
abbrev JT (xss : ZR) (U : ZI) (E : ZR) (best : ZI) (i : Int) : Nat := (xss.length - i).toNat
def J84 (f : FuncId) (ds : List D) : Orc := bif Nat.beq f 125 then J01 ds else .no
def J8q (xss : ZR) (U : ZI) (E : ZR) : Ann := .two (.none) (.two (.none) (.two (.two (.none) (.loop (cut2 (fun (best : ZI) (i : Int) => J0t xss U E best i) (fun (best : ZI) (i : Int) => [(1, .d false (.fn 125 1 [.agg [.sl (.ints U), .sl (.rows E)]])), (5, .d true (.sl (.ints best))), (11, .d true (.sl (.rows xss))), (12, .d true (.int .i64 (xss.length : Int))), (13, .d true (.int .i64 i))]) (fun (best : ZI) (i : Int) => [])) (fun g => JT xss U E g.1 g.2) (fun _ => .none))) (.none)))
def J4K (xss : ZR) (U : ZI) (E : ZR) : Prop :=
  ((0 : Int) ≤ 0) ∧ ((0 : Int) < xss.length) ∧ (0 < xss.length) ∧ ((∃ best' : ZI, ∃ i' : Int, (J0t xss U E best' i') ∧ ((.fn 125 1 [.agg [.sl (.ints U), .sl (.rows E)]] : D) = (.fn 125 1 [.agg [.sl (.ints U), .sl (.rows E)]] : D)) ∧ ((xss.getD 0 []) = best') ∧ (xss = xss) ∧ ((xss.length : Int) = (xss.length : Int)) ∧ ((0 : Int) = i')) ∧ (∀ best : ZI, ∀ i : Int, (J0t xss U E best i) → (((decide (i < (xss.length : Int))) = true → ((0 : Int) ≤ i) ∧ ((i : Int) < xss.length) ∧ (i.toNat < xss.length) ∧ (PC Tryz.prog 125 [.agg [.sl (.ints U), .sl (.rows E)], .sl (.ints (xss.getD i.toNat []))] (.one (.d (.int .i64 (J5 E (xss.getD i.toNat [])))))) ∧ (PC Tryz.prog 125 [.agg [.sl (.ints U), .sl (.rows E)], .sl (.ints best)] (.one (.d (.int .i64 (J5 E best))))) ∧ (((decide ((J5 E (xss.getD i.toNat [])) < (J5 E best))) = true → (I6 (i + 1)) ∧ (∃ best' : ZI, ∃ i' : Int, (J0t xss U E best' i') ∧ (JT xss U E best' i' < JT xss U E best i) ∧ ((.fn 125 1 [.agg [.sl (.ints U), .sl (.rows E)]] : D) = (.fn 125 1 [.agg [.sl (.ints U), .sl (.rows E)]] : D)) ∧ ((xss.getD i.toNat []) = best') ∧ (xss = xss) ∧ ((xss.length : Int) = (xss.length : Int)) ∧ ((i + 1) = i'))) ∧ ((decide ((J5 E (xss.getD i.toNat [])) < (J5 E best))) = false → (I6 (i + 1)) ∧ (∃ best' : ZI, ∃ i' : Int, (J0t xss U E best' i') ∧ (JT xss U E best' i' < JT xss U E best i) ∧ ((.fn 125 1 [.agg [.sl (.ints U), .sl (.rows E)]] : D) = (.fn 125 1 [.agg [.sl (.ints U), .sl (.rows E)]] : D)) ∧ (best = best') ∧ (xss = xss) ∧ ((xss.length : Int) = (xss.length : Int)) ∧ ((i + 1) = i'))))) ∧ ((decide (i < (xss.length : Int))) = false → (((best : ZI) = (J3Y (J5 E) xss)))))))
theorem J7J (xss : ZR) (U : ZI) (E : ZR) (hp : 0 < xss.length) (hx : ∀ s ∈ xss, J0 U E && J2 s 0 ((U.length : Int) - 1) && decide (0 < s.length)) (w_xss : (xss.length : Int) ≤ 9223372036854775807) (v_xss : ∀ x9 ∈ xss, (x9.length : Int) ≤ 9223372036854775807) (w_Open : (U.length : Int) ≤ 9223372036854775807) (w_Dist : (E.length : Int) ≤ 9223372036854775807) (v_Dist : ∀ x9 ∈ E, (x9.length : Int) ≤ 9223372036854775807) : J4K xss U E := by
  unfold J4K
  refine ⟨?_, ?_, ?_, ?_, ?_⟩
  ·omega
  ·omega
  ·omega
  ·refine ⟨(xss.getD 0 []), 0, ?_⟩
   refine ⟨?_, rfl, rfl, rfl, rfl, rfl⟩
   ·refine ⟨?_, ?_, ?_, ?_⟩
    ·omega
    ·omega
    ·exact getD_mem hp
    ·rfl
  intro best i hJ
  obtain ⟨h1, h2, h3, h4⟩ := hJ
  refine ⟨?_, ?_⟩
  ·intro b1
   try simp only [nrmT] at b1
   refine ⟨?_, ?_, ?_, ?_, ?_, ?_, ?_⟩
   ·omega
   ·omega
   ·omega
   ·refine Jw U E (xss.getD i.toNat []) ?_
    ·exact hx _ (getD_memI h1 (by omega))
   ·refine Jw U E best ?_
    ·exact hx _ h3
   ·intro b2
    try simp only [nrmT] at b2
    refine ⟨?_, ?_⟩
    ·omega
    refine ⟨(xss.getD i.toNat []), (i + 1), ?_⟩
    refine ⟨?_, ?_, rfl, rfl, rfl, rfl, rfl⟩
    ·refine ⟨?_, ?_, ?_, ?_⟩
     ·omega
     ·omega
     ·exact getD_memI h1 (by omega)
     ·rw [J8K (d := []) h1 (by omega), ← h4]; unfold lsB; rw [if_pos b2]
    (simp only [JT]; omega)
   intro b3
   try simp only [nrmT] at b3
   refine ⟨?_, ?_⟩
   ·omega
   refine ⟨best, (i + 1), ?_⟩
   refine ⟨?_, ?_, rfl, rfl, rfl, rfl, rfl⟩
   ·refine ⟨?_, ?_, ?_, ?_⟩
    ·omega
    ·omega
    ·exact h3
    ·rw [J8K (d := []) h1 (by omega), ← h4]; unfold lsB; (try dsimp only); rw [if_neg (by omega)]
   (simp only [JT]; omega)
  intro b4
  try simp only [nrmT] at b4
  rw [h4, take_all (by omega)]; rfl
theorem J7z (xss : ZR) (U : ZI) (E : ZR) (hp : 0 < xss.length) (hx : ∀ s ∈ xss, J0 U E && J2 s 0 ((U.length : Int) - 1) && decide (0 < s.length)) : PCs Tryz.prog 94 [.sl (.rows xss), .fn 125 1 [.agg [.sl (.ints U), .sl (.rows E)]]] 0 (.sl (.ints (J3Y (J5 E) xss))) :=
  pcs_wf @Tryz.call94 fun hw => pcs_by (by kernel_rfl) Tryz.func94 @Tryz.call94 (by kernel_rfl) J84 (J8q xss U E) (by kernel_rfl) (J7J xss U E hp hx hw.1.1 hw.1.2 hw.2.1.1.1 hw.2.1.1.2.1.1 hw.2.1.1.2.1.2) (by kernel_rfl)
def J74 : List D → Orc := orcS 0 fun ds => match ds with
  | [.sl (.rows xss), .fn f0 1 [.agg [.sl (.ints U), .sl (.rows E)]]] => some (.sl (.ints (J3Y (J5 E) xss)))
  | _ => none
theorem J9i (x : ZI) (k : Int) : PB Tryz.prog 208 [.sl (.ints x), .bx [.int .i64 k] 0] (decide ((x.length : Int) ≠ k)) := by
  refine ⟨@Tryz.call208, fun w vs hall => ?_⟩
  obtain ⟨v1, v2, rfl⟩ : ∃ v1 v2, vs = [v1, v2] := by
    match vs, hall.1 with
    | [a, b], _ => exact ⟨a, b, rfl⟩
  obtain ⟨ad, cap, rfl⟩ := Jbd (hall.2 0 v1 _ rfl rfl)
  obtain ⟨b, rfl, hc⟩ := Jcn (hall.2 1 v2 _ rfl rfl)
  show Calls Tryz.prog 208 #[.slice ad x.length cap, .pointer (some b)] w _
  clear hall
  go_enter Tryz.func208, Tryz.ntmps208
  go_wp2
  all_goals (go_ret; exact ⟨by first | (simp_all; done) | (simp_all; rfl), 0, rfl⟩)
theorem J2w (xss : ZR) (k : Int) (hp : 0 < xss.length) : PU Tryz.prog 189 24 (.rows xss) (.rows (xss.filter (fun x9 => !(decide ((x9.length : Int) ≠ k))))) [.fn 208 0 [.bx [.int .i64 k] 0]] true :=
  pu_deleteFunc Tryz.layDelete Tryz.zeroValue24 24 xss (fun x9 => decide ((x9.length : Int) ≠ k)) 208 [.bx [.int .i64 k] 0] (fun x => J9i x k) hp
abbrev J0M (U : ZI) (E : ZR) (k : Int) (list2 : ZR) : Prop := (list2 = (JQ (U.length : Int).toNat).filter (fun x9 => !(decide ((x9.length : Int) ≠ k))))
def J6Z (f : FuncId) (ds : List D) : Orc := bif Nat.beq f 115 then Jb5 ds else bif Nat.beq f 94 then J74 ds else .no
def J75 (U : ZI) (E : ZR) (k : Int) : Ann := .two (.none) (.cut (.mark [] [(5, .up (.rows ((JQ (U.length : Int).toNat).filter (fun x9 => !(decide ((x9.length : Int) ≠ k))))) true)]) (cut1 (fun (list2 : ZR) => J0M U E k list2) (fun (list2 : ZR) => [(2, .ptr 2 0), (5, .d true (.sl (.rows list2)))]) (fun (list2 : ZR) => [(2, .box 27 [.d false (.sl (.ints U)), .d false (.sl (.rows E))])])) (fun _ => .none))
def J45 (U : ZI) (E : ZR) (k : Int) : Prop :=
  (((PC Tryz.prog 115 [.int .i64 (U.length : Int)] (.one (.own 24 (.rows (JQ (U.length : Int).toNat))))) ∧ ((JQ (U.length : Int).toNat).length = (JQ (U.length : Int).toNat).length) ∧ (PU Tryz.prog 189 24 (.rows (JQ (U.length : Int).toNat)) (.rows ((JQ (U.length : Int).toNat).filter (fun x9 => !(decide ((x9.length : Int) ≠ k))))) [.fn 208 0 [.bx [.int .i64 k] 0]] true) ∧ (∃ list2' : ZR, (J0M U E k list2') ∧ (((JQ (U.length : Int).toNat).filter (fun x9 => !(decide ((x9.length : Int) ≠ k)))).length = ((JQ (U.length : Int).toNat).filter (fun x9 => !(decide ((x9.length : Int) ≠ k)))).length) ∧ (((JQ (U.length : Int).toNat).filter (fun x9 => !(decide ((x9.length : Int) ≠ k)))) = list2') ∧ (U = U) ∧ (E = E))) ∧ (∀ list2 : ZR, (J0M U E k list2) → (PCs Tryz.prog 94 [.sl (.rows list2), .fn 125 1 [.agg [.sl (.ints U), .sl (.rows E)]]] 0 (.sl (.ints (J3Y (J5 E) list2)))) ∧ ((((J3Y (J5 E) list2) : ZI) = (J2E U E k)))))
theorem J6g (U : ZI) (E : ZR) (k : Int) (hg : J0 U E = true) (hk : 1 ≤ k ∧ k ≤ (U.length : Int)) (w_Open : (U.length : Int) ≤ 9223372036854775807) (w_Dist : (E.length : Int) ≤ 9223372036854775807) (v_Dist : ∀ x9 ∈ E, (x9.length : Int) ≤ 9223372036854775807) : J45 U E k := by
  unfold J45
  obtain ⟨g1, g2, g3⟩ := J9 hg
  refine ⟨?_, ?_⟩
  ·refine ⟨?_, rfl, ?_, ?_⟩
   ·refine JbZ (U.length : Int) ?_
    ·omega
   ·refine J2w (JQ (U.length : Int).toNat) k ?_
    ·exact Jcm (by omega)
   ·refine ⟨((JQ (U.length : Int).toNat).filter (fun x9 => !(decide ((x9.length : Int) ≠ k)))), ?_⟩
    refine ⟨?_, rfl, rfl, rfl, rfl⟩
    ·unfold J0M
     rfl
  intro list2 hJ
  have h8 := hJ
  refine ⟨?_, ?_⟩
  ·refine J7z list2 U E ?_ ?_
   ·rw [h8]; exact J8h hk
   ·rw [h8]
    intro s hs
    exact (J8x hg (List.mem_filter.1 hs).1).1
  rw [h8]; rfl
theorem J5Y (U : ZI) (E : ZR) (k : Int) (hg : J0 U E = true) (hk : 1 ≤ k ∧ k ≤ (U.length : Int)) : PC Tryz.prog 126 [.agg [.sl (.ints U), .sl (.rows E)], .int .i64 k] (.one (.d (.sl (.ints (J2E U E k))))) :=
  pc_wf @Tryz.call126 fun hw => pc_by (by kernel_rfl) Tryz.func126 @Tryz.call126 (by kernel_rfl) J6Z (J75 U E k) (by kernel_rfl) (J6g U E k hg hk hw.1.1 hw.1.2.1.1 hw.1.2.1.2) (by kernel_rfl)
def J5M : List D → Orc := orcN [none, none] fun ds => match ds with
  | [.agg [.sl (.ints U), .sl (.rows E)], .int .i64 k] => some (.one (.d (.sl (.ints (J2E U E k)))))
  | _ => none
def J2D (U : ZI) (E : ZR) (k : Int) : Int := if (J0 U E && inB k 1 (U.length : Int)) = true then J5 E (J2E U E k) else 0
def J7K (f : FuncId) (ds : List D) : Orc := bif Nat.beq f 93 then J5v ds else bif Nat.beq f 126 then J5M ds else bif Nat.beq f 125 then J01 ds else .no
def J7W (U : ZI) (E : ZR) (k : Int) : Ann := .none
def J4B (U : ZI) (E : ZR) (k : Int) : Prop :=
  (PC Tryz.prog 93 [.agg [.sl (.ints U), .sl (.rows E)], .int .i64 k] (.one (.d (.bool (J0 U E && inB k 1 (U.length : Int)))))) ∧ (((!(J0 U E && inB k 1 (U.length : Int))) = true → (((0 : Int) = (J2D U E k)) ∧ (false = (J0 U E && inB k 1 (U.length : Int))))) ∧ ((!(J0 U E && inB k 1 (U.length : Int))) = false → (true = true) ∧ (PC Tryz.prog 126 [.agg [.sl (.ints U), .sl (.rows E)], .int .i64 k] (.one (.d (.sl (.ints (J2E U E k)))))) ∧ (PC Tryz.prog 125 [.agg [.sl (.ints U), .sl (.rows E)], .sl (.ints (J2E U E k))] (.one (.d (.int .i64 (J5 E (J2E U E k)))))) ∧ (((J5 E (J2E U E k)) = (J2D U E k)) ∧ (true = (J0 U E && inB k 1 (U.length : Int))))))
theorem J7h (U : ZI) (E : ZR) (k : Int)  (w_Open : (U.length : Int) ≤ 9223372036854775807) (w_Dist : (E.length : Int) ≤ 9223372036854775807) (v_Dist : ∀ x9 ∈ E, (x9.length : Int) ≤ 9223372036854775807) : J4B U E k := by
  unfold J4B
  refine ⟨J6h U E k, ?_, ?_⟩
  ·intro b1
   try simp only [Bool.not_eq_true', Bool.not_eq_false', Bool.not_not] at b1
   refine ⟨?_, ?_⟩
   ·have hgk : (J0 U E && inB k 1 (U.length : Int)) = false := by simpa using b1
    unfold J2D; rw [hgk]; rfl
   have hgk : (J0 U E && inB k 1 (U.length : Int)) = false := by simpa using b1
   exact hgk.symm
  intro b2
  try simp only [Bool.not_eq_true', Bool.not_eq_false', Bool.not_not] at b2
  refine ⟨rfl, ?_, ?_, ?_, ?_⟩
  ·refine J5Y U E k ?_ ?_
   ·have hgk : (J0 U E && inB k 1 (U.length : Int)) = true := by simpa using b2
    obtain ⟨hg, hk⟩ := (Bool.and_eq_true _ _ ▸ hgk : _ ∧ _)
    have hk2 := J28 hk
    exact hg
   ·have hgk : (J0 U E && inB k 1 (U.length : Int)) = true := by simpa using b2
    obtain ⟨hg, hk⟩ := (Bool.and_eq_true _ _ ▸ hgk : _ ∧ _)
    have hk2 := J28 hk
    exact hk2
  ·refine Jw U E (J2E U E k) ?_
   ·have hgk : (J0 U E && inB k 1 (U.length : Int)) = true := by simpa using b2
    obtain ⟨hg, hk⟩ := (Bool.and_eq_true _ _ ▸ hgk : _ ∧ _)
    have hk2 := J28 hk
    exact (J8x hg (JaW hk2)).1
  ·have hgk : (J0 U E && inB k 1 (U.length : Int)) = true := by simpa using b2
   obtain ⟨hg, hk⟩ := (Bool.and_eq_true _ _ ▸ hgk : _ ∧ _)
   have hk2 := J28 hk
   unfold J2D; rw [if_pos hgk]
  have hgk : (J0 U E && inB k 1 (U.length : Int)) = true := by simpa using b2
  obtain ⟨hg, hk⟩ := (Bool.and_eq_true _ _ ▸ hgk : _ ∧ _)
  have hk2 := J28 hk
  exact hgk.symm
theorem J7g (U : ZI) (E : ZR) (k : Int)  : PC Tryz.prog 39 [.agg [.sl (.ints U), .sl (.rows E)], .int .i64 k] (.tup [.d (.int .i64 (J2D U E k)), .d (.bool (J0 U E && inB k 1 (U.length : Int)))]) :=
  pc_wf @Tryz.call39 fun hw => pc_by (by kernel_rfl) Tryz.func39 @Tryz.call39 (by kernel_rfl) J7K (J7W U E k) (by kernel_rfl) (J7h U E k hw.1.1 hw.1.2.1.1 hw.1.2.1.2) (by kernel_rfl)
def J6f : List D → Orc := orcN [none, none] fun ds => match ds with
  | [.agg [.sl (.ints U), .sl (.rows E)], .int .i64 k] => some (.tup [.d (.int .i64 (J2D U E k)), .d (.bool (J0 U E && inB k 1 (U.length : Int)))])
  | _ => none
theorem Jcr {U : ZI} {E : ZR} (hg : J0 U E = true) {k : Int} (hk : 1 ≤ k ∧ k ≤ (U.length : Int)) : (J0 U E && J2 (J2E U E k) 0 ((U.length : Int) - 1) && decide (0 < (J2E U E k).length)) = true := (J8x hg (JaW hk)).1
def J7b (f : Nat → Int) (n : Nat) : Int := foldTo (fun b i => min b (f i)) (f 0) n
theorem JbV (f : Nat → Int) (n : Nat) : J7b f (n + 1) = min (J7b f n) (f n) := rfl
theorem J5W (f : Nat → Int) : ∀ n, 0 < n → (∀ j, j < n → J7b f n ≤ f j) ∧ ∃ j, j < n ∧ J7b f n = f j
  | 0, h => by omega
  | k + 1, _ => by
    rw [JbV]
    by_cases hk : 0 < k
    · obtain ⟨h1, j, h2, h3⟩ := J5W f k hk
      refine ⟨fun i hi => ?_, ?_⟩
      · by_cases e : i = k
        · subst e; omega
        · have := h1 i (by omega); omega
      by_cases e : J7b f k ≤ f k
      · exact ⟨j, by omega, by omega⟩
      · exact ⟨k, by omega, by omega⟩
    have : k = 0 := by omega
    subst this
    have e : J7b f 0 = f 0 := rfl
    refine ⟨fun i hi => ?_, 0, by omega, by omega⟩
    have : i = 0 := by omega
    subst this; omega
theorem Jcq {U : ZI} {E : ZR} {k : Int} (hk : 1 ≤ k ∧ k ≤ (U.length : Int)) : ((J2E U E k).length : Int) = k := by
  have h := (List.mem_filter.1 (J82 (v := J5 E) (J8h hk))).2
  have h : (!(decide (((J2E U E k).length : Int) ≠ k))) = true := h
  simpa using h
/-- How far a cursor has read, and its seed. -/
structure Cur where
  pos : Int
  seed : Int
abbrev J36 : Cur := ⟨0, 0⟩
def okC (c : Cur) (b : Int) : Prop := 0 ≤ c.pos ∧ c.pos ≤ b ∧ 0 ≤ c.seed ∧ c.seed ≤ 18446744073709551615
theorem J9R (g : Bool) (a b : Cur) : cond g a.pos b.pos = (cond g a b).pos := by cases g <;> rfl
theorem J9d (g : Bool) (a b : Cur) : cond g a.seed b.seed = (cond g a b).seed := by cases g <;> rfl
def nxB (code : List Nat) (c : Cur) : Int := if c.pos < (code.length : Int) then ((code.getD c.pos.toNat 0 : Nat) : Int) else 0
def Je (code : List Nat) (c : Cur) : Cur := ⟨c.pos + 1, IntKind.u64.wrap (IntKind.u64.wrap (IntKind.u64.wrap (c.seed * 6364136223846793005) + nxB code c) + 462197)⟩
def JJ (code : List Nat) (c : Cur) : Int := if c.pos + 1 ≤ (code.length : Int) then nxB code c else ((((Je code c).seed / 2 ^ 40).toNat &&& 255 : Nat) : Int)
theorem J7j (n : Int) : 0 ≤ IntKind.u64.wrap n ∧ IntKind.u64.wrap n ≤ 18446744073709551615 := by
  have h : IntKind.u64.wrap n = n % 18446744073709551616 := rfl
  omega
theorem JbH {code : List Nat} (hb : ∀ x9 ∈ code, x9 < 256) (c : Cur) (h0 : 0 ≤ c.pos) : 0 ≤ nxB code c ∧ nxB code c ≤ 255 := by
  unfold nxB
  split
  · have := hb _ (getD_mem (d := 0) (show c.pos.toNat < code.length by omega))
    omega
  omega
theorem JbR (n : Nat) : n &&& 255 ≤ 255 := Nat.and_le_right
theorem J1x {code : List Nat} (hb : ∀ x9 ∈ code, x9 < 256) {c : Cur} (h0 : 0 ≤ c.pos) : 0 ≤ JJ code c ∧ JJ code c ≤ 255 := by
  unfold JJ
  split
  · exact JbH hb c h0
  have := JbR ((Je code c).seed / 2 ^ 40).toNat
  omega
theorem J0I {code : List Nat} {c : Cur} {b : Int} (h : okC c b) : okC (Je code c) (b + 1) := by
  obtain ⟨h1, h2, _, _⟩ := h
  exact ⟨by show 0 ≤ c.pos + 1; omega, by show c.pos + 1 ≤ b + 1; omega, (J7j _).1, (J7j _).2⟩
theorem J6 {c : Cur} {b b' : Int} (h : okC c b) (hb : b ≤ b') : okC c b' := ⟨h.1, Int.le_trans h.2.1 hb, h.2.2⟩
def J8d (f : FuncId) (ds : List D) : Orc := .no
def J86 (u : Value) (code : List Nat) (c : Cur) : Ann := .two (.none) (.two (.none) (.two (.none) (.two (.none) (.two (.reg [(5, .wrap), (8, .wrap), (9, .wrap)]) (.none)))))
def J35 (u : Value) (code : List Nat) (c : Cur) : Prop :=
  (true = true) ∧ (((decide (c.pos < (code.length : Int))) = true → (true = true) ∧ ((0 : Int) ≤ c.pos) ∧ ((c.pos : Int) < code.length) ∧ (c.pos.toNat < code.length) ∧ (I6 ((code.getD c.pos.toNat 0 : Nat) : Int)) ∧ (I6 (c.pos + 1)) ∧ (0 ≤ ((code.getD c.pos.toNat 0 : Nat) : Int) ∧ ((code.getD c.pos.toNat 0 : Nat) : Int) ≤ 18446744073709551615) ∧ (true = true) ∧ (((decide ((c.pos + 1) ≤ (code.length : Int))) = true → (((.lit u (.sl (.bytes code)) : D) = .lit u (.sl (.bytes code))) ∧ ((c.pos + 1) = (Je code c).pos) ∧ ((IntKind.u64.wrap ((IntKind.u64.wrap ((IntKind.u64.wrap (c.seed * 6364136223846793005)) + ((code.getD c.pos.toNat 0 : Nat) : Int))) + 462197)) = (Je code c).seed) ∧ (((code.getD c.pos.toNat 0 : Nat) : Int) = (JJ code c)))) ∧ ((decide ((c.pos + 1) ≤ (code.length : Int))) = false → ((0 : Int) ≤ (IntKind.u64.wrap ((IntKind.u64.wrap ((IntKind.u64.wrap (c.seed * 6364136223846793005)) + ((code.getD c.pos.toNat 0 : Nat) : Int))) + 462197)) ∧ ((IntKind.u64.wrap ((IntKind.u64.wrap ((IntKind.u64.wrap (c.seed * 6364136223846793005)) + ((code.getD c.pos.toNat 0 : Nat) : Int))) + 462197)) : Int) ≤ 18446744073709551615) ∧ ((0 : Int) ≤ 40) ∧ ((0 : Int) ≤ ((IntKind.u64.wrap ((IntKind.u64.wrap ((IntKind.u64.wrap (c.seed * 6364136223846793005)) + ((code.getD c.pos.toNat 0 : Nat) : Int))) + 462197)) / 2 ^ 40) ∧ (((IntKind.u64.wrap ((IntKind.u64.wrap ((IntKind.u64.wrap (c.seed * 6364136223846793005)) + ((code.getD c.pos.toNat 0 : Nat) : Int))) + 462197)) / 2 ^ 40) : Int) ≤ 18446744073709551615) ∧ ((0 : Int) ≤ 255 ∧ (255 : Int) ≤ 18446744073709551615) ∧ (I6 ((((IntKind.u64.wrap ((IntKind.u64.wrap ((IntKind.u64.wrap (c.seed * 6364136223846793005)) + ((code.getD c.pos.toNat 0 : Nat) : Int))) + 462197)) / 2 ^ 40).toNat &&& 255 : Nat) : Int)) ∧ (((.lit u (.sl (.bytes code)) : D) = .lit u (.sl (.bytes code))) ∧ ((c.pos + 1) = (Je code c).pos) ∧ ((IntKind.u64.wrap ((IntKind.u64.wrap ((IntKind.u64.wrap (c.seed * 6364136223846793005)) + ((code.getD c.pos.toNat 0 : Nat) : Int))) + 462197)) = (Je code c).seed) ∧ (((((IntKind.u64.wrap ((IntKind.u64.wrap ((IntKind.u64.wrap (c.seed * 6364136223846793005)) + ((code.getD c.pos.toNat 0 : Nat) : Int))) + 462197)) / 2 ^ 40).toNat &&& 255 : Nat) : Int) = (JJ code c)))))) ∧ ((decide (c.pos < (code.length : Int))) = false → (I6 (c.pos + 1)) ∧ (0 ≤ (0 : Int) ∧ (0 : Int) ≤ 18446744073709551615) ∧ (true = true) ∧ (((decide ((c.pos + 1) ≤ (code.length : Int))) = true → (((.lit u (.sl (.bytes code)) : D) = .lit u (.sl (.bytes code))) ∧ ((c.pos + 1) = (Je code c).pos) ∧ ((IntKind.u64.wrap ((IntKind.u64.wrap ((IntKind.u64.wrap (c.seed * 6364136223846793005)) + 0)) + 462197)) = (Je code c).seed) ∧ ((0 : Int) = (JJ code c)))) ∧ ((decide ((c.pos + 1) ≤ (code.length : Int))) = false → ((0 : Int) ≤ (IntKind.u64.wrap ((IntKind.u64.wrap ((IntKind.u64.wrap (c.seed * 6364136223846793005)) + 0)) + 462197)) ∧ ((IntKind.u64.wrap ((IntKind.u64.wrap ((IntKind.u64.wrap (c.seed * 6364136223846793005)) + 0)) + 462197)) : Int) ≤ 18446744073709551615) ∧ ((0 : Int) ≤ 40) ∧ ((0 : Int) ≤ ((IntKind.u64.wrap ((IntKind.u64.wrap ((IntKind.u64.wrap (c.seed * 6364136223846793005)) + 0)) + 462197)) / 2 ^ 40) ∧ (((IntKind.u64.wrap ((IntKind.u64.wrap ((IntKind.u64.wrap (c.seed * 6364136223846793005)) + 0)) + 462197)) / 2 ^ 40) : Int) ≤ 18446744073709551615) ∧ ((0 : Int) ≤ 255 ∧ (255 : Int) ≤ 18446744073709551615) ∧ (I6 ((((IntKind.u64.wrap ((IntKind.u64.wrap ((IntKind.u64.wrap (c.seed * 6364136223846793005)) + 0)) + 462197)) / 2 ^ 40).toNat &&& 255 : Nat) : Int)) ∧ (((.lit u (.sl (.bytes code)) : D) = .lit u (.sl (.bytes code))) ∧ ((c.pos + 1) = (Je code c).pos) ∧ ((IntKind.u64.wrap ((IntKind.u64.wrap ((IntKind.u64.wrap (c.seed * 6364136223846793005)) + 0)) + 462197)) = (Je code c).seed) ∧ (((((IntKind.u64.wrap ((IntKind.u64.wrap ((IntKind.u64.wrap (c.seed * 6364136223846793005)) + 0)) + 462197)) / 2 ^ 40).toNat &&& 255 : Nat) : Int) = (JJ code c)))))))
theorem J7R (u : Value) (code : List Nat) (c : Cur) (hb : ∀ x9 ∈ code, x9 < 256) (hc : okC c 1000000000000)  : J35 u code c := by
  unfold J35
  obtain ⟨c1, c2, c3, c4⟩ := hc
  have nb := JbH hb c c1
  have w64 := J7j
  refine ⟨rfl, ?_, ?_⟩
  ·intro b1
   try simp only [nrmT] at b1
   refine ⟨rfl, ?_, ?_, ?_, ?_, ?_, ?_, rfl, ?_, ?_⟩
   ·omega
   ·omega
   ·omega
   ·have := hb _ (getD_mem (d := 0) (show c.pos.toNat < code.length by omega))
    omega
   ·omega
   ·have := hb _ (getD_mem (d := 0) (show c.pos.toNat < code.length by omega))
    omega
   ·intro b2
    try simp only [nrmT] at b2
    refine ⟨rfl, ?_, ?_, ?_⟩
    ·rfl
    ·have hs : (Je code c).seed = IntKind.u64.wrap (IntKind.u64.wrap (IntKind.u64.wrap (c.seed * 6364136223846793005) + nxB code c) + 462197) := rfl
     first | rw [show nxB code c = ((code.getD c.pos.toNat 0 : Nat) : Int) from if_pos (by omega)] at hs | rw [show nxB code c = 0 from if_neg (by omega)] at hs
     first | exact hs.symm | (exfalso; omega)
    unfold JJ nxB; rw [if_pos (by omega), if_pos (by omega)]
   intro b3
   try simp only [nrmT] at b3
   refine ⟨?_, ?_, ?_, ?_, ?_, rfl, ?_, ?_, ?_⟩
   ·have := hb _ (getD_mem (d := 0) (show c.pos.toNat < code.length by omega))
    omega
   ·omega
   ·have := hb _ (getD_mem (d := 0) (show c.pos.toNat < code.length by omega))
    omega
   ·omega
   ·have := hb _ (getD_mem (d := 0) (show c.pos.toNat < code.length by omega))
    omega
   ·omega
   ·have hs : (Je code c).seed = IntKind.u64.wrap (IntKind.u64.wrap (IntKind.u64.wrap (c.seed * 6364136223846793005) + nxB code c) + 462197) := rfl
    first | rw [show nxB code c = ((code.getD c.pos.toNat 0 : Nat) : Int) from if_pos (by omega)] at hs | rw [show nxB code c = 0 from if_neg (by omega)] at hs
    first | exact hs.symm | (exfalso; omega)
   have hs : (Je code c).seed = IntKind.u64.wrap (IntKind.u64.wrap (IntKind.u64.wrap (c.seed * 6364136223846793005) + nxB code c) + 462197) := rfl
   first | rw [show nxB code c = ((code.getD c.pos.toNat 0 : Nat) : Int) from if_pos (by omega)] at hs | rw [show nxB code c = 0 from if_neg (by omega)] at hs
   unfold JJ
   rw [if_neg (by omega), hs]
  intro b4
  try simp only [nrmT] at b4
  refine ⟨?_, ?_, rfl, ?_, ?_⟩
  ·omega
  ·omega
  ·intro b5
   try simp only [nrmT] at b5
   refine ⟨rfl, ?_, ?_, ?_⟩
   ·omega
   ·have hs : (Je code c).seed = IntKind.u64.wrap (IntKind.u64.wrap (IntKind.u64.wrap (c.seed * 6364136223846793005) + nxB code c) + 462197) := rfl
    first | rw [show nxB code c = ((code.getD c.pos.toNat 0 : Nat) : Int) from if_pos (by omega)] at hs | rw [show nxB code c = 0 from if_neg (by omega)] at hs
    first | exact hs.symm | (exfalso; omega)
   omega
  intro b6
  try simp only [nrmT] at b6
  refine ⟨?_, ?_, ?_, ?_, ?_, rfl, ?_, ?_, ?_⟩
  ·exact w64 _
  ·omega
  ·have := w64 (IntKind.u64.wrap (IntKind.u64.wrap (c.seed * 6364136223846793005) + 0) + 462197)
   generalize IntKind.u64.wrap (IntKind.u64.wrap (IntKind.u64.wrap (c.seed * 6364136223846793005) + 0) + 462197) = z at *
   omega
  ·omega
  ·have := JbR ((IntKind.u64.wrap (IntKind.u64.wrap (IntKind.u64.wrap (c.seed * 6364136223846793005) + 0) + 462197)) / 2 ^ 40).toNat
   omega
  ·rfl
  ·have hs : (Je code c).seed = IntKind.u64.wrap (IntKind.u64.wrap (IntKind.u64.wrap (c.seed * 6364136223846793005) + nxB code c) + 462197) := rfl
   first | rw [show nxB code c = ((code.getD c.pos.toNat 0 : Nat) : Int) from if_pos (by omega)] at hs | rw [show nxB code c = 0 from if_neg (by omega)] at hs
   first | exact hs.symm | (exfalso; omega)
  have hs : (Je code c).seed = IntKind.u64.wrap (IntKind.u64.wrap (IntKind.u64.wrap (c.seed * 6364136223846793005) + nxB code c) + 462197) := rfl
  first | rw [show nxB code c = ((code.getD c.pos.toNat 0 : Nat) : Int) from if_pos (by omega)] at hs | rw [show nxB code c = 0 from if_neg (by omega)] at hs
  unfold JJ
  rw [if_neg (by omega), hs]
theorem J4w (code : List Nat) (c : Cur) (hb : ∀ x9 ∈ code, x9 < 256) (hc : okC c 1000000000000) : PK Tryz.prog 213 76 (.sl (.bytes code)) [.int .i64 c.pos, .int .u64 c.seed] [.int .i64 (Je code c).pos, .int .u64 (Je code c).seed] [] (.one (.d (.int .i64 (JJ code c)))) :=
  pk_by (Q := fun u => J35 u code c) (by kernel_rfl) Tryz.func213 @Tryz.call213 (by kernel_rfl) J8d (fun u => J86 u code c) (by kernel_rfl) (fun u => J7R u code c hb hc) (fun u => by kernel_rfl)
def J1 (code : List Nat) (c : Cur) (n : Int) : Cur := if n ≤ 1 then c else if n > 200 then Je code (Je code c) else Je code c
def J3 (code : List Nat) (c : Cur) (n : Int) : Int := if n ≤ 1 then 0 else (if n > 200 then JJ code c * 256 + JJ code (Je code c) else JJ code c) % n
theorem Jb {code : List Nat} {c : Cur} {n b : Int} (h : okC c b) : okC (J1 code c n) (b + 2) := by
  unfold J1
  split
  · exact J6 h (by omega)
  split
  · have := J0I (code := code) (J0I (code := code) h)
    exact J6 this (by omega)
  · exact J6 (J0I h) (by omega)
theorem Jn (code : List Nat) (c : Cur) {n : Int} (hn : 1 ≤ n) : 0 ≤ J3 code c n ∧ J3 code c n < n := by
  unfold J3
  split
  · omega
  exact ⟨Int.emod_nonneg _ (by omega), Int.emod_lt_of_pos _ (by omega)⟩
def J8B (f : FuncId) (ds : List D) : Orc := .no
def J8u (u : Value) (code : List Nat) (c : Cur) (n : Int) : Ann := .two (.none) (.two (.none) (.two (.mark [] [(1, .cell [.int .i64 ((Je code c).pos), .int .u64 ((Je code c).seed)] (.one (.d (.int .i64 (JJ code c)))))]) (.two (.two (.none) (.two (.mark [] [(3, .cell [.int .i64 ((Je code (Je code c)).pos), .int .u64 ((Je code (Je code c)).seed)] (.one (.d (.int .i64 (JJ code (Je code c))))))]) (.none))) (.none))))
def J37 (u : Value) (code : List Nat) (c : Cur) (n : Int) : Prop :=
  (((decide (n ≤ 1)) = true → (((.lit u (.sl (.bytes code)) : D) = .lit u (.sl (.bytes code))) ∧ (c.pos = (J1 code c n).pos) ∧ (c.seed = (J1 code c n).seed) ∧ ((0 : Int) = (J3 code c n)))) ∧ ((decide (n ≤ 1)) = false → (PK Tryz.prog 213 76 (.sl (.bytes code)) [.int .i64 c.pos, .int .u64 c.seed] [.int .i64 ((Je code c).pos), .int .u64 ((Je code c).seed)] [] (.one (.d (.int .i64 (JJ code c))))) ∧ (((decide (n > 200)) = true → (I6 ((JJ code c) * 256)) ∧ (PK Tryz.prog 213 76 (.sl (.bytes code)) [.int .i64 ((Je code c).pos), .int .u64 ((Je code c).seed)] [.int .i64 ((Je code (Je code c)).pos), .int .u64 ((Je code (Je code c)).seed)] [] (.one (.d (.int .i64 (JJ code (Je code c)))))) ∧ (I6 (((JJ code c) * 256) + (JJ code (Je code c)))) ∧ ((0 : Int) ≤ (((JJ code c) * 256) + (JJ code (Je code c)))) ∧ ((1 : Int) ≤ n) ∧ (((.lit u (.sl (.bytes code)) : D) = .lit u (.sl (.bytes code))) ∧ ((Je code (Je code c)).pos = (J1 code c n).pos) ∧ ((Je code (Je code c)).seed = (J1 code c n).seed) ∧ (((((JJ code c) * 256) + (JJ code (Je code c))) % n) = (J3 code c n)))) ∧ ((decide (n > 200)) = false → ((0 : Int) ≤ (JJ code c)) ∧ ((1 : Int) ≤ n) ∧ (((.lit u (.sl (.bytes code)) : D) = .lit u (.sl (.bytes code))) ∧ ((Je code c).pos = (J1 code c n).pos) ∧ ((Je code c).seed = (J1 code c n).seed) ∧ (((JJ code c) % n) = (J3 code c n)))))))
theorem J7u (u : Value) (code : List Nat) (c : Cur) (n : Int) (hb : ∀ x9 ∈ code, x9 < 256) (hc : okC c 900000000000)  : J37 u code c n := by
  unfold J37
  refine ⟨?_, ?_⟩
  ·intro b1
   try simp only [nrmT] at b1
   refine ⟨rfl, ?_, ?_, ?_⟩
   ·unfold J1; first | rw [if_pos (by omega)] | rw [if_neg (by omega), if_pos (by omega)] | rw [if_neg (by omega), if_neg (by omega)]
   ·unfold J1; first | rw [if_pos (by omega)] | rw [if_neg (by omega), if_pos (by omega)] | rw [if_neg (by omega), if_neg (by omega)]
   unfold J3; first | rw [if_pos (by omega)] | rw [if_neg (by omega), if_pos (by omega)] | rw [if_neg (by omega), if_neg (by omega)]
  intro b2
  try simp only [nrmT] at b2
  refine ⟨?_, ?_, ?_⟩
  ·refine J4w code c ?_ ?_
   ·exact hb
   ·exact J6 (by assumption) (by omega)
  ·intro b3
   try simp only [nrmT] at b3
   refine ⟨?_, ?_, ?_, ?_, ?_, rfl, ?_, ?_, ?_⟩
   ·have q0 := J1x hb (c := c) hc.1
    have q1 := J1x hb (c := Je code c) (J0I hc).1
    omega
   ·refine J4w code (Je code c) ?_ ?_
    ·exact hb
    ·exact J6 (J0I (by assumption)) (by omega)
   ·have q0 := J1x hb (c := c) hc.1
    have q1 := J1x hb (c := Je code c) (J0I hc).1
    omega
   ·have q0 := J1x hb (c := c) hc.1
    have q1 := J1x hb (c := Je code c) (J0I hc).1
    omega
   ·omega
   ·unfold J1; first | rw [if_pos (by omega)] | rw [if_neg (by omega), if_pos (by omega)] | rw [if_neg (by omega), if_neg (by omega)]
   ·unfold J1; first | rw [if_pos (by omega)] | rw [if_neg (by omega), if_pos (by omega)] | rw [if_neg (by omega), if_neg (by omega)]
   unfold J3; first | rw [if_pos (by omega)] | rw [if_neg (by omega), if_pos (by omega)] | rw [if_neg (by omega), if_neg (by omega)]
  intro b4
  try simp only [nrmT] at b4
  refine ⟨?_, ?_, rfl, ?_, ?_, ?_⟩
  ·have q0 := J1x hb (c := c) hc.1
   have q1 := J1x hb (c := Je code c) (J0I hc).1
   omega
  ·omega
  ·unfold J1; first | rw [if_pos (by omega)] | rw [if_neg (by omega), if_pos (by omega)] | rw [if_neg (by omega), if_neg (by omega)]
  ·unfold J1; first | rw [if_pos (by omega)] | rw [if_neg (by omega), if_pos (by omega)] | rw [if_neg (by omega), if_neg (by omega)]
  unfold J3; first | rw [if_pos (by omega)] | rw [if_neg (by omega), if_pos (by omega)] | rw [if_neg (by omega), if_neg (by omega)]
theorem Jg (code : List Nat) (c : Cur) (n : Int) (hb : ∀ x9 ∈ code, x9 < 256) (hc : okC c 900000000000) : PK Tryz.prog 156 76 (.sl (.bytes code)) [.int .i64 c.pos, .int .u64 c.seed] [.int .i64 (J1 code c n).pos, .int .u64 (J1 code c n).seed] [.int .i64 n] (.one (.d (.int .i64 (J3 code c n)))) :=
  pk_by (Q := fun u => J37 u code c n) (by kernel_rfl) Tryz.func156 @Tryz.call156 (by kernel_rfl) J8B (fun u => J8u u code c n) (by kernel_rfl) (fun u => J7u u code c n hb hc) (fun u => by kernel_rfl)
def J7G (f : FuncId) (ds : List D) : Orc := .no
def J7B (u : Value) (code : List Nat) (c : Cur) (list : ZI) : Ann := .two (.none) (.two (.mark [] [(4, .cell [.int .i64 ((J1 code c (list.length : Int)).pos), .int .u64 ((J1 code c (list.length : Int)).seed)] (.one (.d (.int .i64 (J3 code c (list.length : Int))))))]) (.none))
def J2T (u : Value) (code : List Nat) (c : Cur) (list : ZI) : Prop :=
  (PK Tryz.prog 156 76 (.sl (.bytes code)) [.int .i64 c.pos, .int .u64 c.seed] [.int .i64 ((J1 code c (list.length : Int)).pos), .int .u64 ((J1 code c (list.length : Int)).seed)] [.int .i64 (list.length : Int)] (.one (.d (.int .i64 (J3 code c (list.length : Int)))))) ∧ ((0 : Int) ≤ (J3 code c (list.length : Int))) ∧ (((J3 code c (list.length : Int)) : Int) < list.length) ∧ ((J3 code c (list.length : Int)).toNat < list.length) ∧ (((.lit u (.sl (.bytes code)) : D) = .lit u (.sl (.bytes code))) ∧ ((J1 code c (list.length : Int)).pos = (J1 code c (list.length : Int)).pos) ∧ ((J1 code c (list.length : Int)).seed = (J1 code c (list.length : Int)).seed) ∧ ((list.getD ((J3 code c (list.length : Int)).toNat) 0) = (list.getD (J3 code c (list.length : Int)).toNat 0)))
theorem J7f (u : Value) (code : List Nat) (c : Cur) (list : ZI) (hb : ∀ x9 ∈ code, x9 < 256) (hc : okC c 800000000000) (hl : 0 < list.length)  : J2T u code c list := by
  unfold J2T
  refine ⟨?_, ?_, ?_, ?_, rfl, rfl, rfl, ?_⟩
  ·refine Jg code c (list.length : Int) ?_ ?_
   ·exact hb
   ·exact J6 (by assumption) (by omega)
  ·have := Jn code c (n := (list.length : Int)) (by omega)
   omega
  ·have := Jn code c (n := (list.length : Int)) (by omega)
   omega
  ·have := Jn code c (n := (list.length : Int)) (by omega)
   omega
  have := Jn code c (n := (list.length : Int)) (by omega)
  omega
theorem J02 (code : List Nat) (c : Cur) (list : ZI) (hb : ∀ x9 ∈ code, x9 < 256) (hc : okC c 800000000000) (hl : 0 < list.length) : PK Tryz.prog 155 76 (.sl (.bytes code)) [.int .i64 c.pos, .int .u64 c.seed] [.int .i64 (J1 code c (list.length : Int)).pos, .int .u64 (J1 code c (list.length : Int)).seed] [.sl (.ints list)] (.one (.d (.int .i64 (list.getD (J3 code c (list.length : Int)).toNat 0)))) :=
  pk_by (Q := fun u => J2T u code c list) (by kernel_rfl) Tryz.func155 @Tryz.call155 (by kernel_rfl) J7G (fun u => J7B u code c list) (by kernel_rfl) (fun u => J7f u code c list hb hc hl) (fun u => by kernel_rfl)
def J98 (f : FuncId) (ds : List D) : Orc := .no
def J9n (u : Value) (code : List Nat) (c : Cur) (n : Int) : Ann := .two (.none) (.two (.mark [] [(2, .cell [.int .i64 ((J1 code c n).pos), .int .u64 ((J1 code c n).seed)] (.one (.d (.int .i64 (J3 code c n)))))]) (.none))
def J3B (u : Value) (code : List Nat) (c : Cur) (n : Int) : Prop :=
  (PK Tryz.prog 156 76 (.sl (.bytes code)) [.int .i64 c.pos, .int .u64 c.seed] [.int .i64 ((J1 code c n).pos), .int .u64 ((J1 code c n).seed)] [.int .i64 n] (.one (.d (.int .i64 (J3 code c n))))) ∧ (((.lit u (.sl (.bytes code)) : D) = .lit u (.sl (.bytes code))) ∧ ((J1 code c n).pos = (J1 code c n).pos) ∧ ((J1 code c n).seed = (J1 code c n).seed) ∧ (((J3 code c n) == 0) = (J3 code c n == 0)))
theorem J8o (u : Value) (code : List Nat) (c : Cur) (n : Int) (hb : ∀ x9 ∈ code, x9 < 256) (hc : okC c 800000000000)  : J3B u code c n := by
  unfold J3B
  refine ⟨?_, rfl, rfl, rfl, ?_⟩
  ·refine Jg code c n ?_ ?_
   ·exact hb
   ·exact J6 (by assumption) (by omega)
  rfl
theorem J0W (code : List Nat) (c : Cur) (n : Int) (hb : ∀ x9 ∈ code, x9 < 256) (hc : okC c 800000000000) : PK Tryz.prog 124 76 (.sl (.bytes code)) [.int .i64 c.pos, .int .u64 c.seed] [.int .i64 (J1 code c n).pos, .int .u64 (J1 code c n).seed] [.int .i64 n] (.one (.d (.bool (J3 code c n == 0)))) :=
  pk_by (Q := fun u => J3B u code c n) (by kernel_rfl) Tryz.func124 @Tryz.call124 (by kernel_rfl) J98 (fun u => J9n u code c n) (by kernel_rfl) (fun u => J8o u code c n hb hc) (fun u => by kernel_rfl)
theorem J6Q : okC J36 0 := by unfold okC; decide
theorem Jcs (l : ZI) (code : List Nat) (c : Cur) (h : 0 < l.length) : l.getD (J3 code c (l.length : Int)).toNat 0 ∈ l := by
  have := Jn code c (n := (l.length : Int)) (by omega)
  exact getD_mem (by omega)
def JcA (f : FuncId) (ds : List D) : Orc := .no
def Jcz (code : List Nat) : Ann := .none
def J9O (code : List Nat) : Prop :=
  (((decide ((code.length : Int) > 65536)) = (decide ((code.length : Int) > 65536))))
theorem Jcb (code : List Nat)  (w_code : (code.length : Int) ≤ 9223372036854775807) : J9O code := by
  unfold J9O
  exact rfl
theorem Jc7 (code : List Nat)  : PC Tryz.prog 28 [.sl (.bytes code)] (.one (.d (.bool (decide ((code.length : Int) > 65536))))) :=
  pc_wf @Tryz.call28 fun hw => pc_by (by kernel_rfl) Tryz.func28 @Tryz.call28 (by kernel_rfl) JcA (Jcz code) (by kernel_rfl) (Jcb code hw.1) (by kernel_rfl)
def Jbt : List D → Orc := orcN [some .bytes] fun ds => match ds with
  | [.sl (.bytes code)] => some (.one (.d (.bool (decide ((code.length : Int) > 65536)))))
  | _ => none
abbrev J3h (xs : ZI) (ys : ZI) (i : Int) : Prop := (0 ≤ i) ∧ (i ≤ (xs.length : Int)) ∧ (allTo (fun k => xs.getD k 0 == ys.getD k 0) i.toNat = true) ∧ (xs.length = ys.length)
abbrev J3k (xs : ZI) (ys : ZI) (i : Int) : Nat := (xs.length - i).toNat
def JbQ (f : FuncId) (ds : List D) : Orc := .no
def JbX (xs : ZI) (ys : ZI) : Ann := .two (.none) (.two (.none) (.two (.two (.none) (.loop (cut1 (fun (i : Int) => J3h xs ys i) (fun (i : Int) => [(0, .d false (.sl (.ints xs))), (1, .d false (.sl (.ints ys))), (5, .d true (.int .i64 i))]) (fun (i : Int) => [])) (fun g => J3k xs ys g) (fun _ => .none))) (.none)))
def J8J (xs : ZI) (ys : ZI) : Prop :=
  ((((xs.length : Int) != (ys.length : Int)) = true → ((false = (xs == ys)))) ∧ (((xs.length : Int) != (ys.length : Int)) = false → ((∃ i' : Int, (J3h xs ys i') ∧ (xs = xs) ∧ (ys = ys) ∧ ((0 : Int) = i')) ∧ (∀ i : Int, (J3h xs ys i) → (((decide (i < (xs.length : Int))) = true → (true = true) ∧ ((0 : Int) ≤ i) ∧ ((i : Int) < xs.length) ∧ (i.toNat < xs.length) ∧ ((0 : Int) ≤ i) ∧ ((i : Int) < ys.length) ∧ (i.toNat < ys.length) ∧ ((((xs.getD i.toNat 0) != (ys.getD i.toNat 0)) = true → ((false = (xs == ys)))) ∧ (((xs.getD i.toNat 0) != (ys.getD i.toNat 0)) = false → (I6 (i + 1)) ∧ (∃ i' : Int, (J3h xs ys i') ∧ (J3k xs ys i' < J3k xs ys i) ∧ (xs = xs) ∧ (ys = ys) ∧ ((i + 1) = i'))))) ∧ ((decide (i < (xs.length : Int))) = false → ((true = (xs == ys)))))))))
theorem Jbq (xs : ZI) (ys : ZI)  (w_xs : (xs.length : Int) ≤ 9223372036854775807) (w_ys : (ys.length : Int) ≤ 9223372036854775807) : J8J xs ys := by
  unfold J8J
  refine ⟨?_, ?_⟩
  ·intro b1
   try simp only [nrmT] at b1
   exact (JcW (by omega)).symm
  intro b2
  try simp only [nrmT] at b2
  refine ⟨?_, ?_⟩
  ·refine ⟨0, ?_⟩
   refine ⟨?_, rfl, rfl, rfl⟩
   ·refine ⟨?_, ?_, ?_, ?_⟩
    ·omega
    ·omega
    ·rfl
    ·omega
  intro i hJ
  obtain ⟨h1, h2, h3, h4⟩ := hJ
  refine ⟨?_, ?_⟩
  ·intro b3
   try simp only [nrmT] at b3
   refine ⟨rfl, ?_, ?_, ?_, ?_, ?_, ?_, ?_, ?_⟩
   ·omega
   ·omega
   ·omega
   ·omega
   ·omega
   ·omega
   ·intro b4
    try simp only [nrmT] at b4
    rw [← J7l (d := 0) h4]; exact (allTo_falseI h1 (by omega) (by simpa using b4)).symm
   intro b5
   try simp only [nrmT] at b5
   refine ⟨?_, ?_⟩
   ·omega
   refine ⟨(i + 1), ?_⟩
   refine ⟨?_, ?_, rfl, rfl, rfl⟩
   ·refine ⟨?_, ?_, ?_, ?_⟩
    ·omega
    ·omega
    ·exact allTo_step h1 h3 (by simpa using b5)
    ·omega
   (simp only [J3k]; omega)
  intro b6
  try simp only [nrmT] at b6
  rw [← J7l (d := 0) h4, ← h3]; congr 1; omega
theorem JbB (xs : ZI) (ys : ZI)  : PC Tryz.prog 32 [.sl (.ints xs), .sl (.ints ys)] (.one (.d (.bool (xs == ys)))) :=
  pc_wf @Tryz.call32 fun hw => pc_by (by kernel_rfl) Tryz.func32 @Tryz.call32 (by kernel_rfl) JbQ (JbX xs ys) (by kernel_rfl) (Jbq xs ys hw.1 hw.2.1) (by kernel_rfl)
def JaB : List D → Orc := orcN [some .ints, some .ints] fun ds => match ds with
  | [.sl (.ints xs), .sl (.ints ys)] => some (.one (.d (.bool (xs == ys))))
  | _ => none
theorem J8W (row set : ZI) : ∀ k i, i < k → row.getD (Ji row set k).toNat 0 ≤ row.getD (set.getD i 0).toNat 0
  | 0, i, h => by omega
  | k + 1, i, h => by
    have ih := J8W row set k
    rw [J0R]
    unfold J2R
    by_cases e : i = k
    · subst e
      split
      · exact Int.le_refl _
      omega
    have := ih i (by omega)
    split <;> omega
theorem JbS {α : Type} {p : α → Bool} {xs : List α} {d : α} (h0 : 0 ≤ idxI p xs) {i : Nat} (hi : i < xs.length) (hp : p (xs.getD i d) = true) : idxI p xs ≤ (i : Int) ∧ p (xs.getD (idxI p xs).toNat d) = true := by
  unfold idxI at h0 ⊢
  cases hf : xs.findIdx? p with
  | none => rw [hf] at h0; simp at h0
  | some k =>
    obtain ⟨hk, h1, h2⟩ := List.findIdx?_eq_some_iff_getElem.1 hf
    show (k : Int) ≤ (i : Int) ∧ p (xs.getD (k : Int).toNat d) = true
    rw [Int.toNat_natCast, JZ hk]
    refine ⟨?_, h1⟩
    by_cases e : k ≤ i
    · omega
    rw [JZ hi] at hp
    have := h2 i (by omega)
    rw [hp] at this
    simp at this
abbrev J0r (n : Int) (code : Int) (out : ZI) (x : Int) : Prop := (0 ≤ x) ∧ (x ≤ n) ∧ (out = members (fun k => code.toNat.testBit k) x.toNat)
abbrev JS (n : Int) (code : Int) (out : ZI) (x : Int) : Nat := (n - x).toNat
def J8a (f : FuncId) (ds : List D) : Orc := .no
def J8l (n : Int) (code : Int) : Ann := .two (.none) (.two (.none) (.two (.two (.none) (.loop (cut2 (fun (out : ZI) (x : Int) => J0r n code out x) (fun (out : ZI) (x : Int) => [(0, .d false (.int .i64 n)), (1, .d false (.int .i64 code)), (5, .own 1000000 out.length), (6, .d true (.int .i64 x))]) (fun (out : ZI) (x : Int) => [(1000000, .arr true 3 (.ints out))])) (fun g => JS n code g.1 g.2) (fun _ => .none))) (.none)))
def J4M (n : Int) (code : Int) : Prop :=
  ((∃ out' : ZI, ∃ x' : Int, (J0r n code out' x') ∧ (n = n) ∧ (code = code) ∧ ((0 : Nat) = out'.length) ∧ ((0 : Int) = x') ∧ ([] = out')) ∧ (∀ out : ZI, ∀ x : Int, (J0r n code out x) → (((decide (x < n)) = true → ((0 : Int) ≤ code ∧ (code : Int) ≤ 9223372036854775807) ∧ ((0 : Int) ≤ x) ∧ ((0 : Int) ≤ (code / 2 ^ x.toNat) ∧ ((code / 2 ^ x.toNat) : Int) ≤ 9223372036854775807) ∧ ((0 : Int) ≤ 1 ∧ (1 : Int) ≤ 9223372036854775807) ∧ ((((((code / 2 ^ x.toNat).toNat &&& 1 : Nat) : Int) == 1) = true → (out.length = out.length) ∧ ((1 : Nat) = 1) ∧ ((out.length + 1) * 8 ≤ 140737488355328) ∧ (I6 (x + 1)) ∧ (∃ out' : ZI, ∃ x' : Int, (J0r n code out' x') ∧ (JS n code out' x' < JS n code out x) ∧ (n = n) ∧ (code = code) ∧ ((out.length + 1) = out'.length) ∧ ((x + 1) = x') ∧ ((out ++ [x]) = out'))) ∧ (((((code / 2 ^ x.toNat).toNat &&& 1 : Nat) : Int) == 1) = false → (I6 (x + 1)) ∧ (∃ out' : ZI, ∃ x' : Int, (J0r n code out' x') ∧ (JS n code out' x' < JS n code out x) ∧ (n = n) ∧ (code = code) ∧ (out.length = out'.length) ∧ ((x + 1) = x') ∧ (out = out'))))) ∧ ((decide (x < n)) = false → ((out.length = out.length) ∧ ((out : ZI) = members (fun k => code.toNat.testBit k) n.toNat))))))
theorem J7t (n : Int) (code : Int) (hn : 0 ≤ n ∧ n ≤ 62) (hc : 0 ≤ code ∧ code ≤ 4611686018427387903)  : J4M n code := by
  unfold J4M
  refine ⟨?_, ?_⟩
  ·refine ⟨([]), 0, ?_⟩
   refine ⟨?_, rfl, rfl, rfl, rfl, ?_⟩
   ·refine ⟨?_, ?_, ?_⟩
    ·omega
    ·omega
    ·rfl
   rfl
  intro out x hJ
  obtain ⟨h1, h2, h3⟩ := hJ
  refine ⟨?_, ?_⟩
  ·intro b1
   try simp only [nrmT] at b1
   refine ⟨?_, ?_, ?_, ?_, ?_, ?_⟩
   ·omega
   ·omega
   ·have h5 : 0 ≤ code / 2 ^ x.toNat := Int.ediv_nonneg hc.1 (Int.le_of_lt (Int.pow_pos (by omega)))
    have h6 : code / 2 ^ x.toNat ≤ code := Int.ediv_le_self _ hc.1
    omega
   ·omega
   ·intro b2
    try simp only [nrmT] at b2
    refine ⟨rfl, rfl, ?_, ?_, ?_⟩
    ·rw [h3]; have := members_len_le (fun k => code.toNat.testBit k) x.toNat; omega
    ·omega
    refine ⟨(out ++ [x]), (x + 1), ?_⟩
    refine ⟨?_, ?_, rfl, rfl, ?_, rfl, rfl⟩
    ·refine ⟨?_, ?_, ?_⟩
     ·omega
     ·omega
     ·have hb := shr_bit (n := code.toNat) (k := x.toNat)
      rw [show ((code.toNat : Nat) : Int) = code by omega] at hb
      have ht : code.toNat.testBit x.toNat = true := by
        cases h : code.toNat.testBit x.toNat with
        | true => rfl
        | false => rw [h] at hb; simp at hb; simp at b2; omega
      rw [h3, show (x + 1).toNat = x.toNat + 1 by omega, members_succ, if_pos ht, show ((x.toNat : Nat) : Int) = x by omega]
    ·(simp only [JS]; omega)
    simp
   intro b3
   try simp only [nrmT] at b3
   refine ⟨?_, ?_⟩
   ·omega
   refine ⟨out, (x + 1), ?_⟩
   refine ⟨?_, ?_, rfl, rfl, rfl, rfl, rfl⟩
   ·refine ⟨?_, ?_, ?_⟩
    ·omega
    ·omega
    ·have hb := shr_bit (n := code.toNat) (k := x.toNat)
     rw [show ((code.toNat : Nat) : Int) = code by omega] at hb
     have ht : code.toNat.testBit x.toNat = false := by
       cases h : code.toNat.testBit x.toNat with
       | false => rfl
       | true => rw [h] at hb; simp at hb; simp at b3; omega
     rw [h3, show (x + 1).toNat = x.toNat + 1 by omega, members_succ, ht]; simp
   (simp only [JS]; omega)
  intro b4
  try simp only [nrmT] at b4
  refine ⟨rfl, ?_⟩
  ·rw [h3, show x.toNat = n.toNat by omega]
theorem J7H (n : Int) (code : Int) (hn : 0 ≤ n ∧ n ≤ 62) (hc : 0 ≤ code ∧ code ≤ 4611686018427387903) : PC Tryz.prog 142 [.int .i64 n, .int .i64 code] (.one (.own 3 (.ints (members (fun k => code.toNat.testBit k) n.toNat)))) :=
  pc_wf @Tryz.call142 fun _ => pc_by (by kernel_rfl) Tryz.func142 @Tryz.call142 (by kernel_rfl) J8a (J8l n code) (by kernel_rfl) (J7t n code hn hc) (by kernel_rfl)
theorem J5X {g : Bool} {a b : Cur} {x y : Int} (ha : okC a x) (hb : okC b y) : okC (cond g a b) (max x y) := by
  cases g
  · exact J6 hb (by omega)
  exact J6 ha (by omega)
theorem J8m {p : Int → Prop} (l : ZI) (code : List Nat) (c : Cur) (h0 : 0 < l.length) (h : ∀ x ∈ l, p x) : p (l.getD (J3 code c (l.length : Int)).toNat 0) := h _ (Jcs l code c h0)
def JD (f : Int → Int) (l : ZI) : Int := (l.map f).sum
theorem JF (f : Int → Int) (x : Int) (l : ZI) : JD f (x :: l) = f x + JD f l := rfl
theorem J5V {f g : Int → Int} : ∀ {l : ZI}, (∀ x ∈ l, f x ≤ g x) → JD f l ≤ JD g l
  | [], _ => Int.le_refl _
  | x :: r, h => by
    have h1 := h x List.mem_cons_self
    have h2 := J5V (f := f) (g := g) (l := r) fun y hy => h y (List.mem_cons_of_mem _ hy)
    rw [JF, JF]; omega
theorem Jag (c : Int) (f : Int → Int) : ∀ l : ZI, JD (fun x => c * f x) l = c * JD f l
  | [] => by simp [JD]
  | x :: r => by rw [JF, JF, Jag c f r, Int.mul_add]
theorem J4D (f g : Nat → Int) : ∀ n, J0c (fun k => f k + g k) n = J0c f n + J0c g n
  | 0 => rfl
  | n + 1 => by rw [J0O, J0O, J0O, J4D f g n]; omega
theorem J40 {f g : Nat → Int} : ∀ n, (∀ k, k < n → f k ≤ g k) → J0c f n ≤ J0c g n
  | 0, _ => Int.le_refl _
  | n + 1, h => by
    have := J40 (f := f) (g := g) n fun k hk => h k (by omega)
    have := h n (by omega)
    rw [J0O, J0O]; omega
theorem Jbc {f g : Nat → Int} {n : Nat} (h : ∀ k, k < n → f k = g k) : J0c f n = J0c g n := by
  have h1 := J40 (f := f) (g := g) n fun k hk => by rw [h k hk]; exact Int.le_refl _
  have h2 := J40 (f := g) (g := f) n fun k hk => by rw [h k hk]; exact Int.le_refl _
  omega
theorem J4x (c : Int) (f : Nat → Int) : ∀ n, J0c (fun k => c * f k) n = c * J0c f n
  | 0 => by simp [J0c, foldTo]
  | n + 1 => by rw [J0O, J0O, J4x c f n, Int.mul_add]
theorem J7P : ∀ n, J0c (fun _ => 0) n = 0
  | 0 => rfl
  | n + 1 => by rw [J0O, J7P n]; rfl
theorem JaA {f : Int → Int} {l : ZI} (h : ∀ x ∈ l, 0 ≤ f x) : 0 ≤ JD f l := by
  have := J5V (f := fun _ => 0) (g := f) h
  have e : JD (fun _ => 0) l = 0 := by
    have := Jag 0 (fun _ => 0) l
    simp at this
    exact this
  omega
/-- What rawField and lineField draw. -/
def JcC (n : Nat) (r : ZI) : Prop := r.length = n ∧ ∀ x ∈ r, 0 ≤ x ∧ x ≤ 60
def drF (O : ZI) (D : ZR) : Prop := O.length ≤ 7 ∧ D.length ≤ 7 ∧ ∀ r ∈ D, JcC O.length r
theorem Jc {O : ZI} {D : ZR} (h : drF O D) {i a : Nat} (hi : i < D.length) (ha : a < O.length) : (D.getD i []).length = O.length ∧ 0 ≤ (D.getD i []).getD a 0 ∧ (D.getD i []).getD a 0 ≤ 60 := by
  obtain ⟨h1, h2⟩ := h.2.2 _ (getD_mem (d := []) hi)
  exact ⟨h1, h2 _ (getD_mem (by omega))⟩
theorem J6H {α : Type} {p : α → Prop} {l : List α} {x : α} (h : ∀ r ∈ l, p r) (hx : p x) : ∀ r ∈ l ++ [x], p r := by
  intro r hr
  rcases List.mem_append.1 hr with hr | hr
  · exact h r hr
  rw [List.mem_singleton.1 hr]; exact hx
theorem JaV {α : Type} {p : α → Prop} {l : List α} {x : α} {k : Nat} (h : ∀ r ∈ l, p r) (hx : p x) : ∀ r ∈ l.set k x, p r := by
  intro r hr
  rcases List.mem_or_eq_of_mem_set hr with hr | hr
  · exact h r hr
  rw [hr]; exact hx
theorem JaS {O : ZI} {D : ZR} (h : drF O D) {i a : Nat} {v : Int} (hi : i < D.length) (hv : 0 ≤ v ∧ v ≤ 60) : drF O (D.set i ((D.getD i []).set a v)) := by
  obtain ⟨h1, h2⟩ := h.2.2 _ (getD_mem (d := []) hi)
  refine ⟨h.1, by rw [List.length_set]; exact h.2.1, JaV h.2.2 ⟨by rw [List.length_set]; exact h1, JaV h2 hv⟩⟩
abbrev J0n (u : Value) (code : List Nat) (c : Cur) (most : Int) (n : Int) (m : Int) (c0 : Cur) (big : Int) (c1 : Cur) (O0 : ZI) (D0 : ZR) (a : Int) (c3 : Cur) (O1 : ZI) (D1 : ZR) : Prop := (0 ≤ a) ∧ (a ≤ 7) ∧ (O1.length = a.toNat) ∧ (D1 = []) ∧ (okC c3 (3000100 + 4 * a))
abbrev J0m (u : Value) (code : List Nat) (c : Cur) (most : Int) (n : Int) (m : Int) (c0 : Cur) (big : Int) (c1 : Cur) (O0 : ZI) (D0 : ZR) (a : Int) (c3 : Cur) (O1 : ZI) (D1 : ZR) : Nat := (7 - a).toNat
abbrev J1f (u : Value) (code : List Nat) (c : Cur) (most : Int) (n : Int) (m : Int) (c0 : Cur) (big : Int) (c1 : Cur) (O0 : ZI) (D0 : ZR) (c4 : Cur) (O2 : ZI) (D2 : ZR) : Prop := (okC c4 3000200) ∧ (O2.length ≤ 7) ∧ (D2 = [])
abbrev J0l (u : Value) (code : List Nat) (c : Cur) (most : Int) (n : Int) (m : Int) (c0 : Cur) (big : Int) (c1 : Cur) (O0 : ZI) (D0 : ZR) (c4 : Cur) (O2 : ZI) (D2 : ZR) (i : Int) (c5 : Cur) (O3 : ZI) (D3 : ZR) : Prop := (0 ≤ i) ∧ (i ≤ 7) ∧ (D3.length = i.toNat) ∧ (O3.length ≤ 7) ∧ (okC c5 (3000200 + 100 * i)) ∧ (∀ r ∈ D3, JcC O3.length r)
abbrev J0j (u : Value) (code : List Nat) (c : Cur) (most : Int) (n : Int) (m : Int) (c0 : Cur) (big : Int) (c1 : Cur) (O0 : ZI) (D0 : ZR) (c4 : Cur) (O2 : ZI) (D2 : ZR) (i : Int) (c5 : Cur) (O3 : ZI) (D3 : ZR) : Nat := (7 - i).toNat
abbrev J0p (u : Value) (code : List Nat) (c : Cur) (most : Int) (n : Int) (m : Int) (c0 : Cur) (big : Int) (c1 : Cur) (O0 : ZI) (D0 : ZR) (c4 : Cur) (O2 : ZI) (D2 : ZR) (i : Int) (c5 : Cur) (O3 : ZI) (D3 : ZR) (row : ZI) (a2 : Int) (c6 : Cur) : Prop := (0 ≤ a2) ∧ (a2 ≤ (O3.length : Int)) ∧ (row.length = a2.toNat) ∧ (okC c6 (3000200 + 100 * i + 4 * a2)) ∧ (∀ x ∈ row, 0 ≤ x ∧ x ≤ 60)
abbrev J0h (u : Value) (code : List Nat) (c : Cur) (most : Int) (n : Int) (m : Int) (c0 : Cur) (big : Int) (c1 : Cur) (O0 : ZI) (D0 : ZR) (c4 : Cur) (O2 : ZI) (D2 : ZR) (i : Int) (c5 : Cur) (O3 : ZI) (D3 : ZR) (row : ZI) (a2 : Int) (c6 : Cur) : Nat := (O3.length - a2).toNat
abbrev J1d (u : Value) (code : List Nat) (c : Cur) (most : Int) (n : Int) (m : Int) (c0 : Cur) : Prop := (0 ≤ n ∧ n ≤ 7) ∧ (0 ≤ m ∧ m ≤ 7) ∧ (okC c0 3000050)
abbrev J1e (u : Value) (code : List Nat) (c : Cur) (most : Int) (n : Int) (m : Int) (c0 : Cur) (big : Int) (c1 : Cur) (O0 : ZI) (D0 : ZR) : Prop := (1 ≤ big ∧ big ≤ 20) ∧ (okC c1 3000100) ∧ (O0 = []) ∧ (D0 = [])
abbrev JU (code : List Nat) (c : Cur) (most : Int) (O : ZI) (D : ZR) (cf : Cur) : Prop := (okC cf 4000000) ∧ (drF O D)
def Js (code : List Nat) (c : Cur) (most : Int) : Ex := ex3 1 (fun (O : ZI) (D : ZR) (cf : Cur) => JU code c most O D cf) (fun (O : ZI) (D : ZR) (cf : Cur) => [.int .i64 cf.pos, .int .u64 cf.seed]) (fun (O : ZI) (D : ZR) (cf : Cur) => .agg [.own 3 (.ints O), .mat 3 24 D])
def J5g (f : FuncId) (ds : List D) : Orc := .no
def J5h (u : Value) (code : List Nat) (c : Cur) (most : Int) : Ann := .two (.none) (.cut (.mark [] [(2, .cell [.int .i64 ((J1 code c (([3, 4, 2, 5, 1, 6, 7]).length : Int)).pos), .int .u64 ((J1 code c (([3, 4, 2, 5, 1, 6, 7]).length : Int)).seed)] (.one (.d (.int .i64 (([3, 4, 2, 5, 1, 6, 7]).getD (J3 code c (([3, 4, 2, 5, 1, 6, 7]).length : Int)).toNat 0))))), (5, .cell [.int .i64 ((J1 code (J1 code c (([3, 4, 2, 5, 1, 6, 7]).length : Int)) (([4, 3, 5, 2, 6, 7, 1, 0]).length : Int)).pos), .int .u64 ((J1 code (J1 code c (([3, 4, 2, 5, 1, 6, 7]).length : Int)) (([4, 3, 5, 2, 6, 7, 1, 0]).length : Int)).seed)] (.one (.d (.int .i64 (([4, 3, 5, 2, 6, 7, 1, 0]).getD (J3 code (J1 code c (([3, 4, 2, 5, 1, 6, 7]).length : Int)) (([4, 3, 5, 2, 6, 7, 1, 0]).length : Int)).toNat 0)))))]) (cut3 (fun (n : Int) (m : Int) (c0 : Cur) => J1d u code c most n m c0) (fun (n : Int) (m : Int) (c0 : Cur) => [(0, .ptr 0 0), (1, .d false (.int .i64 most)), (4, .ptr 4 0), (5, .d true (.int .i64 n)), (6, .d true (.int .i64 m))]) (fun (n : Int) (m : Int) (c0 : Cur) => [(0, .box 76 [.d false (.lit u (.sl (.bytes code))), .d true (.int .i64 c0.pos), .d true (.int .u64 c0.seed)]), (4, .box 27 [.d true (.nil), .d true (.nil)])])) (fun g => (fun (n : Int) (m : Int) (c0 : Cur) => .cut (.mark [] [(3, .cell [.int .i64 ((J1 code c0 (([10, 10, 20, 4]).length : Int)).pos), .int .u64 ((J1 code c0 (([10, 10, 20, 4]).length : Int)).seed)] (.one (.d (.int .i64 (([10, 10, 20, 4]).getD (J3 code c0 (([10, 10, 20, 4]).length : Int)).toNat 0)))))]) (cut4 (fun (big : Int) (c1 : Cur) (O0 : ZI) (D0 : ZR) => J1e u code c most n m c0 big c1 O0 D0) (fun (big : Int) (c1 : Cur) (O0 : ZI) (D0 : ZR) => [(0, .ptr 0 0), (1, .d false (.int .i64 most)), (4, .ptr 4 0), (5, .d true (.int .i64 n)), (6, .d true (.int .i64 m)), (7, .ptr 7 0), (8, .d true (.int .i64 big))]) (fun (big : Int) (c1 : Cur) (O0 : ZI) (D0 : ZR) => [(0, .box 76 [.d false (.lit u (.sl (.bytes code))), .d true (.int .i64 c1.pos), .d true (.int .u64 c1.seed)]), (4, .box 27 [.d true (.nil), .d true (.nil)]), (1500202, .arr true 3 (.ints O0)), (1500203, .mat 3 24 D0 none), (7, .box 27 [.own 1500202 O0.length, .own 1500203 D0.length])])) (fun g => (fun (big : Int) (c1 : Cur) (O0 : ZI) (D0 : ZR) => .cut (.two (.none) (.loop (cut4 (fun (a : Int) (c3 : Cur) (O1 : ZI) (D1 : ZR) => J0n u code c most n m c0 big c1 O0 D0 a c3 O1 D1) (fun (a : Int) (c3 : Cur) (O1 : ZI) (D1 : ZR) => [(0, .ptr 0 0), (1, .d false (.int .i64 most)), (4, .ptr 4 0), (5, .d true (.int .i64 n)), (6, .d true (.int .i64 m)), (7, .ptr 7 0), (8, .d true (.int .i64 big)), (9, .d true (.int .i64 a))]) (fun (a : Int) (c3 : Cur) (O1 : ZI) (D1 : ZR) => [(0, .box 76 [.d false (.lit u (.sl (.bytes code))), .d true (.int .i64 c3.pos), .d true (.int .u64 c3.seed)]), (4, .box 27 [.d true (.nil), .d true (.nil)]), (1000002, .arr true 3 (.ints O1)), (1000003, .mat 3 24 D1 none), (7, .box 27 [.own 1000002 O1.length, .own 1000003 D1.length])])) (fun g => J0m u code c most n m c0 big c1 O0 D0 g.1 g.2.1 g.2.2.1 g.2.2.2) (fun g => (fun (a : Int) (c3 : Cur) (O1 : ZI) (D1 : ZR) => .two (.none) (.two (.reg [(4, .cell [.int .i64 ((J1 code c3 big).pos), .int .u64 ((J1 code c3 big).seed)] (.one (.d (.int .i64 (J3 code c3 big)))))]) (.none))) (g.1) (g.2.1) (g.2.2.1) (g.2.2.2)))) (cut3 (fun (c4 : Cur) (O2 : ZI) (D2 : ZR) => J1f u code c most n m c0 big c1 O0 D0 c4 O2 D2) (fun (c4 : Cur) (O2 : ZI) (D2 : ZR) => [(0, .ptr 0 0), (1, .d false (.int .i64 most)), (4, .ptr 4 0), (6, .d true (.int .i64 m)), (7, .ptr 7 0), (8, .d true (.int .i64 big))]) (fun (c4 : Cur) (O2 : ZI) (D2 : ZR) => [(0, .box 76 [.d false (.lit u (.sl (.bytes code))), .d true (.int .i64 c4.pos), .d true (.int .u64 c4.seed)]), (4, .box 27 [.d true (.nil), .d true (.nil)]), (1000051, .arr true 3 (.ints O2)), (1000052, .mat 3 24 D2 none), (7, .box 27 [.own 1000051 O2.length, .own 1000052 D2.length])])) (fun g => (fun (c4 : Cur) (O2 : ZI) (D2 : ZR) => .two (.two (.none) (.loop (cut4 (fun (i : Int) (c5 : Cur) (O3 : ZI) (D3 : ZR) => J0l u code c most n m c0 big c1 O0 D0 c4 O2 D2 i c5 O3 D3) (fun (i : Int) (c5 : Cur) (O3 : ZI) (D3 : ZR) => [(0, .ptr 0 0), (1, .d false (.int .i64 most)), (4, .ptr 4 0), (6, .d true (.int .i64 m)), (7, .ptr 7 0), (8, .d true (.int .i64 big)), (10, .d true (.int .i64 i))]) (fun (i : Int) (c5 : Cur) (O3 : ZI) (D3 : ZR) => [(0, .box 76 [.d false (.lit u (.sl (.bytes code))), .d true (.int .i64 c5.pos), .d true (.int .u64 c5.seed)]), (4, .box 27 [.d true (.nil), .d true (.nil)]), (1000102, .arr true 3 (.ints O3)), (1000103, .mat 3 24 D3 none), (7, .box 27 [.own 1000102 O3.length, .own 1000103 D3.length])])) (fun g => J0j u code c most n m c0 big c1 O0 D0 c4 O2 D2 g.1 g.2.1 g.2.2.1 g.2.2.2) (fun g => (fun (i : Int) (c5 : Cur) (O3 : ZI) (D3 : ZR) => .two (.none) (.two (.two (.none) (.two (.two (.none) (.loop (cut3 (fun (row : ZI) (a2 : Int) (c6 : Cur) => J0p u code c most n m c0 big c1 O0 D0 c4 O2 D2 i c5 O3 D3 row a2 c6) (fun (row : ZI) (a2 : Int) (c6 : Cur) => [(0, .ptr 0 0), (1, .d false (.int .i64 most)), (4, .ptr 4 0), (6, .d true (.int .i64 m)), (7, .ptr 7 0), (8, .d true (.int .i64 big)), (10, .d true (.int .i64 i)), (11, .own 1000200 row.length), (12, .d true (.int .i64 a2))]) (fun (row : ZI) (a2 : Int) (c6 : Cur) => [(1000200, .arr true 3 (.ints row)), (0, .box 76 [.d false (.lit u (.sl (.bytes code))), .d true (.int .i64 c6.pos), .d true (.int .u64 c6.seed)]), (4, .box 27 [.d true (.nil), .d true (.nil)]), (7, .box 27 [.own 1000102 O3.length, .own 1000103 D3.length]), (1000102, .arr true 3 (.ints O3)), (1000103, .mat 3 24 D3 none)])) (fun g => J0h u code c most n m c0 big c1 O0 D0 c4 O2 D2 i c5 O3 D3 g.1 g.2.1 g.2.2) (fun g => (fun (row : ZI) (a2 : Int) (c6 : Cur) => .two (.none) (.two (.mark [] [(3, .cell [.int .i64 ((J1 code c6 big).pos), .int .u64 ((J1 code c6 big).seed)] (.one (.d (.int .i64 (J3 code c6 big)))))]) (.none))) (g.1) (g.2.1) (g.2.2)))) (.none))) (.none))) (g.1) (g.2.1) (g.2.2.1) (g.2.2.2)))) (.none)) (g.1) (g.2.1) (g.2.2))) (g.1) (g.2.1) (g.2.2.1) (g.2.2.2))) (g.1) (g.2.1) (g.2.2)))
def J1v (u : Value) (code : List Nat) (c : Cur) (most : Int) : Prop :=
  ((((7 : Nat) = 7) ∧ (PK Tryz.prog 155 76 (.sl (.bytes code)) [.int .i64 c.pos, .int .u64 c.seed] [.int .i64 ((J1 code c (([3, 4, 2, 5, 1, 6, 7]).length : Int)).pos), .int .u64 ((J1 code c (([3, 4, 2, 5, 1, 6, 7]).length : Int)).seed)] [.sl (.ints ([3, 4, 2, 5, 1, 6, 7]))] (.one (.d (.int .i64 (([3, 4, 2, 5, 1, 6, 7]).getD (J3 code c (([3, 4, 2, 5, 1, 6, 7]).length : Int)).toNat 0))))) ∧ ((8 : Nat) = 8) ∧ (PK Tryz.prog 155 76 (.sl (.bytes code)) [.int .i64 ((J1 code c (([3, 4, 2, 5, 1, 6, 7]).length : Int)).pos), .int .u64 ((J1 code c (([3, 4, 2, 5, 1, 6, 7]).length : Int)).seed)] [.int .i64 ((J1 code (J1 code c (([3, 4, 2, 5, 1, 6, 7]).length : Int)) (([4, 3, 5, 2, 6, 7, 1, 0]).length : Int)).pos), .int .u64 ((J1 code (J1 code c (([3, 4, 2, 5, 1, 6, 7]).length : Int)) (([4, 3, 5, 2, 6, 7, 1, 0]).length : Int)).seed)] [.sl (.ints ([4, 3, 5, 2, 6, 7, 1, 0]))] (.one (.d (.int .i64 (([4, 3, 5, 2, 6, 7, 1, 0]).getD (J3 code (J1 code c (([3, 4, 2, 5, 1, 6, 7]).length : Int)) (([4, 3, 5, 2, 6, 7, 1, 0]).length : Int)).toNat 0))))) ∧ (∃ n' : Int, ∃ m' : Int, ∃ c0' : Cur, (J1d u code c most n' m' c0') ∧ (most = most) ∧ ((([3, 4, 2, 5, 1, 6, 7]).getD (J3 code c (([3, 4, 2, 5, 1, 6, 7]).length : Int)).toNat 0) = n') ∧ ((([4, 3, 5, 2, 6, 7, 1, 0]).getD (J3 code (J1 code c (([3, 4, 2, 5, 1, 6, 7]).length : Int)) (([4, 3, 5, 2, 6, 7, 1, 0]).length : Int)).toNat 0) = m') ∧ ((.lit u (.sl (.bytes code)) : D) = .lit u (.sl (.bytes code))) ∧ ((J1 code (J1 code c (([3, 4, 2, 5, 1, 6, 7]).length : Int)) (([4, 3, 5, 2, 6, 7, 1, 0]).length : Int)).pos = c0'.pos) ∧ ((J1 code (J1 code c (([3, 4, 2, 5, 1, 6, 7]).length : Int)) (([4, 3, 5, 2, 6, 7, 1, 0]).length : Int)).seed = c0'.seed))) ∧ (∀ n : Int, ∀ m : Int, ∀ c0 : Cur, (J1d u code c most n m c0) → ((((4 : Nat) = 4) ∧ (PK Tryz.prog 155 76 (.sl (.bytes code)) [.int .i64 c0.pos, .int .u64 c0.seed] [.int .i64 ((J1 code c0 (([10, 10, 20, 4]).length : Int)).pos), .int .u64 ((J1 code c0 (([10, 10, 20, 4]).length : Int)).seed)] [.sl (.ints ([10, 10, 20, 4]))] (.one (.d (.int .i64 (([10, 10, 20, 4]).getD (J3 code c0 (([10, 10, 20, 4]).length : Int)).toNat 0))))) ∧ (∃ big' : Int, ∃ c1' : Cur, ∃ O0' : ZI, ∃ D0' : ZR, (J1e u code c most n m c0 big' c1' O0' D0') ∧ (most = most) ∧ (n = n) ∧ (m = m) ∧ ((([10, 10, 20, 4]).getD (J3 code c0 (([10, 10, 20, 4]).length : Int)).toNat 0) = big') ∧ ((.lit u (.sl (.bytes code)) : D) = .lit u (.sl (.bytes code))) ∧ ((J1 code c0 (([10, 10, 20, 4]).length : Int)).pos = c1'.pos) ∧ ((J1 code c0 (([10, 10, 20, 4]).length : Int)).seed = c1'.seed) ∧ ((O0').length = 0) ∧ ((D0').length = 0) ∧ ((0 : Nat) = O0'.length) ∧ ((0 : Nat) = D0'.length))) ∧ (∀ big : Int, ∀ c1 : Cur, ∀ O0 : ZI, ∀ D0 : ZR, (J1e u code c most n m c0 big c1 O0 D0) → ((((∃ a' : Int, ∃ c3' : Cur, ∃ O1' : ZI, ∃ D1' : ZR, (J0n u code c most n m c0 big c1 O0 D0 a' c3' O1' D1') ∧ (most = most) ∧ (n = n) ∧ (m = m) ∧ (big = big) ∧ ((0 : Int) = a') ∧ ((.lit u (.sl (.bytes code)) : D) = .lit u (.sl (.bytes code))) ∧ (c1.pos = c3'.pos) ∧ (c1.seed = c3'.seed) ∧ (O0 = O1') ∧ (D0 = D1') ∧ (O0.length = O1'.length) ∧ (D0.length = D1'.length)) ∧ (∀ a : Int, ∀ c3 : Cur, ∀ O1 : ZI, ∀ D1 : ZR, (J0n u code c most n m c0 big c1 O0 D0 a c3 O1 D1) → ((decide (a < n)) = true → (decide (a < n)) = true) ∧ ((decide (a < n)) = true → (decide (a < n)) = true) ∧ (true = true) ∧ (((decide (a < n)) = true → (decide (a < n)) = true)) ∧ (((decide (a < n)) = false → true = true)) ∧ (((cond (decide (a < n)) (decide (a < most)) false) = true → (true = true) ∧ (PK Tryz.prog 156 76 (.sl (.bytes code)) [.int .i64 c3.pos, .int .u64 c3.seed] [.int .i64 ((J1 code c3 big).pos), .int .u64 ((J1 code c3 big).seed)] [.int .i64 big] (.one (.d (.int .i64 (J3 code c3 big))))) ∧ (O1.length = O1.length) ∧ ((1 : Nat) = 1) ∧ ((O1.length + 1) * 8 ≤ 140737488355328) ∧ (I6 (a + 1)) ∧ (∃ a' : Int, ∃ c3' : Cur, ∃ O1' : ZI, ∃ D1' : ZR, (J0n u code c most n m c0 big c1 O0 D0 a' c3' O1' D1') ∧ (J0m u code c most n m c0 big c1 O0 D0 a' c3' O1' D1' < J0m u code c most n m c0 big c1 O0 D0 a c3 O1 D1) ∧ (most = most) ∧ (n = n) ∧ (m = m) ∧ (big = big) ∧ ((a + 1) = a') ∧ ((.lit u (.sl (.bytes code)) : D) = .lit u (.sl (.bytes code))) ∧ ((J1 code c3 big).pos = c3'.pos) ∧ ((J1 code c3 big).seed = c3'.seed) ∧ ((O1 ++ [(J3 code c3 big)]) = O1') ∧ (D1 = D1') ∧ ((O1.length + 1) = O1'.length) ∧ (D1.length = D1'.length))) ∧ ((cond (decide (a < n)) (decide (a < most)) false) = false → (∃ c4' : Cur, ∃ O2' : ZI, ∃ D2' : ZR, (J1f u code c most n m c0 big c1 O0 D0 c4' O2' D2') ∧ (most = most) ∧ (m = m) ∧ (big = big) ∧ ((.lit u (.sl (.bytes code)) : D) = .lit u (.sl (.bytes code))) ∧ (c3.pos = c4'.pos) ∧ (c3.seed = c4'.seed) ∧ (O1 = O2') ∧ (D1 = D2') ∧ (O1.length = O2'.length) ∧ (D1.length = D2'.length))))))) ∧ (∀ c4 : Cur, ∀ O2 : ZI, ∀ D2 : ZR, (J1f u code c most n m c0 big c1 O0 D0 c4 O2 D2) → ((∃ i' : Int, ∃ c5' : Cur, ∃ O3' : ZI, ∃ D3' : ZR, (J0l u code c most n m c0 big c1 O0 D0 c4 O2 D2 i' c5' O3' D3') ∧ (most = most) ∧ (m = m) ∧ (big = big) ∧ ((0 : Int) = i') ∧ ((.lit u (.sl (.bytes code)) : D) = .lit u (.sl (.bytes code))) ∧ (c4.pos = c5'.pos) ∧ (c4.seed = c5'.seed) ∧ (O2 = O3') ∧ (D2 = D3') ∧ (O2.length = O3'.length) ∧ (D2.length = D3'.length)) ∧ (∀ i : Int, ∀ c5 : Cur, ∀ O3 : ZI, ∀ D3 : ZR, (J0l u code c most n m c0 big c1 O0 D0 c4 O2 D2 i c5 O3 D3) → ((decide (i < m)) = true → (decide (i < m)) = true) ∧ ((decide (i < m)) = true → (decide (i < m)) = true) ∧ (true = true) ∧ (((decide (i < m)) = true → (decide (i < m)) = true)) ∧ (((decide (i < m)) = false → true = true)) ∧ (((cond (decide (i < m)) (decide (i < most)) false) = true → ((∃ row' : ZI, ∃ a2' : Int, ∃ c6' : Cur, (J0p u code c most n m c0 big c1 O0 D0 c4 O2 D2 i c5 O3 D3 row' a2' c6') ∧ (most = most) ∧ (m = m) ∧ (big = big) ∧ (i = i) ∧ ((0 : Nat) = row'.length) ∧ ((0 : Int) = a2') ∧ ([] = row') ∧ ((.lit u (.sl (.bytes code)) : D) = .lit u (.sl (.bytes code))) ∧ (c5.pos = c6'.pos) ∧ (c5.seed = c6'.seed) ∧ (O3.length = O3.length) ∧ (D3.length = D3.length) ∧ (O3 = O3) ∧ (D3 = D3)) ∧ (∀ row : ZI, ∀ a2 : Int, ∀ c6 : Cur, (J0p u code c most n m c0 big c1 O0 D0 c4 O2 D2 i c5 O3 D3 row a2 c6) → (((decide (a2 < (O3.length : Int))) = true → (PK Tryz.prog 156 76 (.sl (.bytes code)) [.int .i64 c6.pos, .int .u64 c6.seed] [.int .i64 ((J1 code c6 big).pos), .int .u64 ((J1 code c6 big).seed)] [.int .i64 big] (.one (.d (.int .i64 (J3 code c6 big))))) ∧ (row.length = row.length) ∧ ((1 : Nat) = 1) ∧ ((row.length + 1) * 8 ≤ 140737488355328) ∧ (I6 (a2 + 1)) ∧ (∃ row' : ZI, ∃ a2' : Int, ∃ c6' : Cur, (J0p u code c most n m c0 big c1 O0 D0 c4 O2 D2 i c5 O3 D3 row' a2' c6') ∧ (J0h u code c most n m c0 big c1 O0 D0 c4 O2 D2 i c5 O3 D3 row' a2' c6' < J0h u code c most n m c0 big c1 O0 D0 c4 O2 D2 i c5 O3 D3 row a2 c6) ∧ (most = most) ∧ (m = m) ∧ (big = big) ∧ (i = i) ∧ ((row.length + 1) = row'.length) ∧ ((a2 + 1) = a2') ∧ ((row ++ [(J3 code c6 big)]) = row') ∧ ((.lit u (.sl (.bytes code)) : D) = .lit u (.sl (.bytes code))) ∧ ((J1 code c6 big).pos = c6'.pos) ∧ ((J1 code c6 big).seed = c6'.seed) ∧ (O3.length = O3.length) ∧ (D3.length = D3.length) ∧ (O3 = O3) ∧ (D3 = D3))) ∧ ((decide (a2 < (O3.length : Int))) = false → (row.length = row.length) ∧ (D3.length = D3.length) ∧ ((1 : Nat) = 1) ∧ (0 < 1) ∧ ((D3.length + 1) * 24 ≤ 140737488355328) ∧ (I6 (i + 1)) ∧ (∃ i' : Int, ∃ c5' : Cur, ∃ O3' : ZI, ∃ D3' : ZR, (J0l u code c most n m c0 big c1 O0 D0 c4 O2 D2 i' c5' O3' D3') ∧ (J0j u code c most n m c0 big c1 O0 D0 c4 O2 D2 i' c5' O3' D3' < J0j u code c most n m c0 big c1 O0 D0 c4 O2 D2 i c5 O3 D3) ∧ (most = most) ∧ (m = m) ∧ (big = big) ∧ ((i + 1) = i') ∧ ((.lit u (.sl (.bytes code)) : D) = .lit u (.sl (.bytes code))) ∧ (c6.pos = c5'.pos) ∧ (c6.seed = c5'.seed) ∧ (O3 = O3') ∧ ((D3 ++ [row]) = D3') ∧ (O3.length = O3'.length) ∧ ((D3.length + 1) = D3'.length))))))) ∧ ((cond (decide (i < m)) (decide (i < most)) false) = false → (∃ O' : ZI, ∃ D' : ZR, ∃ cf' : Cur, (JU code c most O' D' cf') ∧ (true = true) ∧ ((.lit u (.sl (.bytes code)) : D) = .lit u (.sl (.bytes code))) ∧ (c5.pos = cf'.pos) ∧ (c5.seed = cf'.seed) ∧ (O3.length = O3.length) ∧ ((O3 : ZI) = O') ∧ (D3.length = D3.length) ∧ ((D3 : ZR) = D'))))))))))))
theorem J5e (u : Value) (code : List Nat) (c : Cur) (most : Int) (hb : ∀ x9 ∈ code, x9 < 256) (hc : okC c 3000000) (hm : 0 ≤ most ∧ most ≤ 7)  : J1v u code c most := by
  unfold J1v
  refine ⟨?_, ?_⟩
  ·refine ⟨rfl, ?_, rfl, ?_, ?_⟩
   ·refine J02 code c ([3, 4, 2, 5, 1, 6, 7]) ?_ ?_ ?_
    ·exact hb
    ·exact J6 (by assumption) (by omega)
    ·simp
   ·refine J02 code (J1 code c (([3, 4, 2, 5, 1, 6, 7]).length : Int)) ([4, 3, 5, 2, 6, 7, 1, 0]) ?_ ?_ ?_
    ·exact hb
    ·exact J6 (Jb (by assumption)) (by omega)
    ·simp
   ·refine ⟨(([3, 4, 2, 5, 1, 6, 7]).getD (J3 code c (([3, 4, 2, 5, 1, 6, 7]).length : Int)).toNat 0), (([4, 3, 5, 2, 6, 7, 1, 0]).getD (J3 code (J1 code c (([3, 4, 2, 5, 1, 6, 7]).length : Int)) (([4, 3, 5, 2, 6, 7, 1, 0]).length : Int)).toNat 0), (J1 code (J1 code c (([3, 4, 2, 5, 1, 6, 7]).length : Int)) (([4, 3, 5, 2, 6, 7, 1, 0]).length : Int)), ?_⟩
    refine ⟨?_, rfl, rfl, rfl, rfl, rfl, rfl⟩
    ·refine ⟨?_, ?_, ?_⟩
     ·exact J8m (p := fun z => 0 ≤ z ∧ z ≤ 7) [3, 4, 2, 5, 1, 6, 7] code _ (by simp) (by simp)
     ·exact J8m (p := fun z => 0 ≤ z ∧ z ≤ 7) [4, 3, 5, 2, 6, 7, 1, 0] code _ (by simp) (by simp)
     ·exact J6 (Jb (Jb (by assumption))) (by omega)
  intro n m c0 hJ
  obtain ⟨n1, n2, n7⟩ := hJ
  refine ⟨?_, ?_⟩
  ·refine ⟨rfl, ?_, ?_⟩
   ·refine J02 code c0 ([10, 10, 20, 4]) ?_ ?_ ?_
    ·exact hb
    ·exact J6 (by assumption) (by omega)
    ·simp
   ·refine ⟨(([10, 10, 20, 4]).getD (J3 code c0 (([10, 10, 20, 4]).length : Int)).toNat 0), (J1 code c0 (([10, 10, 20, 4]).length : Int)), ([]), ([]), ?_⟩
    refine ⟨?_, rfl, rfl, rfl, rfl, rfl, rfl, rfl, ?_, ?_, rfl, rfl⟩
    ·refine ⟨?_, ?_, ?_, ?_⟩
     ·exact J8m (p := fun z => 1 ≤ z ∧ z ≤ 20) [10, 10, 20, 4] code _ (by simp) (by simp)
     ·exact J6 (Jb (by assumption)) (by omega)
     ·rfl
     ·rfl
    ·rfl
    rfl
  intro big c1 O0 D0 hJ
  obtain ⟨n3, n4, n5, n6⟩ := hJ
  refine ⟨?_, ?_⟩
  ·refine ⟨?_, ?_⟩
   ·refine ⟨0, c1, O0, D0, ?_⟩
    refine ⟨?_, rfl, rfl, rfl, rfl, rfl, rfl, rfl, rfl, rfl, rfl, rfl, rfl⟩
    ·refine ⟨?_, ?_, ?_, ?_, ?_⟩
     ·omega
     ·omega
     ·(simp_all; done)
     ·assumption
     ·exact J6 (by assumption) (by omega)
   ·intro a c3 O1 D1 hJ
    obtain ⟨h1, h2, h3, h4, h5⟩ := hJ
    refine ⟨id, id, rfl, id, fun _ => rfl, ?_, ?_⟩
    ·intro b1
     refine ⟨rfl, ?_, rfl, rfl, ?_, ?_, ?_⟩
     ·refine Jg code c3 big ?_ ?_
      ·exact hb
      ·exact J6 (by assumption) (by omega)
     ·omega
     ·omega
     refine ⟨(a + 1), (J1 code c3 big), (O1 ++ [(J3 code c3 big)]), D1, ?_⟩
     refine ⟨?_, ?_, rfl, rfl, rfl, rfl, rfl, rfl, rfl, rfl, rfl, rfl, ?_, rfl⟩
     ·refine ⟨?_, ?_, ?_, ?_, ?_⟩
      ·omega
      ·(simp_all <;> omega)
      ·(simp_all <;> omega)
      ·assumption
      ·exact J6 (Jb (by assumption)) (by omega)
     ·(simp only [J0m] at *; simp at *; omega)
     simp
    intro b2
    refine ⟨c3, O1, D1, ?_⟩
    refine ⟨?_, rfl, rfl, rfl, rfl, rfl, rfl, rfl, rfl, rfl, rfl⟩
    ·refine ⟨?_, ?_, ?_⟩
     ·exact J6 (by assumption) (by omega)
     ·omega
     ·assumption
  intro c4 O2 D2 hJ
  obtain ⟨j0, j1, j2⟩ := hJ
  refine ⟨?_, ?_⟩
  ·refine ⟨0, c4, O2, D2, ?_⟩
   refine ⟨?_, rfl, rfl, rfl, rfl, rfl, rfl, rfl, rfl, rfl, rfl, rfl⟩
   ·refine ⟨?_, ?_, ?_, ?_, ?_, ?_⟩
    ·omega
    ·omega
    ·(simp_all; done)
    ·omega
    ·exact J6 (by assumption) (by omega)
    ·(rw [j2]; intro r hr; cases hr)
  intro i c5 O3 D3 hJ
  obtain ⟨k1, k2, k3, k4, k5, k6⟩ := hJ
  refine ⟨id, id, rfl, id, fun _ => rfl, ?_, ?_⟩
  ·intro b3
   refine ⟨?_, ?_⟩
   ·refine ⟨([]), 0, c5, ?_⟩
    refine ⟨?_, rfl, rfl, rfl, rfl, rfl, rfl, ?_, rfl, rfl, rfl, rfl, rfl, rfl, rfl⟩
    ·refine ⟨?_, ?_, ?_, ?_, ?_⟩
     ·omega
     ·omega
     ·rfl
     ·exact J6 (by assumption) (by omega)
     ·(intro r hr; cases hr)
    rfl
   intro row a2 c6 hJ
   obtain ⟨m1, m2, m3, m4, m5⟩ := hJ
   refine ⟨?_, ?_⟩
   ·intro b4
    try simp only [nrmT] at b4
    refine ⟨?_, rfl, rfl, ?_, ?_, ?_⟩
    ·refine Jg code c6 big ?_ ?_
     ·exact hb
     ·exact J6 (by assumption) (by omega)
    ·omega
    ·omega
    refine ⟨(row ++ [(J3 code c6 big)]), (a2 + 1), (J1 code c6 big), ?_⟩
    refine ⟨?_, ?_, rfl, rfl, rfl, rfl, ?_, rfl, rfl, rfl, rfl, rfl, rfl, rfl, rfl, rfl⟩
    ·refine ⟨?_, ?_, ?_, ?_, ?_⟩
     ·omega
     ·omega
     ·(simp_all <;> omega)
     ·exact J6 (Jb (by assumption)) (by omega)
     ·refine J6H (by assumption) ?_
      have v := Jn code c6 (n := big) (by omega)
      omega
    ·(simp only [J0h]; omega)
    simp
   intro b5
   try simp only [nrmT] at b5
   refine ⟨rfl, rfl, rfl, by decide, ?_, ?_, ?_⟩
   ·omega
   ·omega
   refine ⟨(i + 1), c6, O3, (D3 ++ [row]), ?_⟩
   refine ⟨?_, ?_, rfl, rfl, rfl, rfl, rfl, rfl, rfl, rfl, rfl, rfl, ?_⟩
   ·refine ⟨?_, ?_, ?_, ?_, ?_, ?_⟩
    ·omega
    ·(simp_all <;> omega)
    ·(simp_all <;> omega)
    ·omega
    ·exact J6 (by assumption) (by omega)
    ·refine J6H (by assumption) ?_
     exact ⟨by omega, by assumption⟩
   ·(simp only [J0j] at *; simp at *; omega)
   simp
  intro b6
  refine ⟨O3, D3, c5, ?_⟩
  refine ⟨?_, rfl, rfl, rfl, rfl, rfl, rfl, rfl, rfl⟩
  ·refine ⟨?_, ?_⟩
   ·exact J6 (by assumption) (by omega)
   ·exact ⟨by omega, by omega, by assumption⟩
theorem J0q (code : List Nat) (c : Cur) (most : Int) (hb : ∀ x9 ∈ code, x9 < 256) (hc : okC c 3000000) (hm : 0 ≤ most ∧ most ≤ 7) : PKE Tryz.prog 188 76 (.sl (.bytes code)) [.int .i64 c.pos, .int .u64 c.seed] [.int .i64 most] (Js code c most) :=
  pke_by (Q := fun u => J1v u code c most) (by kernel_rfl) Tryz.func188 @Tryz.call188 (by kernel_rfl) J5g (fun u => J5h u code c most) (by kernel_rfl) (fun u => J5e u code c most hb hc hm) (fun u => by kernel_rfl)
abbrev J0a (u : Value) (code : List Nat) (c : Cur) (most : Int) (pl : ZI) (c0 : Cur) (O0 : ZI) (D0 : ZR) (pl2 : ZI) (a : Int) (c1 : Cur) : Prop := (0 ≤ a) ∧ (a ≤ (O0.length : Int)) ∧ (pl2.length = a.toNat) ∧ (∀ y ∈ pl2, 0 ≤ y ∧ y < 20) ∧ (okC c1 (4000000 + 4 * a))
abbrev J09 (u : Value) (code : List Nat) (c : Cur) (most : Int) (pl : ZI) (c0 : Cur) (O0 : ZI) (D0 : ZR) (pl2 : ZI) (a : Int) (c1 : Cur) : Nat := (O0.length - a).toNat
abbrev J10 (u : Value) (code : List Nat) (c : Cur) (most : Int) (pl : ZI) (c0 : Cur) (O0 : ZI) (D0 : ZR) (pl1 : ZI) (c2 : Cur) : Prop := (okC c2 4001000) ∧ (pl1.length = O0.length) ∧ (∀ y ∈ pl1, 0 ≤ y ∧ y < 20)
abbrev J0b (u : Value) (code : List Nat) (c : Cur) (most : Int) (pl : ZI) (c0 : Cur) (O0 : ZI) (D0 : ZR) (pl1 : ZI) (c2 : Cur) (i : Int) (c3 : Cur) (O1 : ZI) (D1 : ZR) : Prop := (0 ≤ i) ∧ (i ≤ (D1.length : Int)) ∧ (drF O1 D1) ∧ (pl1.length = O1.length) ∧ (okC c3 (4001000 + 10 * i))
abbrev J0e (u : Value) (code : List Nat) (c : Cur) (most : Int) (pl : ZI) (c0 : Cur) (O0 : ZI) (D0 : ZR) (pl1 : ZI) (c2 : Cur) (i : Int) (c3 : Cur) (O1 : ZI) (D1 : ZR) : Nat := (D1.length - i).toNat
abbrev J0d (u : Value) (code : List Nat) (c : Cur) (most : Int) (pl : ZI) (c0 : Cur) (O0 : ZI) (D0 : ZR) (pl1 : ZI) (c2 : Cur) (i : Int) (c3 : Cur) (O1 : ZI) (D1 : ZR) (x : Int) (c5 : Cur) (a2 : Int) (D2 : ZR) : Prop := (0 ≤ a2) ∧ (a2 ≤ (O1.length : Int)) ∧ (drF O1 D2) ∧ (D2.length = D1.length)
abbrev J07 (u : Value) (code : List Nat) (c : Cur) (most : Int) (pl : ZI) (c0 : Cur) (O0 : ZI) (D0 : ZR) (pl1 : ZI) (c2 : Cur) (i : Int) (c3 : Cur) (O1 : ZI) (D1 : ZR) (x : Int) (c5 : Cur) (a2 : Int) (D2 : ZR) : Nat := (O1.length - a2).toNat
abbrev J14 (u : Value) (code : List Nat) (c : Cur) (most : Int) (pl : ZI) (c0 : Cur) (O0 : ZI) (D0 : ZR) : Prop := (pl = []) ∧ (okC c0 4000000) ∧ (drF O0 D0)
abbrev J11 (u : Value) (code : List Nat) (c : Cur) (most : Int) (pl : ZI) (c0 : Cur) (O0 : ZI) (D0 : ZR) (pl1 : ZI) (c2 : Cur) (i : Int) (c3 : Cur) (O1 : ZI) (D1 : ZR) (x : Int) (c5 : Cur) : Prop := (0 ≤ x ∧ x < 20) ∧ (okC c5 (4001010 + 10 * i))
abbrev J0E (code : List Nat) (c : Cur) (most : Int) (O : ZI) (D : ZR) (cg : Cur) : Prop := (okC cg 6000000) ∧ (drF O D)
def J00 (code : List Nat) (c : Cur) (most : Int) : Ex := ex3 1 (fun (O : ZI) (D : ZR) (cg : Cur) => J0E code c most O D cg) (fun (O : ZI) (D : ZR) (cg : Cur) => [.int .i64 cg.pos, .int .u64 cg.seed]) (fun (O : ZI) (D : ZR) (cg : Cur) => .agg [.own 3 (.ints O), .mat 3 24 D])
def J56 (f : FuncId) (ds : List D) : Orc := bif Nat.beq f 154 then J9H ds else .no
def J5f (u : Value) (code : List Nat) (c : Cur) (most : Int) : Ann := .two (.none) (.cut (.exr (.ex [] 2 (Js code c most) (fun g => (fun (Or1 : ZI) (Dr1 : ZR) (cfr1 : Cur) => .ms [] []) (g.1) (g.2.1) (g.2.2)))) (cut4 (fun (pl : ZI) (c0 : Cur) (O0 : ZI) (D0 : ZR) => J14 u code c most pl c0 O0 D0) (fun (pl : ZI) (c0 : Cur) (O0 : ZI) (D0 : ZR) => [(0, .ptr 0 0), (4, .ptr 4 0), (5, .ptr 5 0), (6, .own 1500100 pl.length)]) (fun (pl : ZI) (c0 : Cur) (O0 : ZI) (D0 : ZR) => [(1500100, .arr true 3 (.ints pl)), (0, .box 76 [.d false (.lit u (.sl (.bytes code))), .d true (.int .i64 c0.pos), .d true (.int .u64 c0.seed)]), (4, .box 27 [.d true (.nil), .d true (.nil)]), (1500102, .arr true 3 (.ints O0)), (1500103, .mat 3 24 D0 none), (5, .box 27 [.own 1500102 O0.length, .own 1500103 D0.length])])) (fun g => (fun (pl : ZI) (c0 : Cur) (O0 : ZI) (D0 : ZR) => .cut (.two (.none) (.loop (cut3 (fun (pl2 : ZI) (a : Int) (c1 : Cur) => J0a u code c most pl c0 O0 D0 pl2 a c1) (fun (pl2 : ZI) (a : Int) (c1 : Cur) => [(0, .ptr 0 0), (4, .ptr 4 0), (5, .ptr 5 0), (6, .own 1000000 pl2.length), (7, .d true (.int .i64 a))]) (fun (pl2 : ZI) (a : Int) (c1 : Cur) => [(1000000, .arr true 3 (.ints pl2)), (0, .box 76 [.d false (.lit u (.sl (.bytes code))), .d true (.int .i64 c1.pos), .d true (.int .u64 c1.seed)]), (4, .box 27 [.d true (.nil), .d true (.nil)]), (5, .box 27 [.own 1500102 O0.length, .own 1500103 D0.length]), (1500102, .arr true 3 (.ints O0)), (1500103, .mat 3 24 D0 none)])) (fun g => J09 u code c most pl c0 O0 D0 g.1 g.2.1 g.2.2) (fun g => (fun (pl2 : ZI) (a : Int) (c1 : Cur) => .two (.none) (.two (.mark [] [(2, .cell [.int .i64 ((J1 code c1 20).pos), .int .u64 ((J1 code c1 20).seed)] (.one (.d (.int .i64 (J3 code c1 20)))))]) (.none))) (g.1) (g.2.1) (g.2.2)))) (cut2 (fun (pl1 : ZI) (c2 : Cur) => J10 u code c most pl c0 O0 D0 pl1 c2) (fun (pl1 : ZI) (c2 : Cur) => [(0, .ptr 0 0), (4, .ptr 4 0), (5, .ptr 5 0), (6, .own 1000050 pl1.length)]) (fun (pl1 : ZI) (c2 : Cur) => [(1000050, .arr true 3 (.ints pl1)), (0, .box 76 [.d false (.lit u (.sl (.bytes code))), .d true (.int .i64 c2.pos), .d true (.int .u64 c2.seed)]), (4, .box 27 [.d true (.nil), .d true (.nil)]), (5, .box 27 [.own 1500102 O0.length, .own 1500103 D0.length]), (1500102, .arr true 3 (.ints O0)), (1500103, .mat 3 24 D0 none)])) (fun g => (fun (pl1 : ZI) (c2 : Cur) => .two (.two (.none) (.loop (cut4 (fun (i : Int) (c3 : Cur) (O1 : ZI) (D1 : ZR) => J0b u code c most pl c0 O0 D0 pl1 c2 i c3 O1 D1) (fun (i : Int) (c3 : Cur) (O1 : ZI) (D1 : ZR) => [(0, .ptr 0 0), (4, .ptr 4 0), (5, .ptr 5 0), (6, .own 1000050 pl1.length), (8, .d true (.int .i64 i))]) (fun (i : Int) (c3 : Cur) (O1 : ZI) (D1 : ZR) => [(0, .box 76 [.d false (.lit u (.sl (.bytes code))), .d true (.int .i64 c3.pos), .d true (.int .u64 c3.seed)]), (4, .box 27 [.d true (.nil), .d true (.nil)]), (1000102, .arr true 3 (.ints O1)), (1000103, .mat 3 24 D1 none), (5, .box 27 [.own 1000102 O1.length, .own 1000103 D1.length]), (1000050, .arr true 3 (.ints pl1))])) (fun g => J0e u code c most pl c0 O0 D0 pl1 c2 g.1 g.2.1 g.2.2.1 g.2.2.2) (fun g => (fun (i : Int) (c3 : Cur) (O1 : ZI) (D1 : ZR) => .two (.none) (.two (.cut (.mark [] [(1, .cell [.int .i64 ((J1 code c3 20).pos), .int .u64 ((J1 code c3 20).seed)] (.one (.d (.int .i64 (J3 code c3 20)))))]) (cut2 (fun (x : Int) (c5 : Cur) => J11 u code c most pl c0 O0 D0 pl1 c2 i c3 O1 D1 x c5) (fun (x : Int) (c5 : Cur) => [(0, .ptr 0 0), (4, .ptr 4 0), (5, .ptr 5 0), (6, .own 1000050 pl1.length), (8, .d true (.int .i64 i)), (9, .d true (.int .i64 x))]) (fun (x : Int) (c5 : Cur) => [(0, .box 76 [.d false (.lit u (.sl (.bytes code))), .d true (.int .i64 c5.pos), .d true (.int .u64 c5.seed)]), (4, .box 27 [.d true (.nil), .d true (.nil)]), (5, .box 27 [.own 1000102 O1.length, .own 1000103 D1.length]), (1000050, .arr true 3 (.ints pl1)), (1000102, .arr true 3 (.ints O1)), (1000103, .mat 3 24 D1 none)])) (fun g => (fun (x : Int) (c5 : Cur) => .two (.none) (.loop (cut2 (fun (a2 : Int) (D2 : ZR) => J0d u code c most pl c0 O0 D0 pl1 c2 i c3 O1 D1 x c5 a2 D2) (fun (a2 : Int) (D2 : ZR) => [(0, .ptr 0 0), (4, .ptr 4 0), (5, .ptr 5 0), (6, .own 1000050 pl1.length), (8, .d true (.int .i64 i)), (9, .d true (.int .i64 x)), (10, .d true (.int .i64 a2))]) (fun (a2 : Int) (D2 : ZR) => [(0, .box 76 [.d false (.lit u (.sl (.bytes code))), .d true (.int .i64 c5.pos), .d true (.int .u64 c5.seed)]), (4, .box 27 [.d true (.nil), .d true (.nil)]), (1000201, .mat 3 24 D2 none), (5, .box 27 [.own 1000102 O1.length, .own 1000201 D2.length]), (1000050, .arr true 3 (.ints pl1)), (1000102, .arr true 3 (.ints O1))])) (fun g => J07 u code c most pl c0 O0 D0 pl1 c2 i c3 O1 D1 x c5 g.1 g.2) (fun _ => .none))) (g.1) (g.2))) (.none))) (g.1) (g.2.1) (g.2.2.1) (g.2.2.2)))) (.none)) (g.1) (g.2))) (g.1) (g.2.1) (g.2.2.1) (g.2.2.2)))
def J1m (u : Value) (code : List Nat) (c : Cur) (most : Int) : Prop :=
  (((PKE Tryz.prog 188 76 (.sl (.bytes code)) [.int .i64 c.pos, .int .u64 c.seed] [.int .i64 most] (Js code c most)) ∧ (∀ Or1 : ZI, ∀ Dr1 : ZR, ∀ cfr1 : Cur, JU code c most Or1 Dr1 cfr1 → ((true = true) ∧ (∃ pl' : ZI, ∃ c0' : Cur, ∃ O0' : ZI, ∃ D0' : ZR, (J14 u code c most pl' c0' O0' D0') ∧ ((0 : Nat) = pl'.length) ∧ ([] = pl') ∧ ((.lit u (.sl (.bytes code)) : D) = .lit u (.sl (.bytes code))) ∧ (cfr1.pos = c0'.pos) ∧ (cfr1.seed = c0'.seed) ∧ (Or1 = O0') ∧ (Dr1 = D0') ∧ (Or1.length = O0'.length) ∧ (Dr1.length = D0'.length))))) ∧ (∀ pl : ZI, ∀ c0 : Cur, ∀ O0 : ZI, ∀ D0 : ZR, (J14 u code c most pl c0 O0 D0) → ((((∃ pl2' : ZI, ∃ a' : Int, ∃ c1' : Cur, (J0a u code c most pl c0 O0 D0 pl2' a' c1') ∧ (pl.length = pl2'.length) ∧ ((0 : Int) = a') ∧ (pl = pl2') ∧ ((.lit u (.sl (.bytes code)) : D) = .lit u (.sl (.bytes code))) ∧ (c0.pos = c1'.pos) ∧ (c0.seed = c1'.seed) ∧ (O0.length = O0.length) ∧ (D0.length = D0.length) ∧ (O0 = O0) ∧ (D0 = D0)) ∧ (∀ pl2 : ZI, ∀ a : Int, ∀ c1 : Cur, (J0a u code c most pl c0 O0 D0 pl2 a c1) → (((decide (a < (O0.length : Int))) = true → (PK Tryz.prog 156 76 (.sl (.bytes code)) [.int .i64 c1.pos, .int .u64 c1.seed] [.int .i64 ((J1 code c1 20).pos), .int .u64 ((J1 code c1 20).seed)] [.int .i64 20] (.one (.d (.int .i64 (J3 code c1 20))))) ∧ (pl2.length = pl2.length) ∧ ((1 : Nat) = 1) ∧ ((pl2.length + 1) * 8 ≤ 140737488355328) ∧ (I6 (a + 1)) ∧ (∃ pl2' : ZI, ∃ a' : Int, ∃ c1' : Cur, (J0a u code c most pl c0 O0 D0 pl2' a' c1') ∧ (J09 u code c most pl c0 O0 D0 pl2' a' c1' < J09 u code c most pl c0 O0 D0 pl2 a c1) ∧ ((pl2.length + 1) = pl2'.length) ∧ ((a + 1) = a') ∧ ((pl2 ++ [(J3 code c1 20)]) = pl2') ∧ ((.lit u (.sl (.bytes code)) : D) = .lit u (.sl (.bytes code))) ∧ ((J1 code c1 20).pos = c1'.pos) ∧ ((J1 code c1 20).seed = c1'.seed) ∧ (O0.length = O0.length) ∧ (D0.length = D0.length) ∧ (O0 = O0) ∧ (D0 = D0))) ∧ ((decide (a < (O0.length : Int))) = false → (∃ pl1' : ZI, ∃ c2' : Cur, (J10 u code c most pl c0 O0 D0 pl1' c2') ∧ (pl2.length = pl1'.length) ∧ (pl2 = pl1') ∧ ((.lit u (.sl (.bytes code)) : D) = .lit u (.sl (.bytes code))) ∧ (c1.pos = c2'.pos) ∧ (c1.seed = c2'.seed) ∧ (O0.length = O0.length) ∧ (D0.length = D0.length) ∧ (O0 = O0) ∧ (D0 = D0))))))) ∧ (∀ pl1 : ZI, ∀ c2 : Cur, (J10 u code c most pl c0 O0 D0 pl1 c2) → ((∃ i' : Int, ∃ c3' : Cur, ∃ O1' : ZI, ∃ D1' : ZR, (J0b u code c most pl c0 O0 D0 pl1 c2 i' c3' O1' D1') ∧ (pl1.length = pl1.length) ∧ ((0 : Int) = i') ∧ ((.lit u (.sl (.bytes code)) : D) = .lit u (.sl (.bytes code))) ∧ (c2.pos = c3'.pos) ∧ (c2.seed = c3'.seed) ∧ (O0 = O1') ∧ (D0 = D1') ∧ (O0.length = O1'.length) ∧ (D0.length = D1'.length) ∧ (pl1 = pl1)) ∧ (∀ i : Int, ∀ c3 : Cur, ∀ O1 : ZI, ∀ D1 : ZR, (J0b u code c most pl c0 O0 D0 pl1 c2 i c3 O1 D1) → (((decide (i < (D1.length : Int))) = true → (((PK Tryz.prog 156 76 (.sl (.bytes code)) [.int .i64 c3.pos, .int .u64 c3.seed] [.int .i64 ((J1 code c3 20).pos), .int .u64 ((J1 code c3 20).seed)] [.int .i64 20] (.one (.d (.int .i64 (J3 code c3 20))))) ∧ (∃ x' : Int, ∃ c5' : Cur, (J11 u code c most pl c0 O0 D0 pl1 c2 i c3 O1 D1 x' c5') ∧ (pl1.length = pl1.length) ∧ (i = i) ∧ ((J3 code c3 20) = x') ∧ ((.lit u (.sl (.bytes code)) : D) = .lit u (.sl (.bytes code))) ∧ ((J1 code c3 20).pos = c5'.pos) ∧ ((J1 code c3 20).seed = c5'.seed) ∧ (O1.length = O1.length) ∧ (D1.length = D1.length) ∧ (pl1 = pl1) ∧ (O1 = O1) ∧ (D1 = D1))) ∧ (∀ x : Int, ∀ c5 : Cur, (J11 u code c most pl c0 O0 D0 pl1 c2 i c3 O1 D1 x c5) → ((∃ a2' : Int, ∃ D2' : ZR, (J0d u code c most pl c0 O0 D0 pl1 c2 i c3 O1 D1 x c5 a2' D2') ∧ (pl1.length = pl1.length) ∧ (i = i) ∧ (x = x) ∧ ((0 : Int) = a2') ∧ ((.lit u (.sl (.bytes code)) : D) = .lit u (.sl (.bytes code))) ∧ (c5.pos = c5.pos) ∧ (c5.seed = c5.seed) ∧ (D1 = D2') ∧ (O1.length = O1.length) ∧ (D1.length = D2'.length) ∧ (pl1 = pl1) ∧ (O1 = O1)) ∧ (∀ a2 : Int, ∀ D2 : ZR, (J0d u code c most pl c0 O0 D0 pl1 c2 i c3 O1 D1 x c5 a2 D2) → (((decide (a2 < (O1.length : Int))) = true → (true = true) ∧ ((0 : Int) ≤ i) ∧ ((i : Int) < (D2.length : Int)) ∧ (i.toNat < D2.length) ∧ ((0 : Int) ≤ a2) ∧ ((a2 : Int) < (pl1.length : Int)) ∧ (a2.toNat < pl1.length) ∧ (I6 (x - (pl1.getD a2.toNat 0))) ∧ ((0 : Int) ≤ a2) ∧ ((a2 : Int) < (pl1.length : Int)) ∧ (a2.toNat < pl1.length) ∧ (I6 ((pl1.getD a2.toNat 0) - x)) ∧ (PC Tryz.prog 154 [.int .i64 (x - (pl1.getD a2.toNat 0)), .int .i64 ((pl1.getD a2.toNat 0) - x)] (.one (.d (.int .i64 (max (x - (pl1.getD a2.toNat 0)) ((pl1.getD a2.toNat 0) - x)))))) ∧ ((0 : Int) ≤ a2) ∧ ((a2 : Int) < (((D2.getD i.toNat []).length) : Int)) ∧ (i.toNat < D2.length) ∧ (a2.toNat < (D2.getD i.toNat []).length) ∧ (I6 (a2 + 1)) ∧ (∃ a2' : Int, ∃ D2' : ZR, (J0d u code c most pl c0 O0 D0 pl1 c2 i c3 O1 D1 x c5 a2' D2') ∧ (J07 u code c most pl c0 O0 D0 pl1 c2 i c3 O1 D1 x c5 a2' D2' < J07 u code c most pl c0 O0 D0 pl1 c2 i c3 O1 D1 x c5 a2 D2) ∧ (pl1.length = pl1.length) ∧ (i = i) ∧ (x = x) ∧ ((a2 + 1) = a2') ∧ ((.lit u (.sl (.bytes code)) : D) = .lit u (.sl (.bytes code))) ∧ (c5.pos = c5.pos) ∧ (c5.seed = c5.seed) ∧ ((D2.set i.toNat ((D2.getD i.toNat []).set a2.toNat (max (x - (pl1.getD a2.toNat 0)) ((pl1.getD a2.toNat 0) - x)))) = D2') ∧ (O1.length = O1.length) ∧ (D2.length = D2'.length) ∧ (pl1 = pl1) ∧ (O1 = O1))) ∧ ((decide (a2 < (O1.length : Int))) = false → (I6 (i + 1)) ∧ (∃ i' : Int, ∃ c3' : Cur, ∃ O1' : ZI, ∃ D1' : ZR, (J0b u code c most pl c0 O0 D0 pl1 c2 i' c3' O1' D1') ∧ (J0e u code c most pl c0 O0 D0 pl1 c2 i' c3' O1' D1' < J0e u code c most pl c0 O0 D0 pl1 c2 i c3 O1 D1) ∧ (pl1.length = pl1.length) ∧ ((i + 1) = i') ∧ ((.lit u (.sl (.bytes code)) : D) = .lit u (.sl (.bytes code))) ∧ (c5.pos = c3'.pos) ∧ (c5.seed = c3'.seed) ∧ (O1 = O1') ∧ (D2 = D1') ∧ (O1.length = O1'.length) ∧ (D2.length = D1'.length) ∧ (pl1 = pl1))))))))) ∧ ((decide (i < (D1.length : Int))) = false → (∃ O' : ZI, ∃ D' : ZR, ∃ cg' : Cur, (J0E code c most O' D' cg') ∧ (true = true) ∧ ((.lit u (.sl (.bytes code)) : D) = .lit u (.sl (.bytes code))) ∧ (c3.pos = cg'.pos) ∧ (c3.seed = cg'.seed) ∧ (O1.length = O1.length) ∧ ((O1 : ZI) = O') ∧ (D1.length = D1.length) ∧ ((D1 : ZR) = D'))))))))))
theorem J4S (u : Value) (code : List Nat) (c : Cur) (most : Int) (hb : ∀ x9 ∈ code, x9 < 256) (hc : okC c 3000000) (hm : 0 ≤ most ∧ most ≤ 7)  : J1m u code c most := by
  unfold J1m
  refine ⟨?_, ?_⟩
  ·refine ⟨?_, ?_⟩
   ·refine J0q code c most ?_ ?_ ?_
    ·exact hb
    ·exact J6 (by assumption) (by omega)
    ·omega
   ·intro Or1 Dr1 cfr1 hQ9
    obtain ⟨f1r1, f2r1⟩ := hQ9
    refine ⟨rfl, ?_⟩
    ·refine ⟨([]), cfr1, Or1, Dr1, ?_⟩
     refine ⟨?_, rfl, ?_, rfl, rfl, rfl, rfl, rfl, rfl, rfl⟩
     ·refine ⟨?_, ?_, ?_⟩
      ·rfl
      ·exact J6 (by assumption) (by omega)
      ·assumption
     rfl
  intro pl c0 O0 D0 hJ
  obtain ⟨p1, p2, d0⟩ := hJ
  refine ⟨?_, ?_⟩
  ·refine ⟨?_, ?_⟩
   ·refine ⟨pl, 0, c0, ?_⟩
    refine ⟨?_, rfl, rfl, rfl, rfl, rfl, rfl, rfl, rfl, rfl, rfl⟩
    ·refine ⟨?_, ?_, ?_, ?_, ?_⟩
     ·omega
     ·omega
     ·(simp_all; done)
     ·(rw [p1]; intro y hy; cases hy)
     ·exact J6 (by assumption) (by omega)
   ·intro pl2 a c1 hJ
    obtain ⟨h1, h2, h3, h4, h5⟩ := hJ
    refine ⟨?_, ?_⟩
    ·intro b1
     try simp only [nrmT] at b1
     refine ⟨?_, rfl, rfl, ?_, ?_, ?_⟩
     ·refine Jg code c1 20 ?_ ?_
      ·exact hb
      ·(have q9 := d0.1; exact J6 (by repeat (first | assumption | apply J5X | apply Jb | apply J0I | exact J6Q)) (by omega))
     ·have q := d0.1; omega
     ·(have q := d0.1; omega)
     refine ⟨(pl2 ++ [(J3 code c1 20)]), (a + 1), (J1 code c1 20), ?_⟩
     refine ⟨?_, ?_, ?_, rfl, rfl, rfl, rfl, rfl, rfl, rfl, rfl, rfl⟩
     ·refine ⟨?_, ?_, ?_, ?_, ?_⟩
      ·omega
      ·omega
      ·(simp_all <;> omega)
      ·refine J6H (by assumption) ?_
       exact Jn code c1 (n := 20) (by omega)
      ·exact J6 (Jb (by assumption)) (by omega)
     ·(simp only [J09]; omega)
     simp
    intro b2
    try simp only [nrmT] at b2
    refine ⟨pl2, c1, ?_⟩
    refine ⟨?_, rfl, rfl, rfl, rfl, rfl, rfl, rfl, rfl, rfl⟩
    ·refine ⟨?_, ?_, ?_⟩
     ·(have q9 := d0.1; exact J6 (by repeat (first | assumption | apply J5X | apply Jb | apply J0I | exact J6Q)) (by omega))
     ·omega
     ·assumption
  intro pl1 c2 hJ
  obtain ⟨p4, p5, p3⟩ := hJ
  refine ⟨?_, ?_⟩
  ·refine ⟨0, c2, O0, D0, ?_⟩
   refine ⟨?_, rfl, rfl, rfl, rfl, rfl, rfl, rfl, rfl, rfl, rfl⟩
   ·refine ⟨?_, ?_, ?_, ?_, ?_⟩
    ·omega
    ·omega
    ·assumption
    ·omega
    ·exact J6 (by assumption) (by omega)
  intro i c3 O1 D1 hJ
  obtain ⟨k1, k2, d1, k6, k5⟩ := hJ
  refine ⟨?_, ?_⟩
  ·intro b3
   try simp only [nrmT] at b3
   refine ⟨?_, ?_⟩
   ·refine ⟨?_, ?_⟩
    ·refine Jg code c3 20 ?_ ?_
     ·exact hb
     ·(have q9 := d1.2.1; exact J6 (by repeat (first | assumption | apply J5X | apply Jb | apply J0I | exact J6Q)) (by omega))
    ·refine ⟨(J3 code c3 20), (J1 code c3 20), ?_⟩
     refine ⟨?_, rfl, rfl, rfl, rfl, rfl, rfl, rfl, rfl, rfl, rfl, rfl⟩
     ·refine ⟨?_, ?_⟩
      ·exact Jn code _ (n := 20) (by omega)
      ·exact J6 (Jb (by assumption)) (by omega)
   intro x c5 hJ
   obtain ⟨x1, x2⟩ := hJ
   refine ⟨?_, ?_⟩
   ·refine ⟨0, D1, ?_⟩
    refine ⟨?_, rfl, rfl, rfl, rfl, rfl, rfl, rfl, rfl, rfl, rfl, rfl, rfl⟩
    ·refine ⟨?_, ?_, ?_, ?_⟩
     ·omega
     ·have := d1.1; omega
     ·assumption
     ·omega
   intro a2 D2 hJ
   obtain ⟨m1, m2, d2, m3⟩ := hJ
   refine ⟨?_, ?_⟩
   ·intro b4
    try simp only [nrmT] at b4
    refine ⟨rfl, ?_, ?_, ?_, ?_, ?_, ?_, ?_, ?_, ?_, ?_, ?_, JaK (x - (pl1.getD a2.toNat 0)) ((pl1.getD a2.toNat 0) - x), ?_, ?_, ?_, ?_, ?_, ?_⟩
    ·omega
    ·omega
    ·omega
    ·omega
    ·omega
    ·omega
    ·have q := p3 _ (getD_mem (d := 0) (show a2.toNat < pl1.length by omega))
     have q2 := x1
     omega
    ·omega
    ·omega
    ·omega
    ·have q := p3 _ (getD_mem (d := 0) (show a2.toNat < pl1.length by omega))
     have q2 := x1
     omega
    ·omega
    ·have q := (Jc d2 (i := i.toNat) (a := a2.toNat) (by omega) (by omega)).1
     omega
    ·omega
    ·have q := (Jc d2 (i := i.toNat) (a := a2.toNat) (by omega) (by omega)).1
     omega
    ·(have q := d1.1; have q2 := d1.2.1; omega)
    refine ⟨(a2 + 1), (D2.set i.toNat ((D2.getD i.toNat []).set a2.toNat (max (x - (pl1.getD a2.toNat 0)) ((pl1.getD a2.toNat 0) - x)))), ?_⟩
    refine ⟨?_, ?_, rfl, rfl, rfl, rfl, rfl, rfl, rfl, rfl, rfl, ?_, rfl, rfl⟩
    ·refine ⟨?_, ?_, ?_, ?_⟩
     ·omega
     ·have := d1.1; omega
     ·refine JaS (by assumption) (by omega) ?_
      have q := p3 _ (getD_mem (d := 0) (show a2.toNat < pl1.length by omega))
      omega
     ·simp; try omega
    ·(simp only [J07]; omega)
    (simp_all; done)
   intro b5
   try simp only [nrmT] at b5
   refine ⟨?_, ?_⟩
   ·(have q := d1.1; have q2 := d1.2.1; omega)
   refine ⟨(i + 1), c5, O1, D2, ?_⟩
   refine ⟨?_, ?_, rfl, rfl, rfl, rfl, rfl, rfl, rfl, rfl, rfl, rfl⟩
   ·refine ⟨?_, ?_, ?_, ?_, ?_⟩
    ·omega
    ·omega
    ·assumption
    ·have := d1.1; omega
    ·exact J6 (by assumption) (by omega)
   (simp only [J0e]; omega)
  intro b6
  try simp only [nrmT] at b6
  refine ⟨O1, D1, c3, ?_⟩
  refine ⟨?_, rfl, rfl, rfl, rfl, rfl, rfl, rfl, rfl⟩
  ·refine ⟨?_, ?_⟩
   ·(have q9 := d1.2.1; exact J6 (by repeat (first | assumption | apply J5X | apply Jb | apply J0I | exact J6Q)) (by omega))
   ·assumption
theorem J2G (code : List Nat) (c : Cur) (most : Int) (hb : ∀ x9 ∈ code, x9 < 256) (hc : okC c 3000000) (hm : 0 ≤ most ∧ most ≤ 7) : PKE Tryz.prog 186 76 (.sl (.bytes code)) [.int .i64 c.pos, .int .u64 c.seed] [.int .i64 most] (J00 code c most) :=
  pke_by (Q := fun u => J1m u code c most) (by kernel_rfl) Tryz.func186 @Tryz.call186 (by kernel_rfl) J56 (fun u => J5f u code c most) (by kernel_rfl) (fun u => J4S u code c most hb hc hm) (fun u => by kernel_rfl)
abbrev J0A (u : Value) (code : List Nat) (c : Cur) (U : ZI) (E : ZR) (aa : Int) (c1 : Cur) (O1 : ZI) (D1 : ZR) : Prop := (D1.length ≤ 8) ∧ (O1.length ≤ 7)
abbrev J0C (u : Value) (code : List Nat) (c : Cur) (U : ZI) (E : ZR) (aa : Int) (c1 : Cur) (O1 : ZI) (D1 : ZR) : Nat := 8 - D1.length
abbrev J1l (u : Value) (code : List Nat) (c : Cur) (U : ZI) (E : ZR) (aa : Int) (c1 : Cur) : Prop := (0 ≤ aa ∧ aa < (U.length : Int)) ∧ (okC c1 7000100)
abbrev Jj (code : List Nat) (c : Cur) (U : ZI) (E : ZR) (O : ZI) (D : ZR) (ch : Cur) : Prop := (okC ch 8000000) ∧ (O.length ≤ 8) ∧ (D.length ≤ 8)
def JL (code : List Nat) (c : Cur) (U : ZI) (E : ZR) : Ex := ex3 2 (fun (O : ZI) (D : ZR) (ch : Cur) => Jj code c U E O D ch) (fun (O : ZI) (D : ZR) (ch : Cur) => [.int .i64 ch.pos, .int .u64 ch.seed]) (fun (O : ZI) (D : ZR) (ch : Cur) => .agg [.own 3 (.ints O), .mat 3 24 D])
def J5Z (f : FuncId) (ds : List D) : Orc := bif Nat.beq f 98 then J6C ds else .no
def J60 (u : Value) (code : List Nat) (c : Cur) (U : ZI) (E : ZR) : Ann := .two (.none) (.two (.none) (.cut (.mark [] [(4, .cell [.int .i64 ((J1 code c (U.length : Int)).pos), .int .u64 ((J1 code c (U.length : Int)).seed)] (.one (.d (.int .i64 (J3 code c (U.length : Int))))))]) (cut2 (fun (aa : Int) (c1 : Cur) => J1l u code c U E aa c1) (fun (aa : Int) (c1 : Cur) => [(0, .ptr 0 0), (3, .ptr 3 0), (4, .ptr 4 0), (5, .d true (.int .i64 aa))]) (fun (aa : Int) (c1 : Cur) => [(0, .box 76 [.d false (.lit u (.sl (.bytes code))), .d true (.int .i64 c1.pos), .d true (.int .u64 c1.seed)]), (3, .box 27 [.own 1 U.length, .own 2 E.length]), (4, .box 27 [.d true (.nil), .d true (.nil)]), (1, .arr true 3 (.ints U)), (2, .mat 3 24 E none)])) (fun g => (fun (aa : Int) (c1 : Cur) => .two (.two (.mark [] [(1, .cell [.int .i64 ((J1 code c1 60).pos), .int .u64 ((J1 code c1 60).seed)] (.one (.d (.int .i64 (J3 code c1 60)))))]) (.two (.none) (.two (.reg [(5, .cell [.int .i64 ((J1 code (J1 code c1 60) (([(-1), 99, 100, 4611686018427387904]).length : Int)).pos), .int .u64 ((J1 code (J1 code c1 60) (([(-1), 99, 100, 4611686018427387904]).length : Int)).seed)] (.one (.d (.int .i64 (([(-1), 99, 100, 4611686018427387904]).getD (J3 code (J1 code c1 60) (([(-1), 99, 100, 4611686018427387904]).length : Int)).toNat 0)))))]) (.two (.none) (.two (.two (.none) (.two (.reg [(7, .cell [.int .i64 ((J1 code (J1 code c1 60) (([(-1), 99, 100, (-9223372036854775808)]).length : Int)).pos), .int .u64 ((J1 code (J1 code c1 60) (([(-1), 99, 100, (-9223372036854775808)]).length : Int)).seed)] (.one (.d (.int .i64 (([(-1), 99, 100, (-9223372036854775808)]).getD (J3 code (J1 code c1 60) (([(-1), 99, 100, (-9223372036854775808)]).length : Int)).toNat 0)))))]) (.none))) (.two (.none) (.two (.none) (.two (.none) (.two (.loop (cut2 (fun (O1 : ZI) (D1 : ZR) => J0A u code c U E aa c1 O1 D1) (fun (O1 : ZI) (D1 : ZR) => [(0, .ptr 0 0), (3, .ptr 3 0), (4, .ptr 4 0)]) (fun (O1 : ZI) (D1 : ZR) => [(0, .box 76 [.d false (.lit u (.sl (.bytes code))), .d true (.int .i64 ((J1 code c1 60).pos)), .d true (.int .u64 ((J1 code c1 60).seed))]), (1000000, .arr true 3 (.ints O1)), (1000001, .mat 3 24 D1 none), (3, .box 27 [.own 1000000 O1.length, .own 1000001 D1.length]), (4, .box 27 [.d true (.nil), .d true (.nil)])])) (fun g => J0C u code c U E aa c1 g.1 g.2) (fun _ => .none)) (.none)))))))))) (.none)) (g.1) (g.2))))
def J20 (u : Value) (code : List Nat) (c : Cur) (U : ZI) (E : ZR) : Prop :=
  ((((U.length : Int) == 0) = true → (∃ O' : ZI, ∃ D' : ZR, ∃ ch' : Cur, (Jj code c U E O' D' ch') ∧ (true = true) ∧ ((.lit u (.sl (.bytes code)) : D) = .lit u (.sl (.bytes code))) ∧ (c.pos = ch'.pos) ∧ (c.seed = ch'.seed) ∧ (U.length = U.length) ∧ ((U : ZI) = O') ∧ (E.length = E.length) ∧ ((E : ZR) = D'))) ∧ (((U.length : Int) == 0) = false → (((PK Tryz.prog 156 76 (.sl (.bytes code)) [.int .i64 c.pos, .int .u64 c.seed] [.int .i64 ((J1 code c (U.length : Int)).pos), .int .u64 ((J1 code c (U.length : Int)).seed)] [.int .i64 (U.length : Int)] (.one (.d (.int .i64 (J3 code c (U.length : Int)))))) ∧ (∃ aa' : Int, ∃ c1' : Cur, (J1l u code c U E aa' c1') ∧ ((J3 code c (U.length : Int)) = aa') ∧ ((.lit u (.sl (.bytes code)) : D) = .lit u (.sl (.bytes code))) ∧ ((J1 code c (U.length : Int)).pos = c1'.pos) ∧ ((J1 code c (U.length : Int)).seed = c1'.seed) ∧ (U.length = U.length) ∧ (E.length = E.length) ∧ (U = U) ∧ (E = E))) ∧ (∀ aa : Int, ∀ c1 : Cur, (J1l u code c U E aa c1) → (PK Tryz.prog 156 76 (.sl (.bytes code)) [.int .i64 c1.pos, .int .u64 c1.seed] [.int .i64 ((J1 code c1 60).pos), .int .u64 ((J1 code c1 60).seed)] [.int .i64 60] (.one (.d (.int .i64 (J3 code c1 60))))) ∧ ((((J3 code c1 60) == 0) = true → (true = true) ∧ ((4 : Nat) = 4) ∧ (PK Tryz.prog 155 76 (.sl (.bytes code)) [.int .i64 ((J1 code c1 60).pos), .int .u64 ((J1 code c1 60).seed)] [.int .i64 ((J1 code (J1 code c1 60) (([(-1), 99, 100, 4611686018427387904]).length : Int)).pos), .int .u64 ((J1 code (J1 code c1 60) (([(-1), 99, 100, 4611686018427387904]).length : Int)).seed)] [.sl (.ints ([(-1), 99, 100, 4611686018427387904]))] (.one (.d (.int .i64 (([(-1), 99, 100, 4611686018427387904]).getD (J3 code (J1 code c1 60) (([(-1), 99, 100, 4611686018427387904]).length : Int)).toNat 0))))) ∧ ((0 : Int) ≤ aa) ∧ ((aa : Int) < (U.length : Int)) ∧ (aa.toNat < U.length) ∧ (∃ O' : ZI, ∃ D' : ZR, ∃ ch' : Cur, (Jj code c U E O' D' ch') ∧ (true = true) ∧ ((.lit u (.sl (.bytes code)) : D) = .lit u (.sl (.bytes code))) ∧ ((J1 code (J1 code c1 60) (([(-1), 99, 100, 4611686018427387904]).length : Int)).pos = ch'.pos) ∧ ((J1 code (J1 code c1 60) (([(-1), 99, 100, 4611686018427387904]).length : Int)).seed = ch'.seed) ∧ (U.length = (U.set aa.toNat (([(-1), 99, 100, 4611686018427387904]).getD (J3 code (J1 code c1 60) (([(-1), 99, 100, 4611686018427387904]).length : Int)).toNat 0)).length) ∧ (((U.set aa.toNat (([(-1), 99, 100, 4611686018427387904]).getD (J3 code (J1 code c1 60) (([(-1), 99, 100, 4611686018427387904]).length : Int)).toNat 0)) : ZI) = O') ∧ (E.length = E.length) ∧ ((E : ZR) = D'))) ∧ (((J3 code c1 60) == 0) = false → ((((J3 code c1 60) == 1) = true → (((decide ((E.length : Int) > 0)) = true → (true = true) ∧ ((0 : Int) ≤ 0) ∧ ((0 : Int) < (E.length : Int)) ∧ (0 < E.length) ∧ ((4 : Nat) = 4) ∧ (PK Tryz.prog 155 76 (.sl (.bytes code)) [.int .i64 ((J1 code c1 60).pos), .int .u64 ((J1 code c1 60).seed)] [.int .i64 ((J1 code (J1 code c1 60) (([(-1), 99, 100, (-9223372036854775808)]).length : Int)).pos), .int .u64 ((J1 code (J1 code c1 60) (([(-1), 99, 100, (-9223372036854775808)]).length : Int)).seed)] [.sl (.ints ([(-1), 99, 100, (-9223372036854775808)]))] (.one (.d (.int .i64 (([(-1), 99, 100, (-9223372036854775808)]).getD (J3 code (J1 code c1 60) (([(-1), 99, 100, (-9223372036854775808)]).length : Int)).toNat 0))))) ∧ ((0 : Int) ≤ aa) ∧ ((aa : Int) < (((E.getD 0 []).length) : Int)) ∧ (0 < E.length) ∧ (aa.toNat < (E.getD 0 []).length) ∧ (∃ O' : ZI, ∃ D' : ZR, ∃ ch' : Cur, (Jj code c U E O' D' ch') ∧ (true = true) ∧ ((.lit u (.sl (.bytes code)) : D) = .lit u (.sl (.bytes code))) ∧ ((J1 code (J1 code c1 60) (([(-1), 99, 100, (-9223372036854775808)]).length : Int)).pos = ch'.pos) ∧ ((J1 code (J1 code c1 60) (([(-1), 99, 100, (-9223372036854775808)]).length : Int)).seed = ch'.seed) ∧ (U.length = U.length) ∧ ((U : ZI) = O') ∧ (E.length = (E.set 0 ((E.getD 0 []).set aa.toNat (([(-1), 99, 100, (-9223372036854775808)]).getD (J3 code (J1 code c1 60) (([(-1), 99, 100, (-9223372036854775808)]).length : Int)).toNat 0))).length) ∧ (((E.set 0 ((E.getD 0 []).set aa.toNat (([(-1), 99, 100, (-9223372036854775808)]).getD (J3 code (J1 code c1 60) (([(-1), 99, 100, (-9223372036854775808)]).length : Int)).toNat 0))) : ZR) = D'))) ∧ ((decide ((E.length : Int) > 0)) = false → (∃ O' : ZI, ∃ D' : ZR, ∃ ch' : Cur, (Jj code c U E O' D' ch') ∧ (true = true) ∧ ((.lit u (.sl (.bytes code)) : D) = .lit u (.sl (.bytes code))) ∧ ((J1 code c1 60).pos = ch'.pos) ∧ ((J1 code c1 60).seed = ch'.seed) ∧ (U.length = U.length) ∧ ((U : ZI) = O') ∧ (E.length = E.length) ∧ ((E : ZR) = D'))))) ∧ (((J3 code c1 60) == 1) = false → ((((J3 code c1 60) == 2) = true → (U.length = U.length) ∧ ((1 : Nat) = 1) ∧ ((U.length + 1) * 8 ≤ 140737488355328) ∧ (∃ O' : ZI, ∃ D' : ZR, ∃ ch' : Cur, (Jj code c U E O' D' ch') ∧ (true = true) ∧ ((.lit u (.sl (.bytes code)) : D) = .lit u (.sl (.bytes code))) ∧ ((J1 code c1 60).pos = ch'.pos) ∧ ((J1 code c1 60).seed = ch'.seed) ∧ ((U.length + 1) = (U ++ [1]).length) ∧ (((U ++ [1]) : ZI) = O') ∧ (E.length = E.length) ∧ ((E : ZR) = D'))) ∧ (((J3 code c1 60) == 2) = false → ((((J3 code c1 60) == 3) = true → ((∃ O1' : ZI, ∃ D1' : ZR, (J0A u code c U E aa c1 O1' D1') ∧ ((.lit u (.sl (.bytes code)) : D) = .lit u (.sl (.bytes code))) ∧ ((J1 code c1 60).pos = (J1 code c1 60).pos) ∧ ((J1 code c1 60).seed = (J1 code c1 60).seed) ∧ (U = O1') ∧ (E = D1') ∧ (U.length = O1'.length) ∧ (E.length = D1'.length)) ∧ (∀ O1 : ZI, ∀ D1 : ZR, (J0A u code c U E aa c1 O1 D1) → (((decide ((D1.length : Int) < 8)) = true → (true = true) ∧ (O1.length = O1.length) ∧ (PC Tryz.prog 98 [.sl (.ints O1)] (.one (.own 3 (.ints O1)))) ∧ (O1.length = O1.length) ∧ (D1.length = D1.length) ∧ ((1 : Nat) = 1) ∧ (0 < 1) ∧ ((D1.length + 1) * 24 ≤ 140737488355328) ∧ (∃ O1' : ZI, ∃ D1' : ZR, (J0A u code c U E aa c1 O1' D1') ∧ (J0C u code c U E aa c1 O1' D1' < J0C u code c U E aa c1 O1 D1) ∧ ((.lit u (.sl (.bytes code)) : D) = .lit u (.sl (.bytes code))) ∧ ((J1 code c1 60).pos = (J1 code c1 60).pos) ∧ ((J1 code c1 60).seed = (J1 code c1 60).seed) ∧ (O1 = O1') ∧ ((D1 ++ [O1]) = D1') ∧ (O1.length = O1'.length) ∧ ((D1.length + 1) = D1'.length))) ∧ ((decide ((D1.length : Int) < 8)) = false → (∃ O' : ZI, ∃ D' : ZR, ∃ ch' : Cur, (Jj code c U E O' D' ch') ∧ (true = true) ∧ ((.lit u (.sl (.bytes code)) : D) = .lit u (.sl (.bytes code))) ∧ ((J1 code c1 60).pos = ch'.pos) ∧ ((J1 code c1 60).seed = ch'.seed) ∧ (O1.length = O1.length) ∧ ((O1 : ZI) = O') ∧ (D1.length = D1.length) ∧ ((D1 : ZR) = D'))))))) ∧ (((J3 code c1 60) == 3) = false → ((((J3 code c1 60) == 4) = true → (∃ O' : ZI, ∃ D' : ZR, ∃ ch' : Cur, (Jj code c U E O' D' ch') ∧ (true = true) ∧ ((.lit u (.sl (.bytes code)) : D) = .lit u (.sl (.bytes code))) ∧ ((J1 code c1 60).pos = ch'.pos) ∧ ((J1 code c1 60).seed = ch'.seed) ∧ (O'.length = 0) ∧ (D'.length = 0))) ∧ (((J3 code c1 60) == 4) = false → (∃ O' : ZI, ∃ D' : ZR, ∃ ch' : Cur, (Jj code c U E O' D' ch') ∧ (true = true) ∧ ((.lit u (.sl (.bytes code)) : D) = .lit u (.sl (.bytes code))) ∧ ((J1 code c1 60).pos = ch'.pos) ∧ ((J1 code c1 60).seed = ch'.seed) ∧ (U.length = U.length) ∧ ((U : ZI) = O') ∧ (E.length = E.length) ∧ ((E : ZR) = D'))))))))))))))))
theorem J5P (u : Value) (code : List Nat) (c : Cur) (U : ZI) (E : ZR) (hb : ∀ x9 ∈ code, x9 < 256) (hc : okC c 7000000) (hf : drF U E)  : J20 u code c U E := by
  unfold J20
  refine ⟨?_, ?_⟩
  ·intro b1
   try simp only [nrmT] at b1
   refine ⟨U, E, c, ?_⟩
   refine ⟨?_, rfl, rfl, rfl, rfl, rfl, rfl, rfl, rfl⟩
   ·refine ⟨?_, ?_, ?_⟩
    ·exact J6 (by assumption) (by omega)
    ·(have := hf.1; have := hf.2.1; omega)
    ·(have := hf.1; have := hf.2.1; omega)
  intro b2
  try simp only [nrmT] at b2
  refine ⟨?_, ?_⟩
  ·refine ⟨?_, ?_⟩
   ·refine Jg code c (U.length : Int) ?_ ?_
    ·exact hb
    ·exact J6 (by assumption) (by omega)
   ·refine ⟨(J3 code c (U.length : Int)), (J1 code c (U.length : Int)), ?_⟩
    refine ⟨?_, rfl, rfl, rfl, rfl, rfl, rfl, rfl, rfl⟩
    ·refine ⟨?_, ?_⟩
     ·exact Jn code _ (by omega)
     ·exact J6 (Jb (by assumption)) (by omega)
  intro aa c1 hJ
  obtain ⟨a1, a2⟩ := hJ
  refine ⟨?_, ?_, ?_⟩
  ·refine Jg code c1 60 ?_ ?_
   ·exact hb
   ·exact J6 (by assumption) (by omega)
  ·intro b3
   try simp only [nrmT] at b3
   refine ⟨rfl, rfl, ?_, ?_, ?_, ?_, ?_⟩
   ·refine J02 code (J1 code c1 60) ([(-1), 99, 100, 4611686018427387904]) ?_ ?_ ?_
    ·exact hb
    ·exact J6 (Jb (by assumption)) (by omega)
    ·simp
   ·omega
   ·omega
   ·omega
   refine ⟨(U.set aa.toNat (([(-1), 99, 100, 4611686018427387904]).getD (J3 code (J1 code c1 60) (([(-1), 99, 100, 4611686018427387904]).length : Int)).toNat 0)), E, (J1 code (J1 code c1 60) (([(-1), 99, 100, 4611686018427387904]).length : Int)), ?_⟩
   refine ⟨?_, rfl, rfl, rfl, rfl, ?_, rfl, rfl, rfl⟩
   ·refine ⟨?_, ?_, ?_⟩
    ·exact J6 (Jb (Jb (by assumption))) (by omega)
    ·(have := hf.1; have := hf.2.1; simp; try omega)
    ·(have := hf.1; have := hf.2.1; omega)
   simp; try omega
  intro b4
  try simp only [nrmT] at b4
  refine ⟨?_, ?_⟩
  ·intro b5
   try simp only [nrmT] at b5
   refine ⟨?_, ?_⟩
   ·intro b6
    try simp only [nrmT] at b6
    refine ⟨rfl, ?_, ?_, ?_, rfl, ?_, ?_, ?_, ?_, ?_, ?_⟩
    ·omega
    ·have := hf.2.1; omega
    ·have := hf.2.1; omega
    ·refine J02 code (J1 code c1 60) ([(-1), 99, 100, (-9223372036854775808)]) ?_ ?_ ?_
     ·exact hb
     ·exact J6 (Jb (by assumption)) (by omega)
     ·simp
    ·omega
    ·have q := (Jc hf (i := 0) (a := aa.toNat) (by omega) (by omega)).1
     omega
    ·have := hf.2.1; omega
    ·have q := (Jc hf (i := 0) (a := aa.toNat) (by omega) (by omega)).1
     omega
    refine ⟨U, (E.set 0 ((E.getD 0 []).set aa.toNat (([(-1), 99, 100, (-9223372036854775808)]).getD (J3 code (J1 code c1 60) (([(-1), 99, 100, (-9223372036854775808)]).length : Int)).toNat 0))), (J1 code (J1 code c1 60) (([(-1), 99, 100, (-9223372036854775808)]).length : Int)), ?_⟩
    refine ⟨?_, rfl, rfl, rfl, rfl, rfl, rfl, ?_, rfl⟩
    ·refine ⟨?_, ?_, ?_⟩
     ·exact J6 (Jb (Jb (by assumption))) (by omega)
     ·(have := hf.1; have := hf.2.1; omega)
     ·(have := hf.1; have := hf.2.1; simp; try omega)
    simp; try omega
   intro b7
   try simp only [nrmT] at b7
   refine ⟨U, E, (J1 code c1 60), ?_⟩
   refine ⟨?_, rfl, rfl, rfl, rfl, rfl, rfl, rfl, rfl⟩
   ·refine ⟨?_, ?_, ?_⟩
    ·exact J6 (Jb (by assumption)) (by omega)
    ·(have := hf.1; have := hf.2.1; omega)
    ·(have := hf.1; have := hf.2.1; omega)
  intro b8
  try simp only [nrmT] at b8
  refine ⟨?_, ?_⟩
  ·intro b9
   try simp only [nrmT] at b9
   refine ⟨rfl, rfl, ?_, ?_⟩
   ·have := hf.1; omega
   refine ⟨(U ++ [1]), E, (J1 code c1 60), ?_⟩
   refine ⟨?_, rfl, rfl, rfl, rfl, ?_, rfl, rfl, rfl⟩
   ·refine ⟨?_, ?_, ?_⟩
    ·exact J6 (Jb (by assumption)) (by omega)
    ·(have := hf.1; have := hf.2.1; simp; try omega)
    ·(have := hf.1; have := hf.2.1; omega)
   simp
  intro b10
  try simp only [nrmT] at b10
  refine ⟨?_, ?_⟩
  ·intro b11
   try simp only [nrmT] at b11
   refine ⟨?_, ?_⟩
   ·refine ⟨U, E, ?_⟩
    refine ⟨?_, rfl, rfl, rfl, rfl, rfl, rfl, rfl⟩
    ·refine ⟨?_, ?_⟩
     ·(have := hf.1; have := hf.2.1; omega)
     ·(have := hf.1; have := hf.2.1; omega)
   intro O1 D1 hJ
   obtain ⟨h1, h2⟩ := hJ
   refine ⟨?_, ?_⟩
   ·intro b12
    try simp only [nrmT] at b12
    refine ⟨rfl, rfl, ?_, rfl, rfl, rfl, by decide, ?_, ?_⟩
    ·refine J4T O1 ?_
     ·omega
    ·omega
    refine ⟨O1, (D1 ++ [O1]), ?_⟩
    refine ⟨?_, ?_, rfl, rfl, rfl, rfl, rfl, rfl, ?_⟩
    ·refine ⟨?_, ?_⟩
     ·(have := hf.1; have := hf.2.1; simp; try omega)
     ·assumption
    ·(simp only [J0C] at *; simp at *; omega)
    simp
   intro b13
   try simp only [nrmT] at b13
   refine ⟨O1, D1, (J1 code c1 60), ?_⟩
   refine ⟨?_, rfl, rfl, rfl, rfl, rfl, rfl, rfl, rfl⟩
   ·refine ⟨?_, ?_, ?_⟩
    ·exact J6 (Jb (by assumption)) (by omega)
    ·(have := hf.1; have := hf.2.1; omega)
    ·assumption
  intro b14
  try simp only [nrmT] at b14
  refine ⟨?_, ?_⟩
  ·intro b15
   try simp only [nrmT] at b15
   refine ⟨[], [], (J1 code c1 60), ?_⟩
   refine ⟨?_, rfl, rfl, rfl, rfl, rfl, rfl⟩
   ·refine ⟨?_, ?_, ?_⟩
    ·exact J6 (Jb (by assumption)) (by omega)
    ·(have := hf.1; have := hf.2.1; simp; try omega)
    ·(have := hf.1; have := hf.2.1; simp; try omega)
  intro b16
  try simp only [nrmT] at b16
  refine ⟨U, E, (J1 code c1 60), ?_⟩
  refine ⟨?_, rfl, rfl, rfl, rfl, rfl, rfl, rfl, rfl⟩
  ·refine ⟨?_, ?_, ?_⟩
   ·exact J6 (Jb (by assumption)) (by omega)
   ·(have := hf.1; have := hf.2.1; omega)
   ·(have := hf.1; have := hf.2.1; omega)
theorem J1k (code : List Nat) (c : Cur) (U : ZI) (E : ZR) (hb : ∀ x9 ∈ code, x9 < 256) (hc : okC c 7000000) (hf : drF U E) : PKV Tryz.prog 232 76 (.sl (.bytes code)) [.int .i64 c.pos, .int .u64 c.seed] 3 U 3 24 E (JL code c U E) :=
  pkv_by (Q := fun u => J20 u code c U E) (by kernel_rfl) Tryz.func232 @Tryz.call232 (by kernel_rfl) J5Z (fun u => J60 u code c U E) (by kernel_rfl) (fun u => J5P u code c U E hb hc hf) (fun u => by kernel_rfl)
theorem Jb0 {α : Type} {l : List α} {i : Int} {d : α} (h0 : 0 ≤ i) (h : i < (l.length : Int)) : l.take i.toNat ++ [l.getD i.toNat d] = l.take (i + 1).toNat := (take_step h0 h).symm
abbrev J3a (U : ZI) (E : ZR) (i : Int) (O1 : ZI) (D1 : ZR) : Prop := (0 ≤ i) ∧ (i ≤ (E.length : Int)) ∧ (O1 = U) ∧ (D1 = E.take i.toNat)
abbrev J3b (U : ZI) (E : ZR) (i : Int) (O1 : ZI) (D1 : ZR) : Nat := (E.length - i).toNat
def JbG (f : FuncId) (ds : List D) : Orc := bif Nat.beq f 98 then J6C ds else .no
def Jc6 (U : ZI) (E : ZR) : Ann := .two (.none) (.two (.none) (.two (.two (.none) (.loop (cut3 (fun (i : Int) (O1 : ZI) (D1 : ZR) => J3a U E i O1 D1) (fun (i : Int) (O1 : ZI) (D1 : ZR) => [(1, .ptr 1 0), (2, .ptr 2 0), (3, .ptr 3 0), (4, .d true (.int .i64 i))]) (fun (i : Int) (O1 : ZI) (D1 : ZR) => [(1, .box 27 [.d false (.sl (.ints U)), .d false (.sl (.rows E))]), (2, .box 27 [.d true (.nil), .d true (.nil)]), (1000001, .arr true 3 (.ints O1)), (1000002, .mat 3 24 D1 none), (3, .box 27 [.own 1000001 O1.length, .own 1000002 D1.length])])) (fun g => J3b U E g.1 g.2.1 g.2.2) (fun _ => .none))) (.none)))
def J8H (U : ZI) (E : ZR) : Prop :=
  (PC Tryz.prog 98 [.sl (.ints U)] (.one (.own 3 (.ints U)))) ∧ ((∃ i' : Int, ∃ O1' : ZI, ∃ D1' : ZR, (J3a U E i' O1' D1') ∧ ((0 : Int) = i') ∧ (U = U) ∧ (E = E) ∧ (U = O1') ∧ ((D1').length = 0) ∧ (U.length = O1'.length) ∧ ((0 : Nat) = D1'.length)) ∧ (∀ i : Int, ∀ O1 : ZI, ∀ D1 : ZR, (J3a U E i O1 D1) → (((decide (i < (E.length : Int))) = true → (true = true) ∧ ((0 : Int) ≤ i) ∧ ((i : Int) < E.length) ∧ (i.toNat < E.length) ∧ (PC Tryz.prog 98 [.sl (.ints (E.getD i.toNat []))] (.one (.own 3 (.ints (E.getD i.toNat []))))) ∧ ((E.getD i.toNat []).length = (E.getD i.toNat []).length) ∧ (D1.length = D1.length) ∧ ((1 : Nat) = 1) ∧ (0 < 1) ∧ ((D1.length + 1) * 24 ≤ 140737488355328) ∧ (I6 (i + 1)) ∧ (∃ i' : Int, ∃ O1' : ZI, ∃ D1' : ZR, (J3a U E i' O1' D1') ∧ (J3b U E i' O1' D1' < J3b U E i O1 D1) ∧ ((i + 1) = i') ∧ (U = U) ∧ (E = E) ∧ (O1 = O1') ∧ ((D1 ++ [(E.getD i.toNat [])]) = D1') ∧ (O1.length = O1'.length) ∧ ((D1.length + 1) = D1'.length))) ∧ ((decide (i < (E.length : Int))) = false → ((O1.length = O1.length) ∧ ((O1 : ZI) = U) ∧ (D1.length = D1.length) ∧ ((D1 : ZR) = E))))))
theorem Jbi (U : ZI) (E : ZR) (hl : U.length ≤ 1048576) (hd : E.length ≤ 1048576) (hr : ∀ r ∈ E, r.length ≤ 1048576) (w_Open : (U.length : Int) ≤ 9223372036854775807) (w_Dist : (E.length : Int) ≤ 9223372036854775807) (v_Dist : ∀ x9 ∈ E, (x9.length : Int) ≤ 9223372036854775807) : J8H U E := by
  unfold J8H
  refine ⟨?_, ?_, ?_⟩
  ·refine J4T U ?_
   ·omega
  ·refine ⟨0, U, ([]), ?_⟩
   refine ⟨?_, rfl, rfl, rfl, rfl, ?_, rfl, rfl⟩
   ·refine ⟨?_, ?_, ?_, ?_⟩
    ·omega
    ·omega
    ·rfl
    ·simp
   rfl
  intro i O1 D1 hJ
  obtain ⟨h1, h2, h3, h4⟩ := hJ
  refine ⟨?_, ?_⟩
  ·intro b1
   try simp only [nrmT] at b1
   refine ⟨rfl, ?_, ?_, ?_, ?_, rfl, rfl, rfl, by decide, ?_, ?_, ?_⟩
   ·omega
   ·omega
   ·omega
   ·refine J4T (E.getD i.toNat []) ?_
    ·exact hr _ (getD_memI h1 (by omega))
   ·rw [h4, List.length_take]; omega
   ·omega
   refine ⟨(i + 1), O1, (D1 ++ [(E.getD i.toNat [])]), ?_⟩
   refine ⟨?_, ?_, rfl, rfl, rfl, rfl, rfl, rfl, ?_⟩
   ·refine ⟨?_, ?_, ?_, ?_⟩
    ·omega
    ·omega
    ·exact h3
    ·rw [h4]; exact Jb0 h1 (by omega)
   ·(simp only [J3b]; omega)
   simp
  intro b2
  try simp only [nrmT] at b2
  refine ⟨rfl, ?_, rfl, ?_⟩
  ·exact h3
  rw [h4, take_all (by omega)]
theorem Jb3 (U : ZI) (E : ZR) (hl : U.length ≤ 1048576) (hd : E.length ≤ 1048576) (hr : ∀ r ∈ E, r.length ≤ 1048576) : PC Tryz.prog 224 [.agg [.sl (.ints U), .sl (.rows E)]] (.agg [.own 3 (.ints U), .mat 3 24 E]) :=
  pc_wf @Tryz.call224 fun hw => pc_by (by kernel_rfl) Tryz.func224 @Tryz.call224 (by kernel_rfl) JbG (Jc6 U E) (by kernel_rfl) (Jbi U E hl hd hr hw.1.1 hw.1.2.1.1 hw.1.2.1.2) (by kernel_rfl)
def JaE : List D → Orc := orcN [none] fun ds => match ds with
  | [.agg [.sl (.ints U), .sl (.rows E)]] => some (.agg [.own 3 (.ints U), .mat 3 24 E])
  | _ => none
/-- A way by two other lengths is shorter. -/
def J0U (D : ZR) (i j a b : Nat) : Bool := decide ((D.getD i []).getD a 0 > (D.getD i []).getD b 0 + (D.getD j []).getD b 0 + (D.getD j []).getD a 0)
def J5s (n : Nat) (D : ZR) (i j a : Nat) : Bool := allTo (fun b => !J0U D i j a b) n
def J4U (n : Nat) (D : ZR) (i j : Nat) : Bool := allTo (J5s n D i j) n
def J4G (n : Nat) (D : ZR) (i : Nat) : Bool := allTo (J4U n D i) D.length
def JH (n : Nat) (D : ZR) : Bool := allTo (J4G n D) D.length
def tot (D : ZR) : Int := (D.map fun r => JD (fun y => y) r).sum
theorem J4b (r : ZI) (D : ZR) : tot (r :: D) = JD (fun y => y) r + tot D := rfl
theorem J9T : ∀ {l : ZI} {k : Nat} {v : Int}, k < l.length → JD (fun y => y) (l.set k v) = JD (fun y => y) l - l.getD k 0 + v
  | x :: r, 0, v, _ => by rw [List.set_cons_zero, JF, JF, List.getD_cons_zero]; omega
  | x :: r, k + 1, v, h => by
    rw [List.set_cons_succ, JF, JF, List.getD_cons_succ, J9T (by simpa using h)]; omega
theorem JaR : ∀ {D : ZR} {i : Nat} {r : ZI}, i < D.length → tot (D.set i r) = tot D - JD (fun y => y) (D.getD i []) + JD (fun y => y) r
  | x :: D, 0, r, _ => by rw [List.set_cons_zero, J4b, J4b, List.getD_cons_zero]; omega
  | x :: D, k + 1, r, h => by
    rw [List.set_cons_succ, J4b, J4b, List.getD_cons_succ, JaR (by simpa using h)]; omega
theorem Jb8 {D : ZR} (h : ∀ r ∈ D, ∀ x ∈ r, 0 ≤ x) : 0 ≤ tot D := by
  induction D with
  | nil => exact Int.le_refl _
  | cons r D ih =>
    rw [J4b]
    have h1 := JaA (f := fun y => y) (h r List.mem_cons_self)
    have h2 := ih fun r' hr => h r' (List.mem_cons_of_mem _ hr)
    omega
/-- A round under way: nothing was changed and nothing was found, or the sum fell. -/
def Clo (D0 D : ZR) (c : Bool) : Prop := (D = D0 ∧ c = true) ∨ tot D < tot D0
theorem Ja7 {O : ZI} {D0 D : ZR} (hf : drF O D) {i j a b : Nat} (hi : i < D.length) (hj : j < D.length) (ha : a < O.length) (hb : b < O.length) {c : Bool} (h : Clo D0 D (c && allTo (fun b => !J0U D0 i j a b) b)) :
    drF O (D.set i ((D.getD i []).set a (min ((D.getD i []).getD a 0) ((D.getD i []).getD b 0 + (D.getD j []).getD b 0 + (D.getD j []).getD a 0)))) ∧
    Clo D0 (D.set i ((D.getD i []).set a (min ((D.getD i []).getD a 0) ((D.getD i []).getD b 0 + (D.getD j []).getD b 0 + (D.getD j []).getD a 0)))) (c && allTo (fun b => !J0U D0 i j a b) (b + 1)) := by
  have e1 := Jc hf hi ha
  have e2 := Jc hf hi hb
  have e3 := Jc hf hj hb
  have e4 := Jc hf hj ha
  refine ⟨JaS hf hi (by omega), ?_⟩
  have ht := JaR (D := D) (i := i) (r := (D.getD i []).set a (min ((D.getD i []).getD a 0) ((D.getD i []).getD b 0 + (D.getD j []).getD b 0 + (D.getD j []).getD a 0))) hi
  rw [J9T (by omega)] at ht
  rcases h with ⟨rfl, hc⟩ | h
  · by_cases hx : (D.getD i []).getD a 0 ≤ (D.getD i []).getD b 0 + (D.getD j []).getD b 0 + (D.getD j []).getD a 0
    · left
      refine ⟨?_, ?_⟩
      · rw [Int.min_eq_left hx]
        have h1 : (D.getD i []).set a ((D.getD i []).getD a 0) = D.getD i [] := by
          rw [JZ (show a < (D.getD i []).length by omega)]; exact List.set_getElem_self _
        rw [h1, JZ hi]; exact List.set_getElem_self _
      rw [Bool.and_eq_true] at hc ⊢
      refine ⟨hc.1, ?_⟩
      have e : allTo (fun b => !J0U D i j a b) (b + 1) = (allTo (fun b => !J0U D i j a b) b && !J0U D i j a b) := rfl
      rw [e, hc.2, Bool.true_and]
      unfold J0U
      rw [decide_eq_false (by omega)]; rfl
    · right
      rw [Int.min_eq_right (by omega)] at ht ⊢
      omega
  right
  omega
theorem JcI {D0 D : ZR} {n : Nat} (h : Clo D0 D (allTo (J4G n D0) D0.length)) (hm : JH n D0 = false) : tot D < tot D0 := by
  rcases h with ⟨_, h⟩ | h
  · unfold JH at hm
    rw [hm] at h; cases h
  exact h
theorem J38 {D0 D : ZR} {c c' : Bool} (h : Clo D0 D c) (hc : c = true → c' = true) : Clo D0 D c' := by
  rcases h with ⟨h1, h2⟩ | h
  · exact .inl ⟨h1, hc h2⟩
  exact .inr h
abbrev J1L (U : ZI) (E : ZR) (i : Int) : Prop := (0 ≤ i) ∧ (i ≤ (E.length : Int)) ∧ (allTo (J4G U.length E) i.toNat = true)
abbrev J1N (U : ZI) (E : ZR) (i : Int) : Nat := (E.length - i).toNat
abbrev J1T (U : ZI) (E : ZR) (i : Int) (j : Int) : Prop := (0 ≤ j) ∧ (j ≤ (E.length : Int)) ∧ (allTo (J4U U.length E i.toNat) j.toNat = true)
abbrev J1Q (U : ZI) (E : ZR) (i : Int) (j : Int) : Nat := (E.length - j).toNat
abbrev J1K (U : ZI) (E : ZR) (i : Int) (j : Int) (a : Int) : Prop := (0 ≤ a) ∧ (a ≤ (U.length : Int)) ∧ (allTo (J5s U.length E i.toNat j.toNat) a.toNat = true)
abbrev J1G (U : ZI) (E : ZR) (i : Int) (j : Int) (a : Int) : Nat := (U.length - a).toNat
abbrev J1J (U : ZI) (E : ZR) (i : Int) (j : Int) (a : Int) (b : Int) : Prop := (0 ≤ b) ∧ (b ≤ (U.length : Int)) ∧ (allTo (fun b => !J0U E i.toNat j.toNat a.toNat b) b.toNat = true)
abbrev J1C (U : ZI) (E : ZR) (i : Int) (j : Int) (a : Int) (b : Int) : Nat := (U.length - b).toNat
def Jaa (f : FuncId) (ds : List D) : Orc := .no
def J9E (U : ZI) (E : ZR) : Ann := .two (.none) (.two (.two (.none) (.loop (cut1 (fun (i : Int) => J1L U E i) (fun (i : Int) => [(1, .ptr 1 0), (3, .d true (.int .i64 i))]) (fun (i : Int) => [(1, .box 27 [.d false (.sl (.ints U)), .d false (.sl (.rows E))])])) (fun g => J1N U E g) (fun g => (fun (i : Int) => .two (.none) (.two (.two (.none) (.loop (cut1 (fun (j : Int) => J1T U E i j) (fun (j : Int) => [(1, .ptr 1 0), (3, .d true (.int .i64 i)), (4, .d true (.int .i64 j))]) (fun (j : Int) => [(1, .box 27 [.d false (.sl (.ints U)), .d false (.sl (.rows E))])])) (fun g => J1Q U E i g) (fun g => (fun (j : Int) => .two (.none) (.two (.two (.none) (.loop (cut1 (fun (a : Int) => J1K U E i j a) (fun (a : Int) => [(1, .ptr 1 0), (3, .d true (.int .i64 i)), (4, .d true (.int .i64 j)), (5, .d true (.int .i64 a))]) (fun (a : Int) => [(1, .box 27 [.d false (.sl (.ints U)), .d false (.sl (.rows E))])])) (fun g => J1G U E i j g) (fun g => (fun (a : Int) => .two (.none) (.two (.two (.none) (.loop (cut1 (fun (b : Int) => J1J U E i j a b) (fun (b : Int) => [(1, .ptr 1 0), (3, .d true (.int .i64 i)), (4, .d true (.int .i64 j)), (5, .d true (.int .i64 a)), (6, .d true (.int .i64 b))]) (fun (b : Int) => [(1, .box 27 [.d false (.sl (.ints U)), .d false (.sl (.rows E))])])) (fun g => J1C U E i j a g) (fun _ => .none))) (.none))) g))) (.none))) g))) (.none))) g))) (.none))
def J5L (U : ZI) (E : ZR) : Prop :=
  ((∃ i' : Int, (J1L U E i') ∧ ((0 : Int) = i') ∧ (U = U) ∧ (E = E)) ∧ (∀ i : Int, (J1L U E i) → (((decide (i < (E.length : Int))) = true → ((∃ j' : Int, (J1T U E i j') ∧ (i = i) ∧ ((0 : Int) = j') ∧ (U = U) ∧ (E = E)) ∧ (∀ j : Int, (J1T U E i j) → (((decide (j < (E.length : Int))) = true → ((∃ a' : Int, (J1K U E i j a') ∧ (i = i) ∧ (j = j) ∧ ((0 : Int) = a') ∧ (U = U) ∧ (E = E)) ∧ (∀ a : Int, (J1K U E i j a) → (((decide (a < (U.length : Int))) = true → ((∃ b' : Int, (J1J U E i j a b') ∧ (i = i) ∧ (j = j) ∧ (a = a) ∧ ((0 : Int) = b') ∧ (U = U) ∧ (E = E)) ∧ (∀ b : Int, (J1J U E i j a b) → (((decide (b < (U.length : Int))) = true → (true = true) ∧ ((0 : Int) ≤ i) ∧ ((i : Int) < E.length) ∧ (i.toNat < E.length) ∧ ((0 : Int) ≤ a) ∧ ((a : Int) < (E.getD i.toNat []).length) ∧ (a.toNat < (E.getD i.toNat []).length) ∧ ((0 : Int) ≤ i) ∧ ((i : Int) < E.length) ∧ (i.toNat < E.length) ∧ ((0 : Int) ≤ b) ∧ ((b : Int) < (E.getD i.toNat []).length) ∧ (b.toNat < (E.getD i.toNat []).length) ∧ ((0 : Int) ≤ j) ∧ ((j : Int) < E.length) ∧ (j.toNat < E.length) ∧ ((0 : Int) ≤ b) ∧ ((b : Int) < (E.getD j.toNat []).length) ∧ (b.toNat < (E.getD j.toNat []).length) ∧ (I6 (((E.getD i.toNat []).getD b.toNat 0) + ((E.getD j.toNat []).getD b.toNat 0))) ∧ ((0 : Int) ≤ j) ∧ ((j : Int) < E.length) ∧ (j.toNat < E.length) ∧ ((0 : Int) ≤ a) ∧ ((a : Int) < (E.getD j.toNat []).length) ∧ (a.toNat < (E.getD j.toNat []).length) ∧ (I6 ((((E.getD i.toNat []).getD b.toNat 0) + ((E.getD j.toNat []).getD b.toNat 0)) + ((E.getD j.toNat []).getD a.toNat 0))) ∧ (((decide (((E.getD i.toNat []).getD a.toNat 0) > ((((E.getD i.toNat []).getD b.toNat 0) + ((E.getD j.toNat []).getD b.toNat 0)) + ((E.getD j.toNat []).getD a.toNat 0)))) = true → ((false = (JH U.length E)))) ∧ ((decide (((E.getD i.toNat []).getD a.toNat 0) > ((((E.getD i.toNat []).getD b.toNat 0) + ((E.getD j.toNat []).getD b.toNat 0)) + ((E.getD j.toNat []).getD a.toNat 0)))) = false → (I6 (b + 1)) ∧ (∃ b' : Int, (J1J U E i j a b') ∧ (J1C U E i j a b' < J1C U E i j a b) ∧ (i = i) ∧ (j = j) ∧ (a = a) ∧ ((b + 1) = b') ∧ (U = U) ∧ (E = E))))) ∧ ((decide (b < (U.length : Int))) = false → (I6 (a + 1)) ∧ (∃ a' : Int, (J1K U E i j a') ∧ (J1G U E i j a' < J1G U E i j a) ∧ (i = i) ∧ (j = j) ∧ ((a + 1) = a') ∧ (U = U) ∧ (E = E))))))) ∧ ((decide (a < (U.length : Int))) = false → (I6 (j + 1)) ∧ (∃ j' : Int, (J1T U E i j') ∧ (J1Q U E i j' < J1Q U E i j) ∧ (i = i) ∧ ((j + 1) = j') ∧ (U = U) ∧ (E = E))))))) ∧ ((decide (j < (E.length : Int))) = false → (I6 (i + 1)) ∧ (∃ i' : Int, (J1L U E i') ∧ (J1N U E i' < J1N U E i) ∧ ((i + 1) = i') ∧ (U = U) ∧ (E = E))))))) ∧ ((decide (i < (E.length : Int))) = false → ((true = (JH U.length E)))))))
end Go.Proofs.YtomnmacmlhkceaaGreat
