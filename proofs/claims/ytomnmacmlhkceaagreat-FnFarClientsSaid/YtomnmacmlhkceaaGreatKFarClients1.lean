/- Contracts of the functions that the law reaches. -/
import Derived.Test.YtomnmacmlhkceaaGreatQw
import Derived.Test.YtomnmacmlhkceaaGreatQua
import Derived.Test.YtomnmacmlhkceaaGreatSh
import Derived.Test.YtomnmacmlhkceaaGreatProg
import Derived.KernelRfl
set_option linter.unusedVariables false
set_option linter.unusedSimpArgs false
namespace Go.Proofs.YtomnmacmlhkceaaGreat
open Go

abbrev ZI := List Int
abbrev ZR := List (List Int)
abbrev I6 (x : Int) : Prop := -9223372036854775808 ≤ x ∧ x ≤ 9223372036854775807
def JdY (f : FuncId) (ds : List D) : Orc := .no
def JdZ (x : Int) (a : Int) (b : Int) : Ann := .none
def JbE (x : Int) (a : Int) (b : Int) : Prop :=
  ((decide (x ≥ a)) = true → (decide (x ≥ a)) = true) ∧ ((decide (x ≥ a)) = true → (decide (x ≥ a)) = true) ∧ (true = true) ∧ (((decide (x ≥ a)) = true → (decide (x ≥ a)) = true)) ∧ (((decide (x ≥ a)) = false → true = true)) ∧ (((cond (decide (x ≥ a)) (decide (x ≤ b)) false) = (inB x a b)))
theorem JdI (x : Int) (a : Int) (b : Int)   : JbE x a b := by
  unfold JbE
  refine ⟨id, id, rfl, id, fun _ => rfl, ?_⟩
  ·(simp only [inB]; by_cases h : a ≤ x <;> simp_all)
theorem J4n (x : Int) (a : Int) (b : Int)  : PC Tryz.prog 129 [.int .i64 x, .int .i64 a, .int .i64 b] (.one (.d (.bool (inB x a b)))) :=
  pc_wf @Tryz.call129 fun _ => pc_by (by kernel_rfl) Tryz.func129 @Tryz.call129 (by kernel_rfl) JdY (JdZ x a b) (by kernel_rfl) (JdI x a b) (by kernel_rfl)
def J4K : List D → Orc := orcN [none, none, none] fun ds => match ds with
  | [.int .i64 x, .int .i64 a, .int .i64 b] => some (.one (.d (.bool (inB x a b))))
  | _ => none
def JbS (f : FuncId) (ds : List D) : Orc := .no
def JbN (x : Int) (a : Int) (b : Int) : Ann := .none
def J8a (x : Int) (a : Int) (b : Int) : Prop :=
  ((decide (x ≥ a)) = true → (decide (x ≥ a)) = true) ∧ ((decide (x ≥ a)) = true → (decide (x ≥ a)) = true) ∧ (true = true) ∧ (((decide (x ≥ a)) = true → (decide (x ≥ a)) = true)) ∧ (((decide (x ≥ a)) = false → true = true)) ∧ (((cond (decide (x ≥ a)) (decide (x ≤ b)) false) = (inB x a b)))
theorem Jbe (x : Int) (a : Int) (b : Int)   : J8a x a b := by
  unfold J8a
  refine ⟨id, id, rfl, id, fun _ => rfl, ?_⟩
  ·(simp only [inB]; by_cases h : a ≤ x <;> simp_all)
theorem J55 (x : Int) (a : Int) (b : Int)  : PC Tryz.prog 132 [.int .i64 x, .int .i64 a, .int .i64 b] (.one (.d (.bool (inB x a b)))) :=
  pc_wf @Tryz.call132 fun _ => pc_by (by kernel_rfl) Tryz.func132 @Tryz.call132 (by kernel_rfl) JbS (JbN x a b) (by kernel_rfl) (Jbe x a b) (by kernel_rfl)
def J4z : List D → Orc := orcN [none, none, none] fun ds => match ds with
  | [.int .i64 x, .int .i64 a, .int .i64 b] => some (.one (.d (.bool (inB x a b))))
  | _ => none
def J1w (xs : ZI) (lo hi : Int) (k : Nat) : Bool := inB (xs.getD k 0) lo hi && (decide (k = 0) || decide (xs.getD (k - 1) 0 < xs.getD k 0))
def J2 (xs : ZI) (lo hi : Int) : Bool := allTo (J1w xs lo hi) xs.length
theorem J49 {xs : ZI} {lo hi i : Int} (h0 : 0 ≤ i) {c : Bool} (hc : (cond (!(inB (xs.getD i.toNat 0) lo hi)) true (cond (decide (i > 0)) (decide (xs.getD (i - 1).toNat 0 ≥ xs.getD i.toNat 0)) false)) = c) :
    J1w xs lo hi i.toNat = !c := by
  subst hc
  have e : (i - 1).toNat = i.toNat - 1 := by omega
  unfold J1w
  rw [e]
  cases inB (xs.getD i.toNat 0) lo hi
  · rfl
  by_cases h : i > 0
  · have h2 : ¬ i.toNat = 0 := by omega
    simp [h, h2]
    by_cases h3 : xs[i.toNat - 1]?.getD 0 < xs[i.toNat]?.getD 0
    · simp [h3]
    simp [h3]; omega
  · have h2 : i.toNat = 0 := by omega
    simp [h, h2]
abbrev J2e (xs : ZI) (lo : Int) (hi : Int) (i : Int) : Prop := (0 ≤ i) ∧ (i ≤ (xs.length : Int)) ∧ (allTo (J1w xs lo hi) i.toNat = true)
abbrev J21 (xs : ZI) (lo : Int) (hi : Int) (i : Int) : Nat := (xs.length - i).toNat
def Jbo (f : FuncId) (ds : List D) : Orc := bif Nat.beq f 129 then J4K ds else .no
def Jbn (xs : ZI) (lo : Int) (hi : Int) : Ann := .two (.none) (.two (.two (.none) (.loop (cut1 (fun (i : Int) => J2e xs lo hi i) (fun (i : Int) => [(0, .d false (.sl (.ints xs))), (1, .d false (.int .i64 lo)), (2, .d false (.int .i64 hi)), (7, .d true (.int .i64 i))]) (fun (i : Int) => [])) (fun g => J21 xs lo hi g) (fun _ => .none))) (.none))
def J7y (xs : ZI) (lo : Int) (hi : Int) : Prop :=
  ((∃ i' : Int, (J2e xs lo hi i') ∧ (xs = xs) ∧ (lo = lo) ∧ (hi = hi) ∧ ((0 : Int) = i')) ∧ (∀ i : Int, (J2e xs lo hi i) → (((decide (i < (xs.length : Int))) = true → (true = true) ∧ ((0 : Int) ≤ i) ∧ ((i : Int) < xs.length) ∧ (i.toNat < xs.length) ∧ (PC Tryz.prog 129 [.int .i64 (xs.getD i.toNat 0), .int .i64 lo, .int .i64 hi] (.one (.d (.bool (inB (xs.getD i.toNat 0) lo hi))))) ∧ ((!(!(inB (xs.getD i.toNat 0) lo hi))) = true → (!(!(inB (xs.getD i.toNat 0) lo hi))) = true) ∧ ((!(!(inB (xs.getD i.toNat 0) lo hi))) = true → (!(!(inB (xs.getD i.toNat 0) lo hi))) = true) ∧ (((!(!(inB (xs.getD i.toNat 0) lo hi))) && (decide (i > 0))) = true → ((!(!(inB (xs.getD i.toNat 0) lo hi))) && (decide (i > 0))) = true) ∧ ((((!(!(inB (xs.getD i.toNat 0) lo hi))) && (decide (i > 0))) = true → I6 (i - 1))) ∧ (((!(!(inB (xs.getD i.toNat 0) lo hi))) && (decide (i > 0))) = true → ((!(!(inB (xs.getD i.toNat 0) lo hi))) && (decide (i > 0))) = true) ∧ (((!(!(inB (xs.getD i.toNat 0) lo hi))) && (decide (i > 0))) = true → ((!(!(inB (xs.getD i.toNat 0) lo hi))) && (decide (i > 0))) = true) ∧ ((((!(!(inB (xs.getD i.toNat 0) lo hi))) && (decide (i > 0))) = true → (0 : Int) ≤ (i - 1))) ∧ ((((!(!(inB (xs.getD i.toNat 0) lo hi))) && (decide (i > 0))) = true → ((i - 1) : Int) < xs.length)) ∧ (((!(!(inB (xs.getD i.toNat 0) lo hi))) && (decide (i > 0))) = true → ((!(!(inB (xs.getD i.toNat 0) lo hi))) && (decide (i > 0))) = true) ∧ ((((!(!(inB (xs.getD i.toNat 0) lo hi))) && (decide (i > 0))) = true → (i - 1).toNat < xs.length)) ∧ (((!(!(inB (xs.getD i.toNat 0) lo hi))) && (decide (i > 0))) = true → ((!(!(inB (xs.getD i.toNat 0) lo hi))) && (decide (i > 0))) = true) ∧ (((!(!(inB (xs.getD i.toNat 0) lo hi))) && (decide (i > 0))) = true → ((!(!(inB (xs.getD i.toNat 0) lo hi))) && (decide (i > 0))) = true) ∧ ((((!(!(inB (xs.getD i.toNat 0) lo hi))) && (decide (i > 0))) = true → (0 : Int) ≤ i)) ∧ ((((!(!(inB (xs.getD i.toNat 0) lo hi))) && (decide (i > 0))) = true → (i : Int) < xs.length)) ∧ (((!(!(inB (xs.getD i.toNat 0) lo hi))) && (decide (i > 0))) = true → ((!(!(inB (xs.getD i.toNat 0) lo hi))) && (decide (i > 0))) = true) ∧ ((((!(!(inB (xs.getD i.toNat 0) lo hi))) && (decide (i > 0))) = true → i.toNat < xs.length)) ∧ (((!(!(inB (xs.getD i.toNat 0) lo hi))) && (decide (i > 0))) = true → ((!(!(inB (xs.getD i.toNat 0) lo hi))) && (decide (i > 0))) = true) ∧ (((!(!(inB (xs.getD i.toNat 0) lo hi))) && (decide (i > 0))) = true → ((!(!(inB (xs.getD i.toNat 0) lo hi))) && (decide (i > 0))) = true) ∧ (((!(!(inB (xs.getD i.toNat 0) lo hi))) = true → (!(!(inB (xs.getD i.toNat 0) lo hi))) = true)) ∧ (((!(!(inB (xs.getD i.toNat 0) lo hi))) = true → (decide (i > 0)) = true → ((!(!(inB (xs.getD i.toNat 0) lo hi))) && (decide (i > 0))) = true)) ∧ (((!(!(inB (xs.getD i.toNat 0) lo hi))) = true → (decide (i > 0)) = false → true = true)) ∧ (true = true) ∧ (((!(inB (xs.getD i.toNat 0) lo hi)) = true → true = true)) ∧ (((!(inB (xs.getD i.toNat 0) lo hi)) = false → (!(!(inB (xs.getD i.toNat 0) lo hi))) = true)) ∧ (((cond (!(inB (xs.getD i.toNat 0) lo hi)) true (cond (decide (i > 0)) (decide ((xs.getD ((i - 1).toNat) 0) ≥ (xs.getD i.toNat 0))) false)) = true → ((false = (J2 xs lo hi)))) ∧ ((cond (!(inB (xs.getD i.toNat 0) lo hi)) true (cond (decide (i > 0)) (decide ((xs.getD ((i - 1).toNat) 0) ≥ (xs.getD i.toNat 0))) false)) = false → (I6 (i + 1)) ∧ (∃ i' : Int, (J2e xs lo hi i') ∧ (J21 xs lo hi i' < J21 xs lo hi i) ∧ (xs = xs) ∧ (lo = lo) ∧ (hi = hi) ∧ ((i + 1) = i'))))) ∧ ((decide (i < (xs.length : Int))) = false → ((true = (J2 xs lo hi)))))))
theorem JaV (xs : ZI) (lo : Int) (hi : Int)  (w_xs : (xs.length : Int) ≤ 9223372036854775807) : J7y xs lo hi := by
  unfold J7y
  refine ⟨?_, ?_⟩
  ·refine ⟨0, ?_⟩
   refine ⟨?_, rfl, rfl, rfl, rfl⟩
   ·refine ⟨?_, ?_, ?_⟩
    ·omega
    ·omega
    ·rfl
  intro i hJ
  obtain ⟨h1, h2, h3⟩ := hJ
  refine ⟨?_, ?_⟩
  ·intro b1
   try simp only [nrmT] at b1
   refine ⟨rfl, ?_, ?_, ?_, J4n (xs.getD i.toNat 0) lo hi, id, id, id, ?_, id, id, ?_, ?_, id, ?_, id, id, ?_, ?_, id, ?_, id, id, id, ?_, fun _ _ => rfl, rfl, fun _ => rfl, ?_, ?_, ?_⟩
   ·omega
   ·omega
   ·omega
   ·omega
   ·(intro hg; simp only [nrmT] at hg; omega)
   ·omega
   ·omega
   ·omega
   ·omega
   ·omega
   ·(simp_all; done)
   ·(simp_all; done)
   ·intro b2
    have e := J49 h1 b2
    exact (allTo_falseI h1 (by omega) e).symm
   intro b3
   refine ⟨?_, ?_⟩
   ·omega
   refine ⟨(i + 1), ?_⟩
   refine ⟨?_, ?_, rfl, rfl, rfl, rfl⟩
   ·refine ⟨?_, ?_, ?_⟩
    ·omega
    ·omega
    ·have e := J49 h1 b3
     exact allTo_step h1 h3 e
   (simp only [J21]; omega)
  intro b4
  try simp only [nrmT] at b4
  have e : i.toNat = xs.length := by omega
  rw [e] at h3
  exact h3.symm
theorem JaC (xs : ZI) (lo : Int) (hi : Int)  : PC Tryz.prog 164 [.sl (.ints xs), .int .i64 lo, .int .i64 hi] (.one (.d (.bool (J2 xs lo hi)))) :=
  pc_wf @Tryz.call164 fun hw => pc_by (by kernel_rfl) Tryz.func164 @Tryz.call164 (by kernel_rfl) Jbo (Jbn xs lo hi) (by kernel_rfl) (JaV xs lo hi hw.1) (by kernel_rfl)
def J9S : List D → Orc := orcN [some .ints, none, none] fun ds => match ds with
  | [.sl (.ints xs), .int .i64 lo, .int .i64 hi] => some (.one (.d (.bool (J2 xs lo hi))))
  | _ => none
abbrev J28 (xs : ZI) (below : Int) (i : Int) : Prop := (0 ≤ i) ∧ (i ≤ (xs.length : Int)) ∧ (allTo (J1w xs 0 (below - 1)) i.toNat = true)
abbrev J1Z (xs : ZI) (below : Int) (i : Int) : Nat := (xs.length - i).toNat
def Jba (f : FuncId) (ds : List D) : Orc := bif Nat.beq f 132 then J4z ds else .no
def Jbx (xs : ZI) (below : Int) : Ann := .two (.none) (.two (.two (.none) (.loop (cut1 (fun (i : Int) => J28 xs below i) (fun (i : Int) => [(0, .d false (.sl (.ints xs))), (1, .d false (.int .i64 below)), (7, .d false (.sl (.ints xs))), (8, .d true (.int .i64 (xs.length : Int))), (9, .d true (.int .i64 i))]) (fun (i : Int) => [])) (fun g => J1Z xs below g) (fun _ => .none))) (.none))
def J76 (xs : ZI) (below : Int) : Prop :=
  ((∃ i' : Int, (J28 xs below i') ∧ (xs = xs) ∧ (below = below) ∧ (xs = xs) ∧ ((xs.length : Int) = (xs.length : Int)) ∧ ((0 : Int) = i')) ∧ (∀ i : Int, (J28 xs below i) → (((decide (i < (xs.length : Int))) = true → ((0 : Int) ≤ i) ∧ ((i : Int) < xs.length) ∧ (i.toNat < xs.length) ∧ (I6 (below - 1)) ∧ (PC Tryz.prog 132 [.int .i64 (xs.getD i.toNat 0), .int .i64 0, .int .i64 (below - 1)] (.one (.d (.bool (inB (xs.getD i.toNat 0) 0 (below - 1)))))) ∧ ((!(!(inB (xs.getD i.toNat 0) 0 (below - 1)))) = true → (!(!(inB (xs.getD i.toNat 0) 0 (below - 1)))) = true) ∧ ((!(!(inB (xs.getD i.toNat 0) 0 (below - 1)))) = true → (!(!(inB (xs.getD i.toNat 0) 0 (below - 1)))) = true) ∧ (((!(!(inB (xs.getD i.toNat 0) 0 (below - 1)))) && (decide (i > 0))) = true → ((!(!(inB (xs.getD i.toNat 0) 0 (below - 1)))) && (decide (i > 0))) = true) ∧ ((((!(!(inB (xs.getD i.toNat 0) 0 (below - 1)))) && (decide (i > 0))) = true → I6 (i - 1))) ∧ (((!(!(inB (xs.getD i.toNat 0) 0 (below - 1)))) && (decide (i > 0))) = true → ((!(!(inB (xs.getD i.toNat 0) 0 (below - 1)))) && (decide (i > 0))) = true) ∧ (((!(!(inB (xs.getD i.toNat 0) 0 (below - 1)))) && (decide (i > 0))) = true → ((!(!(inB (xs.getD i.toNat 0) 0 (below - 1)))) && (decide (i > 0))) = true) ∧ ((((!(!(inB (xs.getD i.toNat 0) 0 (below - 1)))) && (decide (i > 0))) = true → (0 : Int) ≤ (i - 1))) ∧ ((((!(!(inB (xs.getD i.toNat 0) 0 (below - 1)))) && (decide (i > 0))) = true → ((i - 1) : Int) < xs.length)) ∧ (((!(!(inB (xs.getD i.toNat 0) 0 (below - 1)))) && (decide (i > 0))) = true → ((!(!(inB (xs.getD i.toNat 0) 0 (below - 1)))) && (decide (i > 0))) = true) ∧ ((((!(!(inB (xs.getD i.toNat 0) 0 (below - 1)))) && (decide (i > 0))) = true → (i - 1).toNat < xs.length)) ∧ (((!(!(inB (xs.getD i.toNat 0) 0 (below - 1)))) && (decide (i > 0))) = true → ((!(!(inB (xs.getD i.toNat 0) 0 (below - 1)))) && (decide (i > 0))) = true) ∧ (((!(!(inB (xs.getD i.toNat 0) 0 (below - 1)))) && (decide (i > 0))) = true → ((!(!(inB (xs.getD i.toNat 0) 0 (below - 1)))) && (decide (i > 0))) = true) ∧ (((!(!(inB (xs.getD i.toNat 0) 0 (below - 1)))) = true → (!(!(inB (xs.getD i.toNat 0) 0 (below - 1)))) = true)) ∧ (((!(!(inB (xs.getD i.toNat 0) 0 (below - 1)))) = true → (decide (i > 0)) = true → ((!(!(inB (xs.getD i.toNat 0) 0 (below - 1)))) && (decide (i > 0))) = true)) ∧ (((!(!(inB (xs.getD i.toNat 0) 0 (below - 1)))) = true → (decide (i > 0)) = false → true = true)) ∧ (true = true) ∧ (((!(inB (xs.getD i.toNat 0) 0 (below - 1))) = true → true = true)) ∧ (((!(inB (xs.getD i.toNat 0) 0 (below - 1))) = false → (!(!(inB (xs.getD i.toNat 0) 0 (below - 1)))) = true)) ∧ (((cond (!(inB (xs.getD i.toNat 0) 0 (below - 1))) true (cond (decide (i > 0)) (decide ((xs.getD i.toNat 0) ≤ (xs.getD ((i - 1).toNat) 0))) false)) = true → ((false = (J2 xs 0 (below - 1))))) ∧ ((cond (!(inB (xs.getD i.toNat 0) 0 (below - 1))) true (cond (decide (i > 0)) (decide ((xs.getD i.toNat 0) ≤ (xs.getD ((i - 1).toNat) 0))) false)) = false → (I6 (i + 1)) ∧ (∃ i' : Int, (J28 xs below i') ∧ (J1Z xs below i' < J1Z xs below i) ∧ (xs = xs) ∧ (below = below) ∧ (xs = xs) ∧ ((xs.length : Int) = (xs.length : Int)) ∧ ((i + 1) = i'))))) ∧ ((decide (i < (xs.length : Int))) = false → ((true = (J2 xs 0 (below - 1))))))))
theorem JaU (xs : ZI) (below : Int) (hb : -9223372036854775808 < below ∧ below ≤ 9223372036854775807) (w_xs : (xs.length : Int) ≤ 9223372036854775807) : J76 xs below := by
  unfold J76
  refine ⟨?_, ?_⟩
  ·refine ⟨0, ?_⟩
   refine ⟨?_, rfl, rfl, rfl, rfl, rfl⟩
   ·refine ⟨?_, ?_, ?_⟩
    ·omega
    ·omega
    ·rfl
  intro i hJ
  obtain ⟨h1, h2, h3⟩ := hJ
  refine ⟨?_, ?_⟩
  ·intro b1
   try simp only [nrmT] at b1
   refine ⟨?_, ?_, ?_, ?_, J55 (xs.getD i.toNat 0) 0 (below - 1), id, id, id, ?_, id, id, ?_, ?_, id, ?_, id, id, id, ?_, fun _ _ => rfl, rfl, fun _ => rfl, ?_, ?_, ?_⟩
   ·omega
   ·omega
   ·omega
   ·omega
   ·omega
   ·(intro hg; simp only [nrmT] at hg; omega)
   ·omega
   ·omega
   ·(simp_all; done)
   ·(simp_all; done)
   ·intro b2
    have e := J49 h1 b2
    exact (allTo_falseI h1 (by omega) e).symm
   intro b3
   refine ⟨?_, ?_⟩
   ·omega
   refine ⟨(i + 1), ?_⟩
   refine ⟨?_, ?_, rfl, rfl, rfl, rfl, rfl⟩
   ·refine ⟨?_, ?_, ?_⟩
    ·omega
    ·omega
    ·have e := J49 h1 b3
     exact allTo_step h1 h3 e
   (simp only [J1Z]; omega)
  intro b4
  try simp only [nrmT] at b4
  have e : i.toNat = xs.length := by omega
  rw [e] at h3
  exact h3.symm
theorem J6z (xs : ZI) (below : Int) (hb : -9223372036854775808 < below ∧ below ≤ 9223372036854775807) : PC Tryz.prog 162 [.sl (.ints xs), .int .i64 below] (.one (.d (.bool (J2 xs 0 (below - 1))))) :=
  pc_wf @Tryz.call162 fun hw => pc_by (by kernel_rfl) Tryz.func162 @Tryz.call162 (by kernel_rfl) Jba (Jbx xs below) (by kernel_rfl) (JaU xs below hb hw.1) (by kernel_rfl)
def J5O : List D → Orc := orcN [some .ints, none] fun ds => match ds with
  | [.sl (.ints xs), .int .i64 below] => some (.one (.d (.bool (J2 xs 0 (below - 1)))))
  | _ => none
theorem J7A (m n : Nat) : ((m : Int) == (n : Int)) = decide (m = n) := by
  rw [Bool.eq_iff_iff]; simp only [beq_iff_eq, decide_eq_true_eq]; omega
theorem Jdz (m n : Nat) : decide ((m : Int) ≤ (n : Int)) = decide (m ≤ n) := by
  rw [Bool.eq_iff_iff]; simp only [decide_eq_true_eq]; omega
theorem J9Y {α : Type} {p : α → Bool} {d : α} {xs : List α} {i : Int} (h2 : (xs.length : Int) ≤ i) (h2' : i ≤ (xs.length : Int)) (h3 : allTo (fun k => p (xs.getD k d)) i.toNat = true) : xs.all p = true := by
  have e : i.toNat = xs.length := by omega
  rw [e, allTo_list] at h3; exact h3
theorem Jbc {α : Type} {p : α → Bool} {d : α} {xs : List α} {i : Int} (h0 : 0 ≤ i) (h : i < (xs.length : Int)) (h3 : p (xs.getD i.toNat d) = false) : xs.all p = false := by
  rw [← allTo_list (d := d)]; exact allTo_falseI h0 h h3
theorem J2E {x lo hi : Int} (h : inB x lo hi = true) : lo ≤ x ∧ x ≤ hi := of_decide_eq_true h
def J8G (f : FuncId) (ds : List D) : Orc := bif Nat.beq f 132 then J4z ds else .no
def J8t (x : Int) (lo : Int) (hi : Int) : Ann := .none
def J51 (x : Int) (lo : Int) (hi : Int) : Prop :=
  (PC Tryz.prog 132 [.int .i64 x, .int .i64 lo, .int .i64 hi] (.one (.d (.bool (inB x lo hi))))) ∧ (((!(inB x lo hi)) = (!(inB x lo hi))))
theorem J7N (x : Int) (lo : Int) (hi : Int)   : J51 x lo hi := by
  unfold J51
  refine ⟨J55 x lo hi, rfl⟩
theorem J7W (x : Int) (lo : Int) (hi : Int)  : PC Tryz.prog 220 [.int .i64 x, .bx [.int .i64 lo] 0, .bx [.int .i64 hi] 0] (.one (.d (.bool (!(inB x lo hi))))) :=
  pc_wf @Tryz.call220 fun _ => pc_by (by kernel_rfl) Tryz.func220 @Tryz.call220 (by kernel_rfl) J8G (J8t x lo hi) (by kernel_rfl) (J7N x lo hi) (by kernel_rfl)
def J71 : List D → Orc := orcN [none, none, none] fun ds => match ds with
  | [.int .i64 x, .bx [.int .i64 lo] 0, .bx [.int .i64 hi] 0] => some (.one (.d (.bool (!(inB x lo hi)))))
  | _ => none
abbrev JC (xs : ZI) (lo : Int) (hi : Int) (i : Int) : Prop := (0 ≤ i) ∧ (i ≤ (xs.length : Int)) ∧ (∀ k, k < i.toNat → (fun x => !(inB x lo hi)) (xs.getD k 0) = false)
abbrev JA (xs : ZI) (lo : Int) (hi : Int) (i : Int) : Nat := (xs.length - i).toNat
def J3S (f : FuncId) (ds : List D) : Orc := bif Nat.beq f 220 then J71 ds else .no
def J3V (xs : ZI) (lo : Int) (hi : Int) : Ann := .two (.none) (.two (.two (.none) (.loop (cut1 (fun (i : Int) => JC xs lo hi i) (fun (i : Int) => [(0, .d false (.sl (.ints xs))), (1, .d false (.fn 220 0 [.bx [.int .i64 lo] 0, .bx [.int .i64 hi] 0])), (7, .d true (.int .i64 (xs.length : Int))), (8, .d true (.int .i64 i))]) (fun (i : Int) => [])) (fun g => JA xs lo hi g) (fun _ => .none))) (.none))
def J1d (xs : ZI) (lo : Int) (hi : Int) : Prop :=
  ((∃ i' : Int, (JC xs lo hi i') ∧ (xs = xs) ∧ ((.fn 220 0 [.bx [.int .i64 lo] 0, .bx [.int .i64 hi] 0] : D) = (.fn 220 0 [.bx [.int .i64 lo] 0, .bx [.int .i64 hi] 0] : D)) ∧ ((xs.length : Int) = (xs.length : Int)) ∧ ((0 : Int) = i')) ∧ (∀ i : Int, (JC xs lo hi i) → (((decide (i < (xs.length : Int))) = true → ((0 : Int) ≤ i) ∧ ((i : Int) < xs.length) ∧ (i.toNat < xs.length) ∧ (PC Tryz.prog 220 [.int .i64 (xs.getD i.toNat 0), .bx [.int .i64 lo] 0, .bx [.int .i64 hi] 0] (.one (.d (.bool (!(inB (xs.getD i.toNat 0) lo hi)))))) ∧ (((!(inB (xs.getD i.toNat 0) lo hi)) = true → ((i = (idxI (fun x => !(inB x lo hi)) xs)))) ∧ ((!(inB (xs.getD i.toNat 0) lo hi)) = false → (I6 (i + 1)) ∧ (∃ i' : Int, (JC xs lo hi i') ∧ (JA xs lo hi i' < JA xs lo hi i) ∧ (xs = xs) ∧ ((.fn 220 0 [.bx [.int .i64 lo] 0, .bx [.int .i64 hi] 0] : D) = (.fn 220 0 [.bx [.int .i64 lo] 0, .bx [.int .i64 hi] 0] : D)) ∧ ((xs.length : Int) = (xs.length : Int)) ∧ ((i + 1) = i'))))) ∧ ((decide (i < (xs.length : Int))) = false → ((((-1) : Int) = (idxI (fun x => !(inB x lo hi)) xs)))))))
theorem J3t (xs : ZI) (lo : Int) (hi : Int)  (w_xs : (xs.length : Int) ≤ 9223372036854775807) : J1d xs lo hi := by
  unfold J1d
  refine ⟨?_, ?_⟩
  ·refine ⟨0, ?_⟩
   refine ⟨?_, rfl, rfl, rfl, rfl⟩
   ·refine ⟨?_, ?_, ?_⟩
    ·omega
    ·omega
    ·omega
  intro i hJ
  obtain ⟨h1, h2, h3⟩ := hJ
  refine ⟨?_, ?_⟩
  ·intro b1
   try simp only [nrmT] at b1
   refine ⟨?_, ?_, ?_, J7W (xs.getD i.toNat 0) lo hi, ?_, ?_⟩
   ·omega
   ·omega
   ·omega
   ·intro b2
    try simp only [nrmT] at b2
    exact idx_found (p := fun x => !(inB x lo hi)) h1 b1 h3 (by simpa using b2)
   intro b3
   try simp only [nrmT] at b3
   refine ⟨?_, ?_⟩
   ·omega
   refine ⟨(i + 1), ?_⟩
   refine ⟨?_, ?_, rfl, rfl, rfl, rfl⟩
   ·refine ⟨?_, ?_, ?_⟩
    ·omega
    ·omega
    ·exact idx_step (p := fun x => !(inB x lo hi)) h1 h3 (by simpa using b3)
   (simp only [JA]; omega)
  intro b4
  try simp only [nrmT] at b4
  exact (idx_none (by omega) h3).symm
theorem J3u (xs : ZI) (lo : Int) (hi : Int)  : PC Tryz.prog 237 [.sl (.ints xs), .fn 220 0 [.bx [.int .i64 lo] 0, .bx [.int .i64 hi] 0]] (.one (.d (.int .i64 (idxI (fun x => !(inB x lo hi)) xs)))) :=
  pc_wf @Tryz.call237 fun hw => pc_by (by kernel_rfl) Tryz.func237 @Tryz.call237 (by kernel_rfl) J3S (J3V xs lo hi) (by kernel_rfl) (J3t xs lo hi hw.1) (by kernel_rfl)
def J3n : List D → Orc := orcN [some .ints, none] fun ds => match ds with
  | [.sl (.ints xs), .fn f0 0 [.bx [.int .i64 lo] 0, .bx [.int .i64 hi] 0]] => bif Nat.beq f0 220 then some (.one (.d (.int .i64 (idxI (fun x => !(inB x lo hi)) xs)))) else none
  | _ => none
def J31 (f : FuncId) (ds : List D) : Orc := bif Nat.beq f 237 then J3n ds else .no
def J36 (xs : ZI) (lo : Int) (hi : Int) : Ann := .none
def J0F (xs : ZI) (lo : Int) (hi : Int) : Prop :=
  (PC Tryz.prog 237 [.sl (.ints xs), .fn 220 0 [.bx [.int .i64 lo] 0, .bx [.int .i64 hi] 0]] (.one (.d (.int .i64 (idxI (fun x => !(inB x lo hi)) xs))))) ∧ (((decide ((idxI (fun x => !(inB x lo hi)) xs) ≥ 0)) = (xs.any (fun x => !(inB x lo hi)))))
theorem J2G (xs : ZI) (lo : Int) (hi : Int)  (w_xs : (xs.length : Int) ≤ 9223372036854775807) : J0F xs lo hi := by
  unfold J0F
  refine ⟨J3u xs lo hi, ?_⟩
  ·exact idx_any _ _
theorem J2M (xs : ZI) (lo : Int) (hi : Int)  : PC Tryz.prog 218 [.sl (.ints xs), .fn 220 0 [.bx [.int .i64 lo] 0, .bx [.int .i64 hi] 0]] (.one (.d (.bool (xs.any (fun x => !(inB x lo hi)))))) :=
  pc_wf @Tryz.call218 fun hw => pc_by (by kernel_rfl) Tryz.func218 @Tryz.call218 (by kernel_rfl) J31 (J36 xs lo hi) (by kernel_rfl) (J2G xs lo hi hw.1) (by kernel_rfl)
def J2p : List D → Orc := orcN [some .ints, none] fun ds => match ds with
  | [.sl (.ints xs), .fn f0 0 [.bx [.int .i64 lo] 0, .bx [.int .i64 hi] 0]] => bif Nat.beq f0 220 then some (.one (.d (.bool (xs.any (fun x => !(inB x lo hi)))))) else none
  | _ => none
def Ja4 (f : FuncId) (ds : List D) : Orc := bif Nat.beq f 218 then J2p ds else .no
def J9J (xs : ZI) (lo : Int) (hi : Int) : Ann := .none
def J5V (xs : ZI) (lo : Int) (hi : Int) : Prop :=
  (PC Tryz.prog 218 [.sl (.ints xs), .fn 220 0 [.bx [.int .i64 lo] 0, .bx [.int .i64 hi] 0]] (.one (.d (.bool (xs.any (fun x => !(inB x lo hi))))))) ∧ (((!(xs.any (fun x => !(inB x lo hi)))) = (xs.all (fun x => inB x lo hi))))
theorem J99 (xs : ZI) (lo : Int) (hi : Int)  (w_xs : (xs.length : Int) ≤ 9223372036854775807) : J5V xs lo hi := by
  unfold J5V
  refine ⟨J2M xs lo hi, ?_⟩
  ·exact any_not _ _
theorem J3s (xs : ZI) (lo : Int) (hi : Int)  : PC Tryz.prog 168 [.sl (.ints xs), .int .i64 lo, .int .i64 hi] (.one (.d (.bool (xs.all (fun x => inB x lo hi))))) :=
  pc_wf @Tryz.call168 fun hw => pc_by (by kernel_rfl) Tryz.func168 @Tryz.call168 (by kernel_rfl) Ja4 (J9J xs lo hi) (by kernel_rfl) (J99 xs lo hi hw.1) (by kernel_rfl)
def J3a : List D → Orc := orcN [some .ints, none, none] fun ds => match ds with
  | [.sl (.ints xs), .int .i64 lo, .int .i64 hi] => some (.one (.d (.bool (xs.all (fun x => inB x lo hi)))))
  | _ => none
theorem J8W {α : Type} [BEq α] [LawfulBEq α] {d : α} {xs ys : List α} (hl : xs.length = ys.length) : allTo (fun k => xs.getD k d == ys.getD k d) xs.length = (xs == ys) := by
  rw [Bool.eq_iff_iff, allTo_iff]
  simp only [beq_iff_eq]
  constructor
  · intro h
    refine List.ext_getElem hl fun k h1 h2 => ?_
    have := h k h1
    simpa [h1, h2] using this
  intro h k _
  rw [h]
theorem Jel {α : Type} [BEq α] [LawfulBEq α] {xs ys : List α} (h : ¬ xs.length = ys.length) : (xs == ys) = false := by
  rw [Bool.eq_false_iff]; intro h2; simp only [beq_iff_eq] at h2; exact h (by rw [h2])
def Jg (row : ZI) (n most : Int) : Bool := row.all (fun x => inB x 0 most) && decide ((row.length : Int) = n)
def J0 (U : ZI) (E : ZR) : Bool :=
  inB (U.length : Int) 1 7 && U.all (fun x => inB x 0 99) && decide (E.length ≤ 7) && E.all (fun l => Jg l (U.length : Int) 99)
theorem Jb {U : ZI} {E : ZR} (h : J0 U E = true) : 1 ≤ U.length ∧ U.length ≤ 7 ∧ E.length ≤ 7 := by
  simp only [J0, Bool.and_eq_true, decide_eq_true_eq] at h
  have := J2E h.1.1.1
  omega
theorem J8 {U : ZI} {E : ZR} (h : J0 U E = true) {i : Nat} (hi : i < E.length) : (E.getD i []).length = U.length ∧ ∀ a, a < U.length → 0 ≤ (E.getD i []).getD a 0 ∧ (E.getD i []).getD a 0 ≤ 99 := by
  simp only [J0, Bool.and_eq_true, decide_eq_true_eq] at h
  have h2 := List.all_eq_true.1 h.2 _ (getD_mem (d := []) hi)
  simp only [Jg, Bool.and_eq_true, decide_eq_true_eq] at h2
  refine ⟨by omega, fun a ha => ?_⟩
  exact J2E (List.all_eq_true.1 h2.1 _ (getD_mem (by omega)))
abbrev J45 (row : ZI) (n : Int) (most : Int) (i : Int) : Prop := (0 ≤ i) ∧ (i ≤ (row.length : Int)) ∧ (allTo (fun k => inB (row.getD k 0) 0 most) i.toNat = true)
abbrev J43 (row : ZI) (n : Int) (most : Int) (i : Int) : Nat := (row.length - i).toNat
def JdA (f : FuncId) (ds : List D) : Orc := bif Nat.beq f 129 then J4K ds else .no
def Jdi (row : ZI) (n : Int) (most : Int) : Ann := .two (.none) (.two (.two (.none) (.loop (cut1 (fun (i : Int) => J45 row n most i) (fun (i : Int) => [(0, .d false (.sl (.ints row))), (1, .d false (.int .i64 n)), (2, .d false (.int .i64 most)), (7, .d true (.int .i64 i))]) (fun (i : Int) => [])) (fun g => J43 row n most g) (fun _ => .none))) (.none))
def Ja8 (row : ZI) (n : Int) (most : Int) : Prop :=
  ((∃ i' : Int, (J45 row n most i') ∧ (row = row) ∧ (n = n) ∧ (most = most) ∧ ((0 : Int) = i')) ∧ (∀ i : Int, (J45 row n most i) → (((decide (i < (row.length : Int))) = true → ((0 : Int) ≤ i) ∧ ((i : Int) < row.length) ∧ (i.toNat < row.length) ∧ (PC Tryz.prog 129 [.int .i64 (row.getD i.toNat 0), .int .i64 0, .int .i64 most] (.one (.d (.bool (inB (row.getD i.toNat 0) 0 most))))) ∧ (((!(inB (row.getD i.toNat 0) 0 most)) = true → ((false = (Jg row n most)))) ∧ ((!(inB (row.getD i.toNat 0) 0 most)) = false → (I6 (i + 1)) ∧ (∃ i' : Int, (J45 row n most i') ∧ (J43 row n most i' < J43 row n most i) ∧ (row = row) ∧ (n = n) ∧ (most = most) ∧ ((i + 1) = i'))))) ∧ ((decide (i < (row.length : Int))) = false → ((((row.length : Int) == n) = (Jg row n most)))))))
theorem JcI (row : ZI) (n : Int) (most : Int)  (w_row : (row.length : Int) ≤ 9223372036854775807) : Ja8 row n most := by
  unfold Ja8
  refine ⟨?_, ?_⟩
  ·refine ⟨0, ?_⟩
   refine ⟨?_, rfl, rfl, rfl, rfl⟩
   ·refine ⟨?_, ?_, ?_⟩
    ·omega
    ·omega
    ·rfl
  intro i hJ
  obtain ⟨h1, h2, h3⟩ := hJ
  refine ⟨?_, ?_⟩
  ·intro b1
   try simp only [nrmT] at b1
   refine ⟨?_, ?_, ?_, J4n (row.getD i.toNat 0) 0 most, ?_, ?_⟩
   ·omega
   ·omega
   ·omega
   ·intro b2
    try simp only [nrmT] at b2
    unfold Jg
    rw [Jbc (p := fun x => inB x 0 most) (d := 0) h1 (by omega) b2]; rfl
   intro b3
   try simp only [nrmT] at b3
   refine ⟨?_, ?_⟩
   ·omega
   refine ⟨(i + 1), ?_⟩
   refine ⟨?_, ?_, rfl, rfl, rfl, rfl⟩
   ·refine ⟨?_, ?_, ?_⟩
    ·omega
    ·omega
    ·exact allTo_step h1 h3 b3
   (simp only [J43]; omega)
  intro b4
  try simp only [nrmT] at b4
  unfold Jg
  rw [J9Y (p := fun x => inB x 0 most) (d := 0) (by omega) h2 h3, Bool.true_and]; rfl
theorem J9v (row : ZI) (n : Int) (most : Int)  : PC Tryz.prog 202 [.sl (.ints row), .int .i64 n, .int .i64 most] (.one (.d (.bool (Jg row n most)))) :=
  pc_wf @Tryz.call202 fun hw => pc_by (by kernel_rfl) Tryz.func202 @Tryz.call202 (by kernel_rfl) JdA (Jdi row n most) (by kernel_rfl) (JcI row n most hw.1) (by kernel_rfl)
def Jcd : List D → Orc := orcN [some .ints, none, none] fun ds => match ds with
  | [.sl (.ints row), .int .i64 n, .int .i64 most] => some (.one (.d (.bool (Jg row n most))))
  | _ => none
abbrev J3x (U : ZI) (E : ZR) (i : Int) : Prop := (0 ≤ i) ∧ (i ≤ (E.length : Int)) ∧ (allTo (fun k => Jg (E.getD k []) (U.length : Int) 99) i.toNat = true)
abbrev J3F (U : ZI) (E : ZR) (i : Int) : Nat := (E.length - i).toNat
def JcD (f : FuncId) (ds : List D) : Orc := bif Nat.beq f 202 then Jcd ds else bif Nat.beq f 129 then J4K ds else .no
def JcX (U : ZI) (E : ZR) : Ann := .two (.none) (.two (.none) (.two (.two (.none) (.loop (cut1 (fun (i : Int) => J3x U E i) (fun (i : Int) => [(1, .ptr 1 0), (3, .d true (.int .i64 (U.length : Int))), (4, .d true (.int .i64 i))]) (fun (i : Int) => [(1, .box 27 [.d false (.sl (.ints U)), .d false (.sl (.rows E))])])) (fun g => J3F U E g) (fun _ => .none))) (.none)))
def J8S (U : ZI) (E : ZR) : Prop :=
  ((∃ i' : Int, (J3x U E i') ∧ ((U.length : Int) = (U.length : Int)) ∧ ((0 : Int) = i') ∧ (U = U) ∧ (E = E)) ∧ (∀ i : Int, (J3x U E i) → (((decide (i < (E.length : Int))) = true → ((0 : Int) ≤ i) ∧ ((i : Int) < E.length) ∧ (i.toNat < E.length) ∧ (PC Tryz.prog 202 [.sl (.ints (E.getD i.toNat [])), .int .i64 (U.length : Int), .int .i64 99] (.one (.d (.bool (Jg (E.getD i.toNat []) (U.length : Int) 99))))) ∧ (((!(Jg (E.getD i.toNat []) (U.length : Int) 99)) = true → ((false = (J0 U E)))) ∧ ((!(Jg (E.getD i.toNat []) (U.length : Int) 99)) = false → (I6 (i + 1)) ∧ (∃ i' : Int, (J3x U E i') ∧ (J3F U E i' < J3F U E i) ∧ ((U.length : Int) = (U.length : Int)) ∧ ((i + 1) = i') ∧ (U = U) ∧ (E = E))))) ∧ ((decide (i < (E.length : Int))) = false → (PC Tryz.prog 129 [.int .i64 (U.length : Int), .int .i64 1, .int .i64 7] (.one (.d (.bool (inB (U.length : Int) 1 7))))) ∧ ((inB (U.length : Int) 1 7) = true → (inB (U.length : Int) 1 7) = true) ∧ ((inB (U.length : Int) 1 7) = true → (inB (U.length : Int) 1 7) = true) ∧ ((inB (U.length : Int) 1 7) = true → (inB (U.length : Int) 1 7) = true) ∧ ((inB (U.length : Int) 1 7) = true → PC Tryz.prog 202 [.sl (.ints U), .int .i64 (U.length : Int), .int .i64 99] (.one (.d (.bool (Jg U (U.length : Int) 99))))) ∧ (true = true) ∧ (((inB (U.length : Int) 1 7) = true → (inB (U.length : Int) 1 7) = true)) ∧ (((inB (U.length : Int) 1 7) = false → true = true)) ∧ ((cond (inB (U.length : Int) 1 7) (Jg U (U.length : Int) 99) false) = true → (cond (inB (U.length : Int) 1 7) (Jg U (U.length : Int) 99) false) = true) ∧ ((cond (inB (U.length : Int) 1 7) (Jg U (U.length : Int) 99) false) = true → (cond (inB (U.length : Int) 1 7) (Jg U (U.length : Int) 99) false) = true) ∧ ((cond (inB (U.length : Int) 1 7) (Jg U (U.length : Int) 99) false) = true → (cond (inB (U.length : Int) 1 7) (Jg U (U.length : Int) 99) false) = true) ∧ (true = true) ∧ (((cond (inB (U.length : Int) 1 7) (Jg U (U.length : Int) 99) false) = true → (cond (inB (U.length : Int) 1 7) (Jg U (U.length : Int) 99) false) = true)) ∧ (((cond (inB (U.length : Int) 1 7) (Jg U (U.length : Int) 99) false) = false → true = true)) ∧ (((cond (cond (inB (U.length : Int) 1 7) (Jg U (U.length : Int) 99) false) (decide ((E.length : Int) ≤ 7)) false) = (J0 U E)))))))
theorem JbZ (U : ZI) (E : ZR)  (w_Open : (U.length : Int) ≤ 9223372036854775807) (w_Dist : (E.length : Int) ≤ 9223372036854775807) (v_Dist : ∀ x9 ∈ E, (x9.length : Int) ≤ 9223372036854775807) : J8S U E := by
  unfold J8S
  refine ⟨?_, ?_⟩
  ·refine ⟨0, ?_⟩
   refine ⟨?_, rfl, rfl, rfl, rfl⟩
   ·refine ⟨?_, ?_, ?_⟩
    ·omega
    ·omega
    ·rfl
  intro i hJ
  obtain ⟨h1, h2, h3⟩ := hJ
  refine ⟨?_, ?_⟩
  ·intro b1
   try simp only [nrmT] at b1
   refine ⟨?_, ?_, ?_, J9v (E.getD i.toNat []) (U.length : Int) 99, ?_, ?_⟩
   ·omega
   ·omega
   ·omega
   ·intro b2
    try simp only [nrmT] at b2
    unfold J0
    rw [Jbc (p := fun l => Jg l (U.length : Int) 99) (d := []) h1 (by omega) b2, Bool.and_false]
   intro b3
   try simp only [nrmT] at b3
   refine ⟨?_, ?_⟩
   ·omega
   refine ⟨(i + 1), ?_⟩
   refine ⟨?_, ?_, rfl, rfl, rfl, rfl⟩
   ·refine ⟨?_, ?_, ?_⟩
    ·omega
    ·omega
    ·exact allTo_step h1 h3 b3
   (simp only [J3F]; omega)
  intro b4
  try simp only [nrmT] at b4
  refine ⟨J4n (U.length : Int) 1 7, id, id, id, fun _ => J9v U (U.length : Int) 99, rfl, id, fun _ => rfl, id, id, id, rfl, id, fun _ => rfl, ?_⟩
  ·unfold J0
   rw [J9Y (p := fun l => Jg l (U.length : Int) 99) (d := []) (by omega) h2 h3, show decide ((E.length : Int) ≤ 7) = decide (E.length ≤ 7) from Jdz _ 7]
   unfold Jg
   cases inB (U.length : Int) 1 7 <;> cases U.all (fun x => inB x 0 99) <;> cases decide (E.length ≤ 7) <;> simp
theorem J1a (U : ZI) (E : ZR)  : PC Tryz.prog 112 [.agg [.sl (.ints U), .sl (.rows E)]] (.one (.d (.bool (J0 U E)))) :=
  pc_wf @Tryz.call112 fun hw => pc_by (by kernel_rfl) Tryz.func112 @Tryz.call112 (by kernel_rfl) JcD (JcX U E) (by kernel_rfl) (JbZ U E hw.1.1 hw.1.2.1.1 hw.1.2.1.2) (by kernel_rfl)
def J0K : List D → Orc := orcN [none] fun ds => match ds with
  | [.agg [.sl (.ints U), .sl (.rows E)]] => some (.one (.d (.bool (J0 U E))))
  | _ => none
def JaN (f : FuncId) (ds : List D) : Orc := bif Nat.beq f 168 then J3a ds else .no
def Jaz (xs : ZI) (U : ZI) (E : ZR) : Ann := .none
def J6v (xs : ZI) (U : ZI) (E : ZR) : Prop :=
  ((!((xs.length : Int) != (U.length : Int))) = true → (!((xs.length : Int) != (U.length : Int))) = true) ∧ ((!((xs.length : Int) != (U.length : Int))) = true → PC Tryz.prog 168 [.sl (.ints xs), .int .i64 0, .int .i64 99] (.one (.d (.bool (xs.all (fun x => inB x 0 99)))))) ∧ ((!((xs.length : Int) != (U.length : Int))) = true → (!((xs.length : Int) != (U.length : Int))) = true) ∧ (true = true) ∧ ((((xs.length : Int) != (U.length : Int)) = true → true = true)) ∧ ((((xs.length : Int) != (U.length : Int)) = false → (!((xs.length : Int) != (U.length : Int))) = true)) ∧ (((cond ((xs.length : Int) != (U.length : Int)) true (!(xs.all (fun x => inB x 0 99)))) = (!(Jg xs (U.length : Int) 99))))
theorem J9M (xs : ZI) (U : ZI) (E : ZR)  (w_xs : (xs.length : Int) ≤ 9223372036854775807) (w_Open : (U.length : Int) ≤ 9223372036854775807) (w_Dist : (E.length : Int) ≤ 9223372036854775807) (v_Dist : ∀ x9 ∈ E, (x9.length : Int) ≤ 9223372036854775807) : J6v xs U E := by
  unfold J6v
  refine ⟨id, fun _ => J3s xs 0 99, id, rfl, fun _ => rfl, ?_, ?_⟩
  ·(simp_all; done)
  unfold Jg
  by_cases h : (xs.length : Int) = (U.length : Int)
  · simp [h]
  simp [h]
theorem J9x (xs : ZI) (U : ZI) (E : ZR)  : PC Tryz.prog 201 [.sl (.ints xs), .bx [.sl (.ints U), .sl (.rows E)] 0] (.one (.d (.bool (!(Jg xs (U.length : Int) 99))))) :=
  pc_wf @Tryz.call201 fun hw => pc_by (by kernel_rfl) Tryz.func201 @Tryz.call201 (by kernel_rfl) JaN (Jaz xs U E) (by kernel_rfl) (J9M xs U E hw.1 hw.2.1.1 hw.2.1.2.1.1 hw.2.1.2.1.2) (by kernel_rfl)
def J9u : List D → Orc := orcN [some .ints, none] fun ds => match ds with
  | [.sl (.ints xs), .bx [.sl (.ints U), .sl (.rows E)] 0] => some (.one (.d (.bool (!(Jg xs (U.length : Int) 99)))))
  | _ => none
abbrev JB (xs : ZR) (U : ZI) (E : ZR) (i : Int) : Prop := (0 ≤ i) ∧ (i ≤ (xs.length : Int)) ∧ (∀ k, k < i.toNat → (fun x => !(Jg x (U.length : Int) 99)) (xs.getD k []) = false)
abbrev JD (xs : ZR) (U : ZI) (E : ZR) (i : Int) : Nat := (xs.length - i).toNat
def J3U (f : FuncId) (ds : List D) : Orc := bif Nat.beq f 201 then J9u ds else .no
def J3T (xs : ZR) (U : ZI) (E : ZR) : Ann := .two (.none) (.two (.two (.none) (.loop (cut1 (fun (i : Int) => JB xs U E i) (fun (i : Int) => [(0, .d false (.sl (.rows xs))), (1, .d false (.fn 201 0 [.bx [.sl (.ints U), .sl (.rows E)] 0])), (7, .d true (.int .i64 (xs.length : Int))), (8, .d true (.int .i64 i))]) (fun (i : Int) => [])) (fun g => JD xs U E g) (fun _ => .none))) (.none))
def J1e (xs : ZR) (U : ZI) (E : ZR) : Prop :=
  ((∃ i' : Int, (JB xs U E i') ∧ (xs = xs) ∧ ((.fn 201 0 [.bx [.sl (.ints U), .sl (.rows E)] 0] : D) = (.fn 201 0 [.bx [.sl (.ints U), .sl (.rows E)] 0] : D)) ∧ ((xs.length : Int) = (xs.length : Int)) ∧ ((0 : Int) = i')) ∧ (∀ i : Int, (JB xs U E i) → (((decide (i < (xs.length : Int))) = true → ((0 : Int) ≤ i) ∧ ((i : Int) < xs.length) ∧ (i.toNat < xs.length) ∧ (PC Tryz.prog 201 [.sl (.ints (xs.getD i.toNat [])), .bx [.sl (.ints U), .sl (.rows E)] 0] (.one (.d (.bool (!(Jg (xs.getD i.toNat []) (U.length : Int) 99)))))) ∧ (((!(Jg (xs.getD i.toNat []) (U.length : Int) 99)) = true → ((i = (idxI (fun x => !(Jg x (U.length : Int) 99)) xs)))) ∧ ((!(Jg (xs.getD i.toNat []) (U.length : Int) 99)) = false → (I6 (i + 1)) ∧ (∃ i' : Int, (JB xs U E i') ∧ (JD xs U E i' < JD xs U E i) ∧ (xs = xs) ∧ ((.fn 201 0 [.bx [.sl (.ints U), .sl (.rows E)] 0] : D) = (.fn 201 0 [.bx [.sl (.ints U), .sl (.rows E)] 0] : D)) ∧ ((xs.length : Int) = (xs.length : Int)) ∧ ((i + 1) = i'))))) ∧ ((decide (i < (xs.length : Int))) = false → ((((-1) : Int) = (idxI (fun x => !(Jg x (U.length : Int) 99)) xs)))))))
theorem J3r (xs : ZR) (U : ZI) (E : ZR)  (w_xs : (xs.length : Int) ≤ 9223372036854775807) (v_xs : ∀ x9 ∈ xs, (x9.length : Int) ≤ 9223372036854775807) (w_Open : (U.length : Int) ≤ 9223372036854775807) (w_Dist : (E.length : Int) ≤ 9223372036854775807) (v_Dist : ∀ x9 ∈ E, (x9.length : Int) ≤ 9223372036854775807) : J1e xs U E := by
  unfold J1e
  refine ⟨?_, ?_⟩
  ·refine ⟨0, ?_⟩
   refine ⟨?_, rfl, rfl, rfl, rfl⟩
   ·refine ⟨?_, ?_, ?_⟩
    ·omega
    ·omega
    ·omega
  intro i hJ
  obtain ⟨h1, h2, h3⟩ := hJ
  refine ⟨?_, ?_⟩
  ·intro b1
   try simp only [nrmT] at b1
   refine ⟨?_, ?_, ?_, J9x (xs.getD i.toNat []) U E, ?_, ?_⟩
   ·omega
   ·omega
   ·omega
   ·intro b2
    try simp only [nrmT] at b2
    exact idx_found (p := fun x => !(Jg x (U.length : Int) 99)) h1 b1 h3 (by simpa using b2)
   intro b3
   try simp only [nrmT] at b3
   refine ⟨?_, ?_⟩
   ·omega
   refine ⟨(i + 1), ?_⟩
   refine ⟨?_, ?_, rfl, rfl, rfl, rfl⟩
   ·refine ⟨?_, ?_, ?_⟩
    ·omega
    ·omega
    ·exact idx_step (p := fun x => !(Jg x (U.length : Int) 99)) h1 h3 (by simpa using b3)
   (simp only [JD]; omega)
  intro b4
  try simp only [nrmT] at b4
  exact (idx_none (by omega) h3).symm
theorem J3E (xs : ZR) (U : ZI) (E : ZR)  : PC Tryz.prog 226 [.sl (.rows xs), .fn 201 0 [.bx [.sl (.ints U), .sl (.rows E)] 0]] (.one (.d (.int .i64 (idxI (fun x => !(Jg x (U.length : Int) 99)) xs)))) :=
  pc_wf @Tryz.call226 fun hw => pc_by (by kernel_rfl) Tryz.func226 @Tryz.call226 (by kernel_rfl) J3U (J3T xs U E) (by kernel_rfl) (J3r xs U E hw.1.1 hw.1.2 hw.2.1.1.1 hw.2.1.1.2.1.1 hw.2.1.1.2.1.2) (by kernel_rfl)
def J3p : List D → Orc := orcN [some .rows, none] fun ds => match ds with
  | [.sl (.rows xs), .fn f0 0 [.bx [.sl (.ints U), .sl (.rows E)] 0]] => bif Nat.beq f0 201 then some (.one (.d (.int .i64 (idxI (fun x => !(Jg x (U.length : Int) 99)) xs)))) else none
  | _ => none
def J35 (f : FuncId) (ds : List D) : Orc := bif Nat.beq f 226 then J3p ds else .no
def J38 (xs : ZR) (U : ZI) (E : ZR) : Ann := .none
def J0N (xs : ZR) (U : ZI) (E : ZR) : Prop :=
  (PC Tryz.prog 226 [.sl (.rows xs), .fn 201 0 [.bx [.sl (.ints U), .sl (.rows E)] 0]] (.one (.d (.int .i64 (idxI (fun x => !(Jg x (U.length : Int) 99)) xs))))) ∧ (((decide ((idxI (fun x => !(Jg x (U.length : Int) 99)) xs) ≥ 0)) = (xs.any (fun x => !(Jg x (U.length : Int) 99)))))
theorem J2H (xs : ZR) (U : ZI) (E : ZR)  (w_xs : (xs.length : Int) ≤ 9223372036854775807) (v_xs : ∀ x9 ∈ xs, (x9.length : Int) ≤ 9223372036854775807) (w_Open : (U.length : Int) ≤ 9223372036854775807) (w_Dist : (E.length : Int) ≤ 9223372036854775807) (v_Dist : ∀ x9 ∈ E, (x9.length : Int) ≤ 9223372036854775807) : J0N xs U E := by
  unfold J0N
  refine ⟨J3E xs U E, ?_⟩
  ·exact idx_any _ _
theorem J2J (xs : ZR) (U : ZI) (E : ZR)  : PC Tryz.prog 195 [.sl (.rows xs), .fn 201 0 [.bx [.sl (.ints U), .sl (.rows E)] 0]] (.one (.d (.bool (xs.any (fun x => !(Jg x (U.length : Int) 99)))))) :=
  pc_wf @Tryz.call195 fun hw => pc_by (by kernel_rfl) Tryz.func195 @Tryz.call195 (by kernel_rfl) J35 (J38 xs U E) (by kernel_rfl) (J2H xs U E hw.1.1 hw.1.2 hw.2.1.1.1 hw.2.1.1.2.1.1 hw.2.1.1.2.1.2) (by kernel_rfl)
def J2w : List D → Orc := orcN [some .rows, none] fun ds => match ds with
  | [.sl (.rows xs), .fn f0 0 [.bx [.sl (.ints U), .sl (.rows E)] 0]] => bif Nat.beq f0 201 then some (.one (.d (.bool (xs.any (fun x => !(Jg x (U.length : Int) 99)))))) else none
  | _ => none
def JbK (f : FuncId) (ds : List D) : Orc := bif Nat.beq f 132 then J4z ds else bif Nat.beq f 168 then J3a ds else bif Nat.beq f 195 then J2w ds else .no
def Jc8 (U : ZI) (E : ZR) : Ann := .none
def Jr (U : ZI) (E : ZR) : Bool := (cond (cond (inB (U.length : Int) 1 7) (U.all (fun x => inB x 0 99)) false) (decide ((E.length : Int) ≤ 7)) false)
def J85 (U : ZI) (E : ZR) : Prop :=
  (PC Tryz.prog 132 [.int .i64 (U.length : Int), .int .i64 1, .int .i64 7] (.one (.d (.bool (inB (U.length : Int) 1 7))))) ∧ ((inB (U.length : Int) 1 7) = true → (inB (U.length : Int) 1 7) = true) ∧ ((inB (U.length : Int) 1 7) = true → (inB (U.length : Int) 1 7) = true) ∧ ((inB (U.length : Int) 1 7) = true → PC Tryz.prog 168 [.sl (.ints U), .int .i64 0, .int .i64 99] (.one (.d (.bool (U.all (fun x => inB x 0 99)))))) ∧ (true = true) ∧ (((inB (U.length : Int) 1 7) = true → (inB (U.length : Int) 1 7) = true)) ∧ (((inB (U.length : Int) 1 7) = false → true = true)) ∧ ((cond (inB (U.length : Int) 1 7) (U.all (fun x => inB x 0 99)) false) = true → (cond (inB (U.length : Int) 1 7) (U.all (fun x => inB x 0 99)) false) = true) ∧ ((cond (inB (U.length : Int) 1 7) (U.all (fun x => inB x 0 99)) false) = true → (cond (inB (U.length : Int) 1 7) (U.all (fun x => inB x 0 99)) false) = true) ∧ ((cond (inB (U.length : Int) 1 7) (U.all (fun x => inB x 0 99)) false) = true → (cond (inB (U.length : Int) 1 7) (U.all (fun x => inB x 0 99)) false) = true) ∧ (true = true) ∧ (((cond (inB (U.length : Int) 1 7) (U.all (fun x => inB x 0 99)) false) = true → (cond (inB (U.length : Int) 1 7) (U.all (fun x => inB x 0 99)) false) = true)) ∧ (((cond (inB (U.length : Int) 1 7) (U.all (fun x => inB x 0 99)) false) = false → true = true)) ∧ ((Jr U E) = true → (Jr U E) = true) ∧ ((Jr U E) = true → (Jr U E) = true) ∧ ((Jr U E) = true → (Jr U E) = true) ∧ ((Jr U E) = true → PC Tryz.prog 195 [.sl (.rows E), .fn 201 0 [.bx [.sl (.ints U), .sl (.rows E)] 0]] (.one (.d (.bool (E.any (fun x => !(Jg x (U.length : Int) 99))))))) ∧ ((Jr U E) = true → (Jr U E) = true) ∧ (true = true) ∧ (((Jr U E) = true → (Jr U E) = true)) ∧ (((Jr U E) = false → true = true)) ∧ (((cond (Jr U E) (!(E.any (fun x => !(Jg x (U.length : Int) 99)))) false) = (J0 U E)))
theorem Jb8 (U : ZI) (E : ZR)  (w_Open : (U.length : Int) ≤ 9223372036854775807) (w_Dist : (E.length : Int) ≤ 9223372036854775807) (v_Dist : ∀ x9 ∈ E, (x9.length : Int) ≤ 9223372036854775807) : J85 U E := by
  unfold J85 Jr
  refine ⟨J55 (U.length : Int) 1 7, id, id, fun _ => J3s U 0 99, rfl, id, fun _ => rfl, id, id, id, rfl, id, fun _ => rfl, id, id, id, fun _ => J2J E U E, id, rfl, id, fun _ => rfl, ?_⟩
  ·unfold J0
   rw [any_not, show decide ((E.length : Int) ≤ 7) = decide (E.length ≤ 7) from Jdz _ 7]
   cases inB (U.length : Int) 1 7 <;> cases U.all (fun x => inB x 0 99) <;> cases decide (E.length ≤ 7) <;> simp
theorem J3Q (U : ZI) (E : ZR)  : PC Tryz.prog 111 [.agg [.sl (.ints U), .sl (.rows E)]] (.one (.d (.bool (J0 U E)))) :=
  pc_wf @Tryz.call111 fun hw => pc_by (by kernel_rfl) Tryz.func111 @Tryz.call111 (by kernel_rfl) JbK (Jc8 U E) (by kernel_rfl) (Jb8 U E hw.1.1 hw.1.2.1.1 hw.1.2.1.2) (by kernel_rfl)
def J2O : List D → Orc := orcN [none] fun ds => match ds with
  | [.agg [.sl (.ints U), .sl (.rows E)]] => some (.one (.d (.bool (J0 U E))))
  | _ => none
def J6a (E : ZR) (i j : Nat) (b : Int) (a : Nat) : Int := min b ((E.getD i []).getD a 0 + (E.getD j []).getD a 0)
def Je (E : ZR) (i j : Int) : Int := if i = j then 0 else foldTo (J6a E i.toNat j.toNat) 199 (E.getD i.toNat []).length
theorem Jds {E : ZR} {i j : Nat} {n : Nat} (hi : ∀ a, a < n → 0 ≤ (E.getD i []).getD a 0) (hj : ∀ a, a < n → 0 ≤ (E.getD j []).getD a 0) : 0 ≤ foldTo (J6a E i j) 199 n ∧ foldTo (J6a E i j) 199 n ≤ 199 := by
  refine foldTo_inv (P := fun _ x => 0 ≤ x ∧ x ≤ 199) n (by omega) fun k x hk hx => ?_
  have := hi k hk
  have := hj k hk
  unfold J6a
  omega
def Jc0 (f : FuncId) (ds : List D) : Orc := .no
def JbL (a : Int) (b : Int) : Ann := .none
def J88 (a : Int) (b : Int) : Prop :=
  (((decide (a < b)) = true → ((a = (min a b)))) ∧ ((decide (a < b)) = false → ((b = (min a b)))))
theorem Jbf (a : Int) (b : Int)   : J88 a b := by
  unfold J88
  refine ⟨?_, ?_⟩
  ·intro b1
   try simp only [nrmT] at b1
   omega
  intro b2
  try simp only [nrmT] at b2
  omega
theorem J54 (a : Int) (b : Int)  : PC Tryz.prog 161 [.int .i64 a, .int .i64 b] (.one (.d (.int .i64 (min a b)))) :=
  pc_wf @Tryz.call161 fun _ => pc_by (by kernel_rfl) Tryz.func161 @Tryz.call161 (by kernel_rfl) Jc0 (JbL a b) (by kernel_rfl) (Jbf a b) (by kernel_rfl)
def J4u : List D → Orc := orcN [none, none] fun ds => match ds with
  | [.int .i64 a, .int .i64 b] => some (.one (.d (.int .i64 (min a b))))
  | _ => none
abbrev J4d (U : ZI) (E : ZR) (i : Int) (j : Int) (best : Int) (a : Int) : Prop := (1 ≤ a) ∧ (a ≤ (U.length : Int)) ∧ (best = foldTo (J6a E i.toNat j.toNat) 199 a.toNat) ∧ (i ≠ j)
abbrev J4g (U : ZI) (E : ZR) (i : Int) (j : Int) (best : Int) (a : Int) : Nat := (U.length - a).toNat
def Jdn (f : FuncId) (ds : List D) : Orc := bif Nat.beq f 161 then J4u ds else .no
def Jde (U : ZI) (E : ZR) (i : Int) (j : Int) : Ann := .two (.none) (.two (.none) (.two (.none) (.two (.two (.none) (.loop (cut2 (fun (best : Int) (a : Int) => J4d U E i j best a) (fun (best : Int) (a : Int) => [(1, .d false (.int .i64 i)), (2, .d false (.int .i64 j)), (3, .ptr 3 0), (7, .d true (.int .i64 best)), (8, .d true (.int .i64 a))]) (fun (best : Int) (a : Int) => [(3, .box 27 [.d false (.sl (.ints U)), .d false (.sl (.rows E))])])) (fun g => J4g U E i j g.1 g.2) (fun _ => .none))) (.none))))
def Jak (U : ZI) (E : ZR) (i : Int) (j : Int) : Prop :=
  (((i == j) = true → (((0 : Int) = (Je E i j)))) ∧ ((i == j) = false → (true = true) ∧ ((0 : Int) ≤ i) ∧ ((i : Int) < E.length) ∧ (i.toNat < E.length) ∧ ((0 : Int) ≤ 0) ∧ ((0 : Int) < (E.getD i.toNat []).length) ∧ (0 < (E.getD i.toNat []).length) ∧ ((0 : Int) ≤ j) ∧ ((j : Int) < E.length) ∧ (j.toNat < E.length) ∧ ((0 : Int) ≤ 0) ∧ ((0 : Int) < (E.getD j.toNat []).length) ∧ (0 < (E.getD j.toNat []).length) ∧ (I6 (((E.getD i.toNat []).getD 0 0) + ((E.getD j.toNat []).getD 0 0))) ∧ ((∃ best' : Int, ∃ a' : Int, (J4d U E i j best' a') ∧ (i = i) ∧ (j = j) ∧ ((((E.getD i.toNat []).getD 0 0) + ((E.getD j.toNat []).getD 0 0)) = best') ∧ ((1 : Int) = a') ∧ (U = U) ∧ (E = E)) ∧ (∀ best : Int, ∀ a : Int, (J4d U E i j best a) → (((decide (a < (U.length : Int))) = true → (true = true) ∧ ((0 : Int) ≤ i) ∧ ((i : Int) < E.length) ∧ (i.toNat < E.length) ∧ ((0 : Int) ≤ a) ∧ ((a : Int) < (E.getD i.toNat []).length) ∧ (a.toNat < (E.getD i.toNat []).length) ∧ ((0 : Int) ≤ j) ∧ ((j : Int) < E.length) ∧ (j.toNat < E.length) ∧ ((0 : Int) ≤ a) ∧ ((a : Int) < (E.getD j.toNat []).length) ∧ (a.toNat < (E.getD j.toNat []).length) ∧ (I6 (((E.getD i.toNat []).getD a.toNat 0) + ((E.getD j.toNat []).getD a.toNat 0))) ∧ (PC Tryz.prog 161 [.int .i64 best, .int .i64 (((E.getD i.toNat []).getD a.toNat 0) + ((E.getD j.toNat []).getD a.toNat 0))] (.one (.d (.int .i64 (min best (((E.getD i.toNat []).getD a.toNat 0) + ((E.getD j.toNat []).getD a.toNat 0))))))) ∧ (I6 (a + 1)) ∧ (∃ best' : Int, ∃ a' : Int, (J4d U E i j best' a') ∧ (J4g U E i j best' a' < J4g U E i j best a) ∧ (i = i) ∧ (j = j) ∧ ((min best (((E.getD i.toNat []).getD a.toNat 0) + ((E.getD j.toNat []).getD a.toNat 0))) = best') ∧ ((a + 1) = a') ∧ (U = U) ∧ (E = E))) ∧ ((decide (a < (U.length : Int))) = false → ((best = (Je E i j)))))))))
theorem JcJ (U : ZI) (E : ZR) (i : Int) (j : Int) (hg : J0 U E = true) (hi : 0 ≤ i ∧ i < (E.length : Int)) (hj : 0 ≤ j ∧ j < (E.length : Int)) (w_Open : (U.length : Int) ≤ 9223372036854775807) (w_Dist : (E.length : Int) ≤ 9223372036854775807) (v_Dist : ∀ x9 ∈ E, (x9.length : Int) ≤ 9223372036854775807) : Jak U E i j := by
  unfold Jak
  obtain ⟨g1, g2, g3⟩ := Jb hg
  obtain ⟨ri, ci⟩ := J8 (i := i.toNat) hg (by omega)
  obtain ⟨rj, cj⟩ := J8 (i := j.toNat) hg (by omega)
  refine ⟨?_, ?_⟩
  ·intro b1
   try simp only [nrmT] at b1
   unfold Je; rw [if_pos (by omega)]
  intro b2
  try simp only [nrmT] at b2
  refine ⟨rfl, ?_, ?_, ?_, ?_, ?_, ?_, ?_, ?_, ?_, ?_, ?_, ?_, ?_, ?_, ?_⟩
  ·omega
  ·omega
  ·omega
  ·omega
  ·omega
  ·omega
  ·omega
  ·omega
  ·omega
  ·omega
  ·omega
  ·omega
  ·have := ci 0 (by omega)
   have := cj 0 (by omega)
   omega
  ·refine ⟨(((E.getD i.toNat []).getD 0 0) + ((E.getD j.toNat []).getD 0 0)), 1, ?_⟩
   refine ⟨?_, rfl, rfl, rfl, rfl, rfl, rfl⟩
   ·refine ⟨?_, ?_, ?_, ?_⟩
    ·omega
    ·omega
    ·have := ci 0 (by omega)
     have := cj 0 (by omega)
     show _ = min 199 _
     simp only [show (0 : Int).toNat = 0 from rfl]
     omega
    ·omega
  intro best a hJ
  obtain ⟨h1, h2, h3, h4⟩ := hJ
  refine ⟨?_, ?_⟩
  ·intro b3
   try simp only [nrmT] at b3
   refine ⟨rfl, ?_, ?_, ?_, ?_, ?_, ?_, ?_, ?_, ?_, ?_, ?_, ?_, ?_, J54 best (((E.getD i.toNat []).getD a.toNat 0) + ((E.getD j.toNat []).getD a.toNat 0)), ?_, ?_⟩
   ·omega
   ·omega
   ·omega
   ·omega
   ·omega
   ·omega
   ·omega
   ·omega
   ·omega
   ·omega
   ·omega
   ·omega
   ·have := ci a.toNat (by omega)
    have := cj a.toNat (by omega)
    omega
   ·omega
   refine ⟨(min best (((E.getD i.toNat []).getD a.toNat 0) + ((E.getD j.toNat []).getD a.toNat 0))), (a + 1), ?_⟩
   refine ⟨?_, ?_, rfl, rfl, rfl, rfl, rfl, rfl⟩
   ·refine ⟨?_, ?_, ?_, ?_⟩
    ·omega
    ·omega
    ·rw [foldTo_step (by omega), ← h3]; rfl
    ·omega
   (simp only [J4g]; omega)
  intro b4
  try simp only [nrmT] at b4
  unfold Je
  rw [if_neg h4, h3, ri]
  have : a.toNat = U.length := by omega
  rw [this]
theorem Jcs (U : ZI) (E : ZR) (i : Int) (j : Int) (hg : J0 U E = true) (hi : 0 ≤ i ∧ i < (E.length : Int)) (hj : 0 ≤ j ∧ j < (E.length : Int)) : PC Tryz.prog 170 [.agg [.sl (.ints U), .sl (.rows E)], .int .i64 i, .int .i64 j] (.one (.d (.int .i64 (Je E i j)))) :=
  pc_wf @Tryz.call170 fun hw => pc_by (by kernel_rfl) Tryz.func170 @Tryz.call170 (by kernel_rfl) Jdn (Jde U E i j) (by kernel_rfl) (JcJ U E i j hg hi hj hw.1.1 hw.1.2.1.1 hw.1.2.1.2) (by kernel_rfl)
def Jcb : List D → Orc := orcN [none, none, none] fun ds => match ds with
  | [.agg [.sl (.ints U), .sl (.rows E)], .int .i64 i, .int .i64 j] => some (.one (.d (.int .i64 (Je E i j))))
  | _ => none
abbrev J1I (U : ZI) (E : ZR) (i : Int) (j : Int) (best : Int) (a : Int) : Prop := (0 ≤ a) ∧ (a ≤ (U.length : Int)) ∧ (best = foldTo (J6a E i.toNat j.toNat) 199 a.toNat) ∧ (i ≠ j)
abbrev J1E (U : ZI) (E : ZR) (i : Int) (j : Int) (best : Int) (a : Int) : Nat := (U.length - a).toNat
def JaL (f : FuncId) (ds : List D) : Orc := .no
def JaT (U : ZI) (E : ZR) (i : Int) (j : Int) : Ann := .two (.none) (.two (.none) (.two (.none) (.two (.two (.none) (.loop (cut2 (fun (best : Int) (a : Int) => J1I U E i j best a) (fun (best : Int) (a : Int) => [(2, .d false (.int .i64 j)), (3, .ptr 3 0), (7, .d true (.int .i64 best)), (17, .d false (.sl (.ints (E.getD i.toNat [])))), (18, .d true (.int .i64 (((E.getD i.toNat []).length) : Int))), (19, .d true (.int .i64 a))]) (fun (best : Int) (a : Int) => [(3, .box 27 [.d false (.sl (.ints U)), .d false (.sl (.rows E))])])) (fun g => J1E U E i j g.1 g.2) (fun _ => .none))) (.none))))
def J6C (U : ZI) (E : ZR) (i : Int) (j : Int) : Prop :=
  (((i == j) = true → (((0 : Int) = (Je E i j)))) ∧ ((i == j) = false → ((0 : Int) ≤ i) ∧ ((i : Int) < E.length) ∧ (i.toNat < E.length) ∧ ((∃ best' : Int, ∃ a' : Int, (J1I U E i j best' a') ∧ (j = j) ∧ ((199 : Int) = best') ∧ ((E.getD i.toNat []) = (E.getD i.toNat [])) ∧ ((((E.getD i.toNat []).length) : Int) = (((E.getD i.toNat []).length) : Int)) ∧ ((0 : Int) = a') ∧ (U = U) ∧ (E = E)) ∧ (∀ best : Int, ∀ a : Int, (J1I U E i j best a) → (((decide (a < (((E.getD i.toNat []).length) : Int))) = true → ((0 : Int) ≤ a) ∧ ((a : Int) < (E.getD i.toNat []).length) ∧ (a.toNat < (E.getD i.toNat []).length) ∧ ((0 : Int) ≤ j) ∧ ((j : Int) < E.length) ∧ (j.toNat < E.length) ∧ ((0 : Int) ≤ a) ∧ ((a : Int) < (E.getD j.toNat []).length) ∧ (a.toNat < (E.getD j.toNat []).length) ∧ (I6 (((E.getD i.toNat []).getD a.toNat 0) + ((E.getD j.toNat []).getD a.toNat 0))) ∧ (I6 (a + 1)) ∧ (∃ best' : Int, ∃ a' : Int, (J1I U E i j best' a') ∧ (J1E U E i j best' a' < J1E U E i j best a) ∧ (j = j) ∧ ((min best (((E.getD i.toNat []).getD a.toNat 0) + ((E.getD j.toNat []).getD a.toNat 0))) = best') ∧ ((E.getD i.toNat []) = (E.getD i.toNat [])) ∧ ((((E.getD i.toNat []).length) : Int) = (((E.getD i.toNat []).length) : Int)) ∧ ((a + 1) = a') ∧ (U = U) ∧ (E = E))) ∧ ((decide (a < (((E.getD i.toNat []).length) : Int))) = false → ((best = (Je E i j)))))))))
theorem Ja2 (U : ZI) (E : ZR) (i : Int) (j : Int) (hg : J0 U E = true) (hi : 0 ≤ i ∧ i < (E.length : Int)) (hj : 0 ≤ j ∧ j < (E.length : Int)) (w_Open : (U.length : Int) ≤ 9223372036854775807) (w_Dist : (E.length : Int) ≤ 9223372036854775807) (v_Dist : ∀ x9 ∈ E, (x9.length : Int) ≤ 9223372036854775807) : J6C U E i j := by
  unfold J6C
  obtain ⟨g1, g2, g3⟩ := Jb hg
  obtain ⟨ri, ci⟩ := J8 (i := i.toNat) hg (by omega)
  obtain ⟨rj, cj⟩ := J8 (i := j.toNat) hg (by omega)
  refine ⟨?_, ?_⟩
  ·intro b1
   try simp only [nrmT] at b1
   unfold Je; rw [if_pos (by omega)]
  intro b2
  try simp only [nrmT] at b2
  refine ⟨?_, ?_, ?_, ?_, ?_⟩
  ·omega
  ·omega
  ·omega
  ·refine ⟨199, 0, ?_⟩
   refine ⟨?_, rfl, rfl, rfl, rfl, rfl, rfl, rfl⟩
   ·refine ⟨?_, ?_, ?_, ?_⟩
    ·omega
    ·omega
    ·rfl
    ·omega
  intro best a hJ
  obtain ⟨h1, h2, h3, h4⟩ := hJ
  refine ⟨?_, ?_⟩
  ·intro b3
   try simp only [nrmT] at b3
   refine ⟨?_, ?_, ?_, ?_, ?_, ?_, ?_, ?_, ?_, ?_, ?_, ?_⟩
   ·omega
   ·omega
   ·omega
   ·omega
   ·omega
   ·omega
   ·omega
   ·omega
   ·omega
   ·have := ci a.toNat (by omega)
    have := cj a.toNat (by omega)
    omega
   ·omega
   refine ⟨(min best (((E.getD i.toNat []).getD a.toNat 0) + ((E.getD j.toNat []).getD a.toNat 0))), (a + 1), ?_⟩
   refine ⟨?_, ?_, rfl, rfl, rfl, rfl, rfl, rfl, rfl⟩
   ·refine ⟨?_, ?_, ?_, ?_⟩
    ·omega
    ·omega
    ·rw [foldTo_step (by omega), ← h3]; rfl
    ·omega
   (simp only [J1E]; omega)
  intro b4
  try simp only [nrmT] at b4
  unfold Je
  rw [if_neg h4, h3, ri]
  have : a.toNat = U.length := by omega
  rw [this]
theorem J9K (U : ZI) (E : ZR) (i : Int) (j : Int) (hg : J0 U E = true) (hi : 0 ≤ i ∧ i < (E.length : Int)) (hj : 0 ≤ j ∧ j < (E.length : Int)) : PC Tryz.prog 169 [.agg [.sl (.ints U), .sl (.rows E)], .int .i64 i, .int .i64 j] (.one (.d (.int .i64 (Je E i j)))) :=
  pc_wf @Tryz.call169 fun hw => pc_by (by kernel_rfl) Tryz.func169 @Tryz.call169 (by kernel_rfl) JaL (JaT U E i j) (by kernel_rfl) (Ja2 U E i j hg hi hj hw.1.1 hw.1.2.1.1 hw.1.2.1.2) (by kernel_rfl)
def J95 : List D → Orc := orcN [none, none, none] fun ds => match ds with
  | [.agg [.sl (.ints U), .sl (.rows E)], .int .i64 i, .int .i64 j] => some (.one (.d (.int .i64 (Je E i j))))
  | _ => none
def JdM (f : FuncId) (ds : List D) : Orc := bif Nat.beq f 112 then J0K ds else bif Nat.beq f 129 then J4K ds else bif Nat.beq f 170 then Jcb ds else .no
def Jdy (U : ZI) (E : ZR) (i : Int) (j : Int) : Ann := .none
def Jav (U : ZI) (E : ZR) (i : Int) (j : Int) : Prop :=
  (PC Tryz.prog 112 [.agg [.sl (.ints U), .sl (.rows E)]] (.one (.d (.bool (J0 U E))))) ∧ ((!(!(J0 U E))) = true → (!(!(J0 U E))) = true) ∧ ((!(!(J0 U E))) = true → (!(!(J0 U E))) = true) ∧ ((!(!(J0 U E))) = true → (!(!(J0 U E))) = true) ∧ (((!(!(J0 U E))) = true → I6 ((E.length : Int) - 1))) ∧ ((!(!(J0 U E))) = true → (!(!(J0 U E))) = true) ∧ ((!(!(J0 U E))) = true → (!(!(J0 U E))) = true) ∧ ((!(!(J0 U E))) = true → PC Tryz.prog 129 [.int .i64 i, .int .i64 0, .int .i64 ((E.length : Int) - 1)] (.one (.d (.bool (inB i 0 ((E.length : Int) - 1)))))) ∧ ((!(!(J0 U E))) = true → (!(!(J0 U E))) = true) ∧ (true = true) ∧ (((!(J0 U E)) = true → true = true)) ∧ (((!(J0 U E)) = false → (!(!(J0 U E))) = true)) ∧ ((!(cond (!(J0 U E)) true (!(inB i 0 ((E.length : Int) - 1))))) = true → (!(cond (!(J0 U E)) true (!(inB i 0 ((E.length : Int) - 1))))) = true) ∧ ((!(cond (!(J0 U E)) true (!(inB i 0 ((E.length : Int) - 1))))) = true → (!(cond (!(J0 U E)) true (!(inB i 0 ((E.length : Int) - 1))))) = true) ∧ ((!(cond (!(J0 U E)) true (!(inB i 0 ((E.length : Int) - 1))))) = true → (!(cond (!(J0 U E)) true (!(inB i 0 ((E.length : Int) - 1))))) = true) ∧ (((!(cond (!(J0 U E)) true (!(inB i 0 ((E.length : Int) - 1))))) = true → I6 ((E.length : Int) - 1))) ∧ ((!(cond (!(J0 U E)) true (!(inB i 0 ((E.length : Int) - 1))))) = true → (!(cond (!(J0 U E)) true (!(inB i 0 ((E.length : Int) - 1))))) = true) ∧ ((!(cond (!(J0 U E)) true (!(inB i 0 ((E.length : Int) - 1))))) = true → (!(cond (!(J0 U E)) true (!(inB i 0 ((E.length : Int) - 1))))) = true) ∧ ((!(cond (!(J0 U E)) true (!(inB i 0 ((E.length : Int) - 1))))) = true → PC Tryz.prog 129 [.int .i64 j, .int .i64 0, .int .i64 ((E.length : Int) - 1)] (.one (.d (.bool (inB j 0 ((E.length : Int) - 1)))))) ∧ ((!(cond (!(J0 U E)) true (!(inB i 0 ((E.length : Int) - 1))))) = true → (!(cond (!(J0 U E)) true (!(inB i 0 ((E.length : Int) - 1))))) = true) ∧ (true = true) ∧ (((cond (!(J0 U E)) true (!(inB i 0 ((E.length : Int) - 1)))) = true → true = true)) ∧ (((cond (!(J0 U E)) true (!(inB i 0 ((E.length : Int) - 1)))) = false → (!(cond (!(J0 U E)) true (!(inB i 0 ((E.length : Int) - 1))))) = true)) ∧ (((cond (cond (!(J0 U E)) true (!(inB i 0 ((E.length : Int) - 1)))) true (!(inB j 0 ((E.length : Int) - 1)))) = true → (((0 : Int) = (if J0 U E && inB i 0 ((E.length : Int) - 1) && inB j 0 ((E.length : Int) - 1) then Je E i j else 0)) ∧ (false = (J0 U E && inB i 0 ((E.length : Int) - 1) && inB j 0 ((E.length : Int) - 1))))) ∧ ((cond (cond (!(J0 U E)) true (!(inB i 0 ((E.length : Int) - 1)))) true (!(inB j 0 ((E.length : Int) - 1)))) = false → (PC Tryz.prog 170 [.agg [.sl (.ints U), .sl (.rows E)], .int .i64 i, .int .i64 j] (.one (.d (.int .i64 (Je E i j))))) ∧ (((Je E i j) = (if J0 U E && inB i 0 ((E.length : Int) - 1) && inB j 0 ((E.length : Int) - 1) then Je E i j else 0)) ∧ (true = (J0 U E && inB i 0 ((E.length : Int) - 1) && inB j 0 ((E.length : Int) - 1))))))
theorem JcF (U : ZI) (E : ZR) (i : Int) (j : Int)  (w_Open : (U.length : Int) ≤ 9223372036854775807) (w_Dist : (E.length : Int) ≤ 9223372036854775807) (v_Dist : ∀ x9 ∈ E, (x9.length : Int) ≤ 9223372036854775807) : Jav U E i j := by
  unfold Jav
  refine ⟨J1a U E, id, id, id, ?_, id, id, fun _ => J4n i 0 ((E.length : Int) - 1), id, rfl, fun _ => rfl, ?_, id, id, id, ?_, id, id, fun _ => J4n j 0 ((E.length : Int) - 1), id, rfl, fun _ => rfl, ?_, ?_, ?_⟩
  ·intro _; omega
  ·(simp_all; done)
  ·intro _; omega
  ·intro h; rw [h]; rfl
  ·intro b1
   refine ⟨?_, ?_⟩
   ·have hq : (J0 U E && inB i 0 ((E.length : Int) - 1) && inB j 0 ((E.length : Int) - 1)) = false := by
      revert b1; cases J0 U E <;> cases inB i 0 ((E.length : Int) - 1) <;> cases inB j 0 ((E.length : Int) - 1) <;> simp
    rw [hq]; rfl
   have hq : (J0 U E && inB i 0 ((E.length : Int) - 1) && inB j 0 ((E.length : Int) - 1)) = false := by
     revert b1; cases J0 U E <;> cases inB i 0 ((E.length : Int) - 1) <;> cases inB j 0 ((E.length : Int) - 1) <;> simp
   exact hq.symm
  intro b2
  refine ⟨?_, ?_, ?_⟩
  ·refine Jcs U E i j ?_ ?_ ?_
   ·have hq : J0 U E = true ∧ inB i 0 ((E.length : Int) - 1) = true ∧ inB j 0 ((E.length : Int) - 1) = true := by
      revert b2; cases J0 U E <;> cases inB i 0 ((E.length : Int) - 1) <;> cases inB j 0 ((E.length : Int) - 1) <;> simp
    exact hq.1
   ·have hq : J0 U E = true ∧ inB i 0 ((E.length : Int) - 1) = true ∧ inB j 0 ((E.length : Int) - 1) = true := by
      revert b2; cases J0 U E <;> cases inB i 0 ((E.length : Int) - 1) <;> cases inB j 0 ((E.length : Int) - 1) <;> simp
    have := J2E hq.2.1
    omega
   ·have hq : J0 U E = true ∧ inB i 0 ((E.length : Int) - 1) = true ∧ inB j 0 ((E.length : Int) - 1) = true := by
      revert b2; cases J0 U E <;> cases inB i 0 ((E.length : Int) - 1) <;> cases inB j 0 ((E.length : Int) - 1) <;> simp
    have := J2E hq.2.2
    omega
  ·have hq : J0 U E = true ∧ inB i 0 ((E.length : Int) - 1) = true ∧ inB j 0 ((E.length : Int) - 1) = true := by
     revert b2; cases J0 U E <;> cases inB i 0 ((E.length : Int) - 1) <;> cases inB j 0 ((E.length : Int) - 1) <;> simp
   rw [hq.1, hq.2.1, hq.2.2]; rfl
  have hq : J0 U E = true ∧ inB i 0 ((E.length : Int) - 1) = true ∧ inB j 0 ((E.length : Int) - 1) = true := by
    revert b2; cases J0 U E <;> cases inB i 0 ((E.length : Int) - 1) <;> cases inB j 0 ((E.length : Int) - 1) <;> simp
  rw [hq.1, hq.2.1, hq.2.2]; rfl
theorem Jcr (U : ZI) (E : ZR) (i : Int) (j : Int)  : PC Tryz.prog 79 [.agg [.sl (.ints U), .sl (.rows E)], .int .i64 i, .int .i64 j] (.tup [.d (.int .i64 (if J0 U E && inB i 0 ((E.length : Int) - 1) && inB j 0 ((E.length : Int) - 1) then Je E i j else 0)), .d (.bool (J0 U E && inB i 0 ((E.length : Int) - 1) && inB j 0 ((E.length : Int) - 1)))]) :=
  pc_wf @Tryz.call79 fun hw => pc_by (by kernel_rfl) Tryz.func79 @Tryz.call79 (by kernel_rfl) JdM (Jdy U E i j) (by kernel_rfl) (JcF U E i j hw.1.1 hw.1.2.1.1 hw.1.2.1.2) (by kernel_rfl)
def Jc6 : List D → Orc := orcN [none, none, none] fun ds => match ds with
  | [.agg [.sl (.ints U), .sl (.rows E)], .int .i64 i, .int .i64 j] => some (.tup [.d (.int .i64 (if J0 U E && inB i 0 ((E.length : Int) - 1) && inB j 0 ((E.length : Int) - 1) then Je E i j else 0)), .d (.bool (J0 U E && inB i 0 ((E.length : Int) - 1) && inB j 0 ((E.length : Int) - 1)))])
  | _ => none
def Jdt (f : FuncId) (ds : List D) : Orc := bif Nat.beq f 111 then J2O ds else bif Nat.beq f 168 then J3a ds else bif Nat.beq f 169 then J95 ds else .no
def Jdu (U : ZI) (E : ZR) (i : Int) (j : Int) : Ann := .two (.none) (.two (.two (.reg [(6, .frz)]) (.none)) (.none))
def Jan (U : ZI) (E : ZR) (i : Int) (j : Int) : Prop :=
  (PC Tryz.prog 111 [.agg [.sl (.ints U), .sl (.rows E)]] (.one (.d (.bool (J0 U E))))) ∧ ((!(!(J0 U E))) = true → (!(!(J0 U E))) = true) ∧ ((!(!(J0 U E))) = true → (!(!(J0 U E))) = true) ∧ ((!(!(J0 U E))) = true → (!(!(J0 U E))) = true) ∧ ((!(!(J0 U E))) = true → (!(!(J0 U E))) = true) ∧ ((!(!(J0 U E))) = true → (!(!(J0 U E))) = true) ∧ (((!(!(J0 U E))) = true → I6 ((E.length : Int) - 1))) ∧ ((!(!(J0 U E))) = true → (!(!(J0 U E))) = true) ∧ ((!(!(J0 U E))) = true → (!(!(J0 U E))) = true) ∧ ((!(!(J0 U E))) = true → PC Tryz.prog 168 [.sl (.ints ([i, j])), .int .i64 0, .int .i64 ((E.length : Int) - 1)] (.one (.d (.bool (([i, j]).all (fun x => inB x 0 ((E.length : Int) - 1))))))) ∧ ((!(!(J0 U E))) = true → (!(!(J0 U E))) = true) ∧ (true = true) ∧ (((!(J0 U E)) = true → true = true)) ∧ (((!(J0 U E)) = false → (!(!(J0 U E))) = true)) ∧ (((cond (!(J0 U E)) true (!(([i, j]).all (fun x => inB x 0 ((E.length : Int) - 1))))) = true → (((0 : Int) = (if J0 U E && inB i 0 ((E.length : Int) - 1) && inB j 0 ((E.length : Int) - 1) then Je E i j else 0)) ∧ (false = (J0 U E && inB i 0 ((E.length : Int) - 1) && inB j 0 ((E.length : Int) - 1))))) ∧ ((cond (!(J0 U E)) true (!(([i, j]).all (fun x => inB x 0 ((E.length : Int) - 1))))) = false → (PC Tryz.prog 169 [.agg [.sl (.ints U), .sl (.rows E)], .int .i64 i, .int .i64 j] (.one (.d (.int .i64 (Je E i j))))) ∧ (((Je E i j) = (if J0 U E && inB i 0 ((E.length : Int) - 1) && inB j 0 ((E.length : Int) - 1) then Je E i j else 0)) ∧ (true = (J0 U E && inB i 0 ((E.length : Int) - 1) && inB j 0 ((E.length : Int) - 1))))))
theorem JcG (U : ZI) (E : ZR) (i : Int) (j : Int)  (w_Open : (U.length : Int) ≤ 9223372036854775807) (w_Dist : (E.length : Int) ≤ 9223372036854775807) (v_Dist : ∀ x9 ∈ E, (x9.length : Int) ≤ 9223372036854775807) : Jan U E i j := by
  unfold Jan
  refine ⟨J3Q U E, id, id, id, id, id, ?_, id, id, fun _ => J3s ([i, j]) 0 ((E.length : Int) - 1), id, rfl, fun _ => rfl, ?_, ?_, ?_⟩
  ·intro _; omega
  ·(simp_all; done)
  ·intro b1
   refine ⟨?_, ?_⟩
   ·have hq : (J0 U E && inB i 0 ((E.length : Int) - 1) && inB j 0 ((E.length : Int) - 1)) = false := by
      revert b1; simp only [List.all_cons, List.all_nil, Bool.and_true]; cases J0 U E <;> cases inB i 0 ((E.length : Int) - 1) <;> cases inB j 0 ((E.length : Int) - 1) <;> simp
    rw [hq]; rfl
   have hq : (J0 U E && inB i 0 ((E.length : Int) - 1) && inB j 0 ((E.length : Int) - 1)) = false := by
     revert b1; simp only [List.all_cons, List.all_nil, Bool.and_true]; cases J0 U E <;> cases inB i 0 ((E.length : Int) - 1) <;> cases inB j 0 ((E.length : Int) - 1) <;> simp
   exact hq.symm
  intro b2
  refine ⟨?_, ?_, ?_⟩
  ·refine J9K U E i j ?_ ?_ ?_
   ·have hq : J0 U E = true ∧ inB i 0 ((E.length : Int) - 1) = true ∧ inB j 0 ((E.length : Int) - 1) = true := by
      revert b2; simp only [List.all_cons, List.all_nil, Bool.and_true]; cases J0 U E <;> cases inB i 0 ((E.length : Int) - 1) <;> cases inB j 0 ((E.length : Int) - 1) <;> simp
    exact hq.1
   ·have hq : J0 U E = true ∧ inB i 0 ((E.length : Int) - 1) = true ∧ inB j 0 ((E.length : Int) - 1) = true := by
      revert b2; simp only [List.all_cons, List.all_nil, Bool.and_true]; cases J0 U E <;> cases inB i 0 ((E.length : Int) - 1) <;> cases inB j 0 ((E.length : Int) - 1) <;> simp
    have := J2E hq.2.1
    omega
   ·have hq : J0 U E = true ∧ inB i 0 ((E.length : Int) - 1) = true ∧ inB j 0 ((E.length : Int) - 1) = true := by
      revert b2; simp only [List.all_cons, List.all_nil, Bool.and_true]; cases J0 U E <;> cases inB i 0 ((E.length : Int) - 1) <;> cases inB j 0 ((E.length : Int) - 1) <;> simp
    have := J2E hq.2.2
    omega
  ·have hq : J0 U E = true ∧ inB i 0 ((E.length : Int) - 1) = true ∧ inB j 0 ((E.length : Int) - 1) = true := by
     revert b2; simp only [List.all_cons, List.all_nil, Bool.and_true]; cases J0 U E <;> cases inB i 0 ((E.length : Int) - 1) <;> cases inB j 0 ((E.length : Int) - 1) <;> simp
   rw [hq.1, hq.2.1, hq.2.2]; rfl
  have hq : J0 U E = true ∧ inB i 0 ((E.length : Int) - 1) = true ∧ inB j 0 ((E.length : Int) - 1) = true := by
    revert b2; simp only [List.all_cons, List.all_nil, Bool.and_true]; cases J0 U E <;> cases inB i 0 ((E.length : Int) - 1) <;> cases inB j 0 ((E.length : Int) - 1) <;> simp
  rw [hq.1, hq.2.1, hq.2.2]; rfl
theorem J9l (U : ZI) (E : ZR) (i : Int) (j : Int)  : PC Tryz.prog 78 [.agg [.sl (.ints U), .sl (.rows E)], .int .i64 i, .int .i64 j] (.tup [.d (.int .i64 (if J0 U E && inB i 0 ((E.length : Int) - 1) && inB j 0 ((E.length : Int) - 1) then Je E i j else 0)), .d (.bool (J0 U E && inB i 0 ((E.length : Int) - 1) && inB j 0 ((E.length : Int) - 1)))]) :=
  pc_wf @Tryz.call78 fun hw => pc_by (by kernel_rfl) Tryz.func78 @Tryz.call78 (by kernel_rfl) Jdt (Jdu U E i j) (by kernel_rfl) (JcG U E i j hw.1.1 hw.1.2.1.1 hw.1.2.1.2) (by kernel_rfl)
def Jc7 : List D → Orc := orcN [none, none, none] fun ds => match ds with
  | [.agg [.sl (.ints U), .sl (.rows E)], .int .i64 i, .int .i64 j] => some (.tup [.d (.int .i64 (if J0 U E && inB i 0 ((E.length : Int) - 1) && inB j 0 ((E.length : Int) - 1) then Je E i j else 0)), .d (.bool (J0 U E && inB i 0 ((E.length : Int) - 1) && inB j 0 ((E.length : Int) - 1)))])
  | _ => none
def J5o (f : Nat → Int) (n : Nat) : Int := foldTo (fun s k => s + f k) 0 n
theorem JbY {f : Nat → Int} {m : Int} (n : Nat) (h : ∀ k, k < n → 0 ≤ f k ∧ f k ≤ m) : 0 ≤ J5o f n ∧ J5o f n ≤ m * n := by
  induction n with
  | zero => simp [J5o, foldTo]
  | succ n ih =>
    have h1 := ih fun k hk => h k (Nat.lt_succ_of_lt hk)
    have h2 := h n (Nat.lt_succ_self n)
    have e : J5o f (n + 1) = J5o f n + f n := rfl
    rw [e]
    have e2 : m * ((n + 1 : Nat) : Int) = m * (n : Int) + m := by rw [Int.natCast_succ, Int.mul_add, Int.mul_one]
    rw [e2]
    omega
theorem J3i {xs : ZI} {lo hi : Int} (h : J2 xs lo hi = true) : ∀ k, k < xs.length → lo + k ≤ xs.getD k 0 ∧ xs.getD k 0 ≤ hi := by
  intro k
  induction k with
  | zero =>
    intro hk
    have h1 := allTo_iff.1 h 0 hk
    simp only [J1w, Bool.and_eq_true] at h1
    have := J2E h1.1
    omega
  | succ k ih =>
    intro hk
    have h0 := ih (by omega)
    have h1 := allTo_iff.1 h (k + 1) hk
    simp only [J1w, Bool.and_eq_true, Bool.or_eq_true, decide_eq_true_eq, Nat.add_sub_cancel] at h1
    have := J2E h1.1
    have h2 := h1.2
    omega
def J26 (E : ZR) (r : Int) (i j a : Nat) : Bool := decide ((E.getD i []).getD a 0 ≤ r) && decide ((E.getD j []).getD a 0 ≤ r)
def J05 (n : Nat) (E : ZR) (i j r : Int) : Bool := allTo (fun a => !(J26 E r i.toNat j.toNat a)) n
def J6 (n : Nat) (E : ZR) (clients : ZI) (r : Int) : Bool := allTo (fun i => allTo (fun k => J05 n E (clients.getD i 0) (clients.getD k 0) r) i) clients.length
def J0h (E : ZR) (clients : ZI) (r : Int) (a k : Nat) : Int := if (E.getD (clients.getD k 0).toNat []).getD a 0 ≤ r then 1 else 0
def J1F (E : ZR) (clients : ZI) (r : Int) (a k : Nat) : Int := J5o (J0h E clients r a) k
def Jea (n : Nat) (E : ZR) (clients : ZI) (r : Int) : Bool := allTo (fun a => decide (J1F E clients r a clients.length ≤ 1)) n
theorem J8c {E : ZR} {clients : ZI} {r : Int} {a k : Nat} : 0 ≤ J1F E clients r a k ∧ J1F E clients r a k ≤ 1 * k :=
  JbY k fun j _ => by unfold J0h; split <;> omega
theorem J15 {E : ZR} {clients : ZI} {r : Int} {a k : Nat} : J1F E clients r a (k + 1) = J1F E clients r a k + J0h E clients r a k := rfl
theorem J6e {E : ZR} {clients : ZI} {r : Int} {a : Nat} : ∀ n k, k ≤ n → J1F E clients r a k ≤ J1F E clients r a n
  | 0, k, h => by have : k = 0 := by omega
                  rw [this]; exact Int.le_refl _
  | n + 1, k, h => by
    by_cases e : k = n + 1
    · rw [e]; exact Int.le_refl _
    have h2 := J6e (E := E) (clients := clients) (r := r) (a := a) n k (by omega)
    rw [J15]
    unfold J0h
    split <;> omega
/-- A first near one, if there are any. -/
theorem Jaa {E : ZR} {clients : ZI} {r : Int} {a : Nat} : ∀ n, 0 < J1F E clients r a n → ∃ k, k < n ∧ J0h E clients r a k = 1
  | 0, h => by simp [J1F, J5o, foldTo] at h
  | n + 1, h => by
    by_cases e : J0h E clients r a n = 1
    · exact ⟨n, Nat.lt_succ_self n, e⟩
    rw [J15] at h
    have e2 : J0h E clients r a n = 0 := by
      unfold J0h at e ⊢
      split at e
      · omega
      rename_i h3; rw [if_neg h3]
    obtain ⟨k, hk, h4⟩ := Jaa (E := E) (clients := clients) (r := r) (a := a) n (by omega)
    exact ⟨k, by omega, h4⟩
theorem Jae {E : ZR} {clients : ZI} {r : Int} {a : Nat} : ∀ n, 1 < J1F E clients r a n → ∃ i k, i < n ∧ k < i ∧ J0h E clients r a i = 1 ∧ J0h E clients r a k = 1
  | 0, h => by simp [J1F, J5o, foldTo] at h
  | n + 1, h => by
    by_cases e : J0h E clients r a n = 1
    · rw [J15, e] at h
      obtain ⟨k, hk, h4⟩ := Jaa (E := E) (clients := clients) (r := r) (a := a) n (by omega)
      exact ⟨n, k, Nat.lt_succ_self n, hk, e, h4⟩
    rw [J15] at h
    have e2 : J0h E clients r a n = 0 := by
      unfold J0h at e ⊢
      split at e
      · omega
      rename_i h3; rw [if_neg h3]
    obtain ⟨i, k, h3, h4⟩ := Jae (E := E) (clients := clients) (r := r) (a := a) n (by omega)
    exact ⟨i, k, by omega, h4⟩
theorem J4T {E : ZR} {clients : ZI} {r : Int} {a k : Nat} : J0h E clients r a k = 1 ↔ (E.getD (clients.getD k 0).toNat []).getD a 0 ≤ r := by
  unfold J0h
  split <;> simp_all
theorem JdH (n : Nat) (E : ZR) (clients : ZI) (r : Int) : Jea n E clients r = J6 n E clients r := by
  rw [Bool.eq_iff_iff]
  unfold Jea J6
  simp only [allTo_iff, decide_eq_true_eq, J05]
  constructor
  · intro h i hi k hk a ha
    have h1 := h a ha
    simp only [J26, Bool.not_eq_true', Bool.and_eq_false_iff, decide_eq_false_iff_not]
    by_cases e1 : (E.getD (clients.getD i 0).toNat []).getD a 0 ≤ r
    · by_cases e2 : (E.getD (clients.getD k 0).toNat []).getD a 0 ≤ r
      · exfalso
        have m1 := J6e (E := E) (clients := clients) (r := r) (a := a) clients.length (i + 1) (by omega)
        have m2 := J6e (E := E) (clients := clients) (r := r) (a := a) i (k + 1) (by omega)
        have b := (J8c (E := E) (clients := clients) (r := r) (a := a) (k := k)).1
        rw [J15, J4T.2 e1] at m1
        rw [J15, J4T.2 e2] at m2
        omega
      · exact .inr e2
    exact .inl e1
  intro h a ha
  by_cases e : J1F E clients r a clients.length ≤ 1
  · exact e
  obtain ⟨i, k, h1, h2, h3, h4⟩ := Jae (E := E) (clients := clients) (r := r) (a := a) clients.length (by omega)
  have h5 := h i h1 k h2 a ha
  rw [J4T] at h3 h4
  simp only [J26, Bool.not_eq_true', Bool.and_eq_false_iff, decide_eq_false_iff_not] at h5
  rcases h5 with h5 | h5
  · exact absurd h3 h5
  exact absurd h4 h5
theorem Ja7 {xs : ZI} {n : Int} (h : J2 xs 0 (n - 1) = true) : ∀ c ∈ xs, 0 ≤ c ∧ c < n := by
  intro x hx
  obtain ⟨k, hk, rfl⟩ := List.mem_iff_getElem.1 hx
  have := J3i h k hk
  simp [hk] at this
  omega
abbrev J30 (U : ZI) (E : ZR) (i : Int) (j : Int) (r : Int) (a : Int) : Prop := (0 ≤ a) ∧ (a ≤ (U.length : Int)) ∧ (allTo (fun c => !(J26 E r i.toNat j.toNat c)) a.toNat = true)
abbrev J2T (U : ZI) (E : ZR) (i : Int) (j : Int) (r : Int) (a : Int) : Nat := (U.length - a).toNat
def JbP (f : FuncId) (ds : List D) : Orc := .no
def Jc3 (U : ZI) (E : ZR) (i : Int) (j : Int) (r : Int) : Ann := .two (.none) (.two (.two (.none) (.loop (cut1 (fun (a : Int) => J30 U E i j r a) (fun (a : Int) => [(1, .d false (.int .i64 i)), (2, .d false (.int .i64 j)), (3, .d false (.int .i64 r)), (4, .ptr 4 0), (9, .d true (.int .i64 a))]) (fun (a : Int) => [(4, .box 27 [.d false (.sl (.ints U)), .d false (.sl (.rows E))])])) (fun g => J2T U E i j r g) (fun _ => .none))) (.none))
def J8b (U : ZI) (E : ZR) (i : Int) (j : Int) (r : Int) : Prop :=
  ((∃ a' : Int, (J30 U E i j r a') ∧ (i = i) ∧ (j = j) ∧ (r = r) ∧ ((0 : Int) = a') ∧ (U = U) ∧ (E = E)) ∧ (∀ a : Int, (J30 U E i j r a) → (((decide (a < (U.length : Int))) = true → ((0 : Int) ≤ i) ∧ ((i : Int) < E.length) ∧ (i.toNat < E.length) ∧ ((0 : Int) ≤ a) ∧ ((a : Int) < (E.getD i.toNat []).length) ∧ (a.toNat < (E.getD i.toNat []).length) ∧ ((decide (((E.getD i.toNat []).getD a.toNat 0) ≤ r)) = true → (decide (((E.getD i.toNat []).getD a.toNat 0) ≤ r)) = true) ∧ ((decide (((E.getD i.toNat []).getD a.toNat 0) ≤ r)) = true → (decide (((E.getD i.toNat []).getD a.toNat 0) ≤ r)) = true) ∧ ((decide (((E.getD i.toNat []).getD a.toNat 0) ≤ r)) = true → (decide (((E.getD i.toNat []).getD a.toNat 0) ≤ r)) = true) ∧ (((decide (((E.getD i.toNat []).getD a.toNat 0) ≤ r)) = true → (0 : Int) ≤ j)) ∧ (((decide (((E.getD i.toNat []).getD a.toNat 0) ≤ r)) = true → (j : Int) < E.length)) ∧ ((decide (((E.getD i.toNat []).getD a.toNat 0) ≤ r)) = true → (decide (((E.getD i.toNat []).getD a.toNat 0) ≤ r)) = true) ∧ (((decide (((E.getD i.toNat []).getD a.toNat 0) ≤ r)) = true → j.toNat < E.length)) ∧ ((decide (((E.getD i.toNat []).getD a.toNat 0) ≤ r)) = true → (decide (((E.getD i.toNat []).getD a.toNat 0) ≤ r)) = true) ∧ ((decide (((E.getD i.toNat []).getD a.toNat 0) ≤ r)) = true → (decide (((E.getD i.toNat []).getD a.toNat 0) ≤ r)) = true) ∧ (((decide (((E.getD i.toNat []).getD a.toNat 0) ≤ r)) = true → (0 : Int) ≤ a)) ∧ (((decide (((E.getD i.toNat []).getD a.toNat 0) ≤ r)) = true → (a : Int) < (E.getD j.toNat []).length)) ∧ ((decide (((E.getD i.toNat []).getD a.toNat 0) ≤ r)) = true → (decide (((E.getD i.toNat []).getD a.toNat 0) ≤ r)) = true) ∧ (((decide (((E.getD i.toNat []).getD a.toNat 0) ≤ r)) = true → a.toNat < (E.getD j.toNat []).length)) ∧ ((decide (((E.getD i.toNat []).getD a.toNat 0) ≤ r)) = true → (decide (((E.getD i.toNat []).getD a.toNat 0) ≤ r)) = true) ∧ ((decide (((E.getD i.toNat []).getD a.toNat 0) ≤ r)) = true → (decide (((E.getD i.toNat []).getD a.toNat 0) ≤ r)) = true) ∧ (true = true) ∧ (((decide (((E.getD i.toNat []).getD a.toNat 0) ≤ r)) = true → (decide (((E.getD i.toNat []).getD a.toNat 0) ≤ r)) = true)) ∧ (((decide (((E.getD i.toNat []).getD a.toNat 0) ≤ r)) = false → true = true)) ∧ (((cond (decide (((E.getD i.toNat []).getD a.toNat 0) ≤ r)) (decide (((E.getD j.toNat []).getD a.toNat 0) ≤ r)) false) = true → ((false = (J05 U.length E i j r)))) ∧ ((cond (decide (((E.getD i.toNat []).getD a.toNat 0) ≤ r)) (decide (((E.getD j.toNat []).getD a.toNat 0) ≤ r)) false) = false → (I6 (a + 1)) ∧ (∃ a' : Int, (J30 U E i j r a') ∧ (J2T U E i j r a' < J2T U E i j r a) ∧ (i = i) ∧ (j = j) ∧ (r = r) ∧ ((a + 1) = a') ∧ (U = U) ∧ (E = E))))) ∧ ((decide (a < (U.length : Int))) = false → ((true = (J05 U.length E i j r)))))))
theorem Jbh (U : ZI) (E : ZR) (i : Int) (j : Int) (r : Int) (hg : J0 U E = true) (hi : 0 ≤ i ∧ i < (E.length : Int)) (hj : 0 ≤ j ∧ j < (E.length : Int)) (w_Open : (U.length : Int) ≤ 9223372036854775807) (w_Dist : (E.length : Int) ≤ 9223372036854775807) (v_Dist : ∀ x9 ∈ E, (x9.length : Int) ≤ 9223372036854775807) : J8b U E i j r := by
  unfold J8b
  obtain ⟨g1, g2, g3⟩ := Jb hg
  obtain ⟨ri, ci⟩ := J8 (i := i.toNat) hg (by omega)
  obtain ⟨rj, cj⟩ := J8 (i := j.toNat) hg (by omega)
  refine ⟨?_, ?_⟩
  ·refine ⟨0, ?_⟩
   refine ⟨?_, rfl, rfl, rfl, rfl, rfl, rfl⟩
   ·refine ⟨?_, ?_, ?_⟩
    ·omega
    ·omega
    ·rfl
  intro a hJ
  obtain ⟨h1, h2, h3⟩ := hJ
  refine ⟨?_, ?_⟩
  ·intro b1
   try simp only [nrmT] at b1
   refine ⟨?_, ?_, ?_, ?_, ?_, ?_, id, id, id, ?_, ?_, id, ?_, id, id, ?_, ?_, id, ?_, id, id, rfl, id, fun _ => rfl, ?_, ?_⟩
   ·omega
   ·omega
   ·omega
   ·omega
   ·omega
   ·omega
   ·omega
   ·omega
   ·omega
   ·omega
   ·intro _; omega
   ·intro _; omega
   ·intro b2
    exact (allTo_falseI h1 (by omega) (by rw [Bool.not_eq_false']; unfold J26; rw [← b2]; cases decide ((E.getD i.toNat []).getD a.toNat 0 ≤ r) <;> rfl)).symm
   intro b3
   refine ⟨?_, ?_⟩
   ·omega
   refine ⟨(a + 1), ?_⟩
   refine ⟨?_, ?_, rfl, rfl, rfl, rfl, rfl, rfl⟩
   ·refine ⟨?_, ?_, ?_⟩
    ·omega
    ·omega
    ·refine allTo_step h1 h3 ?_
     rw [Bool.not_eq_true']; unfold J26; rw [← b3]; cases decide ((E.getD i.toNat []).getD a.toNat 0 ≤ r) <;> rfl
   (simp only [J2T]; omega)
  intro b4
  try simp only [nrmT] at b4
  unfold J05
  rw [← h3]; congr 1; omega
theorem Jbp (U : ZI) (E : ZR) (i : Int) (j : Int) (r : Int) (hg : J0 U E = true) (hi : 0 ≤ i ∧ i < (E.length : Int)) (hj : 0 ≤ j ∧ j < (E.length : Int)) : PC Tryz.prog 217 [.agg [.sl (.ints U), .sl (.rows E)], .int .i64 i, .int .i64 j, .int .i64 r] (.one (.d (.bool (J05 U.length E i j r)))) :=
  pc_wf @Tryz.call217 fun hw => pc_by (by kernel_rfl) Tryz.func217 @Tryz.call217 (by kernel_rfl) JbP (Jc3 U E i j r) (by kernel_rfl) (Jbh U E i j r hg hi hj hw.1.1 hw.1.2.1.1 hw.1.2.1.2) (by kernel_rfl)
def JaB : List D → Orc := orcN [none, none, none, none] fun ds => match ds with
  | [.agg [.sl (.ints U), .sl (.rows E)], .int .i64 i, .int .i64 j, .int .i64 r] => some (.one (.d (.bool (J05 U.length E i j r))))
  | _ => none
abbrev J46 (U : ZI) (E : ZR) (clients : ZI) (r : Int) (i : Int) : Prop := (0 ≤ i) ∧ (i ≤ (clients.length : Int)) ∧ (allTo (fun i => allTo (fun k => J05 U.length E (clients.getD i 0) (clients.getD k 0) r) i) i.toNat = true)
abbrev J48 (U : ZI) (E : ZR) (clients : ZI) (r : Int) (i : Int) : Nat := (clients.length - i).toNat
abbrev J4e (U : ZI) (E : ZR) (clients : ZI) (r : Int) (i : Int) (k : Int) : Prop := (0 ≤ k) ∧ (k ≤ i) ∧ (allTo (fun c => J05 U.length E (clients.getD i.toNat 0) (clients.getD c 0) r) k.toNat = true)
abbrev J44 (U : ZI) (E : ZR) (clients : ZI) (r : Int) (i : Int) (k : Int) : Nat := (i - k).toNat
def Jdd (f : FuncId) (ds : List D) : Orc := bif Nat.beq f 217 then JaB ds else .no
def Jdg (U : ZI) (E : ZR) (clients : ZI) (r : Int) : Ann := .two (.none) (.two (.two (.none) (.loop (cut1 (fun (i : Int) => J46 U E clients r i) (fun (i : Int) => [(1, .d false (.sl (.ints clients))), (2, .d false (.int .i64 r)), (3, .ptr 3 0), (7, .d true (.int .i64 i))]) (fun (i : Int) => [(3, .box 27 [.d false (.sl (.ints U)), .d false (.sl (.rows E))])])) (fun g => J48 U E clients r g) (fun g => (fun (i : Int) => .two (.none) (.two (.two (.none) (.loop (cut1 (fun (k : Int) => J4e U E clients r i k) (fun (k : Int) => [(1, .d false (.sl (.ints clients))), (2, .d false (.int .i64 r)), (3, .ptr 3 0), (7, .d true (.int .i64 i)), (8, .d true (.int .i64 k))]) (fun (k : Int) => [(3, .box 27 [.d false (.sl (.ints U)), .d false (.sl (.rows E))])])) (fun g => J44 U E clients r i g) (fun _ => .none))) (.none))) g))) (.none))
def Ja5 (U : ZI) (E : ZR) (clients : ZI) (r : Int) : Prop :=
  ((∃ i' : Int, (J46 U E clients r i') ∧ (clients = clients) ∧ (r = r) ∧ ((0 : Int) = i') ∧ (U = U) ∧ (E = E)) ∧ (∀ i : Int, (J46 U E clients r i) → (((decide (i < (clients.length : Int))) = true → ((∃ k' : Int, (J4e U E clients r i k') ∧ (clients = clients) ∧ (r = r) ∧ (i = i) ∧ ((0 : Int) = k') ∧ (U = U) ∧ (E = E)) ∧ (∀ k : Int, (J4e U E clients r i k) → (((decide (k < i)) = true → (true = true) ∧ ((0 : Int) ≤ i) ∧ ((i : Int) < clients.length) ∧ (i.toNat < clients.length) ∧ ((0 : Int) ≤ k) ∧ ((k : Int) < clients.length) ∧ (k.toNat < clients.length) ∧ (PC Tryz.prog 217 [.agg [.sl (.ints U), .sl (.rows E)], .int .i64 (clients.getD i.toNat 0), .int .i64 (clients.getD k.toNat 0), .int .i64 r] (.one (.d (.bool (J05 U.length E (clients.getD i.toNat 0) (clients.getD k.toNat 0) r))))) ∧ (((!(J05 U.length E (clients.getD i.toNat 0) (clients.getD k.toNat 0) r)) = true → ((false = (J6 U.length E clients r)))) ∧ ((!(J05 U.length E (clients.getD i.toNat 0) (clients.getD k.toNat 0) r)) = false → (I6 (k + 1)) ∧ (∃ k' : Int, (J4e U E clients r i k') ∧ (J44 U E clients r i k' < J44 U E clients r i k) ∧ (clients = clients) ∧ (r = r) ∧ (i = i) ∧ ((k + 1) = k') ∧ (U = U) ∧ (E = E))))) ∧ ((decide (k < i)) = false → (I6 (i + 1)) ∧ (∃ i' : Int, (J46 U E clients r i') ∧ (J48 U E clients r i' < J48 U E clients r i) ∧ (clients = clients) ∧ (r = r) ∧ ((i + 1) = i') ∧ (U = U) ∧ (E = E))))))) ∧ ((decide (i < (clients.length : Int))) = false → ((true = (J6 U.length E clients r)))))))
theorem Jcy (U : ZI) (E : ZR) (clients : ZI) (r : Int) (hg : J0 U E = true) (hc : ∀ c ∈ clients, 0 ≤ c ∧ c < (E.length : Int)) (w_Open : (U.length : Int) ≤ 9223372036854775807) (w_Dist : (E.length : Int) ≤ 9223372036854775807) (v_Dist : ∀ x9 ∈ E, (x9.length : Int) ≤ 9223372036854775807) (w_clients : (clients.length : Int) ≤ 9223372036854775807) : Ja5 U E clients r := by
  unfold Ja5
  obtain ⟨g1, g2, g3⟩ := Jb hg
  have ca := fun (k : Nat) (hk : k < clients.length) => hc _ (getD_mem (d := 0) hk)
  refine ⟨?_, ?_⟩
  ·refine ⟨0, ?_⟩
   refine ⟨?_, rfl, rfl, rfl, rfl, rfl⟩
   ·refine ⟨?_, ?_, ?_⟩
    ·omega
    ·omega
    ·rfl
  intro i hJ
  obtain ⟨h1, h2, h3⟩ := hJ
  refine ⟨?_, ?_⟩
  ·intro b1
   try simp only [nrmT] at b1
   refine ⟨?_, ?_⟩
   ·refine ⟨0, ?_⟩
    refine ⟨?_, rfl, rfl, rfl, rfl, rfl, rfl⟩
    ·refine ⟨?_, ?_, ?_⟩
     ·omega
     ·omega
     ·rfl
   intro k hJ
   obtain ⟨h4, h5, h6⟩ := hJ
   refine ⟨?_, ?_⟩
   ·intro b2
    try simp only [nrmT] at b2
    refine ⟨rfl, ?_, ?_, ?_, ?_, ?_, ?_, ?_, ?_, ?_⟩
    ·omega
    ·omega
    ·omega
    ·omega
    ·omega
    ·omega
    ·refine Jbp U E (clients.getD i.toNat 0) (clients.getD k.toNat 0) r ?_ ?_ ?_
     ·omega
     ·have := ca i.toNat (by omega)
      omega
     ·have := ca k.toNat (by omega)
      omega
    ·intro b3
     try simp only [nrmT] at b3
     refine (allTo_falseI h1 (by omega) ?_).symm
     exact allTo_falseI h4 (by omega) b3
    intro b4
    try simp only [nrmT] at b4
    refine ⟨?_, ?_⟩
    ·omega
    refine ⟨(k + 1), ?_⟩
    refine ⟨?_, ?_, rfl, rfl, rfl, rfl, rfl, rfl⟩
    ·refine ⟨?_, ?_, ?_⟩
     ·omega
     ·omega
     ·exact allTo_step h4 h6 b4
    (simp only [J44]; omega)
   intro b5
   try simp only [nrmT] at b5
   refine ⟨?_, ?_⟩
   ·omega
   refine ⟨(i + 1), ?_⟩
   refine ⟨?_, ?_, rfl, rfl, rfl, rfl, rfl⟩
   ·refine ⟨?_, ?_, ?_⟩
    ·omega
    ·omega
    ·have e : k.toNat = i.toNat := by omega
     rw [e] at h6
     exact allTo_step h1 h3 h6
   (simp only [J48]; omega)
  intro b6
  try simp only [nrmT] at b6
  unfold J6
  rw [← h3]; congr 1; omega
theorem J66 (U : ZI) (E : ZR) (clients : ZI) (r : Int) (hg : J0 U E = true) (hc : ∀ c ∈ clients, 0 ≤ c ∧ c < (E.length : Int)) : PC Tryz.prog 165 [.agg [.sl (.ints U), .sl (.rows E)], .sl (.ints clients), .int .i64 r] (.one (.d (.bool (J6 U.length E clients r)))) :=
  pc_wf @Tryz.call165 fun hw => pc_by (by kernel_rfl) Tryz.func165 @Tryz.call165 (by kernel_rfl) Jdd (Jdg U E clients r) (by kernel_rfl) (Jcy U E clients r hg hc hw.1.1 hw.1.2.1.1 hw.1.2.1.2 hw.2.1) (by kernel_rfl)
def J5q : List D → Orc := orcN [none, some .ints, none] fun ds => match ds with
  | [.agg [.sl (.ints U), .sl (.rows E)], .sl (.ints clients), .int .i64 r] => some (.one (.d (.bool (J6 U.length E clients r))))
  | _ => none
abbrev J17 (U : ZI) (E : ZR) (clients : ZI) (r : Int) (a : Int) : Prop := (0 ≤ a) ∧ (a ≤ (U.length : Int)) ∧ (allTo (fun c => decide (J1F E clients r c clients.length ≤ 1)) a.toNat = true)
abbrev J14 (U : ZI) (E : ZR) (clients : ZI) (r : Int) (a : Int) : Nat := (U.length - a).toNat
abbrev J0f (U : ZI) (E : ZR) (clients : ZI) (r : Int) (a : Int) (near : Int) (k : Int) : Prop := (0 ≤ k) ∧ (k ≤ (clients.length : Int)) ∧ (near = J1F E clients r a.toNat k.toNat)
abbrev JJ (U : ZI) (E : ZR) (clients : ZI) (r : Int) (a : Int) (near : Int) (k : Int) : Nat := (clients.length - k).toNat
def J8K (f : FuncId) (ds : List D) : Orc := .no
def J8f (U : ZI) (E : ZR) (clients : ZI) (r : Int) : Ann := .two (.none) (.two (.two (.none) (.loop (cut1 (fun (a : Int) => J17 U E clients r a) (fun (a : Int) => [(1, .d false (.sl (.ints clients))), (2, .d false (.int .i64 r)), (3, .ptr 3 0), (13, .d true (.int .i64 (U.length : Int))), (14, .d true (.int .i64 a))]) (fun (a : Int) => [(3, .box 27 [.d false (.sl (.ints U)), .d false (.sl (.rows E))])])) (fun g => J14 U E clients r g) (fun g => (fun (a : Int) => .two (.none) (.two (.none) (.two (.two (.none) (.two (.none) (.two (.two (.none) (.loop (cut2 (fun (near : Int) (k : Int) => J0f U E clients r a near k) (fun (near : Int) (k : Int) => [(1, .d false (.sl (.ints clients))), (2, .d false (.int .i64 r)), (3, .ptr 3 0), (7, .d true (.int .i64 a)), (8, .d true (.int .i64 near)), (13, .d true (.int .i64 (U.length : Int))), (14, .d true (.int .i64 a)), (17, .d false (.sl (.ints clients))), (18, .d true (.int .i64 (clients.length : Int))), (19, .d true (.int .i64 k))]) (fun (near : Int) (k : Int) => [(3, .box 27 [.d false (.sl (.ints U)), .d false (.sl (.rows E))])])) (fun g => JJ U E clients r a g.1 g.2) (fun _ => .none))) (.none)))) (.none)))) g))) (.none))
def J56 (U : ZI) (E : ZR) (clients : ZI) (r : Int) : Prop :=
  ((∃ a' : Int, (J17 U E clients r a') ∧ (clients = clients) ∧ (r = r) ∧ ((U.length : Int) = (U.length : Int)) ∧ ((0 : Int) = a') ∧ (U = U) ∧ (E = E)) ∧ (∀ a : Int, (J17 U E clients r a) → (((decide (a < (U.length : Int))) = true → ((∃ near' : Int, ∃ k' : Int, (J0f U E clients r a near' k') ∧ (clients = clients) ∧ (r = r) ∧ (a = a) ∧ ((0 : Int) = near') ∧ ((U.length : Int) = (U.length : Int)) ∧ (a = a) ∧ (clients = clients) ∧ ((clients.length : Int) = (clients.length : Int)) ∧ ((0 : Int) = k') ∧ (U = U) ∧ (E = E)) ∧ (∀ near : Int, ∀ k : Int, (J0f U E clients r a near k) → (((decide (k < (clients.length : Int))) = true → ((0 : Int) ≤ k) ∧ ((k : Int) < clients.length) ∧ (k.toNat < clients.length) ∧ ((0 : Int) ≤ (clients.getD k.toNat 0)) ∧ (((clients.getD k.toNat 0) : Int) < E.length) ∧ ((clients.getD k.toNat 0).toNat < E.length) ∧ ((0 : Int) ≤ a) ∧ ((a : Int) < (E.getD ((clients.getD k.toNat 0).toNat) []).length) ∧ (a.toNat < (E.getD ((clients.getD k.toNat 0).toNat) []).length) ∧ (((decide (((E.getD ((clients.getD k.toNat 0).toNat) []).getD a.toNat 0) ≤ r)) = true → (I6 (near + 1)) ∧ (I6 (k + 1)) ∧ (∃ near' : Int, ∃ k' : Int, (J0f U E clients r a near' k') ∧ (JJ U E clients r a near' k' < JJ U E clients r a near k) ∧ (clients = clients) ∧ (r = r) ∧ (a = a) ∧ ((near + 1) = near') ∧ ((U.length : Int) = (U.length : Int)) ∧ (a = a) ∧ (clients = clients) ∧ ((clients.length : Int) = (clients.length : Int)) ∧ ((k + 1) = k') ∧ (U = U) ∧ (E = E))) ∧ ((decide (((E.getD ((clients.getD k.toNat 0).toNat) []).getD a.toNat 0) ≤ r)) = false → (I6 (k + 1)) ∧ (∃ near' : Int, ∃ k' : Int, (J0f U E clients r a near' k') ∧ (JJ U E clients r a near' k' < JJ U E clients r a near k) ∧ (clients = clients) ∧ (r = r) ∧ (a = a) ∧ (near = near') ∧ ((U.length : Int) = (U.length : Int)) ∧ (a = a) ∧ (clients = clients) ∧ ((clients.length : Int) = (clients.length : Int)) ∧ ((k + 1) = k') ∧ (U = U) ∧ (E = E))))) ∧ ((decide (k < (clients.length : Int))) = false → (((decide (near > 1)) = true → ((false = (J6 U.length E clients r)))) ∧ ((decide (near > 1)) = false → (I6 (a + 1)) ∧ (∃ a' : Int, (J17 U E clients r a') ∧ (J14 U E clients r a' < J14 U E clients r a) ∧ (clients = clients) ∧ (r = r) ∧ ((U.length : Int) = (U.length : Int)) ∧ ((a + 1) = a') ∧ (U = U) ∧ (E = E))))))))) ∧ ((decide (a < (U.length : Int))) = false → ((true = (J6 U.length E clients r)))))))
theorem J7G (U : ZI) (E : ZR) (clients : ZI) (r : Int) (hg : J0 U E = true) (hc : ∀ c ∈ clients, 0 ≤ c ∧ c < (E.length : Int)) (w_Open : (U.length : Int) ≤ 9223372036854775807) (w_Dist : (E.length : Int) ≤ 9223372036854775807) (v_Dist : ∀ x9 ∈ E, (x9.length : Int) ≤ 9223372036854775807) (w_clients : (clients.length : Int) ≤ 9223372036854775807) : J56 U E clients r := by
  unfold J56
  obtain ⟨g1, g2, g3⟩ := Jb hg
  have ca := fun (k : Nat) (hk : k < clients.length) => hc _ (getD_mem (d := 0) hk)
  refine ⟨?_, ?_⟩
  ·refine ⟨0, ?_⟩
   refine ⟨?_, rfl, rfl, rfl, rfl, rfl, rfl⟩
   ·refine ⟨?_, ?_, ?_⟩
    ·omega
    ·omega
    ·rfl
  intro a hJ
  obtain ⟨h1, h2, h3⟩ := hJ
  refine ⟨?_, ?_⟩
  ·intro b1
   try simp only [nrmT] at b1
   refine ⟨?_, ?_⟩
   ·refine ⟨0, 0, ?_⟩
    refine ⟨?_, rfl, rfl, rfl, rfl, rfl, rfl, rfl, rfl, rfl, rfl, rfl⟩
    ·refine ⟨?_, ?_, ?_⟩
     ·omega
     ·omega
     ·rfl
   intro near k hJ
   obtain ⟨h4, h5, h6⟩ := hJ
   refine ⟨?_, ?_⟩
   ·intro b2
    try simp only [nrmT] at b2
    refine ⟨?_, ?_, ?_, ?_, ?_, ?_, ?_, ?_, ?_, ?_, ?_⟩
    ·omega
    ·omega
    ·omega
    ·have := ca k.toNat (by omega)
     omega
    ·have := ca k.toNat (by omega)
     omega
    ·have := ca k.toNat (by omega)
     omega
    ·omega
    ·have := ca k.toNat (by omega)
     obtain ⟨rr, _⟩ := J8 (i := (clients.getD k.toNat 0).toNat) hg (by omega)
     omega
    ·have := ca k.toNat (by omega)
     obtain ⟨rr, _⟩ := J8 (i := (clients.getD k.toNat 0).toNat) hg (by omega)
     omega
    ·intro b3
     try simp only [nrmT] at b3
     refine ⟨?_, ?_, ?_⟩
     ·have := J8c (E := E) (clients := clients) (r := r) (a := a.toNat) (k := k.toNat)
      omega
     ·omega
     refine ⟨(near + 1), (k + 1), ?_⟩
     refine ⟨?_, ?_, rfl, rfl, rfl, rfl, rfl, rfl, rfl, rfl, rfl, rfl, rfl⟩
     ·refine ⟨?_, ?_, ?_⟩
      ·omega
      ·omega
      ·rw [h6, show (k + 1).toNat = k.toNat + 1 by omega, J15, J4T.2 b3]
     (simp only [JJ]; omega)
    intro b4
    try simp only [nrmT] at b4
    refine ⟨?_, ?_⟩
    ·omega
    refine ⟨near, (k + 1), ?_⟩
    refine ⟨?_, ?_, rfl, rfl, rfl, rfl, rfl, rfl, rfl, rfl, rfl, rfl, rfl⟩
    ·refine ⟨?_, ?_, ?_⟩
     ·omega
     ·omega
     ·rw [h6, show (k + 1).toNat = k.toNat + 1 by omega, J15]
      have : J0h E clients r a.toNat k.toNat = 0 := by unfold J0h; rw [if_neg (by omega)]
      omega
    (simp only [JJ]; omega)
   intro b5
   try simp only [nrmT] at b5
   refine ⟨?_, ?_⟩
   ·intro b6
    try simp only [nrmT] at b6
    rw [← JdH]
    refine (allTo_falseI h1 (by omega) ?_).symm
    rw [h6, show k.toNat = clients.length by omega] at b6
    simp only [decide_eq_false_iff_not]
    omega
   intro b7
   try simp only [nrmT] at b7
   refine ⟨?_, ?_⟩
   ·omega
   refine ⟨(a + 1), ?_⟩
   refine ⟨?_, ?_, rfl, rfl, rfl, rfl, rfl, rfl⟩
   ·refine ⟨?_, ?_, ?_⟩
    ·omega
    ·omega
    ·rw [h6, show k.toNat = clients.length by omega] at b7
     exact allTo_step h1 h3 (by simp only [decide_eq_true_eq]; omega)
   (simp only [J14]; omega)
  intro b8
  try simp only [nrmT] at b8
  rw [← JdH]
  unfold Jea
  rw [← h3]; congr 1; omega
theorem J2r (U : ZI) (E : ZR) (clients : ZI) (r : Int) (hg : J0 U E = true) (hc : ∀ c ∈ clients, 0 ≤ c ∧ c < (E.length : Int)) : PC Tryz.prog 163 [.agg [.sl (.ints U), .sl (.rows E)], .sl (.ints clients), .int .i64 r] (.one (.d (.bool (J6 U.length E clients r)))) :=
  pc_wf @Tryz.call163 fun hw => pc_by (by kernel_rfl) Tryz.func163 @Tryz.call163 (by kernel_rfl) J8K (J8f U E clients r) (by kernel_rfl) (J7G U E clients r hg hc hw.1.1 hw.1.2.1.1 hw.1.2.1.2 hw.2.1) (by kernel_rfl)
def J1Q : List D → Orc := orcN [none, some .ints, none] fun ds => match ds with
  | [.agg [.sl (.ints U), .sl (.rows E)], .sl (.ints clients), .int .i64 r] => some (.one (.d (.bool (J6 U.length E clients r))))
  | _ => none
def JbG (f : FuncId) (ds : List D) : Orc := bif Nat.beq f 111 then J2O ds else .no
def Jby (U : ZI) (E : ZR) (r : Int) : Ann := .none
def J74 (U : ZI) (E : ZR) (r : Int) : Prop :=
  (PC Tryz.prog 111 [.agg [.sl (.ints U), .sl (.rows E)]] (.one (.d (.bool (J0 U E))))) ∧ ((J0 U E) = true → (J0 U E) = true) ∧ (true = true) ∧ (((J0 U E) = true → (J0 U E) = true)) ∧ (((J0 U E) = false → true = true)) ∧ (((cond (J0 U E) (decide (r ≥ 0)) false) = (J0 U E && decide (0 ≤ r))))
theorem Jay (U : ZI) (E : ZR) (r : Int)  (w_Open : (U.length : Int) ≤ 9223372036854775807) (w_Dist : (E.length : Int) ≤ 9223372036854775807) (v_Dist : ∀ x9 ∈ E, (x9.length : Int) ≤ 9223372036854775807) : J74 U E r := by
  unfold J74
  refine ⟨J3Q U E, id, rfl, id, fun _ => rfl, ?_⟩
  ·cases J0 U E <;> rfl
theorem J1v (U : ZI) (E : ZR) (r : Int)  : PC Tryz.prog 114 [.agg [.sl (.ints U), .sl (.rows E)], .int .i64 r] (.one (.d (.bool (J0 U E && decide (0 ≤ r))))) :=
  pc_wf @Tryz.call114 fun hw => pc_by (by kernel_rfl) Tryz.func114 @Tryz.call114 (by kernel_rfl) JbG (Jby U E r) (by kernel_rfl) (Jay U E r hw.1.1 hw.1.2.1.1 hw.1.2.1.2) (by kernel_rfl)
def J1m : List D → Orc := orcN [none, none] fun ds => match ds with
  | [.agg [.sl (.ints U), .sl (.rows E)], .int .i64 r] => some (.one (.d (.bool (J0 U E && decide (0 ≤ r)))))
  | _ => none
def J7E (f : FuncId) (ds : List D) : Orc := bif Nat.beq f 112 then J0K ds else bif Nat.beq f 164 then J9S ds else bif Nat.beq f 165 then J5q ds else .no
def J7Q (U : ZI) (E : ZR) (clients : ZI) (r : Int) : Ann := .none
def J4E (U : ZI) (E : ZR) (clients : ZI) (r : Int) : Prop :=
  (PC Tryz.prog 112 [.agg [.sl (.ints U), .sl (.rows E)]] (.one (.d (.bool (J0 U E))))) ∧ ((!(!(J0 U E))) = true → (!(!(J0 U E))) = true) ∧ ((!(!(J0 U E))) = true → (!(!(J0 U E))) = true) ∧ ((!(!(J0 U E))) = true → (!(!(J0 U E))) = true) ∧ (((!(!(J0 U E))) = true → I6 ((E.length : Int) - 1))) ∧ ((!(!(J0 U E))) = true → (!(!(J0 U E))) = true) ∧ ((!(!(J0 U E))) = true → (!(!(J0 U E))) = true) ∧ ((!(!(J0 U E))) = true → PC Tryz.prog 164 [.sl (.ints clients), .int .i64 0, .int .i64 ((E.length : Int) - 1)] (.one (.d (.bool (J2 clients 0 ((E.length : Int) - 1)))))) ∧ ((!(!(J0 U E))) = true → (!(!(J0 U E))) = true) ∧ (true = true) ∧ (((!(J0 U E)) = true → true = true)) ∧ (((!(J0 U E)) = false → (!(!(J0 U E))) = true)) ∧ ((!(cond (!(J0 U E)) true (!(J2 clients 0 ((E.length : Int) - 1))))) = true → (!(cond (!(J0 U E)) true (!(J2 clients 0 ((E.length : Int) - 1))))) = true) ∧ (true = true) ∧ (((cond (!(J0 U E)) true (!(J2 clients 0 ((E.length : Int) - 1)))) = true → true = true)) ∧ (((cond (!(J0 U E)) true (!(J2 clients 0 ((E.length : Int) - 1)))) = false → (!(cond (!(J0 U E)) true (!(J2 clients 0 ((E.length : Int) - 1))))) = true)) ∧ (((cond (cond (!(J0 U E)) true (!(J2 clients 0 ((E.length : Int) - 1)))) true (decide (r < 0))) = true → ((false = ((J0 U E && J2 clients 0 ((E.length : Int) - 1) && decide (0 ≤ r)) && J6 U.length E clients r)) ∧ (false = (J0 U E && J2 clients 0 ((E.length : Int) - 1) && decide (0 ≤ r))))) ∧ ((cond (cond (!(J0 U E)) true (!(J2 clients 0 ((E.length : Int) - 1)))) true (decide (r < 0))) = false → (PC Tryz.prog 165 [.agg [.sl (.ints U), .sl (.rows E)], .sl (.ints clients), .int .i64 r] (.one (.d (.bool (J6 U.length E clients r))))) ∧ (((J6 U.length E clients r) = ((J0 U E && J2 clients 0 ((E.length : Int) - 1) && decide (0 ≤ r)) && J6 U.length E clients r)) ∧ (true = (J0 U E && J2 clients 0 ((E.length : Int) - 1) && decide (0 ≤ r))))))
theorem J75 (U : ZI) (E : ZR) (clients : ZI) (r : Int)  (w_Open : (U.length : Int) ≤ 9223372036854775807) (w_Dist : (E.length : Int) ≤ 9223372036854775807) (v_Dist : ∀ x9 ∈ E, (x9.length : Int) ≤ 9223372036854775807) (w_clients : (clients.length : Int) ≤ 9223372036854775807) : J4E U E clients r := by
  unfold J4E
  refine ⟨J1a U E, id, id, id, ?_, id, id, fun _ => JaC clients 0 ((E.length : Int) - 1), id, rfl, fun _ => rfl, ?_, id, rfl, fun _ => rfl, ?_, ?_, ?_⟩
  ·intro _; omega
  ·intro h; rw [h]; rfl
  ·intro h; rw [h]; rfl
  ·intro b1
   refine ⟨?_, ?_⟩
   ·have hq : (J0 U E && J2 clients 0 ((E.length : Int) - 1) && decide (0 ≤ r)) = false := by
      revert b1; cases J0 U E <;> cases J2 clients 0 ((E.length : Int) - 1) <;> by_cases h : r < 0 <;> simp [h] <;> omega
    rw [hq]; rfl
   have hq : (J0 U E && J2 clients 0 ((E.length : Int) - 1) && decide (0 ≤ r)) = false := by
     revert b1; cases J0 U E <;> cases J2 clients 0 ((E.length : Int) - 1) <;> by_cases h : r < 0 <;> simp [h] <;> omega
   exact hq.symm
  intro b2
  refine ⟨?_, ?_, ?_⟩
  ·refine J66 U E clients r ?_ ?_
   ·have hq : J0 U E = true ∧ J2 clients 0 ((E.length : Int) - 1) = true ∧ decide (0 ≤ r) = true := by
      revert b2; cases J0 U E <;> cases J2 clients 0 ((E.length : Int) - 1) <;> by_cases h : r < 0 <;> simp [h] <;> omega
    exact hq.1
   ·have hq : J0 U E = true ∧ J2 clients 0 ((E.length : Int) - 1) = true ∧ decide (0 ≤ r) = true := by
      revert b2; cases J0 U E <;> cases J2 clients 0 ((E.length : Int) - 1) <;> by_cases h : r < 0 <;> simp [h] <;> omega
    exact Ja7 hq.2.1
  ·have hq : J0 U E = true ∧ J2 clients 0 ((E.length : Int) - 1) = true ∧ decide (0 ≤ r) = true := by
     revert b2; cases J0 U E <;> cases J2 clients 0 ((E.length : Int) - 1) <;> by_cases h : r < 0 <;> simp [h] <;> omega
   rw [hq.1, hq.2.1, hq.2.2]; rfl
  have hq : J0 U E = true ∧ J2 clients 0 ((E.length : Int) - 1) = true ∧ decide (0 ≤ r) = true := by
    revert b2; cases J0 U E <;> cases J2 clients 0 ((E.length : Int) - 1) <;> by_cases h : r < 0 <;> simp [h] <;> omega
  rw [hq.1, hq.2.1, hq.2.2]; rfl
theorem J6Z (U : ZI) (E : ZR) (clients : ZI) (r : Int)  : PC Tryz.prog 69 [.agg [.sl (.ints U), .sl (.rows E)], .sl (.ints clients), .int .i64 r] (.tup [.d (.bool ((J0 U E && J2 clients 0 ((E.length : Int) - 1) && decide (0 ≤ r)) && J6 U.length E clients r)), .d (.bool (J0 U E && J2 clients 0 ((E.length : Int) - 1) && decide (0 ≤ r)))]) :=
  pc_wf @Tryz.call69 fun hw => pc_by (by kernel_rfl) Tryz.func69 @Tryz.call69 (by kernel_rfl) J7E (J7Q U E clients r) (by kernel_rfl) (J75 U E clients r hw.1.1 hw.1.2.1.1 hw.1.2.1.2 hw.2.1) (by kernel_rfl)
def J6G : List D → Orc := orcN [none, some .ints, none] fun ds => match ds with
  | [.agg [.sl (.ints U), .sl (.rows E)], .sl (.ints clients), .int .i64 r] => some (.tup [.d (.bool ((J0 U E && J2 clients 0 ((E.length : Int) - 1) && decide (0 ≤ r)) && J6 U.length E clients r)), .d (.bool (J0 U E && J2 clients 0 ((E.length : Int) - 1) && decide (0 ≤ r)))])
  | _ => none
def J81 (f : FuncId) (ds : List D) : Orc := bif Nat.beq f 114 then J1m ds else bif Nat.beq f 162 then J5O ds else bif Nat.beq f 163 then J1Q ds else .no
def J7Z (U : ZI) (E : ZR) (clients : ZI) (r : Int) : Ann := .none
def J4I (U : ZI) (E : ZR) (clients : ZI) (r : Int) : Prop :=
  (PC Tryz.prog 114 [.agg [.sl (.ints U), .sl (.rows E)], .int .i64 r] (.one (.d (.bool (J0 U E && decide (0 ≤ r)))))) ∧ ((!(!(J0 U E && decide (0 ≤ r)))) = true → (!(!(J0 U E && decide (0 ≤ r)))) = true) ∧ ((!(!(J0 U E && decide (0 ≤ r)))) = true → (!(!(J0 U E && decide (0 ≤ r)))) = true) ∧ ((!(!(J0 U E && decide (0 ≤ r)))) = true → (!(!(J0 U E && decide (0 ≤ r)))) = true) ∧ ((!(!(J0 U E && decide (0 ≤ r)))) = true → (!(!(J0 U E && decide (0 ≤ r)))) = true) ∧ ((!(!(J0 U E && decide (0 ≤ r)))) = true → PC Tryz.prog 162 [.sl (.ints clients), .int .i64 (E.length : Int)] (.one (.d (.bool (J2 clients 0 ((E.length : Int) - 1)))))) ∧ ((!(!(J0 U E && decide (0 ≤ r)))) = true → (!(!(J0 U E && decide (0 ≤ r)))) = true) ∧ (true = true) ∧ (((!(J0 U E && decide (0 ≤ r))) = true → true = true)) ∧ (((!(J0 U E && decide (0 ≤ r))) = false → (!(!(J0 U E && decide (0 ≤ r)))) = true)) ∧ (((cond (!(J0 U E && decide (0 ≤ r))) true (!(J2 clients 0 ((E.length : Int) - 1)))) = true → ((false = ((J0 U E && J2 clients 0 ((E.length : Int) - 1) && decide (0 ≤ r)) && J6 U.length E clients r)) ∧ (false = (J0 U E && J2 clients 0 ((E.length : Int) - 1) && decide (0 ≤ r))))) ∧ ((cond (!(J0 U E && decide (0 ≤ r))) true (!(J2 clients 0 ((E.length : Int) - 1)))) = false → (PC Tryz.prog 163 [.agg [.sl (.ints U), .sl (.rows E)], .sl (.ints clients), .int .i64 r] (.one (.d (.bool (J6 U.length E clients r))))) ∧ (((J6 U.length E clients r) = ((J0 U E && J2 clients 0 ((E.length : Int) - 1) && decide (0 ≤ r)) && J6 U.length E clients r)) ∧ (true = (J0 U E && J2 clients 0 ((E.length : Int) - 1) && decide (0 ≤ r))))))
theorem J7t (U : ZI) (E : ZR) (clients : ZI) (r : Int)  (w_Open : (U.length : Int) ≤ 9223372036854775807) (w_Dist : (E.length : Int) ≤ 9223372036854775807) (v_Dist : ∀ x9 ∈ E, (x9.length : Int) ≤ 9223372036854775807) (w_clients : (clients.length : Int) ≤ 9223372036854775807) : J4I U E clients r := by
  unfold J4I
  refine ⟨J1v U E r, id, id, id, id, ?_, id, rfl, fun _ => rfl, ?_, ?_, ?_⟩
  ·intro hg
   refine J6z clients (E.length : Int) ?_
   ·omega
  ·intro h; rw [h]; rfl
  ·intro b1
   refine ⟨?_, ?_⟩
   ·have hq : (J0 U E && J2 clients 0 ((E.length : Int) - 1) && decide (0 ≤ r)) = false := by
      revert b1; cases J0 U E <;> cases J2 clients 0 ((E.length : Int) - 1) <;> cases decide (0 ≤ r) <;> simp
    rw [hq]; rfl
   have hq : (J0 U E && J2 clients 0 ((E.length : Int) - 1) && decide (0 ≤ r)) = false := by
     revert b1; cases J0 U E <;> cases J2 clients 0 ((E.length : Int) - 1) <;> cases decide (0 ≤ r) <;> simp
   exact hq.symm
  intro b2
  refine ⟨?_, ?_, ?_⟩
  ·refine J2r U E clients r ?_ ?_
   ·have hq : J0 U E = true ∧ J2 clients 0 ((E.length : Int) - 1) = true ∧ decide (0 ≤ r) = true := by
      revert b2; cases J0 U E <;> cases J2 clients 0 ((E.length : Int) - 1) <;> cases decide (0 ≤ r) <;> simp
    exact hq.1
   ·have hq : J0 U E = true ∧ J2 clients 0 ((E.length : Int) - 1) = true ∧ decide (0 ≤ r) = true := by
      revert b2; cases J0 U E <;> cases J2 clients 0 ((E.length : Int) - 1) <;> cases decide (0 ≤ r) <;> simp
    exact Ja7 hq.2.1
  ·have hq : J0 U E = true ∧ J2 clients 0 ((E.length : Int) - 1) = true ∧ decide (0 ≤ r) = true := by
     revert b2; cases J0 U E <;> cases J2 clients 0 ((E.length : Int) - 1) <;> cases decide (0 ≤ r) <;> simp
   rw [hq.1, hq.2.1, hq.2.2]; rfl
  have hq : J0 U E = true ∧ J2 clients 0 ((E.length : Int) - 1) = true ∧ decide (0 ≤ r) = true := by
    revert b2; cases J0 U E <;> cases J2 clients 0 ((E.length : Int) - 1) <;> cases decide (0 ≤ r) <;> simp
  rw [hq.1, hq.2.1, hq.2.2]; rfl
theorem J1T (U : ZI) (E : ZR) (clients : ZI) (r : Int)  : PC Tryz.prog 68 [.agg [.sl (.ints U), .sl (.rows E)], .sl (.ints clients), .int .i64 r] (.tup [.d (.bool ((J0 U E && J2 clients 0 ((E.length : Int) - 1) && decide (0 ≤ r)) && J6 U.length E clients r)), .d (.bool (J0 U E && J2 clients 0 ((E.length : Int) - 1) && decide (0 ≤ r)))]) :=
  pc_wf @Tryz.call68 fun hw => pc_by (by kernel_rfl) Tryz.func68 @Tryz.call68 (by kernel_rfl) J81 (J7Z U E clients r) (by kernel_rfl) (J7t U E clients r hw.1.1 hw.1.2.1.1 hw.1.2.1.2 hw.2.1) (by kernel_rfl)
def J6N : List D → Orc := orcN [none, some .ints, none] fun ds => match ds with
  | [.agg [.sl (.ints U), .sl (.rows E)], .sl (.ints clients), .int .i64 r] => some (.tup [.d (.bool ((J0 U E && J2 clients 0 ((E.length : Int) - 1) && decide (0 ≤ r)) && J6 U.length E clients r)), .d (.bool (J0 U E && J2 clients 0 ((E.length : Int) - 1) && decide (0 ≤ r)))])
  | _ => none
def Jcf (f : FuncId) (ds : List D) : Orc := .no
def Jc9 (b : Int) (x : Int) : Ann := .none
def J8e (b : Int) (x : Int) : Prop :=
  ((0 : Int) ≤ b ∧ (b : Int) ≤ 18446744073709551615) ∧ ((0 : Int) ≤ x) ∧ ((0 : Int) ≤ (b / 2 ^ x.toNat) ∧ ((b / 2 ^ x.toNat) : Int) ≤ 18446744073709551615) ∧ ((0 : Int) ≤ 1 ∧ (1 : Int) ≤ 18446744073709551615) ∧ ((((((b / 2 ^ x.toNat).toNat &&& 1 : Nat) : Int) == 1) = (b.toNat.testBit x.toNat)))
theorem Jb9 (b : Int) (x : Int) (hb : 0 ≤ b ∧ b ≤ 4611686018427387903) (hx : 0 ≤ x)  : J8e b x := by
  unfold J8e
  refine ⟨?_, ?_, ?_, ?_, ?_⟩
  ·omega
  ·omega
  ·have h1 : 0 ≤ b / 2 ^ x.toNat := Int.ediv_nonneg hb.1 (Int.le_of_lt (Int.pow_pos (by omega)))
   have h2 : b / 2 ^ x.toNat ≤ b := Int.ediv_le_self _ hb.1
   omega
  ·omega
  have e : b = ((b.toNat : Nat) : Int) := by omega
  have h := shr_bit (n := b.toNat) (k := x.toNat)
  rw [← e] at h
  rw [h]
  cases b.toNat.testBit x.toNat <;> rfl
theorem J6W (b : Int) (x : Int) (hb : 0 ≤ b ∧ b ≤ 4611686018427387903) (hx : 0 ≤ x) : PC Tryz.prog 138 [.int .u64 b, .int .i64 x] (.one (.d (.bool (b.toNat.testBit x.toNat)))) :=
  pc_wf @Tryz.call138 fun _ => pc_by (by kernel_rfl) Tryz.func138 @Tryz.call138 (by kernel_rfl) Jcf (Jc9 b x) (by kernel_rfl) (Jb9 b x hb hx) (by kernel_rfl)
def J6A : List D → Orc := orcN [none, none] fun ds => match ds with
  | [.int .u64 b, .int .i64 x] => some (.one (.d (.bool (b.toNat.testBit x.toNat))))
  | _ => none
theorem J8Y {xs : ZI} {lo hi : Int} (h : J2 xs lo hi = true) : ∀ x ∈ xs, lo ≤ x ∧ x ≤ hi := by
  intro x hx
  obtain ⟨k, hk, rfl⟩ := List.mem_iff_getElem.1 hx
  have := J3i h k hk
  simp [hk] at this
  omega
theorem JbB {n : Nat} (h : n ≤ 8) : (2 : Nat) ^ n ≤ 256 := Nat.le_trans (Nat.pow_le_pow_right (by omega) h) (by decide)
abbrev J4c (l : ZI) (n : Int) (k : Int) : Prop := (0 ≤ k) ∧ (k ≤ (l.length : Int)) ∧ (∀ j, j < k.toNat → l.getD j 0 < n)
abbrev J4a (l : ZI) (n : Int) (k : Int) : Nat := (l.length - k).toNat
def JdO (f : FuncId) (ds : List D) : Orc := .no
def Jdp (l : ZI) (n : Int) : Ann := .two (.none) (.two (.none) (.two (.loop (cut1 (fun (k : Int) => J4c l n k) (fun (k : Int) => [(0, .d true (.sl (.ints l))), (1, .d false (.int .i64 n)), (5, .d true (.int .i64 k))]) (fun (k : Int) => [])) (fun g => J4a l n g) (fun _ => .none)) (.two (.none) (.two (.reg [(6, .frz)]) (.none)))))
def Jas (l : ZI) (n : Int) : Prop :=
  ((∃ k' : Int, (J4c l n k') ∧ (l = l) ∧ (n = n) ∧ ((0 : Int) = k')) ∧ (∀ k : Int, (J4c l n k) → ((decide (k < (l.length : Int))) = true → (decide (k < (l.length : Int))) = true) ∧ ((decide (k < (l.length : Int))) = true → (decide (k < (l.length : Int))) = true) ∧ (((decide (k < (l.length : Int))) = true → (0 : Int) ≤ k)) ∧ (((decide (k < (l.length : Int))) = true → (k : Int) < l.length)) ∧ ((decide (k < (l.length : Int))) = true → (decide (k < (l.length : Int))) = true) ∧ (((decide (k < (l.length : Int))) = true → k.toNat < l.length)) ∧ ((decide (k < (l.length : Int))) = true → (decide (k < (l.length : Int))) = true) ∧ ((decide (k < (l.length : Int))) = true → (decide (k < (l.length : Int))) = true) ∧ (true = true) ∧ (((decide (k < (l.length : Int))) = true → (decide (k < (l.length : Int))) = true)) ∧ (((decide (k < (l.length : Int))) = false → true = true)) ∧ (((cond (decide (k < (l.length : Int))) (decide ((l.getD k.toNat 0) < n)) false) = true → (I6 (k + 1)) ∧ (∃ k' : Int, (J4c l n k') ∧ (J4a l n k' < J4a l n k) ∧ (l = l) ∧ (n = n) ∧ ((k + 1) = k'))) ∧ ((cond (decide (k < (l.length : Int))) (decide ((l.getD k.toNat 0) < n)) false) = false → ((decide (k < (l.length : Int))) = true → (decide (k < (l.length : Int))) = true) ∧ ((decide (k < (l.length : Int))) = true → (decide (k < (l.length : Int))) = true) ∧ (((decide (k < (l.length : Int))) = true → (0 : Int) ≤ k)) ∧ (((decide (k < (l.length : Int))) = true → (k : Int) < l.length)) ∧ ((decide (k < (l.length : Int))) = true → (decide (k < (l.length : Int))) = true) ∧ (((decide (k < (l.length : Int))) = true → k.toNat < l.length)) ∧ ((decide (k < (l.length : Int))) = true → (decide (k < (l.length : Int))) = true) ∧ ((decide (k < (l.length : Int))) = true → (decide (k < (l.length : Int))) = true) ∧ (true = true) ∧ (((decide (k < (l.length : Int))) = true → (decide (k < (l.length : Int))) = true)) ∧ (((decide (k < (l.length : Int))) = false → true = true)) ∧ (((cond (decide (k < (l.length : Int))) ((l.getD k.toNat 0) == n) false) = true → (((l : ZI) = (putL l n)))) ∧ ((cond (decide (k < (l.length : Int))) ((l.getD k.toNat 0) == n) false) = false → (true = true) ∧ ((0 : Int) ≤ k) ∧ ((k : Int) ≤ l.length) ∧ ((0 : Nat) = 0) ∧ (True) ∧ ((0 + ((l.take k.toNat).drop 0).length) * 8 ≤ 140737488355328) ∧ ((0 + ((l.take k.toNat).drop 0).length) = ([] ++ ((l.take k.toNat).drop 0)).length) ∧ (True) ∧ ((([] ++ ((l.take k.toNat).drop 0)).length + 1) * 8 ≤ 140737488355328) ∧ ((0 : Int) ≤ k) ∧ ((k : Int) ≤ l.length) ∧ (((0 + ((l.take k.toNat).drop 0).length) + 1) = (([] ++ ((l.take k.toNat).drop 0)) ++ [n]).length) ∧ (True) ∧ (((([] ++ ((l.take k.toNat).drop 0)) ++ [n]).length + ((l.take l.length).drop k.toNat).length) * 8 ≤ 140737488355328) ∧ (((((0 + ((l.take k.toNat).drop 0).length) + 1) + ((l.take l.length).drop k.toNat).length) = ((([] ++ ((l.take k.toNat).drop 0)) ++ [n]) ++ ((l.take l.length).drop k.toNat)).length) ∧ ((((([] ++ ((l.take k.toNat).drop 0)) ++ [n]) ++ ((l.take l.length).drop k.toNat)) : ZI) = (putL l n)))))))))
theorem Jd3 (l : ZI) (n : Int) (hl : l.length ≤ 1048576) (w_l : (l.length : Int) ≤ 9223372036854775807) : Jas l n := by
  unfold Jas
  refine ⟨?_, ?_⟩
  ·refine ⟨0, ?_⟩
   refine ⟨?_, rfl, rfl, rfl⟩
   ·refine ⟨?_, ?_, ?_⟩
    ·omega
    ·omega
    ·omega
  intro k hJ
  obtain ⟨h1, h2, h3⟩ := hJ
  refine ⟨id, id, ?_, ?_, id, ?_, id, id, rfl, id, fun _ => rfl, ?_, ?_⟩
  ·omega
  ·(intro hg; simp only [nrmT] at hg; omega)
  ·(intro hg; simp only [nrmT] at hg; omega)
  ·intro b1
   refine ⟨?_, ?_⟩
   ·have h5 : k < (l.length : Int) ∧ l.getD k.toNat 0 < n := by
      revert b1; by_cases h : k < (l.length : Int)
      · rw [decide_eq_true h]; intro g; exact ⟨h, by simpa using g⟩
      rw [decide_eq_false h]; intro g; cases g
    omega
   refine ⟨(k + 1), ?_⟩
   refine ⟨?_, ?_, rfl, rfl, rfl⟩
   ·refine ⟨?_, ?_, ?_⟩
    ·omega
    ·have h5 : k < (l.length : Int) ∧ l.getD k.toNat 0 < n := by
       revert b1; by_cases h : k < (l.length : Int)
       · rw [decide_eq_true h]; intro g; exact ⟨h, by simpa using g⟩
       rw [decide_eq_false h]; intro g; cases g
     omega
    ·have h5 : k < (l.length : Int) ∧ l.getD k.toNat 0 < n := by
       revert b1; by_cases h : k < (l.length : Int)
       · rw [decide_eq_true h]; intro g; exact ⟨h, by simpa using g⟩
       rw [decide_eq_false h]; intro g; cases g
     intro j hj
     by_cases e : j = k.toNat
     · rw [e]; exact h5.2
     exact h3 j (by omega)
   have h5 : k < (l.length : Int) ∧ l.getD k.toNat 0 < n := by
     revert b1; by_cases h : k < (l.length : Int)
     · rw [decide_eq_true h]; intro g; exact ⟨h, by simpa using g⟩
     rw [decide_eq_false h]; intro g; cases g
   (simp only [J4a]; omega)
  intro b2
  refine ⟨id, id, ?_, ?_, id, ?_, id, id, rfl, id, fun _ => rfl, ?_, ?_⟩
  ·omega
  ·(intro hg; simp only [nrmT] at hg; omega)
  ·(intro hg; simp only [nrmT] at hg; omega)
  ·intro b3
   have h6 : k.toNat < l.length → ¬ l.getD k.toNat 0 < n := by
     intro g1 g2
     rw [decide_eq_true (show k < (l.length : Int) by omega), decide_eq_true g2] at b2
     cases b2
   have h7 : k < (l.length : Int) ∧ l.getD k.toNat 0 = n := by
     revert b3; by_cases h : k < (l.length : Int)
     · rw [decide_eq_true h]; intro g; exact ⟨h, by simpa using g⟩
     rw [decide_eq_false h]; intro g; cases g
   rw [putL_at l n k.toNat (by omega) h3 h6, if_pos ⟨by omega, h7.2⟩]
  intro b4
  refine ⟨rfl, ?_, ?_, rfl, trivial, ?_, ?_, trivial, ?_, ?_, ?_, ?_, trivial, ?_, ?_, ?_⟩
  ·omega
  ·omega
  ·(simp only [List.length_append, List.length_take, List.length_drop, List.length_cons, List.length_nil]; omega)
  ·(simp only [List.length_append, List.length_take, List.length_drop, List.length_cons, List.length_nil]; done)
  ·(simp only [List.length_append, List.length_take, List.length_drop, List.length_cons, List.length_nil]; omega)
  ·omega
  ·omega
  ·(simp only [List.length_append, List.length_take, List.length_drop, List.length_cons, List.length_nil]; done)
  ·(simp only [List.length_append, List.length_take, List.length_drop, List.length_cons, List.length_nil]; omega)
  ·(simp only [List.length_append, List.length_take, List.length_drop, List.length_cons, List.length_nil]; done)
  have h6 : k.toNat < l.length → ¬ l.getD k.toNat 0 < n := by
    intro g1 g2
    rw [decide_eq_true (show k < (l.length : Int) by omega), decide_eq_true g2] at b2
    cases b2
  have h7 : ¬ (k.toNat < l.length ∧ l.getD k.toNat 0 = n) := by
    rintro ⟨g1, g2⟩
    rw [decide_eq_true (show k < (l.length : Int) by omega), g2] at b4
    simp at b4
  rw [putL_at l n k.toNat (by omega) h3 h6, if_neg h7]
  simp
theorem J97 (l : ZI) (n : Int) (hl : l.length ≤ 1048576) : PCs Tryz.prog 140 [.sl (.ints l), .int .i64 n] 0 (.sl (.ints (putL l n))) :=
  pcs_wf @Tryz.call140 fun hw => pcs_by (by kernel_rfl) Tryz.func140 @Tryz.call140 (by kernel_rfl) JdO (Jdp l n) (by kernel_rfl) (Jd3 l n hl hw.1) (by kernel_rfl)
def J84 : List D → Orc := orcS 0 fun ds => match ds with
  | [.sl (.ints l), .int .i64 n] => some (.sl (.ints (putL l n)))
  | _ => none
theorem Jh {α : Type} {xs : List α} {k : Nat} {d : α} (h : k < xs.length) : xs.getD k d = xs[k] := by simp [h]
abbrev J01 (xs : ZI) (x : Int) (i : Int) : Prop := (0 ≤ i) ∧ (i ≤ (xs.length : Int)) ∧ (∀ k, k < i.toNat → (fun y => x == y) (xs.getD k 0) = false)
abbrev J00 (xs : ZI) (x : Int) (i : Int) : Nat := (xs.length - i).toNat
def J5g (f : FuncId) (ds : List D) : Orc := .no
def J5b (xs : ZI) (x : Int) : Ann := .two (.none) (.two (.two (.none) (.loop (cut1 (fun (i : Int) => J01 xs x i) (fun (i : Int) => [(0, .d false (.sl (.ints xs))), (1, .d false (.int .i64 x)), (7, .d true (.int .i64 (xs.length : Int))), (8, .d true (.int .i64 i))]) (fun (i : Int) => [])) (fun g => J00 xs x g) (fun _ => .none))) (.none))
def J2l (xs : ZI) (x : Int) : Prop :=
  ((∃ i' : Int, (J01 xs x i') ∧ (xs = xs) ∧ (x = x) ∧ ((xs.length : Int) = (xs.length : Int)) ∧ ((0 : Int) = i')) ∧ (∀ i : Int, (J01 xs x i) → (((decide (i < (xs.length : Int))) = true → ((0 : Int) ≤ i) ∧ ((i : Int) < xs.length) ∧ (i.toNat < xs.length) ∧ (((x == (xs.getD i.toNat 0)) = true → ((i = (idxI (fun y => x == y) xs)))) ∧ ((x == (xs.getD i.toNat 0)) = false → (I6 (i + 1)) ∧ (∃ i' : Int, (J01 xs x i') ∧ (J00 xs x i' < J00 xs x i) ∧ (xs = xs) ∧ (x = x) ∧ ((xs.length : Int) = (xs.length : Int)) ∧ ((i + 1) = i'))))) ∧ ((decide (i < (xs.length : Int))) = false → ((((-1) : Int) = (idxI (fun y => x == y) xs)))))))
theorem J4W (xs : ZI) (x : Int)  (w_xs : (xs.length : Int) ≤ 9223372036854775807) : J2l xs x := by
  unfold J2l
  refine ⟨?_, ?_⟩
  ·refine ⟨0, ?_⟩
   refine ⟨?_, rfl, rfl, rfl, rfl⟩
   ·refine ⟨?_, ?_, ?_⟩
    ·omega
    ·omega
    ·omega
  intro i hJ
  obtain ⟨h1, h2, h3⟩ := hJ
  refine ⟨?_, ?_⟩
  ·intro b1
   try simp only [nrmT] at b1
   refine ⟨?_, ?_, ?_, ?_, ?_⟩
   ·omega
   ·omega
   ·omega
   ·intro b2
    try simp only [nrmT] at b2
    exact idx_found (p := fun y => x == y) h1 b1 h3 (by simpa using b2)
   intro b3
   try simp only [nrmT] at b3
   refine ⟨?_, ?_⟩
   ·omega
   refine ⟨(i + 1), ?_⟩
   refine ⟨?_, ?_, rfl, rfl, rfl, rfl⟩
   ·refine ⟨?_, ?_, ?_⟩
    ·omega
    ·omega
    ·exact idx_step (p := fun y => x == y) h1 h3 (by simpa using b3)
   (simp only [J00]; omega)
  intro b4
  try simp only [nrmT] at b4
  exact (idx_none (by omega) h3).symm
theorem J50 (xs : ZI) (x : Int)  : PC Tryz.prog 152 [.sl (.ints xs), .int .i64 x] (.one (.d (.int .i64 (idxI (fun y => x == y) xs)))) :=
  pc_wf @Tryz.call152 fun hw => pc_by (by kernel_rfl) Tryz.func152 @Tryz.call152 (by kernel_rfl) J5g (J5b xs x) (by kernel_rfl) (J4W xs x hw.1) (by kernel_rfl)
def J4S : List D → Orc := orcN [some .ints, none] fun ds => match ds with
  | [.sl (.ints xs), .int .i64 x] => some (.one (.d (.int .i64 (idxI (fun y => x == y) xs))))
  | _ => none
theorem JcT {l : ZI} {lo hi : Int} (h : Asc l) (hb : ∀ x ∈ l, lo ≤ x ∧ x ≤ hi) : J2 l lo hi = true := by
  unfold J2
  rw [allTo_iff]
  intro k hk
  unfold J1w
  simp only [Bool.and_eq_true, Bool.or_eq_true, decide_eq_true_eq]
  have h1 := hb _ (getD_mem (d := 0) hk)
  refine ⟨decide_eq_true h1, ?_⟩
  by_cases e : k = 0
  · exact .inl e
  refine .inr ?_
  have h2 := List.pairwise_iff_getElem.1 h (k - 1) k (by omega) hk (by omega)
  rw [Jh hk, Jh (show k - 1 < l.length by omega)]
  exact h2
def J94 (f : FuncId) (ds : List D) : Orc := bif Nat.beq f 162 then J5O ds else .no
def J9t (U : ZI) (E : ZR) (set : ZI) : Ann := .none
def J5j (U : ZI) (E : ZR) (set : ZI) : Prop :=
  ((decide ((set.length : Int) > 0)) = true → (decide ((set.length : Int) > 0)) = true) ∧ ((decide ((set.length : Int) > 0)) = true → (decide ((set.length : Int) > 0)) = true) ∧ ((decide ((set.length : Int) > 0)) = true → (decide ((set.length : Int) > 0)) = true) ∧ ((decide ((set.length : Int) > 0)) = true → (decide ((set.length : Int) > 0)) = true) ∧ ((decide ((set.length : Int) > 0)) = true → PC Tryz.prog 162 [.sl (.ints set), .int .i64 (U.length : Int)] (.one (.d (.bool (J2 set 0 ((U.length : Int) - 1)))))) ∧ (true = true) ∧ (((decide ((set.length : Int) > 0)) = true → (decide ((set.length : Int) > 0)) = true)) ∧ (((decide ((set.length : Int) > 0)) = false → true = true)) ∧ (((cond (decide ((set.length : Int) > 0)) (J2 set 0 ((U.length : Int) - 1)) false) = (J2 set 0 ((U.length : Int) - 1) && decide (0 < set.length))))
theorem J8g (U : ZI) (E : ZR) (set : ZI)  (w_Open : (U.length : Int) ≤ 9223372036854775807) (w_Dist : (E.length : Int) ≤ 9223372036854775807) (v_Dist : ∀ x9 ∈ E, (x9.length : Int) ≤ 9223372036854775807) (w_set : (set.length : Int) ≤ 9223372036854775807) : J5j U E set := by
  unfold J5j
  refine ⟨id, id, id, id, ?_, rfl, id, fun _ => rfl, ?_⟩
  ·intro hg
   refine J6z set (U.length : Int) ?_
   ·omega
  rw [(show decide ((set.length : Int) > 0) = decide (0 < set.length) by rw [Bool.eq_iff_iff]; simp only [decide_eq_true_eq]; omega)]
  cases J2 set 0 ((U.length : Int) - 1) <;> cases decide (0 < set.length) <;> rfl
theorem J8j (U : ZI) (E : ZR) (set : ZI)  : PC Tryz.prog 203 [.agg [.sl (.ints U), .sl (.rows E)], .sl (.ints set)] (.one (.d (.bool (J2 set 0 ((U.length : Int) - 1) && decide (0 < set.length))))) :=
  pc_wf @Tryz.call203 fun hw => pc_by (by kernel_rfl) Tryz.func203 @Tryz.call203 (by kernel_rfl) J94 (J9t U E set) (by kernel_rfl) (J8g U E set hw.1.1 hw.1.2.1.1 hw.1.2.1.2 hw.2.1) (by kernel_rfl)
def J7F : List D → Orc := orcN [none, some .ints] fun ds => match ds with
  | [.agg [.sl (.ints U), .sl (.rows E)], .sl (.ints set)] => some (.one (.d (.bool (J2 set 0 ((U.length : Int) - 1) && decide (0 < set.length)))))
  | _ => none
def Jbm (f : FuncId) (ds : List D) : Orc := bif Nat.beq f 111 then J2O ds else bif Nat.beq f 203 then J7F ds else .no
def JbD (U : ZI) (E : ZR) (set : ZI) : Ann := .none
def J70 (U : ZI) (E : ZR) (set : ZI) : Prop :=
  (PC Tryz.prog 111 [.agg [.sl (.ints U), .sl (.rows E)]] (.one (.d (.bool (J0 U E))))) ∧ ((J0 U E) = true → (J0 U E) = true) ∧ ((J0 U E) = true → (J0 U E) = true) ∧ ((J0 U E) = true → PC Tryz.prog 203 [.agg [.sl (.ints U), .sl (.rows E)], .sl (.ints set)] (.one (.d (.bool (J2 set 0 ((U.length : Int) - 1) && decide (0 < set.length)))))) ∧ (true = true) ∧ (((J0 U E) = true → (J0 U E) = true)) ∧ (((J0 U E) = false → true = true)) ∧ (((cond (J0 U E) (J2 set 0 ((U.length : Int) - 1) && decide (0 < set.length)) false) = (J0 U E && J2 set 0 ((U.length : Int) - 1) && decide (0 < set.length))))
theorem JaK (U : ZI) (E : ZR) (set : ZI)  (w_Open : (U.length : Int) ≤ 9223372036854775807) (w_Dist : (E.length : Int) ≤ 9223372036854775807) (v_Dist : ∀ x9 ∈ E, (x9.length : Int) ≤ 9223372036854775807) (w_set : (set.length : Int) ≤ 9223372036854775807) : J70 U E set := by
  unfold J70
  refine ⟨J3Q U E, id, id, fun _ => J8j U E set, rfl, id, fun _ => rfl, ?_⟩
  ·cases J0 U E <;> cases J2 set 0 ((U.length : Int) - 1) <;> cases decide (0 < set.length) <;> rfl
theorem JaS (U : ZI) (E : ZR) (set : ZI)  : PC Tryz.prog 113 [.agg [.sl (.ints U), .sl (.rows E)], .sl (.ints set)] (.one (.d (.bool (J0 U E && J2 set 0 ((U.length : Int) - 1) && decide (0 < set.length))))) :=
  pc_wf @Tryz.call113 fun hw => pc_by (by kernel_rfl) Tryz.func113 @Tryz.call113 (by kernel_rfl) Jbm (JbD U E set) (by kernel_rfl) (JaK U E set hw.1.1 hw.1.2.1.1 hw.1.2.1.2 hw.2.1) (by kernel_rfl)
def J9H : List D → Orc := orcN [none, some .ints] fun ds => match ds with
  | [.agg [.sl (.ints U), .sl (.rows E)], .sl (.ints set)] => some (.one (.d (.bool (J0 U E && J2 set 0 ((U.length : Int) - 1) && decide (0 < set.length)))))
  | _ => none
theorem J3b {U set : ZI} {E : ZR} (h : (J0 U E && J2 set 0 ((U.length : Int) - 1) && decide (0 < set.length)) = true) :
    J0 U E = true ∧ J2 set 0 ((U.length : Int) - 1) = true ∧ 0 < set.length := by
  simp only [Bool.and_eq_true, decide_eq_true_eq] at h
  exact ⟨h.1.1, h.1.2, h.2⟩
theorem J7v {b x : Int} (hb : 0 ≤ b ∧ b ≤ 4611686018427387903) (h2 : x ≤ 62) (h : 0 < b / 2 ^ x.toNat) : x < 62 := by
  by_cases e : x = 62
  · subst e
    have e2 : (2 : Int) ^ (62 : Int).toNat = 4611686018427387904 := by decide
    rw [e2] at h
    omega
  omega
theorem Jck {b : Int} {m : Nat} (hb : 0 ≤ b) (h : ¬ 0 < b / 2 ^ m) (k : Nat) (hk : m ≤ k) : b.toNat.testBit k = false := by
  have h1 : b.toNat / 2 ^ m = 0 := by
    have h2 : ((b.toNat / 2 ^ m : Nat) : Int) = b / 2 ^ m := by
      rw [Int.natCast_ediv, Int.toNat_of_nonneg hb]; simp
    have h3 : (0 : Int) ≤ ((b.toNat / 2 ^ m : Nat) : Int) := Int.natCast_nonneg _
    omega
  have h4 : b.toNat < 2 ^ m := (Nat.div_eq_zero_iff_lt (Nat.two_pow_pos m)).1 h1
  exact Nat.testBit_lt_two_pow (Nat.lt_of_lt_of_le h4 (Nat.pow_le_pow_right (by omega) hk))
theorem J1X {p : Nat → Bool} {m : Nat} (h : ∀ k, m ≤ k → p k = false) : ∀ n, m ≤ n → members p n = members p m
  | 0, hn => by have : m = 0 := by omega
                rw [this]
  | n + 1, hn => by
    by_cases e : m = n + 1
    · rw [e]
    rw [members_succ, J1X h n (by omega), h n (by omega)]; simp
abbrev J1i (b : Int) (out : ZI) (x : Int) : Prop := (0 ≤ x) ∧ (x ≤ 62) ∧ (out = members (fun k => b.toNat.testBit k) x.toNat)
abbrev J0c (b : Int) (out : ZI) (x : Int) : Nat := (62 - x).toNat
def Jbv (f : FuncId) (ds : List D) : Orc := bif Nat.beq f 138 then J6A ds else .no
def Jbt (b : Int) : Ann := .two (.none) (.two (.none) (.two (.two (.none) (.loop (cut2 (fun (out : ZI) (x : Int) => J1i b out x) (fun (out : ZI) (x : Int) => [(0, .d false (.int .u64 b)), (3, .own 1000000 out.length), (4, .d true (.int .i64 x))]) (fun (out : ZI) (x : Int) => [(1000000, .arr true 3 (.ints out))])) (fun g => J0c b g.1 g.2) (fun _ => .none))) (.none)))
def J7g (b : Int) : Prop :=
  ((∃ out' : ZI, ∃ x' : Int, (J1i b out' x') ∧ (b = b) ∧ ((0 : Nat) = out'.length) ∧ ((0 : Int) = x') ∧ ([] = out')) ∧ (∀ out : ZI, ∀ x : Int, (J1i b out x) → ((0 : Int) ≤ b ∧ (b : Int) ≤ 18446744073709551615) ∧ ((0 : Int) ≤ x) ∧ (((decide ((b / 2 ^ x.toNat) > 0)) = true → (PC Tryz.prog 138 [.int .u64 b, .int .i64 x] (.one (.d (.bool (b.toNat.testBit x.toNat))))) ∧ (((b.toNat.testBit x.toNat) = true → (out.length = out.length) ∧ ((1 : Nat) = 1) ∧ ((out.length + 1) * 8 ≤ 140737488355328) ∧ (I6 (x + 1)) ∧ (∃ out' : ZI, ∃ x' : Int, (J1i b out' x') ∧ (J0c b out' x' < J0c b out x) ∧ (b = b) ∧ ((out.length + 1) = out'.length) ∧ ((x + 1) = x') ∧ ((out ++ [x]) = out'))) ∧ ((b.toNat.testBit x.toNat) = false → (I6 (x + 1)) ∧ (∃ out' : ZI, ∃ x' : Int, (J1i b out' x') ∧ (J0c b out' x' < J0c b out x) ∧ (b = b) ∧ (out.length = out'.length) ∧ ((x + 1) = x') ∧ (out = out'))))) ∧ ((decide ((b / 2 ^ x.toNat) > 0)) = false → ((out.length = out.length) ∧ ((out : ZI) = members (fun k => b.toNat.testBit k) 62))))))
theorem JaM (b : Int) (hb : 0 ≤ b ∧ b ≤ 4611686018427387903)  : J7g b := by
  unfold J7g
  refine ⟨?_, ?_⟩
  ·refine ⟨([]), 0, ?_⟩
   refine ⟨?_, rfl, rfl, rfl, ?_⟩
   ·refine ⟨?_, ?_, ?_⟩
    ·omega
    ·omega
    ·rfl
   rfl
  intro out x hJ
  obtain ⟨h1, h2, h3⟩ := hJ
  refine ⟨?_, ?_, ?_, ?_⟩
  ·omega
  ·omega
  ·intro b1
   try simp only [nrmT] at b1
   refine ⟨?_, ?_, ?_⟩
   ·refine J6W b x ?_ ?_
    ·omega
    ·omega
   ·intro b2
    try simp only [nrmT] at b2
    refine ⟨rfl, rfl, ?_, ?_, ?_⟩
    ·rw [h3]; have := members_len_le (fun k => b.toNat.testBit k) x.toNat; omega
    ·omega
    refine ⟨(out ++ [x]), (x + 1), ?_⟩
    refine ⟨?_, ?_, rfl, ?_, rfl, rfl⟩
    ·refine ⟨?_, ?_, ?_⟩
     ·omega
     ·have := J7v hb h2 b1; omega
     ·rw [h3, show (x + 1).toNat = x.toNat + 1 by omega, members_succ, b2]; simp; try omega
    ·have := J7v hb h2 b1
     (simp only [J0c]; omega)
    (simp_all; done)
   intro b3
   try simp only [nrmT] at b3
   refine ⟨?_, ?_⟩
   ·omega
   refine ⟨out, (x + 1), ?_⟩
   refine ⟨?_, ?_, rfl, rfl, rfl, rfl⟩
   ·refine ⟨?_, ?_, ?_⟩
    ·omega
    ·have := J7v hb h2 b1; omega
    ·rw [h3, show (x + 1).toNat = x.toNat + 1 by omega, members_succ, b3]; simp; try omega
   have := J7v hb h2 b1
   (simp only [J0c]; omega)
  intro b4
  try simp only [nrmT] at b4
  refine ⟨rfl, ?_⟩
  ·rw [h3]; refine (J1X (fun k hk => Jck hb.1 (m := x.toNat) (by omega) k hk) 62 (by omega)).symm
theorem J4B (b : Int) (hb : 0 ≤ b ∧ b ≤ 4611686018427387903) : PC Tryz.prog 139 [.int .u64 b] (.one (.own 3 (.ints (members (fun k => b.toNat.testBit k) 62)))) :=
  pc_wf @Tryz.call139 fun _ => pc_by (by kernel_rfl) Tryz.func139 @Tryz.call139 (by kernel_rfl) Jbv (Jbt b) (by kernel_rfl) (JaM b hb) (by kernel_rfl)
def J5N : List D → Orc := orcN [none] fun ds => match ds with
  | [.int .u64 b] => some (.one (.own 3 (.ints (members (fun k => b.toNat.testBit k) 62))))
  | _ => none
def J2U (row set : ZI) (b : Int) (k : Nat) : Int := if row.getD (set.getD k 0).toNat 0 < row.getD b.toNat 0 then set.getD k 0 else b
def Jn (row set : ZI) (k : Nat) : Int := foldTo (J2U row set) (set.getD 0 0) k
theorem Jd2 (row set : ZI) : Jn row set 1 = set.getD 0 0 := by
  show J2U row set (set.getD 0 0) 0 = _
  unfold J2U; split <;> rfl
theorem J0y (row set : ZI) (k : Nat) : Jn row set (k + 1) = J2U row set (Jn row set k) k := rfl
theorem J4p {row set : ZI} {n : Int} (h : ∀ k, k < set.length → 0 ≤ set.getD k 0 ∧ set.getD k 0 < n) (hp : 0 < set.length) : ∀ k, k ≤ set.length → 0 ≤ Jn row set k ∧ Jn row set k < n
  | 0, _ => h 0 hp
  | k + 1, hk => by
    rw [J0y]
    unfold J2U
    split
    · exact h k (by omega)
    exact J4p h hp k (by omega)
abbrev J1N (U : ZI) (E : ZR) (client : Int) (set : ZI) (best : Int) (k : Int) : Prop := (1 ≤ k) ∧ (k ≤ (set.length : Int)) ∧ (best = Jn (E.getD client.toNat []) set k.toNat)
abbrev J0E (U : ZI) (E : ZR) (client : Int) (set : ZI) (best : Int) (k : Int) : Nat := (set.length - k).toNat
def Jcv (f : FuncId) (ds : List D) : Orc := .no
def JcY (U : ZI) (E : ZR) (client : Int) (set : ZI) : Ann := .two (.none) (.two (.none) (.two (.two (.none) (.loop (cut2 (fun (best : Int) (k : Int) => J1N U E client set best k) (fun (best : Int) (k : Int) => [(1, .d false (.int .i64 client)), (2, .d false (.sl (.ints set))), (3, .ptr 3 0), (7, .d true (.int .i64 best)), (8, .d true (.int .i64 k))]) (fun (best : Int) (k : Int) => [(3, .box 27 [.d false (.sl (.ints U)), .d false (.sl (.rows E))])])) (fun g => J0E U E client set g.1 g.2) (fun _ => .none))) (.none)))
def J9d (U : ZI) (E : ZR) (client : Int) (set : ZI) : Prop :=
  ((0 : Int) ≤ 0) ∧ ((0 : Int) < set.length) ∧ (0 < set.length) ∧ ((∃ best' : Int, ∃ k' : Int, (J1N U E client set best' k') ∧ (client = client) ∧ (set = set) ∧ ((set.getD 0 0) = best') ∧ ((1 : Int) = k') ∧ (U = U) ∧ (E = E)) ∧ (∀ best : Int, ∀ k : Int, (J1N U E client set best k) → (((decide (k < (set.length : Int))) = true → (true = true) ∧ ((0 : Int) ≤ client) ∧ ((client : Int) < E.length) ∧ (client.toNat < E.length) ∧ ((0 : Int) ≤ k) ∧ ((k : Int) < set.length) ∧ (k.toNat < set.length) ∧ ((0 : Int) ≤ (set.getD k.toNat 0)) ∧ (((set.getD k.toNat 0) : Int) < (E.getD client.toNat []).length) ∧ ((set.getD k.toNat 0).toNat < (E.getD client.toNat []).length) ∧ ((0 : Int) ≤ client) ∧ ((client : Int) < E.length) ∧ (client.toNat < E.length) ∧ ((0 : Int) ≤ best) ∧ ((best : Int) < (E.getD client.toNat []).length) ∧ (best.toNat < (E.getD client.toNat []).length) ∧ (((decide (((E.getD client.toNat []).getD ((set.getD k.toNat 0).toNat) 0) < ((E.getD client.toNat []).getD best.toNat 0))) = true → ((0 : Int) ≤ k) ∧ ((k : Int) < set.length) ∧ (k.toNat < set.length) ∧ (I6 (k + 1)) ∧ (∃ best' : Int, ∃ k' : Int, (J1N U E client set best' k') ∧ (J0E U E client set best' k' < J0E U E client set best k) ∧ (client = client) ∧ (set = set) ∧ ((set.getD k.toNat 0) = best') ∧ ((k + 1) = k') ∧ (U = U) ∧ (E = E))) ∧ ((decide (((E.getD client.toNat []).getD ((set.getD k.toNat 0).toNat) 0) < ((E.getD client.toNat []).getD best.toNat 0))) = false → (I6 (k + 1)) ∧ (∃ best' : Int, ∃ k' : Int, (J1N U E client set best' k') ∧ (J0E U E client set best' k' < J0E U E client set best k) ∧ (client = client) ∧ (set = set) ∧ (best = best') ∧ ((k + 1) = k') ∧ (U = U) ∧ (E = E))))) ∧ ((decide (k < (set.length : Int))) = false → ((best = (Jn (E.getD client.toNat []) set set.length)))))))
theorem Jcc (U : ZI) (E : ZR) (client : Int) (set : ZI) (ht : (J0 U E && J2 set 0 ((U.length : Int) - 1) && decide (0 < set.length)) = true) (hc : 0 ≤ client ∧ client < (E.length : Int)) (w_Open : (U.length : Int) ≤ 9223372036854775807) (w_Dist : (E.length : Int) ≤ 9223372036854775807) (v_Dist : ∀ x9 ∈ E, (x9.length : Int) ≤ 9223372036854775807) (w_set : (set.length : Int) ≤ 9223372036854775807) : J9d U E client set := by
  unfold J9d
  obtain ⟨hg, hs, hp⟩ := J3b ht
  obtain ⟨g1, g2, g3⟩ := Jb hg
  have cs := fun k => J3i hs k
  obtain ⟨rl, rb⟩ := J8 (i := client.toNat) hg (by omega)
  have si := J4p (row := E.getD client.toNat []) (set := set) (n := (U.length : Int)) (fun k hk => by have := cs k hk; omega) hp
  refine ⟨?_, ?_, ?_, ?_, ?_⟩
  ·omega
  ·omega
  ·omega
  ·refine ⟨(set.getD 0 0), 1, ?_⟩
   refine ⟨?_, rfl, rfl, rfl, rfl, rfl, rfl⟩
   ·refine ⟨?_, ?_, ?_⟩
    ·omega
    ·omega
    ·exact (Jd2 _ _).symm
  intro best k hJ
  obtain ⟨h1, h2, h3⟩ := hJ
  refine ⟨?_, ?_⟩
  ·intro b1
   try simp only [nrmT] at b1
   refine ⟨rfl, ?_, ?_, ?_, ?_, ?_, ?_, ?_, ?_, ?_, ?_, ?_, ?_, ?_, ?_, ?_, ?_, ?_⟩
   ·omega
   ·omega
   ·omega
   ·omega
   ·omega
   ·omega
   ·have := cs k.toNat (by omega)
    omega
   ·have := cs k.toNat (by omega)
    omega
   ·have := cs k.toNat (by omega)
    omega
   ·omega
   ·omega
   ·omega
   ·have := si k.toNat (by omega)
    omega
   ·have := si k.toNat (by omega)
    omega
   ·have := si k.toNat (by omega)
    omega
   ·intro b2
    try simp only [nrmT] at b2
    refine ⟨?_, ?_, ?_, ?_, ?_⟩
    ·omega
    ·omega
    ·omega
    ·omega
    refine ⟨(set.getD k.toNat 0), (k + 1), ?_⟩
    refine ⟨?_, ?_, rfl, rfl, rfl, rfl, rfl, rfl⟩
    ·refine ⟨?_, ?_, ?_⟩
     ·omega
     ·omega
     ·rw [show (k + 1).toNat = k.toNat + 1 by omega, J0y, ← h3]; unfold J2U; rw [if_pos b2]
    (simp only [J0E]; omega)
   intro b3
   try simp only [nrmT] at b3
   refine ⟨?_, ?_⟩
   ·omega
   refine ⟨best, (k + 1), ?_⟩
   refine ⟨?_, ?_, rfl, rfl, rfl, rfl, rfl, rfl⟩
   ·refine ⟨?_, ?_, ?_⟩
    ·omega
    ·omega
    ·rw [show (k + 1).toNat = k.toNat + 1 by omega, J0y, ← h3]; unfold J2U; rw [if_neg (by omega)]
   (simp only [J0E]; omega)
  intro b4
  try simp only [nrmT] at b4
  rw [h3, show k.toNat = set.length by omega]
theorem Jc2 (U : ZI) (E : ZR) (client : Int) (set : ZI) (ht : (J0 U E && J2 set 0 ((U.length : Int) - 1) && decide (0 < set.length)) = true) (hc : 0 ≤ client ∧ client < (E.length : Int)) : PC Tryz.prog 153 [.agg [.sl (.ints U), .sl (.rows E)], .int .i64 client, .sl (.ints set)] (.one (.d (.int .i64 (Jn (E.getD client.toNat []) set set.length)))) :=
  pc_wf @Tryz.call153 fun hw => pc_by (by kernel_rfl) Tryz.func153 @Tryz.call153 (by kernel_rfl) Jcv (JcY U E client set) (by kernel_rfl) (Jcc U E client set ht hc hw.1.1 hw.1.2.1.1 hw.1.2.1.2 hw.2.2.1) (by kernel_rfl)
def Jbr : List D → Orc := orcN [none, none, some .ints] fun ds => match ds with
  | [.agg [.sl (.ints U), .sl (.rows E)], .int .i64 client, .sl (.ints set)] => some (.one (.d (.int .i64 (Jn (E.getD client.toNat []) set set.length))))
  | _ => none
abbrev J0e (U : ZI) (E : ZR) (client : Int) (set : ZI) (best : Int) (k : Int) : Prop := (0 ≤ k) ∧ (k ≤ (set.length : Int)) ∧ (best = Jn (E.getD client.toNat []) set k.toNat)
abbrev JI (U : ZI) (E : ZR) (client : Int) (set : ZI) (best : Int) (k : Int) : Nat := (set.length - k).toNat
def J8l (f : FuncId) (ds : List D) : Orc := .no
def J8u (U : ZI) (E : ZR) (client : Int) (set : ZI) : Ann := .two (.none) (.two (.none) (.two (.two (.none) (.loop (cut2 (fun (best : Int) (k : Int) => J0e U E client set best k) (fun (best : Int) (k : Int) => [(1, .d false (.int .i64 client)), (3, .ptr 3 0), (7, .d true (.int .i64 best)), (13, .d false (.sl (.ints set))), (14, .d true (.int .i64 (set.length : Int))), (15, .d true (.int .i64 k))]) (fun (best : Int) (k : Int) => [(3, .box 27 [.d false (.sl (.ints U)), .d false (.sl (.rows E))])])) (fun g => JI U E client set g.1 g.2) (fun _ => .none))) (.none)))
def J4Z (U : ZI) (E : ZR) (client : Int) (set : ZI) : Prop :=
  ((0 : Int) ≤ 0) ∧ ((0 : Int) < set.length) ∧ (0 < set.length) ∧ ((∃ best' : Int, ∃ k' : Int, (J0e U E client set best' k') ∧ (client = client) ∧ ((set.getD 0 0) = best') ∧ (set = set) ∧ ((set.length : Int) = (set.length : Int)) ∧ ((0 : Int) = k') ∧ (U = U) ∧ (E = E)) ∧ (∀ best : Int, ∀ k : Int, (J0e U E client set best k) → (((decide (k < (set.length : Int))) = true → ((0 : Int) ≤ k) ∧ ((k : Int) < set.length) ∧ (k.toNat < set.length) ∧ (true = true) ∧ ((0 : Int) ≤ client) ∧ ((client : Int) < E.length) ∧ (client.toNat < E.length) ∧ ((0 : Int) ≤ (set.getD k.toNat 0)) ∧ (((set.getD k.toNat 0) : Int) < (E.getD client.toNat []).length) ∧ ((set.getD k.toNat 0).toNat < (E.getD client.toNat []).length) ∧ ((0 : Int) ≤ client) ∧ ((client : Int) < E.length) ∧ (client.toNat < E.length) ∧ ((0 : Int) ≤ best) ∧ ((best : Int) < (E.getD client.toNat []).length) ∧ (best.toNat < (E.getD client.toNat []).length) ∧ (((decide (((E.getD client.toNat []).getD ((set.getD k.toNat 0).toNat) 0) < ((E.getD client.toNat []).getD best.toNat 0))) = true → (I6 (k + 1)) ∧ (∃ best' : Int, ∃ k' : Int, (J0e U E client set best' k') ∧ (JI U E client set best' k' < JI U E client set best k) ∧ (client = client) ∧ ((set.getD k.toNat 0) = best') ∧ (set = set) ∧ ((set.length : Int) = (set.length : Int)) ∧ ((k + 1) = k') ∧ (U = U) ∧ (E = E))) ∧ ((decide (((E.getD client.toNat []).getD ((set.getD k.toNat 0).toNat) 0) < ((E.getD client.toNat []).getD best.toNat 0))) = false → (I6 (k + 1)) ∧ (∃ best' : Int, ∃ k' : Int, (J0e U E client set best' k') ∧ (JI U E client set best' k' < JI U E client set best k) ∧ (client = client) ∧ (best = best') ∧ (set = set) ∧ ((set.length : Int) = (set.length : Int)) ∧ ((k + 1) = k') ∧ (U = U) ∧ (E = E))))) ∧ ((decide (k < (set.length : Int))) = false → ((best = (Jn (E.getD client.toNat []) set set.length)))))))
theorem J7Y (U : ZI) (E : ZR) (client : Int) (set : ZI) (ht : (J0 U E && J2 set 0 ((U.length : Int) - 1) && decide (0 < set.length)) = true) (hc : 0 ≤ client ∧ client < (E.length : Int)) (w_Open : (U.length : Int) ≤ 9223372036854775807) (w_Dist : (E.length : Int) ≤ 9223372036854775807) (v_Dist : ∀ x9 ∈ E, (x9.length : Int) ≤ 9223372036854775807) (w_set : (set.length : Int) ≤ 9223372036854775807) : J4Z U E client set := by
  unfold J4Z
  obtain ⟨hg, hs, hp⟩ := J3b ht
  obtain ⟨g1, g2, g3⟩ := Jb hg
  have cs := fun k => J3i hs k
  obtain ⟨rl, rb⟩ := J8 (i := client.toNat) hg (by omega)
  have si := J4p (row := E.getD client.toNat []) (set := set) (n := (U.length : Int)) (fun k hk => by have := cs k hk; omega) hp
  refine ⟨?_, ?_, ?_, ?_, ?_⟩
  ·omega
  ·omega
  ·omega
  ·refine ⟨(set.getD 0 0), 0, ?_⟩
   refine ⟨?_, rfl, rfl, rfl, rfl, rfl, rfl, rfl⟩
   ·refine ⟨?_, ?_, ?_⟩
    ·omega
    ·omega
    ·rfl
  intro best k hJ
  obtain ⟨h1, h2, h3⟩ := hJ
  refine ⟨?_, ?_⟩
  ·intro b1
   try simp only [nrmT] at b1
   refine ⟨?_, ?_, ?_, rfl, ?_, ?_, ?_, ?_, ?_, ?_, ?_, ?_, ?_, ?_, ?_, ?_, ?_, ?_⟩
   ·omega
   ·omega
   ·omega
   ·omega
   ·omega
   ·omega
   ·have := cs k.toNat (by omega)
    omega
   ·have := cs k.toNat (by omega)
    omega
   ·have := cs k.toNat (by omega)
    omega
   ·omega
   ·omega
   ·omega
   ·have := si k.toNat (by omega)
    omega
   ·have := si k.toNat (by omega)
    omega
   ·have := si k.toNat (by omega)
    omega
   ·intro b2
    try simp only [nrmT] at b2
    refine ⟨?_, ?_⟩
    ·omega
    refine ⟨(set.getD k.toNat 0), (k + 1), ?_⟩
    refine ⟨?_, ?_, rfl, rfl, rfl, rfl, rfl, rfl, rfl⟩
    ·refine ⟨?_, ?_, ?_⟩
     ·omega
     ·omega
     ·rw [show (k + 1).toNat = k.toNat + 1 by omega, J0y, ← h3]; unfold J2U; rw [if_pos b2]
    (simp only [JI]; omega)
   intro b3
   try simp only [nrmT] at b3
   refine ⟨?_, ?_⟩
   ·omega
   refine ⟨best, (k + 1), ?_⟩
   refine ⟨?_, ?_, rfl, rfl, rfl, rfl, rfl, rfl, rfl⟩
   ·refine ⟨?_, ?_, ?_⟩
    ·omega
    ·omega
    ·rw [show (k + 1).toNat = k.toNat + 1 by omega, J0y, ← h3]; unfold J2U; rw [if_neg (by omega)]
   (simp only [JI]; omega)
  intro b4
  try simp only [nrmT] at b4
  rw [h3, show k.toNat = set.length by omega]
theorem J7H (U : ZI) (E : ZR) (client : Int) (set : ZI) (ht : (J0 U E && J2 set 0 ((U.length : Int) - 1) && decide (0 < set.length)) = true) (hc : 0 ≤ client ∧ client < (E.length : Int)) : PC Tryz.prog 212 [.agg [.sl (.ints U), .sl (.rows E)], .int .i64 client, .sl (.ints set)] (.one (.d (.int .i64 (Jn (E.getD client.toNat []) set set.length)))) :=
  pc_wf @Tryz.call212 fun hw => pc_by (by kernel_rfl) Tryz.func212 @Tryz.call212 (by kernel_rfl) J8l (J8u U E client set) (by kernel_rfl) (J7Y U E client set ht hc hw.1.1 hw.1.2.1.1 hw.1.2.1.2 hw.2.2.1) (by kernel_rfl)
def J7n : List D → Orc := orcN [none, none, some .ints] fun ds => match ds with
  | [.agg [.sl (.ints U), .sl (.rows E)], .int .i64 client, .sl (.ints set)] => some (.one (.d (.int .i64 (Jn (E.getD client.toNat []) set set.length))))
  | _ => none
def Jp (E : ZR) (set : ZI) (n : Nat) : ZI := (List.range n).map fun i => Jn (E.getD i []) set set.length
def J2V (E : ZR) (set : ZI) (i : Nat) : Int := (E.getD i []).getD (Jn (E.getD i []) set set.length).toNat 0
def JF (E : ZR) (set : ZI) (n : Nat) : ZI := (List.range n).map (J2V E set)
theorem Jaf (E : ZR) (set : ZI) (n : Nat) : (Jp E set n).length = n := by simp [Jp]
theorem J3c (E : ZR) (set : ZI) (n : Nat) : (JF E set n).length = n := by simp [JF]
theorem J4N (E : ZR) (set : ZI) (n i : Nat) (h : i < n) : (Jp E set n).getD i 0 = Jn (E.getD i []) set set.length := by simp [Jp, h]
theorem Jd8 (E : ZR) (set : ZI) (n i : Nat) (h : i < n) : (JF E set n).getD i 0 = J2V E set i := by simp [JF, h]
theorem Jct (E : ZR) (set : ZI) (n : Nat) : Jp E set (n + 1) = Jp E set n ++ [Jn (E.getD n []) set set.length] := by simp [Jp, List.range_succ]
theorem JcM (E : ZR) (set : ZI) (n : Nat) : JF E set (n + 1) = JF E set n ++ [J2V E set n] := by simp [JF, List.range_succ]
abbrev J18 (U : ZI) (E : ZR) (set : ZI) (out : ZI) (i : Int) : Prop := (0 ≤ i) ∧ (i ≤ (E.length : Int)) ∧ (out = Jp E set i.toNat)
abbrev J16 (U : ZI) (E : ZR) (set : ZI) (out : ZI) (i : Int) : Nat := (E.length - i).toNat
def J8i (f : FuncId) (ds : List D) : Orc := bif Nat.beq f 212 then J7n ds else .no
def J8o (U : ZI) (E : ZR) (set : ZI) : Ann := .two (.none) (.two (.none) (.two (.two (.none) (.loop (cut2 (fun (out : ZI) (i : Int) => J18 U E set out i) (fun (out : ZI) (i : Int) => [(1, .d false (.sl (.ints set))), (2, .ptr 2 0), (5, .own 1000000 out.length), (10, .d true (.int .i64 (E.length : Int))), (11, .d true (.int .i64 i))]) (fun (out : ZI) (i : Int) => [(1000000, .arr true 3 (.ints out)), (2, .box 27 [.d false (.sl (.ints U)), .d false (.sl (.rows E))])])) (fun g => J16 U E set g.1 g.2) (fun _ => .none))) (.none)))
def J58 (U : ZI) (E : ZR) (set : ZI) : Prop :=
  ((∃ out' : ZI, ∃ i' : Int, (J18 U E set out' i') ∧ (set = set) ∧ ((0 : Nat) = out'.length) ∧ ((E.length : Int) = (E.length : Int)) ∧ ((0 : Int) = i') ∧ ([] = out') ∧ (U = U) ∧ (E = E)) ∧ (∀ out : ZI, ∀ i : Int, (J18 U E set out i) → (((decide (i < (E.length : Int))) = true → (PC Tryz.prog 212 [.agg [.sl (.ints U), .sl (.rows E)], .int .i64 i, .sl (.ints set)] (.one (.d (.int .i64 (Jn (E.getD i.toNat []) set set.length))))) ∧ (out.length = out.length) ∧ ((1 : Nat) = 1) ∧ ((out.length + 1) * 8 ≤ 140737488355328) ∧ (I6 (i + 1)) ∧ (∃ out' : ZI, ∃ i' : Int, (J18 U E set out' i') ∧ (J16 U E set out' i' < J16 U E set out i) ∧ (set = set) ∧ ((out.length + 1) = out'.length) ∧ ((E.length : Int) = (E.length : Int)) ∧ ((i + 1) = i') ∧ ((out ++ [(Jn (E.getD i.toNat []) set set.length)]) = out') ∧ (U = U) ∧ (E = E))) ∧ ((decide (i < (E.length : Int))) = false → ((out.length = out.length) ∧ ((out : ZI) = Jp E set E.length))))))
theorem J7S (U : ZI) (E : ZR) (set : ZI) (ht : (J0 U E && J2 set 0 ((U.length : Int) - 1) && decide (0 < set.length)) = true) (w_Open : (U.length : Int) ≤ 9223372036854775807) (w_Dist : (E.length : Int) ≤ 9223372036854775807) (v_Dist : ∀ x9 ∈ E, (x9.length : Int) ≤ 9223372036854775807) (w_set : (set.length : Int) ≤ 9223372036854775807) : J58 U E set := by
  unfold J58
  obtain ⟨hg, hs, hp⟩ := J3b ht
  obtain ⟨g1, g2, g3⟩ := Jb hg
  have cs := fun k => J3i hs k
  have si := fun (i : Nat) (hi : i < E.length) => J4p (row := E.getD i []) (set := set) (n := (U.length : Int)) (fun k hk => by have := cs k hk; omega) hp set.length (Nat.le_refl _)
  refine ⟨?_, ?_⟩
  ·refine ⟨([]), 0, ?_⟩
   refine ⟨?_, rfl, rfl, rfl, rfl, ?_, rfl, rfl⟩
   ·refine ⟨?_, ?_, ?_⟩
    ·omega
    ·omega
    ·rfl
   rfl
  intro out i hJ
  obtain ⟨h1, h2, h3⟩ := hJ
  refine ⟨?_, ?_⟩
  ·intro b1
   try simp only [nrmT] at b1
   refine ⟨?_, rfl, rfl, ?_, ?_, ?_⟩
   ·refine J7H U E i set ?_ ?_
    ·omega
    ·omega
   ·rw [h3, Jaf]; omega
   ·omega
   refine ⟨(out ++ [(Jn (E.getD i.toNat []) set set.length)]), (i + 1), ?_⟩
   refine ⟨?_, ?_, rfl, ?_, rfl, rfl, rfl, rfl, rfl⟩
   ·refine ⟨?_, ?_, ?_⟩
    ·omega
    ·omega
    ·rw [h3, show (i + 1).toNat = i.toNat + 1 by omega, Jct]
   ·(simp only [J16]; omega)
   (simp_all; done)
  intro b2
  try simp only [nrmT] at b2
  refine ⟨rfl, ?_⟩
  ·rw [h3, show i.toNat = E.length by omega]
theorem J7T (U : ZI) (E : ZR) (set : ZI) (ht : (J0 U E && J2 set 0 ((U.length : Int) - 1) && decide (0 < set.length)) = true) : PC Tryz.prog 151 [.agg [.sl (.ints U), .sl (.rows E)], .sl (.ints set)] (.one (.own 3 (.ints (Jp E set E.length)))) :=
  pc_wf @Tryz.call151 fun hw => pc_by (by kernel_rfl) Tryz.func151 @Tryz.call151 (by kernel_rfl) J8i (J8o U E set) (by kernel_rfl) (J7S U E set ht hw.1.1 hw.1.2.1.1 hw.1.2.1.2 hw.2.1) (by kernel_rfl)
def J7f : List D → Orc := orcN [none, some .ints] fun ds => match ds with
  | [.agg [.sl (.ints U), .sl (.rows E)], .sl (.ints set)] => some (.one (.own 3 (.ints (Jp E set E.length))))
  | _ => none
abbrev J0V (U : ZI) (E : ZR) (set : ZI) (out : ZI) (i : Int) : Prop := (0 ≤ i) ∧ (i ≤ (E.length : Int)) ∧ (out = JF E set i.toNat)
abbrev J0T (U : ZI) (E : ZR) (set : ZI) (out : ZI) (i : Int) : Nat := (E.length - i).toNat
def J7J (f : FuncId) (ds : List D) : Orc := bif Nat.beq f 151 then J7f ds else .no
def J80 (U : ZI) (E : ZR) (set : ZI) : Ann := .two (.none) (.two (.none) (.two (.two (.none) (.loop (cut2 (fun (out : ZI) (i : Int) => J0V U E set out i) (fun (out : ZI) (i : Int) => [(2, .ptr 2 0), (5, .own 1000000 out.length), (11, .own 11 ((Jp E set E.length).length)), (12, .d true (.int .i64 (((Jp E set E.length).length) : Int))), (13, .d true (.int .i64 i))]) (fun (out : ZI) (i : Int) => [(1000000, .arr true 3 (.ints out)), (2, .box 27 [.d false (.sl (.ints U)), .d false (.sl (.rows E))]), (11, .arr true 3 (.ints (Jp E set E.length)))])) (fun g => J0T U E set g.1 g.2) (fun _ => .none))) (.none)))
def J4H (U : ZI) (E : ZR) (set : ZI) : Prop :=
  (PC Tryz.prog 151 [.agg [.sl (.ints U), .sl (.rows E)], .sl (.ints set)] (.one (.own 3 (.ints (Jp E set E.length))))) ∧ ((∃ out' : ZI, ∃ i' : Int, (J0V U E set out' i') ∧ ((0 : Nat) = out'.length) ∧ ((Jp E set E.length).length = (Jp E set E.length).length) ∧ ((((Jp E set E.length).length) : Int) = (((Jp E set E.length).length) : Int)) ∧ ((0 : Int) = i') ∧ ([] = out') ∧ (U = U) ∧ (E = E) ∧ (Jp E set E.length = Jp E set E.length)) ∧ (∀ out : ZI, ∀ i : Int, (J0V U E set out i) → (((decide (i < (((Jp E set E.length).length) : Int))) = true → ((0 : Int) ≤ i) ∧ ((i : Int) < (((Jp E set E.length).length) : Int)) ∧ (i.toNat < (Jp E set E.length).length) ∧ ((0 : Int) ≤ i) ∧ ((i : Int) < E.length) ∧ (i.toNat < E.length) ∧ ((0 : Int) ≤ ((Jp E set E.length).getD i.toNat 0)) ∧ ((((Jp E set E.length).getD i.toNat 0) : Int) < (E.getD i.toNat []).length) ∧ (((Jp E set E.length).getD i.toNat 0).toNat < (E.getD i.toNat []).length) ∧ (out.length = out.length) ∧ ((1 : Nat) = 1) ∧ ((out.length + 1) * 8 ≤ 140737488355328) ∧ (I6 (i + 1)) ∧ (∃ out' : ZI, ∃ i' : Int, (J0V U E set out' i') ∧ (J0T U E set out' i' < J0T U E set out i) ∧ ((out.length + 1) = out'.length) ∧ ((Jp E set E.length).length = (Jp E set E.length).length) ∧ ((((Jp E set E.length).length) : Int) = (((Jp E set E.length).length) : Int)) ∧ ((i + 1) = i') ∧ ((out ++ [((E.getD i.toNat []).getD (((Jp E set E.length).getD i.toNat 0).toNat) 0)]) = out') ∧ (U = U) ∧ (E = E) ∧ (Jp E set E.length = Jp E set E.length))) ∧ ((decide (i < (((Jp E set E.length).length) : Int))) = false → ((out.length = out.length) ∧ ((out : ZI) = JF E set E.length))))))
theorem J7a (U : ZI) (E : ZR) (set : ZI) (ht : (J0 U E && J2 set 0 ((U.length : Int) - 1) && decide (0 < set.length)) = true) (w_Open : (U.length : Int) ≤ 9223372036854775807) (w_Dist : (E.length : Int) ≤ 9223372036854775807) (v_Dist : ∀ x9 ∈ E, (x9.length : Int) ≤ 9223372036854775807) (w_set : (set.length : Int) ≤ 9223372036854775807) : J4H U E set := by
  unfold J4H
  obtain ⟨hg, hs, hp⟩ := J3b ht
  obtain ⟨g1, g2, g3⟩ := Jb hg
  have cs := fun k => J3i hs k
  have si := fun (i : Nat) (hi : i < E.length) => J4p (row := E.getD i []) (set := set) (n := (U.length : Int)) (fun k hk => by have := cs k hk; omega) hp set.length (Nat.le_refl _)
  have e0 := Jaf E set E.length
  refine ⟨?_, ?_, ?_⟩
  ·refine J7T U E set ?_
   ·omega
  ·refine ⟨([]), 0, ?_⟩
   refine ⟨?_, rfl, rfl, rfl, rfl, ?_, rfl, rfl, rfl⟩
   ·refine ⟨?_, ?_, ?_⟩
    ·omega
    ·omega
    ·rfl
   rfl
  intro out i hJ
  obtain ⟨h1, h2, h3⟩ := hJ
  refine ⟨?_, ?_⟩
  ·intro b1
   try simp only [nrmT] at b1
   refine ⟨?_, ?_, ?_, ?_, ?_, ?_, ?_, ?_, ?_, rfl, rfl, ?_, ?_, ?_⟩
   ·omega
   ·omega
   ·omega
   ·omega
   ·omega
   ·omega
   ·rw [J4N _ _ _ _ (by omega)]; obtain ⟨rl, rb⟩ := J8 (i := i.toNat) hg (by omega); have := si i.toNat (by omega); omega
   ·rw [J4N _ _ _ _ (by omega)]; obtain ⟨rl, rb⟩ := J8 (i := i.toNat) hg (by omega); have := si i.toNat (by omega); omega
   ·rw [J4N _ _ _ _ (by omega)]; obtain ⟨rl, rb⟩ := J8 (i := i.toNat) hg (by omega); have := si i.toNat (by omega); omega
   ·rw [h3, J3c]; omega
   ·omega
   refine ⟨(out ++ [((E.getD i.toNat []).getD (((Jp E set E.length).getD i.toNat 0).toNat) 0)]), (i + 1), ?_⟩
   refine ⟨?_, ?_, ?_, rfl, rfl, rfl, rfl, rfl, rfl, rfl⟩
   ·refine ⟨?_, ?_, ?_⟩
    ·omega
    ·omega
    ·rw [h3, show (i + 1).toNat = i.toNat + 1 by omega, JcM, J4N _ _ _ _ (by omega)]; rfl
   ·(simp only [J0T]; omega)
   (simp_all; done)
  intro b2
  try simp only [nrmT] at b2
  refine ⟨rfl, ?_⟩
  ·rw [h3, show i.toNat = E.length by omega]
theorem J7k (U : ZI) (E : ZR) (set : ZI) (ht : (J0 U E && J2 set 0 ((U.length : Int) - 1) && decide (0 < set.length)) = true) : PC Tryz.prog 149 [.agg [.sl (.ints U), .sl (.rows E)], .sl (.ints set)] (.one (.own 3 (.ints (JF E set E.length)))) :=
  pc_wf @Tryz.call149 fun hw => pc_by (by kernel_rfl) Tryz.func149 @Tryz.call149 (by kernel_rfl) J7J (J80 U E set) (by kernel_rfl) (J7a U E set ht hw.1.1 hw.1.2.1.1 hw.1.2.1.2 hw.2.1) (by kernel_rfl)
def J6L : List D → Orc := orcN [none, some .ints] fun ds => match ds with
  | [.agg [.sl (.ints U), .sl (.rows E)], .sl (.ints set)] => some (.one (.own 3 (.ints (JF E set E.length))))
  | _ => none
theorem J9p {row set : ZI} (hp : 0 < set.length) : ∀ k, k ≤ set.length → Jn row set k ∈ set
  | 0, _ => getD_mem hp
  | k + 1, hk => by
    rw [J0y]
    unfold J2U
    split
    · exact getD_mem (by omega)
    exact J9p hp k (by omega)
theorem Jap {xs : ZI} {lo hi : Int} (h : J2 xs lo hi = true) {i : Nat} : ∀ {j : Nat}, i < j → j < xs.length → xs.getD i 0 < xs.getD j 0
  | 0, hi, _ => by omega
  | j + 1, hi, hj => by
    have h1 := allTo_iff.1 h (j + 1) hj
    simp only [J1w, Bool.and_eq_true, Bool.or_eq_true, decide_eq_true_eq, Nat.add_sub_cancel] at h1
    have h2 := h1.2
    by_cases e : i = j
    · subst e; omega
    have := Jap h (i := i) (j := j) (by omega) (by omega)
    omega
def Jd7 (f : FuncId) (ds : List D) : Orc := .no
def JcQ (a : Int) (b : Int) : Ann := .none
def J90 (a : Int) (b : Int) : Prop :=
  (((decide (a > b)) = true → ((a = (max a b)))) ∧ ((decide (a > b)) = false → ((b = (max a b)))))
theorem JbR (a : Int) (b : Int)   : J90 a b := by
  unfold J90
  refine ⟨?_, ?_⟩
  ·intro b1
   try simp only [nrmT] at b1
   omega
  intro b2
  try simp only [nrmT] at b2
  omega
theorem J86 (a : Int) (b : Int)  : PC Tryz.prog 154 [.int .i64 a, .int .i64 b] (.one (.d (.int .i64 (max a b)))) :=
  pc_wf @Tryz.call154 fun _ => pc_by (by kernel_rfl) Tryz.func154 @Tryz.call154 (by kernel_rfl) Jd7 (JcQ a b) (by kernel_rfl) (JbR a b) (by kernel_rfl)
def J7e : List D → Orc := orcN [none, none] fun ds => match ds with
  | [.int .i64 a, .int .i64 b] => some (.one (.d (.int .i64 (max a b))))
  | _ => none
theorem J6n (n : Nat) (E : ZR) (i j r : Int) : J05 n E i j r = J05 n E j i r := by
  unfold J05
  refine allTo_congr fun k _ => ?_
  unfold J26
  rw [Bool.and_comm]
theorem JaZ (n : Nat) (E : ZR) (i j r : Int) : J6 n E [i, j] r = J05 n E i j r := by
  rw [J6n]
  rfl
theorem J8A (n : Nat) (E : ZR) (out : ZI) (j r : Int) : J6 n E (out ++ [j]) r = (J6 n E out r && out.all (fun c => J05 n E j c r)) := by
  unfold J6
  rw [List.length_append, List.length_cons, List.length_nil]
  show (allTo _ out.length && _) = _
  congr 1
  · refine allTo_congr fun i hi => allTo_congr fun k hk => ?_
    simp only [List.getD_eq_getElem?_getD]
    rw [List.getElem?_append_left hi, List.getElem?_append_left (by omega)]
  rw [← allTo_list (d := 0)]
  refine allTo_congr fun k hk => ?_
  simp only [List.getD_eq_getElem?_getD]
  rw [List.getElem?_append_left hk, List.getElem?_append_right (Nat.le_refl _)]
  simp
def J6b (n : Nat) (E : ZR) (r : Int) (out : ZI) (j : Nat) : ZI := if out.all (fun c => J05 n E (j : Int) c r) = true then out ++ [(j : Int)] else out
def Jm (n : Nat) (E : ZR) (r : Int) (k : Nat) : ZI := foldTo (J6b n E r) [] k
theorem J1q (n : Nat) (E : ZR) (r : Int) (k : Nat) : Jm n E r (k + 1) = J6b n E r (Jm n E r k) k := rfl
theorem J03 (n : Nat) (E : ZR) (r : Int) : ∀ k, J6 n E (Jm n E r k) r = true ∧ (Jm n E r k).length ≤ k ∧ ∀ c ∈ Jm n E r k, 0 ≤ c ∧ c < (k : Int)
  | 0 => ⟨rfl, Nat.le_refl _, fun c hc => by cases hc⟩
  | k + 1 => by
    obtain ⟨h1, h2, h3⟩ := J03 n E r k
    rw [J1q]
    unfold J6b
    split
    · rename_i h
      refine ⟨by rw [J8A, h1, h]; rfl, by simp; omega, fun c hc => ?_⟩
      rcases List.mem_append.1 hc with hc | hc
      · have := h3 c hc; omega
      simp at hc; omega
    exact ⟨h1, by omega, fun c hc => by have := h3 c hc; omega⟩
def Jc (U : ZI) (E : ZR) (r : Int) : ZI := if (J0 U E && decide (0 ≤ r)) = true then Jm U.length E r E.length else []
def JdF (f : FuncId) (ds : List D) : Orc := .no
def Jdv (l : ZI) : Ann := .none
def Jag (l : ZI) : Prop :=
  ((0 : Nat) = 0) ∧ (True) ∧ ((0 + l.length) * 8 ≤ 140737488355328) ∧ (((0 + l.length) = ([] ++ l).length) ∧ ((([] ++ l) : ZI) = l))
theorem Jd9 (l : ZI) (hl : l.length ≤ 1048576) (w_l : (l.length : Int) ≤ 9223372036854775807) : Jag l := by
  unfold Jag
  refine ⟨rfl, trivial, ?_, ?_, ?_⟩
  ·omega
  ·(simp_all; done)
  rfl
theorem J4L (l : ZI) (hl : l.length ≤ 1048576) : PC Tryz.prog 98 [.sl (.ints l)] (.one (.own 3 (.ints l))) :=
  pc_wf @Tryz.call98 fun hw => pc_by (by kernel_rfl) Tryz.func98 @Tryz.call98 (by kernel_rfl) JdF (Jdv l) (by kernel_rfl) (Jd9 l hl hw.1) (by kernel_rfl)
def J5y : List D → Orc := orcN [some .ints] fun ds => match ds with
  | [.sl (.ints l)] => some (.one (.own 3 (.ints l)))
  | _ => none
abbrev J0q (U : ZI) (E : ZR) (r : Int) (out : ZI) (j : Int) : Prop := (0 ≤ j) ∧ (j ≤ (E.length : Int)) ∧ (out = Jm U.length E r j.toNat)
abbrev JM (U : ZI) (E : ZR) (r : Int) (out : ZI) (j : Int) : Nat := (E.length - j).toNat
def J9i (f : FuncId) (ds : List D) : Orc := bif Nat.beq f 98 then J5y ds else bif Nat.beq f 165 then J5q ds else .no
def J9k (U : ZI) (E : ZR) (r : Int) : Ann := .two (.none) (.two (.none) (.two (.two (.none) (.loop (cut2 (fun (out : ZI) (j : Int) => J0q U E r out j) (fun (out : ZI) (j : Int) => [(1, .d false (.int .i64 r)), (2, .ptr 2 0), (5, .own 1000000 out.length), (6, .d true (.int .i64 j))]) (fun (out : ZI) (j : Int) => [(1000000, .arr true 3 (.ints out)), (2, .box 27 [.d false (.sl (.ints U)), .d false (.sl (.rows E))])])) (fun g => JM U E r g.1 g.2) (fun _ => .none))) (.none)))
def J5i (U : ZI) (E : ZR) (r : Int) : Prop :=
  ((∃ out' : ZI, ∃ j' : Int, (J0q U E r out' j') ∧ (r = r) ∧ ((0 : Nat) = out'.length) ∧ ((0 : Int) = j') ∧ ([] = out') ∧ (U = U) ∧ (E = E)) ∧ (∀ out : ZI, ∀ j : Int, (J0q U E r out j) → (((decide (j < (E.length : Int))) = true → (true = true) ∧ (out.length = out.length) ∧ (PC Tryz.prog 98 [.sl (.ints out)] (.one (.own 3 (.ints out)))) ∧ (out.length = out.length) ∧ ((1 : Nat) = 1) ∧ ((out.length + 1) * 8 ≤ 140737488355328) ∧ ((out.length + 1) = (out ++ [j]).length) ∧ (PC Tryz.prog 165 [.agg [.sl (.ints U), .sl (.rows E)], .sl (.ints (out ++ [j])), .int .i64 r] (.one (.d (.bool (J6 U.length E (out ++ [j]) r))))) ∧ (((J6 U.length E (out ++ [j]) r) = true → (out.length = out.length) ∧ ((1 : Nat) = 1) ∧ ((out.length + 1) * 8 ≤ 140737488355328) ∧ (I6 (j + 1)) ∧ (∃ out' : ZI, ∃ j' : Int, (J0q U E r out' j') ∧ (JM U E r out' j' < JM U E r out j) ∧ (r = r) ∧ ((out.length + 1) = out'.length) ∧ ((j + 1) = j') ∧ ((out ++ [j]) = out') ∧ (U = U) ∧ (E = E))) ∧ ((J6 U.length E (out ++ [j]) r) = false → (I6 (j + 1)) ∧ (∃ out' : ZI, ∃ j' : Int, (J0q U E r out' j') ∧ (JM U E r out' j' < JM U E r out j) ∧ (r = r) ∧ (out.length = out'.length) ∧ ((j + 1) = j') ∧ (out = out') ∧ (U = U) ∧ (E = E))))) ∧ ((decide (j < (E.length : Int))) = false → ((out.length = out.length) ∧ ((out : ZI) = (Jm U.length E r E.length)))))))
theorem J8J (U : ZI) (E : ZR) (r : Int) (hg : J0 U E = true) (w_Open : (U.length : Int) ≤ 9223372036854775807) (w_Dist : (E.length : Int) ≤ 9223372036854775807) (v_Dist : ∀ x9 ∈ E, (x9.length : Int) ≤ 9223372036854775807) : J5i U E r := by
  unfold J5i
  obtain ⟨g1, g2, g3⟩ := Jb hg
  have tf := J03 U.length E r
  refine ⟨?_, ?_⟩
  ·refine ⟨([]), 0, ?_⟩
   refine ⟨?_, rfl, rfl, rfl, ?_, rfl, rfl⟩
   ·refine ⟨?_, ?_, ?_⟩
    ·omega
    ·omega
    ·rfl
   rfl
  intro out j hJ
  obtain ⟨h1, h2, h3⟩ := hJ
  refine ⟨?_, ?_⟩
  ·intro b1
   try simp only [nrmT] at b1
   refine ⟨rfl, rfl, ?_, rfl, rfl, ?_, ?_, ?_, ?_, ?_⟩
   ·refine J4L out ?_
    ·have := (tf j.toNat).2.1
     rw [← h3] at this
     omega
   ·have := (tf j.toNat).2.1
    rw [← h3] at this
    omega
   ·simp
   ·refine J66 U E (out ++ [j]) r ?_ ?_
    ·omega
    ·have h7 := (tf j.toNat).2.2
     rw [← h3] at h7
     intro c hc
     rcases List.mem_append.1 hc with hc | hc
     · have := h7 c hc; omega
     simp at hc; omega
   ·intro b2
    try simp only [nrmT] at b2
    refine ⟨rfl, rfl, ?_, ?_, ?_⟩
    ·have := (tf j.toNat).2.1
     rw [← h3] at this
     omega
    ·omega
    refine ⟨(out ++ [j]), (j + 1), ?_⟩
    refine ⟨?_, ?_, rfl, ?_, rfl, rfl, rfl, rfl⟩
    ·refine ⟨?_, ?_, ?_⟩
     ·omega
     ·omega
     ·rw [J8A, h3, (tf j.toNat).1, Bool.true_and] at b2
      rw [show (j + 1).toNat = j.toNat + 1 by omega, J1q, h3]
      unfold J6b
      rw [show ((j.toNat : Nat) : Int) = j by omega, if_pos b2]
    ·(simp only [JM]; omega)
    simp
   intro b3
   try simp only [nrmT] at b3
   refine ⟨?_, ?_⟩
   ·omega
   refine ⟨out, (j + 1), ?_⟩
   refine ⟨?_, ?_, rfl, rfl, rfl, rfl, rfl, rfl⟩
   ·refine ⟨?_, ?_, ?_⟩
    ·omega
    ·omega
    ·rw [J8A, h3, (tf j.toNat).1, Bool.true_and] at b3
     rw [show (j + 1).toNat = j.toNat + 1 by omega, J1q, h3]
     unfold J6b
     rw [show ((j.toNat : Nat) : Int) = j by omega, if_neg (by rw [b3]; decide)]
   (simp only [JM]; omega)
  intro b4
  try simp only [nrmT] at b4
  refine ⟨rfl, ?_⟩
  ·rw [h3, show j.toNat = E.length by omega]
theorem J52 (U : ZI) (E : ZR) (r : Int) (hg : J0 U E = true) : PC Tryz.prog 167 [.agg [.sl (.ints U), .sl (.rows E)], .int .i64 r] (.one (.d (.sl (.ints (Jm U.length E r E.length))))) :=
  pc_wf @Tryz.call167 fun hw => pc_by (by kernel_rfl) Tryz.func167 @Tryz.call167 (by kernel_rfl) J9i (J9k U E r) (by kernel_rfl) (J8J U E r hg hw.1.1 hw.1.2.1.1 hw.1.2.1.2) (by kernel_rfl)
def J4D : List D → Orc := orcN [none, none] fun ds => match ds with
  | [.agg [.sl (.ints U), .sl (.rows E)], .int .i64 r] => some (.one (.d (.sl (.ints (Jm U.length E r E.length)))))
  | _ => none
def J5I (f : FuncId) (ds : List D) : Orc := bif Nat.beq f 163 then J1Q ds else .no
def J5R (j : Int) (U : ZI) (E : ZR) (c0 : Int) (r : Int) : Ann := .none
def J3j (j : Int) (U : ZI) (E : ZR) (c0 : Int) (r : Int) : Prop :=
  ((2 : Nat) = 2) ∧ (PC Tryz.prog 163 [.agg [.sl (.ints U), .sl (.rows E)], .sl (.ints ([c0, j])), .int .i64 r] (.one (.d (.bool (J6 U.length E ([c0, j]) r))))) ∧ (((!(J6 U.length E ([c0, j]) r)) = (!(J6 U.length E [c0, j] r))))
theorem J5A (j : Int) (U : ZI) (E : ZR) (c0 : Int) (r : Int) (hg : J0 U E = true) (hi : 0 ≤ c0 ∧ c0 < (E.length : Int)) (hj : 0 ≤ j ∧ j < (E.length : Int)) (w_Open : (U.length : Int) ≤ 9223372036854775807) (w_Dist : (E.length : Int) ≤ 9223372036854775807) (v_Dist : ∀ x9 ∈ E, (x9.length : Int) ≤ 9223372036854775807) : J3j j U E c0 r := by
  unfold J3j
  refine ⟨rfl, ?_, ?_⟩
  ·refine J2r U E ([c0, j]) r ?_ ?_
   ·omega
   ·intro c hc
    simp at hc
    rcases hc with rfl | rfl <;> assumption
  rfl
theorem J5B (j : Int) (U : ZI) (E : ZR) (c0 : Int) (r : Int) (hg : J0 U E = true) (hi : 0 ≤ c0 ∧ c0 < (E.length : Int)) (hj : 0 ≤ j ∧ j < (E.length : Int)) : PC Tryz.prog 219 [.int .i64 j, .bx [.sl (.ints U), .sl (.rows E)] 0, .bx [.int .i64 c0] 0, .bx [.int .i64 r] 0] (.one (.d (.bool (!(J6 U.length E [c0, j] r))))) :=
  pc_wf @Tryz.call219 fun hw => pc_by (by kernel_rfl) Tryz.func219 @Tryz.call219 (by kernel_rfl) J5I (J5R j U E c0 r) (by kernel_rfl) (J5A j U E c0 r hg hi hj hw.2.1.1 hw.2.1.2.1.1 hw.2.1.2.1.2) (by kernel_rfl)
def J5c : List D → Orc := orcN [none, none, none, none] fun ds => match ds with
  | [.int .i64 j, .bx [.sl (.ints U), .sl (.rows E)] 0, .bx [.int .i64 c0] 0, .bx [.int .i64 r] 0] => some (.one (.d (.bool (!(J6 U.length E [c0, j] r)))))
  | _ => none
abbrev Jw (xs : ZI) (U : ZI) (E : ZR) (c0 : Int) (r : Int) (i : Int) : Prop := (0 ≤ i) ∧ (i ≤ (xs.length : Int)) ∧ (∀ k, k < i.toNat → (fun c => !(J6 U.length E [c0, c] r)) (xs.getD k 0) = false)
abbrev Jv (xs : ZI) (U : ZI) (E : ZR) (c0 : Int) (r : Int) (i : Int) : Nat := (xs.length - i).toNat
def J3M (f : FuncId) (ds : List D) : Orc := bif Nat.beq f 219 then J5c ds else .no
def J3N (xs : ZI) (U : ZI) (E : ZR) (c0 : Int) (r : Int) : Ann := .two (.none) (.two (.two (.none) (.loop (cut1 (fun (i : Int) => Jw xs U E c0 r i) (fun (i : Int) => [(0, .d false (.sl (.ints xs))), (1, .d false (.fn 219 0 [.bx [.sl (.ints U), .sl (.rows E)] 0, .bx [.int .i64 c0] 0, .bx [.int .i64 r] 0])), (7, .d true (.int .i64 (xs.length : Int))), (8, .d true (.int .i64 i))]) (fun (i : Int) => [])) (fun g => Jv xs U E c0 r g) (fun _ => .none))) (.none))
def J12 (xs : ZI) (U : ZI) (E : ZR) (c0 : Int) (r : Int) : Prop :=
  ((∃ i' : Int, (Jw xs U E c0 r i') ∧ (xs = xs) ∧ ((.fn 219 0 [.bx [.sl (.ints U), .sl (.rows E)] 0, .bx [.int .i64 c0] 0, .bx [.int .i64 r] 0] : D) = (.fn 219 0 [.bx [.sl (.ints U), .sl (.rows E)] 0, .bx [.int .i64 c0] 0, .bx [.int .i64 r] 0] : D)) ∧ ((xs.length : Int) = (xs.length : Int)) ∧ ((0 : Int) = i')) ∧ (∀ i : Int, (Jw xs U E c0 r i) → (((decide (i < (xs.length : Int))) = true → ((0 : Int) ≤ i) ∧ ((i : Int) < xs.length) ∧ (i.toNat < xs.length) ∧ (PC Tryz.prog 219 [.int .i64 (xs.getD i.toNat 0), .bx [.sl (.ints U), .sl (.rows E)] 0, .bx [.int .i64 c0] 0, .bx [.int .i64 r] 0] (.one (.d (.bool (!(J6 U.length E [c0, (xs.getD i.toNat 0)] r)))))) ∧ (((!(J6 U.length E [c0, (xs.getD i.toNat 0)] r)) = true → ((i = (idxI (fun c => !(J6 U.length E [c0, c] r)) xs)))) ∧ ((!(J6 U.length E [c0, (xs.getD i.toNat 0)] r)) = false → (I6 (i + 1)) ∧ (∃ i' : Int, (Jw xs U E c0 r i') ∧ (Jv xs U E c0 r i' < Jv xs U E c0 r i) ∧ (xs = xs) ∧ ((.fn 219 0 [.bx [.sl (.ints U), .sl (.rows E)] 0, .bx [.int .i64 c0] 0, .bx [.int .i64 r] 0] : D) = (.fn 219 0 [.bx [.sl (.ints U), .sl (.rows E)] 0, .bx [.int .i64 c0] 0, .bx [.int .i64 r] 0] : D)) ∧ ((xs.length : Int) = (xs.length : Int)) ∧ ((i + 1) = i'))))) ∧ ((decide (i < (xs.length : Int))) = false → ((((-1) : Int) = (idxI (fun c => !(J6 U.length E [c0, c] r)) xs)))))))
theorem J3l (xs : ZI) (U : ZI) (E : ZR) (c0 : Int) (r : Int) (hg : J0 U E = true) (hi : 0 ≤ c0 ∧ c0 < (E.length : Int)) (hx : ∀ c ∈ xs, 0 ≤ c ∧ c < (E.length : Int)) (w_xs : (xs.length : Int) ≤ 9223372036854775807) (w_Open : (U.length : Int) ≤ 9223372036854775807) (w_Dist : (E.length : Int) ≤ 9223372036854775807) (v_Dist : ∀ x9 ∈ E, (x9.length : Int) ≤ 9223372036854775807) : J12 xs U E c0 r := by
  unfold J12
  refine ⟨?_, ?_⟩
  ·refine ⟨0, ?_⟩
   refine ⟨?_, rfl, rfl, rfl, rfl⟩
   ·refine ⟨?_, ?_, ?_⟩
    ·omega
    ·omega
    ·omega
  intro i hJ
  obtain ⟨h1, h2, h3⟩ := hJ
  refine ⟨?_, ?_⟩
  ·intro b1
   try simp only [nrmT] at b1
   refine ⟨?_, ?_, ?_, ?_, ?_, ?_⟩
   ·omega
   ·omega
   ·omega
   ·refine J5B (xs.getD i.toNat 0) U E c0 r ?_ ?_ ?_
    ·omega
    ·omega
    ·exact hx _ (getD_memI h1 b1)
   ·intro b2
    try simp only [nrmT] at b2
    exact idx_found (p := fun c => !(J6 U.length E [c0, c] r)) h1 b1 h3 (by simpa using b2)
   intro b3
   try simp only [nrmT] at b3
   refine ⟨?_, ?_⟩
   ·omega
   refine ⟨(i + 1), ?_⟩
   refine ⟨?_, ?_, rfl, rfl, rfl, rfl⟩
   ·refine ⟨?_, ?_, ?_⟩
    ·omega
    ·omega
    ·exact idx_step (p := fun c => !(J6 U.length E [c0, c] r)) h1 h3 (by simpa using b3)
   (simp only [Jv]; omega)
  intro b4
  try simp only [nrmT] at b4
  exact (idx_none (by omega) h3).symm
theorem J3k (xs : ZI) (U : ZI) (E : ZR) (c0 : Int) (r : Int) (hg : J0 U E = true) (hi : 0 ≤ c0 ∧ c0 < (E.length : Int)) (hx : ∀ c ∈ xs, 0 ≤ c ∧ c < (E.length : Int)) : PC Tryz.prog 237 [.sl (.ints xs), .fn 219 0 [.bx [.sl (.ints U), .sl (.rows E)] 0, .bx [.int .i64 c0] 0, .bx [.int .i64 r] 0]] (.one (.d (.int .i64 (idxI (fun c => !(J6 U.length E [c0, c] r)) xs)))) :=
  pc_wf @Tryz.call237 fun hw => pc_by (by kernel_rfl) Tryz.func237 @Tryz.call237 (by kernel_rfl) J3M (J3N xs U E c0 r) (by kernel_rfl) (J3l xs U E c0 r hg hi hx hw.1 hw.2.1.1.1 hw.2.1.1.2.1.1 hw.2.1.1.2.1.2) (by kernel_rfl)
def J34 : List D → Orc := orcN [some .ints, none] fun ds => match ds with
  | [.sl (.ints xs), .fn f0 0 [.bx [.sl (.ints U), .sl (.rows E)] 0, .bx [.int .i64 c0] 0, .bx [.int .i64 r] 0]] => bif Nat.beq f0 219 then some (.one (.d (.int .i64 (idxI (fun c => !(J6 U.length E [c0, c] r)) xs)))) else none
  | _ => none
def J2K (f : FuncId) (ds : List D) : Orc := bif Nat.beq f 237 then J34 ds else .no
def J2z (xs : ZI) (U : ZI) (E : ZR) (c0 : Int) (r : Int) : Ann := .none
def J0z (xs : ZI) (U : ZI) (E : ZR) (c0 : Int) (r : Int) : Prop :=
  (PC Tryz.prog 237 [.sl (.ints xs), .fn 219 0 [.bx [.sl (.ints U), .sl (.rows E)] 0, .bx [.int .i64 c0] 0, .bx [.int .i64 r] 0]] (.one (.d (.int .i64 (idxI (fun c => !(J6 U.length E [c0, c] r)) xs))))) ∧ (((decide ((idxI (fun c => !(J6 U.length E [c0, c] r)) xs) ≥ 0)) = (xs.any (fun c => !(J6 U.length E [c0, c] r)))))
theorem J2o (xs : ZI) (U : ZI) (E : ZR) (c0 : Int) (r : Int) (hg : J0 U E = true) (hi : 0 ≤ c0 ∧ c0 < (E.length : Int)) (hx : ∀ c ∈ xs, 0 ≤ c ∧ c < (E.length : Int)) (w_xs : (xs.length : Int) ≤ 9223372036854775807) (w_Open : (U.length : Int) ≤ 9223372036854775807) (w_Dist : (E.length : Int) ≤ 9223372036854775807) (v_Dist : ∀ x9 ∈ E, (x9.length : Int) ≤ 9223372036854775807) : J0z xs U E c0 r := by
  unfold J0z
  refine ⟨?_, ?_⟩
  ·refine J3k xs U E c0 r ?_ ?_ ?_
   ·omega
   ·omega
   ·omega
  exact idx_any _ _
theorem J2v (xs : ZI) (U : ZI) (E : ZR) (c0 : Int) (r : Int) (hg : J0 U E = true) (hi : 0 ≤ c0 ∧ c0 < (E.length : Int)) (hx : ∀ c ∈ xs, 0 ≤ c ∧ c < (E.length : Int)) : PC Tryz.prog 218 [.sl (.ints xs), .fn 219 0 [.bx [.sl (.ints U), .sl (.rows E)] 0, .bx [.int .i64 c0] 0, .bx [.int .i64 r] 0]] (.one (.d (.bool (xs.any (fun c => !(J6 U.length E [c0, c] r)))))) :=
  pc_wf @Tryz.call218 fun hw => pc_by (by kernel_rfl) Tryz.func218 @Tryz.call218 (by kernel_rfl) J2K (J2z xs U E c0 r) (by kernel_rfl) (J2o xs U E c0 r hg hi hx hw.1 hw.2.1.1.1 hw.2.1.1.2.1.1 hw.2.1.1.2.1.2) (by kernel_rfl)
def J2c : List D → Orc := orcN [some .ints, none] fun ds => match ds with
  | [.sl (.ints xs), .fn f0 0 [.bx [.sl (.ints U), .sl (.rows E)] 0, .bx [.int .i64 c0] 0, .bx [.int .i64 r] 0]] => bif Nat.beq f0 219 then some (.one (.d (.bool (xs.any (fun c => !(J6 U.length E [c0, c] r)))))) else none
  | _ => none
abbrev JY (U : ZI) (E : ZR) (r : Int) (out : ZI) (i : Int) : Prop := (0 ≤ i) ∧ (i ≤ (E.length : Int)) ∧ (out = Jm U.length E r i.toNat)
abbrev Ju (U : ZI) (E : ZR) (r : Int) (out : ZI) (i : Int) : Nat := (E.length - i).toNat
def J6I (f : FuncId) (ds : List D) : Orc := bif Nat.beq f 218 then J2c ds else .no
def J6H (U : ZI) (E : ZR) (r : Int) : Ann := .two (.none) (.two (.none) (.two (.two (.none) (.loop (cut2 (fun (out : ZI) (i : Int) => JY U E r out i) (fun (out : ZI) (i : Int) => [(2, .ptr 2 0), (3, .ptr 3 0), (5, .own 1000000 out.length), (10, .d true (.int .i64 (E.length : Int))), (11, .d true (.int .i64 i))]) (fun (out : ZI) (i : Int) => [(1000000, .arr true 3 (.ints out)), (2, .box 27 [.d false (.sl (.ints U)), .d false (.sl (.rows E))]), (3, .box 3 [.d false (.int .i64 r)])])) (fun g => Ju U E r g.1 g.2) (fun _ => .none))) (.none)))
def J3W (U : ZI) (E : ZR) (r : Int) : Prop :=
  ((∃ out' : ZI, ∃ i' : Int, (JY U E r out' i') ∧ ((0 : Nat) = out'.length) ∧ ((E.length : Int) = (E.length : Int)) ∧ ((0 : Int) = i') ∧ ([] = out') ∧ (U = U) ∧ (E = E) ∧ (r = r)) ∧ (∀ out : ZI, ∀ i : Int, (JY U E r out i) → (((decide (i < (E.length : Int))) = true → (out.length = out.length) ∧ (PC Tryz.prog 218 [.sl (.ints out), .fn 219 0 [.bx [.sl (.ints U), .sl (.rows E)] 0, .bx [.int .i64 i] 0, .bx [.int .i64 r] 0]] (.one (.d (.bool (out.any (fun c => !(J6 U.length E [i, c] r))))))) ∧ (((!(out.any (fun c => !(J6 U.length E [i, c] r)))) = true → (out.length = out.length) ∧ ((1 : Nat) = 1) ∧ ((out.length + 1) * 8 ≤ 140737488355328) ∧ (I6 (i + 1)) ∧ (∃ out' : ZI, ∃ i' : Int, (JY U E r out' i') ∧ (Ju U E r out' i' < Ju U E r out i) ∧ ((out.length + 1) = out'.length) ∧ ((E.length : Int) = (E.length : Int)) ∧ ((i + 1) = i') ∧ ((out ++ [i]) = out') ∧ (U = U) ∧ (E = E) ∧ (r = r))) ∧ ((!(out.any (fun c => !(J6 U.length E [i, c] r)))) = false → (I6 (i + 1)) ∧ (∃ out' : ZI, ∃ i' : Int, (JY U E r out' i') ∧ (Ju U E r out' i' < Ju U E r out i) ∧ (out.length = out'.length) ∧ ((E.length : Int) = (E.length : Int)) ∧ ((i + 1) = i') ∧ (out = out') ∧ (U = U) ∧ (E = E) ∧ (r = r))))) ∧ ((decide (i < (E.length : Int))) = false → ((out.length = out.length) ∧ ((out : ZI) = Jm U.length E r E.length))))))
theorem J6i (U : ZI) (E : ZR) (r : Int) (hg : J0 U E = true) (w_Open : (U.length : Int) ≤ 9223372036854775807) (w_Dist : (E.length : Int) ≤ 9223372036854775807) (v_Dist : ∀ x9 ∈ E, (x9.length : Int) ≤ 9223372036854775807) : J3W U E r := by
  unfold J3W
  obtain ⟨g1, g2, g3⟩ := Jb hg
  have tf := J03 U.length E r
  refine ⟨?_, ?_⟩
  ·refine ⟨([]), 0, ?_⟩
   refine ⟨?_, rfl, rfl, rfl, ?_, rfl, rfl, rfl⟩
   ·refine ⟨?_, ?_, ?_⟩
    ·omega
    ·omega
    ·rfl
   rfl
  intro out i hJ
  obtain ⟨h1, h2, h3⟩ := hJ
  refine ⟨?_, ?_⟩
  ·intro b1
   try simp only [nrmT] at b1
   refine ⟨rfl, ?_, ?_, ?_⟩
   ·refine J2v out U E i r ?_ ?_ ?_
    ·omega
    ·omega
    ·have h7 := (tf i.toNat).2.2
     rw [← h3] at h7
     intro c hc
     have := h7 c hc; omega
   ·intro b2
    try simp only [nrmT] at b2
    refine ⟨rfl, rfl, ?_, ?_, ?_⟩
    ·have := (tf i.toNat).2.1
     rw [← h3] at this
     omega
    ·omega
    refine ⟨(out ++ [i]), (i + 1), ?_⟩
    refine ⟨?_, ?_, ?_, rfl, rfl, rfl, rfl, rfl, rfl⟩
    ·refine ⟨?_, ?_, ?_⟩
     ·omega
     ·omega
     ·have e : (out.any fun c => !(J6 U.length E [i, c] r)) = !(out.all fun c => J05 U.length E i c r) := by
        rw [← any_not, Bool.not_not]
        congr 1
        funext c
        rw [JaZ]
      rw [e] at b2
      rw [show (i + 1).toNat = i.toNat + 1 by omega, J1q, ← h3]
      unfold J6b
      rw [show ((i.toNat : Nat) : Int) = i by omega, if_pos (by simpa using b2)]
    ·(simp only [Ju]; omega)
    simp
   intro b3
   try simp only [nrmT] at b3
   refine ⟨?_, ?_⟩
   ·omega
   refine ⟨out, (i + 1), ?_⟩
   refine ⟨?_, ?_, rfl, rfl, rfl, rfl, rfl, rfl, rfl⟩
   ·refine ⟨?_, ?_, ?_⟩
    ·omega
    ·omega
    ·have e : (out.any fun c => !(J6 U.length E [i, c] r)) = !(out.all fun c => J05 U.length E i c r) := by
       rw [← any_not, Bool.not_not]
       congr 1
       funext c
       rw [JaZ]
     rw [e] at b3
     rw [show (i + 1).toNat = i.toNat + 1 by omega, J1q, ← h3]
     unfold J6b
     rw [show ((i.toNat : Nat) : Int) = i by omega, if_neg (by simpa using b3)]
   (simp only [Ju]; omega)
  intro b4
  try simp only [nrmT] at b4
  refine ⟨rfl, ?_⟩
  ·rw [h3, show i.toNat = E.length by omega]
theorem J3B (U : ZI) (E : ZR) (r : Int) (hg : J0 U E = true) : PC Tryz.prog 166 [.agg [.sl (.ints U), .sl (.rows E)], .int .i64 r] (.one (.own 3 (.ints (Jm U.length E r E.length)))) :=
  pc_wf @Tryz.call166 fun hw => pc_by (by kernel_rfl) Tryz.func166 @Tryz.call166 (by kernel_rfl) J6I (J6H U E r) (by kernel_rfl) (J6i U E r hg hw.1.1 hw.1.2.1.1 hw.1.2.1.2) (by kernel_rfl)
def J3h : List D → Orc := orcN [none, none] fun ds => match ds with
  | [.agg [.sl (.ints U), .sl (.rows E)], .int .i64 r] => some (.one (.own 3 (.ints (Jm U.length E r E.length))))
  | _ => none
def J6c (f : FuncId) (ds : List D) : Orc := bif Nat.beq f 112 then J0K ds else bif Nat.beq f 167 then J4D ds else .no
def J6j (U : ZI) (E : ZR) (r : Int) : Ann := .none
def J3P (U : ZI) (E : ZR) (r : Int) : Prop :=
  (PC Tryz.prog 112 [.agg [.sl (.ints U), .sl (.rows E)]] (.one (.d (.bool (J0 U E))))) ∧ ((!(!(J0 U E))) = true → (!(!(J0 U E))) = true) ∧ (true = true) ∧ (((!(J0 U E)) = true → true = true)) ∧ (((!(J0 U E)) = false → (!(!(J0 U E))) = true)) ∧ (((cond (!(J0 U E)) true (decide (r < 0))) = true → (((0 : Nat) = 0) ∧ (([] : ZI) = (Jc U E r)) ∧ (false = (J0 U E && decide (0 ≤ r))))) ∧ ((cond (!(J0 U E)) true (decide (r < 0))) = false → (PC Tryz.prog 167 [.agg [.sl (.ints U), .sl (.rows E)], .int .i64 r] (.one (.d (.sl (.ints (Jm U.length E r E.length)))))) ∧ ((((Jm U.length E r E.length) : ZI) = (Jc U E r)) ∧ (true = (J0 U E && decide (0 ≤ r))))))
theorem J5M (U : ZI) (E : ZR) (r : Int)  (w_Open : (U.length : Int) ≤ 9223372036854775807) (w_Dist : (E.length : Int) ≤ 9223372036854775807) (v_Dist : ∀ x9 ∈ E, (x9.length : Int) ≤ 9223372036854775807) : J3P U E r := by
  unfold J3P
  refine ⟨J1a U E, id, rfl, fun _ => rfl, ?_, ?_, ?_⟩
  ·(simp_all; done)
  ·intro b1
   refine ⟨rfl, ?_, ?_⟩
   ·have hq : (J0 U E && decide (0 ≤ r)) = false := by
      revert b1; cases J0 U E <;> by_cases h : r < 0 <;> simp [h] <;> omega
    unfold Jc; rw [hq]; rfl
   have hq : (J0 U E && decide (0 ≤ r)) = false := by
     revert b1; cases J0 U E <;> by_cases h : r < 0 <;> simp [h] <;> omega
   exact hq.symm
  intro b2
  refine ⟨?_, ?_, ?_⟩
  ·refine J52 U E r ?_
   ·have hq : (J0 U E && decide (0 ≤ r)) = true := by
      revert b2; cases J0 U E <;> by_cases h : r < 0 <;> simp [h] <;> omega
    rw [Bool.and_eq_true] at hq; exact hq.1
  ·have hq : (J0 U E && decide (0 ≤ r)) = true := by
     revert b2; cases J0 U E <;> by_cases h : r < 0 <;> simp [h] <;> omega
   unfold Jc; rw [if_pos hq]
  have hq : (J0 U E && decide (0 ≤ r)) = true := by
    revert b2; cases J0 U E <;> by_cases h : r < 0 <;> simp [h] <;> omega
  exact hq.symm
theorem J5Z (U : ZI) (E : ZR) (r : Int)  : PC Tryz.prog 74 [.agg [.sl (.ints U), .sl (.rows E)], .int .i64 r] (.tup [.d (.sl (.ints (Jc U E r))), .d (.bool (J0 U E && decide (0 ≤ r)))]) :=
  pc_wf @Tryz.call74 fun hw => pc_by (by kernel_rfl) Tryz.func74 @Tryz.call74 (by kernel_rfl) J6c (J6j U E r) (by kernel_rfl) (J5M U E r hw.1.1 hw.1.2.1.1 hw.1.2.1.2) (by kernel_rfl)
def J5w : List D → Orc := orcN [none, none] fun ds => match ds with
  | [.agg [.sl (.ints U), .sl (.rows E)], .int .i64 r] => some (.tup [.d (.sl (.ints (Jc U E r))), .d (.bool (J0 U E && decide (0 ≤ r)))])
  | _ => none
def J6m (f : FuncId) (ds : List D) : Orc := bif Nat.beq f 114 then J1m ds else bif Nat.beq f 166 then J3h ds else .no
def J68 (U : ZI) (E : ZR) (r : Int) : Ann := .none
def J3O (U : ZI) (E : ZR) (r : Int) : Prop :=
  (PC Tryz.prog 114 [.agg [.sl (.ints U), .sl (.rows E)], .int .i64 r] (.one (.d (.bool (J0 U E && decide (0 ≤ r)))))) ∧ (((!(J0 U E && decide (0 ≤ r))) = true → (((Jc U E r).length = 0) ∧ (false = (J0 U E && decide (0 ≤ r))))) ∧ ((!(J0 U E && decide (0 ≤ r))) = false → (PC Tryz.prog 166 [.agg [.sl (.ints U), .sl (.rows E)], .int .i64 r] (.one (.own 3 (.ints (Jm U.length E r E.length))))) ∧ (((Jm U.length E r E.length).length = (Jm U.length E r E.length).length) ∧ ((Jm U.length E r E.length : ZI) = Jc U E r) ∧ (true = (J0 U E && decide (0 ≤ r))))))
theorem J5S (U : ZI) (E : ZR) (r : Int)  (w_Open : (U.length : Int) ≤ 9223372036854775807) (w_Dist : (E.length : Int) ≤ 9223372036854775807) (v_Dist : ∀ x9 ∈ E, (x9.length : Int) ≤ 9223372036854775807) : J3O U E r := by
  unfold J3O
  refine ⟨J1v U E r, ?_, ?_⟩
  ·intro b1
   refine ⟨?_, ?_⟩
   ·have hq : (J0 U E && decide (0 ≤ r)) = false := by
      revert b1; cases J0 U E <;> by_cases h : r < 0 <;> simp [h] <;> omega
    unfold Jc; rw [hq]; rfl
   have hq : (J0 U E && decide (0 ≤ r)) = false := by
     revert b1; cases J0 U E <;> by_cases h : r < 0 <;> simp [h] <;> omega
   exact hq.symm
  intro b2
  refine ⟨?_, rfl, ?_, ?_⟩
  ·refine J3B U E r ?_
   ·have hq : (J0 U E && decide (0 ≤ r)) = true := by
      revert b2; cases J0 U E <;> by_cases h : r < 0 <;> simp [h] <;> omega
    rw [Bool.and_eq_true] at hq; exact hq.1
  ·have hq : (J0 U E && decide (0 ≤ r)) = true := by
     revert b2; cases J0 U E <;> by_cases h : r < 0 <;> simp [h] <;> omega
   unfold Jc; rw [if_pos hq]
  have hq : (J0 U E && decide (0 ≤ r)) = true := by
    revert b2; cases J0 U E <;> by_cases h : r < 0 <;> simp [h] <;> omega
  exact hq.symm
theorem J5J (U : ZI) (E : ZR) (r : Int)  : PC Tryz.prog 73 [.agg [.sl (.ints U), .sl (.rows E)], .int .i64 r] (.tup [.own 3 (.ints (Jc U E r)), .d (.bool (J0 U E && decide (0 ≤ r)))]) :=
  pc_wf @Tryz.call73 fun hw => pc_by (by kernel_rfl) Tryz.func73 @Tryz.call73 (by kernel_rfl) J6m (J68 U E r) (by kernel_rfl) (J5S U E r hw.1.1 hw.1.2.1.1 hw.1.2.1.2) (by kernel_rfl)
def J5C : List D → Orc := orcN [none, none] fun ds => match ds with
  | [.agg [.sl (.ints U), .sl (.rows E)], .int .i64 r] => some (.tup [.own 3 (.ints (Jc U E r)), .d (.bool (J0 U E && decide (0 ≤ r)))])
  | _ => none
theorem Jcz {xs : ZI} {lo hi : Int} (h : J2 xs lo hi = true) : Asc xs := by
  refine List.pairwise_iff_getElem.2 fun i j hi hj hij => ?_
  have := Jap h hij hj
  rwa [Jh hi, Jh hj] at this
def J69 (n : Nat) : ZI := members (fun _ => true) n
theorem Jdj {n : Nat} : members (fun k => (2 ^ n - 1).testBit k) n = J69 n :=
  members_congr fun k hk => by simp [Nat.testBit_two_pow_sub_one, hk]
theorem JcE (n : Nat) : J2 (J69 n) 0 ((n : Int) - 1) = true :=
  JcT (asc_members _ _) fun x hx => by have := mem_members.1 hx; omega
abbrev J1W (n : Int) (code : Int) (out : ZI) (x : Int) : Prop := (0 ≤ x) ∧ (x ≤ n) ∧ (out = members (fun k => code.toNat.testBit k) x.toNat)
abbrev J0O (n : Int) (code : Int) (out : ZI) (x : Int) : Nat := (n - x).toNat
def JcZ (f : FuncId) (ds : List D) : Orc := .no
def JcO (n : Int) (code : Int) : Ann := .two (.none) (.two (.none) (.two (.two (.none) (.loop (cut2 (fun (out : ZI) (x : Int) => J1W n code out x) (fun (out : ZI) (x : Int) => [(0, .d false (.int .i64 n)), (1, .d false (.int .i64 code)), (5, .own 1000000 out.length), (6, .d true (.int .i64 x))]) (fun (out : ZI) (x : Int) => [(1000000, .arr true 3 (.ints out))])) (fun g => J0O n code g.1 g.2) (fun _ => .none))) (.none)))
def J8Z (n : Int) (code : Int) : Prop :=
  ((∃ out' : ZI, ∃ x' : Int, (J1W n code out' x') ∧ (n = n) ∧ (code = code) ∧ ((0 : Nat) = out'.length) ∧ ((0 : Int) = x') ∧ ([] = out')) ∧ (∀ out : ZI, ∀ x : Int, (J1W n code out x) → (((decide (x < n)) = true → ((0 : Int) ≤ code ∧ (code : Int) ≤ 9223372036854775807) ∧ ((0 : Int) ≤ x) ∧ ((0 : Int) ≤ (code / 2 ^ x.toNat) ∧ ((code / 2 ^ x.toNat) : Int) ≤ 9223372036854775807) ∧ ((0 : Int) ≤ 1 ∧ (1 : Int) ≤ 9223372036854775807) ∧ ((((((code / 2 ^ x.toNat).toNat &&& 1 : Nat) : Int) == 1) = true → (out.length = out.length) ∧ ((1 : Nat) = 1) ∧ ((out.length + 1) * 8 ≤ 140737488355328) ∧ (I6 (x + 1)) ∧ (∃ out' : ZI, ∃ x' : Int, (J1W n code out' x') ∧ (J0O n code out' x' < J0O n code out x) ∧ (n = n) ∧ (code = code) ∧ ((out.length + 1) = out'.length) ∧ ((x + 1) = x') ∧ ((out ++ [x]) = out'))) ∧ (((((code / 2 ^ x.toNat).toNat &&& 1 : Nat) : Int) == 1) = false → (I6 (x + 1)) ∧ (∃ out' : ZI, ∃ x' : Int, (J1W n code out' x') ∧ (J0O n code out' x' < J0O n code out x) ∧ (n = n) ∧ (code = code) ∧ (out.length = out'.length) ∧ ((x + 1) = x') ∧ (out = out'))))) ∧ ((decide (x < n)) = false → ((out.length = out.length) ∧ ((out : ZI) = (members (fun k => code.toNat.testBit k) n.toNat)))))))
theorem JbO (n : Int) (code : Int) (hn : 0 ≤ n ∧ n ≤ 62) (hc : 0 ≤ code ∧ code ≤ 4611686018427387903)  : J8Z n code := by
  unfold J8Z
  refine ⟨?_, ?_⟩
  ·refine ⟨([]), 0, ?_⟩
   refine ⟨?_, rfl, rfl, rfl, rfl, ?_⟩
   ·refine ⟨?_, ?_, ?_⟩
    ·omega
    ·omega
    ·rfl
   rfl
  intro out x hJ
  obtain ⟨h1, h2, h3⟩ := hJ
  refine ⟨?_, ?_⟩
  ·intro b1
   try simp only [nrmT] at b1
   refine ⟨?_, ?_, ?_, ?_, ?_, ?_⟩
   ·omega
   ·omega
   ·have h5 : 0 ≤ code / 2 ^ x.toNat := Int.ediv_nonneg hc.1 (Int.le_of_lt (Int.pow_pos (by omega)))
    have h6 : code / 2 ^ x.toNat ≤ code := Int.ediv_le_self _ hc.1
    omega
   ·omega
   ·intro b2
    try simp only [nrmT] at b2
    refine ⟨rfl, rfl, ?_, ?_, ?_⟩
    ·rw [h3]; have := members_len_le (fun k => code.toNat.testBit k) x.toNat; omega
    ·omega
    refine ⟨(out ++ [x]), (x + 1), ?_⟩
    refine ⟨?_, ?_, rfl, rfl, ?_, rfl, rfl⟩
    ·refine ⟨?_, ?_, ?_⟩
     ·omega
     ·omega
     ·have hb := shr_bit (n := code.toNat) (k := x.toNat)
      rw [show ((code.toNat : Nat) : Int) = code by omega] at hb
      have ht : code.toNat.testBit x.toNat = true := by
        cases h : code.toNat.testBit x.toNat with
        | true => rfl
        | false => rw [h] at hb; simp at hb; simp at b2; omega
      rw [h3, show (x + 1).toNat = x.toNat + 1 by omega, members_succ, if_pos ht, show ((x.toNat : Nat) : Int) = x by omega]
    ·(simp only [J0O]; omega)
    simp
   intro b3
   try simp only [nrmT] at b3
   refine ⟨?_, ?_⟩
   ·omega
   refine ⟨out, (x + 1), ?_⟩
   refine ⟨?_, ?_, rfl, rfl, rfl, rfl, rfl⟩
   ·refine ⟨?_, ?_, ?_⟩
    ·omega
    ·omega
    ·have hb := shr_bit (n := code.toNat) (k := x.toNat)
     rw [show ((code.toNat : Nat) : Int) = code by omega] at hb
     have ht : code.toNat.testBit x.toNat = false := by
       cases h : code.toNat.testBit x.toNat with
       | false => rfl
       | true => rw [h] at hb; simp at hb; simp at b3; omega
     rw [h3, show (x + 1).toNat = x.toNat + 1 by omega, members_succ, ht]; simp
   (simp only [J0O]; omega)
  intro b4
  try simp only [nrmT] at b4
  refine ⟨rfl, ?_⟩
  ·rw [h3, show x.toNat = n.toNat by omega]
theorem J8d (n : Int) (code : Int) (hn : 0 ≤ n ∧ n ≤ 62) (hc : 0 ≤ code ∧ code ≤ 4611686018427387903) : PC Tryz.prog 142 [.int .i64 n, .int .i64 code] (.one (.d (.sl (.ints (members (fun k => code.toNat.testBit k) n.toNat))))) :=
  pc_wf @Tryz.call142 fun _ => pc_by (by kernel_rfl) Tryz.func142 @Tryz.call142 (by kernel_rfl) JcZ (JcO n code) (by kernel_rfl) (JbO n code hn hc) (by kernel_rfl)
def J7x : List D → Orc := orcN [none, none] fun ds => match ds with
  | [.int .i64 n, .int .i64 code] => some (.one (.d (.sl (.ints (members (fun k => code.toNat.testBit k) n.toNat)))))
  | _ => none
theorem JbU {U : ZI} {E : ZR} (hg : J0 U E = true) {i j : Int} (hi : 0 ≤ i ∧ i < (E.length : Int)) (hj : 0 ≤ j ∧ j < (E.length : Int)) : 0 ≤ Je E i j ∧ Je E i j ≤ 198 := by
  obtain ⟨g1, g2, g3⟩ := Jb hg
  obtain ⟨ri, ci⟩ := J8 (i := i.toNat) hg (by omega)
  obtain ⟨rj, cj⟩ := J8 (i := j.toNat) hg (by omega)
  unfold Je
  split
  · omega
  have h1 := Jds (E := E) (i := i.toNat) (j := j.toNat) (n := (E.getD i.toNat []).length) (fun a ha => (ci a (by omega)).1) (fun a ha => (cj a (by omega)).1)
  refine ⟨h1.1, ?_⟩
  have h2 : ∀ n, 1 ≤ n → foldTo (J6a E i.toNat j.toNat) 199 n ≤ 198 := by
    intro n hn
    induction n with
    | zero => omega
    | succ n ih =>
      show min _ _ ≤ _
      by_cases e : n = 0
      · subst e
        have := ci 0 (by omega)
        have := cj 0 (by omega)
        omega
      have := ih (by omega)
      omega
  exact h2 _ (by omega)
def J0Z (a b : Int) : Int := if a < b then -1 else if a > b then 1 else 0
def Ji : ZI → ZI → Int
  | [], [] => 0
  | [], _ :: _ => -1
  | _ :: _, [] => 1
  | x :: r, y :: s => if x < y then -1 else if x > y then 1 else Ji r s
theorem J5h {xs ys : ZI} {i : Nat} (h : Ji xs ys = Ji (xs.drop i) (ys.drop i)) (h1 : i < xs.length) (h2 : i < ys.length) :
    Ji xs ys = if xs.getD i 0 < ys.getD i 0 then -1 else if xs.getD i 0 > ys.getD i 0 then 1 else Ji (xs.drop (i + 1)) (ys.drop (i + 1)) := by
  rw [h, List.drop_eq_getElem_cons h1, List.drop_eq_getElem_cons h2, Jh h1, Jh h2]
  rfl
theorem JcW {xs ys : ZI} {i : Nat} (h : Ji xs ys = Ji (xs.drop i) (ys.drop i)) (h1 : i < xs.length) (h2 : ys.length ≤ i) : Ji xs ys = 1 := by
  rw [h, List.drop_eq_getElem_cons h1, List.drop_eq_nil_of_le h2]
  rfl
theorem J8I {xs ys : ZI} {i : Nat} (h : Ji xs ys = Ji (xs.drop i) (ys.drop i)) (h1 : xs.length ≤ i) (h2 : i ≤ ys.length) (h3 : i = xs.length) : Ji xs ys = if xs.length < ys.length then -1 else 0 := by
  rw [h, List.drop_eq_nil_of_le h1]
  by_cases e : xs.length < ys.length
  · rw [if_pos e, List.drop_eq_getElem_cons (by omega)]
    rfl
  rw [if_neg e, List.drop_eq_nil_of_le (by omega)]
  rfl
def J8L (f : FuncId) (ds : List D) : Orc := .no
def J8F (x : Int) : Ann := .none
def J4X (x : Int) : Prop :=
  (((x != x) = false))
theorem J7K (x : Int)   : J4X x := by
  unfold J4X
  simp
theorem J4G (x : Int)  : PC Tryz.prog 236 [.int .i64 x] (.one (.d (.bool false))) :=
  pc_wf @Tryz.call236 fun _ => pc_by (by kernel_rfl) Tryz.func236 @Tryz.call236 (by kernel_rfl) J8L (J8F x) (by kernel_rfl) (J7K x) (by kernel_rfl)
def J6X : List D → Orc := orcN [none] fun ds => match ds with
  | [.int .i64 x] => some (.one (.d (.bool false)))
  | _ => none
def J7s (f : FuncId) (ds : List D) : Orc := bif Nat.beq f 236 then J6X ds else .no
def J7c (a : Int) (b : Int) : Ann := .two (.none) (.two (.none) (.two (.none) (.two (.two (.none) (.goF (.none))) (.two (.two (.none) (.goF (.none))) (.none)))))
def J4o (a : Int) (b : Int) : Prop :=
  (PC Tryz.prog 236 [.int .i64 a] (.one (.d (.bool false)))) ∧ (PC Tryz.prog 236 [.int .i64 b] (.one (.d (.bool false)))) ∧ (false = false) ∧ (false = false) ∧ (((decide (a < b)) = true → ((((-1) : Int) = (J0Z a b)))) ∧ ((decide (a < b)) = false → (((decide (a > b)) = true → (((1 : Int) = (J0Z a b)))) ∧ ((decide (a > b)) = false → (((0 : Int) = (J0Z a b)))))))
theorem J6M (a : Int) (b : Int)   : J4o a b := by
  unfold J4o
  refine ⟨J4G a, J4G b, rfl, rfl, ?_, ?_⟩
  ·intro b1
   try simp only [nrmT] at b1
   unfold J0Z; first | rw [if_pos (by omega)] | rw [if_neg (by omega), if_pos (by omega)] | rw [if_neg (by omega), if_neg (by omega)]
  intro b2
  try simp only [nrmT] at b2
  refine ⟨?_, ?_⟩
  ·intro b3
   try simp only [nrmT] at b3
   unfold J0Z; first | rw [if_pos (by omega)] | rw [if_neg (by omega), if_pos (by omega)] | rw [if_neg (by omega), if_neg (by omega)]
  intro b4
  try simp only [nrmT] at b4
  unfold J0Z; first | rw [if_pos (by omega)] | rw [if_neg (by omega), if_pos (by omega)] | rw [if_neg (by omega), if_neg (by omega)]
theorem J3X (a : Int) (b : Int)  : PC Tryz.prog 216 [.int .i64 a, .int .i64 b] (.one (.d (.int .i64 (J0Z a b)))) :=
  pc_wf @Tryz.call216 fun _ => pc_by (by kernel_rfl) Tryz.func216 @Tryz.call216 (by kernel_rfl) J7s (J7c a b) (by kernel_rfl) (J6M a b) (by kernel_rfl)
def J3I : List D → Orc := orcN [none, none] fun ds => match ds with
  | [.int .i64 a, .int .i64 b] => some (.one (.d (.int .i64 (J0Z a b))))
  | _ => none
abbrev JO (xs : ZI) (ys : ZI) (i : Int) : Prop := (0 ≤ i) ∧ (i ≤ (xs.length : Int)) ∧ (i ≤ (ys.length : Int)) ∧ (Ji xs ys = Ji (xs.drop i.toNat) (ys.drop i.toNat))
abbrev JP (xs : ZI) (ys : ZI) (i : Int) : Nat := (xs.length - i).toNat
def J4P (f : FuncId) (ds : List D) : Orc := bif Nat.beq f 216 then J3I ds else .no
def J4O (xs : ZI) (ys : ZI) : Ann := .two (.none) (.two (.two (.none) (.loop (cut1 (fun (i : Int) => JO xs ys i) (fun (i : Int) => [(0, .d false (.sl (.ints xs))), (1, .d false (.sl (.ints ys))), (9, .d false (.sl (.ints xs))), (10, .d true (.int .i64 (xs.length : Int))), (11, .d true (.int .i64 i))]) (fun (i : Int) => [])) (fun g => JP xs ys g) (fun _ => .none))) (.none))
def J1G (xs : ZI) (ys : ZI) : Prop :=
  ((∃ i' : Int, (JO xs ys i') ∧ (xs = xs) ∧ (ys = ys) ∧ (xs = xs) ∧ ((xs.length : Int) = (xs.length : Int)) ∧ ((0 : Int) = i')) ∧ (∀ i : Int, (JO xs ys i) → (((decide (i < (xs.length : Int))) = true → ((0 : Int) ≤ i) ∧ ((i : Int) < xs.length) ∧ (i.toNat < xs.length) ∧ (((decide (i ≥ (ys.length : Int))) = true → (((1 : Int) = (Ji xs ys)))) ∧ ((decide (i ≥ (ys.length : Int))) = false → ((0 : Int) ≤ i) ∧ ((i : Int) < ys.length) ∧ (i.toNat < ys.length) ∧ (PC Tryz.prog 216 [.int .i64 (xs.getD i.toNat 0), .int .i64 (ys.getD i.toNat 0)] (.one (.d (.int .i64 (J0Z (xs.getD i.toNat 0) (ys.getD i.toNat 0)))))) ∧ ((((J0Z (xs.getD i.toNat 0) (ys.getD i.toNat 0)) != 0) = true → (((J0Z (xs.getD i.toNat 0) (ys.getD i.toNat 0)) = (Ji xs ys)))) ∧ (((J0Z (xs.getD i.toNat 0) (ys.getD i.toNat 0)) != 0) = false → (I6 (i + 1)) ∧ (∃ i' : Int, (JO xs ys i') ∧ (JP xs ys i' < JP xs ys i) ∧ (xs = xs) ∧ (ys = ys) ∧ (xs = xs) ∧ ((xs.length : Int) = (xs.length : Int)) ∧ ((i + 1) = i'))))))) ∧ ((decide (i < (xs.length : Int))) = false → (((decide ((xs.length : Int) < (ys.length : Int))) = true → ((((-1) : Int) = (Ji xs ys)))) ∧ ((decide ((xs.length : Int) < (ys.length : Int))) = false → (((0 : Int) = (Ji xs ys)))))))))
theorem J4w (xs : ZI) (ys : ZI)  (w_xs : (xs.length : Int) ≤ 9223372036854775807) (w_ys : (ys.length : Int) ≤ 9223372036854775807) : J1G xs ys := by
  unfold J1G
  refine ⟨?_, ?_⟩
  ·refine ⟨0, ?_⟩
   refine ⟨?_, rfl, rfl, rfl, rfl, rfl⟩
   ·refine ⟨?_, ?_, ?_, ?_⟩
    ·omega
    ·omega
    ·omega
    ·rfl
  intro i hJ
  obtain ⟨h1, h2, h2y, h3⟩ := hJ
  refine ⟨?_, ?_⟩
  ·intro b1
   try simp only [nrmT] at b1
   refine ⟨?_, ?_, ?_, ?_, ?_⟩
   ·omega
   ·omega
   ·omega
   ·intro b2
    try simp only [nrmT] at b2
    exact (JcW h3 (by omega) (by omega)).symm
   intro b3
   try simp only [nrmT] at b3
   refine ⟨?_, ?_, ?_, J3X (xs.getD i.toNat 0) (ys.getD i.toNat 0), ?_, ?_⟩
   ·omega
   ·omega
   ·omega
   ·intro b4
    try simp only [nrmT] at b4
    rw [J5h h3 (by omega) (by omega)]
    unfold J0Z at b4 ⊢
    by_cases h5 : xs.getD i.toNat 0 < ys.getD i.toNat 0
    · rw [if_pos h5, if_pos h5]
    rw [if_neg h5] at b4 ⊢
    by_cases h6 : xs.getD i.toNat 0 > ys.getD i.toNat 0
    · rw [if_pos h6, if_neg h5, if_pos h6]
    rw [if_neg h6] at b4; omega
   intro b5
   try simp only [nrmT] at b5
   refine ⟨?_, ?_⟩
   ·omega
   refine ⟨(i + 1), ?_⟩
   refine ⟨?_, ?_, rfl, rfl, rfl, rfl, rfl⟩
   ·refine ⟨?_, ?_, ?_, ?_⟩
    ·omega
    ·omega
    ·omega
    ·have h7 := J5h h3 (by omega) (by omega)
     unfold J0Z at b5
     rw [h7, show (i + 1).toNat = i.toNat + 1 by omega]
     by_cases h5 : xs.getD i.toNat 0 < ys.getD i.toNat 0
     · rw [if_pos h5] at b5; omega
     rw [if_neg h5] at b5 ⊢
     by_cases h6 : xs.getD i.toNat 0 > ys.getD i.toNat 0
     · rw [if_pos h6] at b5; omega
     rw [if_neg h6]
   (simp only [JP]; omega)
  intro b6
  try simp only [nrmT] at b6
  refine ⟨?_, ?_⟩
  ·intro b7
   try simp only [nrmT] at b7
   rw [J8I h3 (by omega) (by omega) (by omega), if_pos (by omega)]
  intro b8
  try simp only [nrmT] at b8
  rw [J8I h3 (by omega) (by omega) (by omega), if_neg (by omega)]
theorem J1u (xs : ZI) (ys : ZI)  : PC Tryz.prog 198 [.sl (.ints xs), .sl (.ints ys)] (.one (.d (.int .i64 (Ji xs ys)))) :=
  pc_wf @Tryz.call198 fun hw => pc_by (by kernel_rfl) Tryz.func198 @Tryz.call198 (by kernel_rfl) J4P (J4O xs ys) (by kernel_rfl) (J4w xs ys hw.1 hw.2.1) (by kernel_rfl)
def J1o : List D → Orc := orcN [some .ints, some .ints] fun ds => match ds with
  | [.sl (.ints xs), .sl (.ints ys)] => some (.one (.d (.int .i64 (Ji xs ys))))
  | _ => none
abbrev J3H (xs : ZI) (ys : ZI) (i : Int) : Prop := (0 ≤ i) ∧ (i ≤ (xs.length : Int)) ∧ (Ji xs ys = Ji (xs.drop i.toNat) (ys.drop i.toNat))
abbrev J3D (xs : ZI) (ys : ZI) (i : Int) : Nat := (xs.length - i).toNat
def Jcu (f : FuncId) (ds : List D) : Orc := .no
def JcR (xs : ZI) (ys : ZI) : Ann := .two (.none) (.two (.two (.none) (.loop (cut1 (fun (i : Int) => J3H xs ys i) (fun (i : Int) => [(0, .d false (.sl (.ints xs))), (1, .d false (.sl (.ints ys))), (5, .d true (.int .i64 i))]) (fun (i : Int) => [])) (fun g => J3D xs ys g) (fun _ => .none))) (.none))
def J9o (xs : ZI) (ys : ZI) : Prop :=
  ((∃ i' : Int, (J3H xs ys i') ∧ (xs = xs) ∧ (ys = ys) ∧ ((0 : Int) = i')) ∧ (∀ i : Int, (J3H xs ys i) → (((decide (i < (xs.length : Int))) = true → (true = true) ∧ ((0 : Int) ≤ i) ∧ ((i : Int) < xs.length) ∧ (i.toNat < xs.length) ∧ ((0 : Int) ≤ i) ∧ ((i : Int) < ys.length) ∧ (i.toNat < ys.length) ∧ ((((xs.getD i.toNat 0) != (ys.getD i.toNat 0)) = true → (true = true) ∧ ((0 : Int) ≤ i) ∧ ((i : Int) < xs.length) ∧ (i.toNat < xs.length) ∧ ((0 : Int) ≤ i) ∧ ((i : Int) < ys.length) ∧ (i.toNat < ys.length) ∧ (((decide ((xs.getD i.toNat 0) < (ys.getD i.toNat 0))) = (decide (Ji xs ys < 0))))) ∧ (((xs.getD i.toNat 0) != (ys.getD i.toNat 0)) = false → (I6 (i + 1)) ∧ (∃ i' : Int, (J3H xs ys i') ∧ (J3D xs ys i' < J3D xs ys i) ∧ (xs = xs) ∧ (ys = ys) ∧ ((i + 1) = i'))))) ∧ ((decide (i < (xs.length : Int))) = false → ((false = (decide (Ji xs ys < 0))))))))
theorem Jc5 (xs : ZI) (ys : ZI) (hl : xs.length = ys.length) (w_xs : (xs.length : Int) ≤ 9223372036854775807) (w_ys : (ys.length : Int) ≤ 9223372036854775807) : J9o xs ys := by
  unfold J9o
  refine ⟨?_, ?_⟩
  ·refine ⟨0, ?_⟩
   refine ⟨?_, rfl, rfl, rfl⟩
   ·refine ⟨?_, ?_, ?_⟩
    ·omega
    ·omega
    ·rfl
  intro i hJ
  obtain ⟨h1, h2, h3⟩ := hJ
  refine ⟨?_, ?_⟩
  ·intro b1
   try simp only [nrmT] at b1
   refine ⟨rfl, ?_, ?_, ?_, ?_, ?_, ?_, ?_, ?_⟩
   ·omega
   ·omega
   ·omega
   ·omega
   ·omega
   ·omega
   ·intro b2
    try simp only [nrmT] at b2
    refine ⟨rfl, ?_, ?_, ?_, ?_, ?_, ?_, ?_⟩
    ·omega
    ·omega
    ·omega
    ·omega
    ·omega
    ·omega
    rw [J5h h3 (by omega) (by omega)]
    by_cases h5 : xs.getD i.toNat 0 < ys.getD i.toNat 0
    · rw [if_pos h5, decide_eq_true h5]; rfl
    rw [if_neg h5, if_pos (by omega), decide_eq_false h5]; rfl
   intro b3
   try simp only [nrmT] at b3
   refine ⟨?_, ?_⟩
   ·omega
   refine ⟨(i + 1), ?_⟩
   refine ⟨?_, ?_, rfl, rfl, rfl⟩
   ·refine ⟨?_, ?_, ?_⟩
    ·omega
    ·omega
    ·rw [J5h h3 (by omega) (by omega), show (i + 1).toNat = i.toNat + 1 by omega, if_neg (by omega), if_neg (by omega)]
   (simp only [J3D]; omega)
  intro b4
  try simp only [nrmT] at b4
  rw [J8I h3 (by omega) (by omega) (by omega), if_neg (by omega)]; rfl
theorem Jce (xs : ZI) (ys : ZI) (hl : xs.length = ys.length) : PC Tryz.prog 199 [.sl (.ints xs), .sl (.ints ys)] (.one (.d (.bool (decide (Ji xs ys < 0))))) :=
  pc_wf @Tryz.call199 fun hw => pc_by (by kernel_rfl) Tryz.func199 @Tryz.call199 (by kernel_rfl) Jcu (JcR xs ys) (by kernel_rfl) (Jc5 xs ys hl hw.1 hw.2.1) (by kernel_rfl)
def Jbk : List D → Orc := orcN [some .ints, some .ints] fun ds => match ds with
  | [.sl (.ints xs), .sl (.ints ys)] => some (.one (.d (.bool (decide (Ji xs ys < 0)))))
  | _ => none
def lst (n code : Nat) : ZI := members (fun k => code.testBit k) n
def lfF (n : Nat) (E : ZR) (r : Int) (best : ZI) (code : Nat) : ZI :=
  if ((decide ((lst E.length code).length > best.length) || (decide ((lst E.length code).length = best.length) && decide (Ji (lst E.length code) best < 0))) && J6 n E (lst E.length code) r) = true then lst E.length code else best
def J02 (n : Nat) (E : ZR) (r : Int) (k : Nat) : ZI := foldTo (lfF n E r) [] k
theorem J4q (n : Nat) (E : ZR) (r : Int) (k : Nat) : J02 n E r (k + 1) = lfF n E r (J02 n E r k) k := rfl
theorem J9g {n code : Nat} : ∀ x ∈ lst n code, 0 ≤ x ∧ x < (n : Int) := fun x hx => by
  have := mem_members.1 hx
  omega
theorem Jej {n code : Nat} : (lst n code).length ≤ n := members_len_le _ _
theorem Jbz (n : Nat) : lst n 0 = [] := by
  unfold lst members
  rw [List.filter_eq_nil_iff.2 (by simp)]
  rfl
theorem JdV (n : Nat) (E : ZR) (r : Int) : J02 n E r 1 = [] := by
  show lfF n E r [] 0 = []
  unfold lfF
  rw [Jbz]
  simp
theorem Jb2 {n code : Nat} (hn : n ≤ 62) (h : code < 2 ^ n) : members (fun k => code.testBit k) 62 = lst n code :=
  J1X (fun k hk => Nat.testBit_lt_two_pow (Nat.lt_of_lt_of_le h (Nat.pow_le_pow_right (by omega) hk))) 62 hn
theorem Jd1 : ∀ a b c d : Bool, cond (cond a true (cond b c false)) d false = ((a || (b && c)) && d) := by decide
theorem J91 (m n : Nat) : decide ((m : Int) > (n : Int)) = decide (m > n) := by
  rw [Bool.eq_iff_iff]; simp only [decide_eq_true_eq]; omega
theorem J4U (n : Nat) : (1 : Int) * 2 ^ ((n : Int)).toNat = ((2 ^ n : Nat) : Int) := by
  rw [Int.toNat_natCast]; simp
def lfL (U : ZI) (E : ZR) (r : Int) : ZI := if (J0 U E && decide (0 ≤ r)) = true then J02 U.length E r (2 ^ E.length) else []
abbrev J1V (U : ZI) (E : ZR) (r : Int) (best : ZI) (code : Int) : Prop := (0 ≤ code) ∧ (code ≤ ((2 ^ E.length : Nat) : Int)) ∧ (best = J02 U.length E r code.toNat)
abbrev J1S (U : ZI) (E : ZR) (r : Int) (best : ZI) (code : Int) : Nat := (2 ^ E.length - code.toNat)
def JcL (f : FuncId) (ds : List D) : Orc := bif Nat.beq f 142 then J7x ds else bif Nat.beq f 199 then Jbk ds else bif Nat.beq f 165 then J5q ds else .no
def JcN (U : ZI) (E : ZR) (r : Int) : Ann := .two (.none) (.two (.reg [(0, .frz)]) (.two (.two (.none) (.loop (cut2 (fun (best : ZI) (code : Int) => J1V U E r best code) (fun (best : ZI) (code : Int) => [(1, .d false (.int .i64 r)), (2, .ptr 2 0), (5, .d true (.sl (.ints best))), (6, .d true (.int .i64 code))]) (fun (best : ZI) (code : Int) => [(2, .box 27 [.d false (.sl (.ints U)), .d false (.sl (.rows E))])])) (fun g => J1S U E r g.1 g.2) (fun _ => .none))) (.none)))
def JE (E : ZR) (best : ZI) (code : Int) : Bool := (cond (decide ((((members (fun k => code.toNat.testBit k) (E.length : Int).toNat).length) : Int) > (best.length : Int))) true (cond ((((members (fun k => code.toNat.testBit k) (E.length : Int).toNat).length) : Int) == (best.length : Int)) (decide (Ji (members (fun k => code.toNat.testBit k) (E.length : Int).toNat) best < 0)) false))
def J9f (U : ZI) (E : ZR) (r : Int) : Prop :=
  ((∃ best' : ZI, ∃ code' : Int, (J1V U E r best' code') ∧ (r = r) ∧ ([] = best') ∧ ((0 : Int) = code') ∧ (U = U) ∧ (E = E)) ∧ (∀ best : ZI, ∀ code : Int, (J1V U E r best code) → ((0 : Int) ≤ 1) ∧ ((0 : Int) ≤ (E.length : Int)) ∧ ((0 : Int) ≤ ((1 : Int) * 2 ^ ((E.length : Int).toNat)) ∧ (((1 : Int) * 2 ^ ((E.length : Int).toNat)) : Int) ≤ 9223372036854775807) ∧ (((decide (code < ((1 : Int) * 2 ^ ((E.length : Int).toNat)))) = true → (PC Tryz.prog 142 [.int .i64 (E.length : Int), .int .i64 code] (.one (.d (.sl (.ints (members (fun k => code.toNat.testBit k) (E.length : Int).toNat)))))) ∧ ((!(decide ((((members (fun k => code.toNat.testBit k) (E.length : Int).toNat).length) : Int) > (best.length : Int)))) = true → (!(decide ((((members (fun k => code.toNat.testBit k) (E.length : Int).toNat).length) : Int) > (best.length : Int)))) = true) ∧ ((!(decide ((((members (fun k => code.toNat.testBit k) (E.length : Int).toNat).length) : Int) > (best.length : Int)))) = true → (!(decide ((((members (fun k => code.toNat.testBit k) (E.length : Int).toNat).length) : Int) > (best.length : Int)))) = true) ∧ ((!(decide ((((members (fun k => code.toNat.testBit k) (E.length : Int).toNat).length) : Int) > (best.length : Int)))) = true → (!(decide ((((members (fun k => code.toNat.testBit k) (E.length : Int).toNat).length) : Int) > (best.length : Int)))) = true) ∧ ((!(decide ((((members (fun k => code.toNat.testBit k) (E.length : Int).toNat).length) : Int) > (best.length : Int)))) = true → (!(decide ((((members (fun k => code.toNat.testBit k) (E.length : Int).toNat).length) : Int) > (best.length : Int)))) = true) ∧ ((!(decide ((((members (fun k => code.toNat.testBit k) (E.length : Int).toNat).length) : Int) > (best.length : Int)))) = true → (!(decide ((((members (fun k => code.toNat.testBit k) (E.length : Int).toNat).length) : Int) > (best.length : Int)))) = true) ∧ (((!(decide ((((members (fun k => code.toNat.testBit k) (E.length : Int).toNat).length) : Int) > (best.length : Int)))) && ((((members (fun k => code.toNat.testBit k) (E.length : Int).toNat).length) : Int) == (best.length : Int))) = true → ((!(decide ((((members (fun k => code.toNat.testBit k) (E.length : Int).toNat).length) : Int) > (best.length : Int)))) && ((((members (fun k => code.toNat.testBit k) (E.length : Int).toNat).length) : Int) == (best.length : Int))) = true) ∧ (((!(decide ((((members (fun k => code.toNat.testBit k) (E.length : Int).toNat).length) : Int) > (best.length : Int)))) && ((((members (fun k => code.toNat.testBit k) (E.length : Int).toNat).length) : Int) == (best.length : Int))) = true → ((!(decide ((((members (fun k => code.toNat.testBit k) (E.length : Int).toNat).length) : Int) > (best.length : Int)))) && ((((members (fun k => code.toNat.testBit k) (E.length : Int).toNat).length) : Int) == (best.length : Int))) = true) ∧ (((!(decide ((((members (fun k => code.toNat.testBit k) (E.length : Int).toNat).length) : Int) > (best.length : Int)))) && ((((members (fun k => code.toNat.testBit k) (E.length : Int).toNat).length) : Int) == (best.length : Int))) = true → PC Tryz.prog 199 [.sl (.ints (members (fun k => code.toNat.testBit k) (E.length : Int).toNat)), .sl (.ints best)] (.one (.d (.bool (decide (Ji (members (fun k => code.toNat.testBit k) (E.length : Int).toNat) best < 0)))))) ∧ (((!(decide ((((members (fun k => code.toNat.testBit k) (E.length : Int).toNat).length) : Int) > (best.length : Int)))) = true → (!(decide ((((members (fun k => code.toNat.testBit k) (E.length : Int).toNat).length) : Int) > (best.length : Int)))) = true)) ∧ (((!(decide ((((members (fun k => code.toNat.testBit k) (E.length : Int).toNat).length) : Int) > (best.length : Int)))) = true → ((((members (fun k => code.toNat.testBit k) (E.length : Int).toNat).length) : Int) == (best.length : Int)) = true → ((!(decide ((((members (fun k => code.toNat.testBit k) (E.length : Int).toNat).length) : Int) > (best.length : Int)))) && ((((members (fun k => code.toNat.testBit k) (E.length : Int).toNat).length) : Int) == (best.length : Int))) = true)) ∧ (((!(decide ((((members (fun k => code.toNat.testBit k) (E.length : Int).toNat).length) : Int) > (best.length : Int)))) = true → ((((members (fun k => code.toNat.testBit k) (E.length : Int).toNat).length) : Int) == (best.length : Int)) = false → true = true)) ∧ (true = true) ∧ (((decide ((((members (fun k => code.toNat.testBit k) (E.length : Int).toNat).length) : Int) > (best.length : Int))) = true → true = true)) ∧ (((decide ((((members (fun k => code.toNat.testBit k) (E.length : Int).toNat).length) : Int) > (best.length : Int))) = false → (!(decide ((((members (fun k => code.toNat.testBit k) (E.length : Int).toNat).length) : Int) > (best.length : Int)))) = true)) ∧ ((JE E best code) = true → (JE E best code) = true) ∧ ((JE E best code) = true → (JE E best code) = true) ∧ ((JE E best code) = true → (JE E best code) = true) ∧ ((JE E best code) = true → PC Tryz.prog 165 [.agg [.sl (.ints U), .sl (.rows E)], .sl (.ints (members (fun k => code.toNat.testBit k) (E.length : Int).toNat)), .int .i64 r] (.one (.d (.bool (J6 U.length E (members (fun k => code.toNat.testBit k) (E.length : Int).toNat) r))))) ∧ (true = true) ∧ (((JE E best code) = true → (JE E best code) = true)) ∧ (((JE E best code) = false → true = true)) ∧ (((cond (JE E best code) (J6 U.length E (members (fun k => code.toNat.testBit k) (E.length : Int).toNat) r) false) = true → (I6 (code + 1)) ∧ (∃ best' : ZI, ∃ code' : Int, (J1V U E r best' code') ∧ (J1S U E r best' code' < J1S U E r best code) ∧ (r = r) ∧ ((members (fun k => code.toNat.testBit k) (E.length : Int).toNat) = best') ∧ ((code + 1) = code') ∧ (U = U) ∧ (E = E))) ∧ ((cond (JE E best code) (J6 U.length E (members (fun k => code.toNat.testBit k) (E.length : Int).toNat) r) false) = false → (I6 (code + 1)) ∧ (∃ best' : ZI, ∃ code' : Int, (J1V U E r best' code') ∧ (J1S U E r best' code' < J1S U E r best code) ∧ (r = r) ∧ (best = best') ∧ ((code + 1) = code') ∧ (U = U) ∧ (E = E))))) ∧ ((decide (code < ((1 : Int) * 2 ^ ((E.length : Int).toNat)))) = false → (((best : ZI) = (J02 U.length E r (2 ^ E.length))))))))
theorem JbX (U : ZI) (E : ZR) (r : Int) (hf : J0 U E = true) (w_Open : (U.length : Int) ≤ 9223372036854775807) (w_Dist : (E.length : Int) ≤ 9223372036854775807) (v_Dist : ∀ x9 ∈ E, (x9.length : Int) ≤ 9223372036854775807) : J9f U E r := by
  unfold J9f JE
  obtain ⟨g1, g2, g3⟩ := Jb hf
  have p7 := JbB (n := E.length) (by omega)
  have pp := Nat.two_pow_pos E.length
  have e0 := J4U E.length
  refine ⟨?_, ?_⟩
  ·refine ⟨([]), 0, ?_⟩
   refine ⟨?_, rfl, ?_, rfl, rfl, rfl⟩
   ·refine ⟨?_, ?_, ?_⟩
    ·omega
    ·omega
    ·rfl
   rfl
  intro best code hJ
  obtain ⟨h1, h2, h3⟩ := hJ
  refine ⟨?_, ?_, ?_, ?_, ?_⟩
  ·omega
  ·omega
  ·rw [e0]
   generalize 2 ^ E.length = M at *
   omega
  ·intro b1
   try simp only [nrmT] at b1
   refine ⟨?_, id, id, id, id, id, id, id, ?_, id, ?_, fun _ _ => rfl, rfl, fun _ => rfl, ?_, id, id, id, ?_, rfl, id, fun _ => rfl, ?_, ?_⟩
   ·refine J8d (E.length : Int) code ?_ ?_
    ·omega
    ·rw [e0] at b1
     generalize 2 ^ E.length = M at *
     omega
   ·intro hg
    refine Jce (members (fun k => code.toNat.testBit k) (E.length : Int).toNat) best ?_
    ·simp only [Bool.and_eq_true, beq_iff_eq] at hg; omega
   ·intro g1 g2; rw [g1, g2]; rfl
   ·intro h; rw [h]; rfl
   ·intro hg
    refine J66 U E (members (fun k => code.toNat.testBit k) (E.length : Int).toNat) r ?_ ?_
    ·exact hf
    have el : members (fun k => code.toNat.testBit k) (E.length : Int).toNat = lst E.length code.toNat := by rw [Int.toNat_natCast]; rfl
    rw [el]; exact J9g
   ·intro b2
    refine ⟨?_, ?_⟩
    ·rw [e0] at b1
     generalize 2 ^ E.length = M at *
     omega
    refine ⟨(members (fun k => code.toNat.testBit k) (E.length : Int).toNat), (code + 1), ?_⟩
    refine ⟨?_, ?_, rfl, rfl, rfl, rfl, rfl⟩
    ·refine ⟨?_, ?_, ?_⟩
     ·omega
     ·rw [e0] at b1
      generalize 2 ^ E.length = M at *
      omega
     ·have el : members (fun k => code.toNat.testBit k) (E.length : Int).toNat = lst E.length code.toNat := by rw [Int.toNat_natCast]; rfl
      rw [el] at b2 ⊢
      rw [Jd1, J91, J7A] at b2
      rw [show (code + 1).toNat = code.toNat + 1 by omega, J4q, ← h3]
      unfold lfF
      rw [if_pos b2]
    rw [e0] at b1
    show 2 ^ E.length - (code + 1).toNat < 2 ^ E.length - code.toNat
    generalize 2 ^ E.length = M at *
    omega
   intro b3
   refine ⟨?_, ?_⟩
   ·rw [e0] at b1
    generalize 2 ^ E.length = M at *
    omega
   refine ⟨best, (code + 1), ?_⟩
   refine ⟨?_, ?_, rfl, rfl, rfl, rfl, rfl⟩
   ·refine ⟨?_, ?_, ?_⟩
    ·omega
    ·rw [e0] at b1
     generalize 2 ^ E.length = M at *
     omega
    ·have el : members (fun k => code.toNat.testBit k) (E.length : Int).toNat = lst E.length code.toNat := by rw [Int.toNat_natCast]; rfl
     rw [el] at b3
     rw [Jd1, J91, J7A] at b3
     rw [show (code + 1).toNat = code.toNat + 1 by omega, J4q, ← h3]
     unfold lfF
     rw [if_neg (by rw [b3]; decide)]
   rw [e0] at b1
   show 2 ^ E.length - (code + 1).toNat < 2 ^ E.length - code.toNat
   generalize 2 ^ E.length = M at *
   omega
  intro b4
  try simp only [nrmT] at b4
  have ec : code.toNat = 2 ^ E.length := by rw [e0] at b4; omega
  rw [h3, ec]
theorem J83 (U : ZI) (E : ZR) (r : Int) (hf : J0 U E = true) : PC Tryz.prog 106 [.agg [.sl (.ints U), .sl (.rows E)], .int .i64 r] (.one (.d (.sl (.ints (J02 U.length E r (2 ^ E.length)))))) :=
  pc_wf @Tryz.call106 fun hw => pc_by (by kernel_rfl) Tryz.func106 @Tryz.call106 (by kernel_rfl) JcL (JcN U E r) (by kernel_rfl) (JbX U E r hf hw.1.1 hw.1.2.1.1 hw.1.2.1.2) (by kernel_rfl)
def J78 : List D → Orc := orcN [none, none] fun ds => match ds with
  | [.agg [.sl (.ints U), .sl (.rows E)], .int .i64 r] => some (.one (.d (.sl (.ints (J02 U.length E r (2 ^ E.length))))))
  | _ => none
abbrev JS (U : ZI) (E : ZR) (r : Int) (best : ZI) (b : Int) : Prop := (1 ≤ b) ∧ (b ≤ ((2 ^ E.length : Nat) : Int)) ∧ (best = J02 U.length E r b.toNat)
abbrev JR (U : ZI) (E : ZR) (r : Int) (best : ZI) (b : Int) : Nat := (2 ^ E.length - b.toNat)
def J6r (f : FuncId) (ds : List D) : Orc := bif Nat.beq f 139 then J5N ds else bif Nat.beq f 198 then J1o ds else bif Nat.beq f 163 then J1Q ds else .no
def J6g (U : ZI) (E : ZR) (r : Int) : Ann := .two (.none) (.two (.none) (.two (.two (.none) (.loop (cut2 (fun (best : ZI) (b : Int) => JS U E r best b) (fun (best : ZI) (b : Int) => [(1, .d false (.int .i64 r)), (2, .ptr 2 0), (5, .own 1000000 best.length), (6, .d true (.int .u64 b))]) (fun (best : ZI) (b : Int) => [(1000000, .arr true 3 (.ints best)), (2, .box 27 [.d false (.sl (.ints U)), .d false (.sl (.rows E))])])) (fun g => JR U E r g.1 g.2) (fun _ => .none))) (.none)))
def J9 (best : ZI) (b : Int) : Bool := (cond (decide ((((members (fun k => b.toNat.testBit k) 62).length) : Int) > (best.length : Int))) true (cond ((((members (fun k => b.toNat.testBit k) 62).length) : Int) == (best.length : Int)) (decide ((Ji (members (fun k => b.toNat.testBit k) 62) best) < 0)) false))
def J3G (U : ZI) (E : ZR) (r : Int) : Prop :=
  ((∃ best' : ZI, ∃ b' : Int, (JS U E r best' b') ∧ (r = r) ∧ ((0 : Nat) = best'.length) ∧ ((1 : Int) = b') ∧ ([] = best') ∧ (U = U) ∧ (E = E)) ∧ (∀ best : ZI, ∀ b : Int, (JS U E r best b) → ((0 : Int) ≤ 1) ∧ ((0 : Int) ≤ (E.length : Int)) ∧ ((0 : Int) ≤ ((1 : Int) * 2 ^ ((E.length : Int).toNat)) ∧ (((1 : Int) * 2 ^ ((E.length : Int).toNat)) : Int) ≤ 18446744073709551615) ∧ (((decide (b < ((1 : Int) * 2 ^ ((E.length : Int).toNat)))) = true → (PC Tryz.prog 139 [.int .u64 b] (.one (.own 3 (.ints (members (fun k => b.toNat.testBit k) 62))))) ∧ ((!(decide ((((members (fun k => b.toNat.testBit k) 62).length) : Int) > (best.length : Int)))) = true → (!(decide ((((members (fun k => b.toNat.testBit k) 62).length) : Int) > (best.length : Int)))) = true) ∧ ((!(decide ((((members (fun k => b.toNat.testBit k) 62).length) : Int) > (best.length : Int)))) = true → (!(decide ((((members (fun k => b.toNat.testBit k) 62).length) : Int) > (best.length : Int)))) = true) ∧ ((!(decide ((((members (fun k => b.toNat.testBit k) 62).length) : Int) > (best.length : Int)))) = true → (!(decide ((((members (fun k => b.toNat.testBit k) 62).length) : Int) > (best.length : Int)))) = true) ∧ ((!(decide ((((members (fun k => b.toNat.testBit k) 62).length) : Int) > (best.length : Int)))) = true → (!(decide ((((members (fun k => b.toNat.testBit k) 62).length) : Int) > (best.length : Int)))) = true) ∧ ((!(decide ((((members (fun k => b.toNat.testBit k) 62).length) : Int) > (best.length : Int)))) = true → (!(decide ((((members (fun k => b.toNat.testBit k) 62).length) : Int) > (best.length : Int)))) = true) ∧ (((!(decide ((((members (fun k => b.toNat.testBit k) 62).length) : Int) > (best.length : Int)))) && ((((members (fun k => b.toNat.testBit k) 62).length) : Int) == (best.length : Int))) = true → ((!(decide ((((members (fun k => b.toNat.testBit k) 62).length) : Int) > (best.length : Int)))) && ((((members (fun k => b.toNat.testBit k) 62).length) : Int) == (best.length : Int))) = true) ∧ (((!(decide ((((members (fun k => b.toNat.testBit k) 62).length) : Int) > (best.length : Int)))) && ((((members (fun k => b.toNat.testBit k) 62).length) : Int) == (best.length : Int))) = true → ((!(decide ((((members (fun k => b.toNat.testBit k) 62).length) : Int) > (best.length : Int)))) && ((((members (fun k => b.toNat.testBit k) 62).length) : Int) == (best.length : Int))) = true) ∧ ((((!(decide ((((members (fun k => b.toNat.testBit k) 62).length) : Int) > (best.length : Int)))) && ((((members (fun k => b.toNat.testBit k) 62).length) : Int) == (best.length : Int))) = true → (members (fun k => b.toNat.testBit k) 62).length = (members (fun k => b.toNat.testBit k) 62).length)) ∧ ((((!(decide ((((members (fun k => b.toNat.testBit k) 62).length) : Int) > (best.length : Int)))) && ((((members (fun k => b.toNat.testBit k) 62).length) : Int) == (best.length : Int))) = true → best.length = best.length)) ∧ (((!(decide ((((members (fun k => b.toNat.testBit k) 62).length) : Int) > (best.length : Int)))) && ((((members (fun k => b.toNat.testBit k) 62).length) : Int) == (best.length : Int))) = true → PC Tryz.prog 198 [.sl (.ints (members (fun k => b.toNat.testBit k) 62)), .sl (.ints best)] (.one (.d (.int .i64 (Ji (members (fun k => b.toNat.testBit k) 62) best))))) ∧ (((!(decide ((((members (fun k => b.toNat.testBit k) 62).length) : Int) > (best.length : Int)))) && ((((members (fun k => b.toNat.testBit k) 62).length) : Int) == (best.length : Int))) = true → ((!(decide ((((members (fun k => b.toNat.testBit k) 62).length) : Int) > (best.length : Int)))) && ((((members (fun k => b.toNat.testBit k) 62).length) : Int) == (best.length : Int))) = true) ∧ (((!(decide ((((members (fun k => b.toNat.testBit k) 62).length) : Int) > (best.length : Int)))) = true → (!(decide ((((members (fun k => b.toNat.testBit k) 62).length) : Int) > (best.length : Int)))) = true)) ∧ (((!(decide ((((members (fun k => b.toNat.testBit k) 62).length) : Int) > (best.length : Int)))) = true → ((((members (fun k => b.toNat.testBit k) 62).length) : Int) == (best.length : Int)) = true → ((!(decide ((((members (fun k => b.toNat.testBit k) 62).length) : Int) > (best.length : Int)))) && ((((members (fun k => b.toNat.testBit k) 62).length) : Int) == (best.length : Int))) = true)) ∧ (((!(decide ((((members (fun k => b.toNat.testBit k) 62).length) : Int) > (best.length : Int)))) = true → ((((members (fun k => b.toNat.testBit k) 62).length) : Int) == (best.length : Int)) = false → true = true)) ∧ (true = true) ∧ (((decide ((((members (fun k => b.toNat.testBit k) 62).length) : Int) > (best.length : Int))) = true → true = true)) ∧ (((decide ((((members (fun k => b.toNat.testBit k) 62).length) : Int) > (best.length : Int))) = false → (!(decide ((((members (fun k => b.toNat.testBit k) 62).length) : Int) > (best.length : Int)))) = true)) ∧ ((J9 best b) = true → (J9 best b) = true) ∧ ((J9 best b) = true → (J9 best b) = true) ∧ ((J9 best b) = true → (J9 best b) = true) ∧ (((J9 best b) = true → (members (fun k => b.toNat.testBit k) 62).length = (members (fun k => b.toNat.testBit k) 62).length)) ∧ ((J9 best b) = true → PC Tryz.prog 163 [.agg [.sl (.ints U), .sl (.rows E)], .sl (.ints (members (fun k => b.toNat.testBit k) 62)), .int .i64 r] (.one (.d (.bool (J6 U.length E (members (fun k => b.toNat.testBit k) 62) r))))) ∧ (true = true) ∧ (((J9 best b) = true → (J9 best b) = true)) ∧ (((J9 best b) = false → true = true)) ∧ (((cond (J9 best b) (J6 U.length E (members (fun k => b.toNat.testBit k) 62) r) false) = true → (0 ≤ (b + 1) ∧ (b + 1) ≤ 18446744073709551615) ∧ (∃ best' : ZI, ∃ b' : Int, (JS U E r best' b') ∧ (JR U E r best' b' < JR U E r best b) ∧ (r = r) ∧ ((members (fun k => b.toNat.testBit k) 62).length = best'.length) ∧ ((b + 1) = b') ∧ (members (fun k => b.toNat.testBit k) 62 = best') ∧ (U = U) ∧ (E = E))) ∧ ((cond (J9 best b) (J6 U.length E (members (fun k => b.toNat.testBit k) 62) r) false) = false → (0 ≤ (b + 1) ∧ (b + 1) ≤ 18446744073709551615) ∧ (∃ best' : ZI, ∃ b' : Int, (JS U E r best' b') ∧ (JR U E r best' b' < JR U E r best b) ∧ (r = r) ∧ (best.length = best'.length) ∧ ((b + 1) = b') ∧ (best = best') ∧ (U = U) ∧ (E = E))))) ∧ ((decide (b < ((1 : Int) * 2 ^ ((E.length : Int).toNat)))) = false → ((best.length = best.length) ∧ ((best : ZI) = J02 U.length E r (2 ^ E.length)))))))
theorem J63 (U : ZI) (E : ZR) (r : Int) (hf : J0 U E = true) (w_Open : (U.length : Int) ≤ 9223372036854775807) (w_Dist : (E.length : Int) ≤ 9223372036854775807) (v_Dist : ∀ x9 ∈ E, (x9.length : Int) ≤ 9223372036854775807) : J3G U E r := by
  unfold J3G J9
  obtain ⟨g1, g2, g3⟩ := Jb hf
  have p7 := JbB (n := E.length) (by omega)
  have pp := Nat.two_pow_pos E.length
  have e0 := J4U E.length
  refine ⟨?_, ?_⟩
  ·refine ⟨([]), 1, ?_⟩
   refine ⟨?_, rfl, rfl, rfl, ?_, rfl, rfl⟩
   ·refine ⟨?_, ?_, ?_⟩
    ·omega
    ·omega
    ·exact (JdV _ _ _).symm
   rfl
  intro best b hJ
  obtain ⟨h1, h2, h3⟩ := hJ
  refine ⟨?_, ?_, ?_, ?_, ?_⟩
  ·omega
  ·omega
  ·rw [e0]
   generalize 2 ^ E.length = M at *
   omega
  ·intro b1
   try simp only [nrmT] at b1
   refine ⟨?_, id, id, id, id, id, id, id, fun _ => rfl, fun _ => rfl, fun _ => J1u (members (fun k => b.toNat.testBit k) 62) best, id, id, ?_, fun _ _ => rfl, rfl, fun _ => rfl, ?_, id, id, id, fun _ => rfl, ?_, rfl, id, fun _ => rfl, ?_, ?_⟩
   ·refine J4B b ?_
    ·rw [e0] at b1
     generalize 2 ^ E.length = M at *
     omega
   ·intro g1 g2; rw [g1, g2]; rfl
   ·intro h; rw [h]; rfl
   ·intro hg
    refine J2r U E (members (fun k => b.toNat.testBit k) 62) r ?_ ?_
    ·exact hf
    have el : members (fun k => b.toNat.testBit k) 62 = lst E.length b.toNat := Jb2 (by omega) (by rw [e0] at b1; omega)
    rw [el]; exact J9g
   ·intro b2
    refine ⟨?_, ?_⟩
    ·rw [e0] at b1
     generalize 2 ^ E.length = M at *
     omega
    refine ⟨(members (fun k => b.toNat.testBit k) 62), (b + 1), ?_⟩
    refine ⟨?_, ?_, rfl, rfl, rfl, ?_, rfl, rfl⟩
    ·refine ⟨?_, ?_, ?_⟩
     ·omega
     ·rw [e0] at b1
      generalize 2 ^ E.length = M at *
      omega
     ·have el : members (fun k => b.toNat.testBit k) 62 = lst E.length b.toNat := Jb2 (by omega) (by rw [e0] at b1; omega)
      rw [el] at b2 ⊢
      rw [Jd1, J91, J7A] at b2
      rw [show (b + 1).toNat = b.toNat + 1 by omega, J4q, ← h3]
      unfold lfF
      rw [if_pos b2]
    ·rw [e0] at b1
     show 2 ^ E.length - (b + 1).toNat < 2 ^ E.length - b.toNat
     generalize 2 ^ E.length = M at *
     omega
    rfl
   intro b3
   refine ⟨?_, ?_⟩
   ·rw [e0] at b1
    generalize 2 ^ E.length = M at *
    omega
   refine ⟨best, (b + 1), ?_⟩
   refine ⟨?_, ?_, rfl, rfl, rfl, rfl, rfl, rfl⟩
   ·refine ⟨?_, ?_, ?_⟩
    ·omega
    ·rw [e0] at b1
     generalize 2 ^ E.length = M at *
     omega
    ·have el : members (fun k => b.toNat.testBit k) 62 = lst E.length b.toNat := Jb2 (by omega) (by rw [e0] at b1; omega)
     rw [el] at b3
     rw [Jd1, J91, J7A] at b3
     rw [show (b + 1).toNat = b.toNat + 1 by omega, J4q, ← h3]
     unfold lfF
     rw [if_neg (by rw [b3]; decide)]
   rw [e0] at b1
   show 2 ^ E.length - (b + 1).toNat < 2 ^ E.length - b.toNat
   generalize 2 ^ E.length = M at *
   omega
  intro b4
  try simp only [nrmT] at b4
  refine ⟨rfl, ?_⟩
  ·have ec : b.toNat = 2 ^ E.length := by rw [e0] at b4; omega
   rw [h3, ec]
theorem J5Q (U : ZI) (E : ZR) (r : Int) (hf : J0 U E = true) : PC Tryz.prog 103 [.agg [.sl (.ints U), .sl (.rows E)], .int .i64 r] (.one (.own 3 (.ints (J02 U.length E r (2 ^ E.length))))) :=
  pc_wf @Tryz.call103 fun hw => pc_by (by kernel_rfl) Tryz.func103 @Tryz.call103 (by kernel_rfl) J6r (J6g U E r) (by kernel_rfl) (J63 U E r hf hw.1.1 hw.1.2.1.1 hw.1.2.1.2) (by kernel_rfl)
def J5z : List D → Orc := orcN [none, none] fun ds => match ds with
  | [.agg [.sl (.ints U), .sl (.rows E)], .int .i64 r] => some (.one (.own 3 (.ints (J02 U.length E r (2 ^ E.length)))))
  | _ => none
def J9B (f : FuncId) (ds : List D) : Orc := bif Nat.beq f 112 then J0K ds else bif Nat.beq f 106 then J78 ds else .no
def J9y (U : ZI) (E : ZR) (r : Int) : Ann := .none
def J5X (U : ZI) (E : ZR) (r : Int) : Prop :=
  (PC Tryz.prog 112 [.agg [.sl (.ints U), .sl (.rows E)]] (.one (.d (.bool (J0 U E))))) ∧ ((!(!(J0 U E))) = true → (!(!(J0 U E))) = true) ∧ (true = true) ∧ (((!(J0 U E)) = true → true = true)) ∧ (((!(J0 U E)) = false → (!(!(J0 U E))) = true)) ∧ (((cond (!(J0 U E)) true (decide (r < 0))) = true → (((0 : Nat) = 0) ∧ (([] : ZI) = (lfL U E r)) ∧ (false = (J0 U E && decide (0 ≤ r))))) ∧ ((cond (!(J0 U E)) true (decide (r < 0))) = false → (PC Tryz.prog 106 [.agg [.sl (.ints U), .sl (.rows E)], .int .i64 r] (.one (.d (.sl (.ints (J02 U.length E r (2 ^ E.length))))))) ∧ ((((J02 U.length E r (2 ^ E.length)) : ZI) = (lfL U E r)) ∧ (true = (J0 U E && decide (0 ≤ r))))))
theorem J8N (U : ZI) (E : ZR) (r : Int)  (w_Open : (U.length : Int) ≤ 9223372036854775807) (w_Dist : (E.length : Int) ≤ 9223372036854775807) (v_Dist : ∀ x9 ∈ E, (x9.length : Int) ≤ 9223372036854775807) : J5X U E r := by
  unfold J5X
  refine ⟨J1a U E, id, rfl, fun _ => rfl, ?_, ?_, ?_⟩
  ·(simp_all; done)
  ·intro b1
   refine ⟨rfl, ?_, ?_⟩
   ·have hq : (J0 U E && decide (0 ≤ r)) = false := by
      revert b1; cases J0 U E <;> by_cases h : r < 0 <;> simp [h] <;> omega
    unfold lfL; rw [hq]; rfl
   have hq : (J0 U E && decide (0 ≤ r)) = false := by
     revert b1; cases J0 U E <;> by_cases h : r < 0 <;> simp [h] <;> omega
   exact hq.symm
  intro b2
  refine ⟨?_, ?_, ?_⟩
  ·refine J83 U E r ?_
   ·have hq : (J0 U E && decide (0 ≤ r)) = true := by
      revert b2; cases J0 U E <;> by_cases h : r < 0 <;> simp [h] <;> omega
    rw [Bool.and_eq_true] at hq; exact hq.1
  ·have hq : (J0 U E && decide (0 ≤ r)) = true := by
     revert b2; cases J0 U E <;> by_cases h : r < 0 <;> simp [h] <;> omega
   unfold lfL; rw [if_pos hq]
  have hq : (J0 U E && decide (0 ≤ r)) = true := by
    revert b2; cases J0 U E <;> by_cases h : r < 0 <;> simp [h] <;> omega
  exact hq.symm
theorem J8X (U : ZI) (E : ZR) (r : Int)  : PC Tryz.prog 71 [.agg [.sl (.ints U), .sl (.rows E)], .int .i64 r] (.tup [.d (.sl (.ints (lfL U E r))), .d (.bool (J0 U E && decide (0 ≤ r)))]) :=
  pc_wf @Tryz.call71 fun hw => pc_by (by kernel_rfl) Tryz.func71 @Tryz.call71 (by kernel_rfl) J9B (J9y U E r) (by kernel_rfl) (J8N U E r hw.1.1 hw.1.2.1.1 hw.1.2.1.2) (by kernel_rfl)
def J8p : List D → Orc := orcN [none, none] fun ds => match ds with
  | [.agg [.sl (.ints U), .sl (.rows E)], .int .i64 r] => some (.tup [.d (.sl (.ints (lfL U E r))), .d (.bool (J0 U E && decide (0 ≤ r)))])
  | _ => none
def J9V (f : FuncId) (ds : List D) : Orc := bif Nat.beq f 114 then J1m ds else bif Nat.beq f 103 then J5z ds else .no
def J9N (U : ZI) (E : ZR) (r : Int) : Ann := .none
def J65 (U : ZI) (E : ZR) (r : Int) : Prop :=
  (PC Tryz.prog 114 [.agg [.sl (.ints U), .sl (.rows E)], .int .i64 r] (.one (.d (.bool (J0 U E && decide (0 ≤ r)))))) ∧ (((!(J0 U E && decide (0 ≤ r))) = true → (((lfL U E r).length = 0) ∧ (false = (J0 U E && decide (0 ≤ r))))) ∧ ((!(J0 U E && decide (0 ≤ r))) = false → (PC Tryz.prog 103 [.agg [.sl (.ints U), .sl (.rows E)], .int .i64 r] (.one (.own 3 (.ints (J02 U.length E r (2 ^ E.length)))))) ∧ (((J02 U.length E r (2 ^ E.length)).length = (J02 U.length E r (2 ^ E.length)).length) ∧ ((J02 U.length E r (2 ^ E.length) : ZI) = lfL U E r) ∧ (true = (J0 U E && decide (0 ≤ r))))))
theorem J92 (U : ZI) (E : ZR) (r : Int)  (w_Open : (U.length : Int) ≤ 9223372036854775807) (w_Dist : (E.length : Int) ≤ 9223372036854775807) (v_Dist : ∀ x9 ∈ E, (x9.length : Int) ≤ 9223372036854775807) : J65 U E r := by
  unfold J65
  refine ⟨J1v U E r, ?_, ?_⟩
  ·intro b1
   refine ⟨?_, ?_⟩
   ·have hq : (J0 U E && decide (0 ≤ r)) = false := by
      revert b1; cases J0 U E <;> by_cases h : r < 0 <;> simp [h] <;> omega
    unfold lfL; rw [hq]; rfl
   have hq : (J0 U E && decide (0 ≤ r)) = false := by
     revert b1; cases J0 U E <;> by_cases h : r < 0 <;> simp [h] <;> omega
   exact hq.symm
  intro b2
  refine ⟨?_, rfl, ?_, ?_⟩
  ·refine J5Q U E r ?_
   ·have hq : (J0 U E && decide (0 ≤ r)) = true := by
      revert b2; cases J0 U E <;> by_cases h : r < 0 <;> simp [h] <;> omega
    rw [Bool.and_eq_true] at hq; exact hq.1
  ·have hq : (J0 U E && decide (0 ≤ r)) = true := by
     revert b2; cases J0 U E <;> by_cases h : r < 0 <;> simp [h] <;> omega
   unfold lfL; rw [if_pos hq]
  have hq : (J0 U E && decide (0 ≤ r)) = true := by
    revert b2; cases J0 U E <;> by_cases h : r < 0 <;> simp [h] <;> omega
  exact hq.symm
theorem J93 (U : ZI) (E : ZR) (r : Int)  : PC Tryz.prog 70 [.agg [.sl (.ints U), .sl (.rows E)], .int .i64 r] (.tup [.own 3 (.ints (lfL U E r)), .d (.bool (J0 U E && decide (0 ≤ r)))]) :=
  pc_wf @Tryz.call70 fun hw => pc_by (by kernel_rfl) Tryz.func70 @Tryz.call70 (by kernel_rfl) J9V (J9N U E r) (by kernel_rfl) (J92 U E r hw.1.1 hw.1.2.1.1 hw.1.2.1.2) (by kernel_rfl)
def J8B : List D → Orc := orcN [none, none] fun ds => match ds with
  | [.agg [.sl (.ints U), .sl (.rows E)], .int .i64 r] => some (.tup [.own 3 (.ints (lfL U E r)), .d (.bool (J0 U E && decide (0 ≤ r)))])
  | _ => none
def Jev (xs : ZI) (b : Int) (k : Nat) : Int := min b (xs.getD k 0)
def J5p (xs : ZI) (k : Nat) : Int := foldTo (Jev xs) (xs.getD 0 0) k
def Jl (xs : ZI) : Int := J5p xs xs.length
theorem J9s (xs : ZI) (k : Nat) : J5p xs (k + 1) = min (J5p xs k) (xs.getD k 0) := rfl
theorem J6h (xs : ZI) : ∀ k, 0 < k → (∀ j, j < k → J5p xs k ≤ xs.getD j 0) ∧ ∃ j, j < k ∧ J5p xs k = xs.getD j 0
  | 0, h => by omega
  | k + 1, _ => by
    rw [J9s]
    by_cases hk : 0 < k
    · obtain ⟨h1, j, h2, h3⟩ := J6h xs k hk
      refine ⟨fun i hi => ?_, ?_⟩
      · by_cases e : i = k
        · subst e; omega
        · have := h1 i (by omega); omega
      by_cases e : J5p xs k ≤ xs.getD k 0
      · exact ⟨j, by omega, by omega⟩
      · exact ⟨k, by omega, by omega⟩
    have : k = 0 := by omega
    subst this
    have e : J5p xs 0 = xs.getD 0 0 := rfl
    refine ⟨fun i hi => ?_, 0, by omega, by omega⟩
    have : i = 0 := by omega
    subst this; omega
/-- The first place with the least number. -/
def J8s (row : ZI) (b : Int) (k : Nat) : Int := if row.getD k 0 < row.getD b.toNat 0 then (k : Int) else b
def J2W (row : ZI) (k : Nat) : Int := foldTo (J8s row) 0 k
theorem J9q (row : ZI) (k : Nat) : J2W row (k + 1) = J8s row (J2W row k) k := rfl
theorem J6l (row : ZI) : ∀ k, 0 < k → 0 ≤ J2W row k ∧ J2W row k < k ∧ (∀ j, j < k → row.getD (J2W row k).toNat 0 ≤ row.getD j 0) ∧ ∀ j, j < (J2W row k).toNat → row.getD (J2W row k).toNat 0 < row.getD j 0
  | 0, h => by omega
  | k + 1, _ => by
    rw [J9q]
    by_cases hk : 0 < k
    · obtain ⟨h1, h2, h3, h4⟩ := J6l row k hk
      unfold J8s
      by_cases e : row.getD k 0 < row.getD (J2W row k).toNat 0
      · rw [if_pos e, Int.toNat_natCast]
        refine ⟨by omega, by omega, fun j hj => ?_, fun j hj => ?_⟩
        · by_cases ej : j = k
          · subst ej; omega
          · have := h3 j (by omega); omega
        have := h3 j (by omega); omega
      rw [if_neg e]
      refine ⟨h1, by omega, fun j hj => ?_, h4⟩
      by_cases ej : j = k
      · subst ej; omega
      exact h3 j (by omega)
    have : k = 0 := by omega
    subst this
    have e : J8s row (J2W row 0) 0 = 0 := by
      show J8s row 0 0 = 0
      unfold J8s; split <;> rfl
    rw [e]
    refine ⟨by omega, by omega, fun j hj => ?_, fun j hj => by simp at hj⟩
    have : j = 0 := by omega
    subst this; exact Int.le_refl _
def J0g (row : ZI) : Int := J2W row row.length
theorem J0B {row : ZI} (h : 0 < row.length) : idxI (fun y => Jl row == y) row = J0g row := by
  obtain ⟨h1, h2, h3, h4⟩ := J6l row row.length h
  obtain ⟨m1, j, m2, m3⟩ := J6h row row.length h
  have e : Jl row = row.getD (J0g row).toNat 0 := by
    have a1 := m1 (J0g row).toNat (by unfold J0g; omega)
    have a2 := h3 j m2
    unfold Jl J0g at *
    omega
  refine (idx_found (d := 0) h1 h2 (fun k hk => ?_) ?_).symm
  · have := h4 k hk
    rw [e]
    unfold J0g
    simp only [beq_eq_false_iff_ne]
    omega
  rw [e]
  unfold J0g
  simp
theorem Jbb {n k : Nat} (h : k < n) : (J69 n).getD k 0 = (k : Int) := by
  unfold J69 members
  have e : (List.range n).filter (fun _ => true) = List.range n := List.filter_eq_self.2 fun _ _ => rfl
  rw [e]
  simp [h]
theorem Jb3 (n : Nat) : (J69 n).length = n := by
  unfold J69 members
  have e : (List.range n).filter (fun _ => true) = List.range n := List.filter_eq_self.2 fun _ _ => rfl
  rw [e]; simp
theorem JdT {row : ZI} {n : Nat} (hn : 0 < n) : Jn row (J69 n) n = J2W row n := by
  have key : ∀ k, k ≤ n → Jn row (J69 n) k = J2W row k := by
    intro k hk
    induction k with
    | zero => exact Jbb hn
    | succ k ih =>
      rw [J0y, J9q, ih (by omega)]
      unfold J2U J8s
      rw [Jbb (by omega), Int.toNat_natCast]
  exact key n (Nat.le_refl _)
def J4v (E : ZR) (clients : ZI) (k : Nat) : Nat := foldTo (fun s j => s ||| 2 ^ (J0g (E.getD (clients.getD j 0).toNat [])).toNat) 0 k
def J1P (E : ZR) (clients : ZI) (k : Nat) : ZI := foldTo (fun l j => putL l (J0g (E.getD (clients.getD j 0).toNat []))) [] k
def Jo (E : ZR) (clients : ZI) : ZI := if clients.length = 0 then [0] else J1P E clients clients.length
theorem J4V {E : ZR} {clients : ZI} {y : Int} : ∀ k, y ∈ J1P E clients k ↔ ∃ j, j < k ∧ J0g (E.getD (clients.getD j 0).toNat []) = y
  | 0 => by simp [J1P, foldTo]
  | k + 1 => by
    have e : J1P E clients (k + 1) = putL (J1P E clients k) (J0g (E.getD (clients.getD k 0).toNat [])) := rfl
    rw [e, mem_putL, J4V k]
    constructor
    · rintro (h | ⟨j, h1, h2⟩)
      · exact ⟨k, by omega, h.symm⟩
      · exact ⟨j, by omega, h2⟩
    rintro ⟨j, h1, h2⟩
    by_cases e : j = k
    · subst e; exact .inl h2.symm
    exact .inr ⟨j, by omega, h2⟩
theorem J8q {E : ZR} {clients : ZI} : ∀ k, Asc (J1P E clients k)
  | 0 => List.Pairwise.nil
  | k + 1 => asc_putL (J8q k)
theorem J8r {E : ZR} {clients : ZI} : ∀ k, (J1P E clients k).length ≤ k
  | 0 => Nat.le_refl _
  | k + 1 => by
    have e : J1P E clients (k + 1) = putL (J1P E clients k) (J0g (E.getD (clients.getD k 0).toNat [])) := rfl
    have := putL_len (J1P E clients k) (J0g (E.getD (clients.getD k 0).toNat []))
    have := J8r (E := E) (clients := clients) k
    rw [e]; omega
theorem J8D {E : ZR} {clients : ZI} {x : Nat} : ∀ k, (J4v E clients k).testBit x = true ↔ ∃ j, j < k ∧ (J0g (E.getD (clients.getD j 0).toNat [])).toNat = x
  | 0 => by simp [J4v, foldTo]
  | k + 1 => by
    have e : J4v E clients (k + 1) = J4v E clients k ||| 2 ^ (J0g (E.getD (clients.getD k 0).toNat [])).toNat := rfl
    rw [e, Nat.testBit_or, Bool.or_eq_true, J8D k, Nat.testBit_two_pow]
    simp only [decide_eq_true_eq]
    constructor
    · rintro (⟨j, h1, h2⟩ | h)
      · exact ⟨j, by omega, h2⟩
      · exact ⟨k, by omega, h⟩
    rintro ⟨j, h1, h2⟩
    by_cases e : j = k
    · subst e; exact .inr h2
    exact .inl ⟨j, by omega, h2⟩
theorem JQ {U : ZI} {E : ZR} (hf : J0 U E = true) {c : Int} (hc : 0 ≤ c ∧ c < (E.length : Int)) : 0 ≤ J0g (E.getD c.toNat []) ∧ J0g (E.getD c.toNat []) < (U.length : Int) ∧ (E.getD c.toNat []).length = U.length := by
  obtain ⟨g1, g2, g3⟩ := Jb hf
  obtain ⟨rl, _⟩ := J8 (i := c.toNat) hf (by omega)
  obtain ⟨h1, h2, _⟩ := J6l (E.getD c.toNat []) (E.getD c.toNat []).length (by omega)
  unfold J0g
  omega
theorem J9P {U : ZI} {E : ZR} (hf : J0 U E = true) {clients : ZI} (hc : ∀ c ∈ clients, 0 ≤ c ∧ c < (E.length : Int)) : ∀ k, k ≤ clients.length → J4v E clients k < 256
  | 0, _ => (by decide : (0 : Nat) < 256)
  | k + 1, hk => by
    have e : J4v E clients (k + 1) = J4v E clients k ||| 2 ^ (J0g (E.getD (clients.getD k 0).toNat [])).toNat := rfl
    have h1 := JQ hf (hc _ (getD_mem (d := 0) (show k < clients.length by omega)))
    have h2 := Jb hf
    rw [e]
    exact Nat.or_lt_two_pow (n := 8) (J9P hf hc k (by omega)) (Nat.pow_lt_pow_right (by omega) (by omega))
theorem Je3 {U : ZI} {E : ZR} (hf : J0 U E = true) {clients : ZI} (hc : ∀ c ∈ clients, 0 ≤ c ∧ c < (E.length : Int)) : members (fun k => (J4v E clients clients.length).testBit k) 62 = J1P E clients clients.length := by
  refine asc_ext (asc_members _ _) (J8q _) fun x => ?_
  rw [mem_members, J4V, J8D]
  constructor
  · rintro ⟨h1, h2, j, h3, h4⟩
    have h5 := JQ hf (hc _ (getD_mem (d := 0) h3))
    exact ⟨j, h3, by omega⟩
  rintro ⟨j, h3, h4⟩
  have h5 := JQ hf (hc _ (getD_mem (d := 0) h3))
  have h6 := Jb hf
  exact ⟨by omega, by omega, j, h3, by omega⟩
theorem Jal {E : ZR} {clients : ZI} : J4v E clients clients.length = 0 ↔ clients.length = 0 := by
  constructor
  · intro h
    by_cases e : clients.length = 0
    · exact e
    exfalso
    have h1 := (J8D (E := E) (clients := clients) (x := (J0g (E.getD (clients.getD 0 0).toNat [])).toNat) clients.length).2 ⟨0, by omega, rfl⟩
    rw [h, Nat.zero_testBit] at h1
    cases h1
  intro h; rw [h]; rfl
theorem Jau {E : ZR} {clients : ZI} : (J1P E clients clients.length).length = 0 ↔ clients.length = 0 := by
  constructor
  · intro h
    by_cases e : clients.length = 0
    · exact e
    have h1 := (J4V (E := E) (clients := clients) (y := J0g (E.getD (clients.getD 0 0).toNat [])) clients.length).2 ⟨0, by omega, rfl⟩
    rw [List.eq_nil_of_length_eq_zero h] at h1
    cases h1
  intro h; rw [h]; rfl
theorem Jdw (n : Nat) : members (fun k => (((1 : Int) * 2 ^ ((n : Int).toNat)) - 1).toNat.testBit k) (n : Int).toNat = J69 n := by
  rw [J4U, Int.toNat_natCast, ← Jdj]
  refine members_congr fun k _ => ?_
  congr 1
  have := Nat.two_pow_pos n
  omega
theorem Jbw {row : ZI} {r : Int} (h : 0 < row.length) : (!(allTo (fun c => !(decide (row.getD c 0 ≤ r))) row.length)) = decide (Jl row ≤ r) := by
  obtain ⟨m1, j, m2, m3⟩ := J6h row row.length h
  by_cases e : Jl row ≤ r
  · rw [decide_eq_true e, allTo_false m2 (by rw [decide_eq_true (by unfold Jl at e; omega)]; rfl)]; rfl
  rw [decide_eq_false e, allTo_iff.2 fun k hk => by
    have := m1 k hk
    rw [decide_eq_false (by unfold Jl at e; omega)]; rfl]
  rfl
theorem JcS {p : Nat → Bool} {i : Int} (h : 0 ≤ i) : allTo p (i + 1).toNat = (allTo p i.toNat && p i.toNat) := by
  rw [show (i + 1).toNat = i.toNat + 1 by omega]; rfl
abbrev J08 (xs : ZI) (m : Int) (i : Int) : Prop := (1 ≤ i) ∧ (i ≤ (xs.length : Int)) ∧ (m = J5p xs i.toNat)
abbrev J0a (xs : ZI) (m : Int) (i : Int) : Nat := (xs.length - i).toNat
def J5T (f : FuncId) (ds : List D) : Orc := .no
def J5W (xs : ZI) : Ann := .two (.none) (.two (.two (.none) (.goF (.none))) (.two (.none) (.two (.two (.none) (.loop (cut2 (fun (m : Int) (i : Int) => J08 xs m i) (fun (m : Int) (i : Int) => [(0, .d false (.sl (.ints xs))), (3, .d true (.int .i64 m)), (4, .d true (.int .i64 i))]) (fun (m : Int) (i : Int) => [])) (fun g => J0a xs g.1 g.2) (fun _ => .none))) (.none))))
def J3d (xs : ZI) : Prop :=
  ((decide ((xs.length : Int) < 1)) = false) ∧ ((0 : Int) ≤ 0) ∧ ((0 : Int) < xs.length) ∧ (0 < xs.length) ∧ ((∃ m' : Int, ∃ i' : Int, (J08 xs m' i') ∧ (xs = xs) ∧ ((xs.getD 0 0) = m') ∧ ((1 : Int) = i')) ∧ (∀ m : Int, ∀ i : Int, (J08 xs m i) → (((decide (i < (xs.length : Int))) = true → ((0 : Int) ≤ i) ∧ ((i : Int) < xs.length) ∧ (i.toNat < xs.length) ∧ (I6 (i + 1)) ∧ (∃ m' : Int, ∃ i' : Int, (J08 xs m' i') ∧ (J0a xs m' i' < J0a xs m i) ∧ (xs = xs) ∧ ((min m (xs.getD i.toNat 0)) = m') ∧ ((i + 1) = i'))) ∧ ((decide (i < (xs.length : Int))) = false → ((m = (Jl xs)))))))
theorem J5F (xs : ZI) (hp : 0 < xs.length) (w_xs : (xs.length : Int) ≤ 9223372036854775807) : J3d xs := by
  unfold J3d
  refine ⟨?_, ?_, ?_, ?_, ?_, ?_⟩
  ·exact decide_eq_false (by omega)
  ·omega
  ·omega
  ·omega
  ·refine ⟨(xs.getD 0 0), 1, ?_⟩
   refine ⟨?_, rfl, rfl, rfl⟩
   ·refine ⟨?_, ?_, ?_⟩
    ·omega
    ·omega
    ·show _ = min (xs.getD 0 0) (xs.getD 0 0)
     omega
  intro m i hJ
  obtain ⟨h1, h2, h3⟩ := hJ
  refine ⟨?_, ?_⟩
  ·intro b1
   try simp only [nrmT] at b1
   refine ⟨?_, ?_, ?_, ?_, ?_⟩
   ·omega
   ·omega
   ·omega
   ·omega
   refine ⟨(min m (xs.getD i.toNat 0)), (i + 1), ?_⟩
   refine ⟨?_, ?_, rfl, rfl, rfl⟩
   ·refine ⟨?_, ?_, ?_⟩
    ·omega
    ·omega
    ·rw [h3, show (i + 1).toNat = i.toNat + 1 by omega, J9s]
   (simp only [J0a]; omega)
  intro b2
  try simp only [nrmT] at b2
  unfold Jl; rw [h3, show i.toNat = xs.length by omega]
theorem J2F (xs : ZI) (hp : 0 < xs.length) : PC Tryz.prog 197 [.sl (.ints xs)] (.one (.d (.int .i64 (Jl xs)))) :=
  pc_wf @Tryz.call197 fun hw => pc_by (by kernel_rfl) Tryz.func197 @Tryz.call197 (by kernel_rfl) J5T (J5W xs) (by kernel_rfl) (J5F xs hp hw.1) (by kernel_rfl)
def J2m : List D → Orc := orcN [some .ints] fun ds => match ds with
  | [.sl (.ints xs)] => some (.one (.d (.int .i64 (Jl xs))))
  | _ => none
abbrev J1M (U : ZI) (E : ZR) (clients : ZI) (out : ZI) (i : Int) : Prop := (0 ≤ i) ∧ (i ≤ (clients.length : Int)) ∧ (out = J1P E clients i.toNat)
abbrev J1D (U : ZI) (E : ZR) (clients : ZI) (out : ZI) (i : Int) : Nat := (clients.length - i).toNat
def JaE (f : FuncId) (ds : List D) : Orc := bif Nat.beq f 142 then J7x ds else bif Nat.beq f 153 then Jbr ds else bif Nat.beq f 140 then J84 ds else .no
def JaH (U : ZI) (E : ZR) (clients : ZI) : Ann := .two (.none) (.two (.reg [(0, .frz)]) (.two (.none) (.two (.two (.none) (.loop (cut2 (fun (out : ZI) (i : Int) => J1M U E clients out i) (fun (out : ZI) (i : Int) => [(1, .d false (.sl (.ints clients))), (2, .ptr 2 0), (5, .d true (.sl (.ints out))), (6, .d true (.sl (.ints (members (fun k => (((1 : Int) * 2 ^ ((U.length : Int).toNat)) - 1).toNat.testBit k) (U.length : Int).toNat)))), (7, .d true (.int .i64 i))]) (fun (out : ZI) (i : Int) => [(2, .box 27 [.d false (.sl (.ints U)), .d false (.sl (.rows E))])])) (fun g => J1D U E clients g.1 g.2) (fun _ => .none))) (.none))))
def J6w (U : ZI) (E : ZR) (clients : ZI) : Prop :=
  (true = true) ∧ ((0 : Int) ≤ 1) ∧ ((0 : Int) ≤ (U.length : Int)) ∧ ((0 : Int) ≤ ((1 : Int) * 2 ^ ((U.length : Int).toNat)) ∧ (((1 : Int) * 2 ^ ((U.length : Int).toNat)) : Int) ≤ 9223372036854775807) ∧ (I6 (((1 : Int) * 2 ^ ((U.length : Int).toNat)) - 1)) ∧ (PC Tryz.prog 142 [.int .i64 (U.length : Int), .int .i64 (((1 : Int) * 2 ^ ((U.length : Int).toNat)) - 1)] (.one (.d (.sl (.ints (members (fun k => (((1 : Int) * 2 ^ ((U.length : Int).toNat)) - 1).toNat.testBit k) (U.length : Int).toNat)))))) ∧ ((∃ out' : ZI, ∃ i' : Int, (J1M U E clients out' i') ∧ (clients = clients) ∧ ([] = out') ∧ ((members (fun k => (((1 : Int) * 2 ^ ((U.length : Int).toNat)) - 1).toNat.testBit k) (U.length : Int).toNat) = (members (fun k => (((1 : Int) * 2 ^ ((U.length : Int).toNat)) - 1).toNat.testBit k) (U.length : Int).toNat)) ∧ ((0 : Int) = i') ∧ (U = U) ∧ (E = E)) ∧ (∀ out : ZI, ∀ i : Int, (J1M U E clients out i) → (((decide (i < (clients.length : Int))) = true → (true = true) ∧ ((0 : Int) ≤ i) ∧ ((i : Int) < clients.length) ∧ (i.toNat < clients.length) ∧ (PC Tryz.prog 153 [.agg [.sl (.ints U), .sl (.rows E)], .int .i64 (clients.getD i.toNat 0), .sl (.ints (members (fun k => (((1 : Int) * 2 ^ ((U.length : Int).toNat)) - 1).toNat.testBit k) (U.length : Int).toNat))] (.one (.d (.int .i64 (Jn (E.getD (clients.getD i.toNat 0).toNat []) (members (fun k => (((1 : Int) * 2 ^ ((U.length : Int).toNat)) - 1).toNat.testBit k) (U.length : Int).toNat) (members (fun k => (((1 : Int) * 2 ^ ((U.length : Int).toNat)) - 1).toNat.testBit k) (U.length : Int).toNat).length))))) ∧ (PCs Tryz.prog 140 [.sl (.ints out), .int .i64 (Jn (E.getD (clients.getD i.toNat 0).toNat []) (members (fun k => (((1 : Int) * 2 ^ ((U.length : Int).toNat)) - 1).toNat.testBit k) (U.length : Int).toNat) (members (fun k => (((1 : Int) * 2 ^ ((U.length : Int).toNat)) - 1).toNat.testBit k) (U.length : Int).toNat).length)] 0 (.sl (.ints (putL out (Jn (E.getD (clients.getD i.toNat 0).toNat []) (members (fun k => (((1 : Int) * 2 ^ ((U.length : Int).toNat)) - 1).toNat.testBit k) (U.length : Int).toNat) (members (fun k => (((1 : Int) * 2 ^ ((U.length : Int).toNat)) - 1).toNat.testBit k) (U.length : Int).toNat).length))))) ∧ (I6 (i + 1)) ∧ (∃ out' : ZI, ∃ i' : Int, (J1M U E clients out' i') ∧ (J1D U E clients out' i' < J1D U E clients out i) ∧ (clients = clients) ∧ ((putL out (Jn (E.getD (clients.getD i.toNat 0).toNat []) (members (fun k => (((1 : Int) * 2 ^ ((U.length : Int).toNat)) - 1).toNat.testBit k) (U.length : Int).toNat) (members (fun k => (((1 : Int) * 2 ^ ((U.length : Int).toNat)) - 1).toNat.testBit k) (U.length : Int).toNat).length)) = out') ∧ ((members (fun k => (((1 : Int) * 2 ^ ((U.length : Int).toNat)) - 1).toNat.testBit k) (U.length : Int).toNat) = (members (fun k => (((1 : Int) * 2 ^ ((U.length : Int).toNat)) - 1).toNat.testBit k) (U.length : Int).toNat)) ∧ ((i + 1) = i') ∧ (U = U) ∧ (E = E))) ∧ ((decide (i < (clients.length : Int))) = false → ((((out.length : Int) == 0) = true → (((1 : Nat) = 1) ∧ (([0] : ZI) = (Jo E clients)))) ∧ (((out.length : Int) == 0) = false → (((out : ZI) = (Jo E clients)))))))))
theorem J9G (U : ZI) (E : ZR) (clients : ZI) (hf : J0 U E = true) (hc : ∀ c ∈ clients, 0 ≤ c ∧ c < (E.length : Int)) (hl : clients.length ≤ 7) (w_Open : (U.length : Int) ≤ 9223372036854775807) (w_Dist : (E.length : Int) ≤ 9223372036854775807) (v_Dist : ∀ x9 ∈ E, (x9.length : Int) ≤ 9223372036854775807) (w_clients : (clients.length : Int) ≤ 9223372036854775807) : J6w U E clients := by
  unfold J6w
  obtain ⟨g1, g2, g3⟩ := Jb hf
  have p7 := JbB (n := U.length) (by omega)
  have pp := Nat.two_pow_pos U.length
  have e0 := J4U U.length
  refine ⟨rfl, ?_, ?_, ?_, ?_, ?_, ?_, ?_⟩
  ·omega
  ·omega
  ·rw [e0]
   generalize 2 ^ U.length = M at *
   omega
  ·rw [e0]
   generalize 2 ^ U.length = M at *
   omega
  ·refine J8d (U.length : Int) (((1 : Int) * 2 ^ ((U.length : Int).toNat)) - 1) ?_ ?_
   ·omega
   ·rw [e0]
    generalize 2 ^ U.length = M at *
    omega
  ·refine ⟨([]), 0, ?_⟩
   refine ⟨?_, rfl, ?_, rfl, rfl, rfl, rfl⟩
   ·refine ⟨?_, ?_, ?_⟩
    ·omega
    ·omega
    ·rfl
   rfl
  intro out i hJ
  obtain ⟨h1, h2, h3⟩ := hJ
  refine ⟨?_, ?_⟩
  ·intro b1
   try simp only [nrmT] at b1
   refine ⟨rfl, ?_, ?_, ?_, ?_, ?_, ?_, ?_⟩
   ·omega
   ·omega
   ·omega
   ·refine Jc2 U E (clients.getD i.toNat 0) (members (fun k => (((1 : Int) * 2 ^ ((U.length : Int).toNat)) - 1).toNat.testBit k) (U.length : Int).toNat) ?_ ?_
    ·rw [Jdw, hf, JcE, Jb3, decide_eq_true (by omega)]; rfl
    ·have hcc := hc _ (getD_mem (d := 0) (show i.toNat < clients.length by omega))
     have ai := JQ hf hcc
     have ix := J0B (row := E.getD (clients.getD i.toNat 0).toNat []) (by omega)
     exact hcc
   ·refine J97 out (Jn (E.getD (clients.getD i.toNat 0).toNat []) (members (fun k => (((1 : Int) * 2 ^ ((U.length : Int).toNat)) - 1).toNat.testBit k) (U.length : Int).toNat) (members (fun k => (((1 : Int) * 2 ^ ((U.length : Int).toNat)) - 1).toNat.testBit k) (U.length : Int).toNat).length) ?_
    ·rw [h3]; have := J8r (E := E) (clients := clients) i.toNat; omega
   ·omega
   refine ⟨(putL out (Jn (E.getD (clients.getD i.toNat 0).toNat []) (members (fun k => (((1 : Int) * 2 ^ ((U.length : Int).toNat)) - 1).toNat.testBit k) (U.length : Int).toNat) (members (fun k => (((1 : Int) * 2 ^ ((U.length : Int).toNat)) - 1).toNat.testBit k) (U.length : Int).toNat).length)), (i + 1), ?_⟩
   refine ⟨?_, ?_, rfl, rfl, rfl, rfl, rfl, rfl⟩
   ·refine ⟨?_, ?_, ?_⟩
    ·omega
    ·omega
    ·have hcc := hc _ (getD_mem (d := 0) (show i.toNat < clients.length by omega))
     have ai := JQ hf hcc
     have ix := J0B (row := E.getD (clients.getD i.toNat 0).toNat []) (by omega)
     have e : J1P E clients (i.toNat + 1) = putL (J1P E clients i.toNat) (J0g (E.getD (clients.getD i.toNat 0).toNat [])) := rfl
     rw [Jdw, Jb3, JdT (by omega), show (i + 1).toNat = i.toNat + 1 by omega, e, h3]
     unfold J0g
     rw [ai.2.2]
   (simp only [J1D]; omega)
  intro b2
  try simp only [nrmT] at b2
  refine ⟨?_, ?_⟩
  ·intro b3
   try simp only [nrmT] at b3
   refine ⟨rfl, ?_⟩
   ·rw [h3, show i.toNat = clients.length by omega] at b3
    unfold Jo
    rw [if_pos ((Jau (E := E)).1 (by omega))]
  intro b4
  try simp only [nrmT] at b4
  have e : out = J1P E clients clients.length := by rw [h3, show i.toNat = clients.length by omega]
  rw [e] at b4 ⊢
  unfold Jo
  rw [if_neg (fun h => b4 (by rw [Jau.2 h]; rfl))]
theorem J9X (U : ZI) (E : ZR) (clients : ZI) (hf : J0 U E = true) (hc : ∀ c ∈ clients, 0 ≤ c ∧ c < (E.length : Int)) (hl : clients.length ≤ 7) : PC Tryz.prog 110 [.agg [.sl (.ints U), .sl (.rows E)], .sl (.ints clients)] (.one (.d (.sl (.ints (Jo E clients))))) :=
  pc_wf @Tryz.call110 fun hw => pc_by (by kernel_rfl) Tryz.func110 @Tryz.call110 (by kernel_rfl) JaE (JaH U E clients) (by kernel_rfl) (J9G U E clients hf hc hl hw.1.1 hw.1.2.1.1 hw.1.2.1.2 hw.2.1) (by kernel_rfl)
def J8R : List D → Orc := orcN [none, some .ints] fun ds => match ds with
  | [.agg [.sl (.ints U), .sl (.rows E)], .sl (.ints clients)] => some (.one (.d (.sl (.ints (Jo E clients)))))
  | _ => none
abbrev J0P (U : ZI) (E : ZR) (clients : ZI) (out : Int) (i : Int) : Prop := (0 ≤ i) ∧ (i ≤ (clients.length : Int)) ∧ (out = ((J4v E clients i.toNat : Nat) : Int))
abbrev J0U (U : ZI) (E : ZR) (clients : ZI) (out : Int) (i : Int) : Nat := (clients.length - i).toNat
def J7R (f : FuncId) (ds : List D) : Orc := bif Nat.beq f 197 then J2m ds else bif Nat.beq f 152 then J4S ds else bif Nat.beq f 139 then J5N ds else .no
def J7M (U : ZI) (E : ZR) (clients : ZI) : Ann := .two (.none) (.two (.none) (.two (.two (.none) (.loop (cut2 (fun (out : Int) (i : Int) => J0P U E clients out i) (fun (out : Int) (i : Int) => [(2, .ptr 2 0), (5, .d true (.int .u64 out)), (8, .d false (.sl (.ints clients))), (9, .d true (.int .i64 (clients.length : Int))), (10, .d true (.int .i64 i))]) (fun (out : Int) (i : Int) => [(2, .box 27 [.d false (.sl (.ints U)), .d false (.sl (.rows E))])])) (fun g => J0U U E clients g.1 g.2) (fun _ => .none))) (.none)))
def J4J (U : ZI) (E : ZR) (clients : ZI) : Prop :=
  ((∃ out' : Int, ∃ i' : Int, (J0P U E clients out' i') ∧ ((0 : Int) = out') ∧ (clients = clients) ∧ ((clients.length : Int) = (clients.length : Int)) ∧ ((0 : Int) = i') ∧ (U = U) ∧ (E = E)) ∧ (∀ out : Int, ∀ i : Int, (J0P U E clients out i) → (((decide (i < (clients.length : Int))) = true → ((0 : Int) ≤ i) ∧ ((i : Int) < clients.length) ∧ (i.toNat < clients.length) ∧ (true = true) ∧ ((0 : Int) ≤ (clients.getD i.toNat 0)) ∧ (((clients.getD i.toNat 0) : Int) < E.length) ∧ ((clients.getD i.toNat 0).toNat < E.length) ∧ ((0 : Int) ≤ (clients.getD i.toNat 0)) ∧ (((clients.getD i.toNat 0) : Int) < E.length) ∧ ((clients.getD i.toNat 0).toNat < E.length) ∧ (PC Tryz.prog 197 [.sl (.ints (E.getD ((clients.getD i.toNat 0).toNat) []))] (.one (.d (.int .i64 (Jl (E.getD ((clients.getD i.toNat 0).toNat) [])))))) ∧ (PC Tryz.prog 152 [.sl (.ints (E.getD ((clients.getD i.toNat 0).toNat) [])), .int .i64 (Jl (E.getD ((clients.getD i.toNat 0).toNat) []))] (.one (.d (.int .i64 (idxI (fun y => (Jl (E.getD ((clients.getD i.toNat 0).toNat) [])) == y) (E.getD ((clients.getD i.toNat 0).toNat) [])))))) ∧ ((0 : Int) ≤ 1) ∧ ((0 : Int) ≤ (idxI (fun y => (Jl (E.getD ((clients.getD i.toNat 0).toNat) [])) == y) (E.getD ((clients.getD i.toNat 0).toNat) []))) ∧ ((0 : Int) ≤ ((1 : Int) * 2 ^ ((idxI (fun y => (Jl (E.getD ((clients.getD i.toNat 0).toNat) [])) == y) (E.getD ((clients.getD i.toNat 0).toNat) [])).toNat)) ∧ (((1 : Int) * 2 ^ ((idxI (fun y => (Jl (E.getD ((clients.getD i.toNat 0).toNat) [])) == y) (E.getD ((clients.getD i.toNat 0).toNat) [])).toNat)) : Int) ≤ 18446744073709551615) ∧ ((0 : Int) ≤ out ∧ (out : Int) ≤ 18446744073709551615) ∧ ((0 : Int) ≤ ((1 : Int) * 2 ^ ((idxI (fun y => (Jl (E.getD ((clients.getD i.toNat 0).toNat) [])) == y) (E.getD ((clients.getD i.toNat 0).toNat) [])).toNat)) ∧ (((1 : Int) * 2 ^ ((idxI (fun y => (Jl (E.getD ((clients.getD i.toNat 0).toNat) [])) == y) (E.getD ((clients.getD i.toNat 0).toNat) [])).toNat)) : Int) ≤ 18446744073709551615) ∧ (I6 (i + 1)) ∧ (∃ out' : Int, ∃ i' : Int, (J0P U E clients out' i') ∧ (J0U U E clients out' i' < J0U U E clients out i) ∧ (((out.toNat ||| ((1 : Int) * 2 ^ ((idxI (fun y => (Jl (E.getD ((clients.getD i.toNat 0).toNat) [])) == y) (E.getD ((clients.getD i.toNat 0).toNat) [])).toNat)).toNat : Nat) : Int) = out') ∧ (clients = clients) ∧ ((clients.length : Int) = (clients.length : Int)) ∧ ((i + 1) = i') ∧ (U = U) ∧ (E = E))) ∧ ((decide (i < (clients.length : Int))) = false → (((out == 0) = true → (PC Tryz.prog 139 [.int .u64 1] (.one (.own 3 (.ints (members (fun k => (1 : Int).toNat.testBit k) 62))))) ∧ (((members (fun k => (1 : Int).toNat.testBit k) 62).length = (members (fun k => (1 : Int).toNat.testBit k) 62).length) ∧ ((members (fun k => (1 : Int).toNat.testBit k) 62 : ZI) = Jo E clients))) ∧ ((out == 0) = false → (PC Tryz.prog 139 [.int .u64 out] (.one (.own 3 (.ints (members (fun k => out.toNat.testBit k) 62))))) ∧ (((members (fun k => out.toNat.testBit k) 62).length = (members (fun k => out.toNat.testBit k) 62).length) ∧ ((members (fun k => out.toNat.testBit k) 62 : ZI) = Jo E clients))))))))
theorem J6Y (U : ZI) (E : ZR) (clients : ZI) (hf : J0 U E = true) (hc : ∀ c ∈ clients, 0 ≤ c ∧ c < (E.length : Int)) (hl : clients.length ≤ 7) (w_Open : (U.length : Int) ≤ 9223372036854775807) (w_Dist : (E.length : Int) ≤ 9223372036854775807) (v_Dist : ∀ x9 ∈ E, (x9.length : Int) ≤ 9223372036854775807) (w_clients : (clients.length : Int) ≤ 9223372036854775807) : J4J U E clients := by
  unfold J4J
  obtain ⟨g1, g2, g3⟩ := Jb hf
  have p7 := JbB (n := U.length) (by omega)
  have pp := Nat.two_pow_pos U.length
  have e0 := J4U U.length
  refine ⟨?_, ?_⟩
  ·refine ⟨0, 0, ?_⟩
   refine ⟨?_, rfl, rfl, rfl, rfl, rfl, rfl⟩
   ·refine ⟨?_, ?_, ?_⟩
    ·omega
    ·omega
    ·rfl
  intro out i hJ
  obtain ⟨h1, h2, h3⟩ := hJ
  refine ⟨?_, ?_⟩
  ·intro b1
   try simp only [nrmT] at b1
   refine ⟨?_, ?_, ?_, rfl, ?_, ?_, ?_, ?_, ?_, ?_, ?_, J50 (E.getD ((clients.getD i.toNat 0).toNat) []) (Jl (E.getD ((clients.getD i.toNat 0).toNat) [])), ?_, ?_, ?_, ?_, ?_, ?_, ?_⟩
   ·omega
   ·omega
   ·omega
   ·have hcc := hc _ (getD_mem (d := 0) (show i.toNat < clients.length by omega))
    have ai := JQ hf hcc
    have ix := J0B (row := E.getD (clients.getD i.toNat 0).toNat []) (by omega)
    omega
   ·have hcc := hc _ (getD_mem (d := 0) (show i.toNat < clients.length by omega))
    have ai := JQ hf hcc
    have ix := J0B (row := E.getD (clients.getD i.toNat 0).toNat []) (by omega)
    omega
   ·have hcc := hc _ (getD_mem (d := 0) (show i.toNat < clients.length by omega))
    have ai := JQ hf hcc
    have ix := J0B (row := E.getD (clients.getD i.toNat 0).toNat []) (by omega)
    omega
   ·have hcc := hc _ (getD_mem (d := 0) (show i.toNat < clients.length by omega))
    have ai := JQ hf hcc
    have ix := J0B (row := E.getD (clients.getD i.toNat 0).toNat []) (by omega)
    omega
   ·have hcc := hc _ (getD_mem (d := 0) (show i.toNat < clients.length by omega))
    have ai := JQ hf hcc
    have ix := J0B (row := E.getD (clients.getD i.toNat 0).toNat []) (by omega)
    omega
   ·have hcc := hc _ (getD_mem (d := 0) (show i.toNat < clients.length by omega))
    have ai := JQ hf hcc
    have ix := J0B (row := E.getD (clients.getD i.toNat 0).toNat []) (by omega)
    omega
   ·refine J2F (E.getD ((clients.getD i.toNat 0).toNat) []) ?_
    ·have hcc := hc _ (getD_mem (d := 0) (show i.toNat < clients.length by omega))
     have ai := JQ hf hcc
     have ix := J0B (row := E.getD (clients.getD i.toNat 0).toNat []) (by omega)
     omega
   ·omega
   ·have hcc := hc _ (getD_mem (d := 0) (show i.toNat < clients.length by omega))
    have ai := JQ hf hcc
    have ix := J0B (row := E.getD (clients.getD i.toNat 0).toNat []) (by omega)
    rw [ix]; omega
   ·have hcc := hc _ (getD_mem (d := 0) (show i.toNat < clients.length by omega))
    have ai := JQ hf hcc
    have ix := J0B (row := E.getD (clients.getD i.toNat 0).toNat []) (by omega)
    rw [ix]
    have h7 := pow_le (x := J0g (E.getD (clients.getD i.toNat 0).toNat [])) (m := 8) (by omega)
    have he : (2 : Nat) ^ 8 = 256 := by decide
    omega
   ·have := J9P hf hc i.toNat (by omega)
    omega
   ·have hcc := hc _ (getD_mem (d := 0) (show i.toNat < clients.length by omega))
    have ai := JQ hf hcc
    have ix := J0B (row := E.getD (clients.getD i.toNat 0).toNat []) (by omega)
    rw [ix]
    have h7 := pow_le (x := J0g (E.getD (clients.getD i.toNat 0).toNat [])) (m := 8) (by omega)
    have he : (2 : Nat) ^ 8 = 256 := by decide
    omega
   ·omega
   refine ⟨((out.toNat ||| ((1 : Int) * 2 ^ ((idxI (fun y => (Jl (E.getD ((clients.getD i.toNat 0).toNat) [])) == y) (E.getD ((clients.getD i.toNat 0).toNat) [])).toNat)).toNat : Nat) : Int), (i + 1), ?_⟩
   refine ⟨?_, ?_, rfl, rfl, rfl, rfl, rfl, rfl⟩
   ·refine ⟨?_, ?_, ?_⟩
    ·omega
    ·omega
    ·have hcc := hc _ (getD_mem (d := 0) (show i.toNat < clients.length by omega))
     have ai := JQ hf hcc
     have ix := J0B (row := E.getD (clients.getD i.toNat 0).toNat []) (by omega)
     rw [ix, one_pow, show (i + 1).toNat = i.toNat + 1 by omega, h3, Int.toNat_natCast]; rfl
   (simp only [J0U]; omega)
  intro b2
  try simp only [nrmT] at b2
  refine ⟨?_, ?_⟩
  ·intro b3
   try simp only [nrmT] at b3
   refine ⟨?_, rfl, ?_⟩
   ·refine J4B 1 ?_
    ·omega
   have e : J4v E clients clients.length = 0 := by rw [show i.toNat = clients.length by omega] at h3; omega
   unfold Jo; rw [if_pos (Jal.1 e)]; rfl
  intro b4
  try simp only [nrmT] at b4
  refine ⟨?_, rfl, ?_⟩
  ·refine J4B out ?_
   ·have := J9P hf hc i.toNat (by omega)
    omega
  have e : out.toNat = J4v E clients clients.length := by rw [h3, show i.toNat = clients.length by omega, Int.toNat_natCast]
  rw [e, Je3 hf hc]
  unfold Jo
  rw [if_neg (fun h => b4 (by have := (Jal (E := E)).2 h; omega))]
theorem J7z (U : ZI) (E : ZR) (clients : ZI) (hf : J0 U E = true) (hc : ∀ c ∈ clients, 0 ≤ c ∧ c < (E.length : Int)) (hl : clients.length ≤ 7) : PC Tryz.prog 109 [.agg [.sl (.ints U), .sl (.rows E)], .sl (.ints clients)] (.one (.own 3 (.ints (Jo E clients)))) :=
  pc_wf @Tryz.call109 fun hw => pc_by (by kernel_rfl) Tryz.func109 @Tryz.call109 (by kernel_rfl) J7R (J7M U E clients) (by kernel_rfl) (J6Y U E clients hf hc hl hw.1.1 hw.1.2.1.1 hw.1.2.1.2 hw.2.1) (by kernel_rfl)
def J6J : List D → Orc := orcN [none, some .ints] fun ds => match ds with
  | [.agg [.sl (.ints U), .sl (.rows E)], .sl (.ints clients)] => some (.one (.own 3 (.ints (Jo E clients))))
  | _ => none
def J4 (E : ZR) (r : Int) : Bool := E.all (fun row => decide (Jl row ≤ r))
def tsL (U : ZI) (E : ZR) (r : Int) : ZI := if (J0 U E && decide (0 ≤ r) && J4 E r) = true then Jo E (Jm U.length E r E.length) else []
def J5G (f : FuncId) (ds : List D) : Orc := bif Nat.beq f 197 then J2m ds else .no
def J5u (list : ZI) (r : Int) : Ann := .none
def J2C (list : ZI) (r : Int) : Prop :=
  (true = true) ∧ (PC Tryz.prog 197 [.sl (.ints list)] (.one (.d (.int .i64 (Jl list))))) ∧ (((decide ((Jl list) > r)) = (!(decide (Jl list ≤ r)))))
theorem J5d (list : ZI) (r : Int) (hp : 0 < list.length) (w_list : (list.length : Int) ≤ 9223372036854775807) : J2C list r := by
  unfold J2C
  refine ⟨rfl, ?_, ?_⟩
  ·refine J2F list ?_
   ·exact hp
  by_cases h : Jl list ≤ r
  · rw [decide_eq_true h, decide_eq_false (by omega)]; rfl
  · rw [decide_eq_false h, decide_eq_true (by omega)]; rfl
theorem J5f (list : ZI) (r : Int) (hp : 0 < list.length) : PC Tryz.prog 196 [.sl (.ints list), .bx [.int .i64 r] 0] (.one (.d (.bool (!(decide (Jl list ≤ r)))))) :=
  pc_wf @Tryz.call196 fun hw => pc_by (by kernel_rfl) Tryz.func196 @Tryz.call196 (by kernel_rfl) J5G (J5u list r) (by kernel_rfl) (J5d list r hp hw.1) (by kernel_rfl)
def J53 : List D → Orc := orcN [some .ints, none] fun ds => match ds with
  | [.sl (.ints list), .bx [.int .i64 r] 0] => some (.one (.d (.bool (!(decide (Jl list ≤ r))))))
  | _ => none
abbrev Jz (xs : ZR) (r : Int) (i : Int) : Prop := (0 ≤ i) ∧ (i ≤ (xs.length : Int)) ∧ (∀ k, k < i.toNat → (fun row => !(decide (Jl row ≤ r))) (xs.getD k []) = false)
abbrev Jx (xs : ZR) (r : Int) (i : Int) : Nat := (xs.length - i).toNat
def J3y (f : FuncId) (ds : List D) : Orc := bif Nat.beq f 196 then J53 ds else .no
def J3C (xs : ZR) (r : Int) : Ann := .two (.none) (.two (.two (.none) (.loop (cut1 (fun (i : Int) => Jz xs r i) (fun (i : Int) => [(0, .d false (.sl (.rows xs))), (1, .d false (.fn 196 0 [.bx [.int .i64 r] 0])), (7, .d true (.int .i64 (xs.length : Int))), (8, .d true (.int .i64 i))]) (fun (i : Int) => [])) (fun g => Jx xs r g) (fun _ => .none))) (.none))
def J13 (xs : ZR) (r : Int) : Prop :=
  ((∃ i' : Int, (Jz xs r i') ∧ (xs = xs) ∧ ((.fn 196 0 [.bx [.int .i64 r] 0] : D) = (.fn 196 0 [.bx [.int .i64 r] 0] : D)) ∧ ((xs.length : Int) = (xs.length : Int)) ∧ ((0 : Int) = i')) ∧ (∀ i : Int, (Jz xs r i) → (((decide (i < (xs.length : Int))) = true → ((0 : Int) ≤ i) ∧ ((i : Int) < xs.length) ∧ (i.toNat < xs.length) ∧ (PC Tryz.prog 196 [.sl (.ints (xs.getD i.toNat [])), .bx [.int .i64 r] 0] (.one (.d (.bool (!(decide (Jl (xs.getD i.toNat []) ≤ r))))))) ∧ (((!(decide (Jl (xs.getD i.toNat []) ≤ r))) = true → ((i = (idxI (fun row => !(decide (Jl row ≤ r))) xs)))) ∧ ((!(decide (Jl (xs.getD i.toNat []) ≤ r))) = false → (I6 (i + 1)) ∧ (∃ i' : Int, (Jz xs r i') ∧ (Jx xs r i' < Jx xs r i) ∧ (xs = xs) ∧ ((.fn 196 0 [.bx [.int .i64 r] 0] : D) = (.fn 196 0 [.bx [.int .i64 r] 0] : D)) ∧ ((xs.length : Int) = (xs.length : Int)) ∧ ((i + 1) = i'))))) ∧ ((decide (i < (xs.length : Int))) = false → ((((-1) : Int) = (idxI (fun row => !(decide (Jl row ≤ r))) xs)))))))
theorem J3o (xs : ZR) (r : Int) (hx : ∀ l ∈ xs, 0 < l.length) (w_xs : (xs.length : Int) ≤ 9223372036854775807) (v_xs : ∀ x9 ∈ xs, (x9.length : Int) ≤ 9223372036854775807) : J13 xs r := by
  unfold J13
  refine ⟨?_, ?_⟩
  ·refine ⟨0, ?_⟩
   refine ⟨?_, rfl, rfl, rfl, rfl⟩
   ·refine ⟨?_, ?_, ?_⟩
    ·omega
    ·omega
    ·omega
  intro i hJ
  obtain ⟨h1, h2, h3⟩ := hJ
  refine ⟨?_, ?_⟩
  ·intro b1
   try simp only [nrmT] at b1
   refine ⟨?_, ?_, ?_, ?_, ?_, ?_⟩
   ·omega
   ·omega
   ·omega
   ·refine J5f (xs.getD i.toNat []) r ?_
    ·exact hx _ (getD_memI h1 b1)
   ·intro b2
    try simp only [nrmT] at b2
    exact idx_found (p := fun row => !(decide (Jl row ≤ r))) h1 b1 h3 (by simpa using b2)
   intro b3
   try simp only [nrmT] at b3
   refine ⟨?_, ?_⟩
   ·omega
   refine ⟨(i + 1), ?_⟩
   refine ⟨?_, ?_, rfl, rfl, rfl, rfl⟩
   ·refine ⟨?_, ?_, ?_⟩
    ·omega
    ·omega
    ·exact idx_step (p := fun row => !(decide (Jl row ≤ r))) h1 h3 (by simpa using b3)
   (simp only [Jx]; omega)
  intro b4
  try simp only [nrmT] at b4
  exact (idx_none (by omega) h3).symm
theorem J3q (xs : ZR) (r : Int) (hx : ∀ l ∈ xs, 0 < l.length) : PC Tryz.prog 226 [.sl (.rows xs), .fn 196 0 [.bx [.int .i64 r] 0]] (.one (.d (.int .i64 (idxI (fun row => !(decide (Jl row ≤ r))) xs)))) :=
  pc_wf @Tryz.call226 fun hw => pc_by (by kernel_rfl) Tryz.func226 @Tryz.call226 (by kernel_rfl) J3y (J3C xs r) (by kernel_rfl) (J3o xs r hx hw.1.1 hw.1.2) (by kernel_rfl)
def J32 : List D → Orc := orcN [some .rows, none] fun ds => match ds with
  | [.sl (.rows xs), .fn f0 0 [.bx [.int .i64 r] 0]] => bif Nat.beq f0 196 then some (.one (.d (.int .i64 (idxI (fun row => !(decide (Jl row ≤ r))) xs)))) else none
  | _ => none
def J2A (f : FuncId) (ds : List D) : Orc := bif Nat.beq f 226 then J32 ds else .no
def J2D (xs : ZR) (r : Int) : Ann := .none
def J0A (xs : ZR) (r : Int) : Prop :=
  (PC Tryz.prog 226 [.sl (.rows xs), .fn 196 0 [.bx [.int .i64 r] 0]] (.one (.d (.int .i64 (idxI (fun row => !(decide (Jl row ≤ r))) xs))))) ∧ (((decide ((idxI (fun row => !(decide (Jl row ≤ r))) xs) ≥ 0)) = (xs.any (fun row => !(decide (Jl row ≤ r))))))
theorem J2x (xs : ZR) (r : Int) (hx : ∀ l ∈ xs, 0 < l.length) (w_xs : (xs.length : Int) ≤ 9223372036854775807) (v_xs : ∀ x9 ∈ xs, (x9.length : Int) ≤ 9223372036854775807) : J0A xs r := by
  unfold J0A
  refine ⟨?_, ?_⟩
  ·refine J3q xs r ?_
   ·exact hx
  exact idx_any _ _
theorem J2s (xs : ZR) (r : Int) (hx : ∀ l ∈ xs, 0 < l.length) : PC Tryz.prog 195 [.sl (.rows xs), .fn 196 0 [.bx [.int .i64 r] 0]] (.one (.d (.bool (xs.any (fun row => !(decide (Jl row ≤ r))))))) :=
  pc_wf @Tryz.call195 fun hw => pc_by (by kernel_rfl) Tryz.func195 @Tryz.call195 (by kernel_rfl) J2A (J2D xs r) (by kernel_rfl) (J2x xs r hx hw.1.1 hw.1.2) (by kernel_rfl)
def J23 : List D → Orc := orcN [some .rows, none] fun ds => match ds with
  | [.sl (.rows xs), .fn f0 0 [.bx [.int .i64 r] 0]] => bif Nat.beq f0 196 then some (.one (.d (.bool (xs.any (fun row => !(decide (Jl row ≤ r))))))) else none
  | _ => none
def J6o (f : FuncId) (ds : List D) : Orc := bif Nat.beq f 195 then J23 ds else .no
def J6f (U : ZI) (E : ZR) (r : Int) : Ann := .none
def J3R (U : ZI) (E : ZR) (r : Int) : Prop :=
  (PC Tryz.prog 195 [.sl (.rows E), .fn 196 0 [.bx [.int .i64 r] 0]] (.one (.d (.bool (E.any (fun row => !(decide (Jl row ≤ r)))))))) ∧ (((!(E.any (fun row => !(decide (Jl row ≤ r))))) = (J4 E r)))
theorem J5L (U : ZI) (E : ZR) (r : Int) (hf : J0 U E = true) (w_Open : (U.length : Int) ≤ 9223372036854775807) (w_Dist : (E.length : Int) ≤ 9223372036854775807) (v_Dist : ∀ x9 ∈ E, (x9.length : Int) ≤ 9223372036854775807) : J3R U E r := by
  unfold J3R
  refine ⟨?_, ?_⟩
  ·refine J2s E r ?_
   ·intro l hl
    obtain ⟨k, hk, rfl⟩ := List.mem_iff_getElem.1 hl
    have h1 := (J8 hf hk).1
    rw [Jh hk] at h1
    have := Jb hf
    omega
  exact any_not _ _
theorem J60 (U : ZI) (E : ZR) (r : Int) (hf : J0 U E = true) : PC Tryz.prog 102 [.agg [.sl (.ints U), .sl (.rows E)], .int .i64 r] (.one (.d (.bool (J4 E r)))) :=
  pc_wf @Tryz.call102 fun hw => pc_by (by kernel_rfl) Tryz.func102 @Tryz.call102 (by kernel_rfl) J6o (J6f U E r) (by kernel_rfl) (J5L U E r hf hw.1.1 hw.1.2.1.1 hw.1.2.1.2) (by kernel_rfl)
def J5H : List D → Orc := orcN [none, none] fun ds => match ds with
  | [.agg [.sl (.ints U), .sl (.rows E)], .int .i64 r] => some (.one (.d (.bool (J4 E r))))
  | _ => none
abbrev J3L (U : ZI) (E : ZR) (r : Int) (j : Int) : Prop := (0 ≤ j) ∧ (j ≤ (E.length : Int)) ∧ (allTo (fun k => decide (Jl (E.getD k []) ≤ r)) j.toNat = true)
abbrev J3z (U : ZI) (E : ZR) (r : Int) (j : Int) : Nat := (E.length - j).toNat
abbrev J3v (U : ZI) (E : ZR) (r : Int) (j : Int) (near : Bool) (a : Int) : Prop := (0 ≤ a) ∧ (a ≤ (U.length : Int)) ∧ (near = !(allTo (fun c => !(decide ((E.getD j.toNat []).getD c 0 ≤ r))) a.toNat))
abbrev J3A (U : ZI) (E : ZR) (r : Int) (j : Int) (near : Bool) (a : Int) : Nat := (U.length - a).toNat
def Jd0 (f : FuncId) (ds : List D) : Orc := .no
def Jd4 (U : ZI) (E : ZR) (r : Int) : Ann := .two (.none) (.two (.two (.none) (.loop (cut1 (fun (j : Int) => J3L U E r j) (fun (j : Int) => [(1, .d false (.int .i64 r)), (2, .ptr 2 0), (5, .d true (.int .i64 j))]) (fun (j : Int) => [(2, .box 27 [.d false (.sl (.ints U)), .d false (.sl (.rows E))])])) (fun g => J3z U E r g) (fun g => (fun (j : Int) => .two (.none) (.two (.two (.none) (.two (.two (.none) (.loop (cut2 (fun (near : Bool) (a : Int) => J3v U E r j near a) (fun (near : Bool) (a : Int) => [(1, .d false (.int .i64 r)), (2, .ptr 2 0), (5, .d true (.int .i64 j)), (6, .d true (.bool near)), (7, .d true (.int .i64 a))]) (fun (near : Bool) (a : Int) => [(2, .box 27 [.d false (.sl (.ints U)), .d false (.sl (.rows E))])])) (fun g => J3A U E r j g.1 g.2) (fun _ => .none))) (.none))) (.none))) g))) (.none))
def J9r (U : ZI) (E : ZR) (r : Int) : Prop :=
  ((∃ j' : Int, (J3L U E r j') ∧ (r = r) ∧ ((0 : Int) = j') ∧ (U = U) ∧ (E = E)) ∧ (∀ j : Int, (J3L U E r j) → (((decide (j < (E.length : Int))) = true → ((∃ near' : Bool, ∃ a' : Int, (J3v U E r j near' a') ∧ (r = r) ∧ (j = j) ∧ (false = near') ∧ ((0 : Int) = a') ∧ (U = U) ∧ (E = E)) ∧ (∀ near : Bool, ∀ a : Int, (J3v U E r j near a) → (((decide (a < (U.length : Int))) = true → ((!near) = true → (!near) = true) ∧ ((!near) = true → (!near) = true) ∧ ((!near) = true → (!near) = true) ∧ (((!near) = true → (0 : Int) ≤ j)) ∧ (((!near) = true → (j : Int) < E.length)) ∧ ((!near) = true → (!near) = true) ∧ (((!near) = true → j.toNat < E.length)) ∧ ((!near) = true → (!near) = true) ∧ ((!near) = true → (!near) = true) ∧ (((!near) = true → (0 : Int) ≤ a)) ∧ (((!near) = true → (a : Int) < (E.getD j.toNat []).length)) ∧ ((!near) = true → (!near) = true) ∧ (((!near) = true → a.toNat < (E.getD j.toNat []).length)) ∧ ((!near) = true → (!near) = true) ∧ ((!near) = true → (!near) = true) ∧ (true = true) ∧ ((near = true → true = true)) ∧ ((near = false → (!near) = true)) ∧ (I6 (a + 1)) ∧ (∃ near' : Bool, ∃ a' : Int, (J3v U E r j near' a') ∧ (J3A U E r j near' a' < J3A U E r j near a) ∧ (r = r) ∧ (j = j) ∧ ((cond near true (decide (((E.getD j.toNat []).getD a.toNat 0) ≤ r))) = near') ∧ ((a + 1) = a') ∧ (U = U) ∧ (E = E))) ∧ ((decide (a < (U.length : Int))) = false → (((!near) = true → ((false = (J4 E r)))) ∧ ((!near) = false → (I6 (j + 1)) ∧ (∃ j' : Int, (J3L U E r j') ∧ (J3z U E r j' < J3z U E r j) ∧ (r = r) ∧ ((j + 1) = j') ∧ (U = U) ∧ (E = E))))))))) ∧ ((decide (j < (E.length : Int))) = false → ((true = (J4 E r)))))))
theorem JbT (U : ZI) (E : ZR) (r : Int) (hf : J0 U E = true) (w_Open : (U.length : Int) ≤ 9223372036854775807) (w_Dist : (E.length : Int) ≤ 9223372036854775807) (v_Dist : ∀ x9 ∈ E, (x9.length : Int) ≤ 9223372036854775807) : J9r U E r := by
  unfold J9r
  obtain ⟨g1, g2, g3⟩ := Jb hf
  refine ⟨?_, ?_⟩
  ·refine ⟨0, ?_⟩
   refine ⟨?_, rfl, rfl, rfl, rfl⟩
   ·refine ⟨?_, ?_, ?_⟩
    ·omega
    ·omega
    ·rfl
  intro j hJ
  obtain ⟨h1, h2, h3⟩ := hJ
  refine ⟨?_, ?_⟩
  ·intro b1
   try simp only [nrmT] at b1
   refine ⟨?_, ?_⟩
   ·refine ⟨false, 0, ?_⟩
    refine ⟨?_, rfl, rfl, rfl, rfl, rfl, rfl⟩
    ·refine ⟨?_, ?_, ?_⟩
     ·omega
     ·omega
     ·rfl
   intro near a hJ
   obtain ⟨h4, h5, h6⟩ := hJ
   refine ⟨?_, ?_⟩
   ·intro b2
    try simp only [nrmT] at b2
    refine ⟨id, id, id, ?_, ?_, id, ?_, id, id, ?_, ?_, id, ?_, id, id, rfl, fun _ => rfl, ?_, ?_, ?_⟩
    ·obtain ⟨rl, _⟩ := J8 (i := j.toNat) hf (by omega)
     intro _; omega
    ·obtain ⟨rl, _⟩ := J8 (i := j.toNat) hf (by omega)
     intro _; omega
    ·obtain ⟨rl, _⟩ := J8 (i := j.toNat) hf (by omega)
     intro _; omega
    ·obtain ⟨rl, _⟩ := J8 (i := j.toNat) hf (by omega)
     intro _; omega
    ·obtain ⟨rl, _⟩ := J8 (i := j.toNat) hf (by omega)
     intro _; omega
    ·obtain ⟨rl, _⟩ := J8 (i := j.toNat) hf (by omega)
     intro _; omega
    ·intro h; rw [h]; rfl
    ·omega
    refine ⟨(cond near true (decide (((E.getD j.toNat []).getD a.toNat 0) ≤ r))), (a + 1), ?_⟩
    refine ⟨?_, ?_, rfl, rfl, rfl, rfl, rfl, rfl⟩
    ·refine ⟨?_, ?_, ?_⟩
     ·omega
     ·omega
     ·rw [h6, JcS h4]
      cases allTo (fun c => !(decide ((E.getD j.toNat []).getD c 0 ≤ r))) a.toNat <;> cases decide ((E.getD j.toNat []).getD a.toNat 0 ≤ r) <;> rfl
    (simp only [J3A]; omega)
   intro b3
   try simp only [nrmT] at b3
   refine ⟨?_, ?_⟩
   ·intro b4
    try simp only [nrmT] at b4
    obtain ⟨rl, _⟩ := J8 (i := j.toNat) hf (by omega)
    have hn := Jbw (row := E.getD j.toNat []) (r := r) (by omega)
    rw [rl] at hn
    rw [show a.toNat = U.length by omega, hn] at h6
    unfold J4
    rw [Jbc (p := fun row => decide (Jl row ≤ r)) (d := []) h1 (by omega) (by rw [← h6]; exact b4)]
   intro b5
   try simp only [nrmT] at b5
   refine ⟨?_, ?_⟩
   ·omega
   refine ⟨(j + 1), ?_⟩
   refine ⟨?_, ?_, rfl, rfl, rfl, rfl⟩
   ·refine ⟨?_, ?_, ?_⟩
    ·omega
    ·omega
    ·obtain ⟨rl, _⟩ := J8 (i := j.toNat) hf (by omega)
     have hn := Jbw (row := E.getD j.toNat []) (r := r) (by omega)
     rw [rl] at hn
     rw [show a.toNat = U.length by omega, hn] at h6
     exact allTo_step h1 h3 (by rw [← h6]; exact b5)
   (simp only [J3z]; omega)
  intro b6
  try simp only [nrmT] at b6
  unfold J4
  exact (J9Y (p := fun row => decide (Jl row ≤ r)) (d := []) (by omega) h2 h3).symm
theorem JbI (U : ZI) (E : ZR) (r : Int) (hf : J0 U E = true) : PC Tryz.prog 105 [.agg [.sl (.ints U), .sl (.rows E)], .int .i64 r] (.one (.d (.bool (J4 E r)))) :=
  pc_wf @Tryz.call105 fun hw => pc_by (by kernel_rfl) Tryz.func105 @Tryz.call105 (by kernel_rfl) Jd0 (Jd4 U E r) (by kernel_rfl) (JbT U E r hf hw.1.1 hw.1.2.1.1 hw.1.2.1.2) (by kernel_rfl)
def JaY : List D → Orc := orcN [none, none] fun ds => match ds with
  | [.agg [.sl (.ints U), .sl (.rows E)], .int .i64 r] => some (.one (.d (.bool (J4 E r))))
  | _ => none
def J7w (f : FuncId) (ds : List D) : Orc := bif Nat.beq f 112 then J0K ds else bif Nat.beq f 105 then JaY ds else bif Nat.beq f 167 then J4D ds else bif Nat.beq f 110 then J8R ds else .no
def J77 (U : ZI) (E : ZR) (r : Int) : Ann := .none
def J4k (U : ZI) (E : ZR) (r : Int) : Prop :=
  (PC Tryz.prog 112 [.agg [.sl (.ints U), .sl (.rows E)]] (.one (.d (.bool (J0 U E))))) ∧ ((!(!(J0 U E))) = true → (!(!(J0 U E))) = true) ∧ (true = true) ∧ (((!(J0 U E)) = true → true = true)) ∧ (((!(J0 U E)) = false → (!(!(J0 U E))) = true)) ∧ ((!(cond (!(J0 U E)) true (decide (r < 0)))) = true → (!(cond (!(J0 U E)) true (decide (r < 0)))) = true) ∧ ((!(cond (!(J0 U E)) true (decide (r < 0)))) = true → (!(cond (!(J0 U E)) true (decide (r < 0)))) = true) ∧ ((!(cond (!(J0 U E)) true (decide (r < 0)))) = true → PC Tryz.prog 105 [.agg [.sl (.ints U), .sl (.rows E)], .int .i64 r] (.one (.d (.bool (J4 E r))))) ∧ ((!(cond (!(J0 U E)) true (decide (r < 0)))) = true → (!(cond (!(J0 U E)) true (decide (r < 0)))) = true) ∧ (true = true) ∧ (((cond (!(J0 U E)) true (decide (r < 0))) = true → true = true)) ∧ (((cond (!(J0 U E)) true (decide (r < 0))) = false → (!(cond (!(J0 U E)) true (decide (r < 0)))) = true)) ∧ (((cond (cond (!(J0 U E)) true (decide (r < 0))) true (!(J4 E r))) = true → (((0 : Nat) = 0) ∧ (([] : ZI) = (tsL U E r)) ∧ (false = (J0 U E && decide (0 ≤ r) && J4 E r)))) ∧ ((cond (cond (!(J0 U E)) true (decide (r < 0))) true (!(J4 E r))) = false → (true = true) ∧ (PC Tryz.prog 167 [.agg [.sl (.ints U), .sl (.rows E)], .int .i64 r] (.one (.d (.sl (.ints (Jm U.length E r E.length)))))) ∧ (PC Tryz.prog 110 [.agg [.sl (.ints U), .sl (.rows E)], .sl (.ints (Jm U.length E r E.length))] (.one (.d (.sl (.ints (Jo E (Jm U.length E r E.length))))))) ∧ ((((Jo E (Jm U.length E r E.length)) : ZI) = (tsL U E r)) ∧ (true = (J0 U E && decide (0 ≤ r) && J4 E r)))))
theorem J6D (U : ZI) (E : ZR) (r : Int)  (w_Open : (U.length : Int) ≤ 9223372036854775807) (w_Dist : (E.length : Int) ≤ 9223372036854775807) (v_Dist : ∀ x9 ∈ E, (x9.length : Int) ≤ 9223372036854775807) : J4k U E r := by
  unfold J4k
  refine ⟨J1a U E, id, rfl, fun _ => rfl, ?_, id, id, ?_, id, rfl, fun _ => rfl, ?_, ?_, ?_⟩
  ·intro h; rw [h]; rfl
  ·intro hg
   refine JbI U E r ?_
   ·have hq : J0 U E = true := by
      revert hg; cases J0 U E <;> simp
    exact hq
  ·intro h; rw [h]; rfl
  ·intro b1
   refine ⟨rfl, ?_, ?_⟩
   ·have hq : (J0 U E && decide (0 ≤ r) && J4 E r) = false := by
      revert b1; cases J0 U E <;> cases J4 E r <;> by_cases h : r < 0 <;> simp [h] <;> omega
    unfold tsL; rw [hq]; rfl
   have hq : (J0 U E && decide (0 ≤ r) && J4 E r) = false := by
     revert b1; cases J0 U E <;> cases J4 E r <;> by_cases h : r < 0 <;> simp [h] <;> omega
   exact hq.symm
  intro b2
  refine ⟨rfl, ?_, ?_, ?_, ?_⟩
  ·refine J52 U E r ?_
   ·have hq : J0 U E = true ∧ decide (0 ≤ r) = true ∧ J4 E r = true := by
      revert b2; cases J0 U E <;> cases J4 E r <;> by_cases h : r < 0 <;> simp [h] <;> omega
    exact hq.1
  ·refine J9X U E (Jm U.length E r E.length) ?_ ?_ ?_
   ·have hq : J0 U E = true ∧ decide (0 ≤ r) = true ∧ J4 E r = true := by
      revert b2; cases J0 U E <;> cases J4 E r <;> by_cases h : r < 0 <;> simp [h] <;> omega
    exact hq.1
   ·intro c hc2
    exact (J03 U.length E r E.length).2.2 c hc2
   ·have hq : J0 U E = true ∧ decide (0 ≤ r) = true ∧ J4 E r = true := by
      revert b2; cases J0 U E <;> cases J4 E r <;> by_cases h : r < 0 <;> simp [h] <;> omega
    have := Jb hq.1
    have := (J03 U.length E r E.length).2.1
    omega
  ·have hq : J0 U E = true ∧ decide (0 ≤ r) = true ∧ J4 E r = true := by
     revert b2; cases J0 U E <;> cases J4 E r <;> by_cases h : r < 0 <;> simp [h] <;> omega
   unfold tsL; rw [if_pos (by rw [hq.1, hq.2.1, hq.2.2]; rfl)]
  have hq : J0 U E = true ∧ decide (0 ≤ r) = true ∧ J4 E r = true := by
    revert b2; cases J0 U E <;> cases J4 E r <;> by_cases h : r < 0 <;> simp [h] <;> omega
  rw [hq.1, hq.2.1, hq.2.2]; rfl
theorem J6S (U : ZI) (E : ZR) (r : Int)  : PC Tryz.prog 76 [.agg [.sl (.ints U), .sl (.rows E)], .int .i64 r] (.tup [.d (.sl (.ints (tsL U E r))), .d (.bool (J0 U E && decide (0 ≤ r) && J4 E r))]) :=
  pc_wf @Tryz.call76 fun hw => pc_by (by kernel_rfl) Tryz.func76 @Tryz.call76 (by kernel_rfl) J7w (J77 U E r) (by kernel_rfl) (J6D U E r hw.1.1 hw.1.2.1.1 hw.1.2.1.2) (by kernel_rfl)
def J6p : List D → Orc := orcN [none, none] fun ds => match ds with
  | [.agg [.sl (.ints U), .sl (.rows E)], .int .i64 r] => some (.tup [.d (.sl (.ints (tsL U E r))), .d (.bool (J0 U E && decide (0 ≤ r) && J4 E r))])
  | _ => none
def J7i (f : FuncId) (ds : List D) : Orc := bif Nat.beq f 114 then J1m ds else bif Nat.beq f 102 then J5H ds else bif Nat.beq f 166 then J3h ds else bif Nat.beq f 109 then J6J ds else .no
def J72 (U : ZI) (E : ZR) (r : Int) : Ann := .none
def J4m (U : ZI) (E : ZR) (r : Int) : Prop :=
  (PC Tryz.prog 114 [.agg [.sl (.ints U), .sl (.rows E)], .int .i64 r] (.one (.d (.bool (J0 U E && decide (0 ≤ r)))))) ∧ ((!(!(J0 U E && decide (0 ≤ r)))) = true → (!(!(J0 U E && decide (0 ≤ r)))) = true) ∧ ((!(!(J0 U E && decide (0 ≤ r)))) = true → (!(!(J0 U E && decide (0 ≤ r)))) = true) ∧ ((!(!(J0 U E && decide (0 ≤ r)))) = true → PC Tryz.prog 102 [.agg [.sl (.ints U), .sl (.rows E)], .int .i64 r] (.one (.d (.bool (J4 E r))))) ∧ ((!(!(J0 U E && decide (0 ≤ r)))) = true → (!(!(J0 U E && decide (0 ≤ r)))) = true) ∧ (true = true) ∧ (((!(J0 U E && decide (0 ≤ r))) = true → true = true)) ∧ (((!(J0 U E && decide (0 ≤ r))) = false → (!(!(J0 U E && decide (0 ≤ r)))) = true)) ∧ (((cond (!(J0 U E && decide (0 ≤ r))) true (!(J4 E r))) = true → (((tsL U E r).length = 0) ∧ (false = (J0 U E && decide (0 ≤ r) && J4 E r)))) ∧ ((cond (!(J0 U E && decide (0 ≤ r))) true (!(J4 E r))) = false → (true = true) ∧ (PC Tryz.prog 166 [.agg [.sl (.ints U), .sl (.rows E)], .int .i64 r] (.one (.own 3 (.ints (Jm U.length E r E.length))))) ∧ ((Jm U.length E r E.length).length = (Jm U.length E r E.length).length) ∧ (PC Tryz.prog 109 [.agg [.sl (.ints U), .sl (.rows E)], .sl (.ints (Jm U.length E r E.length))] (.one (.own 3 (.ints (Jo E (Jm U.length E r E.length)))))) ∧ (((Jo E (Jm U.length E r E.length)).length = (Jo E (Jm U.length E r E.length)).length) ∧ ((Jo E (Jm U.length E r E.length) : ZI) = tsL U E r) ∧ (true = (J0 U E && decide (0 ≤ r) && J4 E r)))))
end Go.Proofs.YtomnmacmlhkceaaGreat
