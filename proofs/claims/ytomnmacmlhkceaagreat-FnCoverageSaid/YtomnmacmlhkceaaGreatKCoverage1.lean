/- Contracts of the functions that the law reaches. -/
import Derived.Test.YtomnmacmlhkceaaGreatQw
import Derived.Test.YtomnmacmlhkceaaGreatQua
import Derived.Test.YtomnmacmlhkceaaGreatSh
import Derived.Test.YtomnmacmlhkceaaGreatProg
import Derived.KernelRfl
set_option linter.unusedVariables false
set_option linter.unusedSimpArgs false
namespace Go.Proofs.YtomnmacmlhkceaaGreat
open Go

abbrev ZI := List Int
abbrev ZR := List (List Int)
abbrev I6 (x : Int) : Prop := -9223372036854775808 ≤ x ∧ x ≤ 9223372036854775807
def Jdl (f : FuncId) (ds : List D) : Orc := .no
def Jdu (x : Int) (a : Int) (b : Int) : Ann := .none
def Jb3 (x : Int) (a : Int) (b : Int) : Prop :=
  ((decide (x ≥ a)) = true → (decide (x ≥ a)) = true) ∧ ((decide (x ≥ a)) = true → (decide (x ≥ a)) = true) ∧ (true = true) ∧ (((decide (x ≥ a)) = true → (decide (x ≥ a)) = true)) ∧ (((decide (x ≥ a)) = false → true = true)) ∧ (((cond (decide (x ≥ a)) (decide (x ≤ b)) false) = (inB x a b)))
theorem Jda (x : Int) (a : Int) (b : Int)   : Jb3 x a b := by
  unfold Jb3
  refine ⟨id, id, rfl, id, fun _ => rfl, ?_⟩
  ·(simp only [inB]; by_cases h : a ≤ x <;> simp_all)
theorem J1f (x : Int) (a : Int) (b : Int)  : PC Tryz.prog 129 [.int .i64 x, .int .i64 a, .int .i64 b] (.one (.d (.bool (inB x a b)))) :=
  pc_wf @Tryz.call129 fun _ => pc_by (by kernel_rfl) Tryz.func129 @Tryz.call129 (by kernel_rfl) Jdl (Jdu x a b) (by kernel_rfl) (Jda x a b) (by kernel_rfl)
def J1q : List D → Orc := orcN [none, none, none] fun ds => match ds with
  | [.int .i64 x, .int .i64 a, .int .i64 b] => some (.one (.d (.bool (inB x a b))))
  | _ => none
def JbA (f : FuncId) (ds : List D) : Orc := .no
def Jbm (x : Int) (a : Int) (b : Int) : Ann := .none
def J7j (x : Int) (a : Int) (b : Int) : Prop :=
  ((decide (x ≥ a)) = true → (decide (x ≥ a)) = true) ∧ ((decide (x ≥ a)) = true → (decide (x ≥ a)) = true) ∧ (true = true) ∧ (((decide (x ≥ a)) = true → (decide (x ≥ a)) = true)) ∧ (((decide (x ≥ a)) = false → true = true)) ∧ (((cond (decide (x ≥ a)) (decide (x ≤ b)) false) = (inB x a b)))
theorem JaV (x : Int) (a : Int) (b : Int)   : J7j x a b := by
  unfold J7j
  refine ⟨id, id, rfl, id, fun _ => rfl, ?_⟩
  ·(simp only [inB]; by_cases h : a ≤ x <;> simp_all)
theorem J0M (x : Int) (a : Int) (b : Int)  : PC Tryz.prog 132 [.int .i64 x, .int .i64 a, .int .i64 b] (.one (.d (.bool (inB x a b)))) :=
  pc_wf @Tryz.call132 fun _ => pc_by (by kernel_rfl) Tryz.func132 @Tryz.call132 (by kernel_rfl) JbA (Jbm x a b) (by kernel_rfl) (JaV x a b) (by kernel_rfl)
def J0a : List D → Orc := orcN [none, none, none] fun ds => match ds with
  | [.int .i64 x, .int .i64 a, .int .i64 b] => some (.one (.d (.bool (inB x a b))))
  | _ => none
def sz1 (n : Nat) (left : Int) : Int := if left - n < 0 then -1 else left - n
def J1v (xs : ZI) (lo hi : Int) (k : Nat) : Bool := inB (xs.getD k 0) lo hi && (decide (k = 0) || decide (xs.getD (k - 1) 0 < xs.getD k 0))
def J3 (xs : ZI) (lo hi : Int) : Bool := allTo (J1v xs lo hi) xs.length
theorem J3J {xs : ZI} {lo hi i : Int} (h0 : 0 ≤ i) {c : Bool} (hc : (cond (!(inB (xs.getD i.toNat 0) lo hi)) true (cond (decide (i > 0)) (decide (xs.getD (i - 1).toNat 0 ≥ xs.getD i.toNat 0)) false)) = c) :
    J1v xs lo hi i.toNat = !c := by
  subst hc
  have e : (i - 1).toNat = i.toNat - 1 := by omega
  unfold J1v
  rw [e]
  cases inB (xs.getD i.toNat 0) lo hi
  · rfl
  by_cases h : i > 0
  · have h2 : ¬ i.toNat = 0 := by omega
    simp [h, h2]
    by_cases h3 : xs[i.toNat - 1]?.getD 0 < xs[i.toNat]?.getD 0
    · simp [h3]
    simp [h3]; omega
  · have h2 : i.toNat = 0 := by omega
    simp [h, h2]
abbrev J21 (xs : ZI) (lo : Int) (hi : Int) (i : Int) : Prop := (0 ≤ i) ∧ (i ≤ (xs.length : Int)) ∧ (allTo (J1v xs lo hi) i.toNat = true)
abbrev J25 (xs : ZI) (lo : Int) (hi : Int) (i : Int) : Nat := (xs.length - i).toNat
def Jay (f : FuncId) (ds : List D) : Orc := bif Nat.beq f 129 then J1q ds else .no
def JaC (xs : ZI) (lo : Int) (hi : Int) : Ann := .two (.none) (.two (.two (.none) (.loop (cut1 (fun (i : Int) => J21 xs lo hi i) (fun (i : Int) => [(0, .d false (.sl (.ints xs))), (1, .d false (.int .i64 lo)), (2, .d false (.int .i64 hi)), (7, .d true (.int .i64 i))]) (fun (i : Int) => [])) (fun g => J25 xs lo hi g) (fun _ => .none))) (.none))
def J5U (xs : ZI) (lo : Int) (hi : Int) : Prop :=
  ((∃ i' : Int, (J21 xs lo hi i') ∧ (xs = xs) ∧ (lo = lo) ∧ (hi = hi) ∧ ((0 : Int) = i')) ∧ (∀ i : Int, (J21 xs lo hi i) → (((decide (i < (xs.length : Int))) = true → (true = true) ∧ ((0 : Int) ≤ i) ∧ ((i : Int) < xs.length) ∧ (i.toNat < xs.length) ∧ (PC Tryz.prog 129 [.int .i64 (xs.getD i.toNat 0), .int .i64 lo, .int .i64 hi] (.one (.d (.bool (inB (xs.getD i.toNat 0) lo hi))))) ∧ ((!(!(inB (xs.getD i.toNat 0) lo hi))) = true → (!(!(inB (xs.getD i.toNat 0) lo hi))) = true) ∧ ((!(!(inB (xs.getD i.toNat 0) lo hi))) = true → (!(!(inB (xs.getD i.toNat 0) lo hi))) = true) ∧ (((!(!(inB (xs.getD i.toNat 0) lo hi))) && (decide (i > 0))) = true → ((!(!(inB (xs.getD i.toNat 0) lo hi))) && (decide (i > 0))) = true) ∧ ((((!(!(inB (xs.getD i.toNat 0) lo hi))) && (decide (i > 0))) = true → I6 (i - 1))) ∧ (((!(!(inB (xs.getD i.toNat 0) lo hi))) && (decide (i > 0))) = true → ((!(!(inB (xs.getD i.toNat 0) lo hi))) && (decide (i > 0))) = true) ∧ (((!(!(inB (xs.getD i.toNat 0) lo hi))) && (decide (i > 0))) = true → ((!(!(inB (xs.getD i.toNat 0) lo hi))) && (decide (i > 0))) = true) ∧ ((((!(!(inB (xs.getD i.toNat 0) lo hi))) && (decide (i > 0))) = true → (0 : Int) ≤ (i - 1))) ∧ ((((!(!(inB (xs.getD i.toNat 0) lo hi))) && (decide (i > 0))) = true → ((i - 1) : Int) < xs.length)) ∧ (((!(!(inB (xs.getD i.toNat 0) lo hi))) && (decide (i > 0))) = true → ((!(!(inB (xs.getD i.toNat 0) lo hi))) && (decide (i > 0))) = true) ∧ ((((!(!(inB (xs.getD i.toNat 0) lo hi))) && (decide (i > 0))) = true → (i - 1).toNat < xs.length)) ∧ (((!(!(inB (xs.getD i.toNat 0) lo hi))) && (decide (i > 0))) = true → ((!(!(inB (xs.getD i.toNat 0) lo hi))) && (decide (i > 0))) = true) ∧ (((!(!(inB (xs.getD i.toNat 0) lo hi))) && (decide (i > 0))) = true → ((!(!(inB (xs.getD i.toNat 0) lo hi))) && (decide (i > 0))) = true) ∧ ((((!(!(inB (xs.getD i.toNat 0) lo hi))) && (decide (i > 0))) = true → (0 : Int) ≤ i)) ∧ ((((!(!(inB (xs.getD i.toNat 0) lo hi))) && (decide (i > 0))) = true → (i : Int) < xs.length)) ∧ (((!(!(inB (xs.getD i.toNat 0) lo hi))) && (decide (i > 0))) = true → ((!(!(inB (xs.getD i.toNat 0) lo hi))) && (decide (i > 0))) = true) ∧ ((((!(!(inB (xs.getD i.toNat 0) lo hi))) && (decide (i > 0))) = true → i.toNat < xs.length)) ∧ (((!(!(inB (xs.getD i.toNat 0) lo hi))) && (decide (i > 0))) = true → ((!(!(inB (xs.getD i.toNat 0) lo hi))) && (decide (i > 0))) = true) ∧ (((!(!(inB (xs.getD i.toNat 0) lo hi))) && (decide (i > 0))) = true → ((!(!(inB (xs.getD i.toNat 0) lo hi))) && (decide (i > 0))) = true) ∧ (((!(!(inB (xs.getD i.toNat 0) lo hi))) = true → (!(!(inB (xs.getD i.toNat 0) lo hi))) = true)) ∧ (((!(!(inB (xs.getD i.toNat 0) lo hi))) = true → (decide (i > 0)) = true → ((!(!(inB (xs.getD i.toNat 0) lo hi))) && (decide (i > 0))) = true)) ∧ (((!(!(inB (xs.getD i.toNat 0) lo hi))) = true → (decide (i > 0)) = false → true = true)) ∧ (true = true) ∧ (((!(inB (xs.getD i.toNat 0) lo hi)) = true → true = true)) ∧ (((!(inB (xs.getD i.toNat 0) lo hi)) = false → (!(!(inB (xs.getD i.toNat 0) lo hi))) = true)) ∧ (((cond (!(inB (xs.getD i.toNat 0) lo hi)) true (cond (decide (i > 0)) (decide ((xs.getD ((i - 1).toNat) 0) ≥ (xs.getD i.toNat 0))) false)) = true → ((false = (J3 xs lo hi)))) ∧ ((cond (!(inB (xs.getD i.toNat 0) lo hi)) true (cond (decide (i > 0)) (decide ((xs.getD ((i - 1).toNat) 0) ≥ (xs.getD i.toNat 0))) false)) = false → (I6 (i + 1)) ∧ (∃ i' : Int, (J21 xs lo hi i') ∧ (J25 xs lo hi i' < J25 xs lo hi i) ∧ (xs = xs) ∧ (lo = lo) ∧ (hi = hi) ∧ ((i + 1) = i'))))) ∧ ((decide (i < (xs.length : Int))) = false → ((true = (J3 xs lo hi)))))))
theorem J9R (xs : ZI) (lo : Int) (hi : Int)  (w_xs : (xs.length : Int) ≤ 9223372036854775807) : J5U xs lo hi := by
  unfold J5U
  refine ⟨?_, ?_⟩
  ·refine ⟨0, ?_⟩
   refine ⟨?_, rfl, rfl, rfl, rfl⟩
   ·refine ⟨?_, ?_, ?_⟩
    ·omega
    ·omega
    ·rfl
  intro i hJ
  obtain ⟨h1, h2, h3⟩ := hJ
  refine ⟨?_, ?_⟩
  ·intro b1
   try simp only [nrmT] at b1
   refine ⟨rfl, ?_, ?_, ?_, J1f (xs.getD i.toNat 0) lo hi, id, id, id, ?_, id, id, ?_, ?_, id, ?_, id, id, ?_, ?_, id, ?_, id, id, id, ?_, fun _ _ => rfl, rfl, fun _ => rfl, ?_, ?_, ?_⟩
   ·omega
   ·omega
   ·omega
   ·omega
   ·(intro hg; simp only [nrmT] at hg; omega)
   ·omega
   ·omega
   ·omega
   ·omega
   ·omega
   ·(simp_all; done)
   ·(simp_all; done)
   ·intro b2
    have e := J3J h1 b2
    exact (allTo_falseI h1 (by omega) e).symm
   intro b3
   refine ⟨?_, ?_⟩
   ·omega
   refine ⟨(i + 1), ?_⟩
   refine ⟨?_, ?_, rfl, rfl, rfl, rfl⟩
   ·refine ⟨?_, ?_, ?_⟩
    ·omega
    ·omega
    ·have e := J3J h1 b3
     exact allTo_step h1 h3 e
   (simp only [J25]; omega)
  intro b4
  try simp only [nrmT] at b4
  have e : i.toNat = xs.length := by omega
  rw [e] at h3
  exact h3.symm
theorem J9U (xs : ZI) (lo : Int) (hi : Int)  : PC Tryz.prog 164 [.sl (.ints xs), .int .i64 lo, .int .i64 hi] (.one (.d (.bool (J3 xs lo hi)))) :=
  pc_wf @Tryz.call164 fun hw => pc_by (by kernel_rfl) Tryz.func164 @Tryz.call164 (by kernel_rfl) Jay (JaC xs lo hi) (by kernel_rfl) (J9R xs lo hi hw.1) (by kernel_rfl)
def J8X : List D → Orc := orcN [some .ints, none, none] fun ds => match ds with
  | [.sl (.ints xs), .int .i64 lo, .int .i64 hi] => some (.one (.d (.bool (J3 xs lo hi))))
  | _ => none
abbrev J29 (xs : ZI) (below : Int) (i : Int) : Prop := (0 ≤ i) ∧ (i ≤ (xs.length : Int)) ∧ (allTo (J1v xs 0 (below - 1)) i.toNat = true)
abbrev J1Y (xs : ZI) (below : Int) (i : Int) : Nat := (xs.length - i).toNat
def Jb2 (f : FuncId) (ds : List D) : Orc := bif Nat.beq f 132 then J0a ds else .no
def Jaw (xs : ZI) (below : Int) : Ann := .two (.none) (.two (.two (.none) (.loop (cut1 (fun (i : Int) => J29 xs below i) (fun (i : Int) => [(0, .d false (.sl (.ints xs))), (1, .d false (.int .i64 below)), (7, .d false (.sl (.ints xs))), (8, .d true (.int .i64 (xs.length : Int))), (9, .d true (.int .i64 i))]) (fun (i : Int) => [])) (fun g => J1Y xs below g) (fun _ => .none))) (.none))
def J6d (xs : ZI) (below : Int) : Prop :=
  ((∃ i' : Int, (J29 xs below i') ∧ (xs = xs) ∧ (below = below) ∧ (xs = xs) ∧ ((xs.length : Int) = (xs.length : Int)) ∧ ((0 : Int) = i')) ∧ (∀ i : Int, (J29 xs below i) → (((decide (i < (xs.length : Int))) = true → ((0 : Int) ≤ i) ∧ ((i : Int) < xs.length) ∧ (i.toNat < xs.length) ∧ (I6 (below - 1)) ∧ (PC Tryz.prog 132 [.int .i64 (xs.getD i.toNat 0), .int .i64 0, .int .i64 (below - 1)] (.one (.d (.bool (inB (xs.getD i.toNat 0) 0 (below - 1)))))) ∧ ((!(!(inB (xs.getD i.toNat 0) 0 (below - 1)))) = true → (!(!(inB (xs.getD i.toNat 0) 0 (below - 1)))) = true) ∧ ((!(!(inB (xs.getD i.toNat 0) 0 (below - 1)))) = true → (!(!(inB (xs.getD i.toNat 0) 0 (below - 1)))) = true) ∧ (((!(!(inB (xs.getD i.toNat 0) 0 (below - 1)))) && (decide (i > 0))) = true → ((!(!(inB (xs.getD i.toNat 0) 0 (below - 1)))) && (decide (i > 0))) = true) ∧ ((((!(!(inB (xs.getD i.toNat 0) 0 (below - 1)))) && (decide (i > 0))) = true → I6 (i - 1))) ∧ (((!(!(inB (xs.getD i.toNat 0) 0 (below - 1)))) && (decide (i > 0))) = true → ((!(!(inB (xs.getD i.toNat 0) 0 (below - 1)))) && (decide (i > 0))) = true) ∧ (((!(!(inB (xs.getD i.toNat 0) 0 (below - 1)))) && (decide (i > 0))) = true → ((!(!(inB (xs.getD i.toNat 0) 0 (below - 1)))) && (decide (i > 0))) = true) ∧ ((((!(!(inB (xs.getD i.toNat 0) 0 (below - 1)))) && (decide (i > 0))) = true → (0 : Int) ≤ (i - 1))) ∧ ((((!(!(inB (xs.getD i.toNat 0) 0 (below - 1)))) && (decide (i > 0))) = true → ((i - 1) : Int) < xs.length)) ∧ (((!(!(inB (xs.getD i.toNat 0) 0 (below - 1)))) && (decide (i > 0))) = true → ((!(!(inB (xs.getD i.toNat 0) 0 (below - 1)))) && (decide (i > 0))) = true) ∧ ((((!(!(inB (xs.getD i.toNat 0) 0 (below - 1)))) && (decide (i > 0))) = true → (i - 1).toNat < xs.length)) ∧ (((!(!(inB (xs.getD i.toNat 0) 0 (below - 1)))) && (decide (i > 0))) = true → ((!(!(inB (xs.getD i.toNat 0) 0 (below - 1)))) && (decide (i > 0))) = true) ∧ (((!(!(inB (xs.getD i.toNat 0) 0 (below - 1)))) && (decide (i > 0))) = true → ((!(!(inB (xs.getD i.toNat 0) 0 (below - 1)))) && (decide (i > 0))) = true) ∧ (((!(!(inB (xs.getD i.toNat 0) 0 (below - 1)))) = true → (!(!(inB (xs.getD i.toNat 0) 0 (below - 1)))) = true)) ∧ (((!(!(inB (xs.getD i.toNat 0) 0 (below - 1)))) = true → (decide (i > 0)) = true → ((!(!(inB (xs.getD i.toNat 0) 0 (below - 1)))) && (decide (i > 0))) = true)) ∧ (((!(!(inB (xs.getD i.toNat 0) 0 (below - 1)))) = true → (decide (i > 0)) = false → true = true)) ∧ (true = true) ∧ (((!(inB (xs.getD i.toNat 0) 0 (below - 1))) = true → true = true)) ∧ (((!(inB (xs.getD i.toNat 0) 0 (below - 1))) = false → (!(!(inB (xs.getD i.toNat 0) 0 (below - 1)))) = true)) ∧ (((cond (!(inB (xs.getD i.toNat 0) 0 (below - 1))) true (cond (decide (i > 0)) (decide ((xs.getD i.toNat 0) ≤ (xs.getD ((i - 1).toNat) 0))) false)) = true → ((false = (J3 xs 0 (below - 1))))) ∧ ((cond (!(inB (xs.getD i.toNat 0) 0 (below - 1))) true (cond (decide (i > 0)) (decide ((xs.getD i.toNat 0) ≤ (xs.getD ((i - 1).toNat) 0))) false)) = false → (I6 (i + 1)) ∧ (∃ i' : Int, (J29 xs below i') ∧ (J1Y xs below i' < J1Y xs below i) ∧ (xs = xs) ∧ (below = below) ∧ (xs = xs) ∧ ((xs.length : Int) = (xs.length : Int)) ∧ ((i + 1) = i'))))) ∧ ((decide (i < (xs.length : Int))) = false → ((true = (J3 xs 0 (below - 1))))))))
theorem J9K (xs : ZI) (below : Int) (hb : -9223372036854775808 < below ∧ below ≤ 9223372036854775807) (w_xs : (xs.length : Int) ≤ 9223372036854775807) : J6d xs below := by
  unfold J6d
  refine ⟨?_, ?_⟩
  ·refine ⟨0, ?_⟩
   refine ⟨?_, rfl, rfl, rfl, rfl, rfl⟩
   ·refine ⟨?_, ?_, ?_⟩
    ·omega
    ·omega
    ·rfl
  intro i hJ
  obtain ⟨h1, h2, h3⟩ := hJ
  refine ⟨?_, ?_⟩
  ·intro b1
   try simp only [nrmT] at b1
   refine ⟨?_, ?_, ?_, ?_, J0M (xs.getD i.toNat 0) 0 (below - 1), id, id, id, ?_, id, id, ?_, ?_, id, ?_, id, id, id, ?_, fun _ _ => rfl, rfl, fun _ => rfl, ?_, ?_, ?_⟩
   ·omega
   ·omega
   ·omega
   ·omega
   ·omega
   ·(intro hg; simp only [nrmT] at hg; omega)
   ·omega
   ·omega
   ·(simp_all; done)
   ·(simp_all; done)
   ·intro b2
    have e := J3J h1 b2
    exact (allTo_falseI h1 (by omega) e).symm
   intro b3
   refine ⟨?_, ?_⟩
   ·omega
   refine ⟨(i + 1), ?_⟩
   refine ⟨?_, ?_, rfl, rfl, rfl, rfl, rfl⟩
   ·refine ⟨?_, ?_, ?_⟩
    ·omega
    ·omega
    ·have e := J3J h1 b3
     exact allTo_step h1 h3 e
   (simp only [J1Y]; omega)
  intro b4
  try simp only [nrmT] at b4
  have e : i.toNat = xs.length := by omega
  rw [e] at h3
  exact h3.symm
theorem J46 (xs : ZI) (below : Int) (hb : -9223372036854775808 < below ∧ below ≤ 9223372036854775807) : PC Tryz.prog 162 [.sl (.ints xs), .int .i64 below] (.one (.d (.bool (J3 xs 0 (below - 1))))) :=
  pc_wf @Tryz.call162 fun hw => pc_by (by kernel_rfl) Tryz.func162 @Tryz.call162 (by kernel_rfl) Jb2 (Jaw xs below) (by kernel_rfl) (J9K xs below hb hw.1) (by kernel_rfl)
def J3A : List D → Orc := orcN [some .ints, none] fun ds => match ds with
  | [.sl (.ints xs), .int .i64 below] => some (.one (.d (.bool (J3 xs 0 (below - 1)))))
  | _ => none
theorem JbQ (m n : Nat) : ((m : Int) == (n : Int)) = decide (m = n) := by
  rw [Bool.eq_iff_iff]; simp only [beq_iff_eq, decide_eq_true_eq]; omega
theorem J80 (m n : Nat) : decide ((m : Int) ≤ (n : Int)) = decide (m ≤ n) := by
  rw [Bool.eq_iff_iff]; simp only [decide_eq_true_eq]; omega
theorem J6D {α : Type} {p : α → Bool} {d : α} {xs : List α} {i : Int} (h2 : (xs.length : Int) ≤ i) (h2' : i ≤ (xs.length : Int)) (h3 : allTo (fun k => p (xs.getD k d)) i.toNat = true) : xs.all p = true := by
  have e : i.toNat = xs.length := by omega
  rw [e, allTo_list] at h3; exact h3
theorem J84 {α : Type} {p : α → Bool} {d : α} {xs : List α} {i : Int} (h0 : 0 ≤ i) (h : i < (xs.length : Int)) (h3 : p (xs.getD i.toNat d) = false) : xs.all p = false := by
  rw [← allTo_list (d := d)]; exact allTo_falseI h0 h h3
abbrev J2Y (size : Int) (xss : ZR) (i : Int) : Prop := (0 ≤ i) ∧ (i ≤ (xss.length : Int)) ∧ (allTo (fun k => J3 (xss.getD k []) 0 (size - 1)) i.toNat = true)
abbrev J3a (size : Int) (xss : ZR) (i : Int) : Nat := (xss.length - i).toNat
def JcD (f : FuncId) (ds : List D) : Orc := bif Nat.beq f 164 then J8X ds else .no
def Jcd (size : Int) (xss : ZR) : Ann := .two (.none) (.two (.two (.none) (.loop (cut1 (fun (i : Int) => J2Y size xss i) (fun (i : Int) => [(0, .d false (.int .i64 size)), (1, .d false (.sl (.rows xss))), (5, .d true (.int .i64 i))]) (fun (i : Int) => [])) (fun g => J3a size xss g) (fun _ => .none))) (.none))
def J8p (size : Int) (xss : ZR) : Prop :=
  ((∃ i' : Int, (J2Y size xss i') ∧ (size = size) ∧ (xss = xss) ∧ ((0 : Int) = i')) ∧ (∀ i : Int, (J2Y size xss i) → (((decide (i < (xss.length : Int))) = true → ((0 : Int) ≤ i) ∧ ((i : Int) < xss.length) ∧ (i.toNat < xss.length) ∧ (I6 (size - 1)) ∧ (PC Tryz.prog 164 [.sl (.ints (xss.getD i.toNat [])), .int .i64 0, .int .i64 (size - 1)] (.one (.d (.bool (J3 (xss.getD i.toNat []) 0 (size - 1)))))) ∧ (((!(J3 (xss.getD i.toNat []) 0 (size - 1))) = true → ((false = (xss.all (fun xs => J3 xs 0 (size - 1)) && decide (xss.length ≤ 8))))) ∧ ((!(J3 (xss.getD i.toNat []) 0 (size - 1))) = false → (I6 (i + 1)) ∧ (∃ i' : Int, (J2Y size xss i') ∧ (J3a size xss i' < J3a size xss i) ∧ (size = size) ∧ (xss = xss) ∧ ((i + 1) = i'))))) ∧ ((decide (i < (xss.length : Int))) = false → (((decide ((xss.length : Int) ≤ 8)) = (xss.all (fun xs => J3 xs 0 (size - 1)) && decide (xss.length ≤ 8))))))))
theorem Jbr (size : Int) (xss : ZR) (hb : 0 ≤ size ∧ size ≤ 8) (w_xss : (xss.length : Int) ≤ 9223372036854775807) (v_xss : ∀ x9 ∈ xss, (x9.length : Int) ≤ 9223372036854775807) : J8p size xss := by
  unfold J8p
  refine ⟨?_, ?_⟩
  ·refine ⟨0, ?_⟩
   refine ⟨?_, rfl, rfl, rfl⟩
   ·refine ⟨?_, ?_, ?_⟩
    ·omega
    ·omega
    ·rfl
  intro i hJ
  obtain ⟨h1, h2, h3⟩ := hJ
  refine ⟨?_, ?_⟩
  ·intro b1
   try simp only [nrmT] at b1
   refine ⟨?_, ?_, ?_, ?_, J9U (xss.getD i.toNat []) 0 (size - 1), ?_, ?_⟩
   ·omega
   ·omega
   ·omega
   ·omega
   ·intro b2
    try simp only [nrmT] at b2
    rw [J84 (d := []) h1 (by omega) b2]; rfl
   intro b3
   try simp only [nrmT] at b3
   refine ⟨?_, ?_⟩
   ·omega
   refine ⟨(i + 1), ?_⟩
   refine ⟨?_, ?_, rfl, rfl, rfl⟩
   ·refine ⟨?_, ?_, ?_⟩
    ·omega
    ·omega
    ·exact allTo_step h1 h3 b3
   (simp only [J3a]; omega)
  intro b4
  try simp only [nrmT] at b4
  rw [J6D (p := fun xs => J3 xs 0 (size - 1)) (d := []) (by omega) h2 h3, Bool.true_and]; exact J80 _ 8
theorem Jbz (size : Int) (xss : ZR) (hb : 0 ≤ size ∧ size ≤ 8) : PC Tryz.prog 222 [.int .i64 size, .sl (.rows xss)] (.one (.d (.bool (xss.all (fun xs => J3 xs 0 (size - 1)) && decide (xss.length ≤ 8))))) :=
  pc_wf @Tryz.call222 fun hw => pc_by (by kernel_rfl) Tryz.func222 @Tryz.call222 (by kernel_rfl) JcD (Jcd size xss) (by kernel_rfl) (Jbr size xss hb hw.2.1.1 hw.2.1.2) (by kernel_rfl)
def Jax : List D → Orc := orcN [none, some .rows] fun ds => match ds with
  | [.int .i64 size, .sl (.rows xss)] => some (.one (.d (.bool (xss.all (fun xs => J3 xs 0 (size - 1)) && decide (xss.length ≤ 8)))))
  | _ => none
def J1 (size : Int) (sets : ZR) (costs : ZI) : Bool :=
  inB size 0 8 && decide (sets.length ≤ 8) && decide (costs.length = sets.length) && costs.all (fun x => inB x 1 99) && sets.all (fun xs => J3 xs 0 (size - 1))
theorem J0T {x lo hi : Int} (h : inB x lo hi = true) : lo ≤ x ∧ x ≤ hi := of_decide_eq_true h
abbrev J3i (Size : Int) (Sets : ZR) (Costs : ZI) (i : Int) : Prop := (0 ≤ i) ∧ (i ≤ (Costs.length : Int)) ∧ (allTo (fun k => inB (Costs.getD k 0) 1 99) i.toNat = true)
abbrev J3d (Size : Int) (Sets : ZR) (Costs : ZI) (i : Int) : Nat := (Costs.length - i).toNat
def Jc9 (f : FuncId) (ds : List D) : Orc := bif Nat.beq f 129 then J1q ds else bif Nat.beq f 222 then Jax ds else .no
def Jc1 (Size : Int) (Sets : ZR) (Costs : ZI) : Ann := .two (.none) (.two (.two (.none) (.loop (cut1 (fun (i : Int) => J3i Size Sets Costs i) (fun (i : Int) => [(1, .ptr 1 0), (3, .d true (.int .i64 i))]) (fun (i : Int) => [(1, .box 64 [.d false (.int .i64 Size), .d false (.sl (.rows Sets)), .d false (.sl (.ints Costs))])])) (fun g => J3d Size Sets Costs g) (fun _ => .none))) (.none))
def Jk (Size : Int) (Sets : ZR) : Bool := (cond (inB Size 0 8) (Sets.all (fun xs => J3 xs 0 (Size - 1)) && decide (Sets.length ≤ 8)) false)
def J8b (Size : Int) (Sets : ZR) (Costs : ZI) : Prop :=
  ((∃ i' : Int, (J3i Size Sets Costs i') ∧ ((0 : Int) = i') ∧ (Size = Size) ∧ (Sets = Sets) ∧ (Costs = Costs)) ∧ (∀ i : Int, (J3i Size Sets Costs i) → (((decide (i < (Costs.length : Int))) = true → ((0 : Int) ≤ i) ∧ ((i : Int) < Costs.length) ∧ (i.toNat < Costs.length) ∧ (PC Tryz.prog 129 [.int .i64 (Costs.getD i.toNat 0), .int .i64 1, .int .i64 99] (.one (.d (.bool (inB (Costs.getD i.toNat 0) 1 99))))) ∧ (((!(inB (Costs.getD i.toNat 0) 1 99)) = true → ((false = (J1 Size Sets Costs)))) ∧ ((!(inB (Costs.getD i.toNat 0) 1 99)) = false → (I6 (i + 1)) ∧ (∃ i' : Int, (J3i Size Sets Costs i') ∧ (J3d Size Sets Costs i' < J3d Size Sets Costs i) ∧ ((i + 1) = i') ∧ (Size = Size) ∧ (Sets = Sets) ∧ (Costs = Costs))))) ∧ ((decide (i < (Costs.length : Int))) = false → (PC Tryz.prog 129 [.int .i64 Size, .int .i64 0, .int .i64 8] (.one (.d (.bool (inB Size 0 8))))) ∧ ((inB Size 0 8) = true → (inB Size 0 8) = true) ∧ ((inB Size 0 8) = true → (inB Size 0 8) = true) ∧ ((inB Size 0 8) = true → (inB Size 0 8) = true) ∧ ((inB Size 0 8) = true → (inB Size 0 8) = true) ∧ ((inB Size 0 8) = true → PC Tryz.prog 222 [.int .i64 Size, .sl (.rows Sets)] (.one (.d (.bool (Sets.all (fun xs => J3 xs 0 (Size - 1)) && decide (Sets.length ≤ 8)))))) ∧ (true = true) ∧ (((inB Size 0 8) = true → (inB Size 0 8) = true)) ∧ (((inB Size 0 8) = false → true = true)) ∧ ((Jk Size Sets) = true → (Jk Size Sets) = true) ∧ ((Jk Size Sets) = true → (Jk Size Sets) = true) ∧ ((Jk Size Sets) = true → (Jk Size Sets) = true) ∧ ((Jk Size Sets) = true → (Jk Size Sets) = true) ∧ ((Jk Size Sets) = true → (Jk Size Sets) = true) ∧ ((Jk Size Sets) = true → (Jk Size Sets) = true) ∧ (true = true) ∧ (((Jk Size Sets) = true → (Jk Size Sets) = true)) ∧ (((Jk Size Sets) = false → true = true)) ∧ (((cond (Jk Size Sets) ((Costs.length : Int) == (Sets.length : Int)) false) = (J1 Size Sets Costs)))))))
theorem JbC (Size : Int) (Sets : ZR) (Costs : ZI)  (w_Sets : (Sets.length : Int) ≤ 9223372036854775807) (v_Sets : ∀ x9 ∈ Sets, (x9.length : Int) ≤ 9223372036854775807) (w_Costs : (Costs.length : Int) ≤ 9223372036854775807) : J8b Size Sets Costs := by
  unfold J8b Jk
  refine ⟨?_, ?_⟩
  ·refine ⟨0, ?_⟩
   refine ⟨?_, rfl, rfl, rfl, rfl⟩
   ·refine ⟨?_, ?_, ?_⟩
    ·omega
    ·omega
    ·rfl
  intro i hJ
  obtain ⟨h1, h2, h3⟩ := hJ
  refine ⟨?_, ?_⟩
  ·intro b1
   try simp only [nrmT] at b1
   refine ⟨?_, ?_, ?_, J1f (Costs.getD i.toNat 0) 1 99, ?_, ?_⟩
   ·omega
   ·omega
   ·omega
   ·intro b2
    try simp only [nrmT] at b2
    unfold J1
    rw [J84 (p := fun x => inB x 1 99) (d := 0) h1 (by omega) b2]
    simp
   intro b3
   try simp only [nrmT] at b3
   refine ⟨?_, ?_⟩
   ·omega
   refine ⟨(i + 1), ?_⟩
   refine ⟨?_, ?_, rfl, rfl, rfl, rfl⟩
   ·refine ⟨?_, ?_, ?_⟩
    ·omega
    ·omega
    ·exact allTo_step h1 h3 b3
   (simp only [J3d]; omega)
  intro b4
  try simp only [nrmT] at b4
  refine ⟨J1f Size 0 8, id, id, id, id, ?_, rfl, id, fun _ => rfl, id, id, id, id, id, id, rfl, id, fun _ => rfl, ?_⟩
  ·intro hg
   refine Jbz Size Sets ?_
   ·exact J0T hg
  unfold J1
  rw [J6D (p := fun x => inB x 1 99) (d := 0) (by omega) h2 h3, JbQ]
  cases inB Size 0 8 <;> cases decide (Sets.length ≤ 8) <;> cases Sets.all (fun xs => J3 xs 0 (Size - 1)) <;> cases decide (Costs.length = Sets.length) <;> rfl
theorem J78 (Size : Int) (Sets : ZR) (Costs : ZI)  : PC Tryz.prog 177 [.agg [.int .i64 Size, .sl (.rows Sets), .sl (.ints Costs)]] (.one (.d (.bool (J1 Size Sets Costs)))) :=
  pc_wf @Tryz.call177 fun hw => pc_by (by kernel_rfl) Tryz.func177 @Tryz.call177 (by kernel_rfl) Jc9 (Jc1 Size Sets Costs) (by kernel_rfl) (JbC Size Sets Costs hw.1.2.1.1 hw.1.2.1.2 hw.1.2.2.1) (by kernel_rfl)
def J5Z : List D → Orc := orcN [none] fun ds => match ds with
  | [.agg [.int .i64 Size, .sl (.rows Sets), .sl (.ints Costs)]] => some (.one (.d (.bool (J1 Size Sets Costs))))
  | _ => none
def J7E (f : FuncId) (ds : List D) : Orc := bif Nat.beq f 132 then J0a ds else .no
def J7K (x : Int) (lo : Int) (hi : Int) : Ann := .none
def J4r (x : Int) (lo : Int) (hi : Int) : Prop :=
  (PC Tryz.prog 132 [.int .i64 x, .int .i64 lo, .int .i64 hi] (.one (.d (.bool (inB x lo hi))))) ∧ (((!(inB x lo hi)) = (!(inB x lo hi))))
theorem J6S (x : Int) (lo : Int) (hi : Int)   : J4r x lo hi := by
  unfold J4r
  refine ⟨J0M x lo hi, rfl⟩
theorem J6K (x : Int) (lo : Int) (hi : Int)  : PC Tryz.prog 220 [.int .i64 x, .bx [.int .i64 lo] 0, .bx [.int .i64 hi] 0] (.one (.d (.bool (!(inB x lo hi))))) :=
  pc_wf @Tryz.call220 fun _ => pc_by (by kernel_rfl) Tryz.func220 @Tryz.call220 (by kernel_rfl) J7E (J7K x lo hi) (by kernel_rfl) (J6S x lo hi) (by kernel_rfl)
def J6z : List D → Orc := orcN [none, none, none] fun ds => match ds with
  | [.int .i64 x, .bx [.int .i64 lo] 0, .bx [.int .i64 hi] 0] => some (.one (.d (.bool (!(inB x lo hi)))))
  | _ => none
abbrev Jy (xs : ZI) (lo : Int) (hi : Int) (i : Int) : Prop := (0 ≤ i) ∧ (i ≤ (xs.length : Int)) ∧ (∀ k, k < i.toNat → (fun x => !(inB x lo hi)) (xs.getD k 0) = false)
abbrev Jz (xs : ZI) (lo : Int) (hi : Int) (i : Int) : Nat := (xs.length - i).toNat
def J3p (f : FuncId) (ds : List D) : Orc := bif Nat.beq f 220 then J6z ds else .no
def J3m (xs : ZI) (lo : Int) (hi : Int) : Ann := .two (.none) (.two (.two (.none) (.loop (cut1 (fun (i : Int) => Jy xs lo hi i) (fun (i : Int) => [(0, .d false (.sl (.ints xs))), (1, .d false (.fn 220 0 [.bx [.int .i64 lo] 0, .bx [.int .i64 hi] 0])), (7, .d true (.int .i64 (xs.length : Int))), (8, .d true (.int .i64 i))]) (fun (i : Int) => [])) (fun g => Jz xs lo hi g) (fun _ => .none))) (.none))
def J16 (xs : ZI) (lo : Int) (hi : Int) : Prop :=
  ((∃ i' : Int, (Jy xs lo hi i') ∧ (xs = xs) ∧ ((.fn 220 0 [.bx [.int .i64 lo] 0, .bx [.int .i64 hi] 0] : D) = (.fn 220 0 [.bx [.int .i64 lo] 0, .bx [.int .i64 hi] 0] : D)) ∧ ((xs.length : Int) = (xs.length : Int)) ∧ ((0 : Int) = i')) ∧ (∀ i : Int, (Jy xs lo hi i) → (((decide (i < (xs.length : Int))) = true → ((0 : Int) ≤ i) ∧ ((i : Int) < xs.length) ∧ (i.toNat < xs.length) ∧ (PC Tryz.prog 220 [.int .i64 (xs.getD i.toNat 0), .bx [.int .i64 lo] 0, .bx [.int .i64 hi] 0] (.one (.d (.bool (!(inB (xs.getD i.toNat 0) lo hi)))))) ∧ (((!(inB (xs.getD i.toNat 0) lo hi)) = true → ((i = (idxI (fun x => !(inB x lo hi)) xs)))) ∧ ((!(inB (xs.getD i.toNat 0) lo hi)) = false → (I6 (i + 1)) ∧ (∃ i' : Int, (Jy xs lo hi i') ∧ (Jz xs lo hi i' < Jz xs lo hi i) ∧ (xs = xs) ∧ ((.fn 220 0 [.bx [.int .i64 lo] 0, .bx [.int .i64 hi] 0] : D) = (.fn 220 0 [.bx [.int .i64 lo] 0, .bx [.int .i64 hi] 0] : D)) ∧ ((xs.length : Int) = (xs.length : Int)) ∧ ((i + 1) = i'))))) ∧ ((decide (i < (xs.length : Int))) = false → ((((-1) : Int) = (idxI (fun x => !(inB x lo hi)) xs)))))))
theorem J3h (xs : ZI) (lo : Int) (hi : Int)  (w_xs : (xs.length : Int) ≤ 9223372036854775807) : J16 xs lo hi := by
  unfold J16
  refine ⟨?_, ?_⟩
  ·refine ⟨0, ?_⟩
   refine ⟨?_, rfl, rfl, rfl, rfl⟩
   ·refine ⟨?_, ?_, ?_⟩
    ·omega
    ·omega
    ·omega
  intro i hJ
  obtain ⟨h1, h2, h3⟩ := hJ
  refine ⟨?_, ?_⟩
  ·intro b1
   try simp only [nrmT] at b1
   refine ⟨?_, ?_, ?_, J6K (xs.getD i.toNat 0) lo hi, ?_, ?_⟩
   ·omega
   ·omega
   ·omega
   ·intro b2
    try simp only [nrmT] at b2
    exact idx_found (p := fun x => !(inB x lo hi)) h1 b1 h3 (by simpa using b2)
   intro b3
   try simp only [nrmT] at b3
   refine ⟨?_, ?_⟩
   ·omega
   refine ⟨(i + 1), ?_⟩
   refine ⟨?_, ?_, rfl, rfl, rfl, rfl⟩
   ·refine ⟨?_, ?_, ?_⟩
    ·omega
    ·omega
    ·exact idx_step (p := fun x => !(inB x lo hi)) h1 h3 (by simpa using b3)
   (simp only [Jz]; omega)
  intro b4
  try simp only [nrmT] at b4
  exact (idx_none (by omega) h3).symm
theorem J2Z (xs : ZI) (lo : Int) (hi : Int)  : PC Tryz.prog 237 [.sl (.ints xs), .fn 220 0 [.bx [.int .i64 lo] 0, .bx [.int .i64 hi] 0]] (.one (.d (.int .i64 (idxI (fun x => !(inB x lo hi)) xs)))) :=
  pc_wf @Tryz.call237 fun hw => pc_by (by kernel_rfl) Tryz.func237 @Tryz.call237 (by kernel_rfl) J3p (J3m xs lo hi) (by kernel_rfl) (J3h xs lo hi hw.1) (by kernel_rfl)
def J2S : List D → Orc := orcN [some .ints, none] fun ds => match ds with
  | [.sl (.ints xs), .fn f0 0 [.bx [.int .i64 lo] 0, .bx [.int .i64 hi] 0]] => bif Nat.beq f0 220 then some (.one (.d (.int .i64 (idxI (fun x => !(inB x lo hi)) xs)))) else none
  | _ => none
def J2C (f : FuncId) (ds : List D) : Orc := bif Nat.beq f 237 then J2S ds else .no
def J2J (xs : ZI) (lo : Int) (hi : Int) : Ann := .none
def J0H (xs : ZI) (lo : Int) (hi : Int) : Prop :=
  (PC Tryz.prog 237 [.sl (.ints xs), .fn 220 0 [.bx [.int .i64 lo] 0, .bx [.int .i64 hi] 0]] (.one (.d (.int .i64 (idxI (fun x => !(inB x lo hi)) xs))))) ∧ (((decide ((idxI (fun x => !(inB x lo hi)) xs) ≥ 0)) = (xs.any (fun x => !(inB x lo hi)))))
theorem J2n (xs : ZI) (lo : Int) (hi : Int)  (w_xs : (xs.length : Int) ≤ 9223372036854775807) : J0H xs lo hi := by
  unfold J0H
  refine ⟨J2Z xs lo hi, ?_⟩
  ·exact idx_any _ _
theorem J2j (xs : ZI) (lo : Int) (hi : Int)  : PC Tryz.prog 218 [.sl (.ints xs), .fn 220 0 [.bx [.int .i64 lo] 0, .bx [.int .i64 hi] 0]] (.one (.d (.bool (xs.any (fun x => !(inB x lo hi)))))) :=
  pc_wf @Tryz.call218 fun hw => pc_by (by kernel_rfl) Tryz.func218 @Tryz.call218 (by kernel_rfl) J2C (J2J xs lo hi) (by kernel_rfl) (J2n xs lo hi hw.1) (by kernel_rfl)
def J2i : List D → Orc := orcN [some .ints, none] fun ds => match ds with
  | [.sl (.ints xs), .fn f0 0 [.bx [.int .i64 lo] 0, .bx [.int .i64 hi] 0]] => bif Nat.beq f0 220 then some (.one (.d (.bool (xs.any (fun x => !(inB x lo hi)))))) else none
  | _ => none
def J8Y (f : FuncId) (ds : List D) : Orc := bif Nat.beq f 218 then J2i ds else .no
def J96 (xs : ZI) (lo : Int) (hi : Int) : Ann := .none
def J4Z (xs : ZI) (lo : Int) (hi : Int) : Prop :=
  (PC Tryz.prog 218 [.sl (.ints xs), .fn 220 0 [.bx [.int .i64 lo] 0, .bx [.int .i64 hi] 0]] (.one (.d (.bool (xs.any (fun x => !(inB x lo hi))))))) ∧ (((!(xs.any (fun x => !(inB x lo hi)))) = (xs.all (fun x => inB x lo hi))))
theorem J8d (xs : ZI) (lo : Int) (hi : Int)  (w_xs : (xs.length : Int) ≤ 9223372036854775807) : J4Z xs lo hi := by
  unfold J4Z
  refine ⟨J2j xs lo hi, ?_⟩
  ·exact any_not _ _
theorem J30 (xs : ZI) (lo : Int) (hi : Int)  : PC Tryz.prog 168 [.sl (.ints xs), .int .i64 lo, .int .i64 hi] (.one (.d (.bool (xs.all (fun x => inB x lo hi))))) :=
  pc_wf @Tryz.call168 fun hw => pc_by (by kernel_rfl) Tryz.func168 @Tryz.call168 (by kernel_rfl) J8Y (J96 xs lo hi) (by kernel_rfl) (J8d xs lo hi hw.1) (by kernel_rfl)
def J2D : List D → Orc := orcN [some .ints, none, none] fun ds => match ds with
  | [.sl (.ints xs), .int .i64 lo, .int .i64 hi] => some (.one (.d (.bool (xs.all (fun x => inB x lo hi)))))
  | _ => none
def J9f (f : FuncId) (ds : List D) : Orc := bif Nat.beq f 162 then J3A ds else .no
def J8V (xs : ZI) (Size : Int) (Sets : ZR) (Costs : ZI) : Ann := .none
def J4Y (xs : ZI) (Size : Int) (Sets : ZR) (Costs : ZI) : Prop :=
  (PC Tryz.prog 162 [.sl (.ints xs), .int .i64 Size] (.one (.d (.bool (J3 xs 0 (Size - 1)))))) ∧ (((!(J3 xs 0 (Size - 1))) = (!(J3 xs 0 (Size - 1)))))
theorem J8G (xs : ZI) (Size : Int) (Sets : ZR) (Costs : ZI) (hb : -9223372036854775808 < Size ∧ Size ≤ 9223372036854775807) (w_xs : (xs.length : Int) ≤ 9223372036854775807) (w_Sets : (Sets.length : Int) ≤ 9223372036854775807) (v_Sets : ∀ x9 ∈ Sets, (x9.length : Int) ≤ 9223372036854775807) (w_Costs : (Costs.length : Int) ≤ 9223372036854775807) : J4Y xs Size Sets Costs := by
  unfold J4Y
  refine ⟨?_, rfl⟩
  ·refine J46 xs Size ?_
   ·omega
theorem J8r (xs : ZI) (Size : Int) (Sets : ZR) (Costs : ZI) (hb : -9223372036854775808 < Size ∧ Size ≤ 9223372036854775807) : PC Tryz.prog 221 [.sl (.ints xs), .bx [.int .i64 Size, .sl (.rows Sets), .sl (.ints Costs)] 0] (.one (.d (.bool (!(J3 xs 0 (Size - 1)))))) :=
  pc_wf @Tryz.call221 fun hw => pc_by (by kernel_rfl) Tryz.func221 @Tryz.call221 (by kernel_rfl) J9f (J8V xs Size Sets Costs) (by kernel_rfl) (J8G xs Size Sets Costs hb hw.1 hw.2.1.2.1.1 hw.2.1.2.1.2 hw.2.1.2.2.1) (by kernel_rfl)
def J7T : List D → Orc := orcN [some .ints, none] fun ds => match ds with
  | [.sl (.ints xs), .bx [.int .i64 Size, .sl (.rows Sets), .sl (.ints Costs)] 0] => some (.one (.d (.bool (!(J3 xs 0 (Size - 1))))))
  | _ => none
abbrev Jv (xs : ZR) (Size : Int) (Sets : ZR) (Costs : ZI) (i : Int) : Prop := (0 ≤ i) ∧ (i ≤ (xs.length : Int)) ∧ (∀ k, k < i.toNat → (fun x => !(J3 x 0 (Size - 1))) (xs.getD k []) = false)
abbrev Jx (xs : ZR) (Size : Int) (Sets : ZR) (Costs : ZI) (i : Int) : Nat := (xs.length - i).toNat
def J3r (f : FuncId) (ds : List D) : Orc := bif Nat.beq f 221 then J7T ds else .no
def J3o (xs : ZR) (Size : Int) (Sets : ZR) (Costs : ZI) : Ann := .two (.none) (.two (.two (.none) (.loop (cut1 (fun (i : Int) => Jv xs Size Sets Costs i) (fun (i : Int) => [(0, .d false (.sl (.rows xs))), (1, .d false (.fn 221 0 [.bx [.int .i64 Size, .sl (.rows Sets), .sl (.ints Costs)] 0])), (7, .d true (.int .i64 (xs.length : Int))), (8, .d true (.int .i64 i))]) (fun (i : Int) => [])) (fun g => Jx xs Size Sets Costs g) (fun _ => .none))) (.none))
def J17 (xs : ZR) (Size : Int) (Sets : ZR) (Costs : ZI) : Prop :=
  ((∃ i' : Int, (Jv xs Size Sets Costs i') ∧ (xs = xs) ∧ ((.fn 221 0 [.bx [.int .i64 Size, .sl (.rows Sets), .sl (.ints Costs)] 0] : D) = (.fn 221 0 [.bx [.int .i64 Size, .sl (.rows Sets), .sl (.ints Costs)] 0] : D)) ∧ ((xs.length : Int) = (xs.length : Int)) ∧ ((0 : Int) = i')) ∧ (∀ i : Int, (Jv xs Size Sets Costs i) → (((decide (i < (xs.length : Int))) = true → ((0 : Int) ≤ i) ∧ ((i : Int) < xs.length) ∧ (i.toNat < xs.length) ∧ (PC Tryz.prog 221 [.sl (.ints (xs.getD i.toNat [])), .bx [.int .i64 Size, .sl (.rows Sets), .sl (.ints Costs)] 0] (.one (.d (.bool (!(J3 (xs.getD i.toNat []) 0 (Size - 1))))))) ∧ (((!(J3 (xs.getD i.toNat []) 0 (Size - 1))) = true → ((i = (idxI (fun x => !(J3 x 0 (Size - 1))) xs)))) ∧ ((!(J3 (xs.getD i.toNat []) 0 (Size - 1))) = false → (I6 (i + 1)) ∧ (∃ i' : Int, (Jv xs Size Sets Costs i') ∧ (Jx xs Size Sets Costs i' < Jx xs Size Sets Costs i) ∧ (xs = xs) ∧ ((.fn 221 0 [.bx [.int .i64 Size, .sl (.rows Sets), .sl (.ints Costs)] 0] : D) = (.fn 221 0 [.bx [.int .i64 Size, .sl (.rows Sets), .sl (.ints Costs)] 0] : D)) ∧ ((xs.length : Int) = (xs.length : Int)) ∧ ((i + 1) = i'))))) ∧ ((decide (i < (xs.length : Int))) = false → ((((-1) : Int) = (idxI (fun x => !(J3 x 0 (Size - 1))) xs)))))))
theorem J31 (xs : ZR) (Size : Int) (Sets : ZR) (Costs : ZI) (hb : -9223372036854775808 < Size ∧ Size ≤ 9223372036854775807) (w_xs : (xs.length : Int) ≤ 9223372036854775807) (v_xs : ∀ x9 ∈ xs, (x9.length : Int) ≤ 9223372036854775807) (w_Sets : (Sets.length : Int) ≤ 9223372036854775807) (v_Sets : ∀ x9 ∈ Sets, (x9.length : Int) ≤ 9223372036854775807) (w_Costs : (Costs.length : Int) ≤ 9223372036854775807) : J17 xs Size Sets Costs := by
  unfold J17
  refine ⟨?_, ?_⟩
  ·refine ⟨0, ?_⟩
   refine ⟨?_, rfl, rfl, rfl, rfl⟩
   ·refine ⟨?_, ?_, ?_⟩
    ·omega
    ·omega
    ·omega
  intro i hJ
  obtain ⟨h1, h2, h3⟩ := hJ
  refine ⟨?_, ?_⟩
  ·intro b1
   try simp only [nrmT] at b1
   refine ⟨?_, ?_, ?_, ?_, ?_, ?_⟩
   ·omega
   ·omega
   ·omega
   ·refine J8r (xs.getD i.toNat []) Size Sets Costs ?_
    ·omega
   ·intro b2
    try simp only [nrmT] at b2
    exact idx_found (p := fun x => !(J3 x 0 (Size - 1))) h1 b1 h3 (by simpa using b2)
   intro b3
   try simp only [nrmT] at b3
   refine ⟨?_, ?_⟩
   ·omega
   refine ⟨(i + 1), ?_⟩
   refine ⟨?_, ?_, rfl, rfl, rfl, rfl⟩
   ·refine ⟨?_, ?_, ?_⟩
    ·omega
    ·omega
    ·exact idx_step (p := fun x => !(J3 x 0 (Size - 1))) h1 h3 (by simpa using b3)
   (simp only [Jx]; omega)
  intro b4
  try simp only [nrmT] at b4
  exact (idx_none (by omega) h3).symm
theorem J38 (xs : ZR) (Size : Int) (Sets : ZR) (Costs : ZI) (hb : -9223372036854775808 < Size ∧ Size ≤ 9223372036854775807) : PC Tryz.prog 226 [.sl (.rows xs), .fn 221 0 [.bx [.int .i64 Size, .sl (.rows Sets), .sl (.ints Costs)] 0]] (.one (.d (.int .i64 (idxI (fun x => !(J3 x 0 (Size - 1))) xs)))) :=
  pc_wf @Tryz.call226 fun hw => pc_by (by kernel_rfl) Tryz.func226 @Tryz.call226 (by kernel_rfl) J3r (J3o xs Size Sets Costs) (by kernel_rfl) (J31 xs Size Sets Costs hb hw.1.1 hw.1.2 hw.2.1.1.2.1.1 hw.2.1.1.2.1.2 hw.2.1.1.2.2.1) (by kernel_rfl)
def J2U : List D → Orc := orcN [some .rows, none] fun ds => match ds with
  | [.sl (.rows xs), .fn f0 0 [.bx [.int .i64 Size, .sl (.rows Sets), .sl (.ints Costs)] 0]] => bif Nat.beq f0 221 then some (.one (.d (.int .i64 (idxI (fun x => !(J3 x 0 (Size - 1))) xs)))) else none
  | _ => none
def J2I (f : FuncId) (ds : List D) : Orc := bif Nat.beq f 226 then J2U ds else .no
def J2O (xs : ZR) (Size : Int) (Sets : ZR) (Costs : ZI) : Ann := .none
def J0F (xs : ZR) (Size : Int) (Sets : ZR) (Costs : ZI) : Prop :=
  (PC Tryz.prog 226 [.sl (.rows xs), .fn 221 0 [.bx [.int .i64 Size, .sl (.rows Sets), .sl (.ints Costs)] 0]] (.one (.d (.int .i64 (idxI (fun x => !(J3 x 0 (Size - 1))) xs))))) ∧ (((decide ((idxI (fun x => !(J3 x 0 (Size - 1))) xs) ≥ 0)) = (xs.any (fun x => !(J3 x 0 (Size - 1))))))
theorem J2o (xs : ZR) (Size : Int) (Sets : ZR) (Costs : ZI) (hb : -9223372036854775808 < Size ∧ Size ≤ 9223372036854775807) (w_xs : (xs.length : Int) ≤ 9223372036854775807) (v_xs : ∀ x9 ∈ xs, (x9.length : Int) ≤ 9223372036854775807) (w_Sets : (Sets.length : Int) ≤ 9223372036854775807) (v_Sets : ∀ x9 ∈ Sets, (x9.length : Int) ≤ 9223372036854775807) (w_Costs : (Costs.length : Int) ≤ 9223372036854775807) : J0F xs Size Sets Costs := by
  unfold J0F
  refine ⟨?_, ?_⟩
  ·refine J38 xs Size Sets Costs ?_
   ·omega
  exact idx_any _ _
theorem J2m (xs : ZR) (Size : Int) (Sets : ZR) (Costs : ZI) (hb : -9223372036854775808 < Size ∧ Size ≤ 9223372036854775807) : PC Tryz.prog 195 [.sl (.rows xs), .fn 221 0 [.bx [.int .i64 Size, .sl (.rows Sets), .sl (.ints Costs)] 0]] (.one (.d (.bool (xs.any (fun x => !(J3 x 0 (Size - 1))))))) :=
  pc_wf @Tryz.call195 fun hw => pc_by (by kernel_rfl) Tryz.func195 @Tryz.call195 (by kernel_rfl) J2I (J2O xs Size Sets Costs) (by kernel_rfl) (J2o xs Size Sets Costs hb hw.1.1 hw.1.2 hw.2.1.1.2.1.1 hw.2.1.1.2.1.2 hw.2.1.1.2.2.1) (by kernel_rfl)
def J2f : List D → Orc := orcN [some .rows, none] fun ds => match ds with
  | [.sl (.rows xs), .fn f0 0 [.bx [.int .i64 Size, .sl (.rows Sets), .sl (.ints Costs)] 0]] => bif Nat.beq f0 221 then some (.one (.d (.bool (xs.any (fun x => !(J3 x 0 (Size - 1))))))) else none
  | _ => none
def Jb7 (f : FuncId) (ds : List D) : Orc := bif Nat.beq f 132 then J0a ds else bif Nat.beq f 168 then J2D ds else bif Nat.beq f 195 then J2f ds else .no
def Jaf (Size : Int) (Sets : ZR) (Costs : ZI) : Ann := .none
def J8 (Size : Int) (Sets : ZR) (Costs : ZI) : Bool := (cond (cond (inB Size 0 8) (decide ((Sets.length : Int) ≤ 8)) false) ((Costs.length : Int) == (Sets.length : Int)) false)
def J6v (Size : Int) (Sets : ZR) (Costs : ZI) : Prop :=
  (PC Tryz.prog 132 [.int .i64 Size, .int .i64 0, .int .i64 8] (.one (.d (.bool (inB Size 0 8))))) ∧ ((inB Size 0 8) = true → (inB Size 0 8) = true) ∧ ((inB Size 0 8) = true → (inB Size 0 8) = true) ∧ ((inB Size 0 8) = true → (inB Size 0 8) = true) ∧ (true = true) ∧ (((inB Size 0 8) = true → (inB Size 0 8) = true)) ∧ (((inB Size 0 8) = false → true = true)) ∧ ((cond (inB Size 0 8) (decide ((Sets.length : Int) ≤ 8)) false) = true → (cond (inB Size 0 8) (decide ((Sets.length : Int) ≤ 8)) false) = true) ∧ ((cond (inB Size 0 8) (decide ((Sets.length : Int) ≤ 8)) false) = true → (cond (inB Size 0 8) (decide ((Sets.length : Int) ≤ 8)) false) = true) ∧ ((cond (inB Size 0 8) (decide ((Sets.length : Int) ≤ 8)) false) = true → (cond (inB Size 0 8) (decide ((Sets.length : Int) ≤ 8)) false) = true) ∧ ((cond (inB Size 0 8) (decide ((Sets.length : Int) ≤ 8)) false) = true → (cond (inB Size 0 8) (decide ((Sets.length : Int) ≤ 8)) false) = true) ∧ ((cond (inB Size 0 8) (decide ((Sets.length : Int) ≤ 8)) false) = true → (cond (inB Size 0 8) (decide ((Sets.length : Int) ≤ 8)) false) = true) ∧ ((cond (inB Size 0 8) (decide ((Sets.length : Int) ≤ 8)) false) = true → (cond (inB Size 0 8) (decide ((Sets.length : Int) ≤ 8)) false) = true) ∧ (true = true) ∧ (((cond (inB Size 0 8) (decide ((Sets.length : Int) ≤ 8)) false) = true → (cond (inB Size 0 8) (decide ((Sets.length : Int) ≤ 8)) false) = true)) ∧ (((cond (inB Size 0 8) (decide ((Sets.length : Int) ≤ 8)) false) = false → true = true)) ∧ ((J8 Size Sets Costs) = true → (J8 Size Sets Costs) = true) ∧ ((J8 Size Sets Costs) = true → (J8 Size Sets Costs) = true) ∧ ((J8 Size Sets Costs) = true → PC Tryz.prog 168 [.sl (.ints Costs), .int .i64 1, .int .i64 99] (.one (.d (.bool (Costs.all (fun x => inB x 1 99)))))) ∧ (true = true) ∧ (((J8 Size Sets Costs) = true → (J8 Size Sets Costs) = true)) ∧ (((J8 Size Sets Costs) = false → true = true)) ∧ ((cond (J8 Size Sets Costs) (Costs.all (fun x => inB x 1 99)) false) = true → (cond (J8 Size Sets Costs) (Costs.all (fun x => inB x 1 99)) false) = true) ∧ ((cond (J8 Size Sets Costs) (Costs.all (fun x => inB x 1 99)) false) = true → (cond (J8 Size Sets Costs) (Costs.all (fun x => inB x 1 99)) false) = true) ∧ ((cond (J8 Size Sets Costs) (Costs.all (fun x => inB x 1 99)) false) = true → (cond (J8 Size Sets Costs) (Costs.all (fun x => inB x 1 99)) false) = true) ∧ ((cond (J8 Size Sets Costs) (Costs.all (fun x => inB x 1 99)) false) = true → PC Tryz.prog 195 [.sl (.rows Sets), .fn 221 0 [.bx [.int .i64 Size, .sl (.rows Sets), .sl (.ints Costs)] 0]] (.one (.d (.bool (Sets.any (fun x => !(J3 x 0 (Size - 1)))))))) ∧ ((cond (J8 Size Sets Costs) (Costs.all (fun x => inB x 1 99)) false) = true → (cond (J8 Size Sets Costs) (Costs.all (fun x => inB x 1 99)) false) = true) ∧ (true = true) ∧ (((cond (J8 Size Sets Costs) (Costs.all (fun x => inB x 1 99)) false) = true → (cond (J8 Size Sets Costs) (Costs.all (fun x => inB x 1 99)) false) = true)) ∧ (((cond (J8 Size Sets Costs) (Costs.all (fun x => inB x 1 99)) false) = false → true = true)) ∧ (((cond (cond (J8 Size Sets Costs) (Costs.all (fun x => inB x 1 99)) false) (!(Sets.any (fun x => !(J3 x 0 (Size - 1))))) false) = (J1 Size Sets Costs)))
theorem Ja6 (Size : Int) (Sets : ZR) (Costs : ZI)  (w_Sets : (Sets.length : Int) ≤ 9223372036854775807) (v_Sets : ∀ x9 ∈ Sets, (x9.length : Int) ≤ 9223372036854775807) (w_Costs : (Costs.length : Int) ≤ 9223372036854775807) : J6v Size Sets Costs := by
  unfold J6v J8
  refine ⟨J0M Size 0 8, id, id, id, rfl, id, fun _ => rfl, id, id, id, id, id, id, rfl, id, fun _ => rfl, id, id, fun _ => J30 Costs 1 99, rfl, id, fun _ => rfl, id, id, id, ?_, id, rfl, id, fun _ => rfl, ?_⟩
  ·intro hg
   refine J2m Sets Size Sets Costs ?_
   ·simp only [inB] at hg; simp at hg; omega
  unfold J1
  rw [any_not, JbQ, show decide ((Sets.length : Int) ≤ 8) = decide (Sets.length ≤ 8) from J80 _ 8]
  cases inB Size 0 8 <;> cases decide (Sets.length ≤ 8) <;> cases Sets.all (fun xs => J3 xs 0 (Size - 1)) <;> cases decide (Costs.length = Sets.length) <;> cases Costs.all (fun x => inB x 1 99) <;> rfl
theorem J42 (Size : Int) (Sets : ZR) (Costs : ZI)  : PC Tryz.prog 172 [.agg [.int .i64 Size, .sl (.rows Sets), .sl (.ints Costs)]] (.one (.d (.bool (J1 Size Sets Costs)))) :=
  pc_wf @Tryz.call172 fun hw => pc_by (by kernel_rfl) Tryz.func172 @Tryz.call172 (by kernel_rfl) Jb7 (Jaf Size Sets Costs) (by kernel_rfl) (Ja6 Size Sets Costs hw.1.2.1.1 hw.1.2.1.2 hw.1.2.2.1) (by kernel_rfl)
def J3z : List D → Orc := orcN [none] fun ds => match ds with
  | [.agg [.int .i64 Size, .sl (.rows Sets), .sl (.ints Costs)]] => some (.one (.d (.bool (J1 Size Sets Costs))))
  | _ => none
theorem J4d {α : Type} [BEq α] [LawfulBEq α] {d : α} {xs ys : List α} (hl : xs.length = ys.length) : allTo (fun k => xs.getD k d == ys.getD k d) xs.length = (xs == ys) := by
  rw [Bool.eq_iff_iff, allTo_iff]
  simp only [beq_iff_eq]
  constructor
  · intro h
    refine List.ext_getElem hl fun k h1 h2 => ?_
    have := h k h1
    simpa [h1, h2] using this
  intro h k _
  rw [h]
theorem Jd2 {α : Type} [BEq α] [LawfulBEq α] {xs ys : List α} (h : ¬ xs.length = ys.length) : (xs == ys) = false := by
  rw [Bool.eq_false_iff]; intro h2; simp only [beq_iff_eq] at h2; exact h (by rw [h2])
def Jh (row : ZI) (n most : Int) : Bool := row.all (fun x => inB x 0 most) && decide ((row.length : Int) = n)
def J2 (U : ZI) (E : ZR) : Bool :=
  inB (U.length : Int) 1 7 && U.all (fun x => inB x 0 99) && decide (E.length ≤ 7) && E.all (fun l => Jh l (U.length : Int) 99)
theorem Jr {U : ZI} {E : ZR} (h : J2 U E = true) : 1 ≤ U.length ∧ U.length ≤ 7 ∧ E.length ≤ 7 := by
  simp only [J2, Bool.and_eq_true, decide_eq_true_eq] at h
  have := J0T h.1.1.1
  omega
theorem J3Z {U : ZI} {E : ZR} (h : J2 U E = true) {i : Nat} (hi : i < E.length) : (E.getD i []).length = U.length ∧ ∀ a, a < U.length → 0 ≤ (E.getD i []).getD a 0 ∧ (E.getD i []).getD a 0 ≤ 99 := by
  simp only [J2, Bool.and_eq_true, decide_eq_true_eq] at h
  have h2 := List.all_eq_true.1 h.2 _ (getD_mem (d := []) hi)
  simp only [Jh, Bool.and_eq_true, decide_eq_true_eq] at h2
  refine ⟨by omega, fun a ha => ?_⟩
  exact J0T (List.all_eq_true.1 h2.1 _ (getD_mem (by omega)))
abbrev J3C (row : ZI) (n : Int) (most : Int) (i : Int) : Prop := (0 ≤ i) ∧ (i ≤ (row.length : Int)) ∧ (allTo (fun k => inB (row.getD k 0) 0 most) i.toNat = true)
abbrev J3G (row : ZI) (n : Int) (most : Int) (i : Int) : Nat := (row.length - i).toNat
def JcR (f : FuncId) (ds : List D) : Orc := bif Nat.beq f 129 then J1q ds else .no
def Jd8 (row : ZI) (n : Int) (most : Int) : Ann := .two (.none) (.two (.two (.none) (.loop (cut1 (fun (i : Int) => J3C row n most i) (fun (i : Int) => [(0, .d false (.sl (.ints row))), (1, .d false (.int .i64 n)), (2, .d false (.int .i64 most)), (7, .d true (.int .i64 i))]) (fun (i : Int) => [])) (fun g => J3G row n most g) (fun _ => .none))) (.none))
def J9x (row : ZI) (n : Int) (most : Int) : Prop :=
  ((∃ i' : Int, (J3C row n most i') ∧ (row = row) ∧ (n = n) ∧ (most = most) ∧ ((0 : Int) = i')) ∧ (∀ i : Int, (J3C row n most i) → (((decide (i < (row.length : Int))) = true → ((0 : Int) ≤ i) ∧ ((i : Int) < row.length) ∧ (i.toNat < row.length) ∧ (PC Tryz.prog 129 [.int .i64 (row.getD i.toNat 0), .int .i64 0, .int .i64 most] (.one (.d (.bool (inB (row.getD i.toNat 0) 0 most))))) ∧ (((!(inB (row.getD i.toNat 0) 0 most)) = true → ((false = (Jh row n most)))) ∧ ((!(inB (row.getD i.toNat 0) 0 most)) = false → (I6 (i + 1)) ∧ (∃ i' : Int, (J3C row n most i') ∧ (J3G row n most i' < J3G row n most i) ∧ (row = row) ∧ (n = n) ∧ (most = most) ∧ ((i + 1) = i'))))) ∧ ((decide (i < (row.length : Int))) = false → ((((row.length : Int) == n) = (Jh row n most)))))))
theorem Jcb (row : ZI) (n : Int) (most : Int)  (w_row : (row.length : Int) ≤ 9223372036854775807) : J9x row n most := by
  unfold J9x
  refine ⟨?_, ?_⟩
  ·refine ⟨0, ?_⟩
   refine ⟨?_, rfl, rfl, rfl, rfl⟩
   ·refine ⟨?_, ?_, ?_⟩
    ·omega
    ·omega
    ·rfl
  intro i hJ
  obtain ⟨h1, h2, h3⟩ := hJ
  refine ⟨?_, ?_⟩
  ·intro b1
   try simp only [nrmT] at b1
   refine ⟨?_, ?_, ?_, J1f (row.getD i.toNat 0) 0 most, ?_, ?_⟩
   ·omega
   ·omega
   ·omega
   ·intro b2
    try simp only [nrmT] at b2
    unfold Jh
    rw [J84 (p := fun x => inB x 0 most) (d := 0) h1 (by omega) b2]; rfl
   intro b3
   try simp only [nrmT] at b3
   refine ⟨?_, ?_⟩
   ·omega
   refine ⟨(i + 1), ?_⟩
   refine ⟨?_, ?_, rfl, rfl, rfl, rfl⟩
   ·refine ⟨?_, ?_, ?_⟩
    ·omega
    ·omega
    ·exact allTo_step h1 h3 b3
   (simp only [J3G]; omega)
  intro b4
  try simp only [nrmT] at b4
  unfold Jh
  rw [J6D (p := fun x => inB x 0 most) (d := 0) (by omega) h2 h3, Bool.true_and]; rfl
theorem J83 (row : ZI) (n : Int) (most : Int)  : PC Tryz.prog 202 [.sl (.ints row), .int .i64 n, .int .i64 most] (.one (.d (.bool (Jh row n most)))) :=
  pc_wf @Tryz.call202 fun hw => pc_by (by kernel_rfl) Tryz.func202 @Tryz.call202 (by kernel_rfl) JcR (Jd8 row n most) (by kernel_rfl) (Jcb row n most hw.1) (by kernel_rfl)
def Jbc : List D → Orc := orcN [some .ints, none, none] fun ds => match ds with
  | [.sl (.ints row), .int .i64 n, .int .i64 most] => some (.one (.d (.bool (Jh row n most))))
  | _ => none
abbrev J33 (U : ZI) (E : ZR) (i : Int) : Prop := (0 ≤ i) ∧ (i ≤ (E.length : Int)) ∧ (allTo (fun k => Jh (E.getD k []) (U.length : Int) 99) i.toNat = true)
abbrev J3c (U : ZI) (E : ZR) (i : Int) : Nat := (E.length - i).toNat
def Jc6 (f : FuncId) (ds : List D) : Orc := bif Nat.beq f 202 then Jbc ds else bif Nat.beq f 129 then J1q ds else .no
def Jcz (U : ZI) (E : ZR) : Ann := .two (.none) (.two (.none) (.two (.two (.none) (.loop (cut1 (fun (i : Int) => J33 U E i) (fun (i : Int) => [(1, .ptr 1 0), (3, .d true (.int .i64 (U.length : Int))), (4, .d true (.int .i64 i))]) (fun (i : Int) => [(1, .box 27 [.d false (.sl (.ints U)), .d false (.sl (.rows E))])])) (fun g => J3c U E g) (fun _ => .none))) (.none)))
def J8j (U : ZI) (E : ZR) : Prop :=
  ((∃ i' : Int, (J33 U E i') ∧ ((U.length : Int) = (U.length : Int)) ∧ ((0 : Int) = i') ∧ (U = U) ∧ (E = E)) ∧ (∀ i : Int, (J33 U E i) → (((decide (i < (E.length : Int))) = true → ((0 : Int) ≤ i) ∧ ((i : Int) < E.length) ∧ (i.toNat < E.length) ∧ (PC Tryz.prog 202 [.sl (.ints (E.getD i.toNat [])), .int .i64 (U.length : Int), .int .i64 99] (.one (.d (.bool (Jh (E.getD i.toNat []) (U.length : Int) 99))))) ∧ (((!(Jh (E.getD i.toNat []) (U.length : Int) 99)) = true → ((false = (J2 U E)))) ∧ ((!(Jh (E.getD i.toNat []) (U.length : Int) 99)) = false → (I6 (i + 1)) ∧ (∃ i' : Int, (J33 U E i') ∧ (J3c U E i' < J3c U E i) ∧ ((U.length : Int) = (U.length : Int)) ∧ ((i + 1) = i') ∧ (U = U) ∧ (E = E))))) ∧ ((decide (i < (E.length : Int))) = false → (PC Tryz.prog 129 [.int .i64 (U.length : Int), .int .i64 1, .int .i64 7] (.one (.d (.bool (inB (U.length : Int) 1 7))))) ∧ ((inB (U.length : Int) 1 7) = true → (inB (U.length : Int) 1 7) = true) ∧ ((inB (U.length : Int) 1 7) = true → (inB (U.length : Int) 1 7) = true) ∧ ((inB (U.length : Int) 1 7) = true → (inB (U.length : Int) 1 7) = true) ∧ ((inB (U.length : Int) 1 7) = true → PC Tryz.prog 202 [.sl (.ints U), .int .i64 (U.length : Int), .int .i64 99] (.one (.d (.bool (Jh U (U.length : Int) 99))))) ∧ (true = true) ∧ (((inB (U.length : Int) 1 7) = true → (inB (U.length : Int) 1 7) = true)) ∧ (((inB (U.length : Int) 1 7) = false → true = true)) ∧ ((cond (inB (U.length : Int) 1 7) (Jh U (U.length : Int) 99) false) = true → (cond (inB (U.length : Int) 1 7) (Jh U (U.length : Int) 99) false) = true) ∧ ((cond (inB (U.length : Int) 1 7) (Jh U (U.length : Int) 99) false) = true → (cond (inB (U.length : Int) 1 7) (Jh U (U.length : Int) 99) false) = true) ∧ ((cond (inB (U.length : Int) 1 7) (Jh U (U.length : Int) 99) false) = true → (cond (inB (U.length : Int) 1 7) (Jh U (U.length : Int) 99) false) = true) ∧ (true = true) ∧ (((cond (inB (U.length : Int) 1 7) (Jh U (U.length : Int) 99) false) = true → (cond (inB (U.length : Int) 1 7) (Jh U (U.length : Int) 99) false) = true)) ∧ (((cond (inB (U.length : Int) 1 7) (Jh U (U.length : Int) 99) false) = false → true = true)) ∧ (((cond (cond (inB (U.length : Int) 1 7) (Jh U (U.length : Int) 99) false) (decide ((E.length : Int) ≤ 7)) false) = (J2 U E)))))))
theorem Jbf (U : ZI) (E : ZR)  (w_Open : (U.length : Int) ≤ 9223372036854775807) (w_Dist : (E.length : Int) ≤ 9223372036854775807) (v_Dist : ∀ x9 ∈ E, (x9.length : Int) ≤ 9223372036854775807) : J8j U E := by
  unfold J8j
  refine ⟨?_, ?_⟩
  ·refine ⟨0, ?_⟩
   refine ⟨?_, rfl, rfl, rfl, rfl⟩
   ·refine ⟨?_, ?_, ?_⟩
    ·omega
    ·omega
    ·rfl
  intro i hJ
  obtain ⟨h1, h2, h3⟩ := hJ
  refine ⟨?_, ?_⟩
  ·intro b1
   try simp only [nrmT] at b1
   refine ⟨?_, ?_, ?_, J83 (E.getD i.toNat []) (U.length : Int) 99, ?_, ?_⟩
   ·omega
   ·omega
   ·omega
   ·intro b2
    try simp only [nrmT] at b2
    unfold J2
    rw [J84 (p := fun l => Jh l (U.length : Int) 99) (d := []) h1 (by omega) b2, Bool.and_false]
   intro b3
   try simp only [nrmT] at b3
   refine ⟨?_, ?_⟩
   ·omega
   refine ⟨(i + 1), ?_⟩
   refine ⟨?_, ?_, rfl, rfl, rfl, rfl⟩
   ·refine ⟨?_, ?_, ?_⟩
    ·omega
    ·omega
    ·exact allTo_step h1 h3 b3
   (simp only [J3c]; omega)
  intro b4
  try simp only [nrmT] at b4
  refine ⟨J1f (U.length : Int) 1 7, id, id, id, fun _ => J83 U (U.length : Int) 99, rfl, id, fun _ => rfl, id, id, id, rfl, id, fun _ => rfl, ?_⟩
  ·unfold J2
   rw [J6D (p := fun l => Jh l (U.length : Int) 99) (d := []) (by omega) h2 h3, show decide ((E.length : Int) ≤ 7) = decide (E.length ≤ 7) from J80 _ 7]
   unfold Jh
   cases inB (U.length : Int) 1 7 <;> cases U.all (fun x => inB x 0 99) <;> cases decide (E.length ≤ 7) <;> simp
theorem Jbx (U : ZI) (E : ZR)  : PC Tryz.prog 112 [.agg [.sl (.ints U), .sl (.rows E)]] (.one (.d (.bool (J2 U E)))) :=
  pc_wf @Tryz.call112 fun hw => pc_by (by kernel_rfl) Tryz.func112 @Tryz.call112 (by kernel_rfl) Jc6 (Jcz U E) (by kernel_rfl) (Jbf U E hw.1.1 hw.1.2.1.1 hw.1.2.1.2) (by kernel_rfl)
def Jam : List D → Orc := orcN [none] fun ds => match ds with
  | [.agg [.sl (.ints U), .sl (.rows E)]] => some (.one (.d (.bool (J2 U E))))
  | _ => none
def J9Z (f : FuncId) (ds : List D) : Orc := bif Nat.beq f 168 then J2D ds else .no
def J9V (xs : ZI) (U : ZI) (E : ZR) : Ann := .none
def J5u (xs : ZI) (U : ZI) (E : ZR) : Prop :=
  ((!((xs.length : Int) != (U.length : Int))) = true → (!((xs.length : Int) != (U.length : Int))) = true) ∧ ((!((xs.length : Int) != (U.length : Int))) = true → PC Tryz.prog 168 [.sl (.ints xs), .int .i64 0, .int .i64 99] (.one (.d (.bool (xs.all (fun x => inB x 0 99)))))) ∧ ((!((xs.length : Int) != (U.length : Int))) = true → (!((xs.length : Int) != (U.length : Int))) = true) ∧ (true = true) ∧ ((((xs.length : Int) != (U.length : Int)) = true → true = true)) ∧ ((((xs.length : Int) != (U.length : Int)) = false → (!((xs.length : Int) != (U.length : Int))) = true)) ∧ (((cond ((xs.length : Int) != (U.length : Int)) true (!(xs.all (fun x => inB x 0 99)))) = (!(Jh xs (U.length : Int) 99))))
theorem J9h (xs : ZI) (U : ZI) (E : ZR)  (w_xs : (xs.length : Int) ≤ 9223372036854775807) (w_Open : (U.length : Int) ≤ 9223372036854775807) (w_Dist : (E.length : Int) ≤ 9223372036854775807) (v_Dist : ∀ x9 ∈ E, (x9.length : Int) ≤ 9223372036854775807) : J5u xs U E := by
  unfold J5u
  refine ⟨id, fun _ => J30 xs 0 99, id, rfl, fun _ => rfl, ?_, ?_⟩
  ·(simp_all; done)
  unfold Jh
  by_cases h : (xs.length : Int) = (U.length : Int)
  · simp [h]
  simp [h]
theorem J8U (xs : ZI) (U : ZI) (E : ZR)  : PC Tryz.prog 201 [.sl (.ints xs), .bx [.sl (.ints U), .sl (.rows E)] 0] (.one (.d (.bool (!(Jh xs (U.length : Int) 99))))) :=
  pc_wf @Tryz.call201 fun hw => pc_by (by kernel_rfl) Tryz.func201 @Tryz.call201 (by kernel_rfl) J9Z (J9V xs U E) (by kernel_rfl) (J9h xs U E hw.1 hw.2.1.1 hw.2.1.2.1.1 hw.2.1.2.1.2) (by kernel_rfl)
def J8o : List D → Orc := orcN [some .ints, none] fun ds => match ds with
  | [.sl (.ints xs), .bx [.sl (.ints U), .sl (.rows E)] 0] => some (.one (.d (.bool (!(Jh xs (U.length : Int) 99)))))
  | _ => none
abbrev JA (xs : ZR) (U : ZI) (E : ZR) (i : Int) : Prop := (0 ≤ i) ∧ (i ≤ (xs.length : Int)) ∧ (∀ k, k < i.toNat → (fun x => !(Jh x (U.length : Int) 99)) (xs.getD k []) = false)
abbrev Jw (xs : ZR) (U : ZI) (E : ZR) (i : Int) : Nat := (xs.length - i).toNat
def J3q (f : FuncId) (ds : List D) : Orc := bif Nat.beq f 201 then J8o ds else .no
def J3n (xs : ZR) (U : ZI) (E : ZR) : Ann := .two (.none) (.two (.two (.none) (.loop (cut1 (fun (i : Int) => JA xs U E i) (fun (i : Int) => [(0, .d false (.sl (.rows xs))), (1, .d false (.fn 201 0 [.bx [.sl (.ints U), .sl (.rows E)] 0])), (7, .d true (.int .i64 (xs.length : Int))), (8, .d true (.int .i64 i))]) (fun (i : Int) => [])) (fun g => Jw xs U E g) (fun _ => .none))) (.none))
def J15 (xs : ZR) (U : ZI) (E : ZR) : Prop :=
  ((∃ i' : Int, (JA xs U E i') ∧ (xs = xs) ∧ ((.fn 201 0 [.bx [.sl (.ints U), .sl (.rows E)] 0] : D) = (.fn 201 0 [.bx [.sl (.ints U), .sl (.rows E)] 0] : D)) ∧ ((xs.length : Int) = (xs.length : Int)) ∧ ((0 : Int) = i')) ∧ (∀ i : Int, (JA xs U E i) → (((decide (i < (xs.length : Int))) = true → ((0 : Int) ≤ i) ∧ ((i : Int) < xs.length) ∧ (i.toNat < xs.length) ∧ (PC Tryz.prog 201 [.sl (.ints (xs.getD i.toNat [])), .bx [.sl (.ints U), .sl (.rows E)] 0] (.one (.d (.bool (!(Jh (xs.getD i.toNat []) (U.length : Int) 99)))))) ∧ (((!(Jh (xs.getD i.toNat []) (U.length : Int) 99)) = true → ((i = (idxI (fun x => !(Jh x (U.length : Int) 99)) xs)))) ∧ ((!(Jh (xs.getD i.toNat []) (U.length : Int) 99)) = false → (I6 (i + 1)) ∧ (∃ i' : Int, (JA xs U E i') ∧ (Jw xs U E i' < Jw xs U E i) ∧ (xs = xs) ∧ ((.fn 201 0 [.bx [.sl (.ints U), .sl (.rows E)] 0] : D) = (.fn 201 0 [.bx [.sl (.ints U), .sl (.rows E)] 0] : D)) ∧ ((xs.length : Int) = (xs.length : Int)) ∧ ((i + 1) = i'))))) ∧ ((decide (i < (xs.length : Int))) = false → ((((-1) : Int) = (idxI (fun x => !(Jh x (U.length : Int) 99)) xs)))))))
theorem J3j (xs : ZR) (U : ZI) (E : ZR)  (w_xs : (xs.length : Int) ≤ 9223372036854775807) (v_xs : ∀ x9 ∈ xs, (x9.length : Int) ≤ 9223372036854775807) (w_Open : (U.length : Int) ≤ 9223372036854775807) (w_Dist : (E.length : Int) ≤ 9223372036854775807) (v_Dist : ∀ x9 ∈ E, (x9.length : Int) ≤ 9223372036854775807) : J15 xs U E := by
  unfold J15
  refine ⟨?_, ?_⟩
  ·refine ⟨0, ?_⟩
   refine ⟨?_, rfl, rfl, rfl, rfl⟩
   ·refine ⟨?_, ?_, ?_⟩
    ·omega
    ·omega
    ·omega
  intro i hJ
  obtain ⟨h1, h2, h3⟩ := hJ
  refine ⟨?_, ?_⟩
  ·intro b1
   try simp only [nrmT] at b1
   refine ⟨?_, ?_, ?_, J8U (xs.getD i.toNat []) U E, ?_, ?_⟩
   ·omega
   ·omega
   ·omega
   ·intro b2
    try simp only [nrmT] at b2
    exact idx_found (p := fun x => !(Jh x (U.length : Int) 99)) h1 b1 h3 (by simpa using b2)
   intro b3
   try simp only [nrmT] at b3
   refine ⟨?_, ?_⟩
   ·omega
   refine ⟨(i + 1), ?_⟩
   refine ⟨?_, ?_, rfl, rfl, rfl, rfl⟩
   ·refine ⟨?_, ?_, ?_⟩
    ·omega
    ·omega
    ·exact idx_step (p := fun x => !(Jh x (U.length : Int) 99)) h1 h3 (by simpa using b3)
   (simp only [Jw]; omega)
  intro b4
  try simp only [nrmT] at b4
  exact (idx_none (by omega) h3).symm
theorem J3b (xs : ZR) (U : ZI) (E : ZR)  : PC Tryz.prog 226 [.sl (.rows xs), .fn 201 0 [.bx [.sl (.ints U), .sl (.rows E)] 0]] (.one (.d (.int .i64 (idxI (fun x => !(Jh x (U.length : Int) 99)) xs)))) :=
  pc_wf @Tryz.call226 fun hw => pc_by (by kernel_rfl) Tryz.func226 @Tryz.call226 (by kernel_rfl) J3q (J3n xs U E) (by kernel_rfl) (J3j xs U E hw.1.1 hw.1.2 hw.2.1.1.1 hw.2.1.1.2.1.1 hw.2.1.1.2.1.2) (by kernel_rfl)
def J2T : List D → Orc := orcN [some .rows, none] fun ds => match ds with
  | [.sl (.rows xs), .fn f0 0 [.bx [.sl (.ints U), .sl (.rows E)] 0]] => bif Nat.beq f0 201 then some (.one (.d (.int .i64 (idxI (fun x => !(Jh x (U.length : Int) 99)) xs)))) else none
  | _ => none
def J2N (f : FuncId) (ds : List D) : Orc := bif Nat.beq f 226 then J2T ds else .no
def J2L (xs : ZR) (U : ZI) (E : ZR) : Ann := .none
def J0E (xs : ZR) (U : ZI) (E : ZR) : Prop :=
  (PC Tryz.prog 226 [.sl (.rows xs), .fn 201 0 [.bx [.sl (.ints U), .sl (.rows E)] 0]] (.one (.d (.int .i64 (idxI (fun x => !(Jh x (U.length : Int) 99)) xs))))) ∧ (((decide ((idxI (fun x => !(Jh x (U.length : Int) 99)) xs) ≥ 0)) = (xs.any (fun x => !(Jh x (U.length : Int) 99)))))
theorem J2p (xs : ZR) (U : ZI) (E : ZR)  (w_xs : (xs.length : Int) ≤ 9223372036854775807) (v_xs : ∀ x9 ∈ xs, (x9.length : Int) ≤ 9223372036854775807) (w_Open : (U.length : Int) ≤ 9223372036854775807) (w_Dist : (E.length : Int) ≤ 9223372036854775807) (v_Dist : ∀ x9 ∈ E, (x9.length : Int) ≤ 9223372036854775807) : J0E xs U E := by
  unfold J0E
  refine ⟨J3b xs U E, ?_⟩
  ·exact idx_any _ _
theorem J2k (xs : ZR) (U : ZI) (E : ZR)  : PC Tryz.prog 195 [.sl (.rows xs), .fn 201 0 [.bx [.sl (.ints U), .sl (.rows E)] 0]] (.one (.d (.bool (xs.any (fun x => !(Jh x (U.length : Int) 99)))))) :=
  pc_wf @Tryz.call195 fun hw => pc_by (by kernel_rfl) Tryz.func195 @Tryz.call195 (by kernel_rfl) J2N (J2L xs U E) (by kernel_rfl) (J2p xs U E hw.1.1 hw.1.2 hw.2.1.1.1 hw.2.1.1.2.1.1 hw.2.1.1.2.1.2) (by kernel_rfl)
def J2g : List D → Orc := orcN [some .rows, none] fun ds => match ds with
  | [.sl (.rows xs), .fn f0 0 [.bx [.sl (.ints U), .sl (.rows E)] 0]] => bif Nat.beq f0 201 then some (.one (.d (.bool (xs.any (fun x => !(Jh x (U.length : Int) 99)))))) else none
  | _ => none
def Jbo (f : FuncId) (ds : List D) : Orc := bif Nat.beq f 132 then J0a ds else bif Nat.beq f 168 then J2D ds else bif Nat.beq f 195 then J2g ds else .no
def Jbb (U : ZI) (E : ZR) : Ann := .none
def Jq (U : ZI) (E : ZR) : Bool := (cond (cond (inB (U.length : Int) 1 7) (U.all (fun x => inB x 0 99)) false) (decide ((E.length : Int) ≤ 7)) false)
def J7e (U : ZI) (E : ZR) : Prop :=
  (PC Tryz.prog 132 [.int .i64 (U.length : Int), .int .i64 1, .int .i64 7] (.one (.d (.bool (inB (U.length : Int) 1 7))))) ∧ ((inB (U.length : Int) 1 7) = true → (inB (U.length : Int) 1 7) = true) ∧ ((inB (U.length : Int) 1 7) = true → (inB (U.length : Int) 1 7) = true) ∧ ((inB (U.length : Int) 1 7) = true → PC Tryz.prog 168 [.sl (.ints U), .int .i64 0, .int .i64 99] (.one (.d (.bool (U.all (fun x => inB x 0 99)))))) ∧ (true = true) ∧ (((inB (U.length : Int) 1 7) = true → (inB (U.length : Int) 1 7) = true)) ∧ (((inB (U.length : Int) 1 7) = false → true = true)) ∧ ((cond (inB (U.length : Int) 1 7) (U.all (fun x => inB x 0 99)) false) = true → (cond (inB (U.length : Int) 1 7) (U.all (fun x => inB x 0 99)) false) = true) ∧ ((cond (inB (U.length : Int) 1 7) (U.all (fun x => inB x 0 99)) false) = true → (cond (inB (U.length : Int) 1 7) (U.all (fun x => inB x 0 99)) false) = true) ∧ ((cond (inB (U.length : Int) 1 7) (U.all (fun x => inB x 0 99)) false) = true → (cond (inB (U.length : Int) 1 7) (U.all (fun x => inB x 0 99)) false) = true) ∧ (true = true) ∧ (((cond (inB (U.length : Int) 1 7) (U.all (fun x => inB x 0 99)) false) = true → (cond (inB (U.length : Int) 1 7) (U.all (fun x => inB x 0 99)) false) = true)) ∧ (((cond (inB (U.length : Int) 1 7) (U.all (fun x => inB x 0 99)) false) = false → true = true)) ∧ ((Jq U E) = true → (Jq U E) = true) ∧ ((Jq U E) = true → (Jq U E) = true) ∧ ((Jq U E) = true → (Jq U E) = true) ∧ ((Jq U E) = true → PC Tryz.prog 195 [.sl (.rows E), .fn 201 0 [.bx [.sl (.ints U), .sl (.rows E)] 0]] (.one (.d (.bool (E.any (fun x => !(Jh x (U.length : Int) 99))))))) ∧ ((Jq U E) = true → (Jq U E) = true) ∧ (true = true) ∧ (((Jq U E) = true → (Jq U E) = true)) ∧ (((Jq U E) = false → true = true)) ∧ (((cond (Jq U E) (!(E.any (fun x => !(Jh x (U.length : Int) 99)))) false) = (J2 U E)))
theorem JaA (U : ZI) (E : ZR)  (w_Open : (U.length : Int) ≤ 9223372036854775807) (w_Dist : (E.length : Int) ≤ 9223372036854775807) (v_Dist : ∀ x9 ∈ E, (x9.length : Int) ≤ 9223372036854775807) : J7e U E := by
  unfold J7e Jq
  refine ⟨J0M (U.length : Int) 1 7, id, id, fun _ => J30 U 0 99, rfl, id, fun _ => rfl, id, id, id, rfl, id, fun _ => rfl, id, id, id, fun _ => J2k E U E, id, rfl, id, fun _ => rfl, ?_⟩
  ·unfold J2
   rw [any_not, show decide ((E.length : Int) ≤ 7) = decide (E.length ≤ 7) from J80 _ 7]
   cases inB (U.length : Int) 1 7 <;> cases U.all (fun x => inB x 0 99) <;> cases decide (E.length ≤ 7) <;> simp
theorem J5W (U : ZI) (E : ZR)  : PC Tryz.prog 111 [.agg [.sl (.ints U), .sl (.rows E)]] (.one (.d (.bool (J2 U E)))) :=
  pc_wf @Tryz.call111 fun hw => pc_by (by kernel_rfl) Tryz.func111 @Tryz.call111 (by kernel_rfl) Jbo (Jbb U E) (by kernel_rfl) (JaA U E hw.1.1 hw.1.2.1.1 hw.1.2.1.2) (by kernel_rfl)
def J5v : List D → Orc := orcN [none] fun ds => match ds with
  | [.agg [.sl (.ints U), .sl (.rows E)]] => some (.one (.d (.bool (J2 U E))))
  | _ => none
def Jbs (f : FuncId) (ds : List D) : Orc := .no
def Jbq (a : Int) (b : Int) : Ann := .none
def J7b (a : Int) (b : Int) : Prop :=
  (((decide (a < b)) = true → ((a = (min a b)))) ∧ ((decide (a < b)) = false → ((b = (min a b)))))
theorem Jar (a : Int) (b : Int)   : J7b a b := by
  unfold J7b
  refine ⟨?_, ?_⟩
  ·intro b1
   try simp only [nrmT] at b1
   omega
  intro b2
  try simp only [nrmT] at b2
  omega
theorem JaG (a : Int) (b : Int)  : PC Tryz.prog 161 [.int .i64 a, .int .i64 b] (.one (.d (.int .i64 (min a b)))) :=
  pc_wf @Tryz.call161 fun _ => pc_by (by kernel_rfl) Tryz.func161 @Tryz.call161 (by kernel_rfl) Jbs (Jbq a b) (by kernel_rfl) (Jar a b) (by kernel_rfl)
def Ja5 : List D → Orc := orcN [none, none] fun ds => match ds with
  | [.int .i64 a, .int .i64 b] => some (.one (.d (.int .i64 (min a b))))
  | _ => none
def J1m (f : Nat → Int) (n : Nat) : Int := foldTo (fun s k => s + f k) 0 n
theorem J8D {f : Nat → Int} {i : Int} (h : 0 ≤ i) : J1m f (i + 1).toNat = J1m f i.toNat + f i.toNat := foldTo_step h
theorem Jbu {f : Nat → Int} {m : Int} (n : Nat) (h : ∀ k, k < n → 0 ≤ f k ∧ f k ≤ m) : 0 ≤ J1m f n ∧ J1m f n ≤ m * n := by
  induction n with
  | zero => simp [J1m, foldTo]
  | succ n ih =>
    have h1 := ih fun k hk => h k (Nat.lt_succ_of_lt hk)
    have h2 := h n (Nat.lt_succ_self n)
    have e : J1m f (n + 1) = J1m f n + f n := rfl
    rw [e]
    have e2 : m * ((n + 1 : Nat) : Int) = m * (n : Int) + m := by rw [Int.natCast_succ, Int.mul_add, Int.mul_one]
    rw [e2]
    omega
theorem JV {xs : ZI} {lo hi : Int} (h : J3 xs lo hi = true) : ∀ k, k < xs.length → lo + k ≤ xs.getD k 0 ∧ xs.getD k 0 ≤ hi := by
  intro k
  induction k with
  | zero =>
    intro hk
    have h1 := allTo_iff.1 h 0 hk
    simp only [J1v, Bool.and_eq_true] at h1
    have := J0T h1.1
    omega
  | succ k ih =>
    intro hk
    have h0 := ih (by omega)
    have h1 := allTo_iff.1 h (k + 1) hk
    simp only [J1v, Bool.and_eq_true, Bool.or_eq_true, decide_eq_true_eq, Nat.add_sub_cancel] at h1
    have := J0T h1.1
    have h2 := h1.2
    omega
theorem J26 {xs : ZI} {lo hi : Int} (h : J3 xs lo hi = true) (hlo : lo ≤ hi + 1) : (xs.length : Int) ≤ hi - lo + 1 := by
  by_cases h0 : xs.length = 0
  · omega
  have := JV h (xs.length - 1) (by omega)
  omega
theorem Jd {size : Int} {sets : ZR} {costs : ZI} (h : J1 size sets costs = true) : 0 ≤ size ∧ size ≤ 8 ∧ sets.length ≤ 8 ∧ costs.length = sets.length := by
  simp only [J1, Bool.and_eq_true, decide_eq_true_eq] at h
  have := J0T h.1.1.1.1
  omega
theorem J4q {size : Int} {sets : ZR} {costs : ZI} (h : J1 size sets costs = true) {k : Nat} (hk : k < sets.length) : J3 (sets.getD k []) 0 (size - 1) = true := by
  simp only [J1, Bool.and_eq_true, decide_eq_true_eq] at h
  exact List.all_eq_true.1 h.2 _ (getD_mem hk)
def Jav (f : FuncId) (ds : List D) : Orc := bif Nat.beq f 172 then J3z ds else bif Nat.beq f 162 then J3A ds else .no
def JaR (Size : Int) (Sets : ZR) (Costs : ZI) (choice : ZI) : Ann := .none
def J6o (Size : Int) (Sets : ZR) (Costs : ZI) (choice : ZI) : Prop :=
  (PC Tryz.prog 172 [.agg [.int .i64 Size, .sl (.rows Sets), .sl (.ints Costs)]] (.one (.d (.bool (J1 Size Sets Costs))))) ∧ ((J1 Size Sets Costs) = true → (J1 Size Sets Costs) = true) ∧ ((J1 Size Sets Costs) = true → (J1 Size Sets Costs) = true) ∧ ((J1 Size Sets Costs) = true → (J1 Size Sets Costs) = true) ∧ ((J1 Size Sets Costs) = true → (J1 Size Sets Costs) = true) ∧ ((J1 Size Sets Costs) = true → PC Tryz.prog 162 [.sl (.ints choice), .int .i64 (Sets.length : Int)] (.one (.d (.bool (J3 choice 0 ((Sets.length : Int) - 1)))))) ∧ (true = true) ∧ (((J1 Size Sets Costs) = true → (J1 Size Sets Costs) = true)) ∧ (((J1 Size Sets Costs) = false → true = true)) ∧ (((cond (J1 Size Sets Costs) (J3 choice 0 ((Sets.length : Int) - 1)) false) = (J1 Size Sets Costs && J3 choice 0 ((Sets.length : Int) - 1))))
theorem Ja9 (Size : Int) (Sets : ZR) (Costs : ZI) (choice : ZI)  (w_Sets : (Sets.length : Int) ≤ 9223372036854775807) (v_Sets : ∀ x9 ∈ Sets, (x9.length : Int) ≤ 9223372036854775807) (w_Costs : (Costs.length : Int) ≤ 9223372036854775807) (w_choice : (choice.length : Int) ≤ 9223372036854775807) : J6o Size Sets Costs choice := by
  unfold J6o
  refine ⟨J42 Size Sets Costs, id, id, id, id, ?_, rfl, id, fun _ => rfl, ?_⟩
  ·intro hg
   refine J46 choice (Sets.length : Int) ?_
   ·omega
  (simp at * <;> omega)
theorem J5p (Size : Int) (Sets : ZR) (Costs : ZI) (choice : ZI)  : PC Tryz.prog 182 [.agg [.int .i64 Size, .sl (.rows Sets), .sl (.ints Costs)], .sl (.ints choice)] (.one (.d (.bool (J1 Size Sets Costs && J3 choice 0 ((Sets.length : Int) - 1))))) :=
  pc_wf @Tryz.call182 fun hw => pc_by (by kernel_rfl) Tryz.func182 @Tryz.call182 (by kernel_rfl) Jav (JaR Size Sets Costs choice) (by kernel_rfl) (Ja9 Size Sets Costs choice hw.1.2.1.1 hw.1.2.1.2 hw.1.2.2.1 hw.2.1) (by kernel_rfl)
def J4X : List D → Orc := orcN [none, some .ints] fun ds => match ds with
  | [.agg [.int .i64 Size, .sl (.rows Sets), .sl (.ints Costs)], .sl (.ints choice)] => some (.one (.d (.bool (J1 Size Sets Costs && J3 choice 0 ((Sets.length : Int) - 1)))))
  | _ => none
abbrev J3N (list : ZI) (out : Int) (i : Int) : Prop := (0 ≤ i) ∧ (i ≤ (list.length : Int)) ∧ (out = ((bagTo list i.toNat : Nat) : Int))
abbrev J3H (list : ZI) (out : Int) (i : Int) : Nat := (list.length - i).toNat
def Jdh (f : FuncId) (ds : List D) : Orc := .no
def JcV (list : ZI) : Ann := .two (.none) (.two (.none) (.two (.two (.none) (.loop (cut2 (fun (out : Int) (i : Int) => J3N list out i) (fun (out : Int) (i : Int) => [(3, .d true (.int .u64 out)), (6, .d false (.sl (.ints list))), (7, .d true (.int .i64 (list.length : Int))), (8, .d true (.int .i64 i))]) (fun (out : Int) (i : Int) => [])) (fun g => J3H list g.1 g.2) (fun _ => .none))) (.none)))
def J9H (list : ZI) : Prop :=
  ((∃ out' : Int, ∃ i' : Int, (J3N list out' i') ∧ ((0 : Int) = out') ∧ (list = list) ∧ ((list.length : Int) = (list.length : Int)) ∧ ((0 : Int) = i')) ∧ (∀ out : Int, ∀ i : Int, (J3N list out i) → (((decide (i < (list.length : Int))) = true → ((0 : Int) ≤ i) ∧ ((i : Int) < list.length) ∧ (i.toNat < list.length) ∧ ((0 : Int) ≤ 1) ∧ ((0 : Int) ≤ (list.getD i.toNat 0)) ∧ ((0 : Int) ≤ ((1 : Int) * 2 ^ ((list.getD i.toNat 0).toNat)) ∧ (((1 : Int) * 2 ^ ((list.getD i.toNat 0).toNat)) : Int) ≤ 18446744073709551615) ∧ ((0 : Int) ≤ out ∧ (out : Int) ≤ 18446744073709551615) ∧ ((0 : Int) ≤ ((1 : Int) * 2 ^ ((list.getD i.toNat 0).toNat)) ∧ (((1 : Int) * 2 ^ ((list.getD i.toNat 0).toNat)) : Int) ≤ 18446744073709551615) ∧ (I6 (i + 1)) ∧ (∃ out' : Int, ∃ i' : Int, (J3N list out' i') ∧ (J3H list out' i' < J3H list out i) ∧ (((out.toNat ||| ((1 : Int) * 2 ^ ((list.getD i.toNat 0).toNat)).toNat : Nat) : Int) = out') ∧ (list = list) ∧ ((list.length : Int) = (list.length : Int)) ∧ ((i + 1) = i'))) ∧ ((decide (i < (list.length : Int))) = false → ((out = ((bagN list : Nat) : Int)))))))
theorem Jcv (list : ZI) (hb : ∀ x ∈ list, 0 ≤ x ∧ x < 62) (w_list : (list.length : Int) ≤ 9223372036854775807) : J9H list := by
  unfold J9H
  have lt := bagTo_lt (m := 62) hb
  have he : (2 : Nat) ^ 62 = 4611686018427387904 := by decide
  refine ⟨?_, ?_⟩
  ·refine ⟨0, 0, ?_⟩
   refine ⟨?_, rfl, rfl, rfl, rfl⟩
   ·refine ⟨?_, ?_, ?_⟩
    ·omega
    ·omega
    ·rfl
  intro out i hJ
  obtain ⟨h1, h2, h3⟩ := hJ
  refine ⟨?_, ?_⟩
  ·intro b1
   try simp only [nrmT] at b1
   refine ⟨?_, ?_, ?_, ?_, ?_, ?_, ?_, ?_, ?_, ?_⟩
   ·omega
   ·omega
   ·omega
   ·omega
   ·have := hb _ (getD_memI (d := 0) h1 (by omega))
    omega
   ·have h7 := hb _ (getD_memI (d := 0) h1 (by omega))
    have h8 := pow_le (x := list.getD i.toNat 0) (m := 62) (by omega)
    rw [he] at h8
    omega
   ·have := lt i.toNat (by omega)
    omega
   ·have h7 := hb _ (getD_memI (d := 0) h1 (by omega))
    have h8 := pow_le (x := list.getD i.toNat 0) (m := 62) (by omega)
    rw [he] at h8
    omega
   ·omega
   refine ⟨((out.toNat ||| ((1 : Int) * 2 ^ ((list.getD i.toNat 0).toNat)).toNat : Nat) : Int), (i + 1), ?_⟩
   refine ⟨?_, ?_, rfl, rfl, rfl, rfl⟩
   ·refine ⟨?_, ?_, ?_⟩
    ·omega
    ·omega
    ·have e : (i + 1).toNat = i.toNat + 1 := by omega
     rw [one_pow, h3, Int.toNat_natCast, e]
     rfl
   (simp only [J3H]; omega)
  intro b2
  try simp only [nrmT] at b2
  rw [h3]
  unfold bagN
  rw [show i.toNat = list.length by omega]
theorem J56 (list : ZI) (hb : ∀ x ∈ list, 0 ≤ x ∧ x < 62) : PC Tryz.prog 180 [.sl (.ints list)] (.one (.d (.int .u64 ((bagN list : Nat) : Int)))) :=
  pc_wf @Tryz.call180 fun hw => pc_by (by kernel_rfl) Tryz.func180 @Tryz.call180 (by kernel_rfl) Jdh (JcV list) (by kernel_rfl) (Jcv list hb hw.1) (by kernel_rfl)
def J7c : List D → Orc := orcN [some .ints] fun ds => match ds with
  | [.sl (.ints list)] => some (.one (.d (.int .u64 ((bagN list : Nat) : Int))))
  | _ => none
def Jbh (f : FuncId) (ds : List D) : Orc := .no
def Jbk (b : Int) (x : Int) : Ann := .none
def J77 (b : Int) (x : Int) : Prop :=
  ((0 : Int) ≤ b ∧ (b : Int) ≤ 18446744073709551615) ∧ ((0 : Int) ≤ x) ∧ ((0 : Int) ≤ (b / 2 ^ x.toNat) ∧ ((b / 2 ^ x.toNat) : Int) ≤ 18446744073709551615) ∧ ((0 : Int) ≤ 1 ∧ (1 : Int) ≤ 18446744073709551615) ∧ ((((((b / 2 ^ x.toNat).toNat &&& 1 : Nat) : Int) == 1) = (b.toNat.testBit x.toNat)))
theorem JaL (b : Int) (x : Int) (hb : 0 ≤ b ∧ b ≤ 4611686018427387903) (hx : 0 ≤ x)  : J77 b x := by
  unfold J77
  refine ⟨?_, ?_, ?_, ?_, ?_⟩
  ·omega
  ·omega
  ·have h1 : 0 ≤ b / 2 ^ x.toNat := Int.ediv_nonneg hb.1 (Int.le_of_lt (Int.pow_pos (by omega)))
   have h2 : b / 2 ^ x.toNat ≤ b := Int.ediv_le_self _ hb.1
   omega
  ·omega
  have e : b = ((b.toNat : Nat) : Int) := by omega
  have h := shr_bit (n := b.toNat) (k := x.toNat)
  rw [← e] at h
  rw [h]
  cases b.toNat.testBit x.toNat <;> rfl
theorem J63 (b : Int) (x : Int) (hb : 0 ≤ b ∧ b ≤ 4611686018427387903) (hx : 0 ≤ x) : PC Tryz.prog 138 [.int .u64 b, .int .i64 x] (.one (.d (.bool (b.toNat.testBit x.toNat)))) :=
  pc_wf @Tryz.call138 fun _ => pc_by (by kernel_rfl) Tryz.func138 @Tryz.call138 (by kernel_rfl) Jbh (Jbk b x) (by kernel_rfl) (JaL b x hb hx) (by kernel_rfl)
def J5r : List D → Orc := orcN [none, none] fun ds => match ds with
  | [.int .u64 b, .int .i64 x] => some (.one (.d (.bool (b.toNat.testBit x.toNat))))
  | _ => none
def Je (Sets : ZR) (choice : ZI) (i : Nat) : Nat := foldTo (fun s k => s ||| bagN (Sets.getD (choice.getD k 0).toNat [])) 0 i
def J58 (Sets : ZR) (choice : ZI) (x : Nat) : Bool := choice.any fun c => (Sets.getD c.toNat []).contains (x : Int)
def J0Y (Size : Int) (Sets : ZR) (choice : ZI) : Bool := allTo (J58 Sets choice) Size.toNat
theorem J27 {xs : ZI} {lo hi : Int} (h : J3 xs lo hi = true) : ∀ x ∈ xs, lo ≤ x ∧ x ≤ hi := by
  intro x hx
  obtain ⟨k, hk, rfl⟩ := List.mem_iff_getElem.1 hx
  have := JV h k hk
  simp [hk] at this
  omega
theorem J1w {Size : Int} {Sets : ZR} {Costs : ZI} (h : J1 Size Sets Costs = true) {k : Nat} (hk : k < Sets.length) : ∀ x ∈ Sets.getD k [], 0 ≤ x ∧ x < 8 := by
  intro x hx
  have h1 := J27 (J4q h hk) x hx
  have h2 := Jd h
  omega
theorem J5e {Size : Int} {Sets : ZR} {Costs : ZI} (h : J1 Size Sets Costs = true) {k : Nat} (hk : k < Sets.length) : ∀ x ∈ Sets.getD k [], 0 ≤ x ∧ x < (Size.toNat : Int) := by
  intro x hx
  have h1 := J27 (J4q h hk) x hx
  have h2 := Jd h
  omega
theorem J4w {Size : Int} {Sets : ZR} {Costs choice : ZI} (h : J1 Size Sets Costs = true) (hc : J3 choice 0 ((Sets.length : Int) - 1) = true) {x : Nat} : ∀ k, k ≤ choice.length →
    ((Je Sets choice k).testBit x = true ↔ ∃ j, j < k ∧ (x : Int) ∈ Sets.getD (choice.getD j 0).toNat [])
  | 0, _ => by simp [Je, foldTo]
  | k + 1, hk => by
    have e : Je Sets choice (k + 1) = Je Sets choice k ||| bagN (Sets.getD (choice.getD k 0).toNat []) := rfl
    have h1 := JV hc k (by omega)
    rw [e, Nat.testBit_or, Bool.or_eq_true, J4w h hc k (by omega), bagN_bit (fun y hy => (J1w h (k := (choice.getD k 0).toNat) (by omega) y hy).1), List.contains_iff_mem]
    constructor
    · rintro (⟨j, h1, h2⟩ | h)
      · exact ⟨j, by omega, h2⟩
      · exact ⟨k, by omega, h⟩
    rintro ⟨j, h1, h2⟩
    by_cases e : j = k
    · subst e; exact .inr h2
    exact .inl ⟨j, by omega, h2⟩
theorem J53 {Sets : ZR} {choice : ZI} {x : Nat} : J58 Sets choice x = true ↔ ∃ j, j < choice.length ∧ (x : Int) ∈ Sets.getD (choice.getD j 0).toNat [] := by
  unfold J58
  rw [List.any_eq_true]
  constructor
  · rintro ⟨c, hc, hx⟩
    rw [List.contains_iff_mem] at hx
    obtain ⟨j, hj, rfl⟩ := List.mem_iff_getElem.1 hc
    exact ⟨j, hj, by simpa [hj] using hx⟩
  rintro ⟨j, hj, hx⟩
  exact ⟨_, getD_mem (d := 0) hj, by rw [List.contains_iff_mem]; exact hx⟩
theorem Jb1 {Size : Int} {Sets : ZR} {Costs choice : ZI} (h : J1 Size Sets Costs = true) (hc : J3 choice 0 ((Sets.length : Int) - 1) = true) (x : Nat) : (Je Sets choice choice.length).testBit x = J58 Sets choice x := by
  rw [Bool.eq_iff_iff, J4w h hc _ (Nat.le_refl _), J53]
theorem J2E {Size : Int} {Sets : ZR} {Costs choice : ZI} (h : J1 Size Sets Costs = true) (hc : J3 choice 0 ((Sets.length : Int) - 1) = true) : ∀ k, k ≤ choice.length → Je Sets choice k < 2 ^ Size.toNat
  | 0, _ => Nat.two_pow_pos _
  | k + 1, hk => by
    have e : Je Sets choice (k + 1) = Je Sets choice k ||| bagN (Sets.getD (choice.getD k 0).toNat []) := rfl
    rw [e]
    have h1 := JV hc k (by omega)
    exact Nat.or_lt_two_pow (J2E h hc k (by omega)) (bagN_lt (m := Size.toNat) fun y hy => J5e h (k := (choice.getD k 0).toNat) (by omega) y hy)
theorem J57 {n : Nat} (h : n ≤ 8) : (2 : Nat) ^ n ≤ 256 := Nat.le_trans (Nat.pow_le_pow_right (by omega) h) (by decide)
abbrev J0z (Size : Int) (Sets : ZR) (Costs : ZI) (choice : ZI) (out : Int) (i : Int) : Prop := (0 ≤ i) ∧ (i ≤ (choice.length : Int)) ∧ (out = ((Je Sets choice i.toNat : Nat) : Int))
abbrev J0p (Size : Int) (Sets : ZR) (Costs : ZI) (choice : ZI) (out : Int) (i : Int) : Nat := (choice.length - i).toNat
def J6w (f : FuncId) (ds : List D) : Orc := bif Nat.beq f 180 then J7c ds else .no
def J69 (Size : Int) (Sets : ZR) (Costs : ZI) (choice : ZI) : Ann := .two (.none) (.two (.none) (.two (.two (.none) (.loop (cut2 (fun (out : Int) (i : Int) => J0z Size Sets Costs choice out i) (fun (out : Int) (i : Int) => [(2, .ptr 2 0), (5, .d true (.int .u64 out)), (8, .d false (.sl (.ints choice))), (9, .d true (.int .i64 (choice.length : Int))), (10, .d true (.int .i64 i))]) (fun (out : Int) (i : Int) => [(2, .box 64 [.d false (.int .i64 Size), .d false (.sl (.rows Sets)), .d false (.sl (.ints Costs))])])) (fun g => J0p Size Sets Costs choice g.1 g.2) (fun _ => .none))) (.none)))
def J3X (Size : Int) (Sets : ZR) (Costs : ZI) (choice : ZI) : Prop :=
  ((∃ out' : Int, ∃ i' : Int, (J0z Size Sets Costs choice out' i') ∧ ((0 : Int) = out') ∧ (choice = choice) ∧ ((choice.length : Int) = (choice.length : Int)) ∧ ((0 : Int) = i') ∧ (Size = Size) ∧ (Sets = Sets) ∧ (Costs = Costs)) ∧ (∀ out : Int, ∀ i : Int, (J0z Size Sets Costs choice out i) → (((decide (i < (choice.length : Int))) = true → ((0 : Int) ≤ i) ∧ ((i : Int) < choice.length) ∧ (i.toNat < choice.length) ∧ ((0 : Int) ≤ (choice.getD i.toNat 0)) ∧ (((choice.getD i.toNat 0) : Int) < Sets.length) ∧ ((choice.getD i.toNat 0).toNat < Sets.length) ∧ (PC Tryz.prog 180 [.sl (.ints (Sets.getD ((choice.getD i.toNat 0).toNat) []))] (.one (.d (.int .u64 ((bagN (Sets.getD ((choice.getD i.toNat 0).toNat) []) : Nat) : Int))))) ∧ ((0 : Int) ≤ out ∧ (out : Int) ≤ 18446744073709551615) ∧ ((0 : Int) ≤ ((bagN (Sets.getD ((choice.getD i.toNat 0).toNat) []) : Nat) : Int) ∧ (((bagN (Sets.getD ((choice.getD i.toNat 0).toNat) []) : Nat) : Int) : Int) ≤ 18446744073709551615) ∧ (I6 (i + 1)) ∧ (∃ out' : Int, ∃ i' : Int, (J0z Size Sets Costs choice out' i') ∧ (J0p Size Sets Costs choice out' i' < J0p Size Sets Costs choice out i) ∧ (((out.toNat ||| ((bagN (Sets.getD ((choice.getD i.toNat 0).toNat) []) : Nat) : Int).toNat : Nat) : Int) = out') ∧ (choice = choice) ∧ ((choice.length : Int) = (choice.length : Int)) ∧ ((i + 1) = i') ∧ (Size = Size) ∧ (Sets = Sets) ∧ (Costs = Costs))) ∧ ((decide (i < (choice.length : Int))) = false → ((out = ((Je Sets choice choice.length : Nat) : Int)))))))
theorem J5x (Size : Int) (Sets : ZR) (Costs : ZI) (choice : ZI) (hg : J1 Size Sets Costs = true) (hc : J3 choice 0 ((Sets.length : Int) - 1) = true) (w_Sets : (Sets.length : Int) ≤ 9223372036854775807) (v_Sets : ∀ x9 ∈ Sets, (x9.length : Int) ≤ 9223372036854775807) (w_Costs : (Costs.length : Int) ≤ 9223372036854775807) (w_choice : (choice.length : Int) ≤ 9223372036854775807) : J3X Size Sets Costs choice := by
  unfold J3X
  have gf := Jd hg
  have cl := J26 hc (by omega)
  have ca := fun k => JV hc k
  have lt := J2E hg hc
  have p8 := J57 (n := Size.toNat) (by omega)
  refine ⟨?_, ?_⟩
  ·refine ⟨0, 0, ?_⟩
   refine ⟨?_, rfl, rfl, rfl, rfl, rfl, rfl, rfl⟩
   ·refine ⟨?_, ?_, ?_⟩
    ·omega
    ·omega
    ·rfl
  intro out i hJ
  obtain ⟨h1, h2, h3⟩ := hJ
  refine ⟨?_, ?_⟩
  ·intro b1
   try simp only [nrmT] at b1
   refine ⟨?_, ?_, ?_, ?_, ?_, ?_, ?_, ?_, ?_, ?_, ?_⟩
   ·omega
   ·omega
   ·omega
   ·have := ca i.toNat (by omega)
    omega
   ·have := ca i.toNat (by omega)
    omega
   ·have := ca i.toNat (by omega)
    omega
   ·refine J56 (Sets.getD ((choice.getD i.toNat 0).toNat) []) ?_
    ·have h7 := ca i.toNat (by omega)
     intro x hx
     have := J1w hg (k := (choice.getD i.toNat 0).toNat) (by omega) x hx
     omega
   ·have := lt i.toNat (by omega)
    omega
   ·have h7 := ca i.toNat (by omega)
    have h8 := bagN_lt (m := 8) (list := Sets.getD (choice.getD i.toNat 0).toNat []) fun y hy => J1w hg (by omega) y hy
    have he : (2 : Nat) ^ 8 = 256 := by decide
    omega
   ·omega
   refine ⟨((out.toNat ||| ((bagN (Sets.getD ((choice.getD i.toNat 0).toNat) []) : Nat) : Int).toNat : Nat) : Int), (i + 1), ?_⟩
   refine ⟨?_, ?_, rfl, rfl, rfl, rfl, rfl, rfl, rfl⟩
   ·refine ⟨?_, ?_, ?_⟩
    ·omega
    ·omega
    ·have e : (i + 1).toNat = i.toNat + 1 := by omega
     rw [h3, Int.toNat_natCast, Int.toNat_natCast, e]
     rfl
   (simp only [J0p]; omega)
  intro b2
  try simp only [nrmT] at b2
  rw [h3]
  rw [show i.toNat = choice.length by omega]
theorem J1D (Size : Int) (Sets : ZR) (Costs : ZI) (choice : ZI) (hg : J1 Size Sets Costs = true) (hc : J3 choice 0 ((Sets.length : Int) - 1) = true) : PC Tryz.prog 176 [.agg [.int .i64 Size, .sl (.rows Sets), .sl (.ints Costs)], .sl (.ints choice)] (.one (.d (.int .u64 ((Je Sets choice choice.length : Nat) : Int)))) :=
  pc_wf @Tryz.call176 fun hw => pc_by (by kernel_rfl) Tryz.func176 @Tryz.call176 (by kernel_rfl) J6w (J69 Size Sets Costs choice) (by kernel_rfl) (J5x Size Sets Costs choice hg hc hw.1.2.1.1 hw.1.2.1.2 hw.1.2.2.1 hw.2.1) (by kernel_rfl)
def J1l : List D → Orc := orcN [none, some .ints] fun ds => match ds with
  | [.agg [.int .i64 Size, .sl (.rows Sets), .sl (.ints Costs)], .sl (.ints choice)] => some (.one (.d (.int .u64 ((Je Sets choice choice.length : Nat) : Int))))
  | _ => none
def J9d (f : FuncId) (ds : List D) : Orc := .no
def J8P (Size : Int) (Sets : ZR) (Costs : ZI) : Ann := .none
def J4S (Size : Int) (Sets : ZR) (Costs : ZI) : Prop :=
  ((0 : Int) ≤ 1) ∧ ((0 : Int) ≤ Size) ∧ ((0 : Int) ≤ ((1 : Int) * 2 ^ Size.toNat) ∧ (((1 : Int) * 2 ^ Size.toNat) : Int) ≤ 18446744073709551615) ∧ (0 ≤ (((1 : Int) * 2 ^ Size.toNat) - 1) ∧ (((1 : Int) * 2 ^ Size.toNat) - 1) ≤ 18446744073709551615) ∧ (((((1 : Int) * 2 ^ Size.toNat) - 1) = ((2 ^ Size.toNat - 1 : Nat) : Int)))
theorem J8y (Size : Int) (Sets : ZR) (Costs : ZI) (hg : 0 ≤ Size ∧ Size ≤ 8) (w_Sets : (Sets.length : Int) ≤ 9223372036854775807) (v_Sets : ∀ x9 ∈ Sets, (x9.length : Int) ≤ 9223372036854775807) (w_Costs : (Costs.length : Int) ≤ 9223372036854775807) : J4S Size Sets Costs := by
  unfold J4S
  have p8 := J57 (n := Size.toNat) (by omega)
  have h7 := pow_le (x := Size) (m := 8) (by omega)
  have h8 := one_pow (x := Size)
  have h9 := Nat.two_pow_pos Size.toNat
  have he : (2 : Nat) ^ 8 = 256 := by decide
  refine ⟨?_, ?_, ?_, ?_, ?_⟩
  ·omega
  ·omega
  ·omega
  ·omega
  omega
theorem J8x (Size : Int) (Sets : ZR) (Costs : ZI) (hg : 0 ≤ Size ∧ Size ≤ 8) : PC Tryz.prog 223 [.agg [.int .i64 Size, .sl (.rows Sets), .sl (.ints Costs)]] (.one (.d (.int .u64 ((2 ^ Size.toNat - 1 : Nat) : Int)))) :=
  pc_wf @Tryz.call223 fun hw => pc_by (by kernel_rfl) Tryz.func223 @Tryz.call223 (by kernel_rfl) J9d (J8P Size Sets Costs) (by kernel_rfl) (J8y Size Sets Costs hg hw.1.2.1.1 hw.1.2.1.2 hw.1.2.2.1) (by kernel_rfl)
def J7A : List D → Orc := orcN [none] fun ds => match ds with
  | [.agg [.int .i64 Size, .sl (.rows Sets), .sl (.ints Costs)]] => some (.one (.d (.int .u64 ((2 ^ Size.toNat - 1 : Nat) : Int))))
  | _ => none
def J6p (f : FuncId) (ds : List D) : Orc := bif Nat.beq f 176 then J1l ds else bif Nat.beq f 223 then J7A ds else .no
def J66 (Size : Int) (Sets : ZR) (Costs : ZI) (choice : ZI) : Ann := .none
def J3R (Size : Int) (Sets : ZR) (Costs : ZI) (choice : ZI) : Prop :=
  (true = true) ∧ (PC Tryz.prog 176 [.agg [.int .i64 Size, .sl (.rows Sets), .sl (.ints Costs)], .sl (.ints choice)] (.one (.d (.int .u64 ((Je Sets choice choice.length : Nat) : Int))))) ∧ (PC Tryz.prog 223 [.agg [.int .i64 Size, .sl (.rows Sets), .sl (.ints Costs)]] (.one (.d (.int .u64 ((2 ^ Size.toNat - 1 : Nat) : Int))))) ∧ (((((Je Sets choice choice.length : Nat) : Int) == ((2 ^ Size.toNat - 1 : Nat) : Int)) = (J0Y Size Sets choice)))
theorem J5G (Size : Int) (Sets : ZR) (Costs : ZI) (choice : ZI) (hg : J1 Size Sets Costs = true) (hc : J3 choice 0 ((Sets.length : Int) - 1) = true) (w_Sets : (Sets.length : Int) ≤ 9223372036854775807) (v_Sets : ∀ x9 ∈ Sets, (x9.length : Int) ≤ 9223372036854775807) (w_Costs : (Costs.length : Int) ≤ 9223372036854775807) (w_choice : (choice.length : Int) ≤ 9223372036854775807) : J3R Size Sets Costs choice := by
  unfold J3R
  have gf := Jd hg
  have cl := J26 hc (by omega)
  have ca := fun k => JV hc k
  have lt := J2E hg hc
  have p8 := J57 (n := Size.toNat) (by omega)
  refine ⟨rfl, ?_, ?_, ?_⟩
  ·refine J1D Size Sets Costs choice ?_ ?_
   ·omega
   ·omega
  ·refine J8x Size Sets Costs ?_
   ·omega
  have h1 := J2E hg hc choice.length (Nat.le_refl _)
  have h2 := all_bits h1
  unfold J0Y
  rw [← allTo_congr (p := fun x => (Je Sets choice choice.length).testBit x) (q := J58 Sets choice) (fun x _ => Jb1 hg hc x), Bool.eq_iff_iff, ← h2]
  simp only [beq_iff_eq]
  omega
theorem J5P (Size : Int) (Sets : ZR) (Costs : ZI) (choice : ZI) (hg : J1 Size Sets Costs = true) (hc : J3 choice 0 ((Sets.length : Int) - 1) = true) : PC Tryz.prog 185 [.agg [.int .i64 Size, .sl (.rows Sets), .sl (.ints Costs)], .sl (.ints choice)] (.one (.d (.bool (J0Y Size Sets choice)))) :=
  pc_wf @Tryz.call185 fun hw => pc_by (by kernel_rfl) Tryz.func185 @Tryz.call185 (by kernel_rfl) J6p (J66 Size Sets Costs choice) (by kernel_rfl) (J5G Size Sets Costs choice hg hc hw.1.2.1.1 hw.1.2.1.2 hw.1.2.2.1 hw.2.1) (by kernel_rfl)
def J55 : List D → Orc := orcN [none, some .ints] fun ds => match ds with
  | [.agg [.int .i64 Size, .sl (.rows Sets), .sl (.ints Costs)], .sl (.ints choice)] => some (.one (.d (.bool (J0Y Size Sets choice))))
  | _ => none
def Jbt (f : FuncId) (ds : List D) : Orc := bif Nat.beq f 182 then J4X ds else bif Nat.beq f 185 then J55 ds else .no
def Jbe (Size : Int) (Sets : ZR) (Costs : ZI) (choice : ZI) : Ann := .none
def J7a (Size : Int) (Sets : ZR) (Costs : ZI) (choice : ZI) : Prop :=
  (PC Tryz.prog 182 [.agg [.int .i64 Size, .sl (.rows Sets), .sl (.ints Costs)], .sl (.ints choice)] (.one (.d (.bool (J1 Size Sets Costs && J3 choice 0 ((Sets.length : Int) - 1)))))) ∧ (((!(J1 Size Sets Costs && J3 choice 0 ((Sets.length : Int) - 1))) = true → ((false = ((J1 Size Sets Costs && J3 choice 0 ((Sets.length : Int) - 1)) && J0Y Size Sets choice)) ∧ (false = (J1 Size Sets Costs && J3 choice 0 ((Sets.length : Int) - 1))))) ∧ ((!(J1 Size Sets Costs && J3 choice 0 ((Sets.length : Int) - 1))) = false → (PC Tryz.prog 185 [.agg [.int .i64 Size, .sl (.rows Sets), .sl (.ints Costs)], .sl (.ints choice)] (.one (.d (.bool (J0Y Size Sets choice))))) ∧ (((J0Y Size Sets choice) = ((J1 Size Sets Costs && J3 choice 0 ((Sets.length : Int) - 1)) && J0Y Size Sets choice)) ∧ (true = (J1 Size Sets Costs && J3 choice 0 ((Sets.length : Int) - 1))))))
theorem JaO (Size : Int) (Sets : ZR) (Costs : ZI) (choice : ZI)  (w_Sets : (Sets.length : Int) ≤ 9223372036854775807) (v_Sets : ∀ x9 ∈ Sets, (x9.length : Int) ≤ 9223372036854775807) (w_Costs : (Costs.length : Int) ≤ 9223372036854775807) (w_choice : (choice.length : Int) ≤ 9223372036854775807) : J7a Size Sets Costs choice := by
  unfold J7a
  refine ⟨J5p Size Sets Costs choice, ?_, ?_⟩
  ·intro b1
   refine ⟨?_, ?_⟩
   ·have hq : (J1 Size Sets Costs && J3 choice 0 ((Sets.length : Int) - 1)) = false := by
      revert b1; cases J1 Size Sets Costs <;> cases J3 choice 0 ((Sets.length : Int) - 1) <;> simp
    rw [hq]; rfl
   have hq : (J1 Size Sets Costs && J3 choice 0 ((Sets.length : Int) - 1)) = false := by
     revert b1; cases J1 Size Sets Costs <;> cases J3 choice 0 ((Sets.length : Int) - 1) <;> simp
   exact hq.symm
  intro b2
  refine ⟨?_, ?_, ?_⟩
  ·refine J5P Size Sets Costs choice ?_ ?_
   ·have hq : J1 Size Sets Costs = true ∧ J3 choice 0 ((Sets.length : Int) - 1) = true := by
      revert b2; cases J1 Size Sets Costs <;> cases J3 choice 0 ((Sets.length : Int) - 1) <;> simp
    exact hq.1
   ·have hq : J1 Size Sets Costs = true ∧ J3 choice 0 ((Sets.length : Int) - 1) = true := by
      revert b2; cases J1 Size Sets Costs <;> cases J3 choice 0 ((Sets.length : Int) - 1) <;> simp
    exact hq.2
  ·have hq : J1 Size Sets Costs = true ∧ J3 choice 0 ((Sets.length : Int) - 1) = true := by
     revert b2; cases J1 Size Sets Costs <;> cases J3 choice 0 ((Sets.length : Int) - 1) <;> simp
   rw [hq.1, hq.2]; rfl
  have hq : J1 Size Sets Costs = true ∧ J3 choice 0 ((Sets.length : Int) - 1) = true := by
    revert b2; cases J1 Size Sets Costs <;> cases J3 choice 0 ((Sets.length : Int) - 1) <;> simp
  rw [hq.1, hq.2]; rfl
theorem JaZ (Size : Int) (Sets : ZR) (Costs : ZI) (choice : ZI)  : PC Tryz.prog 90 [.agg [.int .i64 Size, .sl (.rows Sets), .sl (.ints Costs)], .sl (.ints choice)] (.tup [.d (.bool ((J1 Size Sets Costs && J3 choice 0 ((Sets.length : Int) - 1)) && J0Y Size Sets choice)), .d (.bool (J1 Size Sets Costs && J3 choice 0 ((Sets.length : Int) - 1)))]) :=
  pc_wf @Tryz.call90 fun hw => pc_by (by kernel_rfl) Tryz.func90 @Tryz.call90 (by kernel_rfl) Jbt (Jbe Size Sets Costs choice) (by kernel_rfl) (JaO Size Sets Costs choice hw.1.2.1.1 hw.1.2.1.2 hw.1.2.2.1 hw.2.1) (by kernel_rfl)
def Ja3 : List D → Orc := orcN [none, some .ints] fun ds => match ds with
  | [.agg [.int .i64 Size, .sl (.rows Sets), .sl (.ints Costs)], .sl (.ints choice)] => some (.tup [.d (.bool ((J1 Size Sets Costs && J3 choice 0 ((Sets.length : Int) - 1)) && J0Y Size Sets choice)), .d (.bool (J1 Size Sets Costs && J3 choice 0 ((Sets.length : Int) - 1)))])
  | _ => none
abbrev J3P (l : ZI) (n : Int) (k : Int) : Prop := (0 ≤ k) ∧ (k ≤ (l.length : Int)) ∧ (∀ j, j < k.toNat → l.getD j 0 < n)
abbrev J3B (l : ZI) (n : Int) (k : Int) : Nat := (l.length - k).toNat
def Jde (f : FuncId) (ds : List D) : Orc := .no
def Jdc (l : ZI) (n : Int) : Ann := .two (.none) (.two (.none) (.two (.loop (cut1 (fun (k : Int) => J3P l n k) (fun (k : Int) => [(0, .d true (.sl (.ints l))), (1, .d false (.int .i64 n)), (5, .d true (.int .i64 k))]) (fun (k : Int) => [])) (fun g => J3B l n g) (fun _ => .none)) (.two (.none) (.two (.reg [(6, .frz)]) (.none)))))
def J9n (l : ZI) (n : Int) : Prop :=
  ((∃ k' : Int, (J3P l n k') ∧ (l = l) ∧ (n = n) ∧ ((0 : Int) = k')) ∧ (∀ k : Int, (J3P l n k) → ((decide (k < (l.length : Int))) = true → (decide (k < (l.length : Int))) = true) ∧ ((decide (k < (l.length : Int))) = true → (decide (k < (l.length : Int))) = true) ∧ (((decide (k < (l.length : Int))) = true → (0 : Int) ≤ k)) ∧ (((decide (k < (l.length : Int))) = true → (k : Int) < l.length)) ∧ ((decide (k < (l.length : Int))) = true → (decide (k < (l.length : Int))) = true) ∧ (((decide (k < (l.length : Int))) = true → k.toNat < l.length)) ∧ ((decide (k < (l.length : Int))) = true → (decide (k < (l.length : Int))) = true) ∧ ((decide (k < (l.length : Int))) = true → (decide (k < (l.length : Int))) = true) ∧ (true = true) ∧ (((decide (k < (l.length : Int))) = true → (decide (k < (l.length : Int))) = true)) ∧ (((decide (k < (l.length : Int))) = false → true = true)) ∧ (((cond (decide (k < (l.length : Int))) (decide ((l.getD k.toNat 0) < n)) false) = true → (I6 (k + 1)) ∧ (∃ k' : Int, (J3P l n k') ∧ (J3B l n k' < J3B l n k) ∧ (l = l) ∧ (n = n) ∧ ((k + 1) = k'))) ∧ ((cond (decide (k < (l.length : Int))) (decide ((l.getD k.toNat 0) < n)) false) = false → ((decide (k < (l.length : Int))) = true → (decide (k < (l.length : Int))) = true) ∧ ((decide (k < (l.length : Int))) = true → (decide (k < (l.length : Int))) = true) ∧ (((decide (k < (l.length : Int))) = true → (0 : Int) ≤ k)) ∧ (((decide (k < (l.length : Int))) = true → (k : Int) < l.length)) ∧ ((decide (k < (l.length : Int))) = true → (decide (k < (l.length : Int))) = true) ∧ (((decide (k < (l.length : Int))) = true → k.toNat < l.length)) ∧ ((decide (k < (l.length : Int))) = true → (decide (k < (l.length : Int))) = true) ∧ ((decide (k < (l.length : Int))) = true → (decide (k < (l.length : Int))) = true) ∧ (true = true) ∧ (((decide (k < (l.length : Int))) = true → (decide (k < (l.length : Int))) = true)) ∧ (((decide (k < (l.length : Int))) = false → true = true)) ∧ (((cond (decide (k < (l.length : Int))) ((l.getD k.toNat 0) == n) false) = true → (((l : ZI) = (putL l n)))) ∧ ((cond (decide (k < (l.length : Int))) ((l.getD k.toNat 0) == n) false) = false → (true = true) ∧ ((0 : Int) ≤ k) ∧ ((k : Int) ≤ l.length) ∧ ((0 : Nat) = 0) ∧ (True) ∧ ((0 + ((l.take k.toNat).drop 0).length) * 8 ≤ 140737488355328) ∧ ((0 + ((l.take k.toNat).drop 0).length) = ([] ++ ((l.take k.toNat).drop 0)).length) ∧ (True) ∧ ((([] ++ ((l.take k.toNat).drop 0)).length + 1) * 8 ≤ 140737488355328) ∧ ((0 : Int) ≤ k) ∧ ((k : Int) ≤ l.length) ∧ (((0 + ((l.take k.toNat).drop 0).length) + 1) = (([] ++ ((l.take k.toNat).drop 0)) ++ [n]).length) ∧ (True) ∧ (((([] ++ ((l.take k.toNat).drop 0)) ++ [n]).length + ((l.take l.length).drop k.toNat).length) * 8 ≤ 140737488355328) ∧ (((((0 + ((l.take k.toNat).drop 0).length) + 1) + ((l.take l.length).drop k.toNat).length) = ((([] ++ ((l.take k.toNat).drop 0)) ++ [n]) ++ ((l.take l.length).drop k.toNat)).length) ∧ ((((([] ++ ((l.take k.toNat).drop 0)) ++ [n]) ++ ((l.take l.length).drop k.toNat)) : ZI) = (putL l n)))))))))
theorem Jcf (l : ZI) (n : Int) (hl : l.length ≤ 1048576) (w_l : (l.length : Int) ≤ 9223372036854775807) : J9n l n := by
  unfold J9n
  refine ⟨?_, ?_⟩
  ·refine ⟨0, ?_⟩
   refine ⟨?_, rfl, rfl, rfl⟩
   ·refine ⟨?_, ?_, ?_⟩
    ·omega
    ·omega
    ·omega
  intro k hJ
  obtain ⟨h1, h2, h3⟩ := hJ
  refine ⟨id, id, ?_, ?_, id, ?_, id, id, rfl, id, fun _ => rfl, ?_, ?_⟩
  ·omega
  ·(intro hg; simp only [nrmT] at hg; omega)
  ·(intro hg; simp only [nrmT] at hg; omega)
  ·intro b1
   refine ⟨?_, ?_⟩
   ·have h5 : k < (l.length : Int) ∧ l.getD k.toNat 0 < n := by
      revert b1; by_cases h : k < (l.length : Int)
      · rw [decide_eq_true h]; intro g; exact ⟨h, by simpa using g⟩
      rw [decide_eq_false h]; intro g; cases g
    omega
   refine ⟨(k + 1), ?_⟩
   refine ⟨?_, ?_, rfl, rfl, rfl⟩
   ·refine ⟨?_, ?_, ?_⟩
    ·omega
    ·have h5 : k < (l.length : Int) ∧ l.getD k.toNat 0 < n := by
       revert b1; by_cases h : k < (l.length : Int)
       · rw [decide_eq_true h]; intro g; exact ⟨h, by simpa using g⟩
       rw [decide_eq_false h]; intro g; cases g
     omega
    ·have h5 : k < (l.length : Int) ∧ l.getD k.toNat 0 < n := by
       revert b1; by_cases h : k < (l.length : Int)
       · rw [decide_eq_true h]; intro g; exact ⟨h, by simpa using g⟩
       rw [decide_eq_false h]; intro g; cases g
     intro j hj
     by_cases e : j = k.toNat
     · rw [e]; exact h5.2
     exact h3 j (by omega)
   have h5 : k < (l.length : Int) ∧ l.getD k.toNat 0 < n := by
     revert b1; by_cases h : k < (l.length : Int)
     · rw [decide_eq_true h]; intro g; exact ⟨h, by simpa using g⟩
     rw [decide_eq_false h]; intro g; cases g
   (simp only [J3B]; omega)
  intro b2
  refine ⟨id, id, ?_, ?_, id, ?_, id, id, rfl, id, fun _ => rfl, ?_, ?_⟩
  ·omega
  ·(intro hg; simp only [nrmT] at hg; omega)
  ·(intro hg; simp only [nrmT] at hg; omega)
  ·intro b3
   have h6 : k.toNat < l.length → ¬ l.getD k.toNat 0 < n := by
     intro g1 g2
     rw [decide_eq_true (show k < (l.length : Int) by omega), decide_eq_true g2] at b2
     cases b2
   have h7 : k < (l.length : Int) ∧ l.getD k.toNat 0 = n := by
     revert b3; by_cases h : k < (l.length : Int)
     · rw [decide_eq_true h]; intro g; exact ⟨h, by simpa using g⟩
     rw [decide_eq_false h]; intro g; cases g
   rw [putL_at l n k.toNat (by omega) h3 h6, if_pos ⟨by omega, h7.2⟩]
  intro b4
  refine ⟨rfl, ?_, ?_, rfl, trivial, ?_, ?_, trivial, ?_, ?_, ?_, ?_, trivial, ?_, ?_, ?_⟩
  ·omega
  ·omega
  ·(simp only [List.length_append, List.length_take, List.length_drop, List.length_cons, List.length_nil]; omega)
  ·(simp only [List.length_append, List.length_take, List.length_drop, List.length_cons, List.length_nil]; done)
  ·(simp only [List.length_append, List.length_take, List.length_drop, List.length_cons, List.length_nil]; omega)
  ·omega
  ·omega
  ·(simp only [List.length_append, List.length_take, List.length_drop, List.length_cons, List.length_nil]; done)
  ·(simp only [List.length_append, List.length_take, List.length_drop, List.length_cons, List.length_nil]; omega)
  ·(simp only [List.length_append, List.length_take, List.length_drop, List.length_cons, List.length_nil]; done)
  have h6 : k.toNat < l.length → ¬ l.getD k.toNat 0 < n := by
    intro g1 g2
    rw [decide_eq_true (show k < (l.length : Int) by omega), decide_eq_true g2] at b2
    cases b2
  have h7 : ¬ (k.toNat < l.length ∧ l.getD k.toNat 0 = n) := by
    rintro ⟨g1, g2⟩
    rw [decide_eq_true (show k < (l.length : Int) by omega), g2] at b4
    simp at b4
  rw [putL_at l n k.toNat (by omega) h3 h6, if_neg h7]
  simp
theorem J7V (l : ZI) (n : Int) (hl : l.length ≤ 1048576) : PCs Tryz.prog 140 [.sl (.ints l), .int .i64 n] 0 (.sl (.ints (putL l n))) :=
  pcs_wf @Tryz.call140 fun hw => pcs_by (by kernel_rfl) Tryz.func140 @Tryz.call140 (by kernel_rfl) Jde (Jdc l n) (by kernel_rfl) (Jcf l n hl hw.1) (by kernel_rfl)
def J75 : List D → Orc := orcS 0 fun ds => match ds with
  | [.sl (.ints l), .int .i64 n] => some (.sl (.ints (putL l n)))
  | _ => none
theorem Js {α : Type} {xs : List α} {k : Nat} {d : α} (h : k < xs.length) : xs.getD k d = xs[k] := by simp [h]
def J1U (l set : ZI) (k : Nat) : ZI := foldTo (fun l j => putL l (set.getD j 0)) l k
def Jl (Sets : ZR) (choice : ZI) (i : Nat) : ZI := foldTo (fun l k => J1U l (Sets.getD (choice.getD k 0).toNat []) (Sets.getD (choice.getD k 0).toNat []).length) [] i
theorem J8q {l set : ZI} {y : Int} : ∀ k, k ≤ set.length → (y ∈ J1U l set k ↔ y ∈ l ∨ ∃ j, j < k ∧ set.getD j 0 = y)
  | 0, _ => by simp [J1U, foldTo]
  | k + 1, hk => by
    have e : J1U l set (k + 1) = putL (J1U l set k) (set.getD k 0) := rfl
    rw [e, mem_putL, J8q k (by omega)]
    constructor
    · rintro (h | h | ⟨j, h1, h2⟩)
      · exact .inr ⟨k, by omega, h.symm⟩
      · exact .inl h
      · exact .inr ⟨j, by omega, h2⟩
    rintro (h | ⟨j, h1, h2⟩)
    · exact .inr (.inl h)
    · by_cases e : j = k
      · subst e; exact .inl h2.symm
      · exact .inr (.inr ⟨j, by omega, h2⟩)
theorem J8L {l set : ZI} (h : Asc l) : ∀ k, Asc (J1U l set k)
  | 0 => h
  | k + 1 => asc_putL (J8L h k)
theorem J2M {Sets : ZR} {choice : ZI} {y : Int} : ∀ i, y ∈ Jl Sets choice i ↔ ∃ j, j < i ∧ y ∈ Sets.getD (choice.getD j 0).toNat []
  | 0 => by simp [Jl, foldTo]
  | i + 1 => by
    have e : Jl Sets choice (i + 1) = J1U (Jl Sets choice i) (Sets.getD (choice.getD i 0).toNat []) (Sets.getD (choice.getD i 0).toNat []).length := rfl
    rw [e, J8q _ (Nat.le_refl _), J2M i]
    constructor
    · rintro (⟨j, h1, h2⟩ | ⟨j, h1, h2⟩)
      · exact ⟨j, by omega, h2⟩
      · exact ⟨i, by omega, by rw [← h2]; exact getD_mem h1⟩
    rintro ⟨j, h1, h2⟩
    by_cases e : j = i
    · subst e
      obtain ⟨k, hk, h3⟩ := List.mem_iff_getElem.1 h2
      exact .inr ⟨k, hk, by rw [← h3]; exact Js hk⟩
    exact .inl ⟨j, by omega, h2⟩
theorem J1i {Sets : ZR} {choice : ZI} : ∀ i, Asc (Jl Sets choice i)
  | 0 => List.Pairwise.nil
  | i + 1 => J8L (J1i i) _
theorem JaU {Size : Int} {Sets : ZR} {Costs choice : ZI} (h : J1 Size Sets Costs = true) (hc : J3 choice 0 ((Sets.length : Int) - 1) = true) : Jl Sets choice choice.length = members (J58 Sets choice) Size.toNat := by
  refine asc_ext (J1i _) (asc_members _ _) fun x => ?_
  rw [J2M, mem_members]
  constructor
  · rintro ⟨j, h1, h2⟩
    have h3 := JV hc j h1
    have h4 := J5e h (k := (choice.getD j 0).toNat) (by omega) x h2
    refine ⟨h4.1, h4.2, J53.2 ⟨j, h1, ?_⟩⟩
    rwa [show ((x.toNat : Nat) : Int) = x by omega]
  rintro ⟨h1, h2, h3⟩
  obtain ⟨j, h4, h5⟩ := J53.1 h3
  exact ⟨j, h4, by rwa [show ((x.toNat : Nat) : Int) = x by omega] at h5⟩
abbrev J1I (Size : Int) (Sets : ZR) (Costs : ZI) (choice : ZI) (out : ZI) (i : Int) : Prop := (0 ≤ i) ∧ (i ≤ (choice.length : Int)) ∧ (out = Jl Sets choice i.toNat) ∧ ((out.length : Int) ≤ 8 * i)
abbrev J1M (Size : Int) (Sets : ZR) (Costs : ZI) (choice : ZI) (out : ZI) (i : Int) : Nat := (choice.length - i).toNat
abbrev J1K (Size : Int) (Sets : ZR) (Costs : ZI) (choice : ZI) (out : ZI) (i : Int) (out1 : ZI) (k : Int) : Prop := (0 ≤ k) ∧ (k ≤ ((Sets.getD (choice.getD i.toNat 0).toNat []).length : Int)) ∧ (out1 = J1U out (Sets.getD (choice.getD i.toNat 0).toNat []) k.toNat) ∧ ((out1.length : Int) ≤ 8 * i + k)
abbrev J1J (Size : Int) (Sets : ZR) (Costs : ZI) (choice : ZI) (out : ZI) (i : Int) (out1 : ZI) (k : Int) : Nat := ((Sets.getD (choice.getD i.toNat 0).toNat []).length - k).toNat
def J9M (f : FuncId) (ds : List D) : Orc := bif Nat.beq f 140 then J75 ds else .no
def J9O (Size : Int) (Sets : ZR) (Costs : ZI) (choice : ZI) : Ann := .two (.none) (.two (.reg [(0, .frz)]) (.two (.two (.none) (.loop (cut2 (fun (out : ZI) (i : Int) => J1I Size Sets Costs choice out i) (fun (out : ZI) (i : Int) => [(1, .d false (.sl (.ints choice))), (2, .ptr 2 0), (5, .d true (.sl (.ints out))), (6, .d true (.int .i64 i))]) (fun (out : ZI) (i : Int) => [(2, .box 64 [.d false (.int .i64 Size), .d false (.sl (.rows Sets)), .d false (.sl (.ints Costs))])])) (fun g => J1M Size Sets Costs choice g.1 g.2) (fun g => (fun (out : ZI) (i : Int) => .two (.none) (.two (.two (.none) (.two (.none) (.loop (cut2 (fun (out1 : ZI) (k : Int) => J1K Size Sets Costs choice out i out1 k) (fun (out1 : ZI) (k : Int) => [(1, .d false (.sl (.ints choice))), (2, .ptr 2 0), (5, .d true (.sl (.ints out1))), (6, .d true (.int .i64 i)), (7, .d false (.sl (.ints (Sets.getD ((choice.getD i.toNat 0).toNat) [])))), (8, .d true (.int .i64 k))]) (fun (out1 : ZI) (k : Int) => [(2, .box 64 [.d false (.int .i64 Size), .d false (.sl (.rows Sets)), .d false (.sl (.ints Costs))])])) (fun g => J1J Size Sets Costs choice out i g.1 g.2) (fun _ => .none)))) (.none))) (g.1) (g.2)))) (.none)))
def J5n (Size : Int) (Sets : ZR) (Costs : ZI) (choice : ZI) : Prop :=
  ((∃ out' : ZI, ∃ i' : Int, (J1I Size Sets Costs choice out' i') ∧ (choice = choice) ∧ ([] = out') ∧ ((0 : Int) = i') ∧ (Size = Size) ∧ (Sets = Sets) ∧ (Costs = Costs)) ∧ (∀ out : ZI, ∀ i : Int, (J1I Size Sets Costs choice out i) → (((decide (i < (choice.length : Int))) = true → (true = true) ∧ ((0 : Int) ≤ i) ∧ ((i : Int) < choice.length) ∧ (i.toNat < choice.length) ∧ ((0 : Int) ≤ (choice.getD i.toNat 0)) ∧ (((choice.getD i.toNat 0) : Int) < Sets.length) ∧ ((choice.getD i.toNat 0).toNat < Sets.length) ∧ ((∃ out1' : ZI, ∃ k' : Int, (J1K Size Sets Costs choice out i out1' k') ∧ (choice = choice) ∧ (out = out1') ∧ (i = i) ∧ ((Sets.getD ((choice.getD i.toNat 0).toNat) []) = (Sets.getD ((choice.getD i.toNat 0).toNat) [])) ∧ ((0 : Int) = k') ∧ (Size = Size) ∧ (Sets = Sets) ∧ (Costs = Costs)) ∧ (∀ out1 : ZI, ∀ k : Int, (J1K Size Sets Costs choice out i out1 k) → (((decide (k < (((Sets.getD ((choice.getD i.toNat 0).toNat) []).length) : Int))) = true → ((0 : Int) ≤ k) ∧ ((k : Int) < (Sets.getD ((choice.getD i.toNat 0).toNat) []).length) ∧ (k.toNat < (Sets.getD ((choice.getD i.toNat 0).toNat) []).length) ∧ (PCs Tryz.prog 140 [.sl (.ints out1), .int .i64 ((Sets.getD ((choice.getD i.toNat 0).toNat) []).getD k.toNat 0)] 0 (.sl (.ints (putL out1 ((Sets.getD ((choice.getD i.toNat 0).toNat) []).getD k.toNat 0))))) ∧ (I6 (k + 1)) ∧ (∃ out1' : ZI, ∃ k' : Int, (J1K Size Sets Costs choice out i out1' k') ∧ (J1J Size Sets Costs choice out i out1' k' < J1J Size Sets Costs choice out i out1 k) ∧ (choice = choice) ∧ ((putL out1 ((Sets.getD ((choice.getD i.toNat 0).toNat) []).getD k.toNat 0)) = out1') ∧ (i = i) ∧ ((Sets.getD ((choice.getD i.toNat 0).toNat) []) = (Sets.getD ((choice.getD i.toNat 0).toNat) [])) ∧ ((k + 1) = k') ∧ (Size = Size) ∧ (Sets = Sets) ∧ (Costs = Costs))) ∧ ((decide (k < (((Sets.getD ((choice.getD i.toNat 0).toNat) []).length) : Int))) = false → (I6 (i + 1)) ∧ (∃ out' : ZI, ∃ i' : Int, (J1I Size Sets Costs choice out' i') ∧ (J1M Size Sets Costs choice out' i' < J1M Size Sets Costs choice out i) ∧ (choice = choice) ∧ (out1 = out') ∧ ((i + 1) = i') ∧ (Size = Size) ∧ (Sets = Sets) ∧ (Costs = Costs))))))) ∧ ((decide (i < (choice.length : Int))) = false → (((out : ZI) = (Jl Sets choice choice.length)))))))
theorem J91 (Size : Int) (Sets : ZR) (Costs : ZI) (choice : ZI) (hg : J1 Size Sets Costs = true) (hc : J3 choice 0 ((Sets.length : Int) - 1) = true) (w_Sets : (Sets.length : Int) ≤ 9223372036854775807) (v_Sets : ∀ x9 ∈ Sets, (x9.length : Int) ≤ 9223372036854775807) (w_Costs : (Costs.length : Int) ≤ 9223372036854775807) (w_choice : (choice.length : Int) ≤ 9223372036854775807) : J5n Size Sets Costs choice := by
  unfold J5n
  have gf := Jd hg
  have cl := J26 hc (by omega)
  have ca := fun k => JV hc k
  have sl := fun (k : Nat) (hk : k < Sets.length) => J26 (J4q hg hk) (by omega)
  refine ⟨?_, ?_⟩
  ·refine ⟨([]), 0, ?_⟩
   refine ⟨?_, rfl, ?_, rfl, rfl, rfl, rfl⟩
   ·refine ⟨?_, ?_, ?_, ?_⟩
    ·omega
    ·omega
    ·rfl
    ·(simp_all; done)
   rfl
  intro out i hJ
  obtain ⟨h1, h2, h3, h3l⟩ := hJ
  refine ⟨?_, ?_⟩
  ·intro b1
   try simp only [nrmT] at b1
   refine ⟨rfl, ?_, ?_, ?_, ?_, ?_, ?_, ?_, ?_⟩
   ·omega
   ·omega
   ·omega
   ·have := ca i.toNat (by omega)
    omega
   ·have := ca i.toNat (by omega)
    omega
   ·have := ca i.toNat (by omega)
    omega
   ·refine ⟨out, 0, ?_⟩
    refine ⟨?_, rfl, rfl, rfl, rfl, rfl, rfl, rfl, rfl⟩
    ·refine ⟨?_, ?_, ?_, ?_⟩
     ·omega
     ·omega
     ·rfl
     ·omega
   intro out1 k hJ
   obtain ⟨h4, h5, h6, h6l⟩ := hJ
   refine ⟨?_, ?_⟩
   ·intro b2
    try simp only [nrmT] at b2
    refine ⟨?_, ?_, ?_, ?_, ?_, ?_⟩
    ·omega
    ·omega
    ·omega
    ·refine J7V out1 ((Sets.getD ((choice.getD i.toNat 0).toNat) []).getD k.toNat 0) ?_
     ·have h7 := ca i.toNat (by omega)
      have h8 := sl (choice.getD i.toNat 0).toNat (by omega)
      have h9 := putL_len out1 ((Sets.getD (choice.getD i.toNat 0).toNat []).getD k.toNat 0)
      omega
    ·have h7 := ca i.toNat (by omega)
     have h8 := sl (choice.getD i.toNat 0).toNat (by omega)
     omega
    refine ⟨(putL out1 ((Sets.getD ((choice.getD i.toNat 0).toNat) []).getD k.toNat 0)), (k + 1), ?_⟩
    refine ⟨?_, ?_, rfl, rfl, rfl, rfl, rfl, rfl, rfl, rfl⟩
    ·refine ⟨?_, ?_, ?_, ?_⟩
     ·omega
     ·omega
     ·rw [h6, show (k + 1).toNat = k.toNat + 1 by omega]; rfl
     ·have h7 := ca i.toNat (by omega)
      have h8 := sl (choice.getD i.toNat 0).toNat (by omega)
      have h9 := putL_len out1 ((Sets.getD (choice.getD i.toNat 0).toNat []).getD k.toNat 0)
      omega
    (simp only [J1J]; omega)
   intro b3
   try simp only [nrmT] at b3
   refine ⟨?_, ?_⟩
   ·omega
   refine ⟨out1, (i + 1), ?_⟩
   refine ⟨?_, ?_, rfl, rfl, rfl, rfl, rfl, rfl⟩
   ·refine ⟨?_, ?_, ?_, ?_⟩
    ·omega
    ·omega
    ·rw [h6, h3, show (i + 1).toNat = i.toNat + 1 by omega, show k.toNat = (Sets.getD (choice.getD i.toNat 0).toNat []).length by omega]; rfl
    ·have h7 := ca i.toNat (by omega)
     have h8 := sl (choice.getD i.toNat 0).toNat (by omega)
     omega
   (simp only [J1M]; omega)
  intro b4
  try simp only [nrmT] at b4
  rw [h3, show i.toNat = choice.length by omega]
theorem J4O (Size : Int) (Sets : ZR) (Costs : ZI) (choice : ZI) (hg : J1 Size Sets Costs = true) (hc : J3 choice 0 ((Sets.length : Int) - 1) = true) : PC Tryz.prog 179 [.agg [.int .i64 Size, .sl (.rows Sets), .sl (.ints Costs)], .sl (.ints choice)] (.one (.d (.sl (.ints (Jl Sets choice choice.length))))) :=
  pc_wf @Tryz.call179 fun hw => pc_by (by kernel_rfl) Tryz.func179 @Tryz.call179 (by kernel_rfl) J9M (J9O Size Sets Costs choice) (by kernel_rfl) (J91 Size Sets Costs choice hg hc hw.1.2.1.1 hw.1.2.1.2 hw.1.2.2.1 hw.2.1) (by kernel_rfl)
def J8B : List D → Orc := orcN [none, some .ints] fun ds => match ds with
  | [.agg [.int .i64 Size, .sl (.rows Sets), .sl (.ints Costs)], .sl (.ints choice)] => some (.one (.d (.sl (.ints (Jl Sets choice choice.length)))))
  | _ => none
theorem JdQ {xs : ZI} {x i : Int} (h2 : (xs.length : Int) ≤ i) (h3 : ∀ k, k < i.toNat → (fun y => x == y) (xs.getD k 0) = false) : xs.contains x = false := by
  rw [List.contains_eq_any_beq, List.any_eq_false]
  intro y hy
  obtain ⟨k, hk, rfl⟩ := List.mem_iff_getElem.1 hy
  have := h3 k (by omega)
  simp [hk] at this
  simpa using this
theorem Jd4 {xs : ZI} {x i : Int} (h1 : 0 ≤ i) (h2 : i < (xs.length : Int)) (h : xs.getD i.toNat 0 = x) : xs.contains x = true := by
  rw [List.contains_iff_mem, ← h]; exact getD_memI h1 h2
abbrev J3E (xs : ZI) (x : Int) (i : Int) : Prop := (0 ≤ i) ∧ (i ≤ (xs.length : Int)) ∧ (∀ k, k < i.toNat → (fun y => x == y) (xs.getD k 0) = false)
abbrev J3L (xs : ZI) (x : Int) (i : Int) : Nat := (xs.length - i).toNat
def JcL (f : FuncId) (ds : List D) : Orc := .no
def JcT (xs : ZI) (x : Int) : Ann := .two (.none) (.two (.two (.none) (.loop (cut1 (fun (i : Int) => J3E xs x i) (fun (i : Int) => [(0, .d false (.sl (.ints xs))), (1, .d false (.int .i64 x)), (5, .d true (.int .i64 i))]) (fun (i : Int) => [])) (fun g => J3L xs x g) (fun _ => .none))) (.none))
def J9E (xs : ZI) (x : Int) : Prop :=
  ((∃ i' : Int, (J3E xs x i') ∧ (xs = xs) ∧ (x = x) ∧ ((0 : Int) = i')) ∧ (∀ i : Int, (J3E xs x i) → (((decide (i < (xs.length : Int))) = true → ((0 : Int) ≤ i) ∧ ((i : Int) < xs.length) ∧ (i.toNat < xs.length) ∧ ((((xs.getD i.toNat 0) == x) = true → ((true = (xs.contains x)))) ∧ (((xs.getD i.toNat 0) == x) = false → (I6 (i + 1)) ∧ (∃ i' : Int, (J3E xs x i') ∧ (J3L xs x i' < J3L xs x i) ∧ (xs = xs) ∧ (x = x) ∧ ((i + 1) = i'))))) ∧ ((decide (i < (xs.length : Int))) = false → ((false = (xs.contains x)))))))
theorem JcE (xs : ZI) (x : Int)  (w_xs : (xs.length : Int) ≤ 9223372036854775807) : J9E xs x := by
  unfold J9E
  refine ⟨?_, ?_⟩
  ·refine ⟨0, ?_⟩
   refine ⟨?_, rfl, rfl, rfl⟩
   ·refine ⟨?_, ?_, ?_⟩
    ·omega
    ·omega
    ·omega
  intro i hJ
  obtain ⟨h1, h2, h3⟩ := hJ
  refine ⟨?_, ?_⟩
  ·intro b1
   try simp only [nrmT] at b1
   refine ⟨?_, ?_, ?_, ?_, ?_⟩
   ·omega
   ·omega
   ·omega
   ·intro b2
    try simp only [nrmT] at b2
    exact (Jd4 h1 b1 b2).symm
   intro b3
   try simp only [nrmT] at b3
   refine ⟨?_, ?_⟩
   ·omega
   refine ⟨(i + 1), ?_⟩
   refine ⟨?_, ?_, rfl, rfl, rfl⟩
   ·refine ⟨?_, ?_, ?_⟩
    ·omega
    ·omega
    ·exact idx_step (p := fun y => x == y) h1 h3 (by simp only [beq_eq_false_iff_ne]; exact fun h => b3 h.symm)
   (simp only [J3L]; omega)
  intro b4
  try simp only [nrmT] at b4
  exact (JdQ (by omega) h3).symm
theorem Jch (xs : ZI) (x : Int)  : PC Tryz.prog 128 [.sl (.ints xs), .int .i64 x] (.one (.d (.bool (xs.contains x)))) :=
  pc_wf @Tryz.call128 fun hw => pc_by (by kernel_rfl) Tryz.func128 @Tryz.call128 (by kernel_rfl) JcL (JcT xs x) (by kernel_rfl) (JcE xs x hw.1) (by kernel_rfl)
def JbE : List D → Orc := orcN [some .ints, none] fun ds => match ds with
  | [.sl (.ints xs), .int .i64 x] => some (.one (.d (.bool (xs.contains x))))
  | _ => none
def J4j (set cov : ZI) (k : Nat) : Int := if cov.contains (set.getD k 0) then 0 else 1
def J10 (set cov : ZI) : Int := J1m (J4j set cov) set.length
theorem Jbg {set cov : ZI} (k : Nat) : 0 ≤ J1m (J4j set cov) k ∧ J1m (J4j set cov) k ≤ 1 * k := Jbu k fun j _ => by unfold J4j; split <;> omega
theorem Jcs {l : ZI} {lo hi : Int} (h : Asc l) (hb : ∀ x ∈ l, lo ≤ x ∧ x ≤ hi) : J3 l lo hi = true := by
  unfold J3
  rw [allTo_iff]
  intro k hk
  unfold J1v
  simp only [Bool.and_eq_true, Bool.or_eq_true, decide_eq_true_eq]
  have h1 := hb _ (getD_mem (d := 0) hk)
  refine ⟨decide_eq_true h1, ?_⟩
  by_cases e : k = 0
  · exact .inl e
  refine .inr ?_
  have h2 := List.pairwise_iff_getElem.1 h (k - 1) k (by omega) hk (by omega)
  rw [Js hk, Js (show k - 1 < l.length by omega)]
  exact h2
abbrev J2l (set : ZI) (cov : ZI) (out : Int) (i : Int) : Prop := (0 ≤ i) ∧ (i ≤ (set.length : Int)) ∧ (out = J1m (J4j set cov) i.toNat)
abbrev J13 (set : ZI) (cov : ZI) (out : Int) (i : Int) : Nat := (set.length - i).toNat
def JcY (f : FuncId) (ds : List D) : Orc := bif Nat.beq f 128 then JbE ds else .no
def Jd7 (set : ZI) (cov : ZI) : Ann := .two (.none) (.two (.none) (.two (.two (.none) (.loop (cut2 (fun (out : Int) (i : Int) => J2l set cov out i) (fun (out : Int) (i : Int) => [(0, .d false (.sl (.ints set))), (1, .d false (.sl (.ints cov))), (5, .d true (.int .i64 out)), (6, .d true (.int .i64 i))]) (fun (out : Int) (i : Int) => [])) (fun g => J13 set cov g.1 g.2) (fun _ => .none))) (.none)))
def J9D (set : ZI) (cov : ZI) : Prop :=
  ((∃ out' : Int, ∃ i' : Int, (J2l set cov out' i') ∧ (set = set) ∧ (cov = cov) ∧ ((0 : Int) = out') ∧ ((0 : Int) = i')) ∧ (∀ out : Int, ∀ i : Int, (J2l set cov out i) → (((decide (i < (set.length : Int))) = true → ((0 : Int) ≤ i) ∧ ((i : Int) < set.length) ∧ (i.toNat < set.length) ∧ (PC Tryz.prog 128 [.sl (.ints cov), .int .i64 (set.getD i.toNat 0)] (.one (.d (.bool (cov.contains (set.getD i.toNat 0)))))) ∧ (((!(cov.contains (set.getD i.toNat 0))) = true → (I6 (out + 1)) ∧ (I6 (i + 1)) ∧ (∃ out' : Int, ∃ i' : Int, (J2l set cov out' i') ∧ (J13 set cov out' i' < J13 set cov out i) ∧ (set = set) ∧ (cov = cov) ∧ ((out + 1) = out') ∧ ((i + 1) = i'))) ∧ ((!(cov.contains (set.getD i.toNat 0))) = false → (I6 (i + 1)) ∧ (∃ out' : Int, ∃ i' : Int, (J2l set cov out' i') ∧ (J13 set cov out' i' < J13 set cov out i) ∧ (set = set) ∧ (cov = cov) ∧ (out = out') ∧ ((i + 1) = i'))))) ∧ ((decide (i < (set.length : Int))) = false → ((out = (J10 set cov)))))))
theorem Jc0 (set : ZI) (cov : ZI)  (w_set : (set.length : Int) ≤ 9223372036854775807) (w_cov : (cov.length : Int) ≤ 9223372036854775807) : J9D set cov := by
  unfold J9D
  refine ⟨?_, ?_⟩
  ·refine ⟨0, 0, ?_⟩
   refine ⟨?_, rfl, rfl, rfl, rfl⟩
   ·refine ⟨?_, ?_, ?_⟩
    ·omega
    ·omega
    ·rfl
  intro out i hJ
  obtain ⟨h1, h2, h3⟩ := hJ
  refine ⟨?_, ?_⟩
  ·intro b1
   try simp only [nrmT] at b1
   refine ⟨?_, ?_, ?_, Jch cov (set.getD i.toNat 0), ?_, ?_⟩
   ·omega
   ·omega
   ·omega
   ·intro b2
    try simp only [nrmT] at b2
    refine ⟨?_, ?_, ?_⟩
    ·have := Jbg (set := set) (cov := cov) i.toNat
     omega
    ·omega
    refine ⟨(out + 1), (i + 1), ?_⟩
    refine ⟨?_, ?_, rfl, rfl, rfl, rfl⟩
    ·refine ⟨?_, ?_, ?_⟩
     ·omega
     ·omega
     ·rw [J8D h1, h3]
      unfold J4j
      rw [b2]
      rfl
    (simp only [J13]; omega)
   intro b3
   try simp only [nrmT] at b3
   refine ⟨?_, ?_⟩
   ·omega
   refine ⟨out, (i + 1), ?_⟩
   refine ⟨?_, ?_, rfl, rfl, rfl, rfl⟩
   ·refine ⟨?_, ?_, ?_⟩
    ·omega
    ·omega
    ·rw [J8D h1, h3]
     unfold J4j
     rw [b3]
     exact (Int.add_zero _).symm
   (simp only [J13]; omega)
  intro b4
  try simp only [nrmT] at b4
  unfold J10
  rw [h3, show i.toNat = set.length by omega]
theorem Jc8 (set : ZI) (cov : ZI)  : PC Tryz.prog 181 [.sl (.ints set), .sl (.ints cov)] (.one (.d (.int .i64 (J10 set cov)))) :=
  pc_wf @Tryz.call181 fun hw => pc_by (by kernel_rfl) Tryz.func181 @Tryz.call181 (by kernel_rfl) JcY (Jd7 set cov) (by kernel_rfl) (Jc0 set cov hw.1 hw.2.1) (by kernel_rfl)
def JbM : List D → Orc := orcN [some .ints, some .ints] fun ds => match ds with
  | [.sl (.ints set), .sl (.ints cov)] => some (.one (.d (.int .i64 (J10 set cov))))
  | _ => none
def J8a (f : FuncId) (ds : List D) : Orc := bif Nat.beq f 162 then J3A ds else .no
def J8v (U : ZI) (E : ZR) (set : ZI) : Ann := .none
def J4I (U : ZI) (E : ZR) (set : ZI) : Prop :=
  ((decide ((set.length : Int) > 0)) = true → (decide ((set.length : Int) > 0)) = true) ∧ ((decide ((set.length : Int) > 0)) = true → (decide ((set.length : Int) > 0)) = true) ∧ ((decide ((set.length : Int) > 0)) = true → (decide ((set.length : Int) > 0)) = true) ∧ ((decide ((set.length : Int) > 0)) = true → (decide ((set.length : Int) > 0)) = true) ∧ ((decide ((set.length : Int) > 0)) = true → PC Tryz.prog 162 [.sl (.ints set), .int .i64 (U.length : Int)] (.one (.d (.bool (J3 set 0 ((U.length : Int) - 1)))))) ∧ (true = true) ∧ (((decide ((set.length : Int) > 0)) = true → (decide ((set.length : Int) > 0)) = true)) ∧ (((decide ((set.length : Int) > 0)) = false → true = true)) ∧ (((cond (decide ((set.length : Int) > 0)) (J3 set 0 ((U.length : Int) - 1)) false) = (J3 set 0 ((U.length : Int) - 1) && decide (0 < set.length))))
theorem J7N (U : ZI) (E : ZR) (set : ZI)  (w_Open : (U.length : Int) ≤ 9223372036854775807) (w_Dist : (E.length : Int) ≤ 9223372036854775807) (v_Dist : ∀ x9 ∈ E, (x9.length : Int) ≤ 9223372036854775807) (w_set : (set.length : Int) ≤ 9223372036854775807) : J4I U E set := by
  unfold J4I
  refine ⟨id, id, id, id, ?_, rfl, id, fun _ => rfl, ?_⟩
  ·intro hg
   refine J46 set (U.length : Int) ?_
   ·omega
  rw [(show decide ((set.length : Int) > 0) = decide (0 < set.length) by rw [Bool.eq_iff_iff]; simp only [decide_eq_true_eq]; omega)]
  cases J3 set 0 ((U.length : Int) - 1) <;> cases decide (0 < set.length) <;> rfl
theorem J7P (U : ZI) (E : ZR) (set : ZI)  : PC Tryz.prog 203 [.agg [.sl (.ints U), .sl (.rows E)], .sl (.ints set)] (.one (.d (.bool (J3 set 0 ((U.length : Int) - 1) && decide (0 < set.length))))) :=
  pc_wf @Tryz.call203 fun hw => pc_by (by kernel_rfl) Tryz.func203 @Tryz.call203 (by kernel_rfl) J8a (J8v U E set) (by kernel_rfl) (J7N U E set hw.1.1 hw.1.2.1.1 hw.1.2.1.2 hw.2.1) (by kernel_rfl)
def J6X : List D → Orc := orcN [none, some .ints] fun ds => match ds with
  | [.agg [.sl (.ints U), .sl (.rows E)], .sl (.ints set)] => some (.one (.d (.bool (J3 set 0 ((U.length : Int) - 1) && decide (0 < set.length)))))
  | _ => none
def Jan (f : FuncId) (ds : List D) : Orc := bif Nat.beq f 111 then J5v ds else bif Nat.beq f 203 then J6X ds else .no
def JaM (U : ZI) (E : ZR) (set : ZI) : Ann := .none
def J6x (U : ZI) (E : ZR) (set : ZI) : Prop :=
  (PC Tryz.prog 111 [.agg [.sl (.ints U), .sl (.rows E)]] (.one (.d (.bool (J2 U E))))) ∧ ((J2 U E) = true → (J2 U E) = true) ∧ ((J2 U E) = true → (J2 U E) = true) ∧ ((J2 U E) = true → PC Tryz.prog 203 [.agg [.sl (.ints U), .sl (.rows E)], .sl (.ints set)] (.one (.d (.bool (J3 set 0 ((U.length : Int) - 1) && decide (0 < set.length)))))) ∧ (true = true) ∧ (((J2 U E) = true → (J2 U E) = true)) ∧ (((J2 U E) = false → true = true)) ∧ (((cond (J2 U E) (J3 set 0 ((U.length : Int) - 1) && decide (0 < set.length)) false) = (J2 U E && J3 set 0 ((U.length : Int) - 1) && decide (0 < set.length))))
theorem Jad (U : ZI) (E : ZR) (set : ZI)  (w_Open : (U.length : Int) ≤ 9223372036854775807) (w_Dist : (E.length : Int) ≤ 9223372036854775807) (v_Dist : ∀ x9 ∈ E, (x9.length : Int) ≤ 9223372036854775807) (w_set : (set.length : Int) ≤ 9223372036854775807) : J6x U E set := by
  unfold J6x
  refine ⟨J5W U E, id, id, fun _ => J7P U E set, rfl, id, fun _ => rfl, ?_⟩
  ·cases J2 U E <;> cases J3 set 0 ((U.length : Int) - 1) <;> cases decide (0 < set.length) <;> rfl
theorem Jab (U : ZI) (E : ZR) (set : ZI)  : PC Tryz.prog 113 [.agg [.sl (.ints U), .sl (.rows E)], .sl (.ints set)] (.one (.d (.bool (J2 U E && J3 set 0 ((U.length : Int) - 1) && decide (0 < set.length))))) :=
  pc_wf @Tryz.call113 fun hw => pc_by (by kernel_rfl) Tryz.func113 @Tryz.call113 (by kernel_rfl) Jan (JaM U E set) (by kernel_rfl) (Jad U E set hw.1.1 hw.1.2.1.1 hw.1.2.1.2 hw.2.1) (by kernel_rfl)
def J97 : List D → Orc := orcN [none, some .ints] fun ds => match ds with
  | [.agg [.sl (.ints U), .sl (.rows E)], .sl (.ints set)] => some (.one (.d (.bool (J2 U E && J3 set 0 ((U.length : Int) - 1) && decide (0 < set.length)))))
  | _ => none
theorem J3S {U set : ZI} {E : ZR} (h : (J2 U E && J3 set 0 ((U.length : Int) - 1) && decide (0 < set.length)) = true) :
    J2 U E = true ∧ J3 set 0 ((U.length : Int) - 1) = true ∧ 0 < set.length := by
  simp only [Bool.and_eq_true, decide_eq_true_eq] at h
  exact ⟨h.1.1, h.1.2, h.2⟩
theorem J60 {b x : Int} (hb : 0 ≤ b ∧ b ≤ 4611686018427387903) (h2 : x ≤ 62) (h : 0 < b / 2 ^ x.toNat) : x < 62 := by
  by_cases e : x = 62
  · subst e
    have e2 : (2 : Int) ^ (62 : Int).toNat = 4611686018427387904 := by decide
    rw [e2] at h
    omega
  omega
theorem JbW {b : Int} {m : Nat} (hb : 0 ≤ b) (h : ¬ 0 < b / 2 ^ m) (k : Nat) (hk : m ≤ k) : b.toNat.testBit k = false := by
  have h1 : b.toNat / 2 ^ m = 0 := by
    have h2 : ((b.toNat / 2 ^ m : Nat) : Int) = b / 2 ^ m := by
      rw [Int.natCast_ediv, Int.toNat_of_nonneg hb]; simp
    have h3 : (0 : Int) ≤ ((b.toNat / 2 ^ m : Nat) : Int) := Int.natCast_nonneg _
    omega
  have h4 : b.toNat < 2 ^ m := (Nat.div_eq_zero_iff_lt (Nat.two_pow_pos m)).1 h1
  exact Nat.testBit_lt_two_pow (Nat.lt_of_lt_of_le h4 (Nat.pow_le_pow_right (by omega) hk))
theorem J1W {p : Nat → Bool} {m : Nat} (h : ∀ k, m ≤ k → p k = false) : ∀ n, m ≤ n → members p n = members p m
  | 0, hn => by have : m = 0 := by omega
                rw [this]
  | n + 1, hn => by
    by_cases e : m = n + 1
    · rw [e]
    rw [members_succ, J1W h n (by omega), h n (by omega)]; simp
abbrev J1d (b : Int) (out : ZI) (x : Int) : Prop := (0 ≤ x) ∧ (x ≤ 62) ∧ (out = members (fun k => b.toNat.testBit k) x.toNat)
abbrev JY (b : Int) (out : ZI) (x : Int) : Nat := (62 - x).toNat
def JaI (f : FuncId) (ds : List D) : Orc := bif Nat.beq f 138 then J5r ds else .no
def Jai (b : Int) : Ann := .two (.none) (.two (.none) (.two (.two (.none) (.loop (cut2 (fun (out : ZI) (x : Int) => J1d b out x) (fun (out : ZI) (x : Int) => [(0, .d false (.int .u64 b)), (3, .own 1000000 out.length), (4, .d true (.int .i64 x))]) (fun (out : ZI) (x : Int) => [(1000000, .arr true 3 (.ints out))])) (fun g => JY b g.1 g.2) (fun _ => .none))) (.none)))
def J6b (b : Int) : Prop :=
  ((∃ out' : ZI, ∃ x' : Int, (J1d b out' x') ∧ (b = b) ∧ ((0 : Nat) = out'.length) ∧ ((0 : Int) = x') ∧ ([] = out')) ∧ (∀ out : ZI, ∀ x : Int, (J1d b out x) → ((0 : Int) ≤ b ∧ (b : Int) ≤ 18446744073709551615) ∧ ((0 : Int) ≤ x) ∧ (((decide ((b / 2 ^ x.toNat) > 0)) = true → (PC Tryz.prog 138 [.int .u64 b, .int .i64 x] (.one (.d (.bool (b.toNat.testBit x.toNat))))) ∧ (((b.toNat.testBit x.toNat) = true → (out.length = out.length) ∧ ((1 : Nat) = 1) ∧ ((out.length + 1) * 8 ≤ 140737488355328) ∧ (I6 (x + 1)) ∧ (∃ out' : ZI, ∃ x' : Int, (J1d b out' x') ∧ (JY b out' x' < JY b out x) ∧ (b = b) ∧ ((out.length + 1) = out'.length) ∧ ((x + 1) = x') ∧ ((out ++ [x]) = out'))) ∧ ((b.toNat.testBit x.toNat) = false → (I6 (x + 1)) ∧ (∃ out' : ZI, ∃ x' : Int, (J1d b out' x') ∧ (JY b out' x' < JY b out x) ∧ (b = b) ∧ (out.length = out'.length) ∧ ((x + 1) = x') ∧ (out = out'))))) ∧ ((decide ((b / 2 ^ x.toNat) > 0)) = false → ((out.length = out.length) ∧ ((out : ZI) = members (fun k => b.toNat.testBit k) 62))))))
theorem Ja0 (b : Int) (hb : 0 ≤ b ∧ b ≤ 4611686018427387903)  : J6b b := by
  unfold J6b
  refine ⟨?_, ?_⟩
  ·refine ⟨([]), 0, ?_⟩
   refine ⟨?_, rfl, rfl, rfl, ?_⟩
   ·refine ⟨?_, ?_, ?_⟩
    ·omega
    ·omega
    ·rfl
   rfl
  intro out x hJ
  obtain ⟨h1, h2, h3⟩ := hJ
  refine ⟨?_, ?_, ?_, ?_⟩
  ·omega
  ·omega
  ·intro b1
   try simp only [nrmT] at b1
   refine ⟨?_, ?_, ?_⟩
   ·refine J63 b x ?_ ?_
    ·omega
    ·omega
   ·intro b2
    try simp only [nrmT] at b2
    refine ⟨rfl, rfl, ?_, ?_, ?_⟩
    ·rw [h3]; have := members_len_le (fun k => b.toNat.testBit k) x.toNat; omega
    ·omega
    refine ⟨(out ++ [x]), (x + 1), ?_⟩
    refine ⟨?_, ?_, rfl, ?_, rfl, rfl⟩
    ·refine ⟨?_, ?_, ?_⟩
     ·omega
     ·have := J60 hb h2 b1; omega
     ·rw [h3, show (x + 1).toNat = x.toNat + 1 by omega, members_succ, b2]; simp; try omega
    ·have := J60 hb h2 b1
     (simp only [JY]; omega)
    (simp_all; done)
   intro b3
   try simp only [nrmT] at b3
   refine ⟨?_, ?_⟩
   ·omega
   refine ⟨out, (x + 1), ?_⟩
   refine ⟨?_, ?_, rfl, rfl, rfl, rfl⟩
   ·refine ⟨?_, ?_, ?_⟩
    ·omega
    ·have := J60 hb h2 b1; omega
    ·rw [h3, show (x + 1).toNat = x.toNat + 1 by omega, members_succ, b3]; simp; try omega
   have := J60 hb h2 b1
   (simp only [JY]; omega)
  intro b4
  try simp only [nrmT] at b4
  refine ⟨rfl, ?_⟩
  ·rw [h3]; refine (J1W (fun k hk => JbW hb.1 (m := x.toNat) (by omega) k hk) 62 (by omega)).symm
theorem J9Y (b : Int) (hb : 0 ≤ b ∧ b ≤ 4611686018427387903) : PC Tryz.prog 139 [.int .u64 b] (.one (.own 3 (.ints (members (fun k => b.toNat.testBit k) 62)))) :=
  pc_wf @Tryz.call139 fun _ => pc_by (by kernel_rfl) Tryz.func139 @Tryz.call139 (by kernel_rfl) JaI (Jai b) (by kernel_rfl) (Ja0 b hb) (by kernel_rfl)
def J8W : List D → Orc := orcN [none] fun ds => match ds with
  | [.int .u64 b] => some (.one (.own 3 (.ints (members (fun k => b.toNat.testBit k) 62))))
  | _ => none
def J9 (Size : Int) (Sets : ZR) (Costs choice : ZI) : ZI := if (J1 Size Sets Costs && J3 choice 0 ((Sets.length : Int) - 1)) = true then members (J58 Sets choice) Size.toNat else []
theorem Jck {Size : Int} {Sets : ZR} {Costs choice : ZI} (h : J1 Size Sets Costs = true) (hc : J3 choice 0 ((Sets.length : Int) - 1) = true) (b : Int) (hb : b = ((Je Sets choice choice.length : Nat) : Int)) :
    members (fun k => b.toNat.testBit k) 62 = J9 Size Sets Costs choice := by
  have gf := Jd h
  have h1 := J2E h hc choice.length (Nat.le_refl _)
  rw [J9, if_pos (by rw [h, hc]; rfl), hb, Int.toNat_natCast]
  rw [J1W (m := Size.toNat) (fun k hk => Nat.testBit_lt_two_pow (Nat.lt_of_lt_of_le h1 (Nat.pow_le_pow_right (by omega) hk))) 62 (by omega)]
  exact members_congr fun k _ => Jb1 h hc k
theorem J4E {Size : Int} {Sets : ZR} {Costs choice : ZI} : (J9 Size Sets Costs choice).length ≤ 8 := by
  unfold J9
  split
  · rename_i h
    rw [Bool.and_eq_true] at h
    have gf := Jd h.1
    have := members_len_le (J58 Sets choice) Size.toNat
    omega
  simp
def Ja4 (f : FuncId) (ds : List D) : Orc := bif Nat.beq f 182 then J4X ds else bif Nat.beq f 176 then J1l ds else bif Nat.beq f 139 then J8W ds else .no
def Ja8 (Size : Int) (Sets : ZR) (Costs : ZI) (choice : ZI) : Ann := .none
def J5o (Size : Int) (Sets : ZR) (Costs : ZI) (choice : ZI) : Prop :=
  (PC Tryz.prog 182 [.agg [.int .i64 Size, .sl (.rows Sets), .sl (.ints Costs)], .sl (.ints choice)] (.one (.d (.bool (J1 Size Sets Costs && J3 choice 0 ((Sets.length : Int) - 1)))))) ∧ (((!(J1 Size Sets Costs && J3 choice 0 ((Sets.length : Int) - 1))) = true → (((J9 Size Sets Costs choice).length = 0) ∧ (false = (J1 Size Sets Costs && J3 choice 0 ((Sets.length : Int) - 1))))) ∧ ((!(J1 Size Sets Costs && J3 choice 0 ((Sets.length : Int) - 1))) = false → (PC Tryz.prog 176 [.agg [.int .i64 Size, .sl (.rows Sets), .sl (.ints Costs)], .sl (.ints choice)] (.one (.d (.int .u64 ((Je Sets choice choice.length : Nat) : Int))))) ∧ (PC Tryz.prog 139 [.int .u64 ((Je Sets choice choice.length : Nat) : Int)] (.one (.own 3 (.ints (members (fun k => ((Je Sets choice choice.length : Nat) : Int).toNat.testBit k) 62))))) ∧ (((members (fun k => ((Je Sets choice choice.length : Nat) : Int).toNat.testBit k) 62).length = (members (fun k => ((Je Sets choice choice.length : Nat) : Int).toNat.testBit k) 62).length) ∧ ((members (fun k => ((Je Sets choice choice.length : Nat) : Int).toNat.testBit k) 62 : ZI) = J9 Size Sets Costs choice) ∧ (true = (J1 Size Sets Costs && J3 choice 0 ((Sets.length : Int) - 1))))))
theorem J92 (Size : Int) (Sets : ZR) (Costs : ZI) (choice : ZI)  (w_Sets : (Sets.length : Int) ≤ 9223372036854775807) (v_Sets : ∀ x9 ∈ Sets, (x9.length : Int) ≤ 9223372036854775807) (w_Costs : (Costs.length : Int) ≤ 9223372036854775807) (w_choice : (choice.length : Int) ≤ 9223372036854775807) : J5o Size Sets Costs choice := by
  unfold J5o
  refine ⟨J5p Size Sets Costs choice, ?_, ?_⟩
  ·intro b1
   refine ⟨?_, ?_⟩
   ·have hq : (J1 Size Sets Costs && J3 choice 0 ((Sets.length : Int) - 1)) = false := by
      revert b1; cases J1 Size Sets Costs <;> cases J3 choice 0 ((Sets.length : Int) - 1) <;> simp
    unfold J9; rw [hq]; rfl
   have hq : (J1 Size Sets Costs && J3 choice 0 ((Sets.length : Int) - 1)) = false := by
     revert b1; cases J1 Size Sets Costs <;> cases J3 choice 0 ((Sets.length : Int) - 1) <;> simp
   exact hq.symm
  intro b2
  refine ⟨?_, ?_, rfl, ?_, ?_⟩
  ·refine J1D Size Sets Costs choice ?_ ?_
   ·have hq : J1 Size Sets Costs = true ∧ J3 choice 0 ((Sets.length : Int) - 1) = true := by
      revert b2; cases J1 Size Sets Costs <;> cases J3 choice 0 ((Sets.length : Int) - 1) <;> simp
    exact hq.1
   ·have hq : J1 Size Sets Costs = true ∧ J3 choice 0 ((Sets.length : Int) - 1) = true := by
      revert b2; cases J1 Size Sets Costs <;> cases J3 choice 0 ((Sets.length : Int) - 1) <;> simp
    exact hq.2
  ·refine J9Y ((Je Sets choice choice.length : Nat) : Int) ?_
   ·have hq : J1 Size Sets Costs = true ∧ J3 choice 0 ((Sets.length : Int) - 1) = true := by
      revert b2; cases J1 Size Sets Costs <;> cases J3 choice 0 ((Sets.length : Int) - 1) <;> simp
    have gf := Jd hq.1
    have h1 := J2E hq.1 hq.2 choice.length (Nat.le_refl _)
    have p8 := J57 (n := Size.toNat) (by omega)
    omega
  ·have hq : J1 Size Sets Costs = true ∧ J3 choice 0 ((Sets.length : Int) - 1) = true := by
     revert b2; cases J1 Size Sets Costs <;> cases J3 choice 0 ((Sets.length : Int) - 1) <;> simp
   exact Jck hq.1 hq.2 _ rfl
  have hq : J1 Size Sets Costs = true ∧ J3 choice 0 ((Sets.length : Int) - 1) = true := by
    revert b2; cases J1 Size Sets Costs <;> cases J3 choice 0 ((Sets.length : Int) - 1) <;> simp
  rw [hq.1, hq.2]; rfl
theorem J51 (Size : Int) (Sets : ZR) (Costs : ZI) (choice : ZI)  : PC Tryz.prog 85 [.agg [.int .i64 Size, .sl (.rows Sets), .sl (.ints Costs)], .sl (.ints choice)] (.tup [.own 3 (.ints (J9 Size Sets Costs choice)), .d (.bool (J1 Size Sets Costs && J3 choice 0 ((Sets.length : Int) - 1)))]) :=
  pc_wf @Tryz.call85 fun hw => pc_by (by kernel_rfl) Tryz.func85 @Tryz.call85 (by kernel_rfl) Ja4 (Ja8 Size Sets Costs choice) (by kernel_rfl) (J92 Size Sets Costs choice hw.1.2.1.1 hw.1.2.1.2 hw.1.2.2.1 hw.2.1) (by kernel_rfl)
def J7Z : List D → Orc := orcN [none, some .ints] fun ds => match ds with
  | [.agg [.int .i64 Size, .sl (.rows Sets), .sl (.ints Costs)], .sl (.ints choice)] => some (.tup [.own 3 (.ints (J9 Size Sets Costs choice)), .d (.bool (J1 Size Sets Costs && J3 choice 0 ((Sets.length : Int) - 1)))])
  | _ => none
def J59 (row set : ZI) (b : Int) (k : Nat) : Int := if row.getD (set.getD k 0).toNat 0 < row.getD b.toNat 0 then set.getD k 0 else b
def J03 (row set : ZI) (k : Nat) : Int := foldTo (J59 row set) (set.getD 0 0) k
theorem J2q (row set : ZI) (k : Nat) : J03 row set (k + 1) = J59 row set (J03 row set k) k := rfl
theorem J4G {row set : ZI} {n : Int} (h : ∀ k, k < set.length → 0 ≤ set.getD k 0 ∧ set.getD k 0 < n) (hp : 0 < set.length) : ∀ k, k ≤ set.length → 0 ≤ J03 row set k ∧ J03 row set k < n
  | 0, _ => h 0 hp
  | k + 1, hk => by
    rw [J2q]
    unfold J59
    split
    · exact h k (by omega)
    exact J4G h hp k (by omega)
abbrev J01 (U : ZI) (E : ZR) (client : Int) (set : ZI) (best : Int) (k : Int) : Prop := (0 ≤ k) ∧ (k ≤ (set.length : Int)) ∧ (best = J03 (E.getD client.toNat []) set k.toNat)
abbrev JC (U : ZI) (E : ZR) (client : Int) (set : ZI) (best : Int) (k : Int) : Nat := (set.length - k).toNat
def J7v (f : FuncId) (ds : List D) : Orc := .no
def J7R (U : ZI) (E : ZR) (client : Int) (set : ZI) : Ann := .two (.none) (.two (.none) (.two (.two (.none) (.loop (cut2 (fun (best : Int) (k : Int) => J01 U E client set best k) (fun (best : Int) (k : Int) => [(1, .d false (.int .i64 client)), (3, .ptr 3 0), (7, .d true (.int .i64 best)), (13, .d false (.sl (.ints set))), (14, .d true (.int .i64 (set.length : Int))), (15, .d true (.int .i64 k))]) (fun (best : Int) (k : Int) => [(3, .box 27 [.d false (.sl (.ints U)), .d false (.sl (.rows E))])])) (fun g => JC U E client set g.1 g.2) (fun _ => .none))) (.none)))
def J4s (U : ZI) (E : ZR) (client : Int) (set : ZI) : Prop :=
  ((0 : Int) ≤ 0) ∧ ((0 : Int) < set.length) ∧ (0 < set.length) ∧ ((∃ best' : Int, ∃ k' : Int, (J01 U E client set best' k') ∧ (client = client) ∧ ((set.getD 0 0) = best') ∧ (set = set) ∧ ((set.length : Int) = (set.length : Int)) ∧ ((0 : Int) = k') ∧ (U = U) ∧ (E = E)) ∧ (∀ best : Int, ∀ k : Int, (J01 U E client set best k) → (((decide (k < (set.length : Int))) = true → ((0 : Int) ≤ k) ∧ ((k : Int) < set.length) ∧ (k.toNat < set.length) ∧ (true = true) ∧ ((0 : Int) ≤ client) ∧ ((client : Int) < E.length) ∧ (client.toNat < E.length) ∧ ((0 : Int) ≤ (set.getD k.toNat 0)) ∧ (((set.getD k.toNat 0) : Int) < (E.getD client.toNat []).length) ∧ ((set.getD k.toNat 0).toNat < (E.getD client.toNat []).length) ∧ ((0 : Int) ≤ client) ∧ ((client : Int) < E.length) ∧ (client.toNat < E.length) ∧ ((0 : Int) ≤ best) ∧ ((best : Int) < (E.getD client.toNat []).length) ∧ (best.toNat < (E.getD client.toNat []).length) ∧ (((decide (((E.getD client.toNat []).getD ((set.getD k.toNat 0).toNat) 0) < ((E.getD client.toNat []).getD best.toNat 0))) = true → (I6 (k + 1)) ∧ (∃ best' : Int, ∃ k' : Int, (J01 U E client set best' k') ∧ (JC U E client set best' k' < JC U E client set best k) ∧ (client = client) ∧ ((set.getD k.toNat 0) = best') ∧ (set = set) ∧ ((set.length : Int) = (set.length : Int)) ∧ ((k + 1) = k') ∧ (U = U) ∧ (E = E))) ∧ ((decide (((E.getD client.toNat []).getD ((set.getD k.toNat 0).toNat) 0) < ((E.getD client.toNat []).getD best.toNat 0))) = false → (I6 (k + 1)) ∧ (∃ best' : Int, ∃ k' : Int, (J01 U E client set best' k') ∧ (JC U E client set best' k' < JC U E client set best k) ∧ (client = client) ∧ (best = best') ∧ (set = set) ∧ ((set.length : Int) = (set.length : Int)) ∧ ((k + 1) = k') ∧ (U = U) ∧ (E = E))))) ∧ ((decide (k < (set.length : Int))) = false → ((best = (J03 (E.getD client.toNat []) set set.length)))))))
theorem J73 (U : ZI) (E : ZR) (client : Int) (set : ZI) (ht : (J2 U E && J3 set 0 ((U.length : Int) - 1) && decide (0 < set.length)) = true) (hc : 0 ≤ client ∧ client < (E.length : Int)) (w_Open : (U.length : Int) ≤ 9223372036854775807) (w_Dist : (E.length : Int) ≤ 9223372036854775807) (v_Dist : ∀ x9 ∈ E, (x9.length : Int) ≤ 9223372036854775807) (w_set : (set.length : Int) ≤ 9223372036854775807) : J4s U E client set := by
  unfold J4s
  obtain ⟨hg, hs, hp⟩ := J3S ht
  obtain ⟨g1, g2, g3⟩ := Jr hg
  have cs := fun k => JV hs k
  obtain ⟨rl, rb⟩ := J3Z (i := client.toNat) hg (by omega)
  have si := J4G (row := E.getD client.toNat []) (set := set) (n := (U.length : Int)) (fun k hk => by have := cs k hk; omega) hp
  refine ⟨?_, ?_, ?_, ?_, ?_⟩
  ·omega
  ·omega
  ·omega
  ·refine ⟨(set.getD 0 0), 0, ?_⟩
   refine ⟨?_, rfl, rfl, rfl, rfl, rfl, rfl, rfl⟩
   ·refine ⟨?_, ?_, ?_⟩
    ·omega
    ·omega
    ·rfl
  intro best k hJ
  obtain ⟨h1, h2, h3⟩ := hJ
  refine ⟨?_, ?_⟩
  ·intro b1
   try simp only [nrmT] at b1
   refine ⟨?_, ?_, ?_, rfl, ?_, ?_, ?_, ?_, ?_, ?_, ?_, ?_, ?_, ?_, ?_, ?_, ?_, ?_⟩
   ·omega
   ·omega
   ·omega
   ·omega
   ·omega
   ·omega
   ·have := cs k.toNat (by omega)
    omega
   ·have := cs k.toNat (by omega)
    omega
   ·have := cs k.toNat (by omega)
    omega
   ·omega
   ·omega
   ·omega
   ·have := si k.toNat (by omega)
    omega
   ·have := si k.toNat (by omega)
    omega
   ·have := si k.toNat (by omega)
    omega
   ·intro b2
    try simp only [nrmT] at b2
    refine ⟨?_, ?_⟩
    ·omega
    refine ⟨(set.getD k.toNat 0), (k + 1), ?_⟩
    refine ⟨?_, ?_, rfl, rfl, rfl, rfl, rfl, rfl, rfl⟩
    ·refine ⟨?_, ?_, ?_⟩
     ·omega
     ·omega
     ·rw [show (k + 1).toNat = k.toNat + 1 by omega, J2q, ← h3]; unfold J59; rw [if_pos b2]
    (simp only [JC]; omega)
   intro b3
   try simp only [nrmT] at b3
   refine ⟨?_, ?_⟩
   ·omega
   refine ⟨best, (k + 1), ?_⟩
   refine ⟨?_, ?_, rfl, rfl, rfl, rfl, rfl, rfl, rfl⟩
   ·refine ⟨?_, ?_, ?_⟩
    ·omega
    ·omega
    ·rw [show (k + 1).toNat = k.toNat + 1 by omega, J2q, ← h3]; unfold J59; rw [if_neg (by omega)]
   (simp only [JC]; omega)
  intro b4
  try simp only [nrmT] at b4
  rw [h3, show k.toNat = set.length by omega]
theorem J6T (U : ZI) (E : ZR) (client : Int) (set : ZI) (ht : (J2 U E && J3 set 0 ((U.length : Int) - 1) && decide (0 < set.length)) = true) (hc : 0 ≤ client ∧ client < (E.length : Int)) : PC Tryz.prog 212 [.agg [.sl (.ints U), .sl (.rows E)], .int .i64 client, .sl (.ints set)] (.one (.d (.int .i64 (J03 (E.getD client.toNat []) set set.length)))) :=
  pc_wf @Tryz.call212 fun hw => pc_by (by kernel_rfl) Tryz.func212 @Tryz.call212 (by kernel_rfl) J7v (J7R U E client set) (by kernel_rfl) (J73 U E client set ht hc hw.1.1 hw.1.2.1.1 hw.1.2.1.2 hw.2.2.1) (by kernel_rfl)
def J67 : List D → Orc := orcN [none, none, some .ints] fun ds => match ds with
  | [.agg [.sl (.ints U), .sl (.rows E)], .int .i64 client, .sl (.ints set)] => some (.one (.d (.int .i64 (J03 (E.getD client.toNat []) set set.length))))
  | _ => none
def Jn (E : ZR) (set : ZI) (n : Nat) : ZI := (List.range n).map fun i => J03 (E.getD i []) set set.length
def J2y (E : ZR) (set : ZI) (i : Nat) : Int := (E.getD i []).getD (J03 (E.getD i []) set set.length).toNat 0
def JB (E : ZR) (set : ZI) (n : Nat) : ZI := (List.range n).map (J2y E set)
theorem J9B (E : ZR) (set : ZI) (n : Nat) : (Jn E set n).length = n := by simp [Jn]
theorem J2P (E : ZR) (set : ZI) (n : Nat) : (JB E set n).length = n := by simp [JB]
theorem J4h (E : ZR) (set : ZI) (n i : Nat) (h : i < n) : (Jn E set n).getD i 0 = J03 (E.getD i []) set set.length := by simp [Jn, h]
theorem Jc2 (E : ZR) (set : ZI) (n i : Nat) (h : i < n) : (JB E set n).getD i 0 = J2y E set i := by simp [JB, h]
theorem JcJ (E : ZR) (set : ZI) (n : Nat) : Jn E set (n + 1) = Jn E set n ++ [J03 (E.getD n []) set set.length] := by simp [Jn, List.range_succ]
theorem JcG (E : ZR) (set : ZI) (n : Nat) : JB E set (n + 1) = JB E set n ++ [J2y E set n] := by simp [JB, List.range_succ]
abbrev J0X (U : ZI) (E : ZR) (set : ZI) (out : ZI) (i : Int) : Prop := (0 ≤ i) ∧ (i ≤ (E.length : Int)) ∧ (out = Jn E set i.toNat)
abbrev J0Z (U : ZI) (E : ZR) (set : ZI) (out : ZI) (i : Int) : Nat := (E.length - i).toNat
def J7D (f : FuncId) (ds : List D) : Orc := bif Nat.beq f 212 then J67 ds else .no
def J7u (U : ZI) (E : ZR) (set : ZI) : Ann := .two (.none) (.two (.none) (.two (.two (.none) (.loop (cut2 (fun (out : ZI) (i : Int) => J0X U E set out i) (fun (out : ZI) (i : Int) => [(1, .d false (.sl (.ints set))), (2, .ptr 2 0), (5, .own 1000000 out.length), (10, .d true (.int .i64 (E.length : Int))), (11, .d true (.int .i64 i))]) (fun (out : ZI) (i : Int) => [(1000000, .arr true 3 (.ints out)), (2, .box 27 [.d false (.sl (.ints U)), .d false (.sl (.rows E))])])) (fun g => J0Z U E set g.1 g.2) (fun _ => .none))) (.none)))
def J4t (U : ZI) (E : ZR) (set : ZI) : Prop :=
  ((∃ out' : ZI, ∃ i' : Int, (J0X U E set out' i') ∧ (set = set) ∧ ((0 : Nat) = out'.length) ∧ ((E.length : Int) = (E.length : Int)) ∧ ((0 : Int) = i') ∧ ([] = out') ∧ (U = U) ∧ (E = E)) ∧ (∀ out : ZI, ∀ i : Int, (J0X U E set out i) → (((decide (i < (E.length : Int))) = true → (PC Tryz.prog 212 [.agg [.sl (.ints U), .sl (.rows E)], .int .i64 i, .sl (.ints set)] (.one (.d (.int .i64 (J03 (E.getD i.toNat []) set set.length))))) ∧ (out.length = out.length) ∧ ((1 : Nat) = 1) ∧ ((out.length + 1) * 8 ≤ 140737488355328) ∧ (I6 (i + 1)) ∧ (∃ out' : ZI, ∃ i' : Int, (J0X U E set out' i') ∧ (J0Z U E set out' i' < J0Z U E set out i) ∧ (set = set) ∧ ((out.length + 1) = out'.length) ∧ ((E.length : Int) = (E.length : Int)) ∧ ((i + 1) = i') ∧ ((out ++ [(J03 (E.getD i.toNat []) set set.length)]) = out') ∧ (U = U) ∧ (E = E))) ∧ ((decide (i < (E.length : Int))) = false → ((out.length = out.length) ∧ ((out : ZI) = Jn E set E.length))))))
theorem J6I (U : ZI) (E : ZR) (set : ZI) (ht : (J2 U E && J3 set 0 ((U.length : Int) - 1) && decide (0 < set.length)) = true) (w_Open : (U.length : Int) ≤ 9223372036854775807) (w_Dist : (E.length : Int) ≤ 9223372036854775807) (v_Dist : ∀ x9 ∈ E, (x9.length : Int) ≤ 9223372036854775807) (w_set : (set.length : Int) ≤ 9223372036854775807) : J4t U E set := by
  unfold J4t
  obtain ⟨hg, hs, hp⟩ := J3S ht
  obtain ⟨g1, g2, g3⟩ := Jr hg
  have cs := fun k => JV hs k
  have si := fun (i : Nat) (hi : i < E.length) => J4G (row := E.getD i []) (set := set) (n := (U.length : Int)) (fun k hk => by have := cs k hk; omega) hp set.length (Nat.le_refl _)
  refine ⟨?_, ?_⟩
  ·refine ⟨([]), 0, ?_⟩
   refine ⟨?_, rfl, rfl, rfl, rfl, ?_, rfl, rfl⟩
   ·refine ⟨?_, ?_, ?_⟩
    ·omega
    ·omega
    ·rfl
   rfl
  intro out i hJ
  obtain ⟨h1, h2, h3⟩ := hJ
  refine ⟨?_, ?_⟩
  ·intro b1
   try simp only [nrmT] at b1
   refine ⟨?_, rfl, rfl, ?_, ?_, ?_⟩
   ·refine J6T U E i set ?_ ?_
    ·omega
    ·omega
   ·rw [h3, J9B]; omega
   ·omega
   refine ⟨(out ++ [(J03 (E.getD i.toNat []) set set.length)]), (i + 1), ?_⟩
   refine ⟨?_, ?_, rfl, ?_, rfl, rfl, rfl, rfl, rfl⟩
   ·refine ⟨?_, ?_, ?_⟩
    ·omega
    ·omega
    ·rw [h3, show (i + 1).toNat = i.toNat + 1 by omega, JcJ]
   ·(simp only [J0Z]; omega)
   (simp_all; done)
  intro b2
  try simp only [nrmT] at b2
  refine ⟨rfl, ?_⟩
  ·rw [h3, show i.toNat = E.length by omega]
theorem J6L (U : ZI) (E : ZR) (set : ZI) (ht : (J2 U E && J3 set 0 ((U.length : Int) - 1) && decide (0 < set.length)) = true) : PC Tryz.prog 151 [.agg [.sl (.ints U), .sl (.rows E)], .sl (.ints set)] (.one (.own 3 (.ints (Jn E set E.length)))) :=
  pc_wf @Tryz.call151 fun hw => pc_by (by kernel_rfl) Tryz.func151 @Tryz.call151 (by kernel_rfl) J7D (J7u U E set) (by kernel_rfl) (J6I U E set ht hw.1.1 hw.1.2.1.1 hw.1.2.1.2 hw.2.1) (by kernel_rfl)
def J68 : List D → Orc := orcN [none, some .ints] fun ds => match ds with
  | [.agg [.sl (.ints U), .sl (.rows E)], .sl (.ints set)] => some (.one (.own 3 (.ints (Jn E set E.length))))
  | _ => none
abbrev J0O (U : ZI) (E : ZR) (set : ZI) (out : ZI) (i : Int) : Prop := (0 ≤ i) ∧ (i ≤ (E.length : Int)) ∧ (out = JB E set i.toNat)
abbrev J0Q (U : ZI) (E : ZR) (set : ZI) (out : ZI) (i : Int) : Nat := (E.length - i).toNat
def J70 (f : FuncId) (ds : List D) : Orc := bif Nat.beq f 151 then J68 ds else .no
def J74 (U : ZI) (E : ZR) (set : ZI) : Ann := .two (.none) (.two (.none) (.two (.two (.none) (.loop (cut2 (fun (out : ZI) (i : Int) => J0O U E set out i) (fun (out : ZI) (i : Int) => [(2, .ptr 2 0), (5, .own 1000000 out.length), (11, .own 11 ((Jn E set E.length).length)), (12, .d true (.int .i64 (((Jn E set E.length).length) : Int))), (13, .d true (.int .i64 i))]) (fun (out : ZI) (i : Int) => [(1000000, .arr true 3 (.ints out)), (2, .box 27 [.d false (.sl (.ints U)), .d false (.sl (.rows E))]), (11, .arr true 3 (.ints (Jn E set E.length)))])) (fun g => J0Q U E set g.1 g.2) (fun _ => .none))) (.none)))
def J47 (U : ZI) (E : ZR) (set : ZI) : Prop :=
  (PC Tryz.prog 151 [.agg [.sl (.ints U), .sl (.rows E)], .sl (.ints set)] (.one (.own 3 (.ints (Jn E set E.length))))) ∧ ((∃ out' : ZI, ∃ i' : Int, (J0O U E set out' i') ∧ ((0 : Nat) = out'.length) ∧ ((Jn E set E.length).length = (Jn E set E.length).length) ∧ ((((Jn E set E.length).length) : Int) = (((Jn E set E.length).length) : Int)) ∧ ((0 : Int) = i') ∧ ([] = out') ∧ (U = U) ∧ (E = E) ∧ (Jn E set E.length = Jn E set E.length)) ∧ (∀ out : ZI, ∀ i : Int, (J0O U E set out i) → (((decide (i < (((Jn E set E.length).length) : Int))) = true → ((0 : Int) ≤ i) ∧ ((i : Int) < (((Jn E set E.length).length) : Int)) ∧ (i.toNat < (Jn E set E.length).length) ∧ ((0 : Int) ≤ i) ∧ ((i : Int) < E.length) ∧ (i.toNat < E.length) ∧ ((0 : Int) ≤ ((Jn E set E.length).getD i.toNat 0)) ∧ ((((Jn E set E.length).getD i.toNat 0) : Int) < (E.getD i.toNat []).length) ∧ (((Jn E set E.length).getD i.toNat 0).toNat < (E.getD i.toNat []).length) ∧ (out.length = out.length) ∧ ((1 : Nat) = 1) ∧ ((out.length + 1) * 8 ≤ 140737488355328) ∧ (I6 (i + 1)) ∧ (∃ out' : ZI, ∃ i' : Int, (J0O U E set out' i') ∧ (J0Q U E set out' i' < J0Q U E set out i) ∧ ((out.length + 1) = out'.length) ∧ ((Jn E set E.length).length = (Jn E set E.length).length) ∧ ((((Jn E set E.length).length) : Int) = (((Jn E set E.length).length) : Int)) ∧ ((i + 1) = i') ∧ ((out ++ [((E.getD i.toNat []).getD (((Jn E set E.length).getD i.toNat 0).toNat) 0)]) = out') ∧ (U = U) ∧ (E = E) ∧ (Jn E set E.length = Jn E set E.length))) ∧ ((decide (i < (((Jn E set E.length).length) : Int))) = false → ((out.length = out.length) ∧ ((out : ZI) = JB E set E.length))))))
theorem J6u (U : ZI) (E : ZR) (set : ZI) (ht : (J2 U E && J3 set 0 ((U.length : Int) - 1) && decide (0 < set.length)) = true) (w_Open : (U.length : Int) ≤ 9223372036854775807) (w_Dist : (E.length : Int) ≤ 9223372036854775807) (v_Dist : ∀ x9 ∈ E, (x9.length : Int) ≤ 9223372036854775807) (w_set : (set.length : Int) ≤ 9223372036854775807) : J47 U E set := by
  unfold J47
  obtain ⟨hg, hs, hp⟩ := J3S ht
  obtain ⟨g1, g2, g3⟩ := Jr hg
  have cs := fun k => JV hs k
  have si := fun (i : Nat) (hi : i < E.length) => J4G (row := E.getD i []) (set := set) (n := (U.length : Int)) (fun k hk => by have := cs k hk; omega) hp set.length (Nat.le_refl _)
  have e0 := J9B E set E.length
  refine ⟨?_, ?_, ?_⟩
  ·refine J6L U E set ?_
   ·omega
  ·refine ⟨([]), 0, ?_⟩
   refine ⟨?_, rfl, rfl, rfl, rfl, ?_, rfl, rfl, rfl⟩
   ·refine ⟨?_, ?_, ?_⟩
    ·omega
    ·omega
    ·rfl
   rfl
  intro out i hJ
  obtain ⟨h1, h2, h3⟩ := hJ
  refine ⟨?_, ?_⟩
  ·intro b1
   try simp only [nrmT] at b1
   refine ⟨?_, ?_, ?_, ?_, ?_, ?_, ?_, ?_, ?_, rfl, rfl, ?_, ?_, ?_⟩
   ·omega
   ·omega
   ·omega
   ·omega
   ·omega
   ·omega
   ·rw [J4h _ _ _ _ (by omega)]; obtain ⟨rl, rb⟩ := J3Z (i := i.toNat) hg (by omega); have := si i.toNat (by omega); omega
   ·rw [J4h _ _ _ _ (by omega)]; obtain ⟨rl, rb⟩ := J3Z (i := i.toNat) hg (by omega); have := si i.toNat (by omega); omega
   ·rw [J4h _ _ _ _ (by omega)]; obtain ⟨rl, rb⟩ := J3Z (i := i.toNat) hg (by omega); have := si i.toNat (by omega); omega
   ·rw [h3, J2P]; omega
   ·omega
   refine ⟨(out ++ [((E.getD i.toNat []).getD (((Jn E set E.length).getD i.toNat 0).toNat) 0)]), (i + 1), ?_⟩
   refine ⟨?_, ?_, ?_, rfl, rfl, rfl, rfl, rfl, rfl, rfl⟩
   ·refine ⟨?_, ?_, ?_⟩
    ·omega
    ·omega
    ·rw [h3, show (i + 1).toNat = i.toNat + 1 by omega, JcG, J4h _ _ _ _ (by omega)]; rfl
   ·(simp only [J0Q]; omega)
   (simp_all; done)
  intro b2
  try simp only [nrmT] at b2
  refine ⟨rfl, ?_⟩
  ·rw [h3, show i.toNat = E.length by omega]
theorem J6i (U : ZI) (E : ZR) (set : ZI) (ht : (J2 U E && J3 set 0 ((U.length : Int) - 1) && decide (0 < set.length)) = true) : PC Tryz.prog 149 [.agg [.sl (.ints U), .sl (.rows E)], .sl (.ints set)] (.one (.own 3 (.ints (JB E set E.length)))) :=
  pc_wf @Tryz.call149 fun hw => pc_by (by kernel_rfl) Tryz.func149 @Tryz.call149 (by kernel_rfl) J70 (J74 U E set) (by kernel_rfl) (J6u U E set ht hw.1.1 hw.1.2.1.1 hw.1.2.1.2 hw.2.1) (by kernel_rfl)
def J5z : List D → Orc := orcN [none, some .ints] fun ds => match ds with
  | [.agg [.sl (.ints U), .sl (.rows E)], .sl (.ints set)] => some (.one (.own 3 (.ints (JB E set E.length))))
  | _ => none
theorem J8l {row set : ZI} (hp : 0 < set.length) : ∀ k, k ≤ set.length → J03 row set k ∈ set
  | 0, _ => getD_mem hp
  | k + 1, hk => by
    rw [J2q]
    unfold J59
    split
    · exact getD_mem (by omega)
    exact J8l hp k (by omega)
theorem J9J {xs : ZI} {lo hi : Int} (h : J3 xs lo hi = true) {i : Nat} : ∀ {j : Nat}, i < j → j < xs.length → xs.getD i 0 < xs.getD j 0
  | 0, hi, _ => by omega
  | j + 1, hi, hj => by
    have h1 := allTo_iff.1 h (j + 1) hj
    simp only [J1v, Bool.and_eq_true, Bool.or_eq_true, decide_eq_true_eq, Nat.add_sub_cancel] at h1
    have h2 := h1.2
    by_cases e : i = j
    · subst e; omega
    have := J9J h (i := i) (j := j) (by omega) (by omega)
    omega
def Jcu (f : FuncId) (ds : List D) : Orc := .no
def Jcc (a : Int) (b : Int) : Ann := .none
def J8M (a : Int) (b : Int) : Prop :=
  (((decide (a > b)) = true → ((a = (max a b)))) ∧ ((decide (a > b)) = false → ((b = (max a b)))))
theorem Jbi (a : Int) (b : Int)   : J8M a b := by
  unfold J8M
  refine ⟨?_, ?_⟩
  ·intro b1
   try simp only [nrmT] at b1
   omega
  intro b2
  try simp only [nrmT] at b2
  omega
theorem JbJ (a : Int) (b : Int)  : PC Tryz.prog 154 [.int .i64 a, .int .i64 b] (.one (.d (.int .i64 (max a b)))) :=
  pc_wf @Tryz.call154 fun _ => pc_by (by kernel_rfl) Tryz.func154 @Tryz.call154 (by kernel_rfl) Jcu (Jcc a b) (by kernel_rfl) (Jbi a b) (by kernel_rfl)
def JaS : List D → Orc := orcN [none, none] fun ds => match ds with
  | [.int .i64 a, .int .i64 b] => some (.one (.d (.int .i64 (max a b))))
  | _ => none
def Jdg (f : FuncId) (ds : List D) : Orc := .no
def JcZ (l : ZI) : Ann := .none
def J9G (l : ZI) : Prop :=
  ((0 : Nat) = 0) ∧ (True) ∧ ((0 + l.length) * 8 ≤ 140737488355328) ∧ (((0 + l.length) = ([] ++ l).length) ∧ ((([] ++ l) : ZI) = l))
theorem JcH (l : ZI) (hl : l.length ≤ 1048576) (w_l : (l.length : Int) ≤ 9223372036854775807) : J9G l := by
  unfold J9G
  refine ⟨rfl, trivial, ?_, ?_, ?_⟩
  ·omega
  ·(simp_all; done)
  rfl
theorem J5j (l : ZI) (hl : l.length ≤ 1048576) : PC Tryz.prog 98 [.sl (.ints l)] (.one (.own 3 (.ints l))) :=
  pc_wf @Tryz.call98 fun hw => pc_by (by kernel_rfl) Tryz.func98 @Tryz.call98 (by kernel_rfl) Jdg (JcZ l) (by kernel_rfl) (JcH l hl hw.1) (by kernel_rfl)
def J76 : List D → Orc := orcN [some .ints] fun ds => match ds with
  | [.sl (.ints l)] => some (.one (.own 3 (.ints l)))
  | _ => none
theorem JcF (f : Nat → Int) (n : Nat) : J1m f (n + 1) = J1m f n + f n := rfl
theorem J5i {xs : ZI} {lo hi : Int} (h : J3 xs lo hi = true) : Asc xs := by
  refine List.pairwise_iff_getElem.2 fun i j hi hj hij => ?_
  have := J9J h hij hj
  rwa [Js hi, Js hj] at this
theorem J6t (set cov : ZI) : J10 set cov = ((set.filter (fun x => !(cov.contains x))).length : Int) := by
  have key : ∀ k, k ≤ set.length → J1m (J4j set cov) k = (((set.take k).filter (fun x => !(cov.contains x))).length : Int) := by
    intro k
    induction k with
    | zero => intro _; simp [J1m, foldTo]
    | succ k ih =>
      intro hk
      rw [JcF, ih (by omega), List.take_add_one]
      have hlt : k < set.length := by omega
      simp only [List.getElem?_eq_getElem hlt, Option.toList_some, List.filter_append, List.length_append]
      unfold J4j
      rw [Js hlt]
      cases hc : cov.contains set[k] <;> simp only [hc, List.filter_cons, List.filter_nil, Bool.not_true, Bool.not_false, if_true, if_false] <;> simp <;> omega
  unfold J10
  rw [key _ (Nat.le_refl _), List.take_length]
def JM (n : Nat) : Int := ((members (fun k => n.testBit k) 8).length : Int)
theorem Jcl (n : Nat) : 0 ≤ JM n ∧ JM n ≤ 8 := by
  have := members_len_le (fun k => n.testBit k) 8
  unfold JM; omega
/-- The bag of a choice, whatever its order. -/
theorem J8h {Size : Int} {Sets : ZR} {Costs out : ZI} (h : J1 Size Sets Costs = true) (hc : ∀ c ∈ out, 0 ≤ c ∧ c < (Sets.length : Int)) {x : Nat} : ∀ k, k ≤ out.length →
    ((Je Sets out k).testBit x = true ↔ ∃ j, j < k ∧ (x : Int) ∈ Sets.getD (out.getD j 0).toNat [])
  | 0, _ => by simp [Je, foldTo]
  | k + 1, hk => by
    have e : Je Sets out (k + 1) = Je Sets out k ||| bagN (Sets.getD (out.getD k 0).toNat []) := rfl
    have h1 := hc _ (getD_mem (d := 0) (show k < out.length by omega))
    rw [e, Nat.testBit_or, Bool.or_eq_true, J8h h hc k (by omega), bagN_bit (fun y hy => (J1w h (k := (out.getD k 0).toNat) (by omega) y hy).1), List.contains_iff_mem]
    constructor
    · rintro (⟨j, h1, h2⟩ | h)
      · exact ⟨j, by omega, h2⟩
      · exact ⟨k, by omega, h⟩
    rintro ⟨j, h1, h2⟩
    by_cases e : j = k
    · subst e; exact .inr h2
    exact .inl ⟨j, by omega, h2⟩
theorem J9y {Size : Int} {Sets : ZR} {Costs out : ZI} (h : J1 Size Sets Costs = true) (hc : ∀ c ∈ out, 0 ≤ c ∧ c < (Sets.length : Int)) : ∀ k, k ≤ out.length → Je Sets out k < 2 ^ Size.toNat
  | 0, _ => Nat.two_pow_pos _
  | k + 1, hk => by
    have e : Je Sets out (k + 1) = Je Sets out k ||| bagN (Sets.getD (out.getD k 0).toNat []) := rfl
    rw [e]
    have h1 := hc _ (getD_mem (d := 0) (show k < out.length by omega))
    exact Nat.or_lt_two_pow (J9y h hc k (by omega)) (bagN_lt (m := Size.toNat) fun y hy => J5e h (k := (out.getD k 0).toNat) (by omega) y hy)
theorem Jdq {Size : Int} {Sets : ZR} {Costs out : ZI} (h : J1 Size Sets Costs = true) (hc : ∀ c ∈ out, 0 ≤ c ∧ c < (Sets.length : Int)) (x : Nat) :
    (Je Sets out out.length).testBit x = (Jl Sets out out.length).contains (x : Int) := by
  rw [Bool.eq_iff_iff, J8h h hc _ (Nat.le_refl _), List.contains_iff_mem, J2M]
/-- How many elements of set i are new, told by bags and by lists. -/
theorem J52 {Size : Int} {Sets : ZR} {Costs out : ZI} (h : J1 Size Sets Costs = true) (hc : ∀ c ∈ out, 0 ≤ c ∧ c < (Sets.length : Int)) {i : Nat} (hi : i < Sets.length) :
    JM (bagN (Sets.getD i []) ^^^ (bagN (Sets.getD i []) &&& Je Sets out out.length)) = J10 (Sets.getD i []) (Jl Sets out out.length) := by
  rw [J6t]
  unfold JM
  congr 1
  congr 1
  have ha := J5i (J4q h hi)
  refine asc_ext (asc_members _ _) (ha.sublist List.filter_sublist) fun x => ?_
  rw [mem_members, List.mem_filter]
  have hb : ∀ n : Nat, (bagN (Sets.getD i []) ^^^ (bagN (Sets.getD i []) &&& Je Sets out out.length)).testBit n = ((Sets.getD i []).contains (n : Int) && !((Jl Sets out out.length).contains (n : Int))) := by
    intro n
    rw [Nat.testBit_xor, Nat.testBit_and, bagN_bit (fun y hy => (J1w h hi y hy).1), Jdq h hc]
    cases (Sets.getD i []).contains (n : Int) <;> cases (Jl Sets out out.length).contains (n : Int) <;> rfl
  constructor
  · rintro ⟨h1, h2, h3⟩
    rw [hb, show ((x.toNat : Nat) : Int) = x by omega, Bool.and_eq_true, List.contains_iff_mem] at h3
    exact h3
  rintro ⟨h1, h2⟩
  have h3 := J1w h hi x h1
  refine ⟨h3.1, by omega, ?_⟩
  rw [hb, show ((x.toNat : Nat) : Int) = x by omega, Bool.and_eq_true, List.contains_iff_mem]
  exact ⟨h1, h2⟩
def JG (Sets : ZR) (out : ZI) (i : Nat) : Int := J10 (Sets.getD i []) (Jl Sets out out.length)
def gcF (Sets : ZR) (out : ZI) (b : Int × Int) (i : Nat) : Int × Int := if JG Sets out i > b.2 then ((i : Int), JG Sets out i) else b
def Jo (Sets : ZR) (out : ZI) (k : Nat) : Int × Int := foldTo (gcF Sets out) (-1, 0) k
theorem J0C (Sets : ZR) (out : ZI) (k : Nat) : Jo Sets out (k + 1) = gcF Sets out (Jo Sets out k) k := rfl
theorem JL (Sets : ZR) (out : ZI) : ∀ k, -1 ≤ (Jo Sets out k).1 ∧ (Jo Sets out k).1 < k
  | 0 => by simp [Jo, foldTo]
  | k + 1 => by
    have := JL Sets out k
    rw [J0C]
    unfold gcF
    split <;> omega
def JT (Sets : ZR) : Nat → ZI → ZI
  | 0, out => out
  | n + 1, out => if (Jo Sets out Sets.length).1 < 0 then out else JT Sets n (out ++ [(Jo Sets out Sets.length).1])
theorem J9r (Sets : ZR) : ∀ n out, (JT Sets n out).length ≤ out.length + n
  | 0, _ => Nat.le_refl _
  | n + 1, out => by
    unfold JT
    split
    · omega
    have := J9r Sets n (out ++ [(Jo Sets out Sets.length).1])
    simp only [List.length_append, List.length_cons, List.length_nil] at this
    omega
def gcL (Size : Int) (Sets : ZR) (Costs : ZI) (k : Int) : ZI := if (J1 Size Sets Costs && inB k 0 8) = true then JT Sets k.toNat [] else []
theorem JcN {Sets : ZR} {out : ZI} {b : Int} : Je Sets (out ++ [b]) (out ++ [b]).length = Je Sets out out.length ||| bagN (Sets.getD b.toNat []) := by
  have key : ∀ k, k ≤ out.length → Je Sets (out ++ [b]) k = Je Sets out k := by
    intro k hk
    unfold Je
    refine foldTo_congr fun j x hj => ?_
    simp only [List.getD_eq_getElem?_getD]
    rw [List.getElem?_append_left (by omega)]
  rw [List.length_append, List.length_cons, List.length_nil]
  show Je Sets (out ++ [b]) out.length ||| _ = _
  rw [key _ (Nat.le_refl _)]
  simp
theorem Jds {Sets : ZR} {out : ZI} {b : Int} : Jl Sets (out ++ [b]) (out ++ [b]).length = J1U (Jl Sets out out.length) (Sets.getD b.toNat []) (Sets.getD b.toNat []).length := by
  have key : ∀ k, k ≤ out.length → Jl Sets (out ++ [b]) k = Jl Sets out k := by
    intro k hk
    unfold Jl
    refine foldTo_congr fun j x hj => ?_
    simp only [List.getD_eq_getElem?_getD]
    rw [List.getElem?_append_left (by omega)]
  rw [List.length_append, List.length_cons, List.length_nil]
  show J1U (Jl Sets (out ++ [b]) out.length) _ _ = _
  rw [key _ (Nat.le_refl _)]
  simp
def oc1 (n : Nat) : Nat := (n / 2 ^ 1 &&& 6148914691236517205) + (n &&& 6148914691236517205)
def oc2 (n : Nat) : Nat := (oc1 n / 2 ^ 2 &&& 3689348814741910323) + (oc1 n &&& 3689348814741910323)
def oc3 (n : Nat) : Nat := (oc2 n / 2 ^ 4 + oc2 n) &&& 1085102592571150095
def oc4 (n : Nat) : Nat := oc3 n + oc3 n / 2 ^ 8
def oc5 (n : Nat) : Nat := oc4 n + oc4 n / 2 ^ 16
def oc6 (n : Nat) : Nat := oc5 n + oc5 n / 2 ^ 32
theorem ocb : ∀ n, n < 256 → oc1 n < 65536 ∧ oc2 n < 65536 ∧ oc3 n < 65536 ∧ oc4 n < 65536 ∧ oc5 n < 65536 ∧ oc6 n < 65536 ∧ (oc6 n &&& 127) = (members (fun k => n.testBit k) 8).length := by decide +kernel
theorem Jc3 (m k : Nat) : ((m : Nat) : Int) / 2 ^ k = ((m / 2 ^ k : Nat) : Int) := by simp
theorem J6B (m k : Nat) : 0 ≤ ((m : Nat) : Int) / 2 ^ k ∧ ((m : Nat) : Int) / 2 ^ k ≤ (m : Int) := by
  rw [Jc3]
  exact ⟨Int.natCast_nonneg _, by exact_mod_cast Nat.div_le_self m (2 ^ k)⟩
theorem Jc7 (m k M : Nat) : (((((m : Nat) : Int) / 2 ^ k).toNat &&& M : Nat) : Int) + ((((m : Nat) : Int).toNat &&& M : Nat) : Int) = (((m / 2 ^ k &&& M) + (m &&& M) : Nat) : Int) := by
  rw [Jc3, Int.toNat_natCast, Int.toNat_natCast]; simp
theorem st3 (m k M : Nat) : (((((m : Nat) : Int) / 2 ^ k + ((m : Nat) : Int)).toNat &&& M : Nat) : Int) = (((m / 2 ^ k + m) &&& M : Nat) : Int) := by
  rw [Jc3, ← Int.natCast_add, Int.toNat_natCast]
theorem st4 (m k : Nat) : ((m : Nat) : Int) + ((m : Nat) : Int) / 2 ^ k = ((m + m / 2 ^ k : Nat) : Int) := by
  rw [Jc3, ← Int.natCast_add]
abbrev J0l (x : Int) (y : Int) : Prop := (y = ((oc1 x.toNat : Nat) : Int))
abbrev J0m (x : Int) (y : Int) (y : Int) : Prop := (y = ((oc2 x.toNat : Nat) : Int))
abbrev J0q (x : Int) (y : Int) (y : Int) (y : Int) : Prop := (y = ((oc3 x.toNat : Nat) : Int))
abbrev J0r (x : Int) (y : Int) (y : Int) (y : Int) (y : Int) : Prop := (y = ((oc4 x.toNat : Nat) : Int))
abbrev J0y (x : Int) (y : Int) (y : Int) (y : Int) (y : Int) (y : Int) : Prop := (y = ((oc5 x.toNat : Nat) : Int))
abbrev J0k (x : Int) (y : Int) (y : Int) (y : Int) (y : Int) (y : Int) (y : Int) : Prop := (y = ((oc6 x.toNat : Nat) : Int))
def J6n (f : FuncId) (ds : List D) : Orc := .no
def J5R (x : Int) : Ann := .two (.none) (.cut (.none) (cut1 (fun (y : Int) => J0l x y) (fun (y : Int) => [(0, .d true (.int .u64 y))]) (fun (y : Int) => [])) (fun g => (fun (y : Int) => .cut (.none) (cut1 (fun (y : Int) => J0m x y y) (fun (y : Int) => [(0, .d true (.int .u64 y))]) (fun (y : Int) => [])) (fun g => (fun (y : Int) => .cut (.none) (cut1 (fun (y : Int) => J0q x y y y) (fun (y : Int) => [(0, .d true (.int .u64 y))]) (fun (y : Int) => [])) (fun g => (fun (y : Int) => .cut (.none) (cut1 (fun (y : Int) => J0r x y y y y) (fun (y : Int) => [(0, .d true (.int .u64 y))]) (fun (y : Int) => [])) (fun g => (fun (y : Int) => .cut (.none) (cut1 (fun (y : Int) => J0y x y y y y y) (fun (y : Int) => [(0, .d true (.int .u64 y))]) (fun (y : Int) => [])) (fun g => (fun (y : Int) => .cut (.none) (cut1 (fun (y : Int) => J0k x y y y y y y) (fun (y : Int) => [(0, .d true (.int .u64 y))]) (fun (y : Int) => [])) (fun _ => .none)) g)) g)) g)) g)) g))
def J3U (x : Int) : Prop :=
  ((((0 : Int) ≤ x ∧ (x : Int) ≤ 18446744073709551615) ∧ ((0 : Int) ≤ 1) ∧ ((0 : Int) ≤ (x / 2 ^ 1) ∧ ((x / 2 ^ 1) : Int) ≤ 18446744073709551615) ∧ ((0 : Int) ≤ 6148914691236517205 ∧ (6148914691236517205 : Int) ≤ 18446744073709551615) ∧ ((0 : Int) ≤ x ∧ (x : Int) ≤ 18446744073709551615) ∧ ((0 : Int) ≤ 6148914691236517205 ∧ (6148914691236517205 : Int) ≤ 18446744073709551615) ∧ (0 ≤ ((((x / 2 ^ 1).toNat &&& 6148914691236517205 : Nat) : Int) + ((x.toNat &&& 6148914691236517205 : Nat) : Int)) ∧ ((((x / 2 ^ 1).toNat &&& 6148914691236517205 : Nat) : Int) + ((x.toNat &&& 6148914691236517205 : Nat) : Int)) ≤ 18446744073709551615) ∧ (∃ y' : Int, (J0l x y') ∧ (((((x / 2 ^ 1).toNat &&& 6148914691236517205 : Nat) : Int) + ((x.toNat &&& 6148914691236517205 : Nat) : Int)) = y'))) ∧ (∀ y : Int, (J0l x y) → ((((0 : Int) ≤ y ∧ (y : Int) ≤ 18446744073709551615) ∧ ((0 : Int) ≤ 2) ∧ ((0 : Int) ≤ (y / 2 ^ 2) ∧ ((y / 2 ^ 2) : Int) ≤ 18446744073709551615) ∧ ((0 : Int) ≤ 3689348814741910323 ∧ (3689348814741910323 : Int) ≤ 18446744073709551615) ∧ ((0 : Int) ≤ y ∧ (y : Int) ≤ 18446744073709551615) ∧ ((0 : Int) ≤ 3689348814741910323 ∧ (3689348814741910323 : Int) ≤ 18446744073709551615) ∧ (0 ≤ ((((y / 2 ^ 2).toNat &&& 3689348814741910323 : Nat) : Int) + ((y.toNat &&& 3689348814741910323 : Nat) : Int)) ∧ ((((y / 2 ^ 2).toNat &&& 3689348814741910323 : Nat) : Int) + ((y.toNat &&& 3689348814741910323 : Nat) : Int)) ≤ 18446744073709551615) ∧ (∃ y' : Int, (J0m x y y') ∧ (((((y / 2 ^ 2).toNat &&& 3689348814741910323 : Nat) : Int) + ((y.toNat &&& 3689348814741910323 : Nat) : Int)) = y'))) ∧ (∀ y : Int, (J0m x y y) → ((((0 : Int) ≤ y ∧ (y : Int) ≤ 18446744073709551615) ∧ ((0 : Int) ≤ 4) ∧ (0 ≤ ((y / 2 ^ 4) + y) ∧ ((y / 2 ^ 4) + y) ≤ 18446744073709551615) ∧ ((0 : Int) ≤ ((y / 2 ^ 4) + y) ∧ (((y / 2 ^ 4) + y) : Int) ≤ 18446744073709551615) ∧ ((0 : Int) ≤ 1085102592571150095 ∧ (1085102592571150095 : Int) ≤ 18446744073709551615) ∧ (∃ y' : Int, (J0q x y y y') ∧ (((((y / 2 ^ 4) + y).toNat &&& 1085102592571150095 : Nat) : Int) = y'))) ∧ (∀ y : Int, (J0q x y y y) → ((((0 : Int) ≤ y ∧ (y : Int) ≤ 18446744073709551615) ∧ ((0 : Int) ≤ 8) ∧ (0 ≤ (y + (y / 2 ^ 8)) ∧ (y + (y / 2 ^ 8)) ≤ 18446744073709551615) ∧ (∃ y' : Int, (J0r x y y y y') ∧ ((y + (y / 2 ^ 8)) = y'))) ∧ (∀ y : Int, (J0r x y y y y) → ((((0 : Int) ≤ y ∧ (y : Int) ≤ 18446744073709551615) ∧ ((0 : Int) ≤ 16) ∧ (0 ≤ (y + (y / 2 ^ 16)) ∧ (y + (y / 2 ^ 16)) ≤ 18446744073709551615) ∧ (∃ y' : Int, (J0y x y y y y y') ∧ ((y + (y / 2 ^ 16)) = y'))) ∧ (∀ y : Int, (J0y x y y y y y) → ((((0 : Int) ≤ y ∧ (y : Int) ≤ 18446744073709551615) ∧ ((0 : Int) ≤ 32) ∧ (0 ≤ (y + (y / 2 ^ 32)) ∧ (y + (y / 2 ^ 32)) ≤ 18446744073709551615) ∧ (∃ y' : Int, (J0k x y y y y y y') ∧ ((y + (y / 2 ^ 32)) = y'))) ∧ (∀ y : Int, (J0k x y y y y y y) → (I6 y) ∧ ((0 : Int) ≤ y ∧ (y : Int) ≤ 9223372036854775807) ∧ ((0 : Int) ≤ 127 ∧ (127 : Int) ≤ 9223372036854775807) ∧ ((((y.toNat &&& 127 : Nat) : Int) = (JM x.toNat)))))))))))))))
theorem J5B (x : Int) (hx : 0 ≤ x ∧ x < 256)  : J3U x := by
  unfold J3U
  obtain ⟨n, hn⟩ : ∃ n : Nat, x = (n : Int) := ⟨x.toNat, by omega⟩
  have ob := ocb n (by omega)
  refine ⟨?_, ?_⟩
  ·refine ⟨?_, ?_, ?_, ?_, ?_, ?_, ?_, ?_⟩
   ·subst hn
    first | rw [h6] | rw [h5] | rw [h4] | rw [h3] | rw [h2] | rw [h1] | skip
    try simp only [Int.toNat_natCast]
    omega
   ·omega
   ·subst hn
    first | rw [h6] | rw [h5] | rw [h4] | rw [h3] | rw [h2] | rw [h1] | skip
    try simp only [Int.toNat_natCast]
    have hd := fun m k => J6B m k
    (have := hd n 1; omega)
   ·omega
   ·subst hn
    first | rw [h6] | rw [h5] | rw [h4] | rw [h3] | rw [h2] | rw [h1] | skip
    try simp only [Int.toNat_natCast]
    omega
   ·omega
   ·subst hn
    first | rw [h6] | rw [h5] | rw [h4] | rw [h3] | rw [h2] | rw [h1] | skip
    rw [Jc7]
    try simp only [Int.toNat_natCast]
    (show 0 ≤ ((oc1 n : Nat) : Int) ∧ ((oc1 n : Nat) : Int) ≤ _; omega)
   ·refine ⟨((((x / 2 ^ 1).toNat &&& 6148914691236517205 : Nat) : Int) + ((x.toNat &&& 6148914691236517205 : Nat) : Int)), ?_⟩
    refine ⟨?_, rfl⟩
    ·unfold J0l
     subst hn
     first | rw [h6] | rw [h5] | rw [h4] | rw [h3] | rw [h2] | rw [h1] | skip
     rw [Jc7]
     try simp only [Int.toNat_natCast]
     rfl
  intro y hJ
  have h1 := hJ
  refine ⟨?_, ?_⟩
  ·refine ⟨?_, ?_, ?_, ?_, ?_, ?_, ?_, ?_⟩
   ·subst hn
    first | rw [h6] | rw [h5] | rw [h4] | rw [h3] | rw [h2] | rw [h1] | skip
    try simp only [Int.toNat_natCast]
    omega
   ·omega
   ·subst hn
    first | rw [h6] | rw [h5] | rw [h4] | rw [h3] | rw [h2] | rw [h1] | skip
    try simp only [Int.toNat_natCast]
    have hd := fun m k => J6B m k
    (have := hd n 1; omega)
   ·omega
   ·subst hn
    first | rw [h6] | rw [h5] | rw [h4] | rw [h3] | rw [h2] | rw [h1] | skip
    try simp only [Int.toNat_natCast]
    omega
   ·omega
   ·subst hn
    first | rw [h6] | rw [h5] | rw [h4] | rw [h3] | rw [h2] | rw [h1] | skip
    rw [Jc7]
    try simp only [Int.toNat_natCast]
    (show 0 ≤ ((oc2 n : Nat) : Int) ∧ ((oc2 n : Nat) : Int) ≤ _; omega)
   ·refine ⟨((((y / 2 ^ 2).toNat &&& 3689348814741910323 : Nat) : Int) + ((y.toNat &&& 3689348814741910323 : Nat) : Int)), ?_⟩
    refine ⟨?_, rfl⟩
    ·unfold J0m
     subst hn
     first | rw [h6] | rw [h5] | rw [h4] | rw [h3] | rw [h2] | rw [h1] | skip
     rw [Jc7]
     try simp only [Int.toNat_natCast]
     rfl
  intro y hJ
  have h2 := hJ
  refine ⟨?_, ?_⟩
  ·refine ⟨?_, ?_, ?_, ?_, ?_, ?_⟩
   ·subst hn
    first | rw [h6] | rw [h5] | rw [h4] | rw [h3] | rw [h2] | rw [h1] | skip
    try simp only [Int.toNat_natCast]
    omega
   ·omega
   ·subst hn
    first | rw [h6] | rw [h5] | rw [h4] | rw [h3] | rw [h2] | rw [h1] | skip
    try simp only [Int.toNat_natCast]
    have := J6B (oc2 n) 4
    omega
   ·subst hn
    first | rw [h6] | rw [h5] | rw [h4] | rw [h3] | rw [h2] | rw [h1] | skip
    try simp only [Int.toNat_natCast]
    have := J6B (oc2 n) 4
    omega
   ·omega
   ·refine ⟨((((y / 2 ^ 4) + y).toNat &&& 1085102592571150095 : Nat) : Int), ?_⟩
    refine ⟨?_, rfl⟩
    ·unfold J0q
     subst hn
     first | rw [h6] | rw [h5] | rw [h4] | rw [h3] | rw [h2] | rw [h1] | skip
     rw [st3]
     try simp only [Int.toNat_natCast]
     rfl
  intro y hJ
  have h3 := hJ
  refine ⟨?_, ?_⟩
  ·refine ⟨?_, ?_, ?_, ?_⟩
   ·subst hn
    first | rw [h6] | rw [h5] | rw [h4] | rw [h3] | rw [h2] | rw [h1] | skip
    try simp only [Int.toNat_natCast]
    omega
   ·omega
   ·subst hn
    first | rw [h6] | rw [h5] | rw [h4] | rw [h3] | rw [h2] | rw [h1] | skip
    rw [st4]
    try simp only [Int.toNat_natCast]
    (show 0 ≤ ((oc4 n : Nat) : Int) ∧ ((oc4 n : Nat) : Int) ≤ _; omega)
   ·refine ⟨(y + (y / 2 ^ 8)), ?_⟩
    refine ⟨?_, rfl⟩
    ·unfold J0r
     subst hn
     first | rw [h6] | rw [h5] | rw [h4] | rw [h3] | rw [h2] | rw [h1] | skip
     rw [st4]
     try simp only [Int.toNat_natCast]
     rfl
  intro y hJ
  have h4 := hJ
  refine ⟨?_, ?_⟩
  ·refine ⟨?_, ?_, ?_, ?_⟩
   ·subst hn
    first | rw [h6] | rw [h5] | rw [h4] | rw [h3] | rw [h2] | rw [h1] | skip
    try simp only [Int.toNat_natCast]
    omega
   ·omega
   ·subst hn
    first | rw [h6] | rw [h5] | rw [h4] | rw [h3] | rw [h2] | rw [h1] | skip
    rw [st4]
    try simp only [Int.toNat_natCast]
    (show 0 ≤ ((oc5 n : Nat) : Int) ∧ ((oc5 n : Nat) : Int) ≤ _; omega)
   ·refine ⟨(y + (y / 2 ^ 16)), ?_⟩
    refine ⟨?_, rfl⟩
    ·unfold J0y
     subst hn
     first | rw [h6] | rw [h5] | rw [h4] | rw [h3] | rw [h2] | rw [h1] | skip
     rw [st4]
     try simp only [Int.toNat_natCast]
     rfl
  intro y hJ
  have h5 := hJ
  refine ⟨?_, ?_⟩
  ·refine ⟨?_, ?_, ?_, ?_⟩
   ·subst hn
    first | rw [h6] | rw [h5] | rw [h4] | rw [h3] | rw [h2] | rw [h1] | skip
    try simp only [Int.toNat_natCast]
    omega
   ·omega
   ·subst hn
    first | rw [h6] | rw [h5] | rw [h4] | rw [h3] | rw [h2] | rw [h1] | skip
    rw [st4]
    try simp only [Int.toNat_natCast]
    (show 0 ≤ ((oc6 n : Nat) : Int) ∧ ((oc6 n : Nat) : Int) ≤ _; omega)
   ·refine ⟨(y + (y / 2 ^ 32)), ?_⟩
    refine ⟨?_, rfl⟩
    ·unfold J0k
     subst hn
     first | rw [h6] | rw [h5] | rw [h4] | rw [h3] | rw [h2] | rw [h1] | skip
     rw [st4]
     try simp only [Int.toNat_natCast]
     rfl
  intro y hJ
  have h6 := hJ
  refine ⟨?_, ?_, ?_, ?_⟩
  ·subst hn
   first | rw [h6] | rw [h5] | rw [h4] | rw [h3] | rw [h2] | rw [h1] | skip
   try simp only [Int.toNat_natCast]
   omega
  ·subst hn
   first | rw [h6] | rw [h5] | rw [h4] | rw [h3] | rw [h2] | rw [h1] | skip
   try simp only [Int.toNat_natCast]
   omega
  ·omega
  subst hn
  first | rw [h6] | rw [h5] | rw [h4] | rw [h3] | rw [h2] | rw [h1] | skip
  try simp only [Int.toNat_natCast]
  rw [ob.2.2.2.2.2.2]
  rfl
theorem J5w (x : Int) (hx : 0 ≤ x ∧ x < 256) : PC Tryz.prog 234 [.int .u64 x] (.one (.d (.int .i64 (JM x.toNat)))) :=
  pc_wf @Tryz.call234 fun _ => pc_by (by kernel_rfl) Tryz.func234 @Tryz.call234 (by kernel_rfl) J6n (J5R x) (by kernel_rfl) (J5B x hx) (by kernel_rfl)
def J5c : List D → Orc := orcN [none] fun ds => match ds with
  | [.int .u64 x] => some (.one (.d (.int .i64 (JM x.toNat))))
  | _ => none
def J7w (f : FuncId) (ds : List D) : Orc := bif Nat.beq f 234 then J5c ds else .no
def J7x (x : Int) : Ann := .two (.none) (.two (.goF (.none)) (.none))
def J4p (x : Int) : Prop :=
  (false = false) ∧ (PC Tryz.prog 234 [.int .u64 x] (.one (.d (.int .i64 (JM x.toNat))))) ∧ (((JM x.toNat) = (JM x.toNat)))
theorem J6Z (x : Int) (hx : 0 ≤ x ∧ x < 256)  : J4p x := by
  unfold J4p
  refine ⟨rfl, ?_, rfl⟩
  ·refine J5w x ?_
   ·exact hx
theorem J6Y (x : Int) (hx : 0 ≤ x ∧ x < 256) : PC Tryz.prog 210 [.int .u64 x] (.one (.d (.int .i64 (JM x.toNat)))) :=
  pc_wf @Tryz.call210 fun _ => pc_by (by kernel_rfl) Tryz.func210 @Tryz.call210 (by kernel_rfl) J7w (J7x x) (by kernel_rfl) (J6Z x hx) (by kernel_rfl)
def J6A : List D → Orc := orcN [none] fun ds => match ds with
  | [.int .u64 x] => some (.one (.d (.int .i64 (JM x.toNat))))
  | _ => none
def JaP (f : FuncId) (ds : List D) : Orc := bif Nat.beq f 210 then J6A ds else .no
def JaQ (x : Int) : Ann := .none
def J6g (x : Int) : Prop :=
  (PC Tryz.prog 210 [.int .u64 x] (.one (.d (.int .i64 (JM x.toNat))))) ∧ (((JM x.toNat) = (JM x.toNat)))
theorem J9T (x : Int) (hx : 0 ≤ x ∧ x < 256)  : J6g x := by
  unfold J6g
  refine ⟨?_, rfl⟩
  ·refine J6Y x ?_
   ·exact hx
theorem J5s (x : Int) (hx : 0 ≤ x ∧ x < 256) : PC Tryz.prog 141 [.int .u64 x] (.one (.d (.int .i64 (JM x.toNat)))) :=
  pc_wf @Tryz.call141 fun _ => pc_by (by kernel_rfl) Tryz.func141 @Tryz.call141 (by kernel_rfl) JaP (JaQ x) (by kernel_rfl) (J9T x hx) (by kernel_rfl)
def J4R : List D → Orc := orcN [none] fun ds => match ds with
  | [.int .u64 x] => some (.one (.d (.int .i64 (JM x.toNat))))
  | _ => none
theorem Jdf {Size : Int} {Sets : ZR} {Costs out : ZI} (h : J1 Size Sets Costs = true) (hc : ∀ c ∈ out, 0 ≤ c ∧ c < (Sets.length : Int)) (k : Nat) (hk : k ≤ out.length) : (Jl Sets out k).length ≤ Size.toNat := by
  rw [asc_eq_members (n := Size.toNat) (J1i k) fun x hx => ?_]
  · exact members_len_le _ _
  obtain ⟨j, h1, h2⟩ := (J2M k).1 hx
  have h3 := hc _ (getD_mem (d := 0) (show j < out.length by omega))
  exact J5e h (k := (out.getD j 0).toNat) (by omega) x h2
theorem J8J {Sets : ZR} {out : ZI} (h : (Jo Sets out Sets.length).1 < 0) (n : Nat) : JT Sets n out = out := by
  cases n with
  | zero => rfl
  | succ n => simp only [JT, if_pos h]
theorem J8T {Size : Int} {Sets : ZR} {Costs : ZI} (h : J1 Size Sets Costs = true) {k : Nat} (hk : k < Sets.length) : bagN (Sets.getD k []) < 256 :=
  bagN_lt (m := 8) fun y hy => J1w h hk y hy
theorem JbU {Size : Int} {Sets : ZR} {Costs out : ZI} (h : J1 Size Sets Costs = true) (hc : ∀ c ∈ out, 0 ≤ c ∧ c < (Sets.length : Int)) : Je Sets out out.length < 256 := by
  have h1 := J9y h hc out.length (Nat.le_refl _)
  have h2 := Jd h
  have h3 := J57 (n := Size.toNat) (by omega)
  omega
theorem Jd0 {x d : Nat} (h : x < 256) : x ^^^ (x &&& d) < 256 := Nat.xor_lt_two_pow (n := 8) h (Nat.lt_of_le_of_lt Nat.and_le_left h)
abbrev J0u (Size : Int) (Sets : ZR) (Costs : ZI) (k : Int) (out : ZI) (covered : ZI) : Prop := (J1 Size Sets Costs = true) ∧ (0 ≤ k ∧ k ≤ 8) ∧ ((out.length : Int) ≤ k) ∧ (∀ c ∈ out, 0 ≤ c ∧ c < (Sets.length : Int)) ∧ (JT Sets (k - out.length).toNat out = JT Sets k.toNat []) ∧ (covered = Jl Sets out out.length)
abbrev J1n (Size : Int) (Sets : ZR) (Costs : ZI) (k : Int) (out : ZI) (covered : ZI) : Nat := (k - out.length).toNat
abbrev JS (Size : Int) (Sets : ZR) (Costs : ZI) (k : Int) (out : ZI) (covered : ZI) (best : Int) (most : Int) (i : Int) : Prop := (0 ≤ i) ∧ (i ≤ (Sets.length : Int)) ∧ (best = (Jo Sets out i.toNat).1) ∧ (most = (Jo Sets out i.toNat).2)
abbrev Ju (Size : Int) (Sets : ZR) (Costs : ZI) (k : Int) (out : ZI) (covered : ZI) (best : Int) (most : Int) (i : Int) : Nat := (Sets.length - i).toNat
abbrev J0j (Size : Int) (Sets : ZR) (Costs : ZI) (k : Int) (out : ZI) (covered : ZI) (best : Int) : Prop := (best = (Jo Sets out Sets.length).1)
abbrev J0i (Size : Int) (Sets : ZR) (Costs : ZI) (k : Int) (out : ZI) (covered : ZI) (best : Int) (cov1 : ZI) (j : Int) : Prop := (0 ≤ j) ∧ (j ≤ ((Sets.getD best.toNat []).length : Int)) ∧ (cov1 = J1U covered (Sets.getD best.toNat []) j.toNat) ∧ ((cov1.length : Int) ≤ 8 + j)
abbrev J0A (Size : Int) (Sets : ZR) (Costs : ZI) (k : Int) (out : ZI) (covered : ZI) (best : Int) (cov1 : ZI) (j : Int) : Nat := ((Sets.getD best.toNat []).length - j).toNat
def J65 (f : FuncId) (ds : List D) : Orc := bif Nat.beq f 177 then J5Z ds else bif Nat.beq f 129 then J1q ds else bif Nat.beq f 181 then JbM ds else bif Nat.beq f 140 then J75 ds else .no
def J6l (Size : Int) (Sets : ZR) (Costs : ZI) (k : Int) : Ann := .two (.none) (.two (.reg [(1, .frz)]) (.two (.none) (.two (.loop (cut2 (fun (out : ZI) (covered : ZI) => J0u Size Sets Costs k out covered) (fun (out : ZI) (covered : ZI) => [(1, .d false (.int .i64 k)), (2, .ptr 2 0), (6, .own 1000000 out.length), (7, .d true (.sl (.ints covered)))]) (fun (out : ZI) (covered : ZI) => [(1000000, .arr true 3 (.ints out)), (2, .box 64 [.d false (.int .i64 Size), .d false (.sl (.rows Sets)), .d false (.sl (.ints Costs))])])) (fun g => J1n Size Sets Costs k g.1 g.2) (fun g => (fun (out : ZI) (covered : ZI) => .two (.none) (.two (.none) (.cut (.two (.none) (.loop (cut3 (fun (best : Int) (most : Int) (i : Int) => JS Size Sets Costs k out covered best most i) (fun (best : Int) (most : Int) (i : Int) => [(1, .d false (.int .i64 k)), (2, .ptr 2 0), (6, .own 1000000 out.length), (7, .d true (.sl (.ints covered))), (8, .d true (.int .i64 best)), (9, .d true (.int .i64 most)), (10, .d true (.int .i64 i))]) (fun (best : Int) (most : Int) (i : Int) => [(2, .box 64 [.d false (.int .i64 Size), .d false (.sl (.rows Sets)), .d false (.sl (.ints Costs))]), (1000000, .arr true 3 (.ints out))])) (fun g => Ju Size Sets Costs k out covered g.1 g.2.1 g.2.2) (fun _ => .none))) (cut1 (fun (best : Int) => J0j Size Sets Costs k out covered best) (fun (best : Int) => [(1, .d false (.int .i64 k)), (2, .ptr 2 0), (6, .own 1000000 out.length), (7, .d true (.sl (.ints covered))), (8, .d true (.int .i64 best))]) (fun (best : Int) => [(2, .box 64 [.d false (.int .i64 Size), .d false (.sl (.rows Sets)), .d false (.sl (.ints Costs))]), (1000000, .arr true 3 (.ints out))])) (fun g => (fun (best : Int) => .two (.none) (.two (.none) (.two (.none) (.loop (cut2 (fun (cov1 : ZI) (j : Int) => J0i Size Sets Costs k out covered best cov1 j) (fun (cov1 : ZI) (j : Int) => [(1, .d false (.int .i64 k)), (2, .ptr 2 0), (6, .own 53 (out.length + 1)), (7, .d true (.sl (.ints cov1))), (8, .d true (.int .i64 best)), (12, .d true (.int .i64 j))]) (fun (cov1 : ZI) (j : Int) => [(2, .box 64 [.d false (.int .i64 Size), .d false (.sl (.rows Sets)), .d false (.sl (.ints Costs))]), (53, .arr true 3 (.ints (out ++ [best])))])) (fun g => J0A Size Sets Costs k out covered best g.1 g.2) (fun _ => .none))))) g)))) (g.1) (g.2))) (.none))))
def J3Y (Size : Int) (Sets : ZR) (Costs : ZI) (k : Int) : Prop :=
  (PC Tryz.prog 177 [.agg [.int .i64 Size, .sl (.rows Sets), .sl (.ints Costs)]] (.one (.d (.bool (J1 Size Sets Costs))))) ∧ ((!(!(J1 Size Sets Costs))) = true → (!(!(J1 Size Sets Costs))) = true) ∧ ((!(!(J1 Size Sets Costs))) = true → PC Tryz.prog 129 [.int .i64 k, .int .i64 0, .int .i64 8] (.one (.d (.bool (inB k 0 8))))) ∧ ((!(!(J1 Size Sets Costs))) = true → (!(!(J1 Size Sets Costs))) = true) ∧ (true = true) ∧ (((!(J1 Size Sets Costs)) = true → true = true)) ∧ (((!(J1 Size Sets Costs)) = false → (!(!(J1 Size Sets Costs))) = true)) ∧ (((cond (!(J1 Size Sets Costs)) true (!(inB k 0 8))) = true → (((0 : Nat) = 0) ∧ (([] : ZI) = (gcL Size Sets Costs k)) ∧ (false = (J1 Size Sets Costs && inB k 0 8)))) ∧ ((cond (!(J1 Size Sets Costs)) true (!(inB k 0 8))) = false → ((∃ out' : ZI, ∃ covered' : ZI, (J0u Size Sets Costs k out' covered') ∧ (k = k) ∧ ((0 : Nat) = out'.length) ∧ ([] = covered') ∧ ([] = out') ∧ (Size = Size) ∧ (Sets = Sets) ∧ (Costs = Costs)) ∧ (∀ out : ZI, ∀ covered : ZI, (J0u Size Sets Costs k out covered) → (((decide ((out.length : Int) < k)) = true → ((((∃ best' : Int, ∃ most' : Int, ∃ i' : Int, (JS Size Sets Costs k out covered best' most' i') ∧ (k = k) ∧ (out.length = out.length) ∧ (covered = covered) ∧ (((-1) : Int) = best') ∧ ((0 : Int) = most') ∧ ((0 : Int) = i') ∧ (Size = Size) ∧ (Sets = Sets) ∧ (Costs = Costs) ∧ (out = out)) ∧ (∀ best : Int, ∀ most : Int, ∀ i : Int, (JS Size Sets Costs k out covered best most i) → (((decide (i < (Sets.length : Int))) = true → ((0 : Int) ≤ i) ∧ ((i : Int) < Sets.length) ∧ (i.toNat < Sets.length) ∧ (PC Tryz.prog 181 [.sl (.ints (Sets.getD i.toNat [])), .sl (.ints covered)] (.one (.d (.int .i64 (J10 (Sets.getD i.toNat []) covered))))) ∧ (((decide ((J10 (Sets.getD i.toNat []) covered) > most)) = true → (I6 (i + 1)) ∧ (∃ best' : Int, ∃ most' : Int, ∃ i' : Int, (JS Size Sets Costs k out covered best' most' i') ∧ (Ju Size Sets Costs k out covered best' most' i' < Ju Size Sets Costs k out covered best most i) ∧ (k = k) ∧ (out.length = out.length) ∧ (covered = covered) ∧ (i = best') ∧ ((J10 (Sets.getD i.toNat []) covered) = most') ∧ ((i + 1) = i') ∧ (Size = Size) ∧ (Sets = Sets) ∧ (Costs = Costs) ∧ (out = out))) ∧ ((decide ((J10 (Sets.getD i.toNat []) covered) > most)) = false → (I6 (i + 1)) ∧ (∃ best' : Int, ∃ most' : Int, ∃ i' : Int, (JS Size Sets Costs k out covered best' most' i') ∧ (Ju Size Sets Costs k out covered best' most' i' < Ju Size Sets Costs k out covered best most i) ∧ (k = k) ∧ (out.length = out.length) ∧ (covered = covered) ∧ (best = best') ∧ (most = most') ∧ ((i + 1) = i') ∧ (Size = Size) ∧ (Sets = Sets) ∧ (Costs = Costs) ∧ (out = out))))) ∧ ((decide (i < (Sets.length : Int))) = false → (∃ best' : Int, (J0j Size Sets Costs k out covered best') ∧ (k = k) ∧ (out.length = out.length) ∧ (covered = covered) ∧ (best = best') ∧ (Size = Size) ∧ (Sets = Sets) ∧ (Costs = Costs) ∧ (out = out))))))) ∧ (∀ best : Int, (J0j Size Sets Costs k out covered best) → (((decide (best < 0)) = true → ((out.length = out.length) ∧ ((out : ZI) = (gcL Size Sets Costs k)) ∧ (true = (J1 Size Sets Costs && inB k 0 8)))) ∧ ((decide (best < 0)) = false → (out.length = out.length) ∧ ((1 : Nat) = 1) ∧ ((out.length + 1) * 8 ≤ 140737488355328) ∧ ((∃ cov1' : ZI, ∃ j' : Int, (J0i Size Sets Costs k out covered best cov1' j') ∧ (k = k) ∧ ((out.length + 1) = (out.length + 1)) ∧ (covered = cov1') ∧ (best = best) ∧ ((0 : Int) = j') ∧ (Size = Size) ∧ (Sets = Sets) ∧ (Costs = Costs) ∧ ((out ++ [best]) = (out ++ [best]))) ∧ (∀ cov1 : ZI, ∀ j : Int, (J0i Size Sets Costs k out covered best cov1 j) → ((0 : Int) ≤ best) ∧ ((best : Int) < Sets.length) ∧ (best.toNat < Sets.length) ∧ (((decide (j < (((Sets.getD best.toNat []).length) : Int))) = true → ((0 : Int) ≤ best) ∧ ((best : Int) < Sets.length) ∧ (best.toNat < Sets.length) ∧ ((0 : Int) ≤ j) ∧ ((j : Int) < (Sets.getD best.toNat []).length) ∧ (j.toNat < (Sets.getD best.toNat []).length) ∧ (PCs Tryz.prog 140 [.sl (.ints cov1), .int .i64 ((Sets.getD best.toNat []).getD j.toNat 0)] 0 (.sl (.ints (putL cov1 ((Sets.getD best.toNat []).getD j.toNat 0))))) ∧ (I6 (j + 1)) ∧ (∃ cov1' : ZI, ∃ j' : Int, (J0i Size Sets Costs k out covered best cov1' j') ∧ (J0A Size Sets Costs k out covered best cov1' j' < J0A Size Sets Costs k out covered best cov1 j) ∧ (k = k) ∧ ((out.length + 1) = (out.length + 1)) ∧ ((putL cov1 ((Sets.getD best.toNat []).getD j.toNat 0)) = cov1') ∧ (best = best) ∧ ((j + 1) = j') ∧ (Size = Size) ∧ (Sets = Sets) ∧ (Costs = Costs) ∧ ((out ++ [best]) = (out ++ [best])))) ∧ ((decide (j < (((Sets.getD best.toNat []).length) : Int))) = false → (∃ out' : ZI, ∃ covered' : ZI, (J0u Size Sets Costs k out' covered') ∧ (J1n Size Sets Costs k out' covered' < J1n Size Sets Costs k out covered) ∧ (k = k) ∧ ((out.length + 1) = out'.length) ∧ (cov1 = covered') ∧ ((out ++ [best]) = out') ∧ (Size = Size) ∧ (Sets = Sets) ∧ (Costs = Costs))))))))))) ∧ ((decide ((out.length : Int) < k)) = false → ((out.length = out.length) ∧ ((out : ZI) = (gcL Size Sets Costs k)) ∧ (true = (J1 Size Sets Costs && inB k 0 8)))))))))
theorem J5F (Size : Int) (Sets : ZR) (Costs : ZI) (k : Int)  (w_Sets : (Sets.length : Int) ≤ 9223372036854775807) (v_Sets : ∀ x9 ∈ Sets, (x9.length : Int) ≤ 9223372036854775807) (w_Costs : (Costs.length : Int) ≤ 9223372036854775807) : J3Y Size Sets Costs k := by
  unfold J3Y
  refine ⟨J78 Size Sets Costs, id, fun _ => J1f k 0 8, id, rfl, fun _ => rfl, ?_, ?_, ?_⟩
  ·intro h; rw [h]; rfl
  ·intro b1
   refine ⟨rfl, ?_, ?_⟩
   ·have hq : (J1 Size Sets Costs && inB k 0 8) = false := by
      revert b1; cases J1 Size Sets Costs <;> cases inB k 0 8 <;> simp
    unfold gcL; rw [hq]; rfl
   have hq : (J1 Size Sets Costs && inB k 0 8) = false := by
     revert b1; cases J1 Size Sets Costs <;> cases inB k 0 8 <;> simp
   exact hq.symm
  intro b2
  refine ⟨?_, ?_⟩
  ·refine ⟨([]), ([]), ?_⟩
   refine ⟨?_, rfl, rfl, ?_, ?_, rfl, rfl, rfl⟩
   ·refine ⟨?_, ?_, ?_, ?_, ?_, ?_⟩
    ·have hq : J1 Size Sets Costs = true ∧ inB k 0 8 = true := by
       revert b2; cases J1 Size Sets Costs <;> cases inB k 0 8 <;> simp
     exact hq.1
    ·have hq : J1 Size Sets Costs = true ∧ inB k 0 8 = true := by
       revert b2; cases J1 Size Sets Costs <;> cases inB k 0 8 <;> simp
     exact J0T hq.2
    ·have hq : J1 Size Sets Costs = true ∧ inB k 0 8 = true := by
       revert b2; cases J1 Size Sets Costs <;> cases inB k 0 8 <;> simp
     have := J0T hq.2
     simp only [List.length_nil]; omega
    ·intro c hc; cases hc
    ·show JT Sets (k - ((0 : Nat) : Int)).toNat [] = _
     rw [show (k - ((0 : Nat) : Int)) = k by omega]
    ·rfl
   ·rfl
   rfl
  intro out covered hJ
  obtain ⟨hg, hk, h1, h2, h3, hc⟩ := hJ
  refine ⟨?_, ?_⟩
  ·intro b3
   try simp only [nrmT] at b3
   refine ⟨?_, ?_⟩
   ·refine ⟨?_, ?_⟩
    ·refine ⟨(-1), 0, 0, ?_⟩
     refine ⟨?_, rfl, rfl, rfl, rfl, rfl, rfl, rfl, rfl, rfl, rfl⟩
     ·refine ⟨?_, ?_, ?_, ?_⟩
      ·omega
      ·omega
      ·rfl
      ·rfl
    ·intro best most i hJ
     obtain ⟨h4, h5, h6, h7⟩ := hJ
     refine ⟨?_, ?_⟩
     ·intro b4
      try simp only [nrmT] at b4
      refine ⟨?_, ?_, ?_, Jc8 (Sets.getD i.toNat []) covered, ?_, ?_⟩
      ·omega
      ·omega
      ·omega
      ·intro b5
       try simp only [nrmT] at b5
       refine ⟨?_, ?_⟩
       ·omega
       refine ⟨i, (J10 (Sets.getD i.toNat []) covered), (i + 1), ?_⟩
       refine ⟨?_, ?_, rfl, rfl, rfl, rfl, rfl, rfl, rfl, rfl, rfl, rfl⟩
       ·refine ⟨?_, ?_, ?_, ?_⟩
        ·omega
        ·omega
        ·have hn0 : J10 (Sets.getD i.toNat []) covered = JG Sets out i.toNat := by unfold JG; rw [← hc]
         have hn : JG Sets out i.toNat > (Jo Sets out i.toNat).2 := by rw [← h7, ← hn0]; exact b5
         rw [show (i + 1).toNat = i.toNat + 1 by omega, J0C]
         unfold gcF
         rw [if_pos hn]
         show i = ((i.toNat : Nat) : Int); omega
        ·have hn0 : J10 (Sets.getD i.toNat []) covered = JG Sets out i.toNat := by unfold JG; rw [← hc]
         have hn : JG Sets out i.toNat > (Jo Sets out i.toNat).2 := by rw [← h7, ← hn0]; exact b5
         rw [show (i + 1).toNat = i.toNat + 1 by omega, J0C]
         unfold gcF
         rw [if_pos hn]
         exact hn0
       (simp only [Ju]; omega)
      intro b6
      try simp only [nrmT] at b6
      refine ⟨?_, ?_⟩
      ·omega
      refine ⟨best, most, (i + 1), ?_⟩
      refine ⟨?_, ?_, rfl, rfl, rfl, rfl, rfl, rfl, rfl, rfl, rfl, rfl⟩
      ·refine ⟨?_, ?_, ?_, ?_⟩
       ·omega
       ·omega
       ·have hn0 : J10 (Sets.getD i.toNat []) covered = JG Sets out i.toNat := by unfold JG; rw [← hc]
        have hn : ¬ JG Sets out i.toNat > (Jo Sets out i.toNat).2 := by rw [← h7, ← hn0]; omega
        rw [show (i + 1).toNat = i.toNat + 1 by omega, J0C]
        unfold gcF
        rw [if_neg hn]
        exact h6
       ·have hn0 : J10 (Sets.getD i.toNat []) covered = JG Sets out i.toNat := by unfold JG; rw [← hc]
        have hn : ¬ JG Sets out i.toNat > (Jo Sets out i.toNat).2 := by rw [← h7, ← hn0]; omega
        rw [show (i + 1).toNat = i.toNat + 1 by omega, J0C]
        unfold gcF
        rw [if_neg hn]
        exact h7
      (simp only [Ju]; omega)
     intro b7
     try simp only [nrmT] at b7
     refine ⟨best, ?_⟩
     refine ⟨?_, rfl, rfl, rfl, rfl, rfl, rfl, rfl, rfl⟩
     ·unfold J0j
      rw [h6, show i.toNat = Sets.length by omega]
   intro best hJ
   have h9 := hJ
   refine ⟨?_, ?_⟩
   ·intro b8
    try simp only [nrmT] at b8
    refine ⟨rfl, ?_, ?_⟩
    ·have e : (Jo Sets out Sets.length).1 < 0 := by rw [← h9]; omega
     unfold gcL; rw [if_pos (by rw [hg, Bool.true_and]; exact decide_eq_true hk), ← h3, J8J e]
    rw [hg, Bool.true_and]; exact (decide_eq_true hk).symm
   intro b9
   try simp only [nrmT] at b9
   refine ⟨rfl, rfl, ?_, ?_, ?_⟩
   ·omega
   ·refine ⟨covered, 0, ?_⟩
    refine ⟨?_, rfl, rfl, rfl, rfl, rfl, rfl, rfl, rfl, rfl⟩
    ·refine ⟨?_, ?_, ?_, ?_⟩
     ·omega
     ·omega
     ·rfl
     ·have := Jdf hg h2 out.length (Nat.le_refl _)
      rw [← hc] at this
      have gf := Jd hg
      omega
   intro cov1 j hJ
   obtain ⟨m1, m2, m3, m4⟩ := hJ
   refine ⟨?_, ?_, ?_, ?_, ?_⟩
   ·have gf := Jd hg
    have gi := JL Sets out Sets.length
    rw [← h9] at gi
    omega
   ·have gf := Jd hg
    have gi := JL Sets out Sets.length
    rw [← h9] at gi
    omega
   ·have gf := Jd hg
    have gi := JL Sets out Sets.length
    rw [← h9] at gi
    omega
   ·intro b10
    try simp only [nrmT] at b10
    refine ⟨?_, ?_, ?_, ?_, ?_, ?_, ?_, ?_, ?_⟩
    ·have gf := Jd hg
     have gi := JL Sets out Sets.length
     rw [← h9] at gi
     omega
    ·have gf := Jd hg
     have gi := JL Sets out Sets.length
     rw [← h9] at gi
     omega
    ·have gf := Jd hg
     have gi := JL Sets out Sets.length
     rw [← h9] at gi
     omega
    ·omega
    ·omega
    ·omega
    ·refine J7V cov1 ((Sets.getD best.toNat []).getD j.toNat 0) ?_
     ·have gf := Jd hg
      have gi := JL Sets out Sets.length
      rw [← h9] at gi
      have sl := J26 (J4q hg (k := best.toNat) (by omega)) (by omega)
      omega
    ·have gf := Jd hg
     have gi := JL Sets out Sets.length
     rw [← h9] at gi
     have sl := J26 (J4q hg (k := best.toNat) (by omega)) (by omega)
     omega
    refine ⟨(putL cov1 ((Sets.getD best.toNat []).getD j.toNat 0)), (j + 1), ?_⟩
    refine ⟨?_, ?_, rfl, rfl, rfl, rfl, rfl, rfl, rfl, rfl, rfl⟩
    ·refine ⟨?_, ?_, ?_, ?_⟩
     ·omega
     ·omega
     ·rw [m3, show (j + 1).toNat = j.toNat + 1 by omega]; rfl
     ·have := putL_len cov1 ((Sets.getD best.toNat []).getD j.toNat 0)
      omega
    (simp only [J0A]; omega)
   intro b11
   try simp only [nrmT] at b11
   refine ⟨(out ++ [best]), cov1, ?_⟩
   refine ⟨?_, ?_, rfl, ?_, rfl, rfl, rfl, rfl, rfl⟩
   ·refine ⟨?_, ?_, ?_, ?_, ?_, ?_⟩
    ·exact hg
    ·exact hk
    ·rw [List.length_append]; simp only [List.length_cons, List.length_nil]; omega
    ·have gf := Jd hg
     have gi := JL Sets out Sets.length
     rw [← h9] at gi
     intro c hc2
     rcases List.mem_append.1 hc2 with hc2 | hc2
     · exact h2 c hc2
     simp only [List.mem_singleton] at hc2; omega
    ·rw [← h3]
     have e : (k - (out.length : Int)).toNat = (k - ((out ++ [best]).length : Int)).toNat + 1 := by
       rw [List.length_append]; simp only [List.length_cons, List.length_nil]; omega
     rw [e]
     have eb : (Jo Sets out Sets.length).1 = best := h9.symm
     simp only [JT, eb]
     rw [if_neg (by omega)]
    ·rw [Jds, m3, hc, show j.toNat = (Sets.getD best.toNat []).length by omega]
   ·show (k - ((out ++ [best]).length : Int)).toNat < (k - (out.length : Int)).toNat
    rw [List.length_append]; simp only [List.length_cons, List.length_nil]; omega
   simp
  intro b12
  try simp only [nrmT] at b12
  refine ⟨rfl, ?_, ?_⟩
  ·unfold gcL; rw [if_pos (by rw [hg, Bool.true_and]; exact decide_eq_true hk), ← h3, show (k - (out.length : Int)).toNat = 0 by omega]; rfl
  rw [hg, Bool.true_and]; exact (decide_eq_true hk).symm
theorem J5J (Size : Int) (Sets : ZR) (Costs : ZI) (k : Int)  : PC Tryz.prog 84 [.agg [.int .i64 Size, .sl (.rows Sets), .sl (.ints Costs)], .int .i64 k] (.tup [.d (.sl (.ints (gcL Size Sets Costs k))), .d (.bool (J1 Size Sets Costs && inB k 0 8))]) :=
  pc_wf @Tryz.call84 fun hw => pc_by (by kernel_rfl) Tryz.func84 @Tryz.call84 (by kernel_rfl) J65 (J6l Size Sets Costs k) (by kernel_rfl) (J5F Size Sets Costs k hw.1.2.1.1 hw.1.2.1.2 hw.1.2.2.1) (by kernel_rfl)
def J5m : List D → Orc := orcN [none, none] fun ds => match ds with
  | [.agg [.int .i64 Size, .sl (.rows Sets), .sl (.ints Costs)], .int .i64 k] => some (.tup [.d (.sl (.ints (gcL Size Sets Costs k))), .d (.bool (J1 Size Sets Costs && inB k 0 8))])
  | _ => none
abbrev J0h (Size : Int) (Sets : ZR) (Costs : ZI) (k : Int) (out : ZI) (done : Int) : Prop := (J1 Size Sets Costs = true) ∧ (0 ≤ k ∧ k ≤ 8) ∧ ((out.length : Int) ≤ k) ∧ (∀ c ∈ out, 0 ≤ c ∧ c < (Sets.length : Int)) ∧ (JT Sets (k - out.length).toNat out = JT Sets k.toNat []) ∧ (done = ((Je Sets out out.length : Nat) : Int))
abbrev J1j (Size : Int) (Sets : ZR) (Costs : ZI) (k : Int) (out : ZI) (done : Int) : Nat := (k - out.length).toNat
abbrev JU (Size : Int) (Sets : ZR) (Costs : ZI) (k : Int) (out : ZI) (done : Int) (best : Int) (most : Int) (i : Int) : Prop := (0 ≤ i) ∧ (i ≤ (Sets.length : Int)) ∧ (best = (Jo Sets out i.toNat).1) ∧ (most = (Jo Sets out i.toNat).2)
abbrev Jt (Size : Int) (Sets : ZR) (Costs : ZI) (k : Int) (out : ZI) (done : Int) (best : Int) (most : Int) (i : Int) : Nat := (Sets.length - i).toNat
abbrev J0n (Size : Int) (Sets : ZR) (Costs : ZI) (k : Int) (out : ZI) (done : Int) (best : Int) : Prop := (best = (Jo Sets out Sets.length).1)
def J6j (f : FuncId) (ds : List D) : Orc := bif Nat.beq f 172 then J3z ds else bif Nat.beq f 132 then J0a ds else bif Nat.beq f 180 then J7c ds else bif Nat.beq f 141 then J4R ds else .no
def J5S (Size : Int) (Sets : ZR) (Costs : ZI) (k : Int) : Ann := .two (.none) (.two (.none) (.two (.none) (.two (.loop (cut2 (fun (out : ZI) (done : Int) => J0h Size Sets Costs k out done) (fun (out : ZI) (done : Int) => [(1, .d false (.int .i64 k)), (2, .ptr 2 0), (6, .own 1000000 out.length), (7, .d true (.int .u64 done))]) (fun (out : ZI) (done : Int) => [(1000000, .arr true 3 (.ints out)), (2, .box 64 [.d false (.int .i64 Size), .d false (.sl (.rows Sets)), .d false (.sl (.ints Costs))])])) (fun g => J1j Size Sets Costs k g.1 g.2) (fun g => (fun (out : ZI) (done : Int) => .two (.none) (.two (.none) (.cut (.two (.none) (.loop (cut3 (fun (best : Int) (most : Int) (i : Int) => JU Size Sets Costs k out done best most i) (fun (best : Int) (most : Int) (i : Int) => [(1, .d false (.int .i64 k)), (2, .ptr 2 0), (6, .own 1000000 out.length), (7, .d true (.int .u64 done)), (8, .d true (.int .i64 best)), (9, .d true (.int .i64 most)), (27, .d false (.sl (.rows Sets))), (28, .d true (.int .i64 (Sets.length : Int))), (29, .d true (.int .i64 i))]) (fun (best : Int) (most : Int) (i : Int) => [(2, .box 64 [.d false (.int .i64 Size), .d false (.sl (.rows Sets)), .d false (.sl (.ints Costs))]), (1000000, .arr true 3 (.ints out))])) (fun g => Jt Size Sets Costs k out done g.1 g.2.1 g.2.2) (fun _ => .none))) (cut1 (fun (best : Int) => J0n Size Sets Costs k out done best) (fun (best : Int) => [(1, .d false (.int .i64 k)), (2, .ptr 2 0), (6, .own 1000000 out.length), (7, .d true (.int .u64 done)), (8, .d true (.int .i64 best))]) (fun (best : Int) => [(2, .box 64 [.d false (.int .i64 Size), .d false (.sl (.rows Sets)), .d false (.sl (.ints Costs))]), (1000000, .arr true 3 (.ints out))])) (fun _ => .none)))) (g.1) (g.2))) (.none))))
def J3T (Size : Int) (Sets : ZR) (Costs : ZI) (k : Int) : Prop :=
  (PC Tryz.prog 172 [.agg [.int .i64 Size, .sl (.rows Sets), .sl (.ints Costs)]] (.one (.d (.bool (J1 Size Sets Costs))))) ∧ ((!(!(J1 Size Sets Costs))) = true → (!(!(J1 Size Sets Costs))) = true) ∧ ((!(!(J1 Size Sets Costs))) = true → PC Tryz.prog 132 [.int .i64 k, .int .i64 0, .int .i64 8] (.one (.d (.bool (inB k 0 8))))) ∧ ((!(!(J1 Size Sets Costs))) = true → (!(!(J1 Size Sets Costs))) = true) ∧ (true = true) ∧ (((!(J1 Size Sets Costs)) = true → true = true)) ∧ (((!(J1 Size Sets Costs)) = false → (!(!(J1 Size Sets Costs))) = true)) ∧ (((cond (!(J1 Size Sets Costs)) true (!(inB k 0 8))) = true → (((gcL Size Sets Costs k).length = 0) ∧ (false = (J1 Size Sets Costs && inB k 0 8)))) ∧ ((cond (!(J1 Size Sets Costs)) true (!(inB k 0 8))) = false → ((∃ out' : ZI, ∃ done' : Int, (J0h Size Sets Costs k out' done') ∧ (k = k) ∧ ((0 : Nat) = out'.length) ∧ ((0 : Int) = done') ∧ ([] = out') ∧ (Size = Size) ∧ (Sets = Sets) ∧ (Costs = Costs)) ∧ (∀ out : ZI, ∀ done : Int, (J0h Size Sets Costs k out done) → (((decide ((out.length : Int) < k)) = true → ((((∃ best' : Int, ∃ most' : Int, ∃ i' : Int, (JU Size Sets Costs k out done best' most' i') ∧ (k = k) ∧ (out.length = out.length) ∧ (done = done) ∧ (((-1) : Int) = best') ∧ ((0 : Int) = most') ∧ (Sets = Sets) ∧ ((Sets.length : Int) = (Sets.length : Int)) ∧ ((0 : Int) = i') ∧ (Size = Size) ∧ (Sets = Sets) ∧ (Costs = Costs) ∧ (out = out)) ∧ (∀ best : Int, ∀ most : Int, ∀ i : Int, (JU Size Sets Costs k out done best most i) → (((decide (i < (Sets.length : Int))) = true → ((0 : Int) ≤ i) ∧ ((i : Int) < Sets.length) ∧ (i.toNat < Sets.length) ∧ (PC Tryz.prog 180 [.sl (.ints (Sets.getD i.toNat []))] (.one (.d (.int .u64 ((bagN (Sets.getD i.toNat []) : Nat) : Int))))) ∧ ((0 : Int) ≤ ((bagN (Sets.getD i.toNat []) : Nat) : Int) ∧ (((bagN (Sets.getD i.toNat []) : Nat) : Int) : Int) ≤ 18446744073709551615) ∧ ((0 : Int) ≤ done ∧ (done : Int) ≤ 18446744073709551615) ∧ (PC Tryz.prog 141 [.int .u64 ((((bagN (Sets.getD i.toNat []) : Nat) : Int).toNat ^^^ (((bagN (Sets.getD i.toNat []) : Nat) : Int).toNat &&& done.toNat) : Nat) : Int)] (.one (.d (.int .i64 (JM ((((bagN (Sets.getD i.toNat []) : Nat) : Int).toNat ^^^ (((bagN (Sets.getD i.toNat []) : Nat) : Int).toNat &&& done.toNat) : Nat) : Int).toNat))))) ∧ (((decide ((JM ((((bagN (Sets.getD i.toNat []) : Nat) : Int).toNat ^^^ (((bagN (Sets.getD i.toNat []) : Nat) : Int).toNat &&& done.toNat) : Nat) : Int).toNat) > most)) = true → (I6 (i + 1)) ∧ (∃ best' : Int, ∃ most' : Int, ∃ i' : Int, (JU Size Sets Costs k out done best' most' i') ∧ (Jt Size Sets Costs k out done best' most' i' < Jt Size Sets Costs k out done best most i) ∧ (k = k) ∧ (out.length = out.length) ∧ (done = done) ∧ (i = best') ∧ ((JM ((((bagN (Sets.getD i.toNat []) : Nat) : Int).toNat ^^^ (((bagN (Sets.getD i.toNat []) : Nat) : Int).toNat &&& done.toNat) : Nat) : Int).toNat) = most') ∧ (Sets = Sets) ∧ ((Sets.length : Int) = (Sets.length : Int)) ∧ ((i + 1) = i') ∧ (Size = Size) ∧ (Sets = Sets) ∧ (Costs = Costs) ∧ (out = out))) ∧ ((decide ((JM ((((bagN (Sets.getD i.toNat []) : Nat) : Int).toNat ^^^ (((bagN (Sets.getD i.toNat []) : Nat) : Int).toNat &&& done.toNat) : Nat) : Int).toNat) > most)) = false → (I6 (i + 1)) ∧ (∃ best' : Int, ∃ most' : Int, ∃ i' : Int, (JU Size Sets Costs k out done best' most' i') ∧ (Jt Size Sets Costs k out done best' most' i' < Jt Size Sets Costs k out done best most i) ∧ (k = k) ∧ (out.length = out.length) ∧ (done = done) ∧ (best = best') ∧ (most = most') ∧ (Sets = Sets) ∧ ((Sets.length : Int) = (Sets.length : Int)) ∧ ((i + 1) = i') ∧ (Size = Size) ∧ (Sets = Sets) ∧ (Costs = Costs) ∧ (out = out))))) ∧ ((decide (i < (Sets.length : Int))) = false → (∃ best' : Int, (J0n Size Sets Costs k out done best') ∧ (k = k) ∧ (out.length = out.length) ∧ (done = done) ∧ (best = best') ∧ (Size = Size) ∧ (Sets = Sets) ∧ (Costs = Costs) ∧ (out = out))))))) ∧ (∀ best : Int, (J0n Size Sets Costs k out done best) → (((decide (best < 0)) = true → ((out.length = out.length) ∧ ((out : ZI) = gcL Size Sets Costs k) ∧ (true = (J1 Size Sets Costs && inB k 0 8)))) ∧ ((decide (best < 0)) = false → (true = true) ∧ (out.length = out.length) ∧ ((1 : Nat) = 1) ∧ ((out.length + 1) * 8 ≤ 140737488355328) ∧ ((0 : Int) ≤ best) ∧ ((best : Int) < Sets.length) ∧ (best.toNat < Sets.length) ∧ (PC Tryz.prog 180 [.sl (.ints (Sets.getD best.toNat []))] (.one (.d (.int .u64 ((bagN (Sets.getD best.toNat []) : Nat) : Int))))) ∧ ((0 : Int) ≤ done ∧ (done : Int) ≤ 18446744073709551615) ∧ ((0 : Int) ≤ ((bagN (Sets.getD best.toNat []) : Nat) : Int) ∧ (((bagN (Sets.getD best.toNat []) : Nat) : Int) : Int) ≤ 18446744073709551615) ∧ (∃ out' : ZI, ∃ done' : Int, (J0h Size Sets Costs k out' done') ∧ (J1j Size Sets Costs k out' done' < J1j Size Sets Costs k out done) ∧ (k = k) ∧ ((out.length + 1) = out'.length) ∧ (((done.toNat ||| ((bagN (Sets.getD best.toNat []) : Nat) : Int).toNat : Nat) : Int) = done') ∧ ((out ++ [best]) = out') ∧ (Size = Size) ∧ (Sets = Sets) ∧ (Costs = Costs))))))) ∧ ((decide ((out.length : Int) < k)) = false → ((out.length = out.length) ∧ ((out : ZI) = gcL Size Sets Costs k) ∧ (true = (J1 Size Sets Costs && inB k 0 8)))))))))
theorem J5K (Size : Int) (Sets : ZR) (Costs : ZI) (k : Int)  (w_Sets : (Sets.length : Int) ≤ 9223372036854775807) (v_Sets : ∀ x9 ∈ Sets, (x9.length : Int) ≤ 9223372036854775807) (w_Costs : (Costs.length : Int) ≤ 9223372036854775807) : J3T Size Sets Costs k := by
  unfold J3T
  refine ⟨J42 Size Sets Costs, id, fun _ => J0M k 0 8, id, rfl, fun _ => rfl, ?_, ?_, ?_⟩
  ·intro h; rw [h]; rfl
  ·intro b1
   refine ⟨?_, ?_⟩
   ·have hq : (J1 Size Sets Costs && inB k 0 8) = false := by
      revert b1; cases J1 Size Sets Costs <;> cases inB k 0 8 <;> simp
    unfold gcL; rw [hq]; rfl
   have hq : (J1 Size Sets Costs && inB k 0 8) = false := by
     revert b1; cases J1 Size Sets Costs <;> cases inB k 0 8 <;> simp
   exact hq.symm
  intro b2
  refine ⟨?_, ?_⟩
  ·refine ⟨([]), 0, ?_⟩
   refine ⟨?_, rfl, rfl, rfl, ?_, rfl, rfl, rfl⟩
   ·refine ⟨?_, ?_, ?_, ?_, ?_, ?_⟩
    ·have hq : J1 Size Sets Costs = true ∧ inB k 0 8 = true := by
       revert b2; cases J1 Size Sets Costs <;> cases inB k 0 8 <;> simp
     exact hq.1
    ·have hq : J1 Size Sets Costs = true ∧ inB k 0 8 = true := by
       revert b2; cases J1 Size Sets Costs <;> cases inB k 0 8 <;> simp
     exact J0T hq.2
    ·have hq : J1 Size Sets Costs = true ∧ inB k 0 8 = true := by
       revert b2; cases J1 Size Sets Costs <;> cases inB k 0 8 <;> simp
     have := J0T hq.2
     simp only [List.length_nil]; omega
    ·intro c hc; cases hc
    ·show JT Sets (k - ((0 : Nat) : Int)).toNat [] = _
     rw [show (k - ((0 : Nat) : Int)) = k by omega]
    ·rfl
   rfl
  intro out done hJ
  obtain ⟨hg, hk, h1, h2, h3, hc⟩ := hJ
  refine ⟨?_, ?_⟩
  ·intro b3
   try simp only [nrmT] at b3
   refine ⟨?_, ?_⟩
   ·refine ⟨?_, ?_⟩
    ·refine ⟨(-1), 0, 0, ?_⟩
     refine ⟨?_, rfl, rfl, rfl, rfl, rfl, rfl, rfl, rfl, rfl, rfl, rfl, rfl⟩
     ·refine ⟨?_, ?_, ?_, ?_⟩
      ·omega
      ·omega
      ·rfl
      ·rfl
    ·intro best most i hJ
     obtain ⟨h4, h5, h6, h7⟩ := hJ
     refine ⟨?_, ?_⟩
     ·intro b4
      try simp only [nrmT] at b4
      refine ⟨?_, ?_, ?_, ?_, ?_, ?_, ?_, ?_, ?_⟩
      ·omega
      ·omega
      ·omega
      ·refine J56 (Sets.getD i.toNat []) ?_
       ·intro x hx; have := J1w hg (k := i.toNat) (by omega) x hx; omega
      ·have := J8T hg (k := i.toNat) (by omega)
       omega
      ·have := JbU hg h2
       omega
      ·refine J5s ((((bagN (Sets.getD i.toNat []) : Nat) : Int).toNat ^^^ (((bagN (Sets.getD i.toNat []) : Nat) : Int).toNat &&& done.toNat) : Nat) : Int) ?_
       ·simp only [Int.toNat_natCast]
        have := Jd0 (d := done.toNat) (J8T hg (k := i.toNat) (by omega))
        omega
      ·intro b5
       try simp only [nrmT] at b5
       refine ⟨?_, ?_⟩
       ·omega
       refine ⟨i, (JM ((((bagN (Sets.getD i.toNat []) : Nat) : Int).toNat ^^^ (((bagN (Sets.getD i.toNat []) : Nat) : Int).toNat &&& done.toNat) : Nat) : Int).toNat), (i + 1), ?_⟩
       refine ⟨?_, ?_, rfl, rfl, rfl, rfl, rfl, rfl, rfl, rfl, rfl, rfl, rfl, rfl⟩
       ·refine ⟨?_, ?_, ?_, ?_⟩
        ·omega
        ·omega
        ·have hn0 : JM ((((bagN (Sets.getD i.toNat []) : Nat) : Int).toNat ^^^ (((bagN (Sets.getD i.toNat []) : Nat) : Int).toNat &&& done.toNat) : Nat) : Int).toNat = JG Sets out i.toNat := by
           rw [hc]; simp only [Int.toNat_natCast]; exact J52 hg h2 (by omega)
         have hn : JG Sets out i.toNat > (Jo Sets out i.toNat).2 := by rw [← h7, ← hn0]; exact b5
         rw [show (i + 1).toNat = i.toNat + 1 by omega, J0C]
         unfold gcF
         rw [if_pos hn]
         show i = ((i.toNat : Nat) : Int); omega
        ·have hn0 : JM ((((bagN (Sets.getD i.toNat []) : Nat) : Int).toNat ^^^ (((bagN (Sets.getD i.toNat []) : Nat) : Int).toNat &&& done.toNat) : Nat) : Int).toNat = JG Sets out i.toNat := by
           rw [hc]; simp only [Int.toNat_natCast]; exact J52 hg h2 (by omega)
         have hn : JG Sets out i.toNat > (Jo Sets out i.toNat).2 := by rw [← h7, ← hn0]; exact b5
         rw [show (i + 1).toNat = i.toNat + 1 by omega, J0C]
         unfold gcF
         rw [if_pos hn]
         exact hn0
       (simp only [Jt]; omega)
      intro b6
      try simp only [nrmT] at b6
      refine ⟨?_, ?_⟩
      ·omega
      refine ⟨best, most, (i + 1), ?_⟩
      refine ⟨?_, ?_, rfl, rfl, rfl, rfl, rfl, rfl, rfl, rfl, rfl, rfl, rfl, rfl⟩
      ·refine ⟨?_, ?_, ?_, ?_⟩
       ·omega
       ·omega
       ·have hn0 : JM ((((bagN (Sets.getD i.toNat []) : Nat) : Int).toNat ^^^ (((bagN (Sets.getD i.toNat []) : Nat) : Int).toNat &&& done.toNat) : Nat) : Int).toNat = JG Sets out i.toNat := by
          rw [hc]; simp only [Int.toNat_natCast]; exact J52 hg h2 (by omega)
        have hn : ¬ JG Sets out i.toNat > (Jo Sets out i.toNat).2 := by rw [← h7, ← hn0]; omega
        rw [show (i + 1).toNat = i.toNat + 1 by omega, J0C]
        unfold gcF
        rw [if_neg hn]
        exact h6
       ·have hn0 : JM ((((bagN (Sets.getD i.toNat []) : Nat) : Int).toNat ^^^ (((bagN (Sets.getD i.toNat []) : Nat) : Int).toNat &&& done.toNat) : Nat) : Int).toNat = JG Sets out i.toNat := by
          rw [hc]; simp only [Int.toNat_natCast]; exact J52 hg h2 (by omega)
        have hn : ¬ JG Sets out i.toNat > (Jo Sets out i.toNat).2 := by rw [← h7, ← hn0]; omega
        rw [show (i + 1).toNat = i.toNat + 1 by omega, J0C]
        unfold gcF
        rw [if_neg hn]
        exact h7
      (simp only [Jt]; omega)
     intro b7
     try simp only [nrmT] at b7
     refine ⟨best, ?_⟩
     refine ⟨?_, rfl, rfl, rfl, rfl, rfl, rfl, rfl, rfl⟩
     ·unfold J0n
      rw [h6, show i.toNat = Sets.length by omega]
   intro best hJ
   have h9 := hJ
   refine ⟨?_, ?_⟩
   ·intro b8
    try simp only [nrmT] at b8
    refine ⟨rfl, ?_, ?_⟩
    ·have e : (Jo Sets out Sets.length).1 < 0 := by rw [← h9]; omega
     unfold gcL; rw [if_pos (by rw [hg, Bool.true_and]; exact decide_eq_true hk), ← h3, J8J e]
    rw [hg, Bool.true_and]; exact (decide_eq_true hk).symm
   intro b9
   try simp only [nrmT] at b9
   refine ⟨rfl, rfl, rfl, ?_, ?_, ?_, ?_, ?_, ?_, ?_, ?_⟩
   ·omega
   ·have gf := Jd hg
    have gi := JL Sets out Sets.length
    rw [← h9] at gi
    omega
   ·have gf := Jd hg
    have gi := JL Sets out Sets.length
    rw [← h9] at gi
    omega
   ·have gf := Jd hg
    have gi := JL Sets out Sets.length
    rw [← h9] at gi
    omega
   ·refine J56 (Sets.getD best.toNat []) ?_
    ·have gf := Jd hg
     have gi := JL Sets out Sets.length
     rw [← h9] at gi
     intro x hx; have := J1w hg (k := best.toNat) (by omega) x hx; omega
   ·have := JbU hg h2
    omega
   ·have gf := Jd hg
    have gi := JL Sets out Sets.length
    rw [← h9] at gi
    have := J8T hg (k := best.toNat) (by omega)
    omega
   refine ⟨(out ++ [best]), ((done.toNat ||| ((bagN (Sets.getD best.toNat []) : Nat) : Int).toNat : Nat) : Int), ?_⟩
   refine ⟨?_, ?_, rfl, ?_, rfl, rfl, rfl, rfl, rfl⟩
   ·refine ⟨?_, ?_, ?_, ?_, ?_, ?_⟩
    ·exact hg
    ·exact hk
    ·rw [List.length_append]; simp only [List.length_cons, List.length_nil]; omega
    ·have gf := Jd hg
     have gi := JL Sets out Sets.length
     rw [← h9] at gi
     intro c hc2
     rcases List.mem_append.1 hc2 with hc2 | hc2
     · exact h2 c hc2
     simp only [List.mem_singleton] at hc2; omega
    ·rw [← h3]
     have e : (k - (out.length : Int)).toNat = (k - ((out ++ [best]).length : Int)).toNat + 1 := by
       rw [List.length_append]; simp only [List.length_cons, List.length_nil]; omega
     rw [e]
     have eb : (Jo Sets out Sets.length).1 = best := h9.symm
     simp only [JT, eb]
     rw [if_neg (by omega)]
    ·rw [JcN, hc]; simp only [Int.toNat_natCast]
   ·show (k - ((out ++ [best]).length : Int)).toNat < (k - (out.length : Int)).toNat
    rw [List.length_append]; simp only [List.length_cons, List.length_nil]; omega
   simp
  intro b10
  try simp only [nrmT] at b10
  refine ⟨rfl, ?_, ?_⟩
  ·unfold gcL; rw [if_pos (by rw [hg, Bool.true_and]; exact decide_eq_true hk), ← h3, show (k - (out.length : Int)).toNat = 0 by omega]; rfl
  rw [hg, Bool.true_and]; exact (decide_eq_true hk).symm
theorem J5I (Size : Int) (Sets : ZR) (Costs : ZI) (k : Int)  : PC Tryz.prog 83 [.agg [.int .i64 Size, .sl (.rows Sets), .sl (.ints Costs)], .int .i64 k] (.tup [.own 3 (.ints (gcL Size Sets Costs k)), .d (.bool (J1 Size Sets Costs && inB k 0 8))]) :=
  pc_wf @Tryz.call83 fun hw => pc_by (by kernel_rfl) Tryz.func83 @Tryz.call83 (by kernel_rfl) J6j (J5S Size Sets Costs k) (by kernel_rfl) (J5K Size Sets Costs k hw.1.2.1.1 hw.1.2.1.2 hw.1.2.2.1) (by kernel_rfl)
def J54 : List D → Orc := orcN [none, none] fun ds => match ds with
  | [.agg [.int .i64 Size, .sl (.rows Sets), .sl (.ints Costs)], .int .i64 k] => some (.tup [.own 3 (.ints (gcL Size Sets Costs k)), .d (.bool (J1 Size Sets Costs && inB k 0 8))])
  | _ => none
theorem J9v {Sets : ZR} {out : ZI} {x : Nat} : J58 Sets out x = true ↔ (x : Int) ∈ Jl Sets out out.length := by
  rw [J53, J2M]
abbrev J1P (n : Int) (code : Int) (out : ZI) (x : Int) : Prop := (0 ≤ x) ∧ (x ≤ n) ∧ (out = members (fun k => code.toNat.testBit k) x.toNat)
abbrev J0I (n : Int) (code : Int) (out : ZI) (x : Int) : Nat := (n - x).toNat
def Jcn (f : FuncId) (ds : List D) : Orc := .no
def JcA (n : Int) (code : Int) : Ann := .two (.none) (.two (.none) (.two (.two (.none) (.loop (cut2 (fun (out : ZI) (x : Int) => J1P n code out x) (fun (out : ZI) (x : Int) => [(0, .d false (.int .i64 n)), (1, .d false (.int .i64 code)), (5, .own 1000000 out.length), (6, .d true (.int .i64 x))]) (fun (out : ZI) (x : Int) => [(1000000, .arr true 3 (.ints out))])) (fun g => J0I n code g.1 g.2) (fun _ => .none))) (.none)))
def J8e (n : Int) (code : Int) : Prop :=
  ((∃ out' : ZI, ∃ x' : Int, (J1P n code out' x') ∧ (n = n) ∧ (code = code) ∧ ((0 : Nat) = out'.length) ∧ ((0 : Int) = x') ∧ ([] = out')) ∧ (∀ out : ZI, ∀ x : Int, (J1P n code out x) → (((decide (x < n)) = true → ((0 : Int) ≤ code ∧ (code : Int) ≤ 9223372036854775807) ∧ ((0 : Int) ≤ x) ∧ ((0 : Int) ≤ (code / 2 ^ x.toNat) ∧ ((code / 2 ^ x.toNat) : Int) ≤ 9223372036854775807) ∧ ((0 : Int) ≤ 1 ∧ (1 : Int) ≤ 9223372036854775807) ∧ ((((((code / 2 ^ x.toNat).toNat &&& 1 : Nat) : Int) == 1) = true → (out.length = out.length) ∧ ((1 : Nat) = 1) ∧ ((out.length + 1) * 8 ≤ 140737488355328) ∧ (I6 (x + 1)) ∧ (∃ out' : ZI, ∃ x' : Int, (J1P n code out' x') ∧ (J0I n code out' x' < J0I n code out x) ∧ (n = n) ∧ (code = code) ∧ ((out.length + 1) = out'.length) ∧ ((x + 1) = x') ∧ ((out ++ [x]) = out'))) ∧ (((((code / 2 ^ x.toNat).toNat &&& 1 : Nat) : Int) == 1) = false → (I6 (x + 1)) ∧ (∃ out' : ZI, ∃ x' : Int, (J1P n code out' x') ∧ (J0I n code out' x' < J0I n code out x) ∧ (n = n) ∧ (code = code) ∧ (out.length = out'.length) ∧ ((x + 1) = x') ∧ (out = out'))))) ∧ ((decide (x < n)) = false → ((out.length = out.length) ∧ ((out : ZI) = (members (fun k => code.toNat.testBit k) n.toNat)))))))
theorem Jbn (n : Int) (code : Int) (hn : 0 ≤ n ∧ n ≤ 62) (hc : 0 ≤ code ∧ code ≤ 4611686018427387903)  : J8e n code := by
  unfold J8e
  refine ⟨?_, ?_⟩
  ·refine ⟨([]), 0, ?_⟩
   refine ⟨?_, rfl, rfl, rfl, rfl, ?_⟩
   ·refine ⟨?_, ?_, ?_⟩
    ·omega
    ·omega
    ·rfl
   rfl
  intro out x hJ
  obtain ⟨h1, h2, h3⟩ := hJ
  refine ⟨?_, ?_⟩
  ·intro b1
   try simp only [nrmT] at b1
   refine ⟨?_, ?_, ?_, ?_, ?_, ?_⟩
   ·omega
   ·omega
   ·have h5 : 0 ≤ code / 2 ^ x.toNat := Int.ediv_nonneg hc.1 (Int.le_of_lt (Int.pow_pos (by omega)))
    have h6 : code / 2 ^ x.toNat ≤ code := Int.ediv_le_self _ hc.1
    omega
   ·omega
   ·intro b2
    try simp only [nrmT] at b2
    refine ⟨rfl, rfl, ?_, ?_, ?_⟩
    ·rw [h3]; have := members_len_le (fun k => code.toNat.testBit k) x.toNat; omega
    ·omega
    refine ⟨(out ++ [x]), (x + 1), ?_⟩
    refine ⟨?_, ?_, rfl, rfl, ?_, rfl, rfl⟩
    ·refine ⟨?_, ?_, ?_⟩
     ·omega
     ·omega
     ·have hb := shr_bit (n := code.toNat) (k := x.toNat)
      rw [show ((code.toNat : Nat) : Int) = code by omega] at hb
      have ht : code.toNat.testBit x.toNat = true := by
        cases h : code.toNat.testBit x.toNat with
        | true => rfl
        | false => rw [h] at hb; simp at hb; simp at b2; omega
      rw [h3, show (x + 1).toNat = x.toNat + 1 by omega, members_succ, if_pos ht, show ((x.toNat : Nat) : Int) = x by omega]
    ·(simp only [J0I]; omega)
    simp
   intro b3
   try simp only [nrmT] at b3
   refine ⟨?_, ?_⟩
   ·omega
   refine ⟨out, (x + 1), ?_⟩
   refine ⟨?_, ?_, rfl, rfl, rfl, rfl, rfl⟩
   ·refine ⟨?_, ?_, ?_⟩
    ·omega
    ·omega
    ·have hb := shr_bit (n := code.toNat) (k := x.toNat)
     rw [show ((code.toNat : Nat) : Int) = code by omega] at hb
     have ht : code.toNat.testBit x.toNat = false := by
       cases h : code.toNat.testBit x.toNat with
       | false => rfl
       | true => rw [h] at hb; simp at hb; simp at b3; omega
     rw [h3, show (x + 1).toNat = x.toNat + 1 by omega, members_succ, ht]; simp
   (simp only [J0I]; omega)
  intro b4
  try simp only [nrmT] at b4
  refine ⟨rfl, ?_⟩
  ·rw [h3, show x.toNat = n.toNat by omega]
theorem Jbd (n : Int) (code : Int) (hn : 0 ≤ n ∧ n ≤ 62) (hc : 0 ≤ code ∧ code ≤ 4611686018427387903) : PC Tryz.prog 142 [.int .i64 n, .int .i64 code] (.one (.d (.sl (.ints (members (fun k => code.toNat.testBit k) n.toNat))))) :=
  pc_wf @Tryz.call142 fun _ => pc_by (by kernel_rfl) Tryz.func142 @Tryz.call142 (by kernel_rfl) Jcn (JcA n code) (by kernel_rfl) (Jbn n code hn hc) (by kernel_rfl)
def JaN : List D → Orc := orcN [none, none] fun ds => match ds with
  | [.int .i64 n, .int .i64 code] => some (.one (.d (.sl (.ints (members (fun k => code.toNat.testBit k) n.toNat)))))
  | _ => none
def J0R (a b : Int) : Int := if a < b then -1 else if a > b then 1 else 0
def Jj : ZI → ZI → Int
  | [], [] => 0
  | [], _ :: _ => -1
  | _ :: _, [] => 1
  | x :: r, y :: s => if x < y then -1 else if x > y then 1 else Jj r s
theorem J4x {xs ys : ZI} {i : Nat} (h : Jj xs ys = Jj (xs.drop i) (ys.drop i)) (h1 : i < xs.length) (h2 : i < ys.length) :
    Jj xs ys = if xs.getD i 0 < ys.getD i 0 then -1 else if xs.getD i 0 > ys.getD i 0 then 1 else Jj (xs.drop (i + 1)) (ys.drop (i + 1)) := by
  rw [h, List.drop_eq_getElem_cons h1, List.drop_eq_getElem_cons h2, Js h1, Js h2]
  rfl
theorem Jcx {xs ys : ZI} {i : Nat} (h : Jj xs ys = Jj (xs.drop i) (ys.drop i)) (h1 : i < xs.length) (h2 : ys.length ≤ i) : Jj xs ys = 1 := by
  rw [h, List.drop_eq_getElem_cons h1, List.drop_eq_nil_of_le h2]
  rfl
theorem J7p {xs ys : ZI} {i : Nat} (h : Jj xs ys = Jj (xs.drop i) (ys.drop i)) (h1 : xs.length ≤ i) (h2 : i ≤ ys.length) (h3 : i = xs.length) : Jj xs ys = if xs.length < ys.length then -1 else 0 := by
  rw [h, List.drop_eq_nil_of_le h1]
  by_cases e : xs.length < ys.length
  · rw [if_pos e, List.drop_eq_getElem_cons (by omega)]
    rfl
  rw [if_neg e, List.drop_eq_nil_of_le (by omega)]
  rfl
def J7k (f : FuncId) (ds : List D) : Orc := .no
def J7U (x : Int) : Ann := .none
def J4o (x : Int) : Prop :=
  (((x != x) = false))
theorem J6V (x : Int)   : J4o x := by
  unfold J4o
  simp
theorem J48 (x : Int)  : PC Tryz.prog 236 [.int .i64 x] (.one (.d (.bool false))) :=
  pc_wf @Tryz.call236 fun _ => pc_by (by kernel_rfl) Tryz.func236 @Tryz.call236 (by kernel_rfl) J7k (J7U x) (by kernel_rfl) (J6V x) (by kernel_rfl)
def J6f : List D → Orc := orcN [none] fun ds => match ds with
  | [.int .i64 x] => some (.one (.d (.bool false)))
  | _ => none
def J6a (f : FuncId) (ds : List D) : Orc := bif Nat.beq f 236 then J6f ds else .no
def J6s (a : Int) (b : Int) : Ann := .two (.none) (.two (.none) (.two (.none) (.two (.two (.none) (.goF (.none))) (.two (.two (.none) (.goF (.none))) (.none)))))
def J41 (a : Int) (b : Int) : Prop :=
  (PC Tryz.prog 236 [.int .i64 a] (.one (.d (.bool false)))) ∧ (PC Tryz.prog 236 [.int .i64 b] (.one (.d (.bool false)))) ∧ (false = false) ∧ (false = false) ∧ (((decide (a < b)) = true → ((((-1) : Int) = (J0R a b)))) ∧ ((decide (a < b)) = false → (((decide (a > b)) = true → (((1 : Int) = (J0R a b)))) ∧ ((decide (a > b)) = false → (((0 : Int) = (J0R a b)))))))
theorem J5D (a : Int) (b : Int)   : J41 a b := by
  unfold J41
  refine ⟨J48 a, J48 b, rfl, rfl, ?_, ?_⟩
  ·intro b1
   try simp only [nrmT] at b1
   unfold J0R; first | rw [if_pos (by omega)] | rw [if_neg (by omega), if_pos (by omega)] | rw [if_neg (by omega), if_neg (by omega)]
  intro b2
  try simp only [nrmT] at b2
  refine ⟨?_, ?_⟩
  ·intro b3
   try simp only [nrmT] at b3
   unfold J0R; first | rw [if_pos (by omega)] | rw [if_neg (by omega), if_pos (by omega)] | rw [if_neg (by omega), if_neg (by omega)]
  intro b4
  try simp only [nrmT] at b4
  unfold J0R; first | rw [if_pos (by omega)] | rw [if_neg (by omega), if_pos (by omega)] | rw [if_neg (by omega), if_neg (by omega)]
theorem J3t (a : Int) (b : Int)  : PC Tryz.prog 216 [.int .i64 a, .int .i64 b] (.one (.d (.int .i64 (J0R a b)))) :=
  pc_wf @Tryz.call216 fun _ => pc_by (by kernel_rfl) Tryz.func216 @Tryz.call216 (by kernel_rfl) J6a (J6s a b) (by kernel_rfl) (J5D a b) (by kernel_rfl)
def J35 : List D → Orc := orcN [none, none] fun ds => match ds with
  | [.int .i64 a, .int .i64 b] => some (.one (.d (.int .i64 (J0R a b))))
  | _ => none
abbrev JK (xs : ZI) (ys : ZI) (i : Int) : Prop := (0 ≤ i) ∧ (i ≤ (xs.length : Int)) ∧ (i ≤ (ys.length : Int)) ∧ (Jj xs ys = Jj (xs.drop i.toNat) (ys.drop i.toNat))
abbrev JJ (xs : ZI) (ys : ZI) (i : Int) : Nat := (xs.length - i).toNat
def J4e (f : FuncId) (ds : List D) : Orc := bif Nat.beq f 216 then J35 ds else .no
def J4l (xs : ZI) (ys : ZI) : Ann := .two (.none) (.two (.two (.none) (.loop (cut1 (fun (i : Int) => JK xs ys i) (fun (i : Int) => [(0, .d false (.sl (.ints xs))), (1, .d false (.sl (.ints ys))), (9, .d false (.sl (.ints xs))), (10, .d true (.int .i64 (xs.length : Int))), (11, .d true (.int .i64 i))]) (fun (i : Int) => [])) (fun g => JJ xs ys g) (fun _ => .none))) (.none))
def J1O (xs : ZI) (ys : ZI) : Prop :=
  ((∃ i' : Int, (JK xs ys i') ∧ (xs = xs) ∧ (ys = ys) ∧ (xs = xs) ∧ ((xs.length : Int) = (xs.length : Int)) ∧ ((0 : Int) = i')) ∧ (∀ i : Int, (JK xs ys i) → (((decide (i < (xs.length : Int))) = true → ((0 : Int) ≤ i) ∧ ((i : Int) < xs.length) ∧ (i.toNat < xs.length) ∧ (((decide (i ≥ (ys.length : Int))) = true → (((1 : Int) = (Jj xs ys)))) ∧ ((decide (i ≥ (ys.length : Int))) = false → ((0 : Int) ≤ i) ∧ ((i : Int) < ys.length) ∧ (i.toNat < ys.length) ∧ (PC Tryz.prog 216 [.int .i64 (xs.getD i.toNat 0), .int .i64 (ys.getD i.toNat 0)] (.one (.d (.int .i64 (J0R (xs.getD i.toNat 0) (ys.getD i.toNat 0)))))) ∧ ((((J0R (xs.getD i.toNat 0) (ys.getD i.toNat 0)) != 0) = true → (((J0R (xs.getD i.toNat 0) (ys.getD i.toNat 0)) = (Jj xs ys)))) ∧ (((J0R (xs.getD i.toNat 0) (ys.getD i.toNat 0)) != 0) = false → (I6 (i + 1)) ∧ (∃ i' : Int, (JK xs ys i') ∧ (JJ xs ys i' < JJ xs ys i) ∧ (xs = xs) ∧ (ys = ys) ∧ (xs = xs) ∧ ((xs.length : Int) = (xs.length : Int)) ∧ ((i + 1) = i'))))))) ∧ ((decide (i < (xs.length : Int))) = false → (((decide ((xs.length : Int) < (ys.length : Int))) = true → ((((-1) : Int) = (Jj xs ys)))) ∧ ((decide ((xs.length : Int) < (ys.length : Int))) = false → (((0 : Int) = (Jj xs ys)))))))))
theorem J43 (xs : ZI) (ys : ZI)  (w_xs : (xs.length : Int) ≤ 9223372036854775807) (w_ys : (ys.length : Int) ≤ 9223372036854775807) : J1O xs ys := by
  unfold J1O
  refine ⟨?_, ?_⟩
  ·refine ⟨0, ?_⟩
   refine ⟨?_, rfl, rfl, rfl, rfl, rfl⟩
   ·refine ⟨?_, ?_, ?_, ?_⟩
    ·omega
    ·omega
    ·omega
    ·rfl
  intro i hJ
  obtain ⟨h1, h2, h2y, h3⟩ := hJ
  refine ⟨?_, ?_⟩
  ·intro b1
   try simp only [nrmT] at b1
   refine ⟨?_, ?_, ?_, ?_, ?_⟩
   ·omega
   ·omega
   ·omega
   ·intro b2
    try simp only [nrmT] at b2
    exact (Jcx h3 (by omega) (by omega)).symm
   intro b3
   try simp only [nrmT] at b3
   refine ⟨?_, ?_, ?_, J3t (xs.getD i.toNat 0) (ys.getD i.toNat 0), ?_, ?_⟩
   ·omega
   ·omega
   ·omega
   ·intro b4
    try simp only [nrmT] at b4
    rw [J4x h3 (by omega) (by omega)]
    unfold J0R at b4 ⊢
    by_cases h5 : xs.getD i.toNat 0 < ys.getD i.toNat 0
    · rw [if_pos h5, if_pos h5]
    rw [if_neg h5] at b4 ⊢
    by_cases h6 : xs.getD i.toNat 0 > ys.getD i.toNat 0
    · rw [if_pos h6, if_neg h5, if_pos h6]
    rw [if_neg h6] at b4; omega
   intro b5
   try simp only [nrmT] at b5
   refine ⟨?_, ?_⟩
   ·omega
   refine ⟨(i + 1), ?_⟩
   refine ⟨?_, ?_, rfl, rfl, rfl, rfl, rfl⟩
   ·refine ⟨?_, ?_, ?_, ?_⟩
    ·omega
    ·omega
    ·omega
    ·have h7 := J4x h3 (by omega) (by omega)
     unfold J0R at b5
     rw [h7, show (i + 1).toNat = i.toNat + 1 by omega]
     by_cases h5 : xs.getD i.toNat 0 < ys.getD i.toNat 0
     · rw [if_pos h5] at b5; omega
     rw [if_neg h5] at b5 ⊢
     by_cases h6 : xs.getD i.toNat 0 > ys.getD i.toNat 0
     · rw [if_pos h6] at b5; omega
     rw [if_neg h6]
   (simp only [JJ]; omega)
  intro b6
  try simp only [nrmT] at b6
  refine ⟨?_, ?_⟩
  ·intro b7
   try simp only [nrmT] at b7
   rw [J7p h3 (by omega) (by omega) (by omega), if_pos (by omega)]
  intro b8
  try simp only [nrmT] at b8
  rw [J7p h3 (by omega) (by omega) (by omega), if_neg (by omega)]
theorem J44 (xs : ZI) (ys : ZI)  : PC Tryz.prog 198 [.sl (.ints xs), .sl (.ints ys)] (.one (.d (.int .i64 (Jj xs ys)))) :=
  pc_wf @Tryz.call198 fun hw => pc_by (by kernel_rfl) Tryz.func198 @Tryz.call198 (by kernel_rfl) J4e (J4l xs ys) (by kernel_rfl) (J43 xs ys hw.1 hw.2.1) (by kernel_rfl)
def J3V : List D → Orc := orcN [some .ints, some .ints] fun ds => match ds with
  | [.sl (.ints xs), .sl (.ints ys)] => some (.one (.d (.int .i64 (Jj xs ys))))
  | _ => none
def lst (n code : Nat) : ZI := members (fun k => code.testBit k) n
theorem JdT {n code : Nat} : ∀ x ∈ lst n code, 0 ≤ x ∧ x < (n : Int) := fun x hx => by
  have := mem_members.1 hx
  omega
theorem JdK {n code : Nat} : (lst n code).length ≤ n := members_len_le _ _
theorem JZ (n : Nat) : (1 : Int) * 2 ^ ((n : Int)).toNat = ((2 ^ n : Nat) : Int) := by
  rw [Int.toNat_natCast]; simp
def Jp (a b : ZI) : Int := if J0R (a.length : Int) (b.length : Int) = 0 then Jj a b else J0R (a.length : Int) (b.length : Int)
theorem J9o : ∀ x : ZI, Jj x x = 0
  | [] => rfl
  | x :: r => by unfold Jj; rw [if_neg (by omega), if_neg (by omega)]; exact J9o r
theorem J9p : ∀ {x y : ZI}, Jj x y = 0 → x = y
  | [], [], _ => rfl
  | [], _ :: _, h => by simp [Jj] at h
  | _ :: _, [], h => by simp [Jj] at h
  | x :: r, y :: s, h => by
    unfold Jj at h
    by_cases h1 : x < y
    · rw [if_pos h1] at h; omega
    rw [if_neg h1] at h
    by_cases h2 : x > y
    · rw [if_pos h2] at h; omega
    rw [if_neg h2] at h
    have : x = y := by omega
    rw [this, J9p h]
theorem J9q : ∀ {x y : ZI}, Jj x y < 0 ↔ 0 < Jj y x
  | [], [] => by simp [Jj]
  | [], _ :: _ => by simp [Jj]
  | _ :: _, [] => by simp [Jj]
  | x :: r, y :: s => by
    unfold Jj
    by_cases h1 : x < y
    · rw [if_pos h1, if_neg (by omega), if_pos (by omega)]; omega
    rw [if_neg h1]
    by_cases h2 : x > y
    · rw [if_pos h2, if_pos (by omega)]; omega
    rw [if_neg h2, if_neg (by omega), if_neg (by omega)]; exact J9q
theorem JbX : ∀ {x y z : ZI}, Jj x y < 0 → Jj y z < 0 → Jj x z < 0
  | [], _, [], h1, h2 => by
    exfalso
    rename_i y
    cases y with
    | nil => simp [Jj] at h1
    | cons y s => simp [Jj] at h2
  | [], _, _ :: _, _, _ => by simp [Jj]
  | _ :: _, [], _, h, _ => by simp [Jj] at h
  | _ :: _, _ :: _, [], _, h => by simp [Jj] at h
  | x :: r, y :: s, z :: t, h1, h2 => by
    unfold Jj at h1 h2 ⊢
    by_cases a1 : x < y
    · by_cases a2 : y < z
      · rw [if_pos (by omega)]; omega
      · rw [if_neg a2] at h2
        by_cases a3 : y > z
        · rw [if_pos a3] at h2; omega
        rw [if_pos (by omega)]; omega
    rw [if_neg a1] at h1
    by_cases a4 : x > y
    · rw [if_pos a4] at h1; omega
    rw [if_neg a4] at h1
    by_cases a2 : y < z
    · rw [if_pos (by omega)]; omega
    rw [if_neg a2] at h2
    by_cases a3 : y > z
    · rw [if_pos a3] at h2; omega
    rw [if_neg a3] at h2
    rw [if_neg (by omega), if_neg (by omega)]
    exact JbX h1 h2
theorem J00 (a b : ZI) : (a.length < b.length ∧ Jp a b < 0) ∨ (b.length < a.length ∧ 0 < Jp a b) ∨ (a.length = b.length ∧ Jp a b = Jj a b) := by
  unfold Jp J0R
  by_cases h1 : (a.length : Int) < b.length
  · rw [if_pos h1]; left; exact ⟨by omega, by rw [if_neg (by omega)]; omega⟩
  rw [if_neg h1]
  by_cases h2 : (a.length : Int) > b.length
  · rw [if_pos h2]; right; left; exact ⟨by omega, by rw [if_neg (by omega)]; omega⟩
  rw [if_neg h2]; right; right; exact ⟨by omega, by rw [if_pos rfl]⟩
theorem J9u (a : ZI) : Jp a a = 0 := by
  rcases J00 a a with h | h | h
  · omega
  · omega
  rw [h.2, J9o]
theorem J9A {a b : ZI} (h : Jp a b = 0) : a = b := by
  rcases J00 a b with h1 | h1 | h1
  · omega
  · omega
  exact J9p (h1.2 ▸ h)
theorem J6q {a b : ZI} : Jp a b < 0 ↔ 0 < Jp b a := by
  rcases J00 a b with h1 | h1 | h1 <;> rcases J00 b a with h2 | h2 | h2
  · omega
  · omega
  · omega
  · omega
  · omega
  · omega
  · omega
  · omega
  rw [h1.2, h2.2]; exact J9q
theorem JbR {a b c : ZI} (h : Jp a b < 0) (k : Jp b c < 0) : Jp a c < 0 := by
  rcases J00 a b with h1 | h1 | h1 <;> rcases J00 b c with h2 | h2 | h2 <;> rcases J00 a c with h3 | h3 | h3
  all_goals first | omega | (rw [h3.2]; exact JbX (h1.2 ▸ h) (h2.2 ▸ k))
theorem Jd1 {β : Type} {c : β → β → Int} (hs : ∀ x, c x x = 0) (h0 : ∀ {x y}, c x y = 0 → x = y) (hf : ∀ {x y}, c x y < 0 ↔ 0 < c y x) (ht : ∀ {x y z}, c x y < 0 → c y z < 0 → c x z < 0) :
    Go.Sort.SWO (ltOf c) ∧ ∀ x y, ltOf c x y = false → ltOf c y x = false → x = y := by
  refine ⟨⟨fun x => ?_, fun x y z h1 h2 => ?_, fun x y z h1 h2 => ?_⟩, fun x y h1 h2 => ?_⟩
  · exact decide_eq_false (by rw [hs]; omega)
  · exact decide_eq_true (ht (of_decide_eq_true h1) (of_decide_eq_true h2))
  · have h1 := of_decide_eq_false h1
    have h2 := of_decide_eq_false h2
    refine decide_eq_false fun h3 => ?_
    by_cases e1 : c x y = 0
    · rw [h0 e1] at h3; omega
    by_cases e2 : c y z = 0
    · rw [← h0 e2] at h3; omega
    · have a1 : c y x < 0 := hf.2 (by omega)
      have a2 : c z y < 0 := hf.2 (by omega)
      have a3 := ht a2 a1
      have a4 := hf.1 h3
      omega
  have h1 := of_decide_eq_false h1
  have h2 := of_decide_eq_false h2
  refine h0 ?_
  by_cases e1 : 0 < c x y
  · have := hf.2 e1; omega
  omega
theorem Jdr : Go.Sort.SWO (ltOf Jp) := (Jd1 J9u J9A J6q JbR).1
theorem JdU : ∀ x y, ltOf Jp x y = false → ltOf Jp y x = false → x = y := (Jd1 J9u J9A J6q JbR).2
def orI : ZI → Int
  | [] => 0
  | x :: r => if x = 0 then orI r else x
theorem Jas {xs : ZI} {i : Nat} (h : orI xs = orI (xs.drop i)) (hi : i < xs.length) : orI xs = if xs.getD i 0 = 0 then orI (xs.drop (i + 1)) else xs.getD i 0 := by
  rw [h, List.drop_eq_getElem_cons hi, Js hi]; rfl
theorem JdP {xs : ZI} {i : Nat} (h : orI xs = orI (xs.drop i)) (hi : xs.length ≤ i) : orI xs = 0 := by
  rw [h, List.drop_eq_nil_of_le hi]; rfl
theorem JdO (a b : Int) : orI [a, b] = if a = 0 then b else a := by
  unfold orI orI orI
  by_cases h : b = 0
  · rw [if_pos h, h]
  rw [if_neg h]
def J3x (n m : Nat) : ZR := (List.range m).map fun c => lst n (c + 1)
def Ja (n : Nat) : ZR := (J3x n (2 ^ n - 1)).mergeSort fun x9 y9 => !(ltOf Jp) y9 x9
theorem J12 (n m : Nat) : (J3x n m).length = m := by simp [J3x]
theorem JcW (n : Nat) : (Ja n).length = 2 ^ n - 1 := by unfold Ja; rw [List.length_mergeSort, J12]
theorem J9w (n m : Nat) : J3x n (m + 1) = J3x n m ++ [lst n (m + 1)] := by simp [J3x, List.range_succ]
theorem J64 {n : Nat} {s : ZI} : s ∈ Ja n ↔ ∃ c, 1 ≤ c ∧ c < 2 ^ n ∧ lst n c = s := by
  unfold Ja
  rw [(List.mergeSort_perm _ _).mem_iff, J3x, List.mem_map]
  constructor
  · rintro ⟨c, hc, rfl⟩
    have := List.mem_range.1 hc
    exact ⟨c + 1, by omega, by omega, rfl⟩
  rintro ⟨c, h1, h2, rfl⟩
  exact ⟨c - 1, List.mem_range.2 (by omega), by rw [show c - 1 + 1 = c by omega]⟩
theorem JdF {n c : Nat} (h1 : 1 ≤ c) (h2 : c < 2 ^ n) : 0 < (lst n c).length := by
  rcases Nat.eq_zero_or_pos (lst n c).length with h | h
  · exfalso
    have e : lst n c = [] := List.eq_nil_of_length_eq_zero h
    have : c = 0 := by
      apply Nat.eq_of_testBit_eq
      intro i
      rw [Nat.zero_testBit]
      by_cases hi : i < n
      · cases hb : c.testBit i with
        | false => rfl
        | true =>
          have hm : (i : Int) ∈ lst n c := mem_members.2 ⟨by omega, by omega, by rw [Int.toNat_natCast]; exact hb⟩
          rw [e] at hm; cases hm
      exact Nat.testBit_lt_two_pow (Nat.lt_of_lt_of_le h2 (Nat.pow_le_pow_right (by omega) (by omega)))
    omega
  exact h
theorem JdX {n c : Nat} (hn : n ≤ 62) (h : c < 2 ^ n) : members (fun k => c.testBit k) 62 = lst n c :=
  J1W (fun k hk => Nat.testBit_lt_two_pow (Nat.lt_of_lt_of_le h (Nat.pow_le_pow_right (by omega) hk))) 62 hn
theorem Jcq {out : ZR} {s : ZI} {k : Nat} (ho : out.Pairwise fun x9 y9 => ltOf Jp y9 x9 = false) (hk : k ≤ out.length) (h1 : ∀ j, k ≤ j → j < out.length → Jp s (out.getD j []) < 0) (h2 : k = 0 ∨ ¬ Jp s (out.getD (k - 1) []) < 0) :
    ((out.take k ++ [s]) ++ out.drop k).Pairwise fun x9 y9 => ltOf Jp y9 x9 = false := by
  have hle : ∀ x ∈ out.take k, ltOf Jp s x = false := by
    intro x hx
    obtain ⟨j, hj, rfl⟩ := List.mem_iff_getElem.1 hx
    have hj' : j < k ∧ j < out.length := by rw [List.length_take] at hj; omega
    rcases h2 with h2 | h2
    · omega
    have hs : ltOf Jp s (out.getD (k - 1) []) = false := decide_eq_false h2
    by_cases e : j = k - 1
    · subst e; rw [Js (by omega)] at hs; simpa using hs
    have := List.pairwise_iff_getElem.1 ho j (k - 1) (by omega) (by omega) (by omega)
    rw [Js (by omega)] at hs
    simpa using Jdr.ntrans _ _ _ hs this
  have hgt : ∀ y ∈ out.drop k, ltOf Jp y s = false := by
    intro y hy
    obtain ⟨j, hj, rfl⟩ := List.mem_iff_getElem.1 hy
    have hj' : k + j < out.length := by rw [List.length_drop] at hj; omega
    have := h1 (k + j) (by omega) hj'
    rw [Js hj'] at this
    rw [List.getElem_drop]
    refine decide_eq_false fun h => ?_
    have := J6q.1 h
    omega
  refine List.pairwise_append.2 ⟨List.pairwise_append.2 ⟨ho.sublist (List.take_sublist _ _), by simp, fun a ha b hb => ?_⟩, ho.sublist (List.drop_sublist _ _), fun a ha b hb => ?_⟩
  · have : b = s := by simpa using hb
    subst this; exact hle a ha
  rcases List.mem_append.1 ha with ha | ha
  · obtain ⟨i, hi, rfl⟩ := List.mem_iff_getElem.1 ha
    obtain ⟨j, hj, rfl⟩ := List.mem_iff_getElem.1 hb
    have hi' : i < k ∧ i < out.length := by rw [List.length_take] at hi; omega
    have hj' : k + j < out.length := by rw [List.length_drop] at hj; omega
    have := List.pairwise_iff_getElem.1 ho i (k + j) hi'.2 hj' (by omega)
    simpa using this
  · have : a = s := by simpa using ha
    subst this; exact hgt b hb
theorem Jdz {out : ZR} {s : ZI} {n m k : Nat} (hp : out.Perm (J3x n m)) (hs : s = lst n (m + 1)) : ((out.take k ++ [s]) ++ out.drop k).Perm (J3x n (m + 1)) := by
  rw [J9w, ← hs, List.append_assoc]
  refine List.Perm.trans (List.perm_append_comm_assoc _ _ _) ?_
  refine List.Perm.trans ?_ (List.perm_append_comm)
  rw [List.take_append_drop]
  exact hp.append_left [s]
theorem JcU {out : ZR} {n m : Nat} (hp : out.Perm (J3x n m)) (hm : m = 2 ^ n - 1) (ho : out.Pairwise fun x9 y9 => ltOf Jp y9 x9 = false) : out = Ja n := by
  subst hm
  exact sortedBy_unique Jdr JdU hp ho
abbrev J1N (xs : ZI) (i : Int) : Prop := (0 ≤ i) ∧ (i ≤ (xs.length : Int)) ∧ (orI xs = orI (xs.drop i.toNat))
abbrev J1L (xs : ZI) (i : Int) : Nat := (xs.length - i).toNat
def Jaa (f : FuncId) (ds : List D) : Orc := .no
def J9S (xs : ZI) : Ann := .two (.none) (.two (.none) (.two (.two (.none) (.loop (cut1 (fun (i : Int) => J1N xs i) (fun (i : Int) => [(3, .d true (.int .i64 0)), (6, .d false (.sl (.ints xs))), (7, .d true (.int .i64 (xs.length : Int))), (8, .d true (.int .i64 i))]) (fun (i : Int) => [])) (fun g => J1L xs g) (fun _ => .none))) (.none)))
def J5t (xs : ZI) : Prop :=
  ((∃ i' : Int, (J1N xs i') ∧ ((0 : Int) = 0) ∧ (xs = xs) ∧ ((xs.length : Int) = (xs.length : Int)) ∧ ((0 : Int) = i')) ∧ (∀ i : Int, (J1N xs i) → (((decide (i < (xs.length : Int))) = true → ((0 : Int) ≤ i) ∧ ((i : Int) < xs.length) ∧ (i.toNat < xs.length) ∧ ((((xs.getD i.toNat 0) != 0) = true → (((xs.getD i.toNat 0) = (orI xs)))) ∧ (((xs.getD i.toNat 0) != 0) = false → (I6 (i + 1)) ∧ (∃ i' : Int, (J1N xs i') ∧ (J1L xs i' < J1L xs i) ∧ ((0 : Int) = 0) ∧ (xs = xs) ∧ ((xs.length : Int) = (xs.length : Int)) ∧ ((i + 1) = i'))))) ∧ ((decide (i < (xs.length : Int))) = false → (((0 : Int) = (orI xs)))))))
theorem J94 (xs : ZI)  (w_xs : (xs.length : Int) ≤ 9223372036854775807) : J5t xs := by
  unfold J5t
  refine ⟨?_, ?_⟩
  ·refine ⟨0, ?_⟩
   refine ⟨?_, rfl, rfl, rfl, rfl⟩
   ·refine ⟨?_, ?_, ?_⟩
    ·omega
    ·omega
    ·rfl
  intro i hJ
  obtain ⟨h1, h2, h3⟩ := hJ
  refine ⟨?_, ?_⟩
  ·intro b1
   try simp only [nrmT] at b1
   refine ⟨?_, ?_, ?_, ?_, ?_⟩
   ·omega
   ·omega
   ·omega
   ·intro b2
    try simp only [nrmT] at b2
    rw [Jas h3 (by omega), if_neg (by omega)]
   intro b3
   try simp only [nrmT] at b3
   refine ⟨?_, ?_⟩
   ·omega
   refine ⟨(i + 1), ?_⟩
   refine ⟨?_, ?_, rfl, rfl, rfl, rfl⟩
   ·refine ⟨?_, ?_, ?_⟩
    ·omega
    ·omega
    ·rw [Jas h3 (by omega), if_pos (by omega), show (i + 1).toNat = i.toNat + 1 by omega]
   (simp only [J1L]; omega)
  intro b4
  try simp only [nrmT] at b4
  exact (JdP h3 (by omega)).symm
theorem J9l (xs : ZI)  : PC Tryz.prog 231 [.sl (.ints xs)] (.one (.d (.int .i64 (orI xs)))) :=
  pc_wf @Tryz.call231 fun hw => pc_by (by kernel_rfl) Tryz.func231 @Tryz.call231 (by kernel_rfl) Jaa (J9S xs) (by kernel_rfl) (J94 xs hw.1) (by kernel_rfl)
def J85 : List D → Orc := orcN [some .ints] fun ds => match ds with
  | [.sl (.ints xs)] => some (.one (.d (.int .i64 (orI xs))))
  | _ => none
def J87 (f : FuncId) (ds : List D) : Orc := bif Nat.beq f 216 then J35 ds else bif Nat.beq f 198 then J3V ds else bif Nat.beq f 231 then J85 ds else .no
def J8O (xs : ZI) (ys : ZI) : Ann := .none
def J4J (xs : ZI) (ys : ZI) : Prop :=
  (PC Tryz.prog 216 [.int .i64 (xs.length : Int), .int .i64 (ys.length : Int)] (.one (.d (.int .i64 (J0R (xs.length : Int) (ys.length : Int)))))) ∧ (PC Tryz.prog 198 [.sl (.ints xs), .sl (.ints ys)] (.one (.d (.int .i64 (Jj xs ys))))) ∧ ((2 : Nat) = 2) ∧ (PC Tryz.prog 231 [.sl (.ints ([(J0R (xs.length : Int) (ys.length : Int)), (Jj xs ys)]))] (.one (.d (.int .i64 (orI ([(J0R (xs.length : Int) (ys.length : Int)), (Jj xs ys)])))))) ∧ (((orI ([(J0R (xs.length : Int) (ys.length : Int)), (Jj xs ys)])) = (Jp xs ys)))
theorem J7o (xs : ZI) (ys : ZI)  (w_xs : (xs.length : Int) ≤ 9223372036854775807) (w_ys : (ys.length : Int) ≤ 9223372036854775807) : J4J xs ys := by
  unfold J4J
  refine ⟨J3t (xs.length : Int) (ys.length : Int), J44 xs ys, rfl, J9l ([(J0R (xs.length : Int) (ys.length : Int)), (Jj xs ys)]), ?_⟩
  ·rw [JdO]; rfl
theorem J7O (xs : ZI) (ys : ZI)  : PC Tryz.prog 205 [.sl (.ints xs), .sl (.ints ys)] (.one (.d (.int .i64 (Jp xs ys)))) :=
  pc_wf @Tryz.call205 fun hw => pc_by (by kernel_rfl) Tryz.func205 @Tryz.call205 (by kernel_rfl) J87 (J8O xs ys) (by kernel_rfl) (J7o xs ys hw.1 hw.2.1) (by kernel_rfl)
abbrev J1Z (xs : ZI) (ys : ZI) (i : Int) : Prop := (0 ≤ i) ∧ (i ≤ (xs.length : Int)) ∧ (xs.length = ys.length) ∧ (Jj xs ys = Jj (xs.drop i.toNat) (ys.drop i.toNat))
abbrev J23 (xs : ZI) (ys : ZI) (i : Int) : Nat := (xs.length - i).toNat
def JaE (f : FuncId) (ds : List D) : Orc := .no
def Jag (xs : ZI) (ys : ZI) : Ann := .two (.none) (.two (.none) (.two (.two (.none) (.loop (cut1 (fun (i : Int) => J1Z xs ys i) (fun (i : Int) => [(0, .d false (.sl (.ints xs))), (1, .d false (.sl (.ints ys))), (5, .d true (.int .i64 i))]) (fun (i : Int) => [])) (fun g => J23 xs ys g) (fun _ => .none))) (.none)))
def J6e (xs : ZI) (ys : ZI) : Prop :=
  ((((xs.length : Int) != (ys.length : Int)) = true → (((decide ((xs.length : Int) < (ys.length : Int))) = (decide (Jp xs ys < 0))))) ∧ (((xs.length : Int) != (ys.length : Int)) = false → ((∃ i' : Int, (J1Z xs ys i') ∧ (xs = xs) ∧ (ys = ys) ∧ ((0 : Int) = i')) ∧ (∀ i : Int, (J1Z xs ys i) → (((decide (i < (xs.length : Int))) = true → (true = true) ∧ ((0 : Int) ≤ i) ∧ ((i : Int) < xs.length) ∧ (i.toNat < xs.length) ∧ ((0 : Int) ≤ i) ∧ ((i : Int) < ys.length) ∧ (i.toNat < ys.length) ∧ ((((xs.getD i.toNat 0) != (ys.getD i.toNat 0)) = true → (true = true) ∧ ((0 : Int) ≤ i) ∧ ((i : Int) < xs.length) ∧ (i.toNat < xs.length) ∧ ((0 : Int) ≤ i) ∧ ((i : Int) < ys.length) ∧ (i.toNat < ys.length) ∧ (((decide ((xs.getD i.toNat 0) < (ys.getD i.toNat 0))) = (decide (Jp xs ys < 0))))) ∧ (((xs.getD i.toNat 0) != (ys.getD i.toNat 0)) = false → (I6 (i + 1)) ∧ (∃ i' : Int, (J1Z xs ys i') ∧ (J23 xs ys i' < J23 xs ys i) ∧ (xs = xs) ∧ (ys = ys) ∧ ((i + 1) = i'))))) ∧ ((decide (i < (xs.length : Int))) = false → ((false = (decide (Jp xs ys < 0))))))))))
theorem J9X (xs : ZI) (ys : ZI)  (w_xs : (xs.length : Int) ≤ 9223372036854775807) (w_ys : (ys.length : Int) ≤ 9223372036854775807) : J6e xs ys := by
  unfold J6e
  refine ⟨?_, ?_⟩
  ·intro b1
   try simp only [nrmT] at b1
   rcases J00 xs ys with h | h | h
   · rw [decide_eq_true h.2, decide_eq_true (by omega)]
   · rw [decide_eq_false (by omega), decide_eq_false (by omega)]
   omega
  intro b2
  try simp only [nrmT] at b2
  refine ⟨?_, ?_⟩
  ·refine ⟨0, ?_⟩
   refine ⟨?_, rfl, rfl, rfl⟩
   ·refine ⟨?_, ?_, ?_, ?_⟩
    ·omega
    ·omega
    ·omega
    ·rfl
  intro i hJ
  obtain ⟨h1, h2, hl, h3⟩ := hJ
  refine ⟨?_, ?_⟩
  ·intro b3
   try simp only [nrmT] at b3
   refine ⟨rfl, ?_, ?_, ?_, ?_, ?_, ?_, ?_, ?_⟩
   ·omega
   ·omega
   ·omega
   ·omega
   ·omega
   ·omega
   ·intro b4
    try simp only [nrmT] at b4
    refine ⟨rfl, ?_, ?_, ?_, ?_, ?_, ?_, ?_⟩
    ·omega
    ·omega
    ·omega
    ·omega
    ·omega
    ·omega
    have h5 : Jp xs ys = Jj xs ys := by rcases J00 xs ys with h | h | h <;> first | omega | exact h.2
    rw [h5, J4x h3 (by omega) (by omega)]
    by_cases h6 : xs.getD i.toNat 0 < ys.getD i.toNat 0
    · rw [if_pos h6, decide_eq_true h6]; rfl
    rw [if_neg h6, if_pos (by omega), decide_eq_false h6]; rfl
   intro b5
   try simp only [nrmT] at b5
   refine ⟨?_, ?_⟩
   ·omega
   refine ⟨(i + 1), ?_⟩
   refine ⟨?_, ?_, rfl, rfl, rfl⟩
   ·refine ⟨?_, ?_, ?_, ?_⟩
    ·omega
    ·omega
    ·exact hl
    ·rw [J4x h3 (by omega) (by omega), show (i + 1).toNat = i.toNat + 1 by omega, if_neg (by omega), if_neg (by omega)]
   (simp only [J23]; omega)
  intro b6
  try simp only [nrmT] at b6
  have h5 : Jp xs ys = Jj xs ys := by rcases J00 xs ys with h | h | h <;> first | omega | exact h.2
  rw [h5, J7p h3 (by omega) (by omega) (by omega), if_neg (by omega)]; rfl
theorem Ja2 (xs : ZI) (ys : ZI)  : PC Tryz.prog 211 [.sl (.ints xs), .sl (.ints ys)] (.one (.d (.bool (decide (Jp xs ys < 0))))) :=
  pc_wf @Tryz.call211 fun hw => pc_by (by kernel_rfl) Tryz.func211 @Tryz.call211 (by kernel_rfl) JaE (Jag xs ys) (by kernel_rfl) (J9X xs ys hw.1 hw.2.1) (by kernel_rfl)
def J99 : List D → Orc := orcN [some .ints, some .ints] fun ds => match ds with
  | [.sl (.ints xs), .sl (.ints ys)] => some (.one (.d (.bool (decide (Jp xs ys < 0)))))
  | _ => none
theorem J2V (xss : ZR) (hz : xss.length < 4611686018427387904) : PU Tryz.prog 204 24 (.rows xss) (.rows (xss.mergeSort (fun x9 y9 => !(ltOf Jp) y9 x9))) [.fn 205 0 []] false :=
  pu_sortFunc Tryz.laySortRows 24 xss (fun x => .sl (.ints x)) Jp Jdr JdU 205 (fun x _ y _ => J7O x y) _ _ rfl rfl rfl (List.length_mergeSort _) (fun _ => rfl) (fun i x h => by simp [Mem.get, h]) (fun i x h => by simp [Mem.get, h]) hz @Tryz.call205
abbrev J0K (b : Int) (out : ZI) (x : Int) : Prop := (0 ≤ x) ∧ (x ≤ 62) ∧ (out = members (fun k => b.toNat.testBit k) x.toNat)
abbrev JN (b : Int) (out : ZI) (x : Int) : Nat := (62 - x).toNat
def J8S (f : FuncId) (ds : List D) : Orc := bif Nat.beq f 138 then J5r ds else .no
def J9g (b : Int) : Ann := .two (.none) (.two (.none) (.two (.two (.none) (.loop (cut2 (fun (out : ZI) (x : Int) => J0K b out x) (fun (out : ZI) (x : Int) => [(0, .d false (.int .u64 b)), (3, .own 1000000 out.length), (4, .d true (.int .i64 x))]) (fun (out : ZI) (x : Int) => [(1000000, .arr true 3 (.ints out))])) (fun g => JN b g.1 g.2) (fun _ => .none))) (.none)))
def J50 (b : Int) : Prop :=
  ((∃ out' : ZI, ∃ x' : Int, (J0K b out' x') ∧ (b = b) ∧ ((0 : Nat) = out'.length) ∧ ((0 : Int) = x') ∧ ([] = out')) ∧ (∀ out : ZI, ∀ x : Int, (J0K b out x) → ((0 : Int) ≤ b ∧ (b : Int) ≤ 18446744073709551615) ∧ ((0 : Int) ≤ x) ∧ (((decide ((b / 2 ^ x.toNat) > 0)) = true → (PC Tryz.prog 138 [.int .u64 b, .int .i64 x] (.one (.d (.bool (b.toNat.testBit x.toNat))))) ∧ (((b.toNat.testBit x.toNat) = true → (out.length = out.length) ∧ ((1 : Nat) = 1) ∧ ((out.length + 1) * 8 ≤ 140737488355328) ∧ (I6 (x + 1)) ∧ (∃ out' : ZI, ∃ x' : Int, (J0K b out' x') ∧ (JN b out' x' < JN b out x) ∧ (b = b) ∧ ((out.length + 1) = out'.length) ∧ ((x + 1) = x') ∧ ((out ++ [x]) = out'))) ∧ ((b.toNat.testBit x.toNat) = false → (I6 (x + 1)) ∧ (∃ out' : ZI, ∃ x' : Int, (J0K b out' x') ∧ (JN b out' x' < JN b out x) ∧ (b = b) ∧ (out.length = out'.length) ∧ ((x + 1) = x') ∧ (out = out'))))) ∧ ((decide ((b / 2 ^ x.toNat) > 0)) = false → ((out.length = out.length) ∧ ((out : ZI) = (members (fun k => b.toNat.testBit k) 62)))))))
theorem J8C (b : Int) (hb : 0 ≤ b ∧ b ≤ 4611686018427387903)  : J50 b := by
  unfold J50
  refine ⟨?_, ?_⟩
  ·refine ⟨([]), 0, ?_⟩
   refine ⟨?_, rfl, rfl, rfl, ?_⟩
   ·refine ⟨?_, ?_, ?_⟩
    ·omega
    ·omega
    ·rfl
   rfl
  intro out x hJ
  obtain ⟨h1, h2, h3⟩ := hJ
  refine ⟨?_, ?_, ?_, ?_⟩
  ·omega
  ·omega
  ·intro b1
   try simp only [nrmT] at b1
   refine ⟨?_, ?_, ?_⟩
   ·refine J63 b x ?_ ?_
    ·omega
    ·omega
   ·intro b2
    try simp only [nrmT] at b2
    refine ⟨rfl, rfl, ?_, ?_, ?_⟩
    ·rw [h3]; have := members_len_le (fun k => b.toNat.testBit k) x.toNat; omega
    ·omega
    refine ⟨(out ++ [x]), (x + 1), ?_⟩
    refine ⟨?_, ?_, rfl, ?_, rfl, rfl⟩
    ·refine ⟨?_, ?_, ?_⟩
     ·omega
     ·have := J60 hb h2 b1; omega
     ·rw [h3, show (x + 1).toNat = x.toNat + 1 by omega, members_succ, b2]; simp; try omega
    ·have := J60 hb h2 b1
     (simp only [JN]; omega)
    (simp_all; done)
   intro b3
   try simp only [nrmT] at b3
   refine ⟨?_, ?_⟩
   ·omega
   refine ⟨out, (x + 1), ?_⟩
   refine ⟨?_, ?_, rfl, rfl, rfl, rfl⟩
   ·refine ⟨?_, ?_, ?_⟩
    ·omega
    ·have := J60 hb h2 b1; omega
    ·rw [h3, show (x + 1).toNat = x.toNat + 1 by omega, members_succ, b3]; simp; try omega
   have := J60 hb h2 b1
   (simp only [JN]; omega)
  intro b4
  try simp only [nrmT] at b4
  refine ⟨rfl, ?_⟩
  ·rw [h3]; refine (J1W (fun k hk => JbW hb.1 (m := x.toNat) (by omega) k hk) 62 (by omega)).symm
theorem J8z (b : Int) (hb : 0 ≤ b ∧ b ≤ 4611686018427387903) : PC Tryz.prog 139 [.int .u64 b] (.one (.d (.sl (.ints (members (fun k => b.toNat.testBit k) 62))))) :=
  pc_wf @Tryz.call139 fun _ => pc_by (by kernel_rfl) Tryz.func139 @Tryz.call139 (by kernel_rfl) J8S (J9g b) (by kernel_rfl) (J8C b hb) (by kernel_rfl)
abbrev J4i (n : Int) (out : ZR) (b : Int) : Prop := (1 ≤ b) ∧ (b ≤ ((2 ^ n.toNat : Nat) : Int)) ∧ (out = J3x n.toNat (b.toNat - 1))
abbrev J4c (n : Int) (out : ZR) (b : Int) : Nat := (((2 ^ n.toNat : Nat) : Int) - b).toNat
abbrev J4k (n : Int) (out2 : ZR) : Prop := (out2 = J3x n.toNat (2 ^ n.toNat - 1))
def Jdy (f : FuncId) (ds : List D) : Orc := .no
def JdB (n : Int) : Ann := .two (.none) (.two (.none) (.cut (.two (.none) (.loop (cut2 (fun (out : ZR) (b : Int) => J4i n out b) (fun (out : ZR) (b : Int) => [(0, .d false (.int .i64 n)), (3, .own 1000000 out.length), (4, .d true (.int .u64 b))]) (fun (out : ZR) (b : Int) => [(1000000, .arr true 24 (.rows out))])) (fun g => J4c n g.1 g.2) (fun g => (fun (out : ZR) (b : Int) => .two (.none) (.two (.reg [(2, .call none (.one (.d (.sl (.ints (members (fun k => b.toNat.testBit k) 62))))))]) (.none))) (g.1) (g.2)))) (cut1 (fun (out2 : ZR) => J4k n out2) (fun (out2 : ZR) => [(3, .own 1000050 out2.length)]) (fun (out2 : ZR) => [(1000050, .arr true 24 (.rows out2))])) (fun g => (fun (out2 : ZR) => .two (.mark [] [(1, .up (.rows (out2.mergeSort (fun x9 y9 => !(ltOf Jp) y9 x9))) false)]) (.none)) g)))
def JaH (n : Int) : Prop :=
  ((((∃ out' : ZR, ∃ b' : Int, (J4i n out' b') ∧ (n = n) ∧ ((0 : Nat) = out'.length) ∧ ((1 : Int) = b') ∧ ([] = out')) ∧ (∀ out : ZR, ∀ b : Int, (J4i n out b) → ((0 : Int) ≤ 1) ∧ ((0 : Int) ≤ n) ∧ ((0 : Int) ≤ ((1 : Int) * 2 ^ n.toNat) ∧ (((1 : Int) * 2 ^ n.toNat) : Int) ≤ 18446744073709551615) ∧ (((decide (b < ((1 : Int) * 2 ^ n.toNat))) = true → (PC Tryz.prog 139 [.int .u64 b] (.one (.d (.sl (.ints (members (fun k => b.toNat.testBit k) 62)))))) ∧ (out.length = out.length) ∧ ((1 : Nat) = 1) ∧ ((out.length + 1) * 24 ≤ 140737488355328) ∧ (0 ≤ (b + 1) ∧ (b + 1) ≤ 18446744073709551615) ∧ (∃ out' : ZR, ∃ b' : Int, (J4i n out' b') ∧ (J4c n out' b' < J4c n out b) ∧ (n = n) ∧ ((out.length + 1) = out'.length) ∧ ((b + 1) = b') ∧ ((out ++ [(members (fun k => b.toNat.testBit k) 62)]) = out'))) ∧ ((decide (b < ((1 : Int) * 2 ^ n.toNat))) = false → (∃ out2' : ZR, (J4k n out2') ∧ (out.length = out2'.length) ∧ (out = out2'))))))) ∧ (∀ out2 : ZR, (J4k n out2) → (out2.length = out2.length) ∧ (PU Tryz.prog 204 24 (.rows out2) (.rows (out2.mergeSort (fun x9 y9 => !(ltOf Jp) y9 x9))) [.fn 205 0 []] false) ∧ ((out2.length = (out2.mergeSort (fun x9 y9 => !(ltOf Jp) y9 x9)).length) ∧ (((out2.mergeSort (fun x9 y9 => !(ltOf Jp) y9 x9)) : ZR) = Ja n.toNat))))
theorem JcO (n : Int) (hn : 0 ≤ n ∧ n ≤ 8)  : JaH n := by
  unfold JaH
  have p7 := J57 (n := n.toNat) (by omega)
  have pp := Nat.two_pow_pos n.toNat
  have e0 := JZ n.toNat
  have e1 : ((2 : Int) ^ n.toNat) = ((2 ^ n.toNat : Nat) : Int) := by simp
  refine ⟨?_, ?_⟩
  ·refine ⟨?_, ?_⟩
   ·refine ⟨([]), 1, ?_⟩
    refine ⟨?_, rfl, rfl, rfl, ?_⟩
    ·refine ⟨?_, ?_, ?_⟩
     ·omega
     ·generalize 2 ^ n.toNat = M at *
      omega
     ·rfl
    rfl
   ·intro out b hJ
    obtain ⟨h1, h2, h3⟩ := hJ
    refine ⟨?_, ?_, ?_, ?_, ?_⟩
    ·omega
    ·omega
    ·rw [Int.one_mul, e1]
     generalize 2 ^ n.toNat = M at *
     omega
    ·intro b1
     try simp only [nrmT] at b1
     refine ⟨?_, rfl, rfl, ?_, ?_, ?_⟩
     ·refine J8z b ?_
      ·rw [Int.one_mul, e1] at b1
       generalize 2 ^ n.toNat = M at *
       omega
     ·rw [Int.one_mul, e1] at b1
      rw [h3, J12]
      generalize 2 ^ n.toNat = M at *
      omega
     ·rw [Int.one_mul, e1] at b1
      generalize 2 ^ n.toNat = M at *
      omega
     refine ⟨(out ++ [(members (fun k => b.toNat.testBit k) 62)]), (b + 1), ?_⟩
     refine ⟨?_, ?_, rfl, ?_, rfl, rfl⟩
     ·refine ⟨?_, ?_, ?_⟩
      ·omega
      ·rw [Int.one_mul, e1] at b1
       generalize 2 ^ n.toNat = M at *
       omega
      ·rw [Int.one_mul, e1] at b1
       have hb : b.toNat < 2 ^ n.toNat := by
         generalize 2 ^ n.toNat = M at *
         omega
       rw [h3, show (b + 1).toNat - 1 = (b.toNat - 1) + 1 by omega, J9w, show b.toNat - 1 + 1 = b.toNat by omega, JdX (n := n.toNat) (by omega) hb]
     ·rw [Int.one_mul, e1] at b1
      (simp only [J4c]; omega)
     first | omega | rfl | (intro hg; simp only [nrmT] at hg; omega) | (intro g1 g2; simp [g1, g2]; done) | (intro g1; simp at g1 ⊢; simp [g1]; done) | (simp only [nrmT] at *; omega) | (simp at * <;> omega) | (simp_all <;> omega) | (simp_all; done)
    intro b2
    try simp only [nrmT] at b2
    refine ⟨out, ?_⟩
    refine ⟨?_, rfl, rfl⟩
    ·unfold J4k
     rw [Int.one_mul, e1] at b2
     have hm : b.toNat - 1 = 2 ^ n.toNat - 1 := by
       generalize 2 ^ n.toNat = M at *
       omega
     rw [h3, hm]
  intro out2 hJ
  have h8 := hJ
  refine ⟨rfl, ?_, ?_, ?_⟩
  ·refine J2V out2 ?_
   ·rw [h8, J12]
    generalize 2 ^ n.toNat = M at *
    omega
  ·simp
  rw [h8]; rfl
theorem Jdk (n : Int) (hn : 0 ≤ n ∧ n ≤ 8) : PC Tryz.prog 115 [.int .i64 n] (.one (.own 24 (.rows (Ja n.toNat)))) :=
  pc_wf @Tryz.call115 fun _ => pc_by (by kernel_rfl) Tryz.func115 @Tryz.call115 (by kernel_rfl) Jdy (JdB n) (by kernel_rfl) (JcO n hn) (by kernel_rfl)
def JcI : List D → Orc := orcN [none] fun ds => match ds with
  | [.int .i64 n] => some (.one (.own 24 (.rows (Ja n.toNat))))
  | _ => none
abbrev J2W (n : Int) (out : ZR) (code : Int) : Prop := (1 ≤ code) ∧ (code ≤ ((2 ^ n.toNat : Nat) : Int)) ∧ (out.Perm (J3x n.toNat (code.toNat - 1))) ∧ (out.Pairwise (fun x9 y9 => ltOf Jp y9 x9 = false))
abbrev J3f (n : Int) (out : ZR) (code : Int) : Nat := (((2 ^ n.toNat : Nat) : Int) - code).toNat
abbrev J3l (n : Int) (out : ZR) (code : Int) (k : Int) : Prop := (0 ≤ k) ∧ (k ≤ (out.length : Int)) ∧ (∀ j, k.toNat ≤ j → j < out.length → Jp (lst n.toNat code.toNat) (out.getD j []) < 0)
abbrev J3k (n : Int) (out : ZR) (code : Int) (k : Int) : Nat := k.toNat
def Jc5 (f : FuncId) (ds : List D) : Orc := bif Nat.beq f 142 then JaN ds else bif Nat.beq f 211 then J99 ds else .no
def Jca (n : Int) : Ann := .two (.none) (.two (.reg [(0, .frz)]) (.two (.two (.none) (.loop (cut2 (fun (out : ZR) (code : Int) => J2W n out code) (fun (out : ZR) (code : Int) => [(0, .d false (.int .i64 n)), (3, .d true (.sl (.rows out))), (4, .d true (.int .i64 code))]) (fun (out : ZR) (code : Int) => [])) (fun g => J3f n g.1 g.2) (fun g => (fun (out : ZR) (code : Int) => .two (.none) (.two (.two (.none) (.two (.loop (cut1 (fun (k : Int) => J3l n out code k) (fun (k : Int) => [(0, .d false (.int .i64 n)), (3, .d true (.sl (.rows out))), (4, .d true (.int .i64 code)), (5, .d true (.sl (.ints (members (fun k => code.toNat.testBit k) n.toNat)))), (6, .d true (.int .i64 k))]) (fun (k : Int) => [])) (fun g => J3k n out code g) (fun _ => .none)) (.none))) (.none))) (g.1) (g.2)))) (.none)))
def J8k (n : Int) : Prop :=
  ((∃ out' : ZR, ∃ code' : Int, (J2W n out' code') ∧ (n = n) ∧ ([] = out') ∧ ((1 : Int) = code')) ∧ (∀ out : ZR, ∀ code : Int, (J2W n out code) → ((0 : Int) ≤ 1) ∧ ((0 : Int) ≤ n) ∧ ((0 : Int) ≤ ((1 : Int) * 2 ^ n.toNat) ∧ (((1 : Int) * 2 ^ n.toNat) : Int) ≤ 9223372036854775807) ∧ (((decide (code < ((1 : Int) * 2 ^ n.toNat))) = true → (PC Tryz.prog 142 [.int .i64 n, .int .i64 code] (.one (.d (.sl (.ints (members (fun k => code.toNat.testBit k) n.toNat)))))) ∧ ((∃ k' : Int, (J3l n out code k') ∧ (n = n) ∧ (out = out) ∧ (code = code) ∧ ((members (fun k => code.toNat.testBit k) n.toNat) = (members (fun k => code.toNat.testBit k) n.toNat)) ∧ ((out.length : Int) = k')) ∧ (∀ k : Int, (J3l n out code k) → ((decide (k > 0)) = true → (decide (k > 0)) = true) ∧ (((decide (k > 0)) = true → I6 (k - 1))) ∧ ((decide (k > 0)) = true → (decide (k > 0)) = true) ∧ ((decide (k > 0)) = true → (decide (k > 0)) = true) ∧ (((decide (k > 0)) = true → (0 : Int) ≤ (k - 1))) ∧ (((decide (k > 0)) = true → ((k - 1) : Int) < out.length)) ∧ ((decide (k > 0)) = true → (decide (k > 0)) = true) ∧ (((decide (k > 0)) = true → (k - 1).toNat < out.length)) ∧ ((decide (k > 0)) = true → (decide (k > 0)) = true) ∧ ((decide (k > 0)) = true → (decide (k > 0)) = true) ∧ ((decide (k > 0)) = true → PC Tryz.prog 211 [.sl (.ints (members (fun k => code.toNat.testBit k) n.toNat)), .sl (.ints (out.getD ((k - 1).toNat) []))] (.one (.d (.bool (decide (Jp (members (fun k => code.toNat.testBit k) n.toNat) (out.getD ((k - 1).toNat) []) < 0)))))) ∧ (true = true) ∧ (((decide (k > 0)) = true → (decide (k > 0)) = true)) ∧ (((decide (k > 0)) = false → true = true)) ∧ (((cond (decide (k > 0)) (decide (Jp (members (fun k => code.toNat.testBit k) n.toNat) (out.getD ((k - 1).toNat) []) < 0)) false) = true → (I6 (k - 1)) ∧ (∃ k' : Int, (J3l n out code k') ∧ (J3k n out code k' < J3k n out code k) ∧ (n = n) ∧ (out = out) ∧ (code = code) ∧ ((members (fun k => code.toNat.testBit k) n.toNat) = (members (fun k => code.toNat.testBit k) n.toNat)) ∧ ((k - 1) = k'))) ∧ ((cond (decide (k > 0)) (decide (Jp (members (fun k => code.toNat.testBit k) n.toNat) (out.getD ((k - 1).toNat) []) < 0)) false) = false → (true = true) ∧ ((0 : Int) ≤ k) ∧ ((k : Int) ≤ out.length) ∧ ((0 : Nat) = 0) ∧ (True) ∧ ((0 + ((out.take k.toNat).drop 0).length) * 24 ≤ 140737488355328) ∧ ((0 + ((out.take k.toNat).drop 0).length) = ([] ++ ((out.take k.toNat).drop 0)).length) ∧ ((1 : Nat) = 1) ∧ ((([] ++ ((out.take k.toNat).drop 0)).length + 1) * 24 ≤ 140737488355328) ∧ ((0 : Int) ≤ k) ∧ ((k : Int) ≤ out.length) ∧ (((0 + ((out.take k.toNat).drop 0).length) + 1) = (([] ++ ((out.take k.toNat).drop 0)) ++ [(members (fun k => code.toNat.testBit k) n.toNat)]).length) ∧ (True) ∧ (((([] ++ ((out.take k.toNat).drop 0)) ++ [(members (fun k => code.toNat.testBit k) n.toNat)]).length + ((out.take out.length).drop k.toNat).length) * 24 ≤ 140737488355328) ∧ (I6 (code + 1)) ∧ (∃ out' : ZR, ∃ code' : Int, (J2W n out' code') ∧ (J3f n out' code' < J3f n out code) ∧ (n = n) ∧ ((((0 + ((out.take k.toNat).drop 0).length) + 1) + ((out.take out.length).drop k.toNat).length) = ((([] ++ ((out.take k.toNat).drop 0)) ++ [(members (fun k => code.toNat.testBit k) n.toNat)]) ++ ((out.take out.length).drop k.toNat)).length) ∧ (((([] ++ ((out.take k.toNat).drop 0)) ++ [(members (fun k => code.toNat.testBit k) n.toNat)]) ++ ((out.take out.length).drop k.toNat)) = out') ∧ ((code + 1) = code'))))))) ∧ ((decide (code < ((1 : Int) * 2 ^ n.toNat))) = false → (((out : ZR) = (Ja n.toNat)))))))
theorem JbG (n : Int) (hn : 0 ≤ n ∧ n ≤ 8)  : J8k n := by
  unfold J8k
  have p7 := J57 (n := n.toNat) (by omega)
  have pp := Nat.two_pow_pos n.toNat
  have e0 := JZ n.toNat
  have e1 : ((2 : Int) ^ n.toNat) = ((2 ^ n.toNat : Nat) : Int) := by simp
  refine ⟨?_, ?_⟩
  ·refine ⟨([]), 1, ?_⟩
   refine ⟨?_, rfl, ?_, rfl⟩
   ·refine ⟨?_, ?_, ?_, ?_⟩
    ·omega
    ·generalize 2 ^ n.toNat = M at *
     omega
    ·exact List.Perm.refl _
    ·exact List.Pairwise.nil
   rfl
  intro out code hJ
  obtain ⟨h1, h2, h3, h4⟩ := hJ
  refine ⟨?_, ?_, ?_, ?_, ?_⟩
  ·omega
  ·omega
  ·rw [Int.one_mul, e1]
   generalize 2 ^ n.toNat = M at *
   omega
  ·intro b1
   try simp only [nrmT] at b1
   refine ⟨?_, ?_, ?_⟩
   ·refine Jbd n code ?_ ?_
    ·omega
    ·rw [Int.one_mul, e1] at b1
     generalize 2 ^ n.toNat = M at *
     omega
   ·refine ⟨(out.length : Int), ?_⟩
    refine ⟨?_, rfl, rfl, rfl, rfl, rfl⟩
    ·refine ⟨?_, ?_, ?_⟩
     ·omega
     ·omega
     ·intro j h8 h9; omega
   intro k hJ
   obtain ⟨h5, h6, h7⟩ := hJ
   refine ⟨id, ?_, id, id, ?_, ?_, id, ?_, id, id, fun _ => Ja2 (members (fun k => code.toNat.testBit k) n.toNat) (out.getD ((k - 1).toNat) []), rfl, id, fun _ => rfl, ?_, ?_⟩
   ·have ol := h3.length_eq
    rw [J12] at ol
    rw [Int.one_mul, e1] at b1
    intro hg2
    have := of_decide_eq_true hg2
    generalize 2 ^ n.toNat = M at *
    omega
   ·(intro hg; simp only [nrmT] at hg; omega)
   ·omega
   ·(intro hg; simp only [nrmT] at hg; omega)
   ·intro b2
    refine ⟨?_, ?_⟩
    ·have ol := h3.length_eq
     rw [J12] at ol
     rw [Int.one_mul, e1] at b1
     have hk : 0 < k := by
       revert b2
       by_cases h : k > 0
       · intro _; exact h
       rw [decide_eq_false h]; intro g; cases g
     generalize 2 ^ n.toNat = M at *
     omega
    refine ⟨(k - 1), ?_⟩
    refine ⟨?_, ?_, rfl, rfl, rfl, rfl, rfl⟩
    ·refine ⟨?_, ?_, ?_⟩
     ·have ol := h3.length_eq
      rw [J12] at ol
      rw [Int.one_mul, e1] at b1
      have hk : 0 < k := by
        revert b2
        by_cases h : k > 0
        · intro _; exact h
        rw [decide_eq_false h]; intro g; cases g
      generalize 2 ^ n.toNat = M at *
      omega
     ·have ol := h3.length_eq
      rw [J12] at ol
      rw [Int.one_mul, e1] at b1
      have hk : 0 < k := by
        revert b2
        by_cases h : k > 0
        · intro _; exact h
        rw [decide_eq_false h]; intro g; cases g
      generalize 2 ^ n.toNat = M at *
      omega
     ·intro j h8 h9
      have hk : 0 < k ∧ Jp (lst n.toNat code.toNat) (out.getD (k - 1).toNat []) < 0 := by
        revert b2
        by_cases h : k > 0
        · rw [decide_eq_true h]; intro g; exact ⟨h, of_decide_eq_true g⟩
        rw [decide_eq_false h]; intro g; cases g
      by_cases e : j = (k - 1).toNat
      · rw [e]; exact hk.2
      exact h7 j (by omega) h9
    have hk : 0 < k := by
      revert b2
      by_cases h : k > 0
      · intro _; exact h
      rw [decide_eq_false h]; intro g; cases g
    (simp only [J3k]; omega)
   intro b3
   refine ⟨rfl, ?_, ?_, rfl, trivial, ?_, ?_, rfl, ?_, ?_, ?_, ?_, trivial, ?_, ?_, ?_⟩
   ·omega
   ·omega
   ·have ol := h3.length_eq
    rw [J12] at ol
    rw [Int.one_mul, e1] at b1
    simp only [List.length_append, List.length_drop, List.length_take, List.length_cons, List.length_nil]
    generalize 2 ^ n.toNat = M at *
    omega
   ·simp only [List.length_append, List.length_cons, List.length_nil] <;> omega
   ·have ol := h3.length_eq
    rw [J12] at ol
    rw [Int.one_mul, e1] at b1
    simp only [List.length_append, List.length_drop, List.length_take, List.length_cons, List.length_nil]
    generalize 2 ^ n.toNat = M at *
    omega
   ·omega
   ·omega
   ·first | omega | rfl | (intro hg; simp only [nrmT] at hg; omega) | (intro g1 g2; simp [g1, g2]; done) | (intro g1; simp at g1 ⊢; simp [g1]; done) | (simp only [nrmT] at *; omega) | (simp at * <;> omega) | (simp_all <;> omega) | (simp_all; done)
   ·have ol := h3.length_eq
    rw [J12] at ol
    rw [Int.one_mul, e1] at b1
    simp only [List.length_append, List.length_drop, List.length_take, List.length_cons, List.length_nil]
    generalize 2 ^ n.toNat = M at *
    omega
   ·rw [Int.one_mul, e1] at b1
    generalize 2 ^ n.toNat = M at *
    omega
   refine ⟨((([] ++ ((out.take k.toNat).drop 0)) ++ [(members (fun k => code.toNat.testBit k) n.toNat)]) ++ ((out.take out.length).drop k.toNat)), (code + 1), ?_⟩
   refine ⟨?_, ?_, rfl, ?_, rfl, rfl⟩
   ·refine ⟨?_, ?_, ?_, ?_⟩
    ·omega
    ·rw [Int.one_mul, e1] at b1
     generalize 2 ^ n.toNat = M at *
     omega
    ·have hq : (((([] : ZR) ++ ((out.take k.toNat).drop 0)) ++ [(members (fun k => code.toNat.testBit k) n.toNat)]) ++ ((out.take out.length).drop k.toNat)) = (out.take k.toNat ++ [lst n.toNat code.toNat]) ++ out.drop k.toNat := by
       rw [List.nil_append, List.drop_zero, List.take_length]; rfl
     rw [hq, show (code + 1).toNat - 1 = (code.toNat - 1) + 1 by omega]
     exact Jdz h3 (by rw [show code.toNat - 1 + 1 = code.toNat by omega])
    ·have hq : (((([] : ZR) ++ ((out.take k.toNat).drop 0)) ++ [(members (fun k => code.toNat.testBit k) n.toNat)]) ++ ((out.take out.length).drop k.toNat)) = (out.take k.toNat ++ [lst n.toNat code.toNat]) ++ out.drop k.toNat := by
       rw [List.nil_append, List.drop_zero, List.take_length]; rfl
     rw [hq]
     refine Jcq h4 (by omega) h7 ?_
     by_cases e : k.toNat = 0
     · exact .inl e
     refine .inr fun h => ?_
     rw [decide_eq_true (show k > 0 by omega), decide_eq_true (by rw [show (k - 1).toNat = k.toNat - 1 by omega]; exact h)] at b3
     cases b3
   ·rw [Int.one_mul, e1] at b1
    (simp only [J3f]; omega)
   simp only [List.length_append, List.length_cons, List.length_nil] <;> omega
  intro b4
  try simp only [nrmT] at b4
  rw [Int.one_mul, e1] at b4
  exact JcU h3 (by
    generalize 2 ^ n.toNat = M at *
    omega) h4
theorem Jby (n : Int) (hn : 0 ≤ n ∧ n ≤ 8) : PC Tryz.prog 148 [.int .i64 n] (.one (.d (.sl (.rows (Ja n.toNat))))) :=
  pc_wf @Tryz.call148 fun _ => pc_by (by kernel_rfl) Tryz.func148 @Tryz.call148 (by kernel_rfl) Jc5 (Jca n) (by kernel_rfl) (JbG n hn) (by kernel_rfl)
def Jb8 : List D → Orc := orcN [none] fun ds => match ds with
  | [.int .i64 n] => some (.one (.d (.sl (.rows (Ja n.toNat)))))
  | _ => none
theorem J62 {l : ZI} {lo hi : Int} (ha : Asc l) (hb : ∀ x ∈ l, lo ≤ x ∧ x ≤ hi) : J3 l lo hi = true :=
  allTo_iff.2 fun k hk => by
    unfold J1v
    rw [Bool.and_eq_true, Bool.or_eq_true]
    refine ⟨decide_eq_true (hb _ (getD_mem hk)), ?_⟩
    by_cases e : k = 0
    · exact .inl (decide_eq_true e)
    right
    have := List.pairwise_iff_getElem.1 ha (k - 1) k (by omega) hk (by omega)
    rw [Js hk, Js (by omega)]
    exact decide_eq_true this
theorem JdE {n c : Nat} : Asc (lst n c) := asc_members _ _
theorem JdL {U : ZI} {E : ZR} (hg : J2 U E = true) {s : ZI} (hs : s ∈ Ja (U.length : Int).toNat) :
    (J2 U E && J3 s 0 ((U.length : Int) - 1) && decide (0 < s.length)) = true ∧ s.length ≤ 7 := by
  obtain ⟨g1, g2, g3⟩ := Jr hg
  rw [Int.toNat_natCast] at hs
  obtain ⟨c, h1, h2, rfl⟩ := J64.1 hs
  have hl := JdK (n := U.length) (code := c)
  refine ⟨?_, by omega⟩
  rw [hg, J62 JdE (fun x hx => by have := JdT x hx; omega), decide_eq_true (JdF h1 h2)]
  rfl
def Je0 (xs : ZI) (b : Int) (k : Nat) : Int := max b (xs.getD k 0)
def J3O (xs : ZI) (k : Nat) : Int := foldTo (Je0 xs) (xs.getD 0 0) k
def J6m (xs : ZI) : Int := J3O xs xs.length
theorem J82 (xs : ZI) (k : Nat) : J3O xs (k + 1) = max (J3O xs k) (xs.getD k 0) := rfl
theorem Jaz (xs : ZI) : ∀ k, 0 < k → (∀ j, j < k → xs.getD j 0 ≤ J3O xs k) ∧ ∃ j, j < k ∧ J3O xs k = xs.getD j 0
  | 0, h => by omega
  | k + 1, _ => by
    rw [J82]
    by_cases hk : 0 < k
    · obtain ⟨h1, j, h2, h3⟩ := Jaz xs k hk
      refine ⟨fun i hi => ?_, ?_⟩
      · by_cases e : i = k
        · subst e; omega
        · have := h1 i (by omega); omega
      by_cases e : xs.getD k 0 ≤ J3O xs k
      · exact ⟨j, by omega, by omega⟩
      · exact ⟨k, by omega, by omega⟩
    have : k = 0 := by omega
    subst this
    have e : J3O xs 0 = xs.getD 0 0 := rfl
    refine ⟨fun i hi => ?_, 0, by omega, by omega⟩
    have : i = 0 := by omega
    subst this; omega
def Je2 (E : ZR) (set : ZI) (m : Int) (j : Nat) : Int := max m (J2y E set j)
def J3I (E : ZR) (set : ZI) (k : Nat) : Int := foldTo (Je2 E set) 0 k
def J18 (E : ZR) (set : ZI) : Int := J3I E set E.length
theorem Jct (E : ZR) (set : ZI) (k : Nat) : J3I E set (k + 1) = max (J3I E set k) (J2y E set k) := rfl
theorem J7t (E : ZR) (set : ZI) : ∀ k, 0 ≤ J3I E set k ∧ (∀ j, j < k → J2y E set j ≤ J3I E set k) ∧ (J3I E set k = 0 ∨ ∃ j, j < k ∧ J3I E set k = J2y E set j)
  | 0 => ⟨Int.le_refl _, fun j hj => by omega, .inl rfl⟩
  | k + 1 => by
    obtain ⟨h1, h2, h3⟩ := J7t E set k
    rw [Jct]
    refine ⟨by omega, fun j hj => ?_, ?_⟩
    · by_cases e : j = k
      · subst e; omega
      · have := h2 j (by omega); omega
    by_cases e : J2y E set k ≤ J3I E set k
    · rcases h3 with h3 | ⟨j, h3, h4⟩
      · left; omega
      · right; exact ⟨j, by omega, by omega⟩
    · right; exact ⟨k, by omega, by omega⟩
theorem JdG (E : ZR) (set : ZI) : J6m (JB E set E.length ++ [0]) = J18 E set := by
  have el : (JB E set E.length ++ [0]).length = E.length + 1 := by simp [J2P]
  have ge : ∀ j, j < E.length → (JB E set E.length ++ [0]).getD j 0 = J2y E set j := fun j hj => by
    rw [← Jc2 E set E.length j hj, List.getD_eq_getElem?_getD, List.getElem?_append_left (by rw [J2P]; exact hj), ← List.getD_eq_getElem?_getD]
  have gl : (JB E set E.length ++ [0]).getD E.length 0 = 0 := by
    rw [List.getD_eq_getElem?_getD, List.getElem?_append_right (by rw [J2P]; exact Nat.le_refl _), J2P, Nat.sub_self]; rfl
  obtain ⟨h1, j, h2, h3⟩ := Jaz (JB E set E.length ++ [0]) (E.length + 1) (by omega)
  obtain ⟨k1, k2, k3⟩ := J7t E set E.length
  unfold J6m J18
  rw [el]
  have a0 := h1 E.length (by omega)
  rw [gl] at a0
  have u : J3O (JB E set E.length ++ [0]) (E.length + 1) ≤ J3I E set E.length := by
    rw [h3]
    by_cases e : j = E.length
    · rw [e, gl]; exact k1
    rw [ge j (by omega)]; exact k2 j (by omega)
  have l : J3I E set E.length ≤ J3O (JB E set E.length ++ [0]) (E.length + 1) := by
    rcases k3 with k3 | ⟨i, k3, k4⟩
    · omega
    have := h1 i (by omega)
    rw [ge i k3] at this
    omega
  omega
abbrev JX (xs : ZI) (m : Int) (i : Int) : Prop := (1 ≤ i) ∧ (i ≤ (xs.length : Int)) ∧ (m = J3O xs i.toNat)
abbrev JW (xs : ZI) (m : Int) (i : Int) : Nat := (xs.length - i).toNat
def J4P (f : FuncId) (ds : List D) : Orc := .no
def J4U (xs : ZI) : Ann := .two (.none) (.two (.two (.none) (.goF (.none))) (.two (.none) (.two (.two (.none) (.loop (cut2 (fun (m : Int) (i : Int) => JX xs m i) (fun (m : Int) (i : Int) => [(0, .d false (.sl (.ints xs))), (3, .d true (.int .i64 m)), (4, .d true (.int .i64 i))]) (fun (m : Int) (i : Int) => [])) (fun g => JW xs g.1 g.2) (fun _ => .none))) (.none))))
def J2R (xs : ZI) : Prop :=
  ((decide ((xs.length : Int) < 1)) = false) ∧ ((0 : Int) ≤ 0) ∧ ((0 : Int) < xs.length) ∧ (0 < xs.length) ∧ ((∃ m' : Int, ∃ i' : Int, (JX xs m' i') ∧ (xs = xs) ∧ ((xs.getD 0 0) = m') ∧ ((1 : Int) = i')) ∧ (∀ m : Int, ∀ i : Int, (JX xs m i) → (((decide (i < (xs.length : Int))) = true → ((0 : Int) ≤ i) ∧ ((i : Int) < xs.length) ∧ (i.toNat < xs.length) ∧ (I6 (i + 1)) ∧ (∃ m' : Int, ∃ i' : Int, (JX xs m' i') ∧ (JW xs m' i' < JW xs m i) ∧ (xs = xs) ∧ ((max m (xs.getD i.toNat 0)) = m') ∧ ((i + 1) = i'))) ∧ ((decide (i < (xs.length : Int))) = false → ((m = (J6m xs)))))))
theorem J4N (xs : ZI) (hp : 0 < xs.length) (w_xs : (xs.length : Int) ≤ 9223372036854775807) : J2R xs := by
  unfold J2R
  refine ⟨?_, ?_, ?_, ?_, ?_, ?_⟩
  ·exact decide_eq_false (by omega)
  ·omega
  ·omega
  ·omega
  ·refine ⟨(xs.getD 0 0), 1, ?_⟩
   refine ⟨?_, rfl, rfl, rfl⟩
   ·refine ⟨?_, ?_, ?_⟩
    ·omega
    ·omega
    ·show _ = max (xs.getD 0 0) (xs.getD 0 0)
     omega
  intro m i hJ
  obtain ⟨h1, h2, h3⟩ := hJ
  refine ⟨?_, ?_⟩
  ·intro b1
   try simp only [nrmT] at b1
   refine ⟨?_, ?_, ?_, ?_, ?_⟩
   ·omega
   ·omega
   ·omega
   ·omega
   refine ⟨(max m (xs.getD i.toNat 0)), (i + 1), ?_⟩
   refine ⟨?_, ?_, rfl, rfl, rfl⟩
   ·refine ⟨?_, ?_, ?_⟩
    ·omega
    ·omega
    ·rw [h3, show (i + 1).toNat = i.toNat + 1 by omega, J82]
   (simp only [JW]; omega)
  intro b2
  try simp only [nrmT] at b2
  unfold J6m; rw [h3, show i.toNat = xs.length by omega]
theorem J4M (xs : ZI) (hp : 0 < xs.length) : PC Tryz.prog 191 [.sl (.ints xs)] (.one (.d (.int .i64 (J6m xs)))) :=
  pc_wf @Tryz.call191 fun hw => pc_by (by kernel_rfl) Tryz.func191 @Tryz.call191 (by kernel_rfl) J4P (J4U xs) (by kernel_rfl) (J4N xs hp hw.1) (by kernel_rfl)
def J4v : List D → Orc := orcN [some .ints] fun ds => match ds with
  | [.sl (.ints xs)] => some (.one (.d (.int .i64 (J6m xs))))
  | _ => none
def J8n (f : FuncId) (ds : List D) : Orc := bif Nat.beq f 149 then J5z ds else bif Nat.beq f 191 then J4v ds else .no
def J8F (U : ZI) (E : ZR) (set : ZI) : Ann := .none
def J4A (U : ZI) (E : ZR) (set : ZI) : Prop :=
  (PC Tryz.prog 149 [.agg [.sl (.ints U), .sl (.rows E)], .sl (.ints set)] (.one (.own 3 (.ints (JB E set E.length))))) ∧ ((JB E set E.length).length = (JB E set E.length).length) ∧ ((1 : Nat) = 1) ∧ (((JB E set E.length).length + 1) * 8 ≤ 140737488355328) ∧ (((JB E set E.length).length + 1) = (JB E set E.length ++ [0]).length) ∧ (PC Tryz.prog 191 [.sl (.ints (JB E set E.length ++ [0]))] (.one (.d (.int .i64 (J6m (JB E set E.length ++ [0])))))) ∧ (((J6m (JB E set E.length ++ [0])) = (J18 E set)))
theorem J7y (U : ZI) (E : ZR) (set : ZI) (ht : (J2 U E && J3 set 0 ((U.length : Int) - 1) && decide (0 < set.length)) = true) (w_Open : (U.length : Int) ≤ 9223372036854775807) (w_Dist : (E.length : Int) ≤ 9223372036854775807) (v_Dist : ∀ x9 ∈ E, (x9.length : Int) ≤ 9223372036854775807) (w_set : (set.length : Int) ≤ 9223372036854775807) : J4A U E set := by
  unfold J4A
  obtain ⟨hg, hs, hp⟩ := J3S ht
  obtain ⟨g1, g2, g3⟩ := Jr hg
  refine ⟨?_, rfl, rfl, ?_, ?_, ?_, ?_⟩
  ·refine J6i U E set ?_
   ·exact ht
  ·rw [J2P]; omega
  ·(simp_all; done)
  ·refine J4M (JB E set E.length ++ [0]) ?_
   ·simp
  exact JdG E set
theorem J7z (U : ZI) (E : ZR) (set : ZI) (ht : (J2 U E && J3 set 0 ((U.length : Int) - 1) && decide (0 < set.length)) = true) : PC Tryz.prog 96 [.agg [.sl (.ints U), .sl (.rows E)], .sl (.ints set)] (.one (.d (.int .i64 (J18 E set)))) :=
  pc_wf @Tryz.call96 fun hw => pc_by (by kernel_rfl) Tryz.func96 @Tryz.call96 (by kernel_rfl) J8n (J8F U E set) (by kernel_rfl) (J7y U E set ht hw.1.1 hw.1.2.1.1 hw.1.2.1.2 hw.2.1) (by kernel_rfl)
def J6R : List D → Orc := orcN [none, some .ints] fun ds => match ds with
  | [.agg [.sl (.ints U), .sl (.rows E)], .sl (.ints set)] => some (.one (.d (.int .i64 (J18 E set))))
  | _ => none
def lsB (v : ZI → Int) (b s : ZI) : ZI := if v s < v b then s else b
def J1S (v : ZI → Int) (l : ZR) : ZI := l.foldl (lsB v) (l.getD 0 [])
theorem J4D {α β : Type} {f : β → α → β} {b : β} {l : List α} {i : Int} {d : α} (h0 : 0 ≤ i) (h : i < (l.length : Int)) : (l.take (i + 1).toNat).foldl f b = f ((l.take i.toNat).foldl f b) (l.getD i.toNat d) := by
  rw [take_step (d := d) h0 h, List.foldl_append]
  rfl
theorem JcC {v : ZI → Int} {l : ZR} (h : 0 < l.length) : J1S v l ∈ l := by
  have key : ∀ (r : ZR) (b : ZI), b ∈ l → (∀ x ∈ r, x ∈ l) → r.foldl (lsB v) b ∈ l := by
    intro r
    induction r with
    | nil => intro b hb _; exact hb
    | cons x r ih =>
      intro b hb hr
      refine ih _ ?_ fun y hy => hr y (List.mem_cons_of_mem _ hy)
      unfold lsB
      split
      · exact hr x List.mem_cons_self
      exact hb
  exact key l _ (getD_mem h) fun x hx => hx
theorem J7h {l : ZR} {p : ZI → Bool} {i : Int} (h0 : 0 ≤ i) (h : i < (l.length : Int)) : (l.take (i + 1).toNat).filter p = if p (l.getD i.toNat []) = true then (l.take i.toNat).filter p ++ [l.getD i.toNat []] else (l.take i.toNat).filter p := by
  rw [take_step (d := []) h0 h, List.filter_append]
  by_cases e : p (l.getD i.toNat []) = true
  · rw [if_pos e, List.filter_cons, if_pos e]; rfl
  rw [if_neg e, List.filter_cons, if_neg e]; simp
def chs (n : Nat) : ZR := [[]] ++ Ja n
theorem JdR (n : Nat) : (chs n).length = 2 ^ n := by
  unfold chs
  rw [List.length_append, JcW]
  have := Nat.two_pow_pos n
  simp only [List.length_cons, List.length_nil]
  omega
theorem J4F {n : Nat} (h : n ≤ 8) : (chs n).length ≤ 256 := by rw [JdR]; exact J57 h
theorem JbZ {n : Nat} {s : ZI} : s ∈ chs n ↔ ∃ c, c < 2 ^ n ∧ lst n c = s := by
  unfold chs
  rw [List.mem_append, J64]
  have h0 : lst n 0 = [] := by
    cases e : lst n 0 with
    | nil => rfl
    | cons x r =>
      have hm : x ∈ lst n 0 := by rw [e]; exact List.mem_cons_self
      have := (mem_members.1 hm).2.2
      rw [Nat.zero_testBit] at this
      cases this
  constructor
  · rintro (h | ⟨c, h1, h2, h3⟩)
    · exact ⟨0, Nat.two_pow_pos n, by rw [List.mem_singleton.1 h, h0]⟩
    · exact ⟨c, h2, h3⟩
  rintro ⟨c, h1, h2⟩
  by_cases e : c = 0
  · left; rw [← h2, e, h0]; exact List.mem_singleton.2 rfl
  exact .inr ⟨c, by omega, h1, h2⟩
theorem J4m {n : Nat} {s : ZI} (h : s ∈ chs n) : J3 s 0 ((n : Int) - 1) = true := by
  obtain ⟨c, _, rfl⟩ := JbZ.1 h
  exact Jcs (asc_members _ _) fun x hx => by have := mem_members.1 hx; omega
def J9Q (f : FuncId) (ds : List D) : Orc := bif Nat.beq f 148 then Jb8 ds else .no
def J9N (n : Int) : Ann := .two (.none) (.two (.reg [(0, .frz)]) (.none))
def J5q (n : Int) : Prop :=
  (PC Tryz.prog 148 [.int .i64 n] (.one (.d (.sl (.rows (Ja n.toNat)))))) ∧ ((1 : Nat) = 1) ∧ (True) ∧ ((1 + (Ja n.toNat).length) * 24 ≤ 140737488355328) ∧ (((1 + (Ja n.toNat).length) = ([[]] ++ (Ja n.toNat)).length) ∧ ((([[]] ++ (Ja n.toNat)) : ZR) = (chs n.toNat)))
theorem J8Z (n : Int) (hn : 0 ≤ n ∧ n ≤ 8)  : J5q n := by
  unfold J5q
  have cs := J4F (n := n.toNat) (by omega)
  have ce : (chs n.toNat).length = 1 + (Ja n.toNat).length := by unfold chs; rw [List.length_append]; rfl
  refine ⟨?_, rfl, trivial, ?_, ?_, ?_⟩
  ·refine Jby n ?_
   ·omega
  ·omega
  ·(simp_all <;> omega)
  rfl
theorem J9a (n : Int) (hn : 0 ≤ n ∧ n ≤ 8) : PC Tryz.prog 178 [.int .i64 n] (.one (.d (.sl (.rows (chs n.toNat))))) :=
  pc_wf @Tryz.call178 fun _ => pc_by (by kernel_rfl) Tryz.func178 @Tryz.call178 (by kernel_rfl) J9Q (J9N n) (by kernel_rfl) (J8Z n hn) (by kernel_rfl)
def J8A : List D → Orc := orcN [none] fun ds => match ds with
  | [.int .i64 n] => some (.one (.d (.sl (.rows (chs n.toNat)))))
  | _ => none
theorem J9F {v : ZI → Int} : ∀ (r : ZR) (b : ZI), v (r.foldl (lsB v) b) ≤ v b ∧ ∀ x ∈ r, v (r.foldl (lsB v) b) ≤ v x
  | [], b => ⟨Int.le_refl _, fun x hx => by cases hx⟩
  | y :: r, b => by
    obtain ⟨h1, h2⟩ := J9F (v := v) r (lsB v b y)
    have h3 : v (lsB v b y) ≤ v b ∧ v (lsB v b y) ≤ v y := by unfold lsB; split <;> omega
    rw [List.foldl_cons]
    refine ⟨by omega, fun x hx => ?_⟩
    rcases List.mem_cons.1 hx with rfl | hx
    · omega
    exact h2 x hx
theorem Jcy {v : ZI → Int} {l : ZR} {x : ZI} (h : x ∈ l) : v (J1S v l) ≤ v x := (J9F l _).2 x h
theorem J9t {v : ZI → Int} {p : ZI → Bool} {f : ZI → ZI → ZI} (hf : ∀ b x, f b x = if p x = true ∧ v x < v b then x else b) : ∀ (l : ZR) (b : ZI), l.foldl f b = (l.filter p).foldl (lsB v) b
  | [], _ => rfl
  | x :: r, b => by
    rw [List.foldl_cons, hf, J9t hf r, List.filter_cons]
    by_cases e : p x = true
    · rw [if_pos e, List.foldl_cons]
      congr 1
      unfold lsB
      by_cases e2 : v x < v b
      · rw [if_pos ⟨e, e2⟩, if_pos e2]
      rw [if_neg (fun h => e2 h.2), if_neg e2]
    rw [if_neg e, if_neg (fun h => e h.1)]
theorem Jdo {a b : Bool} : cond a b false = (a && b) := by cases a <;> rfl
theorem Jd6 {v : ZI → Int} {p : ZI → Bool} {n : Nat} (hp : p [] = true) : ((chs n).filter p).foldl (lsB v) [] = J1S v ((chs n).filter p) := by
  unfold J1S chs
  rw [List.filter_append, List.filter_cons, if_pos hp]
  rfl
theorem JbT {p : ZI → Bool} {n : Nat} (hp : p [] = true) : 0 < ((chs n).filter p).length := by
  unfold chs
  rw [List.filter_append, List.filter_cons, if_pos hp]
  simp
theorem Jdm {Size : Int} {Sets : ZR} {Costs s : ZI} (h : J1 Size Sets Costs = true) (hc : J3 s 0 ((Sets.length : Int) - 1) = true) : JM (Je Sets s s.length) = ((Jl Sets s s.length).length : Int) := by
  unfold JM
  congr 1
  congr 1
  refine asc_ext (asc_members _ _) (J1i _) fun x => ?_
  rw [mem_members, J2M]
  constructor
  · rintro ⟨h1, h2, h3⟩
    rw [J4w h hc _ (Nat.le_refl _), show ((x.toNat : Nat) : Int) = x by omega] at h3
    exact h3
  rintro ⟨j, h1, h2⟩
  have h3 := JV hc j h1
  have h4 := J1w h (k := (s.getD j 0).toNat) (by omega) x h2
  refine ⟨h4.1, by omega, ?_⟩
  rw [J4w h hc _ (Nat.le_refl _), show ((x.toNat : Nat) : Int) = x by omega]
  exact ⟨j, h1, h2⟩
theorem JdN (n : Nat) : ([] : ZI) ∈ chs n := List.mem_append_left _ (List.mem_singleton.2 rfl)
def J0g (Sets : ZR) (s : ZI) : Int := -((Jl Sets s s.length).length : Int)
def mcS (Sets : ZR) (k : Int) : ZI := J1S (J0g Sets) ((chs Sets.length).filter (fun s9 => decide ((s9.length : Int) ≤ k)))
def mcL (Size : Int) (Sets : ZR) (Costs : ZI) (k : Int) : ZI := if (J1 Size Sets Costs && inB k 0 8) = true then mcS Sets k else []
def mcB (Sets : ZR) (k : Int) (b s : ZI) : ZI := if (cond (decide ((s.length : Int) ≤ k)) (decide (((Jl Sets s s.length).length : Int) > ((Jl Sets b b.length).length : Int))) false) = true then s else b
end Go.Proofs.YtomnmacmlhkceaaGreat
