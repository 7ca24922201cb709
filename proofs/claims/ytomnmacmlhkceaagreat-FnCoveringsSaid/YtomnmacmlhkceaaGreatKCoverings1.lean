/- Contracts of the functions that the law reaches. -/
import Derived.Test.YtomnmacmlhkceaaGreatQw
import Derived.Test.YtomnmacmlhkceaaGreatQua
import Derived.Test.YtomnmacmlhkceaaGreatQuc
import Derived.Test.YtomnmacmlhkceaaGreatSh
import Derived.Test.YtomnmacmlhkceaaGreatProg
import Derived.KernelRfl
set_option linter.unusedVariables false
set_option linter.unusedSimpArgs false
namespace Go.Proofs.YtomnmacmlhkceaaGreat
open Go

abbrev ZI := List Int
abbrev ZR := List (List Int)
abbrev I6 (x : Int) : Prop := -9223372036854775808 ≤ x ∧ x ≤ 9223372036854775807
def Jd5 (f : FuncId) (ds : List D) : Orc := .no
def Jd8 (x : Int) (a : Int) (b : Int) : Ann := .none
def Jap (x : Int) (a : Int) (b : Int) : Prop :=
  ((decide (x ≥ a)) = true → (decide (x ≥ a)) = true) ∧ ((decide (x ≥ a)) = true → (decide (x ≥ a)) = true) ∧ (true = true) ∧ (((decide (x ≥ a)) = true → (decide (x ≥ a)) = true)) ∧ (((decide (x ≥ a)) = false → true = true)) ∧ (((cond (decide (x ≥ a)) (decide (x ≤ b)) false) = (inB x a b)))
theorem Jcw (x : Int) (a : Int) (b : Int)   : Jap x a b := by
  unfold Jap
  refine ⟨id, id, rfl, id, fun _ => rfl, ?_⟩
  ·(simp only [inB]; by_cases h : a ≤ x <;> simp_all)
theorem J3Q (x : Int) (a : Int) (b : Int)  : PC Tryz.prog 129 [.int .i64 x, .int .i64 a, .int .i64 b] (.one (.d (.bool (inB x a b)))) :=
  pc_wf @Tryz.call129 fun _ => pc_by (by kernel_rfl) Tryz.func129 @Tryz.call129 (by kernel_rfl) Jd5 (Jd8 x a b) (by kernel_rfl) (Jcw x a b) (by kernel_rfl)
def J3d : List D → Orc := orcN [none, none, none] fun ds => match ds with
  | [.int .i64 x, .int .i64 a, .int .i64 b] => some (.one (.d (.bool (inB x a b))))
  | _ => none
def Jb6 (f : FuncId) (ds : List D) : Orc := .no
def Jb0 (x : Int) (a : Int) (b : Int) : Ann := .none
def J76 (x : Int) (a : Int) (b : Int) : Prop :=
  ((decide (x ≥ a)) = true → (decide (x ≥ a)) = true) ∧ ((decide (x ≥ a)) = true → (decide (x ≥ a)) = true) ∧ (true = true) ∧ (((decide (x ≥ a)) = true → (decide (x ≥ a)) = true)) ∧ (((decide (x ≥ a)) = false → true = true)) ∧ (((cond (decide (x ≥ a)) (decide (x ≤ b)) false) = (inB x a b)))
theorem Jab (x : Int) (a : Int) (b : Int)   : J76 x a b := by
  unfold J76
  refine ⟨id, id, rfl, id, fun _ => rfl, ?_⟩
  ·(simp only [inB]; by_cases h : a ≤ x <;> simp_all)
theorem J1T (x : Int) (a : Int) (b : Int)  : PC Tryz.prog 132 [.int .i64 x, .int .i64 a, .int .i64 b] (.one (.d (.bool (inB x a b)))) :=
  pc_wf @Tryz.call132 fun _ => pc_by (by kernel_rfl) Tryz.func132 @Tryz.call132 (by kernel_rfl) Jb6 (Jb0 x a b) (by kernel_rfl) (Jab x a b) (by kernel_rfl)
def J1m : List D → Orc := orcN [none, none, none] fun ds => match ds with
  | [.int .i64 x, .int .i64 a, .int .i64 b] => some (.one (.d (.bool (inB x a b))))
  | _ => none
def J2b (xs : ZI) (lo hi : Int) (k : Nat) : Bool := inB (xs.getD k 0) lo hi && (decide (k = 0) || decide (xs.getD (k - 1) 0 < xs.getD k 0))
def J2 (xs : ZI) (lo hi : Int) : Bool := allTo (J2b xs lo hi) xs.length
theorem J3N {xs : ZI} {lo hi i : Int} (h0 : 0 ≤ i) {c : Bool} (hc : (cond (!(inB (xs.getD i.toNat 0) lo hi)) true (cond (decide (i > 0)) (decide (xs.getD (i - 1).toNat 0 ≥ xs.getD i.toNat 0)) false)) = c) :
    J2b xs lo hi i.toNat = !c := by
  subst hc
  have e : (i - 1).toNat = i.toNat - 1 := by omega
  unfold J2b
  rw [e]
  cases inB (xs.getD i.toNat 0) lo hi
  · rfl
  by_cases h : i > 0
  · have h2 : ¬ i.toNat = 0 := by omega
    simp [h, h2]
    by_cases h3 : xs[i.toNat - 1]?.getD 0 < xs[i.toNat]?.getD 0
    · simp [h3]
    simp [h3]; omega
  · have h2 : i.toNat = 0 := by omega
    simp [h, h2]
abbrev J21 (xs : ZI) (lo : Int) (hi : Int) (i : Int) : Prop := (0 ≤ i) ∧ (i ≤ (xs.length : Int)) ∧ (allTo (J2b xs lo hi) i.toNat = true)
abbrev J25 (xs : ZI) (lo : Int) (hi : Int) (i : Int) : Nat := (xs.length - i).toNat
def Jan (f : FuncId) (ds : List D) : Orc := bif Nat.beq f 129 then J3d ds else .no
def Jai (xs : ZI) (lo : Int) (hi : Int) : Ann := .two (.none) (.two (.two (.none) (.loop (cut1 (fun (i : Int) => J21 xs lo hi i) (fun (i : Int) => [(0, .d false (.sl (.ints xs))), (1, .d false (.int .i64 lo)), (2, .d false (.int .i64 hi)), (7, .d true (.int .i64 i))]) (fun (i : Int) => [])) (fun g => J25 xs lo hi g) (fun _ => .none))) (.none))
def J67 (xs : ZI) (lo : Int) (hi : Int) : Prop :=
  ((∃ i' : Int, (J21 xs lo hi i') ∧ (xs = xs) ∧ (lo = lo) ∧ (hi = hi) ∧ ((0 : Int) = i')) ∧ (∀ i : Int, (J21 xs lo hi i) → (((decide (i < (xs.length : Int))) = true → (true = true) ∧ ((0 : Int) ≤ i) ∧ ((i : Int) < xs.length) ∧ (i.toNat < xs.length) ∧ (PC Tryz.prog 129 [.int .i64 (xs.getD i.toNat 0), .int .i64 lo, .int .i64 hi] (.one (.d (.bool (inB (xs.getD i.toNat 0) lo hi))))) ∧ ((!(!(inB (xs.getD i.toNat 0) lo hi))) = true → (!(!(inB (xs.getD i.toNat 0) lo hi))) = true) ∧ ((!(!(inB (xs.getD i.toNat 0) lo hi))) = true → (!(!(inB (xs.getD i.toNat 0) lo hi))) = true) ∧ (((!(!(inB (xs.getD i.toNat 0) lo hi))) && (decide (i > 0))) = true → ((!(!(inB (xs.getD i.toNat 0) lo hi))) && (decide (i > 0))) = true) ∧ ((((!(!(inB (xs.getD i.toNat 0) lo hi))) && (decide (i > 0))) = true → I6 (i - 1))) ∧ (((!(!(inB (xs.getD i.toNat 0) lo hi))) && (decide (i > 0))) = true → ((!(!(inB (xs.getD i.toNat 0) lo hi))) && (decide (i > 0))) = true) ∧ (((!(!(inB (xs.getD i.toNat 0) lo hi))) && (decide (i > 0))) = true → ((!(!(inB (xs.getD i.toNat 0) lo hi))) && (decide (i > 0))) = true) ∧ ((((!(!(inB (xs.getD i.toNat 0) lo hi))) && (decide (i > 0))) = true → (0 : Int) ≤ (i - 1))) ∧ ((((!(!(inB (xs.getD i.toNat 0) lo hi))) && (decide (i > 0))) = true → ((i - 1) : Int) < xs.length)) ∧ (((!(!(inB (xs.getD i.toNat 0) lo hi))) && (decide (i > 0))) = true → ((!(!(inB (xs.getD i.toNat 0) lo hi))) && (decide (i > 0))) = true) ∧ ((((!(!(inB (xs.getD i.toNat 0) lo hi))) && (decide (i > 0))) = true → (i - 1).toNat < xs.length)) ∧ (((!(!(inB (xs.getD i.toNat 0) lo hi))) && (decide (i > 0))) = true → ((!(!(inB (xs.getD i.toNat 0) lo hi))) && (decide (i > 0))) = true) ∧ (((!(!(inB (xs.getD i.toNat 0) lo hi))) && (decide (i > 0))) = true → ((!(!(inB (xs.getD i.toNat 0) lo hi))) && (decide (i > 0))) = true) ∧ ((((!(!(inB (xs.getD i.toNat 0) lo hi))) && (decide (i > 0))) = true → (0 : Int) ≤ i)) ∧ ((((!(!(inB (xs.getD i.toNat 0) lo hi))) && (decide (i > 0))) = true → (i : Int) < xs.length)) ∧ (((!(!(inB (xs.getD i.toNat 0) lo hi))) && (decide (i > 0))) = true → ((!(!(inB (xs.getD i.toNat 0) lo hi))) && (decide (i > 0))) = true) ∧ ((((!(!(inB (xs.getD i.toNat 0) lo hi))) && (decide (i > 0))) = true → i.toNat < xs.length)) ∧ (((!(!(inB (xs.getD i.toNat 0) lo hi))) && (decide (i > 0))) = true → ((!(!(inB (xs.getD i.toNat 0) lo hi))) && (decide (i > 0))) = true) ∧ (((!(!(inB (xs.getD i.toNat 0) lo hi))) && (decide (i > 0))) = true → ((!(!(inB (xs.getD i.toNat 0) lo hi))) && (decide (i > 0))) = true) ∧ (((!(!(inB (xs.getD i.toNat 0) lo hi))) = true → (!(!(inB (xs.getD i.toNat 0) lo hi))) = true)) ∧ (((!(!(inB (xs.getD i.toNat 0) lo hi))) = true → (decide (i > 0)) = true → ((!(!(inB (xs.getD i.toNat 0) lo hi))) && (decide (i > 0))) = true)) ∧ (((!(!(inB (xs.getD i.toNat 0) lo hi))) = true → (decide (i > 0)) = false → true = true)) ∧ (true = true) ∧ (((!(inB (xs.getD i.toNat 0) lo hi)) = true → true = true)) ∧ (((!(inB (xs.getD i.toNat 0) lo hi)) = false → (!(!(inB (xs.getD i.toNat 0) lo hi))) = true)) ∧ (((cond (!(inB (xs.getD i.toNat 0) lo hi)) true (cond (decide (i > 0)) (decide ((xs.getD ((i - 1).toNat) 0) ≥ (xs.getD i.toNat 0))) false)) = true → ((false = (J2 xs lo hi)))) ∧ ((cond (!(inB (xs.getD i.toNat 0) lo hi)) true (cond (decide (i > 0)) (decide ((xs.getD ((i - 1).toNat) 0) ≥ (xs.getD i.toNat 0))) false)) = false → (I6 (i + 1)) ∧ (∃ i' : Int, (J21 xs lo hi i') ∧ (J25 xs lo hi i' < J25 xs lo hi i) ∧ (xs = xs) ∧ (lo = lo) ∧ (hi = hi) ∧ ((i + 1) = i'))))) ∧ ((decide (i < (xs.length : Int))) = false → ((true = (J2 xs lo hi)))))))
theorem J9S (xs : ZI) (lo : Int) (hi : Int)  (w_xs : (xs.length : Int) ≤ 9223372036854775807) : J67 xs lo hi := by
  unfold J67
  refine ⟨?_, ?_⟩
  ·refine ⟨0, ?_⟩
   refine ⟨?_, rfl, rfl, rfl, rfl⟩
   ·refine ⟨?_, ?_, ?_⟩
    ·omega
    ·omega
    ·rfl
  intro i hJ
  obtain ⟨h1, h2, h3⟩ := hJ
  refine ⟨?_, ?_⟩
  ·intro b1
   try simp only [nrmT] at b1
   refine ⟨rfl, ?_, ?_, ?_, J3Q (xs.getD i.toNat 0) lo hi, id, id, id, ?_, id, id, ?_, ?_, id, ?_, id, id, ?_, ?_, id, ?_, id, id, id, ?_, fun _ _ => rfl, rfl, fun _ => rfl, ?_, ?_, ?_⟩
   ·omega
   ·omega
   ·omega
   ·omega
   ·(intro hg; simp only [nrmT] at hg; omega)
   ·omega
   ·omega
   ·omega
   ·omega
   ·omega
   ·(simp_all; done)
   ·(simp_all; done)
   ·intro b2
    have e := J3N h1 b2
    exact (allTo_falseI h1 (by omega) e).symm
   intro b3
   refine ⟨?_, ?_⟩
   ·omega
   refine ⟨(i + 1), ?_⟩
   refine ⟨?_, ?_, rfl, rfl, rfl, rfl⟩
   ·refine ⟨?_, ?_, ?_⟩
    ·omega
    ·omega
    ·have e := J3N h1 b3
     exact allTo_step h1 h3 e
   (simp only [J25]; omega)
  intro b4
  try simp only [nrmT] at b4
  have e : i.toNat = xs.length := by omega
  rw [e] at h3
  exact h3.symm
theorem J9R (xs : ZI) (lo : Int) (hi : Int)  : PC Tryz.prog 164 [.sl (.ints xs), .int .i64 lo, .int .i64 hi] (.one (.d (.bool (J2 xs lo hi)))) :=
  pc_wf @Tryz.call164 fun hw => pc_by (by kernel_rfl) Tryz.func164 @Tryz.call164 (by kernel_rfl) Jan (Jai xs lo hi) (by kernel_rfl) (J9S xs lo hi hw.1) (by kernel_rfl)
def J8T : List D → Orc := orcN [some .ints, none, none] fun ds => match ds with
  | [.sl (.ints xs), .int .i64 lo, .int .i64 hi] => some (.one (.d (.bool (J2 xs lo hi))))
  | _ => none
abbrev J2a (xs : ZI) (below : Int) (i : Int) : Prop := (0 ≤ i) ∧ (i ≤ (xs.length : Int)) ∧ (allTo (J2b xs 0 (below - 1)) i.toNat = true)
abbrev J24 (xs : ZI) (below : Int) (i : Int) : Nat := (xs.length - i).toNat
def Ja0 (f : FuncId) (ds : List D) : Orc := bif Nat.beq f 132 then J1m ds else .no
def Ja9 (xs : ZI) (below : Int) : Ann := .two (.none) (.two (.two (.none) (.loop (cut1 (fun (i : Int) => J2a xs below i) (fun (i : Int) => [(0, .d false (.sl (.ints xs))), (1, .d false (.int .i64 below)), (7, .d false (.sl (.ints xs))), (8, .d true (.int .i64 (xs.length : Int))), (9, .d true (.int .i64 i))]) (fun (i : Int) => [])) (fun g => J24 xs below g) (fun _ => .none))) (.none))
def J6h (xs : ZI) (below : Int) : Prop :=
  ((∃ i' : Int, (J2a xs below i') ∧ (xs = xs) ∧ (below = below) ∧ (xs = xs) ∧ ((xs.length : Int) = (xs.length : Int)) ∧ ((0 : Int) = i')) ∧ (∀ i : Int, (J2a xs below i) → (((decide (i < (xs.length : Int))) = true → ((0 : Int) ≤ i) ∧ ((i : Int) < xs.length) ∧ (i.toNat < xs.length) ∧ (I6 (below - 1)) ∧ (PC Tryz.prog 132 [.int .i64 (xs.getD i.toNat 0), .int .i64 0, .int .i64 (below - 1)] (.one (.d (.bool (inB (xs.getD i.toNat 0) 0 (below - 1)))))) ∧ ((!(!(inB (xs.getD i.toNat 0) 0 (below - 1)))) = true → (!(!(inB (xs.getD i.toNat 0) 0 (below - 1)))) = true) ∧ ((!(!(inB (xs.getD i.toNat 0) 0 (below - 1)))) = true → (!(!(inB (xs.getD i.toNat 0) 0 (below - 1)))) = true) ∧ (((!(!(inB (xs.getD i.toNat 0) 0 (below - 1)))) && (decide (i > 0))) = true → ((!(!(inB (xs.getD i.toNat 0) 0 (below - 1)))) && (decide (i > 0))) = true) ∧ ((((!(!(inB (xs.getD i.toNat 0) 0 (below - 1)))) && (decide (i > 0))) = true → I6 (i - 1))) ∧ (((!(!(inB (xs.getD i.toNat 0) 0 (below - 1)))) && (decide (i > 0))) = true → ((!(!(inB (xs.getD i.toNat 0) 0 (below - 1)))) && (decide (i > 0))) = true) ∧ (((!(!(inB (xs.getD i.toNat 0) 0 (below - 1)))) && (decide (i > 0))) = true → ((!(!(inB (xs.getD i.toNat 0) 0 (below - 1)))) && (decide (i > 0))) = true) ∧ ((((!(!(inB (xs.getD i.toNat 0) 0 (below - 1)))) && (decide (i > 0))) = true → (0 : Int) ≤ (i - 1))) ∧ ((((!(!(inB (xs.getD i.toNat 0) 0 (below - 1)))) && (decide (i > 0))) = true → ((i - 1) : Int) < xs.length)) ∧ (((!(!(inB (xs.getD i.toNat 0) 0 (below - 1)))) && (decide (i > 0))) = true → ((!(!(inB (xs.getD i.toNat 0) 0 (below - 1)))) && (decide (i > 0))) = true) ∧ ((((!(!(inB (xs.getD i.toNat 0) 0 (below - 1)))) && (decide (i > 0))) = true → (i - 1).toNat < xs.length)) ∧ (((!(!(inB (xs.getD i.toNat 0) 0 (below - 1)))) && (decide (i > 0))) = true → ((!(!(inB (xs.getD i.toNat 0) 0 (below - 1)))) && (decide (i > 0))) = true) ∧ (((!(!(inB (xs.getD i.toNat 0) 0 (below - 1)))) && (decide (i > 0))) = true → ((!(!(inB (xs.getD i.toNat 0) 0 (below - 1)))) && (decide (i > 0))) = true) ∧ (((!(!(inB (xs.getD i.toNat 0) 0 (below - 1)))) = true → (!(!(inB (xs.getD i.toNat 0) 0 (below - 1)))) = true)) ∧ (((!(!(inB (xs.getD i.toNat 0) 0 (below - 1)))) = true → (decide (i > 0)) = true → ((!(!(inB (xs.getD i.toNat 0) 0 (below - 1)))) && (decide (i > 0))) = true)) ∧ (((!(!(inB (xs.getD i.toNat 0) 0 (below - 1)))) = true → (decide (i > 0)) = false → true = true)) ∧ (true = true) ∧ (((!(inB (xs.getD i.toNat 0) 0 (below - 1))) = true → true = true)) ∧ (((!(inB (xs.getD i.toNat 0) 0 (below - 1))) = false → (!(!(inB (xs.getD i.toNat 0) 0 (below - 1)))) = true)) ∧ (((cond (!(inB (xs.getD i.toNat 0) 0 (below - 1))) true (cond (decide (i > 0)) (decide ((xs.getD i.toNat 0) ≤ (xs.getD ((i - 1).toNat) 0))) false)) = true → ((false = (J2 xs 0 (below - 1))))) ∧ ((cond (!(inB (xs.getD i.toNat 0) 0 (below - 1))) true (cond (decide (i > 0)) (decide ((xs.getD i.toNat 0) ≤ (xs.getD ((i - 1).toNat) 0))) false)) = false → (I6 (i + 1)) ∧ (∃ i' : Int, (J2a xs below i') ∧ (J24 xs below i' < J24 xs below i) ∧ (xs = xs) ∧ (below = below) ∧ (xs = xs) ∧ ((xs.length : Int) = (xs.length : Int)) ∧ ((i + 1) = i'))))) ∧ ((decide (i < (xs.length : Int))) = false → ((true = (J2 xs 0 (below - 1))))))))
theorem J9V (xs : ZI) (below : Int) (hb : -9223372036854775808 < below ∧ below ≤ 9223372036854775807) (w_xs : (xs.length : Int) ≤ 9223372036854775807) : J6h xs below := by
  unfold J6h
  refine ⟨?_, ?_⟩
  ·refine ⟨0, ?_⟩
   refine ⟨?_, rfl, rfl, rfl, rfl, rfl⟩
   ·refine ⟨?_, ?_, ?_⟩
    ·omega
    ·omega
    ·rfl
  intro i hJ
  obtain ⟨h1, h2, h3⟩ := hJ
  refine ⟨?_, ?_⟩
  ·intro b1
   try simp only [nrmT] at b1
   refine ⟨?_, ?_, ?_, ?_, J1T (xs.getD i.toNat 0) 0 (below - 1), id, id, id, ?_, id, id, ?_, ?_, id, ?_, id, id, id, ?_, fun _ _ => rfl, rfl, fun _ => rfl, ?_, ?_, ?_⟩
   ·omega
   ·omega
   ·omega
   ·omega
   ·omega
   ·(intro hg; simp only [nrmT] at hg; omega)
   ·omega
   ·omega
   ·(simp_all; done)
   ·(simp_all; done)
   ·intro b2
    have e := J3N h1 b2
    exact (allTo_falseI h1 (by omega) e).symm
   intro b3
   refine ⟨?_, ?_⟩
   ·omega
   refine ⟨(i + 1), ?_⟩
   refine ⟨?_, ?_, rfl, rfl, rfl, rfl, rfl⟩
   ·refine ⟨?_, ?_, ?_⟩
    ·omega
    ·omega
    ·have e := J3N h1 b3
     exact allTo_step h1 h3 e
   (simp only [J24]; omega)
  intro b4
  try simp only [nrmT] at b4
  have e : i.toNat = xs.length := by omega
  rw [e] at h3
  exact h3.symm
theorem J9E (xs : ZI) (below : Int) (hb : -9223372036854775808 < below ∧ below ≤ 9223372036854775807) : PC Tryz.prog 162 [.sl (.ints xs), .int .i64 below] (.one (.d (.bool (J2 xs 0 (below - 1))))) :=
  pc_wf @Tryz.call162 fun hw => pc_by (by kernel_rfl) Tryz.func162 @Tryz.call162 (by kernel_rfl) Ja0 (Ja9 xs below) (by kernel_rfl) (J9V xs below hb hw.1) (by kernel_rfl)
def J8H : List D → Orc := orcN [some .ints, none] fun ds => match ds with
  | [.sl (.ints xs), .int .i64 below] => some (.one (.d (.bool (J2 xs 0 (below - 1)))))
  | _ => none
theorem JcE (m n : Nat) : decide ((m : Int) ≤ (n : Int)) = decide (m ≤ n) := by
  rw [Bool.eq_iff_iff]; simp only [decide_eq_true_eq]; omega
theorem Jbi {α : Type} {p : α → Bool} {d : α} {xs : List α} {i : Int} (h2 : (xs.length : Int) ≤ i) (h2' : i ≤ (xs.length : Int)) (h3 : allTo (fun k => p (xs.getD k d)) i.toNat = true) : xs.all p = true := by
  have e : i.toNat = xs.length := by omega
  rw [e, allTo_list] at h3; exact h3
theorem Jcr {α : Type} {p : α → Bool} {d : α} {xs : List α} {i : Int} (h0 : 0 ≤ i) (h : i < (xs.length : Int)) (h3 : p (xs.getD i.toNat d) = false) : xs.all p = false := by
  rw [← allTo_list (d := d)]; exact allTo_falseI h0 h h3
theorem J0D {x lo hi : Int} (h : inB x lo hi = true) : lo ≤ x ∧ x ≤ hi := of_decide_eq_true h
def J7L (f : FuncId) (ds : List D) : Orc := bif Nat.beq f 132 then J1m ds else .no
def J7y (x : Int) (lo : Int) (hi : Int) : Ann := .none
def J4y (x : Int) (lo : Int) (hi : Int) : Prop :=
  (PC Tryz.prog 132 [.int .i64 x, .int .i64 lo, .int .i64 hi] (.one (.d (.bool (inB x lo hi))))) ∧ (((!(inB x lo hi)) = (!(inB x lo hi))))
theorem J6Y (x : Int) (lo : Int) (hi : Int)   : J4y x lo hi := by
  unfold J4y
  refine ⟨J1T x lo hi, rfl⟩
theorem J6E (x : Int) (lo : Int) (hi : Int)  : PC Tryz.prog 220 [.int .i64 x, .bx [.int .i64 lo] 0, .bx [.int .i64 hi] 0] (.one (.d (.bool (!(inB x lo hi))))) :=
  pc_wf @Tryz.call220 fun _ => pc_by (by kernel_rfl) Tryz.func220 @Tryz.call220 (by kernel_rfl) J7L (J7y x lo hi) (by kernel_rfl) (J6Y x lo hi) (by kernel_rfl)
def J6n : List D → Orc := orcN [none, none, none] fun ds => match ds with
  | [.int .i64 x, .bx [.int .i64 lo] 0, .bx [.int .i64 hi] 0] => some (.one (.d (.bool (!(inB x lo hi)))))
  | _ => none
abbrev JF (xs : ZI) (lo : Int) (hi : Int) (i : Int) : Prop := (0 ≤ i) ∧ (i ≤ (xs.length : Int)) ∧ (∀ k, k < i.toNat → (fun x => !(inB x lo hi)) (xs.getD k 0) = false)
abbrev JH (xs : ZI) (lo : Int) (hi : Int) (i : Int) : Nat := (xs.length - i).toNat
def J3g (f : FuncId) (ds : List D) : Orc := bif Nat.beq f 220 then J6n ds else .no
def J3i (xs : ZI) (lo : Int) (hi : Int) : Ann := .two (.none) (.two (.two (.none) (.loop (cut1 (fun (i : Int) => JF xs lo hi i) (fun (i : Int) => [(0, .d false (.sl (.ints xs))), (1, .d false (.fn 220 0 [.bx [.int .i64 lo] 0, .bx [.int .i64 hi] 0])), (7, .d true (.int .i64 (xs.length : Int))), (8, .d true (.int .i64 i))]) (fun (i : Int) => [])) (fun g => JH xs lo hi g) (fun _ => .none))) (.none))
def J14 (xs : ZI) (lo : Int) (hi : Int) : Prop :=
  ((∃ i' : Int, (JF xs lo hi i') ∧ (xs = xs) ∧ ((.fn 220 0 [.bx [.int .i64 lo] 0, .bx [.int .i64 hi] 0] : D) = (.fn 220 0 [.bx [.int .i64 lo] 0, .bx [.int .i64 hi] 0] : D)) ∧ ((xs.length : Int) = (xs.length : Int)) ∧ ((0 : Int) = i')) ∧ (∀ i : Int, (JF xs lo hi i) → (((decide (i < (xs.length : Int))) = true → ((0 : Int) ≤ i) ∧ ((i : Int) < xs.length) ∧ (i.toNat < xs.length) ∧ (PC Tryz.prog 220 [.int .i64 (xs.getD i.toNat 0), .bx [.int .i64 lo] 0, .bx [.int .i64 hi] 0] (.one (.d (.bool (!(inB (xs.getD i.toNat 0) lo hi)))))) ∧ (((!(inB (xs.getD i.toNat 0) lo hi)) = true → ((i = (idxI (fun x => !(inB x lo hi)) xs)))) ∧ ((!(inB (xs.getD i.toNat 0) lo hi)) = false → (I6 (i + 1)) ∧ (∃ i' : Int, (JF xs lo hi i') ∧ (JH xs lo hi i' < JH xs lo hi i) ∧ (xs = xs) ∧ ((.fn 220 0 [.bx [.int .i64 lo] 0, .bx [.int .i64 hi] 0] : D) = (.fn 220 0 [.bx [.int .i64 lo] 0, .bx [.int .i64 hi] 0] : D)) ∧ ((xs.length : Int) = (xs.length : Int)) ∧ ((i + 1) = i'))))) ∧ ((decide (i < (xs.length : Int))) = false → ((((-1) : Int) = (idxI (fun x => !(inB x lo hi)) xs)))))))
theorem J3e (xs : ZI) (lo : Int) (hi : Int)  (w_xs : (xs.length : Int) ≤ 9223372036854775807) : J14 xs lo hi := by
  unfold J14
  refine ⟨?_, ?_⟩
  ·refine ⟨0, ?_⟩
   refine ⟨?_, rfl, rfl, rfl, rfl⟩
   ·refine ⟨?_, ?_, ?_⟩
    ·omega
    ·omega
    ·omega
  intro i hJ
  obtain ⟨h1, h2, h3⟩ := hJ
  refine ⟨?_, ?_⟩
  ·intro b1
   try simp only [nrmT] at b1
   refine ⟨?_, ?_, ?_, J6E (xs.getD i.toNat 0) lo hi, ?_, ?_⟩
   ·omega
   ·omega
   ·omega
   ·intro b2
    try simp only [nrmT] at b2
    exact idx_found (p := fun x => !(inB x lo hi)) h1 b1 h3 (by simpa using b2)
   intro b3
   try simp only [nrmT] at b3
   refine ⟨?_, ?_⟩
   ·omega
   refine ⟨(i + 1), ?_⟩
   refine ⟨?_, ?_, rfl, rfl, rfl, rfl⟩
   ·refine ⟨?_, ?_, ?_⟩
    ·omega
    ·omega
    ·exact idx_step (p := fun x => !(inB x lo hi)) h1 h3 (by simpa using b3)
   (simp only [JH]; omega)
  intro b4
  try simp only [nrmT] at b4
  exact (idx_none (by omega) h3).symm
theorem J35 (xs : ZI) (lo : Int) (hi : Int)  : PC Tryz.prog 237 [.sl (.ints xs), .fn 220 0 [.bx [.int .i64 lo] 0, .bx [.int .i64 hi] 0]] (.one (.d (.int .i64 (idxI (fun x => !(inB x lo hi)) xs)))) :=
  pc_wf @Tryz.call237 fun hw => pc_by (by kernel_rfl) Tryz.func237 @Tryz.call237 (by kernel_rfl) J3g (J3i xs lo hi) (by kernel_rfl) (J3e xs lo hi hw.1) (by kernel_rfl)
def J2R : List D → Orc := orcN [some .ints, none] fun ds => match ds with
  | [.sl (.ints xs), .fn f0 0 [.bx [.int .i64 lo] 0, .bx [.int .i64 hi] 0]] => bif Nat.beq f0 220 then some (.one (.d (.int .i64 (idxI (fun x => !(inB x lo hi)) xs)))) else none
  | _ => none
def J2I (f : FuncId) (ds : List D) : Orc := bif Nat.beq f 237 then J2R ds else .no
def J2J (xs : ZI) (lo : Int) (hi : Int) : Ann := .none
def J0G (xs : ZI) (lo : Int) (hi : Int) : Prop :=
  (PC Tryz.prog 237 [.sl (.ints xs), .fn 220 0 [.bx [.int .i64 lo] 0, .bx [.int .i64 hi] 0]] (.one (.d (.int .i64 (idxI (fun x => !(inB x lo hi)) xs))))) ∧ (((decide ((idxI (fun x => !(inB x lo hi)) xs) ≥ 0)) = (xs.any (fun x => !(inB x lo hi)))))
theorem J2r (xs : ZI) (lo : Int) (hi : Int)  (w_xs : (xs.length : Int) ≤ 9223372036854775807) : J0G xs lo hi := by
  unfold J0G
  refine ⟨J35 xs lo hi, ?_⟩
  ·exact idx_any _ _
theorem J2q (xs : ZI) (lo : Int) (hi : Int)  : PC Tryz.prog 218 [.sl (.ints xs), .fn 220 0 [.bx [.int .i64 lo] 0, .bx [.int .i64 hi] 0]] (.one (.d (.bool (xs.any (fun x => !(inB x lo hi)))))) :=
  pc_wf @Tryz.call218 fun hw => pc_by (by kernel_rfl) Tryz.func218 @Tryz.call218 (by kernel_rfl) J2I (J2J xs lo hi) (by kernel_rfl) (J2r xs lo hi hw.1) (by kernel_rfl)
def J2g : List D → Orc := orcN [some .ints, none] fun ds => match ds with
  | [.sl (.ints xs), .fn f0 0 [.bx [.int .i64 lo] 0, .bx [.int .i64 hi] 0]] => bif Nat.beq f0 220 then some (.one (.d (.bool (xs.any (fun x => !(inB x lo hi)))))) else none
  | _ => none
def J8G (f : FuncId) (ds : List D) : Orc := bif Nat.beq f 218 then J2g ds else .no
def J8N (xs : ZI) (lo : Int) (hi : Int) : Ann := .none
def J5d (xs : ZI) (lo : Int) (hi : Int) : Prop :=
  (PC Tryz.prog 218 [.sl (.ints xs), .fn 220 0 [.bx [.int .i64 lo] 0, .bx [.int .i64 hi] 0]] (.one (.d (.bool (xs.any (fun x => !(inB x lo hi))))))) ∧ (((!(xs.any (fun x => !(inB x lo hi)))) = (xs.all (fun x => inB x lo hi))))
theorem J8o (xs : ZI) (lo : Int) (hi : Int)  (w_xs : (xs.length : Int) ≤ 9223372036854775807) : J5d xs lo hi := by
  unfold J5d
  refine ⟨J2q xs lo hi, ?_⟩
  ·exact any_not _ _
theorem J4I (xs : ZI) (lo : Int) (hi : Int)  : PC Tryz.prog 168 [.sl (.ints xs), .int .i64 lo, .int .i64 hi] (.one (.d (.bool (xs.all (fun x => inB x lo hi))))) :=
  pc_wf @Tryz.call168 fun hw => pc_by (by kernel_rfl) Tryz.func168 @Tryz.call168 (by kernel_rfl) J8G (J8N xs lo hi) (by kernel_rfl) (J8o xs lo hi hw.1) (by kernel_rfl)
def J4x : List D → Orc := orcN [some .ints, none, none] fun ds => match ds with
  | [.sl (.ints xs), .int .i64 lo, .int .i64 hi] => some (.one (.d (.bool (xs.all (fun x => inB x lo hi)))))
  | _ => none
theorem J87 {α : Type} [BEq α] [LawfulBEq α] {d : α} {xs ys : List α} (hl : xs.length = ys.length) : allTo (fun k => xs.getD k d == ys.getD k d) xs.length = (xs == ys) := by
  rw [Bool.eq_iff_iff, allTo_iff]
  simp only [beq_iff_eq]
  constructor
  · intro h
    refine List.ext_getElem hl fun k h1 h2 => ?_
    have := h k h1
    simpa [h1, h2] using this
  intro h k _
  rw [h]
theorem Jdt {α : Type} [BEq α] [LawfulBEq α] {xs ys : List α} (h : ¬ xs.length = ys.length) : (xs == ys) = false := by
  rw [Bool.eq_false_iff]; intro h2; simp only [beq_iff_eq] at h2; exact h (by rw [h2])
def Jo (row : ZI) (n most : Int) : Bool := row.all (fun x => inB x 0 most) && decide ((row.length : Int) = n)
def J0 (U : ZI) (E : ZR) : Bool :=
  inB (U.length : Int) 1 7 && U.all (fun x => inB x 0 99) && decide (E.length ≤ 7) && E.all (fun l => Jo l (U.length : Int) 99)
theorem Jm {U : ZI} {E : ZR} (h : J0 U E = true) : 1 ≤ U.length ∧ U.length ≤ 7 ∧ E.length ≤ 7 := by
  simp only [J0, Bool.and_eq_true, decide_eq_true_eq] at h
  have := J0D h.1.1.1
  omega
theorem J0o {U : ZI} {E : ZR} (h : J0 U E = true) {i : Nat} (hi : i < E.length) : (E.getD i []).length = U.length ∧ ∀ a, a < U.length → 0 ≤ (E.getD i []).getD a 0 ∧ (E.getD i []).getD a 0 ≤ 99 := by
  simp only [J0, Bool.and_eq_true, decide_eq_true_eq] at h
  have h2 := List.all_eq_true.1 h.2 _ (getD_mem (d := []) hi)
  simp only [Jo, Bool.and_eq_true, decide_eq_true_eq] at h2
  refine ⟨by omega, fun a ha => ?_⟩
  exact J0D (List.all_eq_true.1 h2.1 _ (getD_mem (by omega)))
abbrev J3K (row : ZI) (n : Int) (most : Int) (i : Int) : Prop := (0 ≤ i) ∧ (i ≤ (row.length : Int)) ∧ (allTo (fun k => inB (row.getD k 0) 0 most) i.toNat = true)
abbrev J3O (row : ZI) (n : Int) (most : Int) (i : Int) : Nat := (row.length - i).toNat
def Jcq (f : FuncId) (ds : List D) : Orc := bif Nat.beq f 129 then J3d ds else .no
def JcI (row : ZI) (n : Int) (most : Int) : Ann := .two (.none) (.two (.two (.none) (.loop (cut1 (fun (i : Int) => J3K row n most i) (fun (i : Int) => [(0, .d false (.sl (.ints row))), (1, .d false (.int .i64 n)), (2, .d false (.int .i64 most)), (7, .d true (.int .i64 i))]) (fun (i : Int) => [])) (fun g => J3O row n most g) (fun _ => .none))) (.none))
def J97 (row : ZI) (n : Int) (most : Int) : Prop :=
  ((∃ i' : Int, (J3K row n most i') ∧ (row = row) ∧ (n = n) ∧ (most = most) ∧ ((0 : Int) = i')) ∧ (∀ i : Int, (J3K row n most i) → (((decide (i < (row.length : Int))) = true → ((0 : Int) ≤ i) ∧ ((i : Int) < row.length) ∧ (i.toNat < row.length) ∧ (PC Tryz.prog 129 [.int .i64 (row.getD i.toNat 0), .int .i64 0, .int .i64 most] (.one (.d (.bool (inB (row.getD i.toNat 0) 0 most))))) ∧ (((!(inB (row.getD i.toNat 0) 0 most)) = true → ((false = (Jo row n most)))) ∧ ((!(inB (row.getD i.toNat 0) 0 most)) = false → (I6 (i + 1)) ∧ (∃ i' : Int, (J3K row n most i') ∧ (J3O row n most i' < J3O row n most i) ∧ (row = row) ∧ (n = n) ∧ (most = most) ∧ ((i + 1) = i'))))) ∧ ((decide (i < (row.length : Int))) = false → ((((row.length : Int) == n) = (Jo row n most)))))))
theorem JbN (row : ZI) (n : Int) (most : Int)  (w_row : (row.length : Int) ≤ 9223372036854775807) : J97 row n most := by
  unfold J97
  refine ⟨?_, ?_⟩
  ·refine ⟨0, ?_⟩
   refine ⟨?_, rfl, rfl, rfl, rfl⟩
   ·refine ⟨?_, ?_, ?_⟩
    ·omega
    ·omega
    ·rfl
  intro i hJ
  obtain ⟨h1, h2, h3⟩ := hJ
  refine ⟨?_, ?_⟩
  ·intro b1
   try simp only [nrmT] at b1
   refine ⟨?_, ?_, ?_, J3Q (row.getD i.toNat 0) 0 most, ?_, ?_⟩
   ·omega
   ·omega
   ·omega
   ·intro b2
    try simp only [nrmT] at b2
    unfold Jo
    rw [Jcr (p := fun x => inB x 0 most) (d := 0) h1 (by omega) b2]; rfl
   intro b3
   try simp only [nrmT] at b3
   refine ⟨?_, ?_⟩
   ·omega
   refine ⟨(i + 1), ?_⟩
   refine ⟨?_, ?_, rfl, rfl, rfl, rfl⟩
   ·refine ⟨?_, ?_, ?_⟩
    ·omega
    ·omega
    ·exact allTo_step h1 h3 b3
   (simp only [J3O]; omega)
  intro b4
  try simp only [nrmT] at b4
  unfold Jo
  rw [Jbi (p := fun x => inB x 0 most) (d := 0) (by omega) h2 h3, Bool.true_and]; rfl
theorem J8b (row : ZI) (n : Int) (most : Int)  : PC Tryz.prog 202 [.sl (.ints row), .int .i64 n, .int .i64 most] (.one (.d (.bool (Jo row n most)))) :=
  pc_wf @Tryz.call202 fun hw => pc_by (by kernel_rfl) Tryz.func202 @Tryz.call202 (by kernel_rfl) Jcq (JcI row n most) (by kernel_rfl) (JbN row n most hw.1) (by kernel_rfl)
def JaX : List D → Orc := orcN [some .ints, none, none] fun ds => match ds with
  | [.sl (.ints row), .int .i64 n, .int .i64 most] => some (.one (.d (.bool (Jo row n most))))
  | _ => none
abbrev J37 (U : ZI) (E : ZR) (i : Int) : Prop := (0 ≤ i) ∧ (i ≤ (E.length : Int)) ∧ (allTo (fun k => Jo (E.getD k []) (U.length : Int) 99) i.toNat = true)
abbrev J32 (U : ZI) (E : ZR) (i : Int) : Nat := (E.length - i).toNat
def Jc8 (f : FuncId) (ds : List D) : Orc := bif Nat.beq f 202 then JaX ds else bif Nat.beq f 129 then J3d ds else .no
def Jca (U : ZI) (E : ZR) : Ann := .two (.none) (.two (.none) (.two (.two (.none) (.loop (cut1 (fun (i : Int) => J37 U E i) (fun (i : Int) => [(1, .ptr 1 0), (3, .d true (.int .i64 (U.length : Int))), (4, .d true (.int .i64 i))]) (fun (i : Int) => [(1, .box 27 [.d false (.sl (.ints U)), .d false (.sl (.rows E))])])) (fun g => J32 U E g) (fun _ => .none))) (.none)))
def J8k (U : ZI) (E : ZR) : Prop :=
  ((∃ i' : Int, (J37 U E i') ∧ ((U.length : Int) = (U.length : Int)) ∧ ((0 : Int) = i') ∧ (U = U) ∧ (E = E)) ∧ (∀ i : Int, (J37 U E i) → (((decide (i < (E.length : Int))) = true → ((0 : Int) ≤ i) ∧ ((i : Int) < E.length) ∧ (i.toNat < E.length) ∧ (PC Tryz.prog 202 [.sl (.ints (E.getD i.toNat [])), .int .i64 (U.length : Int), .int .i64 99] (.one (.d (.bool (Jo (E.getD i.toNat []) (U.length : Int) 99))))) ∧ (((!(Jo (E.getD i.toNat []) (U.length : Int) 99)) = true → ((false = (J0 U E)))) ∧ ((!(Jo (E.getD i.toNat []) (U.length : Int) 99)) = false → (I6 (i + 1)) ∧ (∃ i' : Int, (J37 U E i') ∧ (J32 U E i' < J32 U E i) ∧ ((U.length : Int) = (U.length : Int)) ∧ ((i + 1) = i') ∧ (U = U) ∧ (E = E))))) ∧ ((decide (i < (E.length : Int))) = false → (PC Tryz.prog 129 [.int .i64 (U.length : Int), .int .i64 1, .int .i64 7] (.one (.d (.bool (inB (U.length : Int) 1 7))))) ∧ ((inB (U.length : Int) 1 7) = true → (inB (U.length : Int) 1 7) = true) ∧ ((inB (U.length : Int) 1 7) = true → (inB (U.length : Int) 1 7) = true) ∧ ((inB (U.length : Int) 1 7) = true → (inB (U.length : Int) 1 7) = true) ∧ ((inB (U.length : Int) 1 7) = true → PC Tryz.prog 202 [.sl (.ints U), .int .i64 (U.length : Int), .int .i64 99] (.one (.d (.bool (Jo U (U.length : Int) 99))))) ∧ (true = true) ∧ (((inB (U.length : Int) 1 7) = true → (inB (U.length : Int) 1 7) = true)) ∧ (((inB (U.length : Int) 1 7) = false → true = true)) ∧ ((cond (inB (U.length : Int) 1 7) (Jo U (U.length : Int) 99) false) = true → (cond (inB (U.length : Int) 1 7) (Jo U (U.length : Int) 99) false) = true) ∧ ((cond (inB (U.length : Int) 1 7) (Jo U (U.length : Int) 99) false) = true → (cond (inB (U.length : Int) 1 7) (Jo U (U.length : Int) 99) false) = true) ∧ ((cond (inB (U.length : Int) 1 7) (Jo U (U.length : Int) 99) false) = true → (cond (inB (U.length : Int) 1 7) (Jo U (U.length : Int) 99) false) = true) ∧ (true = true) ∧ (((cond (inB (U.length : Int) 1 7) (Jo U (U.length : Int) 99) false) = true → (cond (inB (U.length : Int) 1 7) (Jo U (U.length : Int) 99) false) = true)) ∧ (((cond (inB (U.length : Int) 1 7) (Jo U (U.length : Int) 99) false) = false → true = true)) ∧ (((cond (cond (inB (U.length : Int) 1 7) (Jo U (U.length : Int) 99) false) (decide ((E.length : Int) ≤ 7)) false) = (J0 U E)))))))
theorem JaJ (U : ZI) (E : ZR)  (w_Open : (U.length : Int) ≤ 9223372036854775807) (w_Dist : (E.length : Int) ≤ 9223372036854775807) (v_Dist : ∀ x9 ∈ E, (x9.length : Int) ≤ 9223372036854775807) : J8k U E := by
  unfold J8k
  refine ⟨?_, ?_⟩
  ·refine ⟨0, ?_⟩
   refine ⟨?_, rfl, rfl, rfl, rfl⟩
   ·refine ⟨?_, ?_, ?_⟩
    ·omega
    ·omega
    ·rfl
  intro i hJ
  obtain ⟨h1, h2, h3⟩ := hJ
  refine ⟨?_, ?_⟩
  ·intro b1
   try simp only [nrmT] at b1
   refine ⟨?_, ?_, ?_, J8b (E.getD i.toNat []) (U.length : Int) 99, ?_, ?_⟩
   ·omega
   ·omega
   ·omega
   ·intro b2
    try simp only [nrmT] at b2
    unfold J0
    rw [Jcr (p := fun l => Jo l (U.length : Int) 99) (d := []) h1 (by omega) b2, Bool.and_false]
   intro b3
   try simp only [nrmT] at b3
   refine ⟨?_, ?_⟩
   ·omega
   refine ⟨(i + 1), ?_⟩
   refine ⟨?_, ?_, rfl, rfl, rfl, rfl⟩
   ·refine ⟨?_, ?_, ?_⟩
    ·omega
    ·omega
    ·exact allTo_step h1 h3 b3
   (simp only [J32]; omega)
  intro b4
  try simp only [nrmT] at b4
  refine ⟨J3Q (U.length : Int) 1 7, id, id, id, fun _ => J8b U (U.length : Int) 99, rfl, id, fun _ => rfl, id, id, id, rfl, id, fun _ => rfl, ?_⟩
  ·unfold J0
   rw [Jbi (p := fun l => Jo l (U.length : Int) 99) (d := []) (by omega) h2 h3, show decide ((E.length : Int) ≤ 7) = decide (E.length ≤ 7) from JcE _ 7]
   unfold Jo
   cases inB (U.length : Int) 1 7 <;> cases U.all (fun x => inB x 0 99) <;> cases decide (E.length ≤ 7) <;> simp
theorem J3I (U : ZI) (E : ZR)  : PC Tryz.prog 112 [.agg [.sl (.ints U), .sl (.rows E)]] (.one (.d (.bool (J0 U E)))) :=
  pc_wf @Tryz.call112 fun hw => pc_by (by kernel_rfl) Tryz.func112 @Tryz.call112 (by kernel_rfl) Jc8 (Jca U E) (by kernel_rfl) (JaJ U E hw.1.1 hw.1.2.1.1 hw.1.2.1.2) (by kernel_rfl)
def J39 : List D → Orc := orcN [none] fun ds => match ds with
  | [.agg [.sl (.ints U), .sl (.rows E)]] => some (.one (.d (.bool (J0 U E))))
  | _ => none
def J9C (f : FuncId) (ds : List D) : Orc := bif Nat.beq f 168 then J4x ds else .no
def J9H (xs : ZI) (U : ZI) (E : ZR) : Ann := .none
def J5w (xs : ZI) (U : ZI) (E : ZR) : Prop :=
  ((!((xs.length : Int) != (U.length : Int))) = true → (!((xs.length : Int) != (U.length : Int))) = true) ∧ ((!((xs.length : Int) != (U.length : Int))) = true → PC Tryz.prog 168 [.sl (.ints xs), .int .i64 0, .int .i64 99] (.one (.d (.bool (xs.all (fun x => inB x 0 99)))))) ∧ ((!((xs.length : Int) != (U.length : Int))) = true → (!((xs.length : Int) != (U.length : Int))) = true) ∧ (true = true) ∧ ((((xs.length : Int) != (U.length : Int)) = true → true = true)) ∧ ((((xs.length : Int) != (U.length : Int)) = false → (!((xs.length : Int) != (U.length : Int))) = true)) ∧ (((cond ((xs.length : Int) != (U.length : Int)) true (!(xs.all (fun x => inB x 0 99)))) = (!(Jo xs (U.length : Int) 99))))
theorem J8L (xs : ZI) (U : ZI) (E : ZR)  (w_xs : (xs.length : Int) ≤ 9223372036854775807) (w_Open : (U.length : Int) ≤ 9223372036854775807) (w_Dist : (E.length : Int) ≤ 9223372036854775807) (v_Dist : ∀ x9 ∈ E, (x9.length : Int) ≤ 9223372036854775807) : J5w xs U E := by
  unfold J5w
  refine ⟨id, fun _ => J4I xs 0 99, id, rfl, fun _ => rfl, ?_, ?_⟩
  ·(simp_all; done)
  unfold Jo
  by_cases h : (xs.length : Int) = (U.length : Int)
  · simp [h]
  simp [h]
theorem J8U (xs : ZI) (U : ZI) (E : ZR)  : PC Tryz.prog 201 [.sl (.ints xs), .bx [.sl (.ints U), .sl (.rows E)] 0] (.one (.d (.bool (!(Jo xs (U.length : Int) 99))))) :=
  pc_wf @Tryz.call201 fun hw => pc_by (by kernel_rfl) Tryz.func201 @Tryz.call201 (by kernel_rfl) J9C (J9H xs U E) (by kernel_rfl) (J8L xs U E hw.1 hw.2.1.1 hw.2.1.2.1.1 hw.2.1.2.1.2) (by kernel_rfl)
def J7V : List D → Orc := orcN [some .ints, none] fun ds => match ds with
  | [.sl (.ints xs), .bx [.sl (.ints U), .sl (.rows E)] 0] => some (.one (.d (.bool (!(Jo xs (U.length : Int) 99)))))
  | _ => none
abbrev JG (xs : ZR) (U : ZI) (E : ZR) (i : Int) : Prop := (0 ≤ i) ∧ (i ≤ (xs.length : Int)) ∧ (∀ k, k < i.toNat → (fun x => !(Jo x (U.length : Int) 99)) (xs.getD k []) = false)
abbrev JE (xs : ZR) (U : ZI) (E : ZR) (i : Int) : Nat := (xs.length - i).toNat
def J3f (f : FuncId) (ds : List D) : Orc := bif Nat.beq f 201 then J7V ds else .no
def J3h (xs : ZR) (U : ZI) (E : ZR) : Ann := .two (.none) (.two (.two (.none) (.loop (cut1 (fun (i : Int) => JG xs U E i) (fun (i : Int) => [(0, .d false (.sl (.rows xs))), (1, .d false (.fn 201 0 [.bx [.sl (.ints U), .sl (.rows E)] 0])), (7, .d true (.int .i64 (xs.length : Int))), (8, .d true (.int .i64 i))]) (fun (i : Int) => [])) (fun g => JE xs U E g) (fun _ => .none))) (.none))
def J13 (xs : ZR) (U : ZI) (E : ZR) : Prop :=
  ((∃ i' : Int, (JG xs U E i') ∧ (xs = xs) ∧ ((.fn 201 0 [.bx [.sl (.ints U), .sl (.rows E)] 0] : D) = (.fn 201 0 [.bx [.sl (.ints U), .sl (.rows E)] 0] : D)) ∧ ((xs.length : Int) = (xs.length : Int)) ∧ ((0 : Int) = i')) ∧ (∀ i : Int, (JG xs U E i) → (((decide (i < (xs.length : Int))) = true → ((0 : Int) ≤ i) ∧ ((i : Int) < xs.length) ∧ (i.toNat < xs.length) ∧ (PC Tryz.prog 201 [.sl (.ints (xs.getD i.toNat [])), .bx [.sl (.ints U), .sl (.rows E)] 0] (.one (.d (.bool (!(Jo (xs.getD i.toNat []) (U.length : Int) 99)))))) ∧ (((!(Jo (xs.getD i.toNat []) (U.length : Int) 99)) = true → ((i = (idxI (fun x => !(Jo x (U.length : Int) 99)) xs)))) ∧ ((!(Jo (xs.getD i.toNat []) (U.length : Int) 99)) = false → (I6 (i + 1)) ∧ (∃ i' : Int, (JG xs U E i') ∧ (JE xs U E i' < JE xs U E i) ∧ (xs = xs) ∧ ((.fn 201 0 [.bx [.sl (.ints U), .sl (.rows E)] 0] : D) = (.fn 201 0 [.bx [.sl (.ints U), .sl (.rows E)] 0] : D)) ∧ ((xs.length : Int) = (xs.length : Int)) ∧ ((i + 1) = i'))))) ∧ ((decide (i < (xs.length : Int))) = false → ((((-1) : Int) = (idxI (fun x => !(Jo x (U.length : Int) 99)) xs)))))))
theorem J36 (xs : ZR) (U : ZI) (E : ZR)  (w_xs : (xs.length : Int) ≤ 9223372036854775807) (v_xs : ∀ x9 ∈ xs, (x9.length : Int) ≤ 9223372036854775807) (w_Open : (U.length : Int) ≤ 9223372036854775807) (w_Dist : (E.length : Int) ≤ 9223372036854775807) (v_Dist : ∀ x9 ∈ E, (x9.length : Int) ≤ 9223372036854775807) : J13 xs U E := by
  unfold J13
  refine ⟨?_, ?_⟩
  ·refine ⟨0, ?_⟩
   refine ⟨?_, rfl, rfl, rfl, rfl⟩
   ·refine ⟨?_, ?_, ?_⟩
    ·omega
    ·omega
    ·omega
  intro i hJ
  obtain ⟨h1, h2, h3⟩ := hJ
  refine ⟨?_, ?_⟩
  ·intro b1
   try simp only [nrmT] at b1
   refine ⟨?_, ?_, ?_, J8U (xs.getD i.toNat []) U E, ?_, ?_⟩
   ·omega
   ·omega
   ·omega
   ·intro b2
    try simp only [nrmT] at b2
    exact idx_found (p := fun x => !(Jo x (U.length : Int) 99)) h1 b1 h3 (by simpa using b2)
   intro b3
   try simp only [nrmT] at b3
   refine ⟨?_, ?_⟩
   ·omega
   refine ⟨(i + 1), ?_⟩
   refine ⟨?_, ?_, rfl, rfl, rfl, rfl⟩
   ·refine ⟨?_, ?_, ?_⟩
    ·omega
    ·omega
    ·exact idx_step (p := fun x => !(Jo x (U.length : Int) 99)) h1 h3 (by simpa using b3)
   (simp only [JE]; omega)
  intro b4
  try simp only [nrmT] at b4
  exact (idx_none (by omega) h3).symm
theorem J2U (xs : ZR) (U : ZI) (E : ZR)  : PC Tryz.prog 226 [.sl (.rows xs), .fn 201 0 [.bx [.sl (.ints U), .sl (.rows E)] 0]] (.one (.d (.int .i64 (idxI (fun x => !(Jo x (U.length : Int) 99)) xs)))) :=
  pc_wf @Tryz.call226 fun hw => pc_by (by kernel_rfl) Tryz.func226 @Tryz.call226 (by kernel_rfl) J3f (J3h xs U E) (by kernel_rfl) (J36 xs U E hw.1.1 hw.1.2 hw.2.1.1.1 hw.2.1.1.2.1.1 hw.2.1.1.2.1.2) (by kernel_rfl)
def J2Q : List D → Orc := orcN [some .rows, none] fun ds => match ds with
  | [.sl (.rows xs), .fn f0 0 [.bx [.sl (.ints U), .sl (.rows E)] 0]] => bif Nat.beq f0 201 then some (.one (.d (.int .i64 (idxI (fun x => !(Jo x (U.length : Int) 99)) xs)))) else none
  | _ => none
def J2K (f : FuncId) (ds : List D) : Orc := bif Nat.beq f 226 then J2Q ds else .no
def J2G (xs : ZR) (U : ZI) (E : ZR) : Ann := .none
def J0y (xs : ZR) (U : ZI) (E : ZR) : Prop :=
  (PC Tryz.prog 226 [.sl (.rows xs), .fn 201 0 [.bx [.sl (.ints U), .sl (.rows E)] 0]] (.one (.d (.int .i64 (idxI (fun x => !(Jo x (U.length : Int) 99)) xs))))) ∧ (((decide ((idxI (fun x => !(Jo x (U.length : Int) 99)) xs) ≥ 0)) = (xs.any (fun x => !(Jo x (U.length : Int) 99)))))
theorem J2n (xs : ZR) (U : ZI) (E : ZR)  (w_xs : (xs.length : Int) ≤ 9223372036854775807) (v_xs : ∀ x9 ∈ xs, (x9.length : Int) ≤ 9223372036854775807) (w_Open : (U.length : Int) ≤ 9223372036854775807) (w_Dist : (E.length : Int) ≤ 9223372036854775807) (v_Dist : ∀ x9 ∈ E, (x9.length : Int) ≤ 9223372036854775807) : J0y xs U E := by
  unfold J0y
  refine ⟨J2U xs U E, ?_⟩
  ·exact idx_any _ _
theorem J2p (xs : ZR) (U : ZI) (E : ZR)  : PC Tryz.prog 195 [.sl (.rows xs), .fn 201 0 [.bx [.sl (.ints U), .sl (.rows E)] 0]] (.one (.d (.bool (xs.any (fun x => !(Jo x (U.length : Int) 99)))))) :=
  pc_wf @Tryz.call195 fun hw => pc_by (by kernel_rfl) Tryz.func195 @Tryz.call195 (by kernel_rfl) J2K (J2G xs U E) (by kernel_rfl) (J2n xs U E hw.1.1 hw.1.2 hw.2.1.1.1 hw.2.1.1.2.1.1 hw.2.1.1.2.1.2) (by kernel_rfl)
def J2k : List D → Orc := orcN [some .rows, none] fun ds => match ds with
  | [.sl (.rows xs), .fn f0 0 [.bx [.sl (.ints U), .sl (.rows E)] 0]] => bif Nat.beq f0 201 then some (.one (.d (.bool (xs.any (fun x => !(Jo x (U.length : Int) 99)))))) else none
  | _ => none
def JaF (f : FuncId) (ds : List D) : Orc := bif Nat.beq f 132 then J1m ds else bif Nat.beq f 168 then J4x ds else bif Nat.beq f 195 then J2k ds else .no
def JaS (U : ZI) (E : ZR) : Ann := .none
def JA (U : ZI) (E : ZR) : Bool := (cond (cond (inB (U.length : Int) 1 7) (U.all (fun x => inB x 0 99)) false) (decide ((E.length : Int) ≤ 7)) false)
def J73 (U : ZI) (E : ZR) : Prop :=
  (PC Tryz.prog 132 [.int .i64 (U.length : Int), .int .i64 1, .int .i64 7] (.one (.d (.bool (inB (U.length : Int) 1 7))))) ∧ ((inB (U.length : Int) 1 7) = true → (inB (U.length : Int) 1 7) = true) ∧ ((inB (U.length : Int) 1 7) = true → (inB (U.length : Int) 1 7) = true) ∧ ((inB (U.length : Int) 1 7) = true → PC Tryz.prog 168 [.sl (.ints U), .int .i64 0, .int .i64 99] (.one (.d (.bool (U.all (fun x => inB x 0 99)))))) ∧ (true = true) ∧ (((inB (U.length : Int) 1 7) = true → (inB (U.length : Int) 1 7) = true)) ∧ (((inB (U.length : Int) 1 7) = false → true = true)) ∧ ((cond (inB (U.length : Int) 1 7) (U.all (fun x => inB x 0 99)) false) = true → (cond (inB (U.length : Int) 1 7) (U.all (fun x => inB x 0 99)) false) = true) ∧ ((cond (inB (U.length : Int) 1 7) (U.all (fun x => inB x 0 99)) false) = true → (cond (inB (U.length : Int) 1 7) (U.all (fun x => inB x 0 99)) false) = true) ∧ ((cond (inB (U.length : Int) 1 7) (U.all (fun x => inB x 0 99)) false) = true → (cond (inB (U.length : Int) 1 7) (U.all (fun x => inB x 0 99)) false) = true) ∧ (true = true) ∧ (((cond (inB (U.length : Int) 1 7) (U.all (fun x => inB x 0 99)) false) = true → (cond (inB (U.length : Int) 1 7) (U.all (fun x => inB x 0 99)) false) = true)) ∧ (((cond (inB (U.length : Int) 1 7) (U.all (fun x => inB x 0 99)) false) = false → true = true)) ∧ ((JA U E) = true → (JA U E) = true) ∧ ((JA U E) = true → (JA U E) = true) ∧ ((JA U E) = true → (JA U E) = true) ∧ ((JA U E) = true → PC Tryz.prog 195 [.sl (.rows E), .fn 201 0 [.bx [.sl (.ints U), .sl (.rows E)] 0]] (.one (.d (.bool (E.any (fun x => !(Jo x (U.length : Int) 99))))))) ∧ ((JA U E) = true → (JA U E) = true) ∧ (true = true) ∧ (((JA U E) = true → (JA U E) = true)) ∧ (((JA U E) = false → true = true)) ∧ (((cond (JA U E) (!(E.any (fun x => !(Jo x (U.length : Int) 99)))) false) = (J0 U E)))
theorem Jau (U : ZI) (E : ZR)  (w_Open : (U.length : Int) ≤ 9223372036854775807) (w_Dist : (E.length : Int) ≤ 9223372036854775807) (v_Dist : ∀ x9 ∈ E, (x9.length : Int) ≤ 9223372036854775807) : J73 U E := by
  unfold J73 JA
  refine ⟨J1T (U.length : Int) 1 7, id, id, fun _ => J4I U 0 99, rfl, id, fun _ => rfl, id, id, id, rfl, id, fun _ => rfl, id, id, id, fun _ => J2p E U E, id, rfl, id, fun _ => rfl, ?_⟩
  ·unfold J0
   rw [any_not, show decide ((E.length : Int) ≤ 7) = decide (E.length ≤ 7) from JcE _ 7]
   cases inB (U.length : Int) 1 7 <;> cases U.all (fun x => inB x 0 99) <;> cases decide (E.length ≤ 7) <;> simp
theorem J4s (U : ZI) (E : ZR)  : PC Tryz.prog 111 [.agg [.sl (.ints U), .sl (.rows E)]] (.one (.d (.bool (J0 U E)))) :=
  pc_wf @Tryz.call111 fun hw => pc_by (by kernel_rfl) Tryz.func111 @Tryz.call111 (by kernel_rfl) JaF (JaS U E) (by kernel_rfl) (Jau U E hw.1.1 hw.1.2.1.1 hw.1.2.1.2) (by kernel_rfl)
def J43 : List D → Orc := orcN [none] fun ds => match ds with
  | [.agg [.sl (.ints U), .sl (.rows E)]] => some (.one (.d (.bool (J0 U E))))
  | _ => none
def JaI (f : FuncId) (ds : List D) : Orc := .no
def JaD (a : Int) (b : Int) : Ann := .none
def J7b (a : Int) (b : Int) : Prop :=
  (((decide (a < b)) = true → ((a = (min a b)))) ∧ ((decide (a < b)) = false → ((b = (min a b)))))
theorem Jam (a : Int) (b : Int)   : J7b a b := by
  unfold J7b
  refine ⟨?_, ?_⟩
  ·intro b1
   try simp only [nrmT] at b1
   omega
  intro b2
  try simp only [nrmT] at b2
  omega
theorem J4v (a : Int) (b : Int)  : PC Tryz.prog 161 [.int .i64 a, .int .i64 b] (.one (.d (.int .i64 (min a b)))) :=
  pc_wf @Tryz.call161 fun _ => pc_by (by kernel_rfl) Tryz.func161 @Tryz.call161 (by kernel_rfl) JaI (JaD a b) (by kernel_rfl) (Jam a b) (by kernel_rfl)
def J3Y : List D → Orc := orcN [none, none] fun ds => match ds with
  | [.int .i64 a, .int .i64 b] => some (.one (.d (.int .i64 (min a b))))
  | _ => none
theorem JU {xs : ZI} {lo hi : Int} (h : J2 xs lo hi = true) : ∀ k, k < xs.length → lo + k ≤ xs.getD k 0 ∧ xs.getD k 0 ≤ hi := by
  intro k
  induction k with
  | zero =>
    intro hk
    have h1 := allTo_iff.1 h 0 hk
    simp only [J2b, Bool.and_eq_true] at h1
    have := J0D h1.1
    omega
  | succ k ih =>
    intro hk
    have h0 := ih (by omega)
    have h1 := allTo_iff.1 h (k + 1) hk
    simp only [J2b, Bool.and_eq_true, Bool.or_eq_true, decide_eq_true_eq, Nat.add_sub_cancel] at h1
    have := J0D h1.1
    have h2 := h1.2
    omega
theorem JD {xs : ZI} {lo hi : Int} (h : J2 xs lo hi = true) (hlo : lo ≤ hi + 1) : (xs.length : Int) ≤ hi - lo + 1 := by
  by_cases h0 : xs.length = 0
  · omega
  have := JU h (xs.length - 1) (by omega)
  omega
def Jag (f : FuncId) (ds : List D) : Orc := bif Nat.beq f 111 then J43 ds else .no
def Ja7 (U : ZI) (E : ZR) (r : Int) : Ann := .none
def J5Q (U : ZI) (E : ZR) (r : Int) : Prop :=
  (PC Tryz.prog 111 [.agg [.sl (.ints U), .sl (.rows E)]] (.one (.d (.bool (J0 U E))))) ∧ ((J0 U E) = true → (J0 U E) = true) ∧ (true = true) ∧ (((J0 U E) = true → (J0 U E) = true)) ∧ (((J0 U E) = false → true = true)) ∧ (((cond (J0 U E) (decide (r ≥ 0)) false) = (J0 U E && decide (0 ≤ r))))
theorem J9P (U : ZI) (E : ZR) (r : Int)  (w_Open : (U.length : Int) ≤ 9223372036854775807) (w_Dist : (E.length : Int) ≤ 9223372036854775807) (v_Dist : ∀ x9 ∈ E, (x9.length : Int) ≤ 9223372036854775807) : J5Q U E r := by
  unfold J5Q
  refine ⟨J4s U E, id, rfl, id, fun _ => rfl, ?_⟩
  ·cases J0 U E <;> rfl
theorem J9v (U : ZI) (E : ZR) (r : Int)  : PC Tryz.prog 114 [.agg [.sl (.ints U), .sl (.rows E)], .int .i64 r] (.one (.d (.bool (J0 U E && decide (0 ≤ r))))) :=
  pc_wf @Tryz.call114 fun hw => pc_by (by kernel_rfl) Tryz.func114 @Tryz.call114 (by kernel_rfl) Jag (Ja7 U E r) (by kernel_rfl) (J9P U E r hw.1.1 hw.1.2.1.1 hw.1.2.1.2) (by kernel_rfl)
def J8J : List D → Orc := orcN [none, none] fun ds => match ds with
  | [.agg [.sl (.ints U), .sl (.rows E)], .int .i64 r] => some (.one (.d (.bool (J0 U E && decide (0 ≤ r)))))
  | _ => none
def JaY (f : FuncId) (ds : List D) : Orc := .no
def Jb4 (b : Int) (x : Int) : Ann := .none
def J72 (b : Int) (x : Int) : Prop :=
  ((0 : Int) ≤ b ∧ (b : Int) ≤ 18446744073709551615) ∧ ((0 : Int) ≤ x) ∧ ((0 : Int) ≤ (b / 2 ^ x.toNat) ∧ ((b / 2 ^ x.toNat) : Int) ≤ 18446744073709551615) ∧ ((0 : Int) ≤ 1 ∧ (1 : Int) ≤ 18446744073709551615) ∧ ((((((b / 2 ^ x.toNat).toNat &&& 1 : Nat) : Int) == 1) = (b.toNat.testBit x.toNat)))
theorem J9X (b : Int) (x : Int) (hb : 0 ≤ b ∧ b ≤ 4611686018427387903) (hx : 0 ≤ x)  : J72 b x := by
  unfold J72
  refine ⟨?_, ?_, ?_, ?_, ?_⟩
  ·omega
  ·omega
  ·have h1 : 0 ≤ b / 2 ^ x.toNat := Int.ediv_nonneg hb.1 (Int.le_of_lt (Int.pow_pos (by omega)))
   have h2 : b / 2 ^ x.toNat ≤ b := Int.ediv_le_self _ hb.1
   omega
  ·omega
  have e : b = ((b.toNat : Nat) : Int) := by omega
  have h := shr_bit (n := b.toNat) (k := x.toNat)
  rw [← e] at h
  rw [h]
  cases b.toNat.testBit x.toNat <;> rfl
theorem J9Y (b : Int) (x : Int) (hb : 0 ≤ b ∧ b ≤ 4611686018427387903) (hx : 0 ≤ x) : PC Tryz.prog 138 [.int .u64 b, .int .i64 x] (.one (.d (.bool (b.toNat.testBit x.toNat)))) :=
  pc_wf @Tryz.call138 fun _ => pc_by (by kernel_rfl) Tryz.func138 @Tryz.call138 (by kernel_rfl) JaY (Jb4 b x) (by kernel_rfl) (J9X b x hb hx) (by kernel_rfl)
def J9L : List D → Orc := orcN [none, none] fun ds => match ds with
  | [.int .u64 b, .int .i64 x] => some (.one (.d (.bool (b.toNat.testBit x.toNat))))
  | _ => none
theorem JbM {xs : ZI} {lo hi : Int} (h : J2 xs lo hi = true) : ∀ x ∈ xs, lo ≤ x ∧ x ≤ hi := by
  intro x hx
  obtain ⟨k, hk, rfl⟩ := List.mem_iff_getElem.1 hx
  have := JU h k hk
  simp [hk] at this
  omega
theorem Jdx {n : Nat} (h : n ≤ 8) : (2 : Nat) ^ n ≤ 256 := Nat.le_trans (Nat.pow_le_pow_right (by omega) h) (by decide)
abbrev J3F (l : ZI) (n : Int) (k : Int) : Prop := (0 ≤ k) ∧ (k ≤ (l.length : Int)) ∧ (∀ j, j < k.toNat → l.getD j 0 < n)
abbrev J3A (l : ZI) (n : Int) (k : Int) : Nat := (l.length - k).toNat
def Jcz (f : FuncId) (ds : List D) : Orc := .no
def JcH (l : ZI) (n : Int) : Ann := .two (.none) (.two (.none) (.two (.loop (cut1 (fun (k : Int) => J3F l n k) (fun (k : Int) => [(0, .d true (.sl (.ints l))), (1, .d false (.int .i64 n)), (5, .d true (.int .i64 k))]) (fun (k : Int) => [])) (fun g => J3A l n g) (fun _ => .none)) (.two (.none) (.two (.reg [(6, .frz)]) (.none)))))
def J9f (l : ZI) (n : Int) : Prop :=
  ((∃ k' : Int, (J3F l n k') ∧ (l = l) ∧ (n = n) ∧ ((0 : Int) = k')) ∧ (∀ k : Int, (J3F l n k) → ((decide (k < (l.length : Int))) = true → (decide (k < (l.length : Int))) = true) ∧ ((decide (k < (l.length : Int))) = true → (decide (k < (l.length : Int))) = true) ∧ (((decide (k < (l.length : Int))) = true → (0 : Int) ≤ k)) ∧ (((decide (k < (l.length : Int))) = true → (k : Int) < l.length)) ∧ ((decide (k < (l.length : Int))) = true → (decide (k < (l.length : Int))) = true) ∧ (((decide (k < (l.length : Int))) = true → k.toNat < l.length)) ∧ ((decide (k < (l.length : Int))) = true → (decide (k < (l.length : Int))) = true) ∧ ((decide (k < (l.length : Int))) = true → (decide (k < (l.length : Int))) = true) ∧ (true = true) ∧ (((decide (k < (l.length : Int))) = true → (decide (k < (l.length : Int))) = true)) ∧ (((decide (k < (l.length : Int))) = false → true = true)) ∧ (((cond (decide (k < (l.length : Int))) (decide ((l.getD k.toNat 0) < n)) false) = true → (I6 (k + 1)) ∧ (∃ k' : Int, (J3F l n k') ∧ (J3A l n k' < J3A l n k) ∧ (l = l) ∧ (n = n) ∧ ((k + 1) = k'))) ∧ ((cond (decide (k < (l.length : Int))) (decide ((l.getD k.toNat 0) < n)) false) = false → ((decide (k < (l.length : Int))) = true → (decide (k < (l.length : Int))) = true) ∧ ((decide (k < (l.length : Int))) = true → (decide (k < (l.length : Int))) = true) ∧ (((decide (k < (l.length : Int))) = true → (0 : Int) ≤ k)) ∧ (((decide (k < (l.length : Int))) = true → (k : Int) < l.length)) ∧ ((decide (k < (l.length : Int))) = true → (decide (k < (l.length : Int))) = true) ∧ (((decide (k < (l.length : Int))) = true → k.toNat < l.length)) ∧ ((decide (k < (l.length : Int))) = true → (decide (k < (l.length : Int))) = true) ∧ ((decide (k < (l.length : Int))) = true → (decide (k < (l.length : Int))) = true) ∧ (true = true) ∧ (((decide (k < (l.length : Int))) = true → (decide (k < (l.length : Int))) = true)) ∧ (((decide (k < (l.length : Int))) = false → true = true)) ∧ (((cond (decide (k < (l.length : Int))) ((l.getD k.toNat 0) == n) false) = true → (((l : ZI) = (putL l n)))) ∧ ((cond (decide (k < (l.length : Int))) ((l.getD k.toNat 0) == n) false) = false → (true = true) ∧ ((0 : Int) ≤ k) ∧ ((k : Int) ≤ l.length) ∧ ((0 : Nat) = 0) ∧ (True) ∧ ((0 + ((l.take k.toNat).drop 0).length) * 8 ≤ 140737488355328) ∧ ((0 + ((l.take k.toNat).drop 0).length) = ([] ++ ((l.take k.toNat).drop 0)).length) ∧ (True) ∧ ((([] ++ ((l.take k.toNat).drop 0)).length + 1) * 8 ≤ 140737488355328) ∧ ((0 : Int) ≤ k) ∧ ((k : Int) ≤ l.length) ∧ (((0 + ((l.take k.toNat).drop 0).length) + 1) = (([] ++ ((l.take k.toNat).drop 0)) ++ [n]).length) ∧ (True) ∧ (((([] ++ ((l.take k.toNat).drop 0)) ++ [n]).length + ((l.take l.length).drop k.toNat).length) * 8 ≤ 140737488355328) ∧ (((((0 + ((l.take k.toNat).drop 0).length) + 1) + ((l.take l.length).drop k.toNat).length) = ((([] ++ ((l.take k.toNat).drop 0)) ++ [n]) ++ ((l.take l.length).drop k.toNat)).length) ∧ ((((([] ++ ((l.take k.toNat).drop 0)) ++ [n]) ++ ((l.take l.length).drop k.toNat)) : ZI) = (putL l n)))))))))
theorem Jbu (l : ZI) (n : Int) (hl : l.length ≤ 1048576) (w_l : (l.length : Int) ≤ 9223372036854775807) : J9f l n := by
  unfold J9f
  refine ⟨?_, ?_⟩
  ·refine ⟨0, ?_⟩
   refine ⟨?_, rfl, rfl, rfl⟩
   ·refine ⟨?_, ?_, ?_⟩
    ·omega
    ·omega
    ·omega
  intro k hJ
  obtain ⟨h1, h2, h3⟩ := hJ
  refine ⟨id, id, ?_, ?_, id, ?_, id, id, rfl, id, fun _ => rfl, ?_, ?_⟩
  ·omega
  ·(intro hg; simp only [nrmT] at hg; omega)
  ·(intro hg; simp only [nrmT] at hg; omega)
  ·intro b1
   refine ⟨?_, ?_⟩
   ·have h5 : k < (l.length : Int) ∧ l.getD k.toNat 0 < n := by
      revert b1; by_cases h : k < (l.length : Int)
      · rw [decide_eq_true h]; intro g; exact ⟨h, by simpa using g⟩
      rw [decide_eq_false h]; intro g; cases g
    omega
   refine ⟨(k + 1), ?_⟩
   refine ⟨?_, ?_, rfl, rfl, rfl⟩
   ·refine ⟨?_, ?_, ?_⟩
    ·omega
    ·have h5 : k < (l.length : Int) ∧ l.getD k.toNat 0 < n := by
       revert b1; by_cases h : k < (l.length : Int)
       · rw [decide_eq_true h]; intro g; exact ⟨h, by simpa using g⟩
       rw [decide_eq_false h]; intro g; cases g
     omega
    ·have h5 : k < (l.length : Int) ∧ l.getD k.toNat 0 < n := by
       revert b1; by_cases h : k < (l.length : Int)
       · rw [decide_eq_true h]; intro g; exact ⟨h, by simpa using g⟩
       rw [decide_eq_false h]; intro g; cases g
     intro j hj
     by_cases e : j = k.toNat
     · rw [e]; exact h5.2
     exact h3 j (by omega)
   have h5 : k < (l.length : Int) ∧ l.getD k.toNat 0 < n := by
     revert b1; by_cases h : k < (l.length : Int)
     · rw [decide_eq_true h]; intro g; exact ⟨h, by simpa using g⟩
     rw [decide_eq_false h]; intro g; cases g
   (simp only [J3A]; omega)
  intro b2
  refine ⟨id, id, ?_, ?_, id, ?_, id, id, rfl, id, fun _ => rfl, ?_, ?_⟩
  ·omega
  ·(intro hg; simp only [nrmT] at hg; omega)
  ·(intro hg; simp only [nrmT] at hg; omega)
  ·intro b3
   have h6 : k.toNat < l.length → ¬ l.getD k.toNat 0 < n := by
     intro g1 g2
     rw [decide_eq_true (show k < (l.length : Int) by omega), decide_eq_true g2] at b2
     cases b2
   have h7 : k < (l.length : Int) ∧ l.getD k.toNat 0 = n := by
     revert b3; by_cases h : k < (l.length : Int)
     · rw [decide_eq_true h]; intro g; exact ⟨h, by simpa using g⟩
     rw [decide_eq_false h]; intro g; cases g
   rw [putL_at l n k.toNat (by omega) h3 h6, if_pos ⟨by omega, h7.2⟩]
  intro b4
  refine ⟨rfl, ?_, ?_, rfl, trivial, ?_, ?_, trivial, ?_, ?_, ?_, ?_, trivial, ?_, ?_, ?_⟩
  ·omega
  ·omega
  ·(simp only [List.length_append, List.length_take, List.length_drop, List.length_cons, List.length_nil]; omega)
  ·(simp only [List.length_append, List.length_take, List.length_drop, List.length_cons, List.length_nil]; done)
  ·(simp only [List.length_append, List.length_take, List.length_drop, List.length_cons, List.length_nil]; omega)
  ·omega
  ·omega
  ·(simp only [List.length_append, List.length_take, List.length_drop, List.length_cons, List.length_nil]; done)
  ·(simp only [List.length_append, List.length_take, List.length_drop, List.length_cons, List.length_nil]; omega)
  ·(simp only [List.length_append, List.length_take, List.length_drop, List.length_cons, List.length_nil]; done)
  have h6 : k.toNat < l.length → ¬ l.getD k.toNat 0 < n := by
    intro g1 g2
    rw [decide_eq_true (show k < (l.length : Int) by omega), decide_eq_true g2] at b2
    cases b2
  have h7 : ¬ (k.toNat < l.length ∧ l.getD k.toNat 0 = n) := by
    rintro ⟨g1, g2⟩
    rw [decide_eq_true (show k < (l.length : Int) by omega), g2] at b4
    simp at b4
  rw [putL_at l n k.toNat (by omega) h3 h6, if_neg h7]
  simp
theorem JbC (l : ZI) (n : Int) (hl : l.length ≤ 1048576) : PCs Tryz.prog 140 [.sl (.ints l), .int .i64 n] 0 (.sl (.ints (putL l n))) :=
  pcs_wf @Tryz.call140 fun hw => pcs_by (by kernel_rfl) Tryz.func140 @Tryz.call140 (by kernel_rfl) Jcz (JcH l n) (by kernel_rfl) (Jbu l n hl hw.1) (by kernel_rfl)
def JaQ : List D → Orc := orcS 0 fun ds => match ds with
  | [.sl (.ints l), .int .i64 n] => some (.sl (.ints (putL l n)))
  | _ => none
theorem Js {α : Type} {xs : List α} {k : Nat} {d : α} (h : k < xs.length) : xs.getD k d = xs[k] := by simp [h]
abbrev J01 (xs : ZI) (x : Int) (i : Int) : Prop := (0 ≤ i) ∧ (i ≤ (xs.length : Int)) ∧ (∀ k, k < i.toNat → (fun y => x == y) (xs.getD k 0) = false)
abbrev J02 (xs : ZI) (x : Int) (i : Int) : Nat := (xs.length - i).toNat
def J4E (f : FuncId) (ds : List D) : Orc := .no
def J4D (xs : ZI) (x : Int) : Ann := .two (.none) (.two (.two (.none) (.loop (cut1 (fun (i : Int) => J01 xs x i) (fun (i : Int) => [(0, .d false (.sl (.ints xs))), (1, .d false (.int .i64 x)), (7, .d true (.int .i64 (xs.length : Int))), (8, .d true (.int .i64 i))]) (fun (i : Int) => [])) (fun g => J02 xs x g) (fun _ => .none))) (.none))
def J2d (xs : ZI) (x : Int) : Prop :=
  ((∃ i' : Int, (J01 xs x i') ∧ (xs = xs) ∧ (x = x) ∧ ((xs.length : Int) = (xs.length : Int)) ∧ ((0 : Int) = i')) ∧ (∀ i : Int, (J01 xs x i) → (((decide (i < (xs.length : Int))) = true → ((0 : Int) ≤ i) ∧ ((i : Int) < xs.length) ∧ (i.toNat < xs.length) ∧ (((x == (xs.getD i.toNat 0)) = true → ((i = (idxI (fun y => x == y) xs)))) ∧ ((x == (xs.getD i.toNat 0)) = false → (I6 (i + 1)) ∧ (∃ i' : Int, (J01 xs x i') ∧ (J02 xs x i' < J02 xs x i) ∧ (xs = xs) ∧ (x = x) ∧ ((xs.length : Int) = (xs.length : Int)) ∧ ((i + 1) = i'))))) ∧ ((decide (i < (xs.length : Int))) = false → ((((-1) : Int) = (idxI (fun y => x == y) xs)))))))
theorem J4p (xs : ZI) (x : Int)  (w_xs : (xs.length : Int) ≤ 9223372036854775807) : J2d xs x := by
  unfold J2d
  refine ⟨?_, ?_⟩
  ·refine ⟨0, ?_⟩
   refine ⟨?_, rfl, rfl, rfl, rfl⟩
   ·refine ⟨?_, ?_, ?_⟩
    ·omega
    ·omega
    ·omega
  intro i hJ
  obtain ⟨h1, h2, h3⟩ := hJ
  refine ⟨?_, ?_⟩
  ·intro b1
   try simp only [nrmT] at b1
   refine ⟨?_, ?_, ?_, ?_, ?_⟩
   ·omega
   ·omega
   ·omega
   ·intro b2
    try simp only [nrmT] at b2
    exact idx_found (p := fun y => x == y) h1 b1 h3 (by simpa using b2)
   intro b3
   try simp only [nrmT] at b3
   refine ⟨?_, ?_⟩
   ·omega
   refine ⟨(i + 1), ?_⟩
   refine ⟨?_, ?_, rfl, rfl, rfl, rfl⟩
   ·refine ⟨?_, ?_, ?_⟩
    ·omega
    ·omega
    ·exact idx_step (p := fun y => x == y) h1 h3 (by simpa using b3)
   (simp only [J02]; omega)
  intro b4
  try simp only [nrmT] at b4
  exact (idx_none (by omega) h3).symm
theorem J4A (xs : ZI) (x : Int)  : PC Tryz.prog 152 [.sl (.ints xs), .int .i64 x] (.one (.d (.int .i64 (idxI (fun y => x == y) xs)))) :=
  pc_wf @Tryz.call152 fun hw => pc_by (by kernel_rfl) Tryz.func152 @Tryz.call152 (by kernel_rfl) J4E (J4D xs x) (by kernel_rfl) (J4p xs x hw.1) (by kernel_rfl)
def J4k : List D → Orc := orcN [some .ints, none] fun ds => match ds with
  | [.sl (.ints xs), .int .i64 x] => some (.one (.d (.int .i64 (idxI (fun y => x == y) xs))))
  | _ => none
def Jco (f : FuncId) (ds : List D) : Orc := bif Nat.beq f 164 then J8T ds else .no
def JcC (U : ZI) (E : ZR) (set : ZI) : Ann := .none
def J9e (U : ZI) (E : ZR) (set : ZI) : Prop :=
  (I6 ((U.length : Int) - 1)) ∧ (PC Tryz.prog 164 [.sl (.ints set), .int .i64 0, .int .i64 ((U.length : Int) - 1)] (.one (.d (.bool (J2 set 0 ((U.length : Int) - 1)))))) ∧ (((J2 set 0 ((U.length : Int) - 1)) = (J2 set 0 ((U.length : Int) - 1))))
theorem JbK (U : ZI) (E : ZR) (set : ZI)  (w_Open : (U.length : Int) ≤ 9223372036854775807) (w_Dist : (E.length : Int) ≤ 9223372036854775807) (v_Dist : ∀ x9 ∈ E, (x9.length : Int) ≤ 9223372036854775807) (w_set : (set.length : Int) ≤ 9223372036854775807) : J9e U E set := by
  unfold J9e
  refine ⟨?_, J9R set 0 ((U.length : Int) - 1), rfl⟩
  ·omega
theorem Jc5 (U : ZI) (E : ZR) (set : ZI)  : PC Tryz.prog 206 [.agg [.sl (.ints U), .sl (.rows E)], .sl (.ints set)] (.one (.d (.bool (J2 set 0 ((U.length : Int) - 1))))) :=
  pc_wf @Tryz.call206 fun hw => pc_by (by kernel_rfl) Tryz.func206 @Tryz.call206 (by kernel_rfl) Jco (JcC U E set) (by kernel_rfl) (JbK U E set hw.1.1 hw.1.2.1.1 hw.1.2.1.2 hw.2.1) (by kernel_rfl)
def Jb8 : List D → Orc := orcN [none, some .ints] fun ds => match ds with
  | [.agg [.sl (.ints U), .sl (.rows E)], .sl (.ints set)] => some (.one (.d (.bool (J2 set 0 ((U.length : Int) - 1)))))
  | _ => none
def JcL (f : FuncId) (ds : List D) : Orc := bif Nat.beq f 112 then J39 ds else bif Nat.beq f 206 then Jb8 ds else .no
def Jcg (U : ZI) (E : ZR) (set : ZI) : Ann := .none
def J99 (U : ZI) (E : ZR) (set : ZI) : Prop :=
  (PC Tryz.prog 112 [.agg [.sl (.ints U), .sl (.rows E)]] (.one (.d (.bool (J0 U E))))) ∧ ((J0 U E) = true → (J0 U E) = true) ∧ ((J0 U E) = true → (J0 U E) = true) ∧ ((J0 U E) = true → PC Tryz.prog 206 [.agg [.sl (.ints U), .sl (.rows E)], .sl (.ints set)] (.one (.d (.bool (J2 set 0 ((U.length : Int) - 1)))))) ∧ (true = true) ∧ (((J0 U E) = true → (J0 U E) = true)) ∧ (((J0 U E) = false → true = true)) ∧ ((cond (J0 U E) (J2 set 0 ((U.length : Int) - 1)) false) = true → (cond (J0 U E) (J2 set 0 ((U.length : Int) - 1)) false) = true) ∧ ((cond (J0 U E) (J2 set 0 ((U.length : Int) - 1)) false) = true → (cond (J0 U E) (J2 set 0 ((U.length : Int) - 1)) false) = true) ∧ (true = true) ∧ (((cond (J0 U E) (J2 set 0 ((U.length : Int) - 1)) false) = true → (cond (J0 U E) (J2 set 0 ((U.length : Int) - 1)) false) = true)) ∧ (((cond (J0 U E) (J2 set 0 ((U.length : Int) - 1)) false) = false → true = true)) ∧ (((cond (cond (J0 U E) (J2 set 0 ((U.length : Int) - 1)) false) (decide ((set.length : Int) > 0)) false) = (J0 U E && J2 set 0 ((U.length : Int) - 1) && decide (0 < set.length))))
theorem Jc7 (U : ZI) (E : ZR) (set : ZI)  (w_Open : (U.length : Int) ≤ 9223372036854775807) (w_Dist : (E.length : Int) ≤ 9223372036854775807) (v_Dist : ∀ x9 ∈ E, (x9.length : Int) ≤ 9223372036854775807) (w_set : (set.length : Int) ≤ 9223372036854775807) : J99 U E set := by
  unfold J99
  refine ⟨J3I U E, id, id, fun _ => Jc5 U E set, rfl, id, fun _ => rfl, id, id, rfl, id, fun _ => rfl, ?_⟩
  ·rw [(show decide ((set.length : Int) > 0) = decide (0 < set.length) by rw [Bool.eq_iff_iff]; simp only [decide_eq_true_eq]; omega)]
   cases J0 U E <;> cases J2 set 0 ((U.length : Int) - 1) <;> cases decide (0 < set.length) <;> rfl
theorem J80 (U : ZI) (E : ZR) (set : ZI)  : PC Tryz.prog 120 [.agg [.sl (.ints U), .sl (.rows E)], .sl (.ints set)] (.one (.d (.bool (J0 U E && J2 set 0 ((U.length : Int) - 1) && decide (0 < set.length))))) :=
  pc_wf @Tryz.call120 fun hw => pc_by (by kernel_rfl) Tryz.func120 @Tryz.call120 (by kernel_rfl) JcL (Jcg U E set) (by kernel_rfl) (Jc7 U E set hw.1.1 hw.1.2.1.1 hw.1.2.1.2 hw.2.1) (by kernel_rfl)
def J75 : List D → Orc := orcN [none, some .ints] fun ds => match ds with
  | [.agg [.sl (.ints U), .sl (.rows E)], .sl (.ints set)] => some (.one (.d (.bool (J0 U E && J2 set 0 ((U.length : Int) - 1) && decide (0 < set.length)))))
  | _ => none
def J88 (f : FuncId) (ds : List D) : Orc := bif Nat.beq f 162 then J8H ds else .no
def J8c (U : ZI) (E : ZR) (set : ZI) : Ann := .none
def J4M (U : ZI) (E : ZR) (set : ZI) : Prop :=
  ((decide ((set.length : Int) > 0)) = true → (decide ((set.length : Int) > 0)) = true) ∧ ((decide ((set.length : Int) > 0)) = true → (decide ((set.length : Int) > 0)) = true) ∧ ((decide ((set.length : Int) > 0)) = true → (decide ((set.length : Int) > 0)) = true) ∧ ((decide ((set.length : Int) > 0)) = true → (decide ((set.length : Int) > 0)) = true) ∧ ((decide ((set.length : Int) > 0)) = true → PC Tryz.prog 162 [.sl (.ints set), .int .i64 (U.length : Int)] (.one (.d (.bool (J2 set 0 ((U.length : Int) - 1)))))) ∧ (true = true) ∧ (((decide ((set.length : Int) > 0)) = true → (decide ((set.length : Int) > 0)) = true)) ∧ (((decide ((set.length : Int) > 0)) = false → true = true)) ∧ (((cond (decide ((set.length : Int) > 0)) (J2 set 0 ((U.length : Int) - 1)) false) = (J2 set 0 ((U.length : Int) - 1) && decide (0 < set.length))))
theorem J7C (U : ZI) (E : ZR) (set : ZI)  (w_Open : (U.length : Int) ≤ 9223372036854775807) (w_Dist : (E.length : Int) ≤ 9223372036854775807) (v_Dist : ∀ x9 ∈ E, (x9.length : Int) ≤ 9223372036854775807) (w_set : (set.length : Int) ≤ 9223372036854775807) : J4M U E set := by
  unfold J4M
  refine ⟨id, id, id, id, ?_, rfl, id, fun _ => rfl, ?_⟩
  ·intro hg
   refine J9E set (U.length : Int) ?_
   ·omega
  rw [(show decide ((set.length : Int) > 0) = decide (0 < set.length) by rw [Bool.eq_iff_iff]; simp only [decide_eq_true_eq]; omega)]
  cases J2 set 0 ((U.length : Int) - 1) <;> cases decide (0 < set.length) <;> rfl
theorem J7g (U : ZI) (E : ZR) (set : ZI)  : PC Tryz.prog 203 [.agg [.sl (.ints U), .sl (.rows E)], .sl (.ints set)] (.one (.d (.bool (J2 set 0 ((U.length : Int) - 1) && decide (0 < set.length))))) :=
  pc_wf @Tryz.call203 fun hw => pc_by (by kernel_rfl) Tryz.func203 @Tryz.call203 (by kernel_rfl) J88 (J8c U E set) (by kernel_rfl) (J7C U E set hw.1.1 hw.1.2.1.1 hw.1.2.1.2 hw.2.1) (by kernel_rfl)
def J6J : List D → Orc := orcN [none, some .ints] fun ds => match ds with
  | [.agg [.sl (.ints U), .sl (.rows E)], .sl (.ints set)] => some (.one (.d (.bool (J2 set 0 ((U.length : Int) - 1) && decide (0 < set.length)))))
  | _ => none
def Jaq (f : FuncId) (ds : List D) : Orc := bif Nat.beq f 111 then J43 ds else bif Nat.beq f 203 then J6J ds else .no
def Jaz (U : ZI) (E : ZR) (set : ZI) : Ann := .none
def J64 (U : ZI) (E : ZR) (set : ZI) : Prop :=
  (PC Tryz.prog 111 [.agg [.sl (.ints U), .sl (.rows E)]] (.one (.d (.bool (J0 U E))))) ∧ ((J0 U E) = true → (J0 U E) = true) ∧ ((J0 U E) = true → (J0 U E) = true) ∧ ((J0 U E) = true → PC Tryz.prog 203 [.agg [.sl (.ints U), .sl (.rows E)], .sl (.ints set)] (.one (.d (.bool (J2 set 0 ((U.length : Int) - 1) && decide (0 < set.length)))))) ∧ (true = true) ∧ (((J0 U E) = true → (J0 U E) = true)) ∧ (((J0 U E) = false → true = true)) ∧ (((cond (J0 U E) (J2 set 0 ((U.length : Int) - 1) && decide (0 < set.length)) false) = (J0 U E && J2 set 0 ((U.length : Int) - 1) && decide (0 < set.length))))
theorem J9K (U : ZI) (E : ZR) (set : ZI)  (w_Open : (U.length : Int) ≤ 9223372036854775807) (w_Dist : (E.length : Int) ≤ 9223372036854775807) (v_Dist : ∀ x9 ∈ E, (x9.length : Int) ≤ 9223372036854775807) (w_set : (set.length : Int) ≤ 9223372036854775807) : J64 U E set := by
  unfold J64
  refine ⟨J4s U E, id, id, fun _ => J7g U E set, rfl, id, fun _ => rfl, ?_⟩
  ·cases J0 U E <;> cases J2 set 0 ((U.length : Int) - 1) <;> cases decide (0 < set.length) <;> rfl
theorem J3Z (U : ZI) (E : ZR) (set : ZI)  : PC Tryz.prog 113 [.agg [.sl (.ints U), .sl (.rows E)], .sl (.ints set)] (.one (.d (.bool (J0 U E && J2 set 0 ((U.length : Int) - 1) && decide (0 < set.length))))) :=
  pc_wf @Tryz.call113 fun hw => pc_by (by kernel_rfl) Tryz.func113 @Tryz.call113 (by kernel_rfl) Jaq (Jaz U E set) (by kernel_rfl) (J9K U E set hw.1.1 hw.1.2.1.1 hw.1.2.1.2 hw.2.1) (by kernel_rfl)
def J3u : List D → Orc := orcN [none, some .ints] fun ds => match ds with
  | [.agg [.sl (.ints U), .sl (.rows E)], .sl (.ints set)] => some (.one (.d (.bool (J0 U E && J2 set 0 ((U.length : Int) - 1) && decide (0 < set.length)))))
  | _ => none
theorem Jj {U set : ZI} {E : ZR} (h : (J0 U E && J2 set 0 ((U.length : Int) - 1) && decide (0 < set.length)) = true) :
    J0 U E = true ∧ J2 set 0 ((U.length : Int) - 1) = true ∧ 0 < set.length := by
  simp only [Bool.and_eq_true, decide_eq_true_eq] at h
  exact ⟨h.1.1, h.1.2, h.2⟩
theorem JbR {b x : Int} (hb : 0 ≤ b ∧ b ≤ 4611686018427387903) (h2 : x ≤ 62) (h : 0 < b / 2 ^ x.toNat) : x < 62 := by
  by_cases e : x = 62
  · subst e
    have e2 : (2 : Int) ^ (62 : Int).toNat = 4611686018427387904 := by decide
    rw [e2] at h
    omega
  omega
theorem Jdo {b : Int} {m : Nat} (hb : 0 ≤ b) (h : ¬ 0 < b / 2 ^ m) (k : Nat) (hk : m ≤ k) : b.toNat.testBit k = false := by
  have h1 : b.toNat / 2 ^ m = 0 := by
    have h2 : ((b.toNat / 2 ^ m : Nat) : Int) = b / 2 ^ m := by
      rw [Int.natCast_ediv, Int.toNat_of_nonneg hb]; simp
    have h3 : (0 : Int) ≤ ((b.toNat / 2 ^ m : Nat) : Int) := Int.natCast_nonneg _
    omega
  have h4 : b.toNat < 2 ^ m := (Nat.div_eq_zero_iff_lt (Nat.two_pow_pos m)).1 h1
  exact Nat.testBit_lt_two_pow (Nat.lt_of_lt_of_le h4 (Nat.pow_le_pow_right (by omega) hk))
theorem J30 {p : Nat → Bool} {m : Nat} (h : ∀ k, m ≤ k → p k = false) : ∀ n, m ≤ n → members p n = members p m
  | 0, hn => by have : m = 0 := by omega
                rw [this]
  | n + 1, hn => by
    by_cases e : m = n + 1
    · rw [e]
    rw [members_succ, J30 h n (by omega), h n (by omega)]; simp
def J3H (row set : ZI) (b : Int) (k : Nat) : Int := if row.getD (set.getD k 0).toNat 0 < row.getD b.toNat 0 then set.getD k 0 else b
def J8 (row set : ZI) (k : Nat) : Int := foldTo (J3H row set) (set.getD 0 0) k
theorem JbI (row set : ZI) : J8 row set 1 = set.getD 0 0 := by
  show J3H row set (set.getD 0 0) 0 = _
  unfold J3H; split <;> rfl
theorem J1p (row set : ZI) (k : Nat) : J8 row set (k + 1) = J3H row set (J8 row set k) k := rfl
theorem J00 {row set : ZI} {n : Int} (h : ∀ k, k < set.length → 0 ≤ set.getD k 0 ∧ set.getD k 0 < n) (hp : 0 < set.length) : ∀ k, k ≤ set.length → 0 ≤ J8 row set k ∧ J8 row set k < n
  | 0, _ => h 0 hp
  | k + 1, hk => by
    rw [J1p]
    unfold J3H
    split
    · exact h k (by omega)
    exact J00 h hp k (by omega)
abbrev J1O (U : ZI) (E : ZR) (client : Int) (set : ZI) (best : Int) (k : Int) : Prop := (1 ≤ k) ∧ (k ≤ (set.length : Int)) ∧ (best = J8 (E.getD client.toNat []) set k.toNat)
abbrev J0E (U : ZI) (E : ZR) (client : Int) (set : ZI) (best : Int) (k : Int) : Nat := (set.length - k).toNat
def Jc3 (f : FuncId) (ds : List D) : Orc := .no
def Jbz (U : ZI) (E : ZR) (client : Int) (set : ZI) : Ann := .two (.none) (.two (.none) (.two (.two (.none) (.loop (cut2 (fun (best : Int) (k : Int) => J1O U E client set best k) (fun (best : Int) (k : Int) => [(1, .d false (.int .i64 client)), (2, .d false (.sl (.ints set))), (3, .ptr 3 0), (7, .d true (.int .i64 best)), (8, .d true (.int .i64 k))]) (fun (best : Int) (k : Int) => [(3, .box 27 [.d false (.sl (.ints U)), .d false (.sl (.rows E))])])) (fun g => J0E U E client set g.1 g.2) (fun _ => .none))) (.none)))
def J8g (U : ZI) (E : ZR) (client : Int) (set : ZI) : Prop :=
  ((0 : Int) ≤ 0) ∧ ((0 : Int) < set.length) ∧ (0 < set.length) ∧ ((∃ best' : Int, ∃ k' : Int, (J1O U E client set best' k') ∧ (client = client) ∧ (set = set) ∧ ((set.getD 0 0) = best') ∧ ((1 : Int) = k') ∧ (U = U) ∧ (E = E)) ∧ (∀ best : Int, ∀ k : Int, (J1O U E client set best k) → (((decide (k < (set.length : Int))) = true → (true = true) ∧ ((0 : Int) ≤ client) ∧ ((client : Int) < E.length) ∧ (client.toNat < E.length) ∧ ((0 : Int) ≤ k) ∧ ((k : Int) < set.length) ∧ (k.toNat < set.length) ∧ ((0 : Int) ≤ (set.getD k.toNat 0)) ∧ (((set.getD k.toNat 0) : Int) < (E.getD client.toNat []).length) ∧ ((set.getD k.toNat 0).toNat < (E.getD client.toNat []).length) ∧ ((0 : Int) ≤ client) ∧ ((client : Int) < E.length) ∧ (client.toNat < E.length) ∧ ((0 : Int) ≤ best) ∧ ((best : Int) < (E.getD client.toNat []).length) ∧ (best.toNat < (E.getD client.toNat []).length) ∧ (((decide (((E.getD client.toNat []).getD ((set.getD k.toNat 0).toNat) 0) < ((E.getD client.toNat []).getD best.toNat 0))) = true → ((0 : Int) ≤ k) ∧ ((k : Int) < set.length) ∧ (k.toNat < set.length) ∧ (I6 (k + 1)) ∧ (∃ best' : Int, ∃ k' : Int, (J1O U E client set best' k') ∧ (J0E U E client set best' k' < J0E U E client set best k) ∧ (client = client) ∧ (set = set) ∧ ((set.getD k.toNat 0) = best') ∧ ((k + 1) = k') ∧ (U = U) ∧ (E = E))) ∧ ((decide (((E.getD client.toNat []).getD ((set.getD k.toNat 0).toNat) 0) < ((E.getD client.toNat []).getD best.toNat 0))) = false → (I6 (k + 1)) ∧ (∃ best' : Int, ∃ k' : Int, (J1O U E client set best' k') ∧ (J0E U E client set best' k' < J0E U E client set best k) ∧ (client = client) ∧ (set = set) ∧ (best = best') ∧ ((k + 1) = k') ∧ (U = U) ∧ (E = E))))) ∧ ((decide (k < (set.length : Int))) = false → ((best = (J8 (E.getD client.toNat []) set set.length)))))))
theorem Jb2 (U : ZI) (E : ZR) (client : Int) (set : ZI) (ht : (J0 U E && J2 set 0 ((U.length : Int) - 1) && decide (0 < set.length)) = true) (hc : 0 ≤ client ∧ client < (E.length : Int)) (w_Open : (U.length : Int) ≤ 9223372036854775807) (w_Dist : (E.length : Int) ≤ 9223372036854775807) (v_Dist : ∀ x9 ∈ E, (x9.length : Int) ≤ 9223372036854775807) (w_set : (set.length : Int) ≤ 9223372036854775807) : J8g U E client set := by
  unfold J8g
  obtain ⟨hg, hs, hp⟩ := Jj ht
  obtain ⟨g1, g2, g3⟩ := Jm hg
  have cs := fun k => JU hs k
  obtain ⟨rl, rb⟩ := J0o (i := client.toNat) hg (by omega)
  have si := J00 (row := E.getD client.toNat []) (set := set) (n := (U.length : Int)) (fun k hk => by have := cs k hk; omega) hp
  refine ⟨?_, ?_, ?_, ?_, ?_⟩
  ·omega
  ·omega
  ·omega
  ·refine ⟨(set.getD 0 0), 1, ?_⟩
   refine ⟨?_, rfl, rfl, rfl, rfl, rfl, rfl⟩
   ·refine ⟨?_, ?_, ?_⟩
    ·omega
    ·omega
    ·exact (JbI _ _).symm
  intro best k hJ
  obtain ⟨h1, h2, h3⟩ := hJ
  refine ⟨?_, ?_⟩
  ·intro b1
   try simp only [nrmT] at b1
   refine ⟨rfl, ?_, ?_, ?_, ?_, ?_, ?_, ?_, ?_, ?_, ?_, ?_, ?_, ?_, ?_, ?_, ?_, ?_⟩
   ·omega
   ·omega
   ·omega
   ·omega
   ·omega
   ·omega
   ·have := cs k.toNat (by omega)
    omega
   ·have := cs k.toNat (by omega)
    omega
   ·have := cs k.toNat (by omega)
    omega
   ·omega
   ·omega
   ·omega
   ·have := si k.toNat (by omega)
    omega
   ·have := si k.toNat (by omega)
    omega
   ·have := si k.toNat (by omega)
    omega
   ·intro b2
    try simp only [nrmT] at b2
    refine ⟨?_, ?_, ?_, ?_, ?_⟩
    ·omega
    ·omega
    ·omega
    ·omega
    refine ⟨(set.getD k.toNat 0), (k + 1), ?_⟩
    refine ⟨?_, ?_, rfl, rfl, rfl, rfl, rfl, rfl⟩
    ·refine ⟨?_, ?_, ?_⟩
     ·omega
     ·omega
     ·rw [show (k + 1).toNat = k.toNat + 1 by omega, J1p, ← h3]; unfold J3H; rw [if_pos b2]
    (simp only [J0E]; omega)
   intro b3
   try simp only [nrmT] at b3
   refine ⟨?_, ?_⟩
   ·omega
   refine ⟨best, (k + 1), ?_⟩
   refine ⟨?_, ?_, rfl, rfl, rfl, rfl, rfl, rfl⟩
   ·refine ⟨?_, ?_, ?_⟩
    ·omega
    ·omega
    ·rw [show (k + 1).toNat = k.toNat + 1 by omega, J1p, ← h3]; unfold J3H; rw [if_neg (by omega)]
   (simp only [J0E]; omega)
  intro b4
  try simp only [nrmT] at b4
  rw [h3, show k.toNat = set.length by omega]
theorem J7d (U : ZI) (E : ZR) (client : Int) (set : ZI) (ht : (J0 U E && J2 set 0 ((U.length : Int) - 1) && decide (0 < set.length)) = true) (hc : 0 ≤ client ∧ client < (E.length : Int)) : PC Tryz.prog 153 [.agg [.sl (.ints U), .sl (.rows E)], .int .i64 client, .sl (.ints set)] (.one (.d (.int .i64 (J8 (E.getD client.toNat []) set set.length)))) :=
  pc_wf @Tryz.call153 fun hw => pc_by (by kernel_rfl) Tryz.func153 @Tryz.call153 (by kernel_rfl) Jc3 (Jbz U E client set) (by kernel_rfl) (Jb2 U E client set ht hc hw.1.1 hw.1.2.1.1 hw.1.2.1.2 hw.2.2.1) (by kernel_rfl)
def J6o : List D → Orc := orcN [none, none, some .ints] fun ds => match ds with
  | [.agg [.sl (.ints U), .sl (.rows E)], .int .i64 client, .sl (.ints set)] => some (.one (.d (.int .i64 (J8 (E.getD client.toNat []) set set.length))))
  | _ => none
abbrev J0d (U : ZI) (E : ZR) (client : Int) (set : ZI) (best : Int) (k : Int) : Prop := (0 ≤ k) ∧ (k ≤ (set.length : Int)) ∧ (best = J8 (E.getD client.toNat []) set k.toNat)
abbrev JM (U : ZI) (E : ZR) (client : Int) (set : ZI) (best : Int) (k : Int) : Nat := (set.length - k).toNat
def J7q (f : FuncId) (ds : List D) : Orc := .no
def J7B (U : ZI) (E : ZR) (client : Int) (set : ZI) : Ann := .two (.none) (.two (.none) (.two (.two (.none) (.loop (cut2 (fun (best : Int) (k : Int) => J0d U E client set best k) (fun (best : Int) (k : Int) => [(1, .d false (.int .i64 client)), (3, .ptr 3 0), (7, .d true (.int .i64 best)), (13, .d false (.sl (.ints set))), (14, .d true (.int .i64 (set.length : Int))), (15, .d true (.int .i64 k))]) (fun (best : Int) (k : Int) => [(3, .box 27 [.d false (.sl (.ints U)), .d false (.sl (.rows E))])])) (fun g => JM U E client set g.1 g.2) (fun _ => .none))) (.none)))
def J4o (U : ZI) (E : ZR) (client : Int) (set : ZI) : Prop :=
  ((0 : Int) ≤ 0) ∧ ((0 : Int) < set.length) ∧ (0 < set.length) ∧ ((∃ best' : Int, ∃ k' : Int, (J0d U E client set best' k') ∧ (client = client) ∧ ((set.getD 0 0) = best') ∧ (set = set) ∧ ((set.length : Int) = (set.length : Int)) ∧ ((0 : Int) = k') ∧ (U = U) ∧ (E = E)) ∧ (∀ best : Int, ∀ k : Int, (J0d U E client set best k) → (((decide (k < (set.length : Int))) = true → ((0 : Int) ≤ k) ∧ ((k : Int) < set.length) ∧ (k.toNat < set.length) ∧ (true = true) ∧ ((0 : Int) ≤ client) ∧ ((client : Int) < E.length) ∧ (client.toNat < E.length) ∧ ((0 : Int) ≤ (set.getD k.toNat 0)) ∧ (((set.getD k.toNat 0) : Int) < (E.getD client.toNat []).length) ∧ ((set.getD k.toNat 0).toNat < (E.getD client.toNat []).length) ∧ ((0 : Int) ≤ client) ∧ ((client : Int) < E.length) ∧ (client.toNat < E.length) ∧ ((0 : Int) ≤ best) ∧ ((best : Int) < (E.getD client.toNat []).length) ∧ (best.toNat < (E.getD client.toNat []).length) ∧ (((decide (((E.getD client.toNat []).getD ((set.getD k.toNat 0).toNat) 0) < ((E.getD client.toNat []).getD best.toNat 0))) = true → (I6 (k + 1)) ∧ (∃ best' : Int, ∃ k' : Int, (J0d U E client set best' k') ∧ (JM U E client set best' k' < JM U E client set best k) ∧ (client = client) ∧ ((set.getD k.toNat 0) = best') ∧ (set = set) ∧ ((set.length : Int) = (set.length : Int)) ∧ ((k + 1) = k') ∧ (U = U) ∧ (E = E))) ∧ ((decide (((E.getD client.toNat []).getD ((set.getD k.toNat 0).toNat) 0) < ((E.getD client.toNat []).getD best.toNat 0))) = false → (I6 (k + 1)) ∧ (∃ best' : Int, ∃ k' : Int, (J0d U E client set best' k') ∧ (JM U E client set best' k' < JM U E client set best k) ∧ (client = client) ∧ (best = best') ∧ (set = set) ∧ ((set.length : Int) = (set.length : Int)) ∧ ((k + 1) = k') ∧ (U = U) ∧ (E = E))))) ∧ ((decide (k < (set.length : Int))) = false → ((best = (J8 (E.getD client.toNat []) set set.length)))))))
theorem J6F (U : ZI) (E : ZR) (client : Int) (set : ZI) (ht : (J0 U E && J2 set 0 ((U.length : Int) - 1) && decide (0 < set.length)) = true) (hc : 0 ≤ client ∧ client < (E.length : Int)) (w_Open : (U.length : Int) ≤ 9223372036854775807) (w_Dist : (E.length : Int) ≤ 9223372036854775807) (v_Dist : ∀ x9 ∈ E, (x9.length : Int) ≤ 9223372036854775807) (w_set : (set.length : Int) ≤ 9223372036854775807) : J4o U E client set := by
  unfold J4o
  obtain ⟨hg, hs, hp⟩ := Jj ht
  obtain ⟨g1, g2, g3⟩ := Jm hg
  have cs := fun k => JU hs k
  obtain ⟨rl, rb⟩ := J0o (i := client.toNat) hg (by omega)
  have si := J00 (row := E.getD client.toNat []) (set := set) (n := (U.length : Int)) (fun k hk => by have := cs k hk; omega) hp
  refine ⟨?_, ?_, ?_, ?_, ?_⟩
  ·omega
  ·omega
  ·omega
  ·refine ⟨(set.getD 0 0), 0, ?_⟩
   refine ⟨?_, rfl, rfl, rfl, rfl, rfl, rfl, rfl⟩
   ·refine ⟨?_, ?_, ?_⟩
    ·omega
    ·omega
    ·rfl
  intro best k hJ
  obtain ⟨h1, h2, h3⟩ := hJ
  refine ⟨?_, ?_⟩
  ·intro b1
   try simp only [nrmT] at b1
   refine ⟨?_, ?_, ?_, rfl, ?_, ?_, ?_, ?_, ?_, ?_, ?_, ?_, ?_, ?_, ?_, ?_, ?_, ?_⟩
   ·omega
   ·omega
   ·omega
   ·omega
   ·omega
   ·omega
   ·have := cs k.toNat (by omega)
    omega
   ·have := cs k.toNat (by omega)
    omega
   ·have := cs k.toNat (by omega)
    omega
   ·omega
   ·omega
   ·omega
   ·have := si k.toNat (by omega)
    omega
   ·have := si k.toNat (by omega)
    omega
   ·have := si k.toNat (by omega)
    omega
   ·intro b2
    try simp only [nrmT] at b2
    refine ⟨?_, ?_⟩
    ·omega
    refine ⟨(set.getD k.toNat 0), (k + 1), ?_⟩
    refine ⟨?_, ?_, rfl, rfl, rfl, rfl, rfl, rfl, rfl⟩
    ·refine ⟨?_, ?_, ?_⟩
     ·omega
     ·omega
     ·rw [show (k + 1).toNat = k.toNat + 1 by omega, J1p, ← h3]; unfold J3H; rw [if_pos b2]
    (simp only [JM]; omega)
   intro b3
   try simp only [nrmT] at b3
   refine ⟨?_, ?_⟩
   ·omega
   refine ⟨best, (k + 1), ?_⟩
   refine ⟨?_, ?_, rfl, rfl, rfl, rfl, rfl, rfl, rfl⟩
   ·refine ⟨?_, ?_, ?_⟩
    ·omega
    ·omega
    ·rw [show (k + 1).toNat = k.toNat + 1 by omega, J1p, ← h3]; unfold J3H; rw [if_neg (by omega)]
   (simp only [JM]; omega)
  intro b4
  try simp only [nrmT] at b4
  rw [h3, show k.toNat = set.length by omega]
theorem J6Z (U : ZI) (E : ZR) (client : Int) (set : ZI) (ht : (J0 U E && J2 set 0 ((U.length : Int) - 1) && decide (0 < set.length)) = true) (hc : 0 ≤ client ∧ client < (E.length : Int)) : PC Tryz.prog 212 [.agg [.sl (.ints U), .sl (.rows E)], .int .i64 client, .sl (.ints set)] (.one (.d (.int .i64 (J8 (E.getD client.toNat []) set set.length)))) :=
  pc_wf @Tryz.call212 fun hw => pc_by (by kernel_rfl) Tryz.func212 @Tryz.call212 (by kernel_rfl) J7q (J7B U E client set) (by kernel_rfl) (J6F U E client set ht hc hw.1.1 hw.1.2.1.1 hw.1.2.1.2 hw.2.2.1) (by kernel_rfl)
def J61 : List D → Orc := orcN [none, none, some .ints] fun ds => match ds with
  | [.agg [.sl (.ints U), .sl (.rows E)], .int .i64 client, .sl (.ints set)] => some (.one (.d (.int .i64 (J8 (E.getD client.toNat []) set set.length))))
  | _ => none
def J9G (f : FuncId) (ds : List D) : Orc := bif Nat.beq f 153 then J6o ds else .no
def J9B (U : ZI) (E : ZR) (client : Int) (set : ZI) : Ann := .none
def J5s (U : ZI) (E : ZR) (client : Int) (set : ZI) : Prop :=
  (true = true) ∧ ((0 : Int) ≤ client) ∧ ((client : Int) < E.length) ∧ (client.toNat < E.length) ∧ (PC Tryz.prog 153 [.agg [.sl (.ints U), .sl (.rows E)], .int .i64 client, .sl (.ints set)] (.one (.d (.int .i64 (J8 (E.getD client.toNat []) set set.length))))) ∧ ((0 : Int) ≤ (J8 (E.getD client.toNat []) set set.length)) ∧ (((J8 (E.getD client.toNat []) set set.length) : Int) < (E.getD client.toNat []).length) ∧ ((J8 (E.getD client.toNat []) set set.length).toNat < (E.getD client.toNat []).length) ∧ ((((E.getD client.toNat []).getD ((J8 (E.getD client.toNat []) set set.length).toNat) 0) = ((E.getD client.toNat []).getD (J8 (E.getD client.toNat []) set set.length).toNat 0)))
theorem J8B (U : ZI) (E : ZR) (client : Int) (set : ZI) (ht : (J0 U E && J2 set 0 ((U.length : Int) - 1) && decide (0 < set.length)) = true) (hc : 0 ≤ client ∧ client < (E.length : Int)) (w_Open : (U.length : Int) ≤ 9223372036854775807) (w_Dist : (E.length : Int) ≤ 9223372036854775807) (v_Dist : ∀ x9 ∈ E, (x9.length : Int) ≤ 9223372036854775807) (w_set : (set.length : Int) ≤ 9223372036854775807) : J5s U E client set := by
  unfold J5s
  obtain ⟨hg, hs, hp⟩ := Jj ht
  obtain ⟨g1, g2, g3⟩ := Jm hg
  have cs := fun k => JU hs k
  obtain ⟨rl, rb⟩ := J0o (i := client.toNat) hg (by omega)
  have si := J00 (row := E.getD client.toNat []) (set := set) (n := (U.length : Int)) (fun k hk => by have := cs k hk; omega) hp
  have sl := si set.length (Nat.le_refl _)
  refine ⟨rfl, ?_, ?_, ?_, ?_, ?_, ?_, ?_, ?_⟩
  ·omega
  ·omega
  ·omega
  ·refine J7d U E client set ?_ ?_
   ·omega
   ·omega
  ·omega
  ·omega
  ·omega
  omega
theorem J3s (U : ZI) (E : ZR) (client : Int) (set : ZI) (ht : (J0 U E && J2 set 0 ((U.length : Int) - 1) && decide (0 < set.length)) = true) (hc : 0 ≤ client ∧ client < (E.length : Int)) : PC Tryz.prog 150 [.agg [.sl (.ints U), .sl (.rows E)], .int .i64 client, .sl (.ints set)] (.one (.d (.int .i64 ((E.getD client.toNat []).getD (J8 (E.getD client.toNat []) set set.length).toNat 0)))) :=
  pc_wf @Tryz.call150 fun hw => pc_by (by kernel_rfl) Tryz.func150 @Tryz.call150 (by kernel_rfl) J9G (J9B U E client set) (by kernel_rfl) (J8B U E client set ht hc hw.1.1 hw.1.2.1.1 hw.1.2.1.2 hw.2.2.1) (by kernel_rfl)
def J2X : List D → Orc := orcN [none, none, some .ints] fun ds => match ds with
  | [.agg [.sl (.ints U), .sl (.rows E)], .int .i64 client, .sl (.ints set)] => some (.one (.d (.int .i64 ((E.getD client.toNat []).getD (J8 (E.getD client.toNat []) set set.length).toNat 0))))
  | _ => none
def Jb (E : ZR) (set : ZI) (n : Nat) : ZI := (List.range n).map fun i => J8 (E.getD i []) set set.length
def JB (E : ZR) (set : ZI) (i : Nat) : Int := (E.getD i []).getD (J8 (E.getD i []) set set.length).toNat 0
def Jd (E : ZR) (set : ZI) (n : Nat) : ZI := (List.range n).map (JB E set)
theorem J6l (E : ZR) (set : ZI) (n : Nat) : (Jb E set n).length = n := by simp [Jb]
theorem Jx (E : ZR) (set : ZI) (n : Nat) : (Jd E set n).length = n := by simp [Jd]
theorem JK (E : ZR) (set : ZI) (n i : Nat) (h : i < n) : (Jb E set n).getD i 0 = J8 (E.getD i []) set set.length := by simp [Jb, h]
theorem J5l (E : ZR) (set : ZI) (n i : Nat) (h : i < n) : (Jd E set n).getD i 0 = JB E set i := by simp [Jd, h]
theorem Jc6 (E : ZR) (set : ZI) (n : Nat) : Jb E set (n + 1) = Jb E set n ++ [J8 (E.getD n []) set set.length] := by simp [Jb, List.range_succ]
theorem J8p (E : ZR) (set : ZI) (n : Nat) : Jd E set (n + 1) = Jd E set n ++ [JB E set n] := by simp [Jd, List.range_succ]
abbrev J0Y (U : ZI) (E : ZR) (set : ZI) (out : ZI) (i : Int) : Prop := (0 ≤ i) ∧ (i ≤ (E.length : Int)) ∧ (out = Jb E set i.toNat)
abbrev J0X (U : ZI) (E : ZR) (set : ZI) (out : ZI) (i : Int) : Nat := (E.length - i).toNat
def J7r (f : FuncId) (ds : List D) : Orc := bif Nat.beq f 212 then J61 ds else .no
def J7t (U : ZI) (E : ZR) (set : ZI) : Ann := .two (.none) (.two (.none) (.two (.two (.none) (.loop (cut2 (fun (out : ZI) (i : Int) => J0Y U E set out i) (fun (out : ZI) (i : Int) => [(1, .d false (.sl (.ints set))), (2, .ptr 2 0), (5, .own 1000000 out.length), (10, .d true (.int .i64 (E.length : Int))), (11, .d true (.int .i64 i))]) (fun (out : ZI) (i : Int) => [(1000000, .arr true 3 (.ints out)), (2, .box 27 [.d false (.sl (.ints U)), .d false (.sl (.rows E))])])) (fun g => J0X U E set g.1 g.2) (fun _ => .none))) (.none)))
def J4u (U : ZI) (E : ZR) (set : ZI) : Prop :=
  ((∃ out' : ZI, ∃ i' : Int, (J0Y U E set out' i') ∧ (set = set) ∧ ((0 : Nat) = out'.length) ∧ ((E.length : Int) = (E.length : Int)) ∧ ((0 : Int) = i') ∧ ([] = out') ∧ (U = U) ∧ (E = E)) ∧ (∀ out : ZI, ∀ i : Int, (J0Y U E set out i) → (((decide (i < (E.length : Int))) = true → (PC Tryz.prog 212 [.agg [.sl (.ints U), .sl (.rows E)], .int .i64 i, .sl (.ints set)] (.one (.d (.int .i64 (J8 (E.getD i.toNat []) set set.length))))) ∧ (out.length = out.length) ∧ ((1 : Nat) = 1) ∧ ((out.length + 1) * 8 ≤ 140737488355328) ∧ (I6 (i + 1)) ∧ (∃ out' : ZI, ∃ i' : Int, (J0Y U E set out' i') ∧ (J0X U E set out' i' < J0X U E set out i) ∧ (set = set) ∧ ((out.length + 1) = out'.length) ∧ ((E.length : Int) = (E.length : Int)) ∧ ((i + 1) = i') ∧ ((out ++ [(J8 (E.getD i.toNat []) set set.length)]) = out') ∧ (U = U) ∧ (E = E))) ∧ ((decide (i < (E.length : Int))) = false → ((out.length = out.length) ∧ ((out : ZI) = Jb E set E.length))))))
theorem J6y (U : ZI) (E : ZR) (set : ZI) (ht : (J0 U E && J2 set 0 ((U.length : Int) - 1) && decide (0 < set.length)) = true) (w_Open : (U.length : Int) ≤ 9223372036854775807) (w_Dist : (E.length : Int) ≤ 9223372036854775807) (v_Dist : ∀ x9 ∈ E, (x9.length : Int) ≤ 9223372036854775807) (w_set : (set.length : Int) ≤ 9223372036854775807) : J4u U E set := by
  unfold J4u
  obtain ⟨hg, hs, hp⟩ := Jj ht
  obtain ⟨g1, g2, g3⟩ := Jm hg
  have cs := fun k => JU hs k
  have si := fun (i : Nat) (hi : i < E.length) => J00 (row := E.getD i []) (set := set) (n := (U.length : Int)) (fun k hk => by have := cs k hk; omega) hp set.length (Nat.le_refl _)
  refine ⟨?_, ?_⟩
  ·refine ⟨([]), 0, ?_⟩
   refine ⟨?_, rfl, rfl, rfl, rfl, ?_, rfl, rfl⟩
   ·refine ⟨?_, ?_, ?_⟩
    ·omega
    ·omega
    ·rfl
   rfl
  intro out i hJ
  obtain ⟨h1, h2, h3⟩ := hJ
  refine ⟨?_, ?_⟩
  ·intro b1
   try simp only [nrmT] at b1
   refine ⟨?_, rfl, rfl, ?_, ?_, ?_⟩
   ·refine J6Z U E i set ?_ ?_
    ·omega
    ·omega
   ·rw [h3, J6l]; omega
   ·omega
   refine ⟨(out ++ [(J8 (E.getD i.toNat []) set set.length)]), (i + 1), ?_⟩
   refine ⟨?_, ?_, rfl, ?_, rfl, rfl, rfl, rfl, rfl⟩
   ·refine ⟨?_, ?_, ?_⟩
    ·omega
    ·omega
    ·rw [h3, show (i + 1).toNat = i.toNat + 1 by omega, Jc6]
   ·(simp only [J0X]; omega)
   (simp_all; done)
  intro b2
  try simp only [nrmT] at b2
  refine ⟨rfl, ?_⟩
  ·rw [h3, show i.toNat = E.length by omega]
theorem J49 (U : ZI) (E : ZR) (set : ZI) (ht : (J0 U E && J2 set 0 ((U.length : Int) - 1) && decide (0 < set.length)) = true) : PC Tryz.prog 151 [.agg [.sl (.ints U), .sl (.rows E)], .sl (.ints set)] (.one (.own 3 (.ints (Jb E set E.length)))) :=
  pc_wf @Tryz.call151 fun hw => pc_by (by kernel_rfl) Tryz.func151 @Tryz.call151 (by kernel_rfl) J7r (J7t U E set) (by kernel_rfl) (J6y U E set ht hw.1.1 hw.1.2.1.1 hw.1.2.1.2 hw.2.1) (by kernel_rfl)
def J3U : List D → Orc := orcN [none, some .ints] fun ds => match ds with
  | [.agg [.sl (.ints U), .sl (.rows E)], .sl (.ints set)] => some (.one (.own 3 (.ints (Jb E set E.length))))
  | _ => none
abbrev J0Q (U : ZI) (E : ZR) (set : ZI) (out : ZI) (i : Int) : Prop := (0 ≤ i) ∧ (i ≤ (E.length : Int)) ∧ (out = Jd E set i.toNat)
abbrev J0M (U : ZI) (E : ZR) (set : ZI) (out : ZI) (i : Int) : Nat := (E.length - i).toNat
def J6O (f : FuncId) (ds : List D) : Orc := bif Nat.beq f 151 then J3U ds else .no
def J6w (U : ZI) (E : ZR) (set : ZI) : Ann := .two (.none) (.two (.none) (.two (.two (.none) (.loop (cut2 (fun (out : ZI) (i : Int) => J0Q U E set out i) (fun (out : ZI) (i : Int) => [(2, .ptr 2 0), (5, .own 1000000 out.length), (11, .own 11 ((Jb E set E.length).length)), (12, .d true (.int .i64 (((Jb E set E.length).length) : Int))), (13, .d true (.int .i64 i))]) (fun (out : ZI) (i : Int) => [(1000000, .arr true 3 (.ints out)), (2, .box 27 [.d false (.sl (.ints U)), .d false (.sl (.rows E))]), (11, .arr true 3 (.ints (Jb E set E.length)))])) (fun g => J0M U E set g.1 g.2) (fun _ => .none))) (.none)))
def J4d (U : ZI) (E : ZR) (set : ZI) : Prop :=
  (PC Tryz.prog 151 [.agg [.sl (.ints U), .sl (.rows E)], .sl (.ints set)] (.one (.own 3 (.ints (Jb E set E.length))))) ∧ ((∃ out' : ZI, ∃ i' : Int, (J0Q U E set out' i') ∧ ((0 : Nat) = out'.length) ∧ ((Jb E set E.length).length = (Jb E set E.length).length) ∧ ((((Jb E set E.length).length) : Int) = (((Jb E set E.length).length) : Int)) ∧ ((0 : Int) = i') ∧ ([] = out') ∧ (U = U) ∧ (E = E) ∧ (Jb E set E.length = Jb E set E.length)) ∧ (∀ out : ZI, ∀ i : Int, (J0Q U E set out i) → (((decide (i < (((Jb E set E.length).length) : Int))) = true → ((0 : Int) ≤ i) ∧ ((i : Int) < (((Jb E set E.length).length) : Int)) ∧ (i.toNat < (Jb E set E.length).length) ∧ ((0 : Int) ≤ i) ∧ ((i : Int) < E.length) ∧ (i.toNat < E.length) ∧ ((0 : Int) ≤ ((Jb E set E.length).getD i.toNat 0)) ∧ ((((Jb E set E.length).getD i.toNat 0) : Int) < (E.getD i.toNat []).length) ∧ (((Jb E set E.length).getD i.toNat 0).toNat < (E.getD i.toNat []).length) ∧ (out.length = out.length) ∧ ((1 : Nat) = 1) ∧ ((out.length + 1) * 8 ≤ 140737488355328) ∧ (I6 (i + 1)) ∧ (∃ out' : ZI, ∃ i' : Int, (J0Q U E set out' i') ∧ (J0M U E set out' i' < J0M U E set out i) ∧ ((out.length + 1) = out'.length) ∧ ((Jb E set E.length).length = (Jb E set E.length).length) ∧ ((((Jb E set E.length).length) : Int) = (((Jb E set E.length).length) : Int)) ∧ ((i + 1) = i') ∧ ((out ++ [((E.getD i.toNat []).getD (((Jb E set E.length).getD i.toNat 0).toNat) 0)]) = out') ∧ (U = U) ∧ (E = E) ∧ (Jb E set E.length = Jb E set E.length))) ∧ ((decide (i < (((Jb E set E.length).length) : Int))) = false → ((out.length = out.length) ∧ ((out : ZI) = Jd E set E.length))))))
theorem J5O (U : ZI) (E : ZR) (set : ZI) (ht : (J0 U E && J2 set 0 ((U.length : Int) - 1) && decide (0 < set.length)) = true) (w_Open : (U.length : Int) ≤ 9223372036854775807) (w_Dist : (E.length : Int) ≤ 9223372036854775807) (v_Dist : ∀ x9 ∈ E, (x9.length : Int) ≤ 9223372036854775807) (w_set : (set.length : Int) ≤ 9223372036854775807) : J4d U E set := by
  unfold J4d
  obtain ⟨hg, hs, hp⟩ := Jj ht
  obtain ⟨g1, g2, g3⟩ := Jm hg
  have cs := fun k => JU hs k
  have si := fun (i : Nat) (hi : i < E.length) => J00 (row := E.getD i []) (set := set) (n := (U.length : Int)) (fun k hk => by have := cs k hk; omega) hp set.length (Nat.le_refl _)
  have e0 := J6l E set E.length
  refine ⟨?_, ?_, ?_⟩
  ·refine J49 U E set ?_
   ·omega
  ·refine ⟨([]), 0, ?_⟩
   refine ⟨?_, rfl, rfl, rfl, rfl, ?_, rfl, rfl, rfl⟩
   ·refine ⟨?_, ?_, ?_⟩
    ·omega
    ·omega
    ·rfl
   rfl
  intro out i hJ
  obtain ⟨h1, h2, h3⟩ := hJ
  refine ⟨?_, ?_⟩
  ·intro b1
   try simp only [nrmT] at b1
   refine ⟨?_, ?_, ?_, ?_, ?_, ?_, ?_, ?_, ?_, rfl, rfl, ?_, ?_, ?_⟩
   ·omega
   ·omega
   ·omega
   ·omega
   ·omega
   ·omega
   ·rw [JK _ _ _ _ (by omega)]; obtain ⟨rl, rb⟩ := J0o (i := i.toNat) hg (by omega); have := si i.toNat (by omega); omega
   ·rw [JK _ _ _ _ (by omega)]; obtain ⟨rl, rb⟩ := J0o (i := i.toNat) hg (by omega); have := si i.toNat (by omega); omega
   ·rw [JK _ _ _ _ (by omega)]; obtain ⟨rl, rb⟩ := J0o (i := i.toNat) hg (by omega); have := si i.toNat (by omega); omega
   ·rw [h3, Jx]; omega
   ·omega
   refine ⟨(out ++ [((E.getD i.toNat []).getD (((Jb E set E.length).getD i.toNat 0).toNat) 0)]), (i + 1), ?_⟩
   refine ⟨?_, ?_, ?_, rfl, rfl, rfl, rfl, rfl, rfl, rfl⟩
   ·refine ⟨?_, ?_, ?_⟩
    ·omega
    ·omega
    ·rw [h3, show (i + 1).toNat = i.toNat + 1 by omega, J8p, JK _ _ _ _ (by omega)]; rfl
   ·(simp only [J0M]; omega)
   (simp_all; done)
  intro b2
  try simp only [nrmT] at b2
  refine ⟨rfl, ?_⟩
  ·rw [h3, show i.toNat = E.length by omega]
theorem J1R (U : ZI) (E : ZR) (set : ZI) (ht : (J0 U E && J2 set 0 ((U.length : Int) - 1) && decide (0 < set.length)) = true) : PC Tryz.prog 149 [.agg [.sl (.ints U), .sl (.rows E)], .sl (.ints set)] (.one (.own 3 (.ints (Jd E set E.length)))) :=
  pc_wf @Tryz.call149 fun hw => pc_by (by kernel_rfl) Tryz.func149 @Tryz.call149 (by kernel_rfl) J6O (J6w U E set) (by kernel_rfl) (J5O U E set ht hw.1.1 hw.1.2.1.1 hw.1.2.1.2 hw.2.1) (by kernel_rfl)
def J1t : List D → Orc := orcN [none, some .ints] fun ds => match ds with
  | [.agg [.sl (.ints U), .sl (.rows E)], .sl (.ints set)] => some (.one (.own 3 (.ints (Jd E set E.length))))
  | _ => none
def Jy (U : ZI) (E : ZR) (set : ZI) (r : Int) : ZI :=
  if ((J0 U E && J2 set 0 ((U.length : Int) - 1) && decide (0 < set.length)) && !(decide (r < 0))) = true then members (fun i => decide (JB E set i ≤ r)) E.length else []
abbrev J09 (U : ZI) (E : ZR) (set : ZI) (r : Int) (out : ZI) (j : Int) : Prop := ((J0 U E && J2 set 0 ((U.length : Int) - 1) && decide (0 < set.length)) = true) ∧ (¬ r < 0) ∧ (0 ≤ j) ∧ (j ≤ (E.length : Int)) ∧ (out = members (fun i => decide (JB E set i ≤ r)) j.toNat)
abbrev JI (U : ZI) (E : ZR) (set : ZI) (r : Int) (out : ZI) (j : Int) : Nat := (E.length - j).toNat
def J6z (f : FuncId) (ds : List D) : Orc := bif Nat.beq f 120 then J75 ds else bif Nat.beq f 150 then J2X ds else .no
def J6x (U : ZI) (E : ZR) (set : ZI) (r : Int) : Ann := .two (.none) (.two (.none) (.two (.none) (.two (.two (.none) (.loop (cut2 (fun (out : ZI) (j : Int) => J09 U E set r out j) (fun (out : ZI) (j : Int) => [(1, .d false (.sl (.ints set))), (2, .d false (.int .i64 r)), (3, .ptr 3 0), (8, .own 1000000 out.length), (9, .d true (.int .i64 j))]) (fun (out : ZI) (j : Int) => [(1000000, .arr true 3 (.ints out)), (3, .box 27 [.d false (.sl (.ints U)), .d false (.sl (.rows E))])])) (fun g => JI U E set r g.1 g.2) (fun _ => .none))) (.none))))
def J48 (U : ZI) (E : ZR) (set : ZI) (r : Int) : Prop :=
  (PC Tryz.prog 120 [.agg [.sl (.ints U), .sl (.rows E)], .sl (.ints set)] (.one (.d (.bool (J0 U E && J2 set 0 ((U.length : Int) - 1) && decide (0 < set.length)))))) ∧ ((!(!(J0 U E && J2 set 0 ((U.length : Int) - 1) && decide (0 < set.length)))) = true → (!(!(J0 U E && J2 set 0 ((U.length : Int) - 1) && decide (0 < set.length)))) = true) ∧ (true = true) ∧ (((!(J0 U E && J2 set 0 ((U.length : Int) - 1) && decide (0 < set.length))) = true → true = true)) ∧ (((!(J0 U E && J2 set 0 ((U.length : Int) - 1) && decide (0 < set.length))) = false → (!(!(J0 U E && J2 set 0 ((U.length : Int) - 1) && decide (0 < set.length)))) = true)) ∧ (((cond (!(J0 U E && J2 set 0 ((U.length : Int) - 1) && decide (0 < set.length))) true (decide (r < 0))) = true → (((0 : Nat) = 0) ∧ (([] : ZI) = (Jy U E set r)) ∧ (false = ((J0 U E && J2 set 0 ((U.length : Int) - 1) && decide (0 < set.length)) && !(decide (r < 0)))))) ∧ ((cond (!(J0 U E && J2 set 0 ((U.length : Int) - 1) && decide (0 < set.length))) true (decide (r < 0))) = false → ((∃ out' : ZI, ∃ j' : Int, (J09 U E set r out' j') ∧ (set = set) ∧ (r = r) ∧ ((0 : Nat) = out'.length) ∧ ((0 : Int) = j') ∧ ([] = out') ∧ (U = U) ∧ (E = E)) ∧ (∀ out : ZI, ∀ j : Int, (J09 U E set r out j) → (((decide (j < (E.length : Int))) = true → (PC Tryz.prog 150 [.agg [.sl (.ints U), .sl (.rows E)], .int .i64 j, .sl (.ints set)] (.one (.d (.int .i64 ((E.getD j.toNat []).getD (J8 (E.getD j.toNat []) set set.length).toNat 0))))) ∧ (((decide (((E.getD j.toNat []).getD (J8 (E.getD j.toNat []) set set.length).toNat 0) ≤ r)) = true → (out.length = out.length) ∧ ((1 : Nat) = 1) ∧ ((out.length + 1) * 8 ≤ 140737488355328) ∧ (I6 (j + 1)) ∧ (∃ out' : ZI, ∃ j' : Int, (J09 U E set r out' j') ∧ (JI U E set r out' j' < JI U E set r out j) ∧ (set = set) ∧ (r = r) ∧ ((out.length + 1) = out'.length) ∧ ((j + 1) = j') ∧ ((out ++ [j]) = out') ∧ (U = U) ∧ (E = E))) ∧ ((decide (((E.getD j.toNat []).getD (J8 (E.getD j.toNat []) set set.length).toNat 0) ≤ r)) = false → (I6 (j + 1)) ∧ (∃ out' : ZI, ∃ j' : Int, (J09 U E set r out' j') ∧ (JI U E set r out' j' < JI U E set r out j) ∧ (set = set) ∧ (r = r) ∧ (out.length = out'.length) ∧ ((j + 1) = j') ∧ (out = out') ∧ (U = U) ∧ (E = E))))) ∧ ((decide (j < (E.length : Int))) = false → ((out.length = out.length) ∧ ((out : ZI) = (Jy U E set r)) ∧ (true = ((J0 U E && J2 set 0 ((U.length : Int) - 1) && decide (0 < set.length)) && !(decide (r < 0)))))))))))
theorem J63 (U : ZI) (E : ZR) (set : ZI) (r : Int)  (w_Open : (U.length : Int) ≤ 9223372036854775807) (w_Dist : (E.length : Int) ≤ 9223372036854775807) (v_Dist : ∀ x9 ∈ E, (x9.length : Int) ≤ 9223372036854775807) (w_set : (set.length : Int) ≤ 9223372036854775807) : J48 U E set r := by
  unfold J48
  refine ⟨J80 U E set, id, rfl, fun _ => rfl, ?_, ?_, ?_⟩
  ·(simp_all; done)
  ·intro b1
   refine ⟨rfl, ?_, ?_⟩
   ·have hq : ((J0 U E && J2 set 0 ((U.length : Int) - 1) && decide (0 < set.length)) && !(decide (r < 0))) = false := by
      revert b1; cases (J0 U E && J2 set 0 ((U.length : Int) - 1) && decide (0 < set.length)) <;> by_cases h : r < 0 <;> simp [h]
    unfold Jy; rw [hq]; rfl
   have hq : ((J0 U E && J2 set 0 ((U.length : Int) - 1) && decide (0 < set.length)) && !(decide (r < 0))) = false := by
     revert b1; cases (J0 U E && J2 set 0 ((U.length : Int) - 1) && decide (0 < set.length)) <;> by_cases h : r < 0 <;> simp [h]
   exact hq.symm
  intro b2
  refine ⟨?_, ?_⟩
  ·refine ⟨([]), 0, ?_⟩
   refine ⟨?_, rfl, rfl, rfl, rfl, ?_, rfl, rfl⟩
   ·refine ⟨?_, ?_, ?_, ?_, ?_⟩
    ·(simp_all; done)
    ·(simp_all; done)
    ·omega
    ·omega
    ·rfl
   rfl
  intro out j hJ
  obtain ⟨hq1, hq2, h1, h2, h3⟩ := hJ
  refine ⟨?_, ?_⟩
  ·intro b3
   try simp only [nrmT] at b3
   refine ⟨?_, ?_, ?_⟩
   ·refine J3s U E j set ?_ ?_
    ·omega
    ·omega
   ·intro b4
    try simp only [nrmT] at b4
    refine ⟨rfl, rfl, ?_, ?_, ?_⟩
    ·obtain ⟨hg, _, _⟩ := Jj hq1
     obtain ⟨g1, g2, g3⟩ := Jm hg
     rw [h3]; have := members_len_le (fun i => decide (JB E set i ≤ r)) j.toNat; omega
    ·omega
    refine ⟨(out ++ [j]), (j + 1), ?_⟩
    refine ⟨?_, ?_, rfl, rfl, ?_, rfl, rfl, rfl, rfl⟩
    ·refine ⟨?_, ?_, ?_, ?_, ?_⟩
     ·omega
     ·omega
     ·omega
     ·omega
     ·rw [h3, show (j + 1).toNat = j.toNat + 1 by omega, members_succ, if_pos (by unfold JB at *; exact decide_eq_true b4), show ((j.toNat : Nat) : Int) = j by omega]
    ·(simp only [JI]; omega)
    (simp_all; done)
   intro b5
   try simp only [nrmT] at b5
   refine ⟨?_, ?_⟩
   ·omega
   refine ⟨out, (j + 1), ?_⟩
   refine ⟨?_, ?_, rfl, rfl, rfl, rfl, rfl, rfl, rfl⟩
   ·refine ⟨?_, ?_, ?_, ?_, ?_⟩
    ·omega
    ·omega
    ·omega
    ·omega
    ·rw [h3, show (j + 1).toNat = j.toNat + 1 by omega, members_succ, if_neg (by unfold JB at *; simp only [decide_eq_true_eq]; omega), List.append_nil]
   (simp only [JI]; omega)
  intro b6
  try simp only [nrmT] at b6
  refine ⟨rfl, ?_, ?_⟩
  ·unfold Jy; rw [if_pos (by rw [hq1, decide_eq_false hq2]; rfl), h3, show j.toNat = E.length by omega]
  (simp_all; done)
theorem J5T (U : ZI) (E : ZR) (set : ZI) (r : Int)  : PC Tryz.prog 60 [.agg [.sl (.ints U), .sl (.rows E)], .sl (.ints set), .int .i64 r] (.tup [.d (.sl (.ints (Jy U E set r))), .d (.bool ((J0 U E && J2 set 0 ((U.length : Int) - 1) && decide (0 < set.length)) && !(decide (r < 0))))]) :=
  pc_wf @Tryz.call60 fun hw => pc_by (by kernel_rfl) Tryz.func60 @Tryz.call60 (by kernel_rfl) J6z (J6x U E set r) (by kernel_rfl) (J63 U E set r hw.1.1 hw.1.2.1.1 hw.1.2.1.2 hw.2.1) (by kernel_rfl)
def J5F : List D → Orc := orcN [none, some .ints, none] fun ds => match ds with
  | [.agg [.sl (.ints U), .sl (.rows E)], .sl (.ints set), .int .i64 r] => some (.tup [.d (.sl (.ints (Jy U E set r))), .d (.bool ((J0 U E && J2 set 0 ((U.length : Int) - 1) && decide (0 < set.length)) && !(decide (r < 0))))])
  | _ => none
abbrev J0a (U : ZI) (E : ZR) (set : ZI) (r : Int) (out : ZI) (i : Int) : Prop := ((J0 U E && J2 set 0 ((U.length : Int) - 1) && decide (0 < set.length)) = true) ∧ (¬ r < 0) ∧ (0 ≤ i) ∧ (i ≤ (E.length : Int)) ∧ (out = members (fun i => decide (JB E set i ≤ r)) i.toNat)
abbrev JJ (U : ZI) (E : ZR) (set : ZI) (r : Int) (out : ZI) (i : Int) : Nat := (E.length - i).toNat
def J6T (f : FuncId) (ds : List D) : Orc := bif Nat.beq f 113 then J3u ds else bif Nat.beq f 149 then J1t ds else .no
def J6M (U : ZI) (E : ZR) (set : ZI) (r : Int) : Ann := .two (.none) (.two (.none) (.two (.none) (.two (.two (.none) (.loop (cut2 (fun (out : ZI) (i : Int) => J0a U E set r out i) (fun (out : ZI) (i : Int) => [(2, .d false (.int .i64 r)), (8, .own 1000000 out.length), (22, .own 22 ((Jd E set E.length).length)), (23, .d true (.int .i64 (((Jd E set E.length).length) : Int))), (24, .d true (.int .i64 i))]) (fun (out : ZI) (i : Int) => [(1000000, .arr true 3 (.ints out)), (22, .arr true 3 (.ints (Jd E set E.length)))])) (fun g => JJ U E set r g.1 g.2) (fun _ => .none))) (.none))))
def J4c (U : ZI) (E : ZR) (set : ZI) (r : Int) : Prop :=
  (PC Tryz.prog 113 [.agg [.sl (.ints U), .sl (.rows E)], .sl (.ints set)] (.one (.d (.bool (J0 U E && J2 set 0 ((U.length : Int) - 1) && decide (0 < set.length)))))) ∧ ((!(!(J0 U E && J2 set 0 ((U.length : Int) - 1) && decide (0 < set.length)))) = true → (!(!(J0 U E && J2 set 0 ((U.length : Int) - 1) && decide (0 < set.length)))) = true) ∧ (true = true) ∧ (((!(J0 U E && J2 set 0 ((U.length : Int) - 1) && decide (0 < set.length))) = true → true = true)) ∧ (((!(J0 U E && J2 set 0 ((U.length : Int) - 1) && decide (0 < set.length))) = false → (!(!(J0 U E && J2 set 0 ((U.length : Int) - 1) && decide (0 < set.length)))) = true)) ∧ (((cond (!(J0 U E && J2 set 0 ((U.length : Int) - 1) && decide (0 < set.length))) true (decide (r < 0))) = true → (((Jy U E set r).length = 0) ∧ (false = ((J0 U E && J2 set 0 ((U.length : Int) - 1) && decide (0 < set.length)) && !(decide (r < 0)))))) ∧ ((cond (!(J0 U E && J2 set 0 ((U.length : Int) - 1) && decide (0 < set.length))) true (decide (r < 0))) = false → (PC Tryz.prog 149 [.agg [.sl (.ints U), .sl (.rows E)], .sl (.ints set)] (.one (.own 3 (.ints (Jd E set E.length))))) ∧ ((∃ out' : ZI, ∃ i' : Int, (J0a U E set r out' i') ∧ (r = r) ∧ ((0 : Nat) = out'.length) ∧ ((Jd E set E.length).length = (Jd E set E.length).length) ∧ ((((Jd E set E.length).length) : Int) = (((Jd E set E.length).length) : Int)) ∧ ((0 : Int) = i') ∧ ([] = out') ∧ (Jd E set E.length = Jd E set E.length)) ∧ (∀ out : ZI, ∀ i : Int, (J0a U E set r out i) → (((decide (i < (((Jd E set E.length).length) : Int))) = true → ((0 : Int) ≤ i) ∧ ((i : Int) < (((Jd E set E.length).length) : Int)) ∧ (i.toNat < (Jd E set E.length).length) ∧ (((decide (((Jd E set E.length).getD i.toNat 0) ≤ r)) = true → (out.length = out.length) ∧ ((1 : Nat) = 1) ∧ ((out.length + 1) * 8 ≤ 140737488355328) ∧ (I6 (i + 1)) ∧ (∃ out' : ZI, ∃ i' : Int, (J0a U E set r out' i') ∧ (JJ U E set r out' i' < JJ U E set r out i) ∧ (r = r) ∧ ((out.length + 1) = out'.length) ∧ ((Jd E set E.length).length = (Jd E set E.length).length) ∧ ((((Jd E set E.length).length) : Int) = (((Jd E set E.length).length) : Int)) ∧ ((i + 1) = i') ∧ ((out ++ [i]) = out') ∧ (Jd E set E.length = Jd E set E.length))) ∧ ((decide (((Jd E set E.length).getD i.toNat 0) ≤ r)) = false → (I6 (i + 1)) ∧ (∃ out' : ZI, ∃ i' : Int, (J0a U E set r out' i') ∧ (JJ U E set r out' i' < JJ U E set r out i) ∧ (r = r) ∧ (out.length = out'.length) ∧ ((Jd E set E.length).length = (Jd E set E.length).length) ∧ ((((Jd E set E.length).length) : Int) = (((Jd E set E.length).length) : Int)) ∧ ((i + 1) = i') ∧ (out = out') ∧ (Jd E set E.length = Jd E set E.length))))) ∧ ((decide (i < (((Jd E set E.length).length) : Int))) = false → ((out.length = out.length) ∧ ((out : ZI) = Jy U E set r) ∧ (true = ((J0 U E && J2 set 0 ((U.length : Int) - 1) && decide (0 < set.length)) && !(decide (r < 0)))))))))))
theorem J6c (U : ZI) (E : ZR) (set : ZI) (r : Int)  (w_Open : (U.length : Int) ≤ 9223372036854775807) (w_Dist : (E.length : Int) ≤ 9223372036854775807) (v_Dist : ∀ x9 ∈ E, (x9.length : Int) ≤ 9223372036854775807) (w_set : (set.length : Int) ≤ 9223372036854775807) : J4c U E set r := by
  unfold J4c
  have e0 := Jx E set E.length
  refine ⟨J3Z U E set, id, rfl, fun _ => rfl, ?_, ?_, ?_⟩
  ·(simp_all; done)
  ·intro b1
   refine ⟨?_, ?_⟩
   ·have hq : ((J0 U E && J2 set 0 ((U.length : Int) - 1) && decide (0 < set.length)) && !(decide (r < 0))) = false := by
      revert b1; cases (J0 U E && J2 set 0 ((U.length : Int) - 1) && decide (0 < set.length)) <;> by_cases h : r < 0 <;> simp [h]
    unfold Jy; rw [hq]; rfl
   have hq : ((J0 U E && J2 set 0 ((U.length : Int) - 1) && decide (0 < set.length)) && !(decide (r < 0))) = false := by
     revert b1; cases (J0 U E && J2 set 0 ((U.length : Int) - 1) && decide (0 < set.length)) <;> by_cases h : r < 0 <;> simp [h]
   exact hq.symm
  intro b2
  refine ⟨?_, ?_, ?_⟩
  ·refine J1R U E set ?_
   ·(simp_all; done)
  ·refine ⟨([]), 0, ?_⟩
   refine ⟨?_, rfl, rfl, rfl, rfl, rfl, ?_, rfl⟩
   ·refine ⟨?_, ?_, ?_, ?_, ?_⟩
    ·(simp_all; done)
    ·(simp_all; done)
    ·omega
    ·omega
    ·rfl
   rfl
  intro out i hJ
  obtain ⟨hq1, hq2, h1, h2, h3⟩ := hJ
  refine ⟨?_, ?_⟩
  ·intro b3
   try simp only [nrmT] at b3
   refine ⟨?_, ?_, ?_, ?_, ?_⟩
   ·omega
   ·omega
   ·omega
   ·intro b4
    try simp only [nrmT] at b4
    refine ⟨rfl, rfl, ?_, ?_, ?_⟩
    ·obtain ⟨hg, _, _⟩ := Jj hq1
     obtain ⟨g1, g2, g3⟩ := Jm hg
     rw [h3]; have := members_len_le (fun i => decide (JB E set i ≤ r)) i.toNat; omega
    ·omega
    refine ⟨(out ++ [i]), (i + 1), ?_⟩
    refine ⟨?_, ?_, rfl, ?_, rfl, rfl, rfl, rfl, rfl⟩
    ·refine ⟨?_, ?_, ?_, ?_, ?_⟩
     ·omega
     ·omega
     ·omega
     ·omega
     ·rw [J5l _ _ _ _ (by omega)] at b4
      rw [h3, show (i + 1).toNat = i.toNat + 1 by omega, members_succ, if_pos (by unfold JB at *; exact decide_eq_true b4), show ((i.toNat : Nat) : Int) = i by omega]
    ·(simp only [JJ]; omega)
    (simp_all; done)
   intro b5
   try simp only [nrmT] at b5
   refine ⟨?_, ?_⟩
   ·omega
   refine ⟨out, (i + 1), ?_⟩
   refine ⟨?_, ?_, rfl, rfl, rfl, rfl, rfl, rfl, rfl⟩
   ·refine ⟨?_, ?_, ?_, ?_, ?_⟩
    ·omega
    ·omega
    ·omega
    ·omega
    ·rw [J5l _ _ _ _ (by omega)] at b5
     rw [h3, show (i + 1).toNat = i.toNat + 1 by omega, members_succ, if_neg (by unfold JB at *; simp only [decide_eq_true_eq]; omega), List.append_nil]
   (simp only [JJ]; omega)
  intro b6
  try simp only [nrmT] at b6
  refine ⟨rfl, ?_, ?_⟩
  ·unfold Jy; rw [if_pos (by rw [hq1, decide_eq_false hq2]; rfl), h3, show i.toNat = E.length by omega]
  (simp_all; done)
theorem J5V (U : ZI) (E : ZR) (set : ZI) (r : Int)  : PC Tryz.prog 59 [.agg [.sl (.ints U), .sl (.rows E)], .sl (.ints set), .int .i64 r] (.tup [.own 3 (.ints (Jy U E set r)), .d (.bool ((J0 U E && J2 set 0 ((U.length : Int) - 1) && decide (0 < set.length)) && !(decide (r < 0))))]) :=
  pc_wf @Tryz.call59 fun hw => pc_by (by kernel_rfl) Tryz.func59 @Tryz.call59 (by kernel_rfl) J6T (J6M U E set r) (by kernel_rfl) (J6c U E set r hw.1.1 hw.1.2.1.1 hw.1.2.1.2 hw.2.1) (by kernel_rfl)
def J5B : List D → Orc := orcN [none, some .ints, none] fun ds => match ds with
  | [.agg [.sl (.ints U), .sl (.rows E)], .sl (.ints set), .int .i64 r] => some (.tup [.own 3 (.ints (Jy U E set r)), .d (.bool ((J0 U E && J2 set 0 ((U.length : Int) - 1) && decide (0 < set.length)) && !(decide (r < 0))))])
  | _ => none
theorem J0v {row set : ZI} (hp : 0 < set.length) : ∀ k, k ≤ set.length → J8 row set k ∈ set
  | 0, _ => getD_mem hp
  | k + 1, hk => by
    rw [J1p]
    unfold J3H
    split
    · exact getD_mem (by omega)
    exact J0v hp k (by omega)
theorem J4J {xs : ZI} {lo hi : Int} (h : J2 xs lo hi = true) {i : Nat} : ∀ {j : Nat}, i < j → j < xs.length → xs.getD i 0 < xs.getD j 0
  | 0, hi, _ => by omega
  | j + 1, hi, hj => by
    have h1 := allTo_iff.1 h (j + 1) hj
    simp only [J2b, Bool.and_eq_true, Bool.or_eq_true, decide_eq_true_eq, Nat.add_sub_cancel] at h1
    have h2 := h1.2
    by_cases e : i = j
    · subst e; omega
    have := J4J h (i := i) (j := j) (by omega) (by omega)
    omega
theorem J1U {set : ZI} {s : Int} (h : s ∈ set) : 0 ≤ idxI (fun y => s == y) set ∧ idxI (fun y => s == y) set < set.length ∧ set.getD (idxI (fun y => s == y) set).toNat 0 = s := by
  unfold idxI
  cases hf : set.findIdx? (fun y => s == y) with
  | none =>
    have := List.findIdx?_eq_none_iff.1 hf s h
    simp at this
  | some k =>
    obtain ⟨hk, hp, _⟩ := List.findIdx?_eq_some_iff_getElem.1 hf
    have e : set[k] = s := (by simpa using hp : s = set[k]).symm
    refine ⟨by simp, by simpa using hk, ?_⟩
    simp [hk, e]
def J5j (set : ZI) (s d : Int) (out : ZI) (i : Nat) : ZI := foldTo (fun o c => if set.getD c 0 = s then o.set c (max (o.getD c 0) d) else o) out i
theorem J4U (set : ZI) (s d : Int) (out : ZI) (i : Nat) : J5j set s d out (i + 1) = if set.getD i 0 = s then (J5j set s d out i).set i (max ((J5j set s d out i).getD i 0) d) else J5j set s d out i := rfl
theorem J4t (set : ZI) (s d : Int) (out : ZI) (i : Nat) : (J5j set s d out i).length = out.length :=
  foldTo_inv (P := fun _ (o : ZI) => o.length = out.length) i rfl fun k x _ hx => by split <;> simp [hx]
theorem J78 {set : ZI} {s d : Int} {out : ZI} : ∀ i, (∀ c, c < i → set.getD c 0 ≠ s) → J5j set s d out i = out
  | 0, _ => rfl
  | i + 1, h => by rw [J4U, if_neg (h i (by omega)), J78 i fun c hc => h c (by omega)]
theorem Jav {set : ZI} {s d : Int} {out : ZI} {lo hi : Int} (hr : J2 set lo hi = true) {k : Nat} (hk : k < set.length) (hs : set.getD k 0 = s) : ∀ i, k < i → i ≤ set.length → J5j set s d out i = out.set k (max (out.getD k 0) d)
  | 0, h, _ => by omega
  | i + 1, h, hl => by
    rw [J4U]
    by_cases e : i = k
    · subst e
      rw [if_pos hs, J78 i fun c hc => by have := J4J hr hc hk; omega]
    have h2 := J4J hr (i := k) (j := i) (by omega) (by omega)
    rw [if_neg (by omega)]
    exact Jav hr hk hs i (by omega) (by omega)
def J8V (E : ZR) (set : ZI) (out : ZI) (j : Nat) : ZI := J5j set (J8 (E.getD j []) set set.length) (JB E set j) out set.length
def J0R (E : ZR) (set : ZI) (j : Nat) : ZI := foldTo (J8V E set) (List.replicate set.length 0) j
theorem J5n (E : ZR) (set : ZI) (j : Nat) : J0R E set (j + 1) = J8V E set (J0R E set j) j := rfl
theorem J06 (E : ZR) (set : ZI) (j : Nat) : (J0R E set j).length = set.length :=
  foldTo_inv (P := fun _ (o : ZI) => o.length = set.length) j (by simp) fun k x _ hx => by unfold J8V; rw [J4t, hx]
theorem Jad {E : ZR} {set out : ZI} {lo hi : Int} (hr : J2 set lo hi = true) (hp : 0 < set.length) (j : Nat) :
    out.set (idxI (fun y => J8 (E.getD j []) set set.length == y) set).toNat (max (out.getD (idxI (fun y => J8 (E.getD j []) set set.length == y) set).toNat 0) (JB E set j)) = J8V E set out j := by
  obtain ⟨h1, h2, h3⟩ := J1U (J0v (row := E.getD j []) hp set.length (Nat.le_refl _))
  unfold J8V
  exact (Jav hr (by omega) h3 set.length (by omega) (Nat.le_refl _)).symm
def Ja (U : ZI) (E : ZR) (set : ZI) : ZI := if (J0 U E && J2 set 0 ((U.length : Int) - 1) && decide (0 < set.length)) = true then J0R E set E.length else []
def JbF (f : FuncId) (ds : List D) : Orc := .no
def JbE (a : Int) (b : Int) : Ann := .none
def J7N (a : Int) (b : Int) : Prop :=
  (((decide (a > b)) = true → ((a = (max a b)))) ∧ ((decide (a > b)) = false → ((b = (max a b)))))
theorem Jb5 (a : Int) (b : Int)   : J7N a b := by
  unfold J7N
  refine ⟨?_, ?_⟩
  ·intro b1
   try simp only [nrmT] at b1
   omega
  intro b2
  try simp only [nrmT] at b2
  omega
theorem J3M (a : Int) (b : Int)  : PC Tryz.prog 154 [.int .i64 a, .int .i64 b] (.one (.d (.int .i64 (max a b)))) :=
  pc_wf @Tryz.call154 fun _ => pc_by (by kernel_rfl) Tryz.func154 @Tryz.call154 (by kernel_rfl) JbF (JbE a b) (by kernel_rfl) (Jb5 a b) (by kernel_rfl)
def J2Z : List D → Orc := orcN [none, none] fun ds => match ds with
  | [.int .i64 a, .int .i64 b] => some (.one (.d (.int .i64 (max a b))))
  | _ => none
abbrev J2x (U : ZI) (E : ZR) (set : ZI) (out : ZI) (j : Int) : Prop := ((J0 U E && J2 set 0 ((U.length : Int) - 1) && decide (0 < set.length)) = true) ∧ (0 ≤ j) ∧ (j ≤ (E.length : Int)) ∧ (out = J0R E set j.toNat)
abbrev J2t (U : ZI) (E : ZR) (set : ZI) (out : ZI) (j : Int) : Nat := (E.length - j).toNat
abbrev J1n (U : ZI) (E : ZR) (set : ZI) (out : ZI) (j : Int) (out1 : ZI) (i : Int) : Prop := (0 ≤ i) ∧ (i ≤ (set.length : Int)) ∧ (out1 = J5j set (J8 (E.getD j.toNat []) set set.length) (JB E set j.toNat) out i.toNat)
abbrev J0m (U : ZI) (E : ZR) (set : ZI) (out : ZI) (j : Int) (out1 : ZI) (i : Int) : Nat := (set.length - i).toNat
def JaH (f : FuncId) (ds : List D) : Orc := bif Nat.beq f 120 then J75 ds else bif Nat.beq f 153 then J6o ds else bif Nat.beq f 154 then J2Z ds else .no
def JaU (U : ZI) (E : ZR) (set : ZI) : Ann := .two (.none) (.two (.none) (.two (.none) (.two (.two (.none) (.loop (cut2 (fun (out : ZI) (j : Int) => J2x U E set out j) (fun (out : ZI) (j : Int) => [(1, .d false (.sl (.ints set))), (2, .ptr 2 0), (6, .own 17 out.length), (7, .d true (.int .i64 j))]) (fun (out : ZI) (j : Int) => [(17, .arr true 3 (.ints out)), (2, .box 27 [.d false (.sl (.ints U)), .d false (.sl (.rows E))])])) (fun g => J2t U E set g.1 g.2) (fun g => (fun (out : ZI) (j : Int) => .two (.none) (.two (.two (.none) (.two (.none) (.loop (cut2 (fun (out1 : ZI) (i : Int) => J1n U E set out j out1 i) (fun (out1 : ZI) (i : Int) => [(1, .d false (.sl (.ints set))), (2, .ptr 2 0), (6, .own 17 out1.length), (7, .d true (.int .i64 j)), (8, .d true (.int .i64 (J8 (E.getD j.toNat []) set set.length))), (9, .d true (.int .i64 i))]) (fun (out1 : ZI) (i : Int) => [(17, .arr true 3 (.ints out1)), (2, .box 27 [.d false (.sl (.ints U)), .d false (.sl (.rows E))])])) (fun g => J0m U E set out j g.1 g.2) (fun _ => .none)))) (.none))) (g.1) (g.2)))) (.none))))
def J74 (U : ZI) (E : ZR) (set : ZI) : Prop :=
  (PC Tryz.prog 120 [.agg [.sl (.ints U), .sl (.rows E)], .sl (.ints set)] (.one (.d (.bool (J0 U E && J2 set 0 ((U.length : Int) - 1) && decide (0 < set.length)))))) ∧ (((!(J0 U E && J2 set 0 ((U.length : Int) - 1) && decide (0 < set.length))) = true → (((0 : Nat) = 0) ∧ (([] : ZI) = (Ja U E set)) ∧ (false = (J0 U E && J2 set 0 ((U.length : Int) - 1) && decide (0 < set.length))))) ∧ ((!(J0 U E && J2 set 0 ((U.length : Int) - 1) && decide (0 < set.length))) = false → ((set.length : Int) = (set.length : Int)) ∧ ((0 : Int) ≤ (set.length : Int)) ∧ (((set.length : Int) : Int) * ((8 : Nat) : Int) ≤ 140737488355328) ∧ ((∃ out' : ZI, ∃ j' : Int, (J2x U E set out' j') ∧ (set = set) ∧ ((set.length : Int).toNat = out'.length) ∧ ((0 : Int) = j') ∧ ((List.replicate ((set.length : Int).toNat) (0 : Int)) = out') ∧ (U = U) ∧ (E = E)) ∧ (∀ out : ZI, ∀ j : Int, (J2x U E set out j) → (((decide (j < (E.length : Int))) = true → (PC Tryz.prog 153 [.agg [.sl (.ints U), .sl (.rows E)], .int .i64 j, .sl (.ints set)] (.one (.d (.int .i64 (J8 (E.getD j.toNat []) set set.length))))) ∧ ((∃ out1' : ZI, ∃ i' : Int, (J1n U E set out j out1' i') ∧ (set = set) ∧ (out.length = out1'.length) ∧ (j = j) ∧ ((J8 (E.getD j.toNat []) set set.length) = (J8 (E.getD j.toNat []) set set.length)) ∧ ((0 : Int) = i') ∧ (out = out1') ∧ (U = U) ∧ (E = E)) ∧ (∀ out1 : ZI, ∀ i : Int, (J1n U E set out j out1 i) → (((decide (i < (set.length : Int))) = true → ((0 : Int) ≤ i) ∧ ((i : Int) < set.length) ∧ (i.toNat < set.length) ∧ ((((set.getD i.toNat 0) == (J8 (E.getD j.toNat []) set set.length)) = true → (true = true) ∧ ((0 : Int) ≤ i) ∧ ((i : Int) < (out1.length : Int)) ∧ (i.toNat < out1.length) ∧ ((0 : Int) ≤ j) ∧ ((j : Int) < E.length) ∧ (j.toNat < E.length) ∧ ((0 : Int) ≤ (J8 (E.getD j.toNat []) set set.length)) ∧ (((J8 (E.getD j.toNat []) set set.length) : Int) < (E.getD j.toNat []).length) ∧ ((J8 (E.getD j.toNat []) set set.length).toNat < (E.getD j.toNat []).length) ∧ (PC Tryz.prog 154 [.int .i64 (out1.getD i.toNat 0), .int .i64 ((E.getD j.toNat []).getD ((J8 (E.getD j.toNat []) set set.length).toNat) 0)] (.one (.d (.int .i64 (max (out1.getD i.toNat 0) ((E.getD j.toNat []).getD ((J8 (E.getD j.toNat []) set set.length).toNat) 0)))))) ∧ ((0 : Int) ≤ i) ∧ ((i : Int) < (out1.length : Int)) ∧ (i.toNat < out1.length) ∧ (I6 (i + 1)) ∧ (∃ out1' : ZI, ∃ i' : Int, (J1n U E set out j out1' i') ∧ (J0m U E set out j out1' i' < J0m U E set out j out1 i) ∧ (set = set) ∧ (out1.length = out1'.length) ∧ (j = j) ∧ ((J8 (E.getD j.toNat []) set set.length) = (J8 (E.getD j.toNat []) set set.length)) ∧ ((i + 1) = i') ∧ ((out1.set i.toNat (max (out1.getD i.toNat 0) ((E.getD j.toNat []).getD ((J8 (E.getD j.toNat []) set set.length).toNat) 0))) = out1') ∧ (U = U) ∧ (E = E))) ∧ (((set.getD i.toNat 0) == (J8 (E.getD j.toNat []) set set.length)) = false → (I6 (i + 1)) ∧ (∃ out1' : ZI, ∃ i' : Int, (J1n U E set out j out1' i') ∧ (J0m U E set out j out1' i' < J0m U E set out j out1 i) ∧ (set = set) ∧ (out1.length = out1'.length) ∧ (j = j) ∧ ((J8 (E.getD j.toNat []) set set.length) = (J8 (E.getD j.toNat []) set set.length)) ∧ ((i + 1) = i') ∧ (out1 = out1') ∧ (U = U) ∧ (E = E))))) ∧ ((decide (i < (set.length : Int))) = false → (I6 (j + 1)) ∧ (∃ out' : ZI, ∃ j' : Int, (J2x U E set out' j') ∧ (J2t U E set out' j' < J2t U E set out j) ∧ (set = set) ∧ (out1.length = out'.length) ∧ ((j + 1) = j') ∧ (out1 = out') ∧ (U = U) ∧ (E = E))))))) ∧ ((decide (j < (E.length : Int))) = false → ((out.length = out.length) ∧ ((out : ZI) = (Ja U E set)) ∧ (true = (J0 U E && J2 set 0 ((U.length : Int) - 1) && decide (0 < set.length))))))))))
theorem Jay (U : ZI) (E : ZR) (set : ZI)  (w_Open : (U.length : Int) ≤ 9223372036854775807) (w_Dist : (E.length : Int) ≤ 9223372036854775807) (v_Dist : ∀ x9 ∈ E, (x9.length : Int) ≤ 9223372036854775807) (w_set : (set.length : Int) ≤ 9223372036854775807) : J74 U E set := by
  unfold J74
  refine ⟨J80 U E set, ?_, ?_⟩
  ·intro b1
   try simp only [Bool.not_eq_true', Bool.not_eq_false', Bool.not_not] at b1
   refine ⟨rfl, ?_, ?_⟩
   ·unfold Ja; rw [b1]; rfl
   exact b1.symm
  intro b2
  try simp only [Bool.not_eq_true', Bool.not_eq_false', Bool.not_not] at b2
  refine ⟨rfl, ?_, ?_, ?_, ?_⟩
  ·omega
  ·obtain ⟨hg, hs, hp⟩ := Jj (by first | exact ht | exact b2)
   obtain ⟨g1, g2, g3⟩ := Jm hg
   have sl := JD hs (by omega)
   omega
  ·refine ⟨(List.replicate ((set.length : Int).toNat) (0 : Int)), 0, ?_⟩
   refine ⟨?_, rfl, ?_, rfl, rfl, rfl, rfl⟩
   ·refine ⟨?_, ?_, ?_, ?_⟩
    ·exact b2
    ·omega
    ·omega
    ·rw [Int.toNat_natCast]; rfl
   simp
  intro out j hJ
  obtain ⟨ht, h1, h2, h3⟩ := hJ
  refine ⟨?_, ?_⟩
  ·intro b3
   try simp only [nrmT] at b3
   refine ⟨?_, ?_, ?_⟩
   ·refine J7d U E j set ?_ ?_
    ·exact ht
    ·omega
   ·refine ⟨out, 0, ?_⟩
    refine ⟨?_, rfl, rfl, rfl, rfl, rfl, rfl, rfl, rfl⟩
    ·refine ⟨?_, ?_, ?_⟩
     ·omega
     ·omega
     ·rfl
   intro out1 i hJ
   obtain ⟨h4, h5, h6⟩ := hJ
   refine ⟨?_, ?_⟩
   ·intro b4
    try simp only [nrmT] at b4
    refine ⟨?_, ?_, ?_, ?_, ?_⟩
    ·omega
    ·omega
    ·omega
    ·intro b5
     try simp only [nrmT] at b5
     refine ⟨rfl, ?_, ?_, ?_, ?_, ?_, ?_, ?_, ?_, ?_, J3M (out1.getD i.toNat 0) ((E.getD j.toNat []).getD ((J8 (E.getD j.toNat []) set set.length).toNat) 0), ?_, ?_, ?_, ?_, ?_⟩
     ·omega
     ·have : out1.length = set.length := by rw [h6, J4t, h3, J06]
      omega
     ·have : out1.length = set.length := by rw [h6, J4t, h3, J06]
      omega
     ·omega
     ·omega
     ·omega
     ·obtain ⟨hg, hs, hp⟩ := Jj (by first | exact ht | exact b5)
      obtain ⟨g1, g2, g3⟩ := Jm hg
      have sl := JD hs (by omega)
      have cs := fun k => JU hs k
      have si := J00 (row := E.getD j.toNat []) (set := set) (n := (U.length : Int)) (fun k hk => by have := cs k hk; omega) hp set.length (Nat.le_refl _)
      obtain ⟨rl, _⟩ := J0o (i := j.toNat) hg (by omega)
      omega
     ·obtain ⟨hg, hs, hp⟩ := Jj (by first | exact ht | exact b5)
      obtain ⟨g1, g2, g3⟩ := Jm hg
      have sl := JD hs (by omega)
      have cs := fun k => JU hs k
      have si := J00 (row := E.getD j.toNat []) (set := set) (n := (U.length : Int)) (fun k hk => by have := cs k hk; omega) hp set.length (Nat.le_refl _)
      obtain ⟨rl, _⟩ := J0o (i := j.toNat) hg (by omega)
      omega
     ·obtain ⟨hg, hs, hp⟩ := Jj (by first | exact ht | exact b5)
      obtain ⟨g1, g2, g3⟩ := Jm hg
      have sl := JD hs (by omega)
      have cs := fun k => JU hs k
      have si := J00 (row := E.getD j.toNat []) (set := set) (n := (U.length : Int)) (fun k hk => by have := cs k hk; omega) hp set.length (Nat.le_refl _)
      obtain ⟨rl, _⟩ := J0o (i := j.toNat) hg (by omega)
      omega
     ·omega
     ·have : out1.length = set.length := by rw [h6, J4t, h3, J06]
      omega
     ·have : out1.length = set.length := by rw [h6, J4t, h3, J06]
      omega
     ·omega
     refine ⟨(out1.set i.toNat (max (out1.getD i.toNat 0) ((E.getD j.toNat []).getD ((J8 (E.getD j.toNat []) set set.length).toNat) 0))), (i + 1), ?_⟩
     refine ⟨?_, ?_, rfl, ?_, rfl, rfl, rfl, rfl, rfl, rfl⟩
     ·refine ⟨?_, ?_, ?_⟩
      ·omega
      ·omega
      ·rw [show (i + 1).toNat = i.toNat + 1 by omega, J4U, if_pos b5, ← h6]; rfl
     ·(simp only [J0m]; omega)
     (simp_all; done)
    intro b6
    try simp only [nrmT] at b6
    refine ⟨?_, ?_⟩
    ·omega
    refine ⟨out1, (i + 1), ?_⟩
    refine ⟨?_, ?_, rfl, rfl, rfl, rfl, rfl, rfl, rfl, rfl⟩
    ·refine ⟨?_, ?_, ?_⟩
     ·omega
     ·omega
     ·rw [show (i + 1).toNat = i.toNat + 1 by omega, J4U, if_neg b6, ← h6]
    (simp only [J0m]; omega)
   intro b7
   try simp only [nrmT] at b7
   refine ⟨?_, ?_⟩
   ·omega
   refine ⟨out1, (j + 1), ?_⟩
   refine ⟨?_, ?_, rfl, rfl, rfl, rfl, rfl, rfl⟩
   ·refine ⟨?_, ?_, ?_, ?_⟩
    ·exact ht
    ·omega
    ·omega
    ·rw [show (j + 1).toNat = j.toNat + 1 by omega, J5n, ← h3]
     unfold J8V
     rw [h6, show i.toNat = set.length by omega]
   (simp only [J2t]; omega)
  intro b8
  try simp only [nrmT] at b8
  refine ⟨rfl, ?_, ?_⟩
  ·unfold Ja; rw [if_pos ht, h3, show j.toNat = E.length by omega]
  exact ht.symm
theorem Jac (U : ZI) (E : ZR) (set : ZI)  : PC Tryz.prog 62 [.agg [.sl (.ints U), .sl (.rows E)], .sl (.ints set)] (.tup [.d (.sl (.ints (Ja U E set))), .d (.bool (J0 U E && J2 set 0 ((U.length : Int) - 1) && decide (0 < set.length)))]) :=
  pc_wf @Tryz.call62 fun hw => pc_by (by kernel_rfl) Tryz.func62 @Tryz.call62 (by kernel_rfl) JaH (JaU U E set) (by kernel_rfl) (Jay U E set hw.1.1 hw.1.2.1.1 hw.1.2.1.2 hw.2.1) (by kernel_rfl)
def J9F : List D → Orc := orcN [none, some .ints] fun ds => match ds with
  | [.agg [.sl (.ints U), .sl (.rows E)], .sl (.ints set)] => some (.tup [.d (.sl (.ints (Ja U E set))), .d (.bool (J0 U E && J2 set 0 ((U.length : Int) - 1) && decide (0 < set.length)))])
  | _ => none
abbrev J2z (U : ZI) (E : ZR) (set : ZI) (out : ZI) (i : Int) : Prop := ((J0 U E && J2 set 0 ((U.length : Int) - 1) && decide (0 < set.length)) = true) ∧ (0 ≤ i) ∧ (i ≤ (E.length : Int)) ∧ (out = J0R E set i.toNat)
abbrev J2A (U : ZI) (E : ZR) (set : ZI) (out : ZI) (i : Int) : Nat := (E.length - i).toNat
def Jbc (f : FuncId) (ds : List D) : Orc := bif Nat.beq f 113 then J3u ds else bif Nat.beq f 151 then J3U ds else bif Nat.beq f 152 then J4k ds else .no
def JaG (U : ZI) (E : ZR) (set : ZI) : Ann := .two (.none) (.two (.none) (.two (.none) (.two (.two (.none) (.loop (cut2 (fun (out : ZI) (i : Int) => J2z U E set out i) (fun (out : ZI) (i : Int) => [(1, .d false (.sl (.ints set))), (2, .ptr 2 0), (6, .own 16 out.length), (19, .own 19 ((Jb E set E.length).length)), (20, .d true (.int .i64 (((Jb E set E.length).length) : Int))), (21, .d true (.int .i64 i))]) (fun (out : ZI) (i : Int) => [(16, .arr true 3 (.ints out)), (2, .box 27 [.d false (.sl (.ints U)), .d false (.sl (.rows E))]), (19, .arr true 3 (.ints (Jb E set E.length)))])) (fun g => J2A U E set g.1 g.2) (fun _ => .none))) (.none))))
def J7a (U : ZI) (E : ZR) (set : ZI) : Prop :=
  (PC Tryz.prog 113 [.agg [.sl (.ints U), .sl (.rows E)], .sl (.ints set)] (.one (.d (.bool (J0 U E && J2 set 0 ((U.length : Int) - 1) && decide (0 < set.length)))))) ∧ (((!(J0 U E && J2 set 0 ((U.length : Int) - 1) && decide (0 < set.length))) = true → (((Ja U E set).length = 0) ∧ (false = (J0 U E && J2 set 0 ((U.length : Int) - 1) && decide (0 < set.length))))) ∧ ((!(J0 U E && J2 set 0 ((U.length : Int) - 1) && decide (0 < set.length))) = false → ((set.length : Int) = (set.length : Int)) ∧ ((0 : Int) ≤ (set.length : Int)) ∧ (((set.length : Int) : Int) * ((8 : Nat) : Int) ≤ 140737488355328) ∧ (PC Tryz.prog 151 [.agg [.sl (.ints U), .sl (.rows E)], .sl (.ints set)] (.one (.own 3 (.ints (Jb E set E.length))))) ∧ ((∃ out' : ZI, ∃ i' : Int, (J2z U E set out' i') ∧ (set = set) ∧ ((set.length : Int).toNat = out'.length) ∧ ((Jb E set E.length).length = (Jb E set E.length).length) ∧ ((((Jb E set E.length).length) : Int) = (((Jb E set E.length).length) : Int)) ∧ ((0 : Int) = i') ∧ ((List.replicate ((set.length : Int).toNat) (0 : Int)) = out') ∧ (U = U) ∧ (E = E) ∧ (Jb E set E.length = Jb E set E.length)) ∧ (∀ out : ZI, ∀ i : Int, (J2z U E set out i) → (((decide (i < (((Jb E set E.length).length) : Int))) = true → ((0 : Int) ≤ i) ∧ ((i : Int) < (((Jb E set E.length).length) : Int)) ∧ (i.toNat < (Jb E set E.length).length) ∧ (PC Tryz.prog 152 [.sl (.ints set), .int .i64 ((Jb E set E.length).getD i.toNat 0)] (.one (.d (.int .i64 (idxI (fun y => ((Jb E set E.length).getD i.toNat 0) == y) set))))) ∧ (true = true) ∧ ((0 : Int) ≤ (idxI (fun y => ((Jb E set E.length).getD i.toNat 0) == y) set)) ∧ (((idxI (fun y => ((Jb E set E.length).getD i.toNat 0) == y) set) : Int) < (out.length : Int)) ∧ ((idxI (fun y => ((Jb E set E.length).getD i.toNat 0) == y) set).toNat < out.length) ∧ ((0 : Int) ≤ i) ∧ ((i : Int) < E.length) ∧ (i.toNat < E.length) ∧ ((0 : Int) ≤ ((Jb E set E.length).getD i.toNat 0)) ∧ ((((Jb E set E.length).getD i.toNat 0) : Int) < (E.getD i.toNat []).length) ∧ (((Jb E set E.length).getD i.toNat 0).toNat < (E.getD i.toNat []).length) ∧ ((0 : Int) ≤ (idxI (fun y => ((Jb E set E.length).getD i.toNat 0) == y) set)) ∧ (((idxI (fun y => ((Jb E set E.length).getD i.toNat 0) == y) set) : Int) < (out.length : Int)) ∧ ((idxI (fun y => ((Jb E set E.length).getD i.toNat 0) == y) set).toNat < out.length) ∧ (I6 (i + 1)) ∧ (∃ out' : ZI, ∃ i' : Int, (J2z U E set out' i') ∧ (J2A U E set out' i' < J2A U E set out i) ∧ (set = set) ∧ (out.length = out'.length) ∧ ((Jb E set E.length).length = (Jb E set E.length).length) ∧ ((((Jb E set E.length).length) : Int) = (((Jb E set E.length).length) : Int)) ∧ ((i + 1) = i') ∧ ((out.set ((idxI (fun y => ((Jb E set E.length).getD i.toNat 0) == y) set).toNat) (max (out.getD ((idxI (fun y => ((Jb E set E.length).getD i.toNat 0) == y) set).toNat) 0) ((E.getD i.toNat []).getD (((Jb E set E.length).getD i.toNat 0).toNat) 0))) = out') ∧ (U = U) ∧ (E = E) ∧ (Jb E set E.length = Jb E set E.length))) ∧ ((decide (i < (((Jb E set E.length).length) : Int))) = false → ((out.length = out.length) ∧ ((out : ZI) = Ja U E set) ∧ (true = (J0 U E && J2 set 0 ((U.length : Int) - 1) && decide (0 < set.length))))))))))
theorem Ja6 (U : ZI) (E : ZR) (set : ZI)  (w_Open : (U.length : Int) ≤ 9223372036854775807) (w_Dist : (E.length : Int) ≤ 9223372036854775807) (v_Dist : ∀ x9 ∈ E, (x9.length : Int) ≤ 9223372036854775807) (w_set : (set.length : Int) ≤ 9223372036854775807) : J7a U E set := by
  unfold J7a
  have e0 := J6l E set E.length
  refine ⟨J3Z U E set, ?_, ?_⟩
  ·intro b1
   try simp only [Bool.not_eq_true', Bool.not_eq_false', Bool.not_not] at b1
   refine ⟨?_, ?_⟩
   ·unfold Ja; rw [b1]; rfl
   exact b1.symm
  intro b2
  try simp only [Bool.not_eq_true', Bool.not_eq_false', Bool.not_not] at b2
  refine ⟨rfl, ?_, ?_, ?_, ?_, ?_⟩
  ·omega
  ·obtain ⟨hg, hs, hp⟩ := Jj (by first | exact ht | exact b2)
   obtain ⟨g1, g2, g3⟩ := Jm hg
   have sl := JD hs (by omega)
   omega
  ·refine J49 U E set ?_
   ·exact b2
  ·refine ⟨(List.replicate ((set.length : Int).toNat) (0 : Int)), 0, ?_⟩
   refine ⟨?_, rfl, ?_, rfl, rfl, rfl, rfl, rfl, rfl, rfl⟩
   ·refine ⟨?_, ?_, ?_, ?_⟩
    ·exact b2
    ·omega
    ·omega
    ·rw [Int.toNat_natCast]; rfl
   simp
  intro out i hJ
  obtain ⟨ht, h1, h2, h3⟩ := hJ
  refine ⟨?_, ?_⟩
  ·intro b3
   try simp only [nrmT] at b3
   refine ⟨?_, ?_, ?_, J4A set ((Jb E set E.length).getD i.toNat 0), rfl, ?_, ?_, ?_, ?_, ?_, ?_, ?_, ?_, ?_, ?_, ?_, ?_, ?_, ?_⟩
   ·omega
   ·omega
   ·omega
   ·rw [JK _ _ _ _ (by omega)]
    obtain ⟨hg, hs, hp⟩ := Jj (by first | exact ht | exact b3)
    obtain ⟨g1, g2, g3⟩ := Jm hg
    have sl := JD hs (by omega)
    have im := J1U (J0v (row := E.getD i.toNat []) hp set.length (Nat.le_refl _))
    have ol : out.length = set.length := by rw [h3, J06]
    omega
   ·rw [JK _ _ _ _ (by omega)]
    obtain ⟨hg, hs, hp⟩ := Jj (by first | exact ht | exact b3)
    obtain ⟨g1, g2, g3⟩ := Jm hg
    have sl := JD hs (by omega)
    have im := J1U (J0v (row := E.getD i.toNat []) hp set.length (Nat.le_refl _))
    have ol : out.length = set.length := by rw [h3, J06]
    omega
   ·rw [JK _ _ _ _ (by omega)]
    obtain ⟨hg, hs, hp⟩ := Jj (by first | exact ht | exact b3)
    obtain ⟨g1, g2, g3⟩ := Jm hg
    have sl := JD hs (by omega)
    have im := J1U (J0v (row := E.getD i.toNat []) hp set.length (Nat.le_refl _))
    have ol : out.length = set.length := by rw [h3, J06]
    omega
   ·omega
   ·omega
   ·omega
   ·rw [JK _ _ _ _ (by omega)]
    obtain ⟨hg, hs, hp⟩ := Jj (by first | exact ht | exact b3)
    obtain ⟨g1, g2, g3⟩ := Jm hg
    have sl := JD hs (by omega)
    have cs := fun k => JU hs k
    have si := J00 (row := E.getD i.toNat []) (set := set) (n := (U.length : Int)) (fun k hk => by have := cs k hk; omega) hp set.length (Nat.le_refl _)
    obtain ⟨rl, _⟩ := J0o (i := i.toNat) hg (by omega)
    omega
   ·rw [JK _ _ _ _ (by omega)]
    obtain ⟨hg, hs, hp⟩ := Jj (by first | exact ht | exact b3)
    obtain ⟨g1, g2, g3⟩ := Jm hg
    have sl := JD hs (by omega)
    have cs := fun k => JU hs k
    have si := J00 (row := E.getD i.toNat []) (set := set) (n := (U.length : Int)) (fun k hk => by have := cs k hk; omega) hp set.length (Nat.le_refl _)
    obtain ⟨rl, _⟩ := J0o (i := i.toNat) hg (by omega)
    omega
   ·rw [JK _ _ _ _ (by omega)]
    obtain ⟨hg, hs, hp⟩ := Jj (by first | exact ht | exact b3)
    obtain ⟨g1, g2, g3⟩ := Jm hg
    have sl := JD hs (by omega)
    have cs := fun k => JU hs k
    have si := J00 (row := E.getD i.toNat []) (set := set) (n := (U.length : Int)) (fun k hk => by have := cs k hk; omega) hp set.length (Nat.le_refl _)
    obtain ⟨rl, _⟩ := J0o (i := i.toNat) hg (by omega)
    omega
   ·rw [JK _ _ _ _ (by omega)]
    obtain ⟨hg, hs, hp⟩ := Jj (by first | exact ht | exact b3)
    obtain ⟨g1, g2, g3⟩ := Jm hg
    have sl := JD hs (by omega)
    have im := J1U (J0v (row := E.getD i.toNat []) hp set.length (Nat.le_refl _))
    have ol : out.length = set.length := by rw [h3, J06]
    omega
   ·rw [JK _ _ _ _ (by omega)]
    obtain ⟨hg, hs, hp⟩ := Jj (by first | exact ht | exact b3)
    obtain ⟨g1, g2, g3⟩ := Jm hg
    have sl := JD hs (by omega)
    have im := J1U (J0v (row := E.getD i.toNat []) hp set.length (Nat.le_refl _))
    have ol : out.length = set.length := by rw [h3, J06]
    omega
   ·rw [JK _ _ _ _ (by omega)]
    obtain ⟨hg, hs, hp⟩ := Jj (by first | exact ht | exact b3)
    obtain ⟨g1, g2, g3⟩ := Jm hg
    have sl := JD hs (by omega)
    have im := J1U (J0v (row := E.getD i.toNat []) hp set.length (Nat.le_refl _))
    have ol : out.length = set.length := by rw [h3, J06]
    omega
   ·omega
   refine ⟨(out.set ((idxI (fun y => ((Jb E set E.length).getD i.toNat 0) == y) set).toNat) (max (out.getD ((idxI (fun y => ((Jb E set E.length).getD i.toNat 0) == y) set).toNat) 0) ((E.getD i.toNat []).getD (((Jb E set E.length).getD i.toNat 0).toNat) 0))), (i + 1), ?_⟩
   refine ⟨?_, ?_, rfl, ?_, rfl, rfl, rfl, rfl, rfl, rfl, rfl⟩
   ·refine ⟨?_, ?_, ?_, ?_⟩
    ·exact ht
    ·omega
    ·omega
    ·rw [JK _ _ _ _ (by omega)]
     obtain ⟨hg, hs, hp⟩ := Jj ht
     rw [show (i + 1).toNat = i.toNat + 1 by omega, J5n, ← h3]; exact Jad hs hp i.toNat
   ·(simp only [J2A]; omega)
   (simp_all; done)
  intro b4
  try simp only [nrmT] at b4
  refine ⟨rfl, ?_, ?_⟩
  ·unfold Ja; rw [if_pos ht, h3, show i.toNat = E.length by omega]
  exact ht.symm
theorem JaC (U : ZI) (E : ZR) (set : ZI)  : PC Tryz.prog 61 [.agg [.sl (.ints U), .sl (.rows E)], .sl (.ints set)] (.tup [.own 3 (.ints (Ja U E set)), .d (.bool (J0 U E && J2 set 0 ((U.length : Int) - 1) && decide (0 < set.length)))]) :=
  pc_wf @Tryz.call61 fun hw => pc_by (by kernel_rfl) Tryz.func61 @Tryz.call61 (by kernel_rfl) Jbc (JaG U E set) (by kernel_rfl) (Ja6 U E set hw.1.1 hw.1.2.1.1 hw.1.2.1.2 hw.2.1) (by kernel_rfl)
def J9Q : List D → Orc := orcN [none, some .ints] fun ds => match ds with
  | [.agg [.sl (.ints U), .sl (.rows E)], .sl (.ints set)] => some (.tup [.own 3 (.ints (Ja U E set)), .d (.bool (J0 U E && J2 set 0 ((U.length : Int) - 1) && decide (0 < set.length)))])
  | _ => none
def JcN (f : FuncId) (ds : List D) : Orc := .no
def Jcs (l : ZI) : Ann := .none
def J9l (l : ZI) : Prop :=
  ((0 : Nat) = 0) ∧ (True) ∧ ((0 + l.length) * 8 ≤ 140737488355328) ∧ (((0 + l.length) = ([] ++ l).length) ∧ ((([] ++ l) : ZI) = l))
theorem Jbs (l : ZI) (hl : l.length ≤ 1048576) (w_l : (l.length : Int) ≤ 9223372036854775807) : J9l l := by
  unfold J9l
  refine ⟨rfl, trivial, ?_, ?_, ?_⟩
  ·omega
  ·(simp_all; done)
  rfl
theorem J29 (l : ZI) (hl : l.length ≤ 1048576) : PC Tryz.prog 98 [.sl (.ints l)] (.one (.own 3 (.ints l))) :=
  pc_wf @Tryz.call98 fun hw => pc_by (by kernel_rfl) Tryz.func98 @Tryz.call98 (by kernel_rfl) JcN (Jcs l) (by kernel_rfl) (Jbs l hl hw.1) (by kernel_rfl)
def J2o : List D → Orc := orcN [some .ints] fun ds => match ds with
  | [.sl (.ints l)] => some (.one (.own 3 (.ints l)))
  | _ => none
theorem JbL {xs : ZI} {lo hi : Int} (h : J2 xs lo hi = true) : Asc xs := by
  refine List.pairwise_iff_getElem.2 fun i j hi hj hij => ?_
  have := J4J h hij hj
  rwa [Js hi, Js hj] at this
def J5r (n : Nat) : ZI := members (fun _ => true) n
theorem Jcu {n : Nat} : members (fun k => (2 ^ n - 1).testBit k) n = J5r n :=
  members_congr fun k hk => by simp [Nat.testBit_two_pow_sub_one, hk]
abbrev J1V (n : Int) (code : Int) (out : ZI) (x : Int) : Prop := (0 ≤ x) ∧ (x ≤ n) ∧ (out = members (fun k => code.toNat.testBit k) x.toNat)
abbrev J0z (n : Int) (code : Int) (out : ZI) (x : Int) : Nat := (n - x).toNat
def JbU (f : FuncId) (ds : List D) : Orc := .no
def Jcb (n : Int) (code : Int) : Ann := .two (.none) (.two (.none) (.two (.two (.none) (.loop (cut2 (fun (out : ZI) (x : Int) => J1V n code out x) (fun (out : ZI) (x : Int) => [(0, .d false (.int .i64 n)), (1, .d false (.int .i64 code)), (5, .own 1000000 out.length), (6, .d true (.int .i64 x))]) (fun (out : ZI) (x : Int) => [(1000000, .arr true 3 (.ints out))])) (fun g => J0z n code g.1 g.2) (fun _ => .none))) (.none)))
def J7Y (n : Int) (code : Int) : Prop :=
  ((∃ out' : ZI, ∃ x' : Int, (J1V n code out' x') ∧ (n = n) ∧ (code = code) ∧ ((0 : Nat) = out'.length) ∧ ((0 : Int) = x') ∧ ([] = out')) ∧ (∀ out : ZI, ∀ x : Int, (J1V n code out x) → (((decide (x < n)) = true → ((0 : Int) ≤ code ∧ (code : Int) ≤ 9223372036854775807) ∧ ((0 : Int) ≤ x) ∧ ((0 : Int) ≤ (code / 2 ^ x.toNat) ∧ ((code / 2 ^ x.toNat) : Int) ≤ 9223372036854775807) ∧ ((0 : Int) ≤ 1 ∧ (1 : Int) ≤ 9223372036854775807) ∧ ((((((code / 2 ^ x.toNat).toNat &&& 1 : Nat) : Int) == 1) = true → (out.length = out.length) ∧ ((1 : Nat) = 1) ∧ ((out.length + 1) * 8 ≤ 140737488355328) ∧ (I6 (x + 1)) ∧ (∃ out' : ZI, ∃ x' : Int, (J1V n code out' x') ∧ (J0z n code out' x' < J0z n code out x) ∧ (n = n) ∧ (code = code) ∧ ((out.length + 1) = out'.length) ∧ ((x + 1) = x') ∧ ((out ++ [x]) = out'))) ∧ (((((code / 2 ^ x.toNat).toNat &&& 1 : Nat) : Int) == 1) = false → (I6 (x + 1)) ∧ (∃ out' : ZI, ∃ x' : Int, (J1V n code out' x') ∧ (J0z n code out' x' < J0z n code out x) ∧ (n = n) ∧ (code = code) ∧ (out.length = out'.length) ∧ ((x + 1) = x') ∧ (out = out'))))) ∧ ((decide (x < n)) = false → ((out.length = out.length) ∧ ((out : ZI) = (members (fun k => code.toNat.testBit k) n.toNat)))))))
theorem JaT (n : Int) (code : Int) (hn : 0 ≤ n ∧ n ≤ 62) (hc : 0 ≤ code ∧ code ≤ 4611686018427387903)  : J7Y n code := by
  unfold J7Y
  refine ⟨?_, ?_⟩
  ·refine ⟨([]), 0, ?_⟩
   refine ⟨?_, rfl, rfl, rfl, rfl, ?_⟩
   ·refine ⟨?_, ?_, ?_⟩
    ·omega
    ·omega
    ·rfl
   rfl
  intro out x hJ
  obtain ⟨h1, h2, h3⟩ := hJ
  refine ⟨?_, ?_⟩
  ·intro b1
   try simp only [nrmT] at b1
   refine ⟨?_, ?_, ?_, ?_, ?_, ?_⟩
   ·omega
   ·omega
   ·have h5 : 0 ≤ code / 2 ^ x.toNat := Int.ediv_nonneg hc.1 (Int.le_of_lt (Int.pow_pos (by omega)))
    have h6 : code / 2 ^ x.toNat ≤ code := Int.ediv_le_self _ hc.1
    omega
   ·omega
   ·intro b2
    try simp only [nrmT] at b2
    refine ⟨rfl, rfl, ?_, ?_, ?_⟩
    ·rw [h3]; have := members_len_le (fun k => code.toNat.testBit k) x.toNat; omega
    ·omega
    refine ⟨(out ++ [x]), (x + 1), ?_⟩
    refine ⟨?_, ?_, rfl, rfl, ?_, rfl, rfl⟩
    ·refine ⟨?_, ?_, ?_⟩
     ·omega
     ·omega
     ·have hb := shr_bit (n := code.toNat) (k := x.toNat)
      rw [show ((code.toNat : Nat) : Int) = code by omega] at hb
      have ht : code.toNat.testBit x.toNat = true := by
        cases h : code.toNat.testBit x.toNat with
        | true => rfl
        | false => rw [h] at hb; simp at hb; simp at b2; omega
      rw [h3, show (x + 1).toNat = x.toNat + 1 by omega, members_succ, if_pos ht, show ((x.toNat : Nat) : Int) = x by omega]
    ·(simp only [J0z]; omega)
    simp
   intro b3
   try simp only [nrmT] at b3
   refine ⟨?_, ?_⟩
   ·omega
   refine ⟨out, (x + 1), ?_⟩
   refine ⟨?_, ?_, rfl, rfl, rfl, rfl, rfl⟩
   ·refine ⟨?_, ?_, ?_⟩
    ·omega
    ·omega
    ·have hb := shr_bit (n := code.toNat) (k := x.toNat)
     rw [show ((code.toNat : Nat) : Int) = code by omega] at hb
     have ht : code.toNat.testBit x.toNat = false := by
       cases h : code.toNat.testBit x.toNat with
       | false => rfl
       | true => rw [h] at hb; simp at hb; simp at b3; omega
     rw [h3, show (x + 1).toNat = x.toNat + 1 by omega, members_succ, ht]; simp
   (simp only [J0z]; omega)
  intro b4
  try simp only [nrmT] at b4
  refine ⟨rfl, ?_⟩
  ·rw [h3, show x.toNat = n.toNat by omega]
theorem JaL (n : Int) (code : Int) (hn : 0 ≤ n ∧ n ≤ 62) (hc : 0 ≤ code ∧ code ≤ 4611686018427387903) : PC Tryz.prog 142 [.int .i64 n, .int .i64 code] (.one (.d (.sl (.ints (members (fun k => code.toNat.testBit k) n.toNat))))) :=
  pc_wf @Tryz.call142 fun _ => pc_by (by kernel_rfl) Tryz.func142 @Tryz.call142 (by kernel_rfl) JbU (Jcb n code) (by kernel_rfl) (JaT n code hn hc) (by kernel_rfl)
def Ja8 : List D → Orc := orcN [none, none] fun ds => match ds with
  | [.int .i64 n, .int .i64 code] => some (.one (.d (.sl (.ints (members (fun k => code.toNat.testBit k) n.toNat)))))
  | _ => none
def J7v (f : FuncId) (ds : List D) : Orc := bif Nat.beq f 111 then J43 ds else bif Nat.beq f 132 then J1m ds else .no
def J7J (U : ZI) (E : ZR) (k : Int) : Ann := .none
def J4r (U : ZI) (E : ZR) (k : Int) : Prop :=
  (PC Tryz.prog 111 [.agg [.sl (.ints U), .sl (.rows E)]] (.one (.d (.bool (J0 U E))))) ∧ ((J0 U E) = true → (J0 U E) = true) ∧ ((J0 U E) = true → (J0 U E) = true) ∧ ((J0 U E) = true → (J0 U E) = true) ∧ ((J0 U E) = true → (J0 U E) = true) ∧ ((J0 U E) = true → PC Tryz.prog 132 [.int .i64 k, .int .i64 1, .int .i64 (U.length : Int)] (.one (.d (.bool (inB k 1 (U.length : Int)))))) ∧ (true = true) ∧ (((J0 U E) = true → (J0 U E) = true)) ∧ (((J0 U E) = false → true = true)) ∧ (((cond (J0 U E) (inB k 1 (U.length : Int)) false) = (J0 U E && inB k 1 (U.length : Int))))
theorem J6V (U : ZI) (E : ZR) (k : Int)  (w_Open : (U.length : Int) ≤ 9223372036854775807) (w_Dist : (E.length : Int) ≤ 9223372036854775807) (v_Dist : ∀ x9 ∈ E, (x9.length : Int) ≤ 9223372036854775807) : J4r U E k := by
  unfold J4r
  refine ⟨J4s U E, id, id, id, id, fun _ => J1T k 1 (U.length : Int), rfl, id, fun _ => rfl, ?_⟩
  ·cases J0 U E <;> rfl
theorem J46 (U : ZI) (E : ZR) (k : Int)  : PC Tryz.prog 93 [.agg [.sl (.ints U), .sl (.rows E)], .int .i64 k] (.one (.d (.bool (J0 U E && inB k 1 (U.length : Int))))) :=
  pc_wf @Tryz.call93 fun hw => pc_by (by kernel_rfl) Tryz.func93 @Tryz.call93 (by kernel_rfl) J7v (J7J U E k) (by kernel_rfl) (J6V U E k hw.1.1 hw.1.2.1.1 hw.1.2.1.2) (by kernel_rfl)
def J3T : List D → Orc := orcN [none, none] fun ds => match ds with
  | [.agg [.sl (.ints U), .sl (.rows E)], .int .i64 k] => some (.one (.d (.bool (J0 U E && inB k 1 (U.length : Int)))))
  | _ => none
def JcD (f : FuncId) (ds : List D) : Orc := bif Nat.beq f 112 then J39 ds else bif Nat.beq f 129 then J3d ds else .no
def Jcp (U : ZI) (E : ZR) (k : Int) : Ann := .none
def J9s (U : ZI) (E : ZR) (k : Int) : Prop :=
  (PC Tryz.prog 112 [.agg [.sl (.ints U), .sl (.rows E)]] (.one (.d (.bool (J0 U E))))) ∧ ((J0 U E) = true → (J0 U E) = true) ∧ ((J0 U E) = true → (J0 U E) = true) ∧ ((J0 U E) = true → (J0 U E) = true) ∧ ((J0 U E) = true → (J0 U E) = true) ∧ ((J0 U E) = true → PC Tryz.prog 129 [.int .i64 k, .int .i64 1, .int .i64 (U.length : Int)] (.one (.d (.bool (inB k 1 (U.length : Int)))))) ∧ (true = true) ∧ (((J0 U E) = true → (J0 U E) = true)) ∧ (((J0 U E) = false → true = true)) ∧ (((cond (J0 U E) (inB k 1 (U.length : Int)) false) = (J0 U E && inB k 1 (U.length : Int))))
theorem Jc4 (U : ZI) (E : ZR) (k : Int)  (w_Open : (U.length : Int) ≤ 9223372036854775807) (w_Dist : (E.length : Int) ≤ 9223372036854775807) (v_Dist : ∀ x9 ∈ E, (x9.length : Int) ≤ 9223372036854775807) : J9s U E k := by
  unfold J9s
  refine ⟨J3I U E, id, id, id, id, fun _ => J3Q k 1 (U.length : Int), rfl, id, fun _ => rfl, ?_⟩
  ·cases J0 U E <;> rfl
theorem JbA (U : ZI) (E : ZR) (k : Int)  : PC Tryz.prog 97 [.agg [.sl (.ints U), .sl (.rows E)], .int .i64 k] (.one (.d (.bool (J0 U E && inB k 1 (U.length : Int))))) :=
  pc_wf @Tryz.call97 fun hw => pc_by (by kernel_rfl) Tryz.func97 @Tryz.call97 (by kernel_rfl) JcD (Jcp U E k) (by kernel_rfl) (Jc4 U E k hw.1.1 hw.1.2.1.1 hw.1.2.1.2) (by kernel_rfl)
def Jb3 : List D → Orc := orcN [none, none] fun ds => match ds with
  | [.agg [.sl (.ints U), .sl (.rows E)], .int .i64 k] => some (.one (.d (.bool (J0 U E && inB k 1 (U.length : Int)))))
  | _ => none
def JY (a b : Int) : Int := if a < b then -1 else if a > b then 1 else 0
def Jt : ZI → ZI → Int
  | [], [] => 0
  | [], _ :: _ => -1
  | _ :: _, [] => 1
  | x :: r, y :: s => if x < y then -1 else if x > y then 1 else Jt r s
theorem J4L {xs ys : ZI} {i : Nat} (h : Jt xs ys = Jt (xs.drop i) (ys.drop i)) (h1 : i < xs.length) (h2 : i < ys.length) :
    Jt xs ys = if xs.getD i 0 < ys.getD i 0 then -1 else if xs.getD i 0 > ys.getD i 0 then 1 else Jt (xs.drop (i + 1)) (ys.drop (i + 1)) := by
  rw [h, List.drop_eq_getElem_cons h1, List.drop_eq_getElem_cons h2, Js h1, Js h2]
  rfl
theorem JbH {xs ys : ZI} {i : Nat} (h : Jt xs ys = Jt (xs.drop i) (ys.drop i)) (h1 : i < xs.length) (h2 : ys.length ≤ i) : Jt xs ys = 1 := by
  rw [h, List.drop_eq_getElem_cons h1, List.drop_eq_nil_of_le h2]
  rfl
theorem J7I {xs ys : ZI} {i : Nat} (h : Jt xs ys = Jt (xs.drop i) (ys.drop i)) (h1 : xs.length ≤ i) (h2 : i ≤ ys.length) (h3 : i = xs.length) : Jt xs ys = if xs.length < ys.length then -1 else 0 := by
  rw [h, List.drop_eq_nil_of_le h1]
  by_cases e : xs.length < ys.length
  · rw [if_pos e, List.drop_eq_getElem_cons (by omega)]
    rfl
  rw [if_neg e, List.drop_eq_nil_of_le (by omega)]
  rfl
def J7m (f : FuncId) (ds : List D) : Orc := .no
def J7x (x : Int) : Ann := .none
def J4n (x : Int) : Prop :=
  (((x != x) = false))
theorem J6G (x : Int)   : J4n x := by
  unfold J4n
  simp
theorem J47 (x : Int)  : PC Tryz.prog 236 [.int .i64 x] (.one (.d (.bool false))) :=
  pc_wf @Tryz.call236 fun _ => pc_by (by kernel_rfl) Tryz.func236 @Tryz.call236 (by kernel_rfl) J7m (J7x x) (by kernel_rfl) (J6G x) (by kernel_rfl)
def J65 : List D → Orc := orcN [none] fun ds => match ds with
  | [.int .i64 x] => some (.one (.d (.bool false)))
  | _ => none
def J6b (f : FuncId) (ds : List D) : Orc := bif Nat.beq f 236 then J65 ds else .no
def J66 (a : Int) (b : Int) : Ann := .two (.none) (.two (.none) (.two (.none) (.two (.two (.none) (.goF (.none))) (.two (.two (.none) (.goF (.none))) (.none)))))
def J3S (a : Int) (b : Int) : Prop :=
  (PC Tryz.prog 236 [.int .i64 a] (.one (.d (.bool false)))) ∧ (PC Tryz.prog 236 [.int .i64 b] (.one (.d (.bool false)))) ∧ (false = false) ∧ (false = false) ∧ (((decide (a < b)) = true → ((((-1) : Int) = (JY a b)))) ∧ ((decide (a < b)) = false → (((decide (a > b)) = true → (((1 : Int) = (JY a b)))) ∧ ((decide (a > b)) = false → (((0 : Int) = (JY a b)))))))
theorem J5A (a : Int) (b : Int)   : J3S a b := by
  unfold J3S
  refine ⟨J47 a, J47 b, rfl, rfl, ?_, ?_⟩
  ·intro b1
   try simp only [nrmT] at b1
   unfold JY; first | rw [if_pos (by omega)] | rw [if_neg (by omega), if_pos (by omega)] | rw [if_neg (by omega), if_neg (by omega)]
  intro b2
  try simp only [nrmT] at b2
  refine ⟨?_, ?_⟩
  ·intro b3
   try simp only [nrmT] at b3
   unfold JY; first | rw [if_pos (by omega)] | rw [if_neg (by omega), if_pos (by omega)] | rw [if_neg (by omega), if_neg (by omega)]
  intro b4
  try simp only [nrmT] at b4
  unfold JY; first | rw [if_pos (by omega)] | rw [if_neg (by omega), if_pos (by omega)] | rw [if_neg (by omega), if_neg (by omega)]
theorem J1x (a : Int) (b : Int)  : PC Tryz.prog 216 [.int .i64 a, .int .i64 b] (.one (.d (.int .i64 (JY a b)))) :=
  pc_wf @Tryz.call216 fun _ => pc_by (by kernel_rfl) Tryz.func216 @Tryz.call216 (by kernel_rfl) J6b (J66 a b) (by kernel_rfl) (J5A a b) (by kernel_rfl)
def J1j : List D → Orc := orcN [none, none] fun ds => match ds with
  | [.int .i64 a, .int .i64 b] => some (.one (.d (.int .i64 (JY a b))))
  | _ => none
abbrev JS (xs : ZI) (ys : ZI) (i : Int) : Prop := (0 ≤ i) ∧ (i ≤ (xs.length : Int)) ∧ (i ≤ (ys.length : Int)) ∧ (Jt xs ys = Jt (xs.drop i.toNat) (ys.drop i.toNat))
abbrev JT (xs : ZI) (ys : ZI) (i : Int) : Nat := (xs.length - i).toNat
def J4j (f : FuncId) (ds : List D) : Orc := bif Nat.beq f 216 then J1j ds else .no
def J4f (xs : ZI) (ys : ZI) : Ann := .two (.none) (.two (.two (.none) (.loop (cut1 (fun (i : Int) => JS xs ys i) (fun (i : Int) => [(0, .d false (.sl (.ints xs))), (1, .d false (.sl (.ints ys))), (9, .d false (.sl (.ints xs))), (10, .d true (.int .i64 (xs.length : Int))), (11, .d true (.int .i64 i))]) (fun (i : Int) => [])) (fun g => JT xs ys g) (fun _ => .none))) (.none))
def J1J (xs : ZI) (ys : ZI) : Prop :=
  ((∃ i' : Int, (JS xs ys i') ∧ (xs = xs) ∧ (ys = ys) ∧ (xs = xs) ∧ ((xs.length : Int) = (xs.length : Int)) ∧ ((0 : Int) = i')) ∧ (∀ i : Int, (JS xs ys i) → (((decide (i < (xs.length : Int))) = true → ((0 : Int) ≤ i) ∧ ((i : Int) < xs.length) ∧ (i.toNat < xs.length) ∧ (((decide (i ≥ (ys.length : Int))) = true → (((1 : Int) = (Jt xs ys)))) ∧ ((decide (i ≥ (ys.length : Int))) = false → ((0 : Int) ≤ i) ∧ ((i : Int) < ys.length) ∧ (i.toNat < ys.length) ∧ (PC Tryz.prog 216 [.int .i64 (xs.getD i.toNat 0), .int .i64 (ys.getD i.toNat 0)] (.one (.d (.int .i64 (JY (xs.getD i.toNat 0) (ys.getD i.toNat 0)))))) ∧ ((((JY (xs.getD i.toNat 0) (ys.getD i.toNat 0)) != 0) = true → (((JY (xs.getD i.toNat 0) (ys.getD i.toNat 0)) = (Jt xs ys)))) ∧ (((JY (xs.getD i.toNat 0) (ys.getD i.toNat 0)) != 0) = false → (I6 (i + 1)) ∧ (∃ i' : Int, (JS xs ys i') ∧ (JT xs ys i' < JT xs ys i) ∧ (xs = xs) ∧ (ys = ys) ∧ (xs = xs) ∧ ((xs.length : Int) = (xs.length : Int)) ∧ ((i + 1) = i'))))))) ∧ ((decide (i < (xs.length : Int))) = false → (((decide ((xs.length : Int) < (ys.length : Int))) = true → ((((-1) : Int) = (Jt xs ys)))) ∧ ((decide ((xs.length : Int) < (ys.length : Int))) = false → (((0 : Int) = (Jt xs ys)))))))))
theorem J41 (xs : ZI) (ys : ZI)  (w_xs : (xs.length : Int) ≤ 9223372036854775807) (w_ys : (ys.length : Int) ≤ 9223372036854775807) : J1J xs ys := by
  unfold J1J
  refine ⟨?_, ?_⟩
  ·refine ⟨0, ?_⟩
   refine ⟨?_, rfl, rfl, rfl, rfl, rfl⟩
   ·refine ⟨?_, ?_, ?_, ?_⟩
    ·omega
    ·omega
    ·omega
    ·rfl
  intro i hJ
  obtain ⟨h1, h2, h2y, h3⟩ := hJ
  refine ⟨?_, ?_⟩
  ·intro b1
   try simp only [nrmT] at b1
   refine ⟨?_, ?_, ?_, ?_, ?_⟩
   ·omega
   ·omega
   ·omega
   ·intro b2
    try simp only [nrmT] at b2
    exact (JbH h3 (by omega) (by omega)).symm
   intro b3
   try simp only [nrmT] at b3
   refine ⟨?_, ?_, ?_, J1x (xs.getD i.toNat 0) (ys.getD i.toNat 0), ?_, ?_⟩
   ·omega
   ·omega
   ·omega
   ·intro b4
    try simp only [nrmT] at b4
    rw [J4L h3 (by omega) (by omega)]
    unfold JY at b4 ⊢
    by_cases h5 : xs.getD i.toNat 0 < ys.getD i.toNat 0
    · rw [if_pos h5, if_pos h5]
    rw [if_neg h5] at b4 ⊢
    by_cases h6 : xs.getD i.toNat 0 > ys.getD i.toNat 0
    · rw [if_pos h6, if_neg h5, if_pos h6]
    rw [if_neg h6] at b4; omega
   intro b5
   try simp only [nrmT] at b5
   refine ⟨?_, ?_⟩
   ·omega
   refine ⟨(i + 1), ?_⟩
   refine ⟨?_, ?_, rfl, rfl, rfl, rfl, rfl⟩
   ·refine ⟨?_, ?_, ?_, ?_⟩
    ·omega
    ·omega
    ·omega
    ·have h7 := J4L h3 (by omega) (by omega)
     unfold JY at b5
     rw [h7, show (i + 1).toNat = i.toNat + 1 by omega]
     by_cases h5 : xs.getD i.toNat 0 < ys.getD i.toNat 0
     · rw [if_pos h5] at b5; omega
     rw [if_neg h5] at b5 ⊢
     by_cases h6 : xs.getD i.toNat 0 > ys.getD i.toNat 0
     · rw [if_pos h6] at b5; omega
     rw [if_neg h6]
   (simp only [JT]; omega)
  intro b6
  try simp only [nrmT] at b6
  refine ⟨?_, ?_⟩
  ·intro b7
   try simp only [nrmT] at b7
   rw [J7I h3 (by omega) (by omega) (by omega), if_pos (by omega)]
  intro b8
  try simp only [nrmT] at b8
  rw [J7I h3 (by omega) (by omega) (by omega), if_neg (by omega)]
theorem J42 (xs : ZI) (ys : ZI)  : PC Tryz.prog 198 [.sl (.ints xs), .sl (.ints ys)] (.one (.d (.int .i64 (Jt xs ys)))) :=
  pc_wf @Tryz.call198 fun hw => pc_by (by kernel_rfl) Tryz.func198 @Tryz.call198 (by kernel_rfl) J4j (J4f xs ys) (by kernel_rfl) (J41 xs ys hw.1 hw.2.1) (by kernel_rfl)
def J3P : List D → Orc := orcN [some .ints, some .ints] fun ds => match ds with
  | [.sl (.ints xs), .sl (.ints ys)] => some (.one (.d (.int .i64 (Jt xs ys))))
  | _ => none
def lst (n code : Nat) : ZI := members (fun k => code.testBit k) n
theorem Jds {n code : Nat} : ∀ x ∈ lst n code, 0 ≤ x ∧ x < (n : Int) := fun x hx => by
  have := mem_members.1 hx
  omega
theorem Jde {n code : Nat} : (lst n code).length ≤ n := members_len_le _ _
theorem Jbm (n : Nat) : (1 : Int) * 2 ^ ((n : Int)).toNat = ((2 ^ n : Nat) : Int) := by
  rw [Int.toNat_natCast]; simp
theorem JcZ {n k : Nat} (h : k < n) : (J5r n).getD k 0 = (k : Int) := by
  unfold J5r members
  have e : (List.range n).filter (fun _ => true) = List.range n := List.filter_eq_self.2 fun _ _ => rfl
  rw [e]
  simp [h]
theorem J5i (n : Nat) : (J5r n).length = n := by
  unfold J5r members
  have e : (List.range n).filter (fun _ => true) = List.range n := List.filter_eq_self.2 fun _ _ => rfl
  rw [e]; simp
def Jv (a b : ZI) : Int := if JY (a.length : Int) (b.length : Int) = 0 then Jt a b else JY (a.length : Int) (b.length : Int)
theorem J7f {a b : Int} : JY a b < 0 ↔ a < b := by unfold JY; split <;> (try split) <;> omega
theorem J9m {a b : Int} : JY a b = 0 ↔ a = b := by unfold JY; split <;> (try split) <;> omega
theorem J9d : ∀ x : ZI, Jt x x = 0
  | [] => rfl
  | x :: r => by unfold Jt; rw [if_neg (by omega), if_neg (by omega)]; exact J9d r
theorem J9o : ∀ {x y : ZI}, Jt x y = 0 → x = y
  | [], [], _ => rfl
  | [], _ :: _, h => by simp [Jt] at h
  | _ :: _, [], h => by simp [Jt] at h
  | x :: r, y :: s, h => by
    unfold Jt at h
    by_cases h1 : x < y
    · rw [if_pos h1] at h; omega
    rw [if_neg h1] at h
    by_cases h2 : x > y
    · rw [if_pos h2] at h; omega
    rw [if_neg h2] at h
    have : x = y := by omega
    rw [this, J9o h]
theorem J9j : ∀ {x y : ZI}, Jt x y < 0 ↔ 0 < Jt y x
  | [], [] => by simp [Jt]
  | [], _ :: _ => by simp [Jt]
  | _ :: _, [] => by simp [Jt]
  | x :: r, y :: s => by
    unfold Jt
    by_cases h1 : x < y
    · rw [if_pos h1, if_neg (by omega), if_pos (by omega)]; omega
    rw [if_neg h1]
    by_cases h2 : x > y
    · rw [if_pos h2, if_pos (by omega)]; omega
    rw [if_neg h2, if_neg (by omega), if_neg (by omega)]; exact J9j
theorem Jbf : ∀ {x y z : ZI}, Jt x y < 0 → Jt y z < 0 → Jt x z < 0
  | [], _, [], h1, h2 => by
    exfalso
    rename_i y
    cases y with
    | nil => simp [Jt] at h1
    | cons y s => simp [Jt] at h2
  | [], _, _ :: _, _, _ => by simp [Jt]
  | _ :: _, [], _, h, _ => by simp [Jt] at h
  | _ :: _, _ :: _, [], _, h => by simp [Jt] at h
  | x :: r, y :: s, z :: t, h1, h2 => by
    unfold Jt at h1 h2 ⊢
    by_cases a1 : x < y
    · by_cases a2 : y < z
      · rw [if_pos (by omega)]; omega
      · rw [if_neg a2] at h2
        by_cases a3 : y > z
        · rw [if_pos a3] at h2; omega
        rw [if_pos (by omega)]; omega
    rw [if_neg a1] at h1
    by_cases a4 : x > y
    · rw [if_pos a4] at h1; omega
    rw [if_neg a4] at h1
    by_cases a2 : y < z
    · rw [if_pos (by omega)]; omega
    rw [if_neg a2] at h2
    by_cases a3 : y > z
    · rw [if_pos a3] at h2; omega
    rw [if_neg a3] at h2
    rw [if_neg (by omega), if_neg (by omega)]
    exact Jbf h1 h2
theorem J03 (a b : ZI) : (a.length < b.length ∧ Jv a b < 0) ∨ (b.length < a.length ∧ 0 < Jv a b) ∨ (a.length = b.length ∧ Jv a b = Jt a b) := by
  unfold Jv JY
  by_cases h1 : (a.length : Int) < b.length
  · rw [if_pos h1]; left; exact ⟨by omega, by rw [if_neg (by omega)]; omega⟩
  rw [if_neg h1]
  by_cases h2 : (a.length : Int) > b.length
  · rw [if_pos h2]; right; left; exact ⟨by omega, by rw [if_neg (by omega)]; omega⟩
  rw [if_neg h2]; right; right; exact ⟨by omega, by rw [if_pos rfl]⟩
theorem J9i (a : ZI) : Jv a a = 0 := by
  rcases J03 a a with h | h | h
  · omega
  · omega
  rw [h.2, J9d]
theorem J95 {a b : ZI} (h : Jv a b = 0) : a = b := by
  rcases J03 a b with h1 | h1 | h1
  · omega
  · omega
  exact J9o (h1.2 ▸ h)
theorem J4H {a b : ZI} : Jv a b < 0 ↔ 0 < Jv b a := by
  rcases J03 a b with h1 | h1 | h1 <;> rcases J03 b a with h2 | h2 | h2
  · omega
  · omega
  · omega
  · omega
  · omega
  · omega
  · omega
  · omega
  rw [h1.2, h2.2]; exact J9j
theorem Jbh {a b c : ZI} (h : Jv a b < 0) (k : Jv b c < 0) : Jv a c < 0 := by
  rcases J03 a b with h1 | h1 | h1 <;> rcases J03 b c with h2 | h2 | h2 <;> rcases J03 a c with h3 | h3 | h3
  all_goals first | omega | (rw [h3.2]; exact Jbf (h1.2 ▸ h) (h2.2 ▸ k))
theorem J9Z {β : Type} {c : β → β → Int} (hs : ∀ x, c x x = 0) (h0 : ∀ {x y}, c x y = 0 → x = y) (hf : ∀ {x y}, c x y < 0 ↔ 0 < c y x) (ht : ∀ {x y z}, c x y < 0 → c y z < 0 → c x z < 0) :
    Go.Sort.SWO (ltOf c) ∧ ∀ x y, ltOf c x y = false → ltOf c y x = false → x = y := by
  refine ⟨⟨fun x => ?_, fun x y z h1 h2 => ?_, fun x y z h1 h2 => ?_⟩, fun x y h1 h2 => ?_⟩
  · exact decide_eq_false (by rw [hs]; omega)
  · exact decide_eq_true (ht (of_decide_eq_true h1) (of_decide_eq_true h2))
  · have h1 := of_decide_eq_false h1
    have h2 := of_decide_eq_false h2
    refine decide_eq_false fun h3 => ?_
    by_cases e1 : c x y = 0
    · rw [h0 e1] at h3; omega
    by_cases e2 : c y z = 0
    · rw [← h0 e2] at h3; omega
    · have a1 : c y x < 0 := hf.2 (by omega)
      have a2 : c z y < 0 := hf.2 (by omega)
      have a3 := ht a2 a1
      have a4 := hf.1 h3
      omega
  have h1 := of_decide_eq_false h1
  have h2 := of_decide_eq_false h2
  refine h0 ?_
  by_cases e1 : 0 < c x y
  · have := hf.2 e1; omega
  omega
theorem Jbw : Go.Sort.SWO (ltOf Jv) := (J9Z J9i J95 J4H Jbh).1
theorem Jdq : ∀ x y, ltOf Jv x y = false → ltOf Jv y x = false → x = y := (J9Z J9i J95 J4H Jbh).2
def orI : ZI → Int
  | [] => 0
  | x :: r => if x = 0 then orI r else x
theorem Jae {xs : ZI} {i : Nat} (h : orI xs = orI (xs.drop i)) (hi : i < xs.length) : orI xs = if xs.getD i 0 = 0 then orI (xs.drop (i + 1)) else xs.getD i 0 := by
  rw [h, List.drop_eq_getElem_cons hi, Js hi]; rfl
theorem Jdi {xs : ZI} {i : Nat} (h : orI xs = orI (xs.drop i)) (hi : xs.length ≤ i) : orI xs = 0 := by
  rw [h, List.drop_eq_nil_of_le hi]; rfl
theorem Jdk (a b : Int) : orI [a, b] = if a = 0 then b else a := by
  unfold orI orI orI
  by_cases h : b = 0
  · rw [if_pos h, h]
  rw [if_neg h]
def J3c (n m : Nat) : ZR := (List.range m).map fun c => lst n (c + 1)
def J5 (n : Nat) : ZR := (J3c n (2 ^ n - 1)).mergeSort fun x9 y9 => !(ltOf Jv) y9 x9
theorem J10 (n m : Nat) : (J3c n m).length = m := by simp [J3c]
theorem J98 (n : Nat) : (J5 n).length = 2 ^ n - 1 := by unfold J5; rw [List.length_mergeSort, J10]
theorem J96 (n m : Nat) : J3c n (m + 1) = J3c n m ++ [lst n (m + 1)] := by simp [J3c, List.range_succ]
theorem J6a {n : Nat} {s : ZI} : s ∈ J5 n ↔ ∃ c, 1 ≤ c ∧ c < 2 ^ n ∧ lst n c = s := by
  unfold J5
  rw [(List.mergeSort_perm _ _).mem_iff, J3c, List.mem_map]
  constructor
  · rintro ⟨c, hc, rfl⟩
    have := List.mem_range.1 hc
    exact ⟨c + 1, by omega, by omega, rfl⟩
  rintro ⟨c, h1, h2, rfl⟩
  exact ⟨c - 1, List.mem_range.2 (by omega), by rw [show c - 1 + 1 = c by omega]⟩
theorem Jdc {n c : Nat} (h1 : 1 ≤ c) (h2 : c < 2 ^ n) : 0 < (lst n c).length := by
  rcases Nat.eq_zero_or_pos (lst n c).length with h | h
  · exfalso
    have e : lst n c = [] := List.eq_nil_of_length_eq_zero h
    have : c = 0 := by
      apply Nat.eq_of_testBit_eq
      intro i
      rw [Nat.zero_testBit]
      by_cases hi : i < n
      · cases hb : c.testBit i with
        | false => rfl
        | true =>
          have hm : (i : Int) ∈ lst n c := mem_members.2 ⟨by omega, by omega, by rw [Int.toNat_natCast]; exact hb⟩
          rw [e] at hm; cases hm
      exact Nat.testBit_lt_two_pow (Nat.lt_of_lt_of_le h2 (Nat.pow_le_pow_right (by omega) (by omega)))
    omega
  exact h
theorem Jdr {n c : Nat} (hn : n ≤ 62) (h : c < 2 ^ n) : members (fun k => c.testBit k) 62 = lst n c :=
  J30 (fun k hk => Nat.testBit_lt_two_pow (Nat.lt_of_lt_of_le h (Nat.pow_le_pow_right (by omega) hk))) 62 hn
theorem Jbt {out : ZR} {s : ZI} {k : Nat} (ho : out.Pairwise fun x9 y9 => ltOf Jv y9 x9 = false) (hk : k ≤ out.length) (h1 : ∀ j, k ≤ j → j < out.length → Jv s (out.getD j []) < 0) (h2 : k = 0 ∨ ¬ Jv s (out.getD (k - 1) []) < 0) :
    ((out.take k ++ [s]) ++ out.drop k).Pairwise fun x9 y9 => ltOf Jv y9 x9 = false := by
  have hle : ∀ x ∈ out.take k, ltOf Jv s x = false := by
    intro x hx
    obtain ⟨j, hj, rfl⟩ := List.mem_iff_getElem.1 hx
    have hj' : j < k ∧ j < out.length := by rw [List.length_take] at hj; omega
    rcases h2 with h2 | h2
    · omega
    have hs : ltOf Jv s (out.getD (k - 1) []) = false := decide_eq_false h2
    by_cases e : j = k - 1
    · subst e; rw [Js (by omega)] at hs; simpa using hs
    have := List.pairwise_iff_getElem.1 ho j (k - 1) (by omega) (by omega) (by omega)
    rw [Js (by omega)] at hs
    simpa using Jbw.ntrans _ _ _ hs this
  have hgt : ∀ y ∈ out.drop k, ltOf Jv y s = false := by
    intro y hy
    obtain ⟨j, hj, rfl⟩ := List.mem_iff_getElem.1 hy
    have hj' : k + j < out.length := by rw [List.length_drop] at hj; omega
    have := h1 (k + j) (by omega) hj'
    rw [Js hj'] at this
    rw [List.getElem_drop]
    refine decide_eq_false fun h => ?_
    have := J4H.1 h
    omega
  refine List.pairwise_append.2 ⟨List.pairwise_append.2 ⟨ho.sublist (List.take_sublist _ _), by simp, fun a ha b hb => ?_⟩, ho.sublist (List.drop_sublist _ _), fun a ha b hb => ?_⟩
  · have : b = s := by simpa using hb
    subst this; exact hle a ha
  rcases List.mem_append.1 ha with ha | ha
  · obtain ⟨i, hi, rfl⟩ := List.mem_iff_getElem.1 ha
    obtain ⟨j, hj, rfl⟩ := List.mem_iff_getElem.1 hb
    have hi' : i < k ∧ i < out.length := by rw [List.length_take] at hi; omega
    have hj' : k + j < out.length := by rw [List.length_drop] at hj; omega
    have := List.pairwise_iff_getElem.1 ho i (k + j) hi'.2 hj' (by omega)
    simpa using this
  · have : a = s := by simpa using ha
    subst this; exact hgt b hb
theorem Jd0 {out : ZR} {s : ZI} {n m k : Nat} (hp : out.Perm (J3c n m)) (hs : s = lst n (m + 1)) : ((out.take k ++ [s]) ++ out.drop k).Perm (J3c n (m + 1)) := by
  rw [J96, ← hs, List.append_assoc]
  refine List.Perm.trans (List.perm_append_comm_assoc _ _ _) ?_
  refine List.Perm.trans ?_ (List.perm_append_comm)
  rw [List.take_append_drop]
  exact hp.append_left [s]
theorem Jcy {out : ZR} {n m : Nat} (hp : out.Perm (J3c n m)) (hm : m = 2 ^ n - 1) (ho : out.Pairwise fun x9 y9 => ltOf Jv y9 x9 = false) : out = J5 n := by
  subst hm
  exact sortedBy_unique Jbw Jdq hp ho
abbrev J1D (xs : ZI) (i : Int) : Prop := (0 ≤ i) ∧ (i ≤ (xs.length : Int)) ∧ (orI xs = orI (xs.drop i.toNat))
abbrev J1K (xs : ZI) (i : Int) : Nat := (xs.length - i).toNat
def J9J (f : FuncId) (ds : List D) : Orc := .no
def J9U (xs : ZI) : Ann := .two (.none) (.two (.none) (.two (.two (.none) (.loop (cut1 (fun (i : Int) => J1D xs i) (fun (i : Int) => [(3, .d true (.int .i64 0)), (6, .d false (.sl (.ints xs))), (7, .d true (.int .i64 (xs.length : Int))), (8, .d true (.int .i64 i))]) (fun (i : Int) => [])) (fun g => J1K xs g) (fun _ => .none))) (.none)))
def J5t (xs : ZI) : Prop :=
  ((∃ i' : Int, (J1D xs i') ∧ ((0 : Int) = 0) ∧ (xs = xs) ∧ ((xs.length : Int) = (xs.length : Int)) ∧ ((0 : Int) = i')) ∧ (∀ i : Int, (J1D xs i) → (((decide (i < (xs.length : Int))) = true → ((0 : Int) ≤ i) ∧ ((i : Int) < xs.length) ∧ (i.toNat < xs.length) ∧ ((((xs.getD i.toNat 0) != 0) = true → (((xs.getD i.toNat 0) = (orI xs)))) ∧ (((xs.getD i.toNat 0) != 0) = false → (I6 (i + 1)) ∧ (∃ i' : Int, (J1D xs i') ∧ (J1K xs i' < J1K xs i) ∧ ((0 : Int) = 0) ∧ (xs = xs) ∧ ((xs.length : Int) = (xs.length : Int)) ∧ ((i + 1) = i'))))) ∧ ((decide (i < (xs.length : Int))) = false → (((0 : Int) = (orI xs)))))))
theorem J8Y (xs : ZI)  (w_xs : (xs.length : Int) ≤ 9223372036854775807) : J5t xs := by
  unfold J5t
  refine ⟨?_, ?_⟩
  ·refine ⟨0, ?_⟩
   refine ⟨?_, rfl, rfl, rfl, rfl⟩
   ·refine ⟨?_, ?_, ?_⟩
    ·omega
    ·omega
    ·rfl
  intro i hJ
  obtain ⟨h1, h2, h3⟩ := hJ
  refine ⟨?_, ?_⟩
  ·intro b1
   try simp only [nrmT] at b1
   refine ⟨?_, ?_, ?_, ?_, ?_⟩
   ·omega
   ·omega
   ·omega
   ·intro b2
    try simp only [nrmT] at b2
    rw [Jae h3 (by omega), if_neg (by omega)]
   intro b3
   try simp only [nrmT] at b3
   refine ⟨?_, ?_⟩
   ·omega
   refine ⟨(i + 1), ?_⟩
   refine ⟨?_, ?_, rfl, rfl, rfl, rfl⟩
   ·refine ⟨?_, ?_, ?_⟩
    ·omega
    ·omega
    ·rw [Jae h3 (by omega), if_pos (by omega), show (i + 1).toNat = i.toNat + 1 by omega]
   (simp only [J1K]; omega)
  intro b4
  try simp only [nrmT] at b4
  exact (Jdi h3 (by omega)).symm
theorem J8C (xs : ZI)  : PC Tryz.prog 231 [.sl (.ints xs)] (.one (.d (.int .i64 (orI xs)))) :=
  pc_wf @Tryz.call231 fun hw => pc_by (by kernel_rfl) Tryz.func231 @Tryz.call231 (by kernel_rfl) J9J (J9U xs) (by kernel_rfl) (J8Y xs hw.1) (by kernel_rfl)
def J85 : List D → Orc := orcN [some .ints] fun ds => match ds with
  | [.sl (.ints xs)] => some (.one (.d (.int .i64 (orI xs))))
  | _ => none
def J84 (f : FuncId) (ds : List D) : Orc := bif Nat.beq f 216 then J1j ds else bif Nat.beq f 198 then J3P ds else bif Nat.beq f 231 then J85 ds else .no
def J8x (xs : ZI) (ys : ZI) : Ann := .none
def J4Q (xs : ZI) (ys : ZI) : Prop :=
  (PC Tryz.prog 216 [.int .i64 (xs.length : Int), .int .i64 (ys.length : Int)] (.one (.d (.int .i64 (JY (xs.length : Int) (ys.length : Int)))))) ∧ (PC Tryz.prog 198 [.sl (.ints xs), .sl (.ints ys)] (.one (.d (.int .i64 (Jt xs ys))))) ∧ ((2 : Nat) = 2) ∧ (PC Tryz.prog 231 [.sl (.ints ([(JY (xs.length : Int) (ys.length : Int)), (Jt xs ys)]))] (.one (.d (.int .i64 (orI ([(JY (xs.length : Int) (ys.length : Int)), (Jt xs ys)])))))) ∧ (((orI ([(JY (xs.length : Int) (ys.length : Int)), (Jt xs ys)])) = (Jv xs ys)))
theorem J7D (xs : ZI) (ys : ZI)  (w_xs : (xs.length : Int) ≤ 9223372036854775807) (w_ys : (ys.length : Int) ≤ 9223372036854775807) : J4Q xs ys := by
  unfold J4Q
  refine ⟨J1x (xs.length : Int) (ys.length : Int), J42 xs ys, rfl, J8C ([(JY (xs.length : Int) (ys.length : Int)), (Jt xs ys)]), ?_⟩
  ·rw [Jdk]; rfl
theorem J7G (xs : ZI) (ys : ZI)  : PC Tryz.prog 205 [.sl (.ints xs), .sl (.ints ys)] (.one (.d (.int .i64 (Jv xs ys)))) :=
  pc_wf @Tryz.call205 fun hw => pc_by (by kernel_rfl) Tryz.func205 @Tryz.call205 (by kernel_rfl) J84 (J8x xs ys) (by kernel_rfl) (J7D xs ys hw.1 hw.2.1) (by kernel_rfl)
abbrev J23 (xs : ZI) (ys : ZI) (i : Int) : Prop := (0 ≤ i) ∧ (i ≤ (xs.length : Int)) ∧ (xs.length = ys.length) ∧ (Jt xs ys = Jt (xs.drop i.toNat) (ys.drop i.toNat))
abbrev J1Z (xs : ZI) (ys : ZI) (i : Int) : Nat := (xs.length - i).toNat
def Jak (f : FuncId) (ds : List D) : Orc := .no
def JaA (xs : ZI) (ys : ZI) : Ann := .two (.none) (.two (.none) (.two (.two (.none) (.loop (cut1 (fun (i : Int) => J23 xs ys i) (fun (i : Int) => [(0, .d false (.sl (.ints xs))), (1, .d false (.sl (.ints ys))), (5, .d true (.int .i64 i))]) (fun (i : Int) => [])) (fun g => J1Z xs ys g) (fun _ => .none))) (.none)))
def J5Z (xs : ZI) (ys : ZI) : Prop :=
  ((((xs.length : Int) != (ys.length : Int)) = true → (((decide ((xs.length : Int) < (ys.length : Int))) = (decide (Jv xs ys < 0))))) ∧ (((xs.length : Int) != (ys.length : Int)) = false → ((∃ i' : Int, (J23 xs ys i') ∧ (xs = xs) ∧ (ys = ys) ∧ ((0 : Int) = i')) ∧ (∀ i : Int, (J23 xs ys i) → (((decide (i < (xs.length : Int))) = true → (true = true) ∧ ((0 : Int) ≤ i) ∧ ((i : Int) < xs.length) ∧ (i.toNat < xs.length) ∧ ((0 : Int) ≤ i) ∧ ((i : Int) < ys.length) ∧ (i.toNat < ys.length) ∧ ((((xs.getD i.toNat 0) != (ys.getD i.toNat 0)) = true → (true = true) ∧ ((0 : Int) ≤ i) ∧ ((i : Int) < xs.length) ∧ (i.toNat < xs.length) ∧ ((0 : Int) ≤ i) ∧ ((i : Int) < ys.length) ∧ (i.toNat < ys.length) ∧ (((decide ((xs.getD i.toNat 0) < (ys.getD i.toNat 0))) = (decide (Jv xs ys < 0))))) ∧ (((xs.getD i.toNat 0) != (ys.getD i.toNat 0)) = false → (I6 (i + 1)) ∧ (∃ i' : Int, (J23 xs ys i') ∧ (J1Z xs ys i' < J1Z xs ys i) ∧ (xs = xs) ∧ (ys = ys) ∧ ((i + 1) = i'))))) ∧ ((decide (i < (xs.length : Int))) = false → ((false = (decide (Jv xs ys < 0))))))))))
theorem J9M (xs : ZI) (ys : ZI)  (w_xs : (xs.length : Int) ≤ 9223372036854775807) (w_ys : (ys.length : Int) ≤ 9223372036854775807) : J5Z xs ys := by
  unfold J5Z
  refine ⟨?_, ?_⟩
  ·intro b1
   try simp only [nrmT] at b1
   rcases J03 xs ys with h | h | h
   · rw [decide_eq_true h.2, decide_eq_true (by omega)]
   · rw [decide_eq_false (by omega), decide_eq_false (by omega)]
   omega
  intro b2
  try simp only [nrmT] at b2
  refine ⟨?_, ?_⟩
  ·refine ⟨0, ?_⟩
   refine ⟨?_, rfl, rfl, rfl⟩
   ·refine ⟨?_, ?_, ?_, ?_⟩
    ·omega
    ·omega
    ·omega
    ·rfl
  intro i hJ
  obtain ⟨h1, h2, hl, h3⟩ := hJ
  refine ⟨?_, ?_⟩
  ·intro b3
   try simp only [nrmT] at b3
   refine ⟨rfl, ?_, ?_, ?_, ?_, ?_, ?_, ?_, ?_⟩
   ·omega
   ·omega
   ·omega
   ·omega
   ·omega
   ·omega
   ·intro b4
    try simp only [nrmT] at b4
    refine ⟨rfl, ?_, ?_, ?_, ?_, ?_, ?_, ?_⟩
    ·omega
    ·omega
    ·omega
    ·omega
    ·omega
    ·omega
    have h5 : Jv xs ys = Jt xs ys := by rcases J03 xs ys with h | h | h <;> first | omega | exact h.2
    rw [h5, J4L h3 (by omega) (by omega)]
    by_cases h6 : xs.getD i.toNat 0 < ys.getD i.toNat 0
    · rw [if_pos h6, decide_eq_true h6]; rfl
    rw [if_neg h6, if_pos (by omega), decide_eq_false h6]; rfl
   intro b5
   try simp only [nrmT] at b5
   refine ⟨?_, ?_⟩
   ·omega
   refine ⟨(i + 1), ?_⟩
   refine ⟨?_, ?_, rfl, rfl, rfl⟩
   ·refine ⟨?_, ?_, ?_, ?_⟩
    ·omega
    ·omega
    ·exact hl
    ·rw [J4L h3 (by omega) (by omega), show (i + 1).toNat = i.toNat + 1 by omega, if_neg (by omega), if_neg (by omega)]
   (simp only [J1Z]; omega)
  intro b6
  try simp only [nrmT] at b6
  have h5 : Jv xs ys = Jt xs ys := by rcases J03 xs ys with h | h | h <;> first | omega | exact h.2
  rw [h5, J7I h3 (by omega) (by omega) (by omega), if_neg (by omega)]; rfl
theorem J9D (xs : ZI) (ys : ZI)  : PC Tryz.prog 211 [.sl (.ints xs), .sl (.ints ys)] (.one (.d (.bool (decide (Jv xs ys < 0))))) :=
  pc_wf @Tryz.call211 fun hw => pc_by (by kernel_rfl) Tryz.func211 @Tryz.call211 (by kernel_rfl) Jak (JaA xs ys) (by kernel_rfl) (J9M xs ys hw.1 hw.2.1) (by kernel_rfl)
def J8Z : List D → Orc := orcN [some .ints, some .ints] fun ds => match ds with
  | [.sl (.ints xs), .sl (.ints ys)] => some (.one (.d (.bool (decide (Jv xs ys < 0)))))
  | _ => none
theorem J2T (xss : ZR) (hz : xss.length < 4611686018427387904) : PU Tryz.prog 204 24 (.rows xss) (.rows (xss.mergeSort (fun x9 y9 => !(ltOf Jv) y9 x9))) [.fn 205 0 []] false :=
  pu_sortFunc Tryz.laySortRows 24 xss (fun x => .sl (.ints x)) Jv Jbw Jdq 205 (fun x _ y _ => J7G x y) _ _ rfl rfl rfl (List.length_mergeSort _) (fun _ => rfl) (fun i x h => by simp [Mem.get, h]) (fun i x h => by simp [Mem.get, h]) hz @Tryz.call205
abbrev J0F (b : Int) (out : ZI) (x : Int) : Prop := (0 ≤ x) ∧ (x ≤ 62) ∧ (out = members (fun k => b.toNat.testBit k) x.toNat)
abbrev JW (b : Int) (out : ZI) (x : Int) : Nat := (62 - x).toNat
def J94 (f : FuncId) (ds : List D) : Orc := bif Nat.beq f 138 then J9L ds else .no
def J8M (b : Int) : Ann := .two (.none) (.two (.none) (.two (.two (.none) (.loop (cut2 (fun (out : ZI) (x : Int) => J0F b out x) (fun (out : ZI) (x : Int) => [(0, .d false (.int .u64 b)), (3, .own 1000000 out.length), (4, .d true (.int .i64 x))]) (fun (out : ZI) (x : Int) => [(1000000, .arr true 3 (.ints out))])) (fun g => JW b g.1 g.2) (fun _ => .none))) (.none)))
def J57 (b : Int) : Prop :=
  ((∃ out' : ZI, ∃ x' : Int, (J0F b out' x') ∧ (b = b) ∧ ((0 : Nat) = out'.length) ∧ ((0 : Int) = x') ∧ ([] = out')) ∧ (∀ out : ZI, ∀ x : Int, (J0F b out x) → ((0 : Int) ≤ b ∧ (b : Int) ≤ 18446744073709551615) ∧ ((0 : Int) ≤ x) ∧ (((decide ((b / 2 ^ x.toNat) > 0)) = true → (PC Tryz.prog 138 [.int .u64 b, .int .i64 x] (.one (.d (.bool (b.toNat.testBit x.toNat))))) ∧ (((b.toNat.testBit x.toNat) = true → (out.length = out.length) ∧ ((1 : Nat) = 1) ∧ ((out.length + 1) * 8 ≤ 140737488355328) ∧ (I6 (x + 1)) ∧ (∃ out' : ZI, ∃ x' : Int, (J0F b out' x') ∧ (JW b out' x' < JW b out x) ∧ (b = b) ∧ ((out.length + 1) = out'.length) ∧ ((x + 1) = x') ∧ ((out ++ [x]) = out'))) ∧ ((b.toNat.testBit x.toNat) = false → (I6 (x + 1)) ∧ (∃ out' : ZI, ∃ x' : Int, (J0F b out' x') ∧ (JW b out' x' < JW b out x) ∧ (b = b) ∧ (out.length = out'.length) ∧ ((x + 1) = x') ∧ (out = out'))))) ∧ ((decide ((b / 2 ^ x.toNat) > 0)) = false → ((out.length = out.length) ∧ ((out : ZI) = (members (fun k => b.toNat.testBit k) 62)))))))
theorem J83 (b : Int) (hb : 0 ≤ b ∧ b ≤ 4611686018427387903)  : J57 b := by
  unfold J57
  refine ⟨?_, ?_⟩
  ·refine ⟨([]), 0, ?_⟩
   refine ⟨?_, rfl, rfl, rfl, ?_⟩
   ·refine ⟨?_, ?_, ?_⟩
    ·omega
    ·omega
    ·rfl
   rfl
  intro out x hJ
  obtain ⟨h1, h2, h3⟩ := hJ
  refine ⟨?_, ?_, ?_, ?_⟩
  ·omega
  ·omega
  ·intro b1
   try simp only [nrmT] at b1
   refine ⟨?_, ?_, ?_⟩
   ·refine J9Y b x ?_ ?_
    ·omega
    ·omega
   ·intro b2
    try simp only [nrmT] at b2
    refine ⟨rfl, rfl, ?_, ?_, ?_⟩
    ·rw [h3]; have := members_len_le (fun k => b.toNat.testBit k) x.toNat; omega
    ·omega
    refine ⟨(out ++ [x]), (x + 1), ?_⟩
    refine ⟨?_, ?_, rfl, ?_, rfl, rfl⟩
    ·refine ⟨?_, ?_, ?_⟩
     ·omega
     ·have := JbR hb h2 b1; omega
     ·rw [h3, show (x + 1).toNat = x.toNat + 1 by omega, members_succ, b2]; simp; try omega
    ·have := JbR hb h2 b1
     (simp only [JW]; omega)
    (simp_all; done)
   intro b3
   try simp only [nrmT] at b3
   refine ⟨?_, ?_⟩
   ·omega
   refine ⟨out, (x + 1), ?_⟩
   refine ⟨?_, ?_, rfl, rfl, rfl, rfl⟩
   ·refine ⟨?_, ?_, ?_⟩
    ·omega
    ·have := JbR hb h2 b1; omega
    ·rw [h3, show (x + 1).toNat = x.toNat + 1 by omega, members_succ, b3]; simp; try omega
   have := JbR hb h2 b1
   (simp only [JW]; omega)
  intro b4
  try simp only [nrmT] at b4
  refine ⟨rfl, ?_⟩
  ·rw [h3]; refine (J30 (fun k hk => Jdo hb.1 (m := x.toNat) (by omega) k hk) 62 (by omega)).symm
theorem J8r (b : Int) (hb : 0 ≤ b ∧ b ≤ 4611686018427387903) : PC Tryz.prog 139 [.int .u64 b] (.one (.d (.sl (.ints (members (fun k => b.toNat.testBit k) 62))))) :=
  pc_wf @Tryz.call139 fun _ => pc_by (by kernel_rfl) Tryz.func139 @Tryz.call139 (by kernel_rfl) J94 (J8M b) (by kernel_rfl) (J83 b hb) (by kernel_rfl)
abbrev J4i (n : Int) (out : ZR) (b : Int) : Prop := (1 ≤ b) ∧ (b ≤ ((2 ^ n.toNat : Nat) : Int)) ∧ (out = J3c n.toNat (b.toNat - 1))
abbrev J4g (n : Int) (out : ZR) (b : Int) : Nat := (((2 ^ n.toNat : Nat) : Int) - b).toNat
abbrev J4h (n : Int) (out2 : ZR) : Prop := (out2 = J3c n.toNat (2 ^ n.toNat - 1))
def Jd1 (f : FuncId) (ds : List D) : Orc := .no
def Jd9 (n : Int) : Ann := .two (.none) (.two (.none) (.cut (.two (.none) (.loop (cut2 (fun (out : ZR) (b : Int) => J4i n out b) (fun (out : ZR) (b : Int) => [(0, .d false (.int .i64 n)), (3, .own 1000000 out.length), (4, .d true (.int .u64 b))]) (fun (out : ZR) (b : Int) => [(1000000, .arr true 24 (.rows out))])) (fun g => J4g n g.1 g.2) (fun g => (fun (out : ZR) (b : Int) => .two (.none) (.two (.reg [(2, .call none (.one (.d (.sl (.ints (members (fun k => b.toNat.testBit k) 62))))))]) (.none))) (g.1) (g.2)))) (cut1 (fun (out2 : ZR) => J4h n out2) (fun (out2 : ZR) => [(3, .own 1000050 out2.length)]) (fun (out2 : ZR) => [(1000050, .arr true 24 (.rows out2))])) (fun g => (fun (out2 : ZR) => .two (.mark [] [(1, .up (.rows (out2.mergeSort (fun x9 y9 => !(ltOf Jv) y9 x9))) false)]) (.none)) g)))
def Jaa (n : Int) : Prop :=
  ((((∃ out' : ZR, ∃ b' : Int, (J4i n out' b') ∧ (n = n) ∧ ((0 : Nat) = out'.length) ∧ ((1 : Int) = b') ∧ ([] = out')) ∧ (∀ out : ZR, ∀ b : Int, (J4i n out b) → ((0 : Int) ≤ 1) ∧ ((0 : Int) ≤ n) ∧ ((0 : Int) ≤ ((1 : Int) * 2 ^ n.toNat) ∧ (((1 : Int) * 2 ^ n.toNat) : Int) ≤ 18446744073709551615) ∧ (((decide (b < ((1 : Int) * 2 ^ n.toNat))) = true → (PC Tryz.prog 139 [.int .u64 b] (.one (.d (.sl (.ints (members (fun k => b.toNat.testBit k) 62)))))) ∧ (out.length = out.length) ∧ ((1 : Nat) = 1) ∧ ((out.length + 1) * 24 ≤ 140737488355328) ∧ (0 ≤ (b + 1) ∧ (b + 1) ≤ 18446744073709551615) ∧ (∃ out' : ZR, ∃ b' : Int, (J4i n out' b') ∧ (J4g n out' b' < J4g n out b) ∧ (n = n) ∧ ((out.length + 1) = out'.length) ∧ ((b + 1) = b') ∧ ((out ++ [(members (fun k => b.toNat.testBit k) 62)]) = out'))) ∧ ((decide (b < ((1 : Int) * 2 ^ n.toNat))) = false → (∃ out2' : ZR, (J4h n out2') ∧ (out.length = out2'.length) ∧ (out = out2'))))))) ∧ (∀ out2 : ZR, (J4h n out2) → (out2.length = out2.length) ∧ (PU Tryz.prog 204 24 (.rows out2) (.rows (out2.mergeSort (fun x9 y9 => !(ltOf Jv) y9 x9))) [.fn 205 0 []] false) ∧ ((out2.length = (out2.mergeSort (fun x9 y9 => !(ltOf Jv) y9 x9)).length) ∧ (((out2.mergeSort (fun x9 y9 => !(ltOf Jv) y9 x9)) : ZR) = J5 n.toNat))))
theorem Jck (n : Int) (hn : 0 ≤ n ∧ n ≤ 8)  : Jaa n := by
  unfold Jaa
  have p7 := Jdx (n := n.toNat) (by omega)
  have pp := Nat.two_pow_pos n.toNat
  have e0 := Jbm n.toNat
  have e1 : ((2 : Int) ^ n.toNat) = ((2 ^ n.toNat : Nat) : Int) := by simp
  refine ⟨?_, ?_⟩
  ·refine ⟨?_, ?_⟩
   ·refine ⟨([]), 1, ?_⟩
    refine ⟨?_, rfl, rfl, rfl, ?_⟩
    ·refine ⟨?_, ?_, ?_⟩
     ·omega
     ·generalize 2 ^ n.toNat = M at *
      omega
     ·rfl
    rfl
   ·intro out b hJ
    obtain ⟨h1, h2, h3⟩ := hJ
    refine ⟨?_, ?_, ?_, ?_, ?_⟩
    ·omega
    ·omega
    ·rw [Int.one_mul, e1]
     generalize 2 ^ n.toNat = M at *
     omega
    ·intro b1
     try simp only [nrmT] at b1
     refine ⟨?_, rfl, rfl, ?_, ?_, ?_⟩
     ·refine J8r b ?_
      ·rw [Int.one_mul, e1] at b1
       generalize 2 ^ n.toNat = M at *
       omega
     ·rw [Int.one_mul, e1] at b1
      rw [h3, J10]
      generalize 2 ^ n.toNat = M at *
      omega
     ·rw [Int.one_mul, e1] at b1
      generalize 2 ^ n.toNat = M at *
      omega
     refine ⟨(out ++ [(members (fun k => b.toNat.testBit k) 62)]), (b + 1), ?_⟩
     refine ⟨?_, ?_, rfl, ?_, rfl, rfl⟩
     ·refine ⟨?_, ?_, ?_⟩
      ·omega
      ·rw [Int.one_mul, e1] at b1
       generalize 2 ^ n.toNat = M at *
       omega
      ·rw [Int.one_mul, e1] at b1
       have hb : b.toNat < 2 ^ n.toNat := by
         generalize 2 ^ n.toNat = M at *
         omega
       rw [h3, show (b + 1).toNat - 1 = (b.toNat - 1) + 1 by omega, J96, show b.toNat - 1 + 1 = b.toNat by omega, Jdr (n := n.toNat) (by omega) hb]
     ·rw [Int.one_mul, e1] at b1
      (simp only [J4g]; omega)
     first | omega | rfl | (intro hg; simp only [nrmT] at hg; omega) | (intro g1 g2; simp [g1, g2]; done) | (intro g1; simp at g1 ⊢; simp [g1]; done) | (simp only [nrmT] at *; omega) | (simp at * <;> omega) | (simp_all <;> omega) | (simp_all; done)
    intro b2
    try simp only [nrmT] at b2
    refine ⟨out, ?_⟩
    refine ⟨?_, rfl, rfl⟩
    ·unfold J4h
     rw [Int.one_mul, e1] at b2
     have hm : b.toNat - 1 = 2 ^ n.toNat - 1 := by
       generalize 2 ^ n.toNat = M at *
       omega
     rw [h3, hm]
  intro out2 hJ
  have h8 := hJ
  refine ⟨rfl, ?_, ?_, ?_⟩
  ·refine J2T out2 ?_
   ·rw [h8, J10]
    generalize 2 ^ n.toNat = M at *
    omega
  ·simp
  rw [h8]; rfl
theorem J9r (n : Int) (hn : 0 ≤ n ∧ n ≤ 8) : PC Tryz.prog 115 [.int .i64 n] (.one (.own 24 (.rows (J5 n.toNat)))) :=
  pc_wf @Tryz.call115 fun _ => pc_by (by kernel_rfl) Tryz.func115 @Tryz.call115 (by kernel_rfl) Jd1 (Jd9 n) (by kernel_rfl) (Jck n hn) (by kernel_rfl)
def J8u : List D → Orc := orcN [none] fun ds => match ds with
  | [.int .i64 n] => some (.one (.own 24 (.rows (J5 n.toNat))))
  | _ => none
abbrev J3a (n : Int) (out : ZR) (code : Int) : Prop := (1 ≤ code) ∧ (code ≤ ((2 ^ n.toNat : Nat) : Int)) ∧ (out.Perm (J3c n.toNat (code.toNat - 1))) ∧ (out.Pairwise (fun x9 y9 => ltOf Jv y9 x9 = false))
abbrev J38 (n : Int) (out : ZR) (code : Int) : Nat := (((2 ^ n.toNat : Nat) : Int) - code).toNat
abbrev J31 (n : Int) (out : ZR) (code : Int) (k : Int) : Prop := (0 ≤ k) ∧ (k ≤ (out.length : Int)) ∧ (∀ j, k.toNat ≤ j → j < out.length → Jv (lst n.toNat code.toNat) (out.getD j []) < 0)
abbrev J33 (n : Int) (out : ZR) (code : Int) (k : Int) : Nat := k.toNat
def Jc0 (f : FuncId) (ds : List D) : Orc := bif Nat.beq f 142 then Ja8 ds else bif Nat.beq f 211 then J8Z ds else .no
def JbV (n : Int) : Ann := .two (.none) (.two (.reg [(0, .frz)]) (.two (.two (.none) (.loop (cut2 (fun (out : ZR) (code : Int) => J3a n out code) (fun (out : ZR) (code : Int) => [(0, .d false (.int .i64 n)), (3, .d true (.sl (.rows out))), (4, .d true (.int .i64 code))]) (fun (out : ZR) (code : Int) => [])) (fun g => J38 n g.1 g.2) (fun g => (fun (out : ZR) (code : Int) => .two (.none) (.two (.two (.none) (.two (.loop (cut1 (fun (k : Int) => J31 n out code k) (fun (k : Int) => [(0, .d false (.int .i64 n)), (3, .d true (.sl (.rows out))), (4, .d true (.int .i64 code)), (5, .d true (.sl (.ints (members (fun k => code.toNat.testBit k) n.toNat)))), (6, .d true (.int .i64 k))]) (fun (k : Int) => [])) (fun g => J33 n out code g) (fun _ => .none)) (.none))) (.none))) (g.1) (g.2)))) (.none)))
def J8s (n : Int) : Prop :=
  ((∃ out' : ZR, ∃ code' : Int, (J3a n out' code') ∧ (n = n) ∧ ([] = out') ∧ ((1 : Int) = code')) ∧ (∀ out : ZR, ∀ code : Int, (J3a n out code) → ((0 : Int) ≤ 1) ∧ ((0 : Int) ≤ n) ∧ ((0 : Int) ≤ ((1 : Int) * 2 ^ n.toNat) ∧ (((1 : Int) * 2 ^ n.toNat) : Int) ≤ 9223372036854775807) ∧ (((decide (code < ((1 : Int) * 2 ^ n.toNat))) = true → (PC Tryz.prog 142 [.int .i64 n, .int .i64 code] (.one (.d (.sl (.ints (members (fun k => code.toNat.testBit k) n.toNat)))))) ∧ ((∃ k' : Int, (J31 n out code k') ∧ (n = n) ∧ (out = out) ∧ (code = code) ∧ ((members (fun k => code.toNat.testBit k) n.toNat) = (members (fun k => code.toNat.testBit k) n.toNat)) ∧ ((out.length : Int) = k')) ∧ (∀ k : Int, (J31 n out code k) → ((decide (k > 0)) = true → (decide (k > 0)) = true) ∧ (((decide (k > 0)) = true → I6 (k - 1))) ∧ ((decide (k > 0)) = true → (decide (k > 0)) = true) ∧ ((decide (k > 0)) = true → (decide (k > 0)) = true) ∧ (((decide (k > 0)) = true → (0 : Int) ≤ (k - 1))) ∧ (((decide (k > 0)) = true → ((k - 1) : Int) < out.length)) ∧ ((decide (k > 0)) = true → (decide (k > 0)) = true) ∧ (((decide (k > 0)) = true → (k - 1).toNat < out.length)) ∧ ((decide (k > 0)) = true → (decide (k > 0)) = true) ∧ ((decide (k > 0)) = true → (decide (k > 0)) = true) ∧ ((decide (k > 0)) = true → PC Tryz.prog 211 [.sl (.ints (members (fun k => code.toNat.testBit k) n.toNat)), .sl (.ints (out.getD ((k - 1).toNat) []))] (.one (.d (.bool (decide (Jv (members (fun k => code.toNat.testBit k) n.toNat) (out.getD ((k - 1).toNat) []) < 0)))))) ∧ (true = true) ∧ (((decide (k > 0)) = true → (decide (k > 0)) = true)) ∧ (((decide (k > 0)) = false → true = true)) ∧ (((cond (decide (k > 0)) (decide (Jv (members (fun k => code.toNat.testBit k) n.toNat) (out.getD ((k - 1).toNat) []) < 0)) false) = true → (I6 (k - 1)) ∧ (∃ k' : Int, (J31 n out code k') ∧ (J33 n out code k' < J33 n out code k) ∧ (n = n) ∧ (out = out) ∧ (code = code) ∧ ((members (fun k => code.toNat.testBit k) n.toNat) = (members (fun k => code.toNat.testBit k) n.toNat)) ∧ ((k - 1) = k'))) ∧ ((cond (decide (k > 0)) (decide (Jv (members (fun k => code.toNat.testBit k) n.toNat) (out.getD ((k - 1).toNat) []) < 0)) false) = false → (true = true) ∧ ((0 : Int) ≤ k) ∧ ((k : Int) ≤ out.length) ∧ ((0 : Nat) = 0) ∧ (True) ∧ ((0 + ((out.take k.toNat).drop 0).length) * 24 ≤ 140737488355328) ∧ ((0 + ((out.take k.toNat).drop 0).length) = ([] ++ ((out.take k.toNat).drop 0)).length) ∧ ((1 : Nat) = 1) ∧ ((([] ++ ((out.take k.toNat).drop 0)).length + 1) * 24 ≤ 140737488355328) ∧ ((0 : Int) ≤ k) ∧ ((k : Int) ≤ out.length) ∧ (((0 + ((out.take k.toNat).drop 0).length) + 1) = (([] ++ ((out.take k.toNat).drop 0)) ++ [(members (fun k => code.toNat.testBit k) n.toNat)]).length) ∧ (True) ∧ (((([] ++ ((out.take k.toNat).drop 0)) ++ [(members (fun k => code.toNat.testBit k) n.toNat)]).length + ((out.take out.length).drop k.toNat).length) * 24 ≤ 140737488355328) ∧ (I6 (code + 1)) ∧ (∃ out' : ZR, ∃ code' : Int, (J3a n out' code') ∧ (J38 n out' code' < J38 n out code) ∧ (n = n) ∧ ((((0 + ((out.take k.toNat).drop 0).length) + 1) + ((out.take out.length).drop k.toNat).length) = ((([] ++ ((out.take k.toNat).drop 0)) ++ [(members (fun k => code.toNat.testBit k) n.toNat)]) ++ ((out.take out.length).drop k.toNat)).length) ∧ (((([] ++ ((out.take k.toNat).drop 0)) ++ [(members (fun k => code.toNat.testBit k) n.toNat)]) ++ ((out.take out.length).drop k.toNat)) = out') ∧ ((code + 1) = code'))))))) ∧ ((decide (code < ((1 : Int) * 2 ^ n.toNat))) = false → (((out : ZR) = (J5 n.toNat)))))))
theorem JaR (n : Int) (hn : 0 ≤ n ∧ n ≤ 8)  : J8s n := by
  unfold J8s
  have p7 := Jdx (n := n.toNat) (by omega)
  have pp := Nat.two_pow_pos n.toNat
  have e0 := Jbm n.toNat
  have e1 : ((2 : Int) ^ n.toNat) = ((2 ^ n.toNat : Nat) : Int) := by simp
  refine ⟨?_, ?_⟩
  ·refine ⟨([]), 1, ?_⟩
   refine ⟨?_, rfl, ?_, rfl⟩
   ·refine ⟨?_, ?_, ?_, ?_⟩
    ·omega
    ·generalize 2 ^ n.toNat = M at *
     omega
    ·exact List.Perm.refl _
    ·exact List.Pairwise.nil
   rfl
  intro out code hJ
  obtain ⟨h1, h2, h3, h4⟩ := hJ
  refine ⟨?_, ?_, ?_, ?_, ?_⟩
  ·omega
  ·omega
  ·rw [Int.one_mul, e1]
   generalize 2 ^ n.toNat = M at *
   omega
  ·intro b1
   try simp only [nrmT] at b1
   refine ⟨?_, ?_, ?_⟩
   ·refine JaL n code ?_ ?_
    ·omega
    ·rw [Int.one_mul, e1] at b1
     generalize 2 ^ n.toNat = M at *
     omega
   ·refine ⟨(out.length : Int), ?_⟩
    refine ⟨?_, rfl, rfl, rfl, rfl, rfl⟩
    ·refine ⟨?_, ?_, ?_⟩
     ·omega
     ·omega
     ·intro j h8 h9; omega
   intro k hJ
   obtain ⟨h5, h6, h7⟩ := hJ
   refine ⟨id, ?_, id, id, ?_, ?_, id, ?_, id, id, fun _ => J9D (members (fun k => code.toNat.testBit k) n.toNat) (out.getD ((k - 1).toNat) []), rfl, id, fun _ => rfl, ?_, ?_⟩
   ·have ol := h3.length_eq
    rw [J10] at ol
    rw [Int.one_mul, e1] at b1
    intro hg2
    have := of_decide_eq_true hg2
    generalize 2 ^ n.toNat = M at *
    omega
   ·(intro hg; simp only [nrmT] at hg; omega)
   ·omega
   ·(intro hg; simp only [nrmT] at hg; omega)
   ·intro b2
    refine ⟨?_, ?_⟩
    ·have ol := h3.length_eq
     rw [J10] at ol
     rw [Int.one_mul, e1] at b1
     have hk : 0 < k := by
       revert b2
       by_cases h : k > 0
       · intro _; exact h
       rw [decide_eq_false h]; intro g; cases g
     generalize 2 ^ n.toNat = M at *
     omega
    refine ⟨(k - 1), ?_⟩
    refine ⟨?_, ?_, rfl, rfl, rfl, rfl, rfl⟩
    ·refine ⟨?_, ?_, ?_⟩
     ·have ol := h3.length_eq
      rw [J10] at ol
      rw [Int.one_mul, e1] at b1
      have hk : 0 < k := by
        revert b2
        by_cases h : k > 0
        · intro _; exact h
        rw [decide_eq_false h]; intro g; cases g
      generalize 2 ^ n.toNat = M at *
      omega
     ·have ol := h3.length_eq
      rw [J10] at ol
      rw [Int.one_mul, e1] at b1
      have hk : 0 < k := by
        revert b2
        by_cases h : k > 0
        · intro _; exact h
        rw [decide_eq_false h]; intro g; cases g
      generalize 2 ^ n.toNat = M at *
      omega
     ·intro j h8 h9
      have hk : 0 < k ∧ Jv (lst n.toNat code.toNat) (out.getD (k - 1).toNat []) < 0 := by
        revert b2
        by_cases h : k > 0
        · rw [decide_eq_true h]; intro g; exact ⟨h, of_decide_eq_true g⟩
        rw [decide_eq_false h]; intro g; cases g
      by_cases e : j = (k - 1).toNat
      · rw [e]; exact hk.2
      exact h7 j (by omega) h9
    have hk : 0 < k := by
      revert b2
      by_cases h : k > 0
      · intro _; exact h
      rw [decide_eq_false h]; intro g; cases g
    (simp only [J33]; omega)
   intro b3
   refine ⟨rfl, ?_, ?_, rfl, trivial, ?_, ?_, rfl, ?_, ?_, ?_, ?_, trivial, ?_, ?_, ?_⟩
   ·omega
   ·omega
   ·have ol := h3.length_eq
    rw [J10] at ol
    rw [Int.one_mul, e1] at b1
    simp only [List.length_append, List.length_drop, List.length_take, List.length_cons, List.length_nil]
    generalize 2 ^ n.toNat = M at *
    omega
   ·simp only [List.length_append, List.length_cons, List.length_nil] <;> omega
   ·have ol := h3.length_eq
    rw [J10] at ol
    rw [Int.one_mul, e1] at b1
    simp only [List.length_append, List.length_drop, List.length_take, List.length_cons, List.length_nil]
    generalize 2 ^ n.toNat = M at *
    omega
   ·omega
   ·omega
   ·first | omega | rfl | (intro hg; simp only [nrmT] at hg; omega) | (intro g1 g2; simp [g1, g2]; done) | (intro g1; simp at g1 ⊢; simp [g1]; done) | (simp only [nrmT] at *; omega) | (simp at * <;> omega) | (simp_all <;> omega) | (simp_all; done)
   ·have ol := h3.length_eq
    rw [J10] at ol
    rw [Int.one_mul, e1] at b1
    simp only [List.length_append, List.length_drop, List.length_take, List.length_cons, List.length_nil]
    generalize 2 ^ n.toNat = M at *
    omega
   ·rw [Int.one_mul, e1] at b1
    generalize 2 ^ n.toNat = M at *
    omega
   refine ⟨((([] ++ ((out.take k.toNat).drop 0)) ++ [(members (fun k => code.toNat.testBit k) n.toNat)]) ++ ((out.take out.length).drop k.toNat)), (code + 1), ?_⟩
   refine ⟨?_, ?_, rfl, ?_, rfl, rfl⟩
   ·refine ⟨?_, ?_, ?_, ?_⟩
    ·omega
    ·rw [Int.one_mul, e1] at b1
     generalize 2 ^ n.toNat = M at *
     omega
    ·have hq : (((([] : ZR) ++ ((out.take k.toNat).drop 0)) ++ [(members (fun k => code.toNat.testBit k) n.toNat)]) ++ ((out.take out.length).drop k.toNat)) = (out.take k.toNat ++ [lst n.toNat code.toNat]) ++ out.drop k.toNat := by
       rw [List.nil_append, List.drop_zero, List.take_length]; rfl
     rw [hq, show (code + 1).toNat - 1 = (code.toNat - 1) + 1 by omega]
     exact Jd0 h3 (by rw [show code.toNat - 1 + 1 = code.toNat by omega])
    ·have hq : (((([] : ZR) ++ ((out.take k.toNat).drop 0)) ++ [(members (fun k => code.toNat.testBit k) n.toNat)]) ++ ((out.take out.length).drop k.toNat)) = (out.take k.toNat ++ [lst n.toNat code.toNat]) ++ out.drop k.toNat := by
       rw [List.nil_append, List.drop_zero, List.take_length]; rfl
     rw [hq]
     refine Jbt h4 (by omega) h7 ?_
     by_cases e : k.toNat = 0
     · exact .inl e
     refine .inr fun h => ?_
     rw [decide_eq_true (show k > 0 by omega), decide_eq_true (by rw [show (k - 1).toNat = k.toNat - 1 by omega]; exact h)] at b3
     cases b3
   ·rw [Int.one_mul, e1] at b1
    (simp only [J38]; omega)
   simp only [List.length_append, List.length_cons, List.length_nil] <;> omega
  intro b4
  try simp only [nrmT] at b4
  rw [Int.one_mul, e1] at b4
  exact Jcy h3 (by
    generalize 2 ^ n.toNat = M at *
    omega) h4
theorem J79 (n : Int) (hn : 0 ≤ n ∧ n ≤ 8) : PC Tryz.prog 148 [.int .i64 n] (.one (.d (.sl (.rows (J5 n.toNat))))) :=
  pc_wf @Tryz.call148 fun _ => pc_by (by kernel_rfl) Tryz.func148 @Tryz.call148 (by kernel_rfl) Jc0 (JbV n) (by kernel_rfl) (JaR n hn) (by kernel_rfl)
def J6e : List D → Orc := orcN [none] fun ds => match ds with
  | [.int .i64 n] => some (.one (.d (.sl (.rows (J5 n.toNat)))))
  | _ => none
def J4R (l : ZI) (xs : ZI) : ZI := xs.foldl putL l
theorem J9h : ∀ (xs l : ZI), (J4R l xs).length ≤ l.length + xs.length
  | [], _ => Nat.le_refl _
  | y :: r, l => by
    have h1 := J9h r (putL l y)
    have h2 := putL_len l y
    show (J4R (putL l y) r).length ≤ _
    simp only [List.length_cons]
    omega
theorem JbG (l xs : ZI) (y : Int) : J4R l (xs ++ [y]) = putL (J4R l xs) y := by simp [J4R]
def JR (E : ZR) : ZI := J4R [] E.flatten
theorem Jd4 {E : ZR} {m : Nat} (h : ∀ l ∈ E, l.length ≤ m) : E.flatten.length ≤ E.length * m := by
  induction E with
  | nil => simp
  | cons x r ih =>
    have h1 := h x (by simp)
    have h2 := ih fun l hl => h l (by simp [hl])
    simp only [List.flatten_cons, List.length_append, List.length_cons, Nat.succ_mul]
    omega
theorem JcK {xss : ZR} {i : Int} (h0 : 0 ≤ i) (h : i < (xss.length : Int)) : (xss.take (i + 1).toNat).flatten = (xss.take i.toNat).flatten ++ xss.getD i.toNat [] := by
  rw [take_step (d := []) h0 h, List.flatten_append]
  simp
theorem Jdu {U : ZI} {E : ZR} (h : J0 U E = true) : ∀ l ∈ E, l.length = U.length := fun l hl => by
  obtain ⟨k, hk, rfl⟩ := List.mem_iff_getElem.1 hl
  have h1 := (J0o h hk).1
  rwa [Js hk] at h1
abbrev J1F (U : ZI) (E : ZR) (out : ZI) (j : Int) : Prop := (0 ≤ j) ∧ (j ≤ (E.length : Int)) ∧ (out = J4R [] (E.take j.toNat).flatten)
abbrev J1L (U : ZI) (E : ZR) (out : ZI) (j : Int) : Nat := (E.length - j).toNat
abbrev J1E (U : ZI) (E : ZR) (out : ZI) (j : Int) (out2 : ZI) (a : Int) : Prop := (0 ≤ a) ∧ (a ≤ ((E.getD j.toNat []).length : Int)) ∧ (out2 = J4R [] ((E.take j.toNat).flatten ++ (E.getD j.toNat []).take a.toNat))
abbrev J1I (U : ZI) (E : ZR) (out : ZI) (j : Int) (out2 : ZI) (a : Int) : Nat := ((E.getD j.toNat []).length - a).toNat
def J9t (f : FuncId) (ds : List D) : Orc := bif Nat.beq f 140 then JaQ ds else .no
def J9T (U : ZI) (E : ZR) : Ann := .two (.none) (.two (.reg [(0, .frz)]) (.two (.two (.none) (.loop (cut2 (fun (out : ZI) (j : Int) => J1F U E out j) (fun (out : ZI) (j : Int) => [(1, .ptr 1 0), (3, .d true (.sl (.ints out))), (4, .d true (.int .i64 j))]) (fun (out : ZI) (j : Int) => [(1, .box 27 [.d false (.sl (.ints U)), .d false (.sl (.rows E))])])) (fun g => J1L U E g.1 g.2) (fun g => (fun (out : ZI) (j : Int) => .two (.none) (.two (.two (.none) (.loop (cut2 (fun (out2 : ZI) (a : Int) => J1E U E out j out2 a) (fun (out2 : ZI) (a : Int) => [(1, .ptr 1 0), (3, .d true (.sl (.ints out2))), (4, .d true (.int .i64 j)), (5, .d true (.int .i64 a))]) (fun (out2 : ZI) (a : Int) => [(1, .box 27 [.d false (.sl (.ints U)), .d false (.sl (.rows E))])])) (fun g => J1I U E out j g.1 g.2) (fun _ => .none))) (.none))) (g.1) (g.2)))) (.none)))
def J5x (U : ZI) (E : ZR) : Prop :=
  ((∃ out' : ZI, ∃ j' : Int, (J1F U E out' j') ∧ ([] = out') ∧ ((0 : Int) = j') ∧ (U = U) ∧ (E = E)) ∧ (∀ out : ZI, ∀ j : Int, (J1F U E out j) → (((decide (j < (E.length : Int))) = true → ((∃ out2' : ZI, ∃ a' : Int, (J1E U E out j out2' a') ∧ (out = out2') ∧ (j = j) ∧ ((0 : Int) = a') ∧ (U = U) ∧ (E = E)) ∧ (∀ out2 : ZI, ∀ a : Int, (J1E U E out j out2 a) → ((0 : Int) ≤ j) ∧ ((j : Int) < E.length) ∧ (j.toNat < E.length) ∧ (((decide (a < (((E.getD j.toNat []).length) : Int))) = true → ((0 : Int) ≤ j) ∧ ((j : Int) < E.length) ∧ (j.toNat < E.length) ∧ ((0 : Int) ≤ a) ∧ ((a : Int) < (E.getD j.toNat []).length) ∧ (a.toNat < (E.getD j.toNat []).length) ∧ (PCs Tryz.prog 140 [.sl (.ints out2), .int .i64 ((E.getD j.toNat []).getD a.toNat 0)] 0 (.sl (.ints (putL out2 ((E.getD j.toNat []).getD a.toNat 0))))) ∧ (I6 (a + 1)) ∧ (∃ out2' : ZI, ∃ a' : Int, (J1E U E out j out2' a') ∧ (J1I U E out j out2' a' < J1I U E out j out2 a) ∧ ((putL out2 ((E.getD j.toNat []).getD a.toNat 0)) = out2') ∧ (j = j) ∧ ((a + 1) = a') ∧ (U = U) ∧ (E = E))) ∧ ((decide (a < (((E.getD j.toNat []).length) : Int))) = false → (I6 (j + 1)) ∧ (∃ out' : ZI, ∃ j' : Int, (J1F U E out' j') ∧ (J1L U E out' j' < J1L U E out j) ∧ (out2 = out') ∧ ((j + 1) = j') ∧ (U = U) ∧ (E = E))))))) ∧ ((decide (j < (E.length : Int))) = false → (((out : ZI) = (JR E)))))))
theorem J8P (U : ZI) (E : ZR) (hg : J0 U E = true) (w_Open : (U.length : Int) ≤ 9223372036854775807) (w_Dist : (E.length : Int) ≤ 9223372036854775807) (v_Dist : ∀ x9 ∈ E, (x9.length : Int) ≤ 9223372036854775807) : J5x U E := by
  unfold J5x
  obtain ⟨g1, g2, g3⟩ := Jm hg
  refine ⟨?_, ?_⟩
  ·refine ⟨([]), 0, ?_⟩
   refine ⟨?_, ?_, rfl, rfl, rfl⟩
   ·refine ⟨?_, ?_, ?_⟩
    ·omega
    ·omega
    ·rfl
   rfl
  intro out j hJ
  obtain ⟨h1, h2, h3⟩ := hJ
  refine ⟨?_, ?_⟩
  ·intro b1
   try simp only [nrmT] at b1
   refine ⟨?_, ?_⟩
   ·refine ⟨out, 0, ?_⟩
    refine ⟨?_, rfl, rfl, rfl, rfl, rfl⟩
    ·refine ⟨?_, ?_, ?_⟩
     ·omega
     ·omega
     ·rw [h3]; simp
   intro out2 a hJ
   obtain ⟨h5, h6, h7⟩ := hJ
   refine ⟨?_, ?_, ?_, ?_, ?_⟩
   ·omega
   ·omega
   ·omega
   ·intro b2
    try simp only [nrmT] at b2
    refine ⟨?_, ?_, ?_, ?_, ?_, ?_, ?_, ?_, ?_⟩
    ·omega
    ·omega
    ·omega
    ·omega
    ·omega
    ·omega
    ·refine JbC out2 ((E.getD j.toNat []).getD a.toNat 0) ?_
     ·have rl := (J0o hg (i := j.toNat) (by omega)).1
      have hb := Jd4 (E := E.take j.toNat) (m := 7) (fun l hl => by rw [Jdu hg l (List.mem_of_mem_take hl)]; exact g2)
      have hb2 : (E.take j.toNat).length ≤ 7 := by rw [List.length_take]; omega
      have hb3 := J9h ((E.take j.toNat).flatten ++ (E.getD j.toNat []).take a.toNat) []
      rw [← h7, List.length_append, List.length_take] at hb3
      simp only [List.length_nil] at hb3
      omega
    ·have rl := (J0o hg (i := j.toNat) (by omega)).1
     omega
    refine ⟨(putL out2 ((E.getD j.toNat []).getD a.toNat 0)), (a + 1), ?_⟩
    refine ⟨?_, ?_, rfl, rfl, rfl, rfl, rfl⟩
    ·refine ⟨?_, ?_, ?_⟩
     ·omega
     ·omega
     ·rw [take_step (d := 0) h5 (by omega), ← List.append_assoc, JbG, h7]
    (simp only [J1I]; omega)
   intro b3
   try simp only [nrmT] at b3
   refine ⟨?_, ?_⟩
   ·omega
   refine ⟨out2, (j + 1), ?_⟩
   refine ⟨?_, ?_, rfl, rfl, rfl, rfl⟩
   ·refine ⟨?_, ?_, ?_⟩
    ·omega
    ·omega
    ·rw [JcK h1 (by omega), h7, take_all (xs := E.getD j.toNat []) (by omega)]
   (simp only [J1L]; omega)
  intro b4
  try simp only [nrmT] at b4
  rw [h3, take_all (by omega)]; rfl
theorem J8W (U : ZI) (E : ZR) (hg : J0 U E = true) : PC Tryz.prog 104 [.agg [.sl (.ints U), .sl (.rows E)]] (.one (.d (.sl (.ints (JR E))))) :=
  pc_wf @Tryz.call104 fun hw => pc_by (by kernel_rfl) Tryz.func104 @Tryz.call104 (by kernel_rfl) J9t (J9T U E) (by kernel_rfl) (J8P U E hg hw.1.1 hw.1.2.1.1 hw.1.2.1.2) (by kernel_rfl)
def J8e : List D → Orc := orcN [none] fun ds => match ds with
  | [.agg [.sl (.ints U), .sl (.rows E)]] => some (.one (.d (.sl (.ints (JR E)))))
  | _ => none
theorem JcF {l : ZI} {lo hi : Int} (ha : Asc l) (hb : ∀ x ∈ l, lo ≤ x ∧ x ≤ hi) : J2 l lo hi = true :=
  allTo_iff.2 fun k hk => by
    unfold J2b
    rw [Bool.and_eq_true, Bool.or_eq_true]
    refine ⟨decide_eq_true (hb _ (getD_mem hk)), ?_⟩
    by_cases e : k = 0
    · exact .inl (decide_eq_true e)
    right
    have := List.pairwise_iff_getElem.1 ha (k - 1) k (by omega) hk (by omega)
    rw [Js hk, Js (by omega)]
    exact decide_eq_true this
theorem Jdm {n c : Nat} : Asc (lst n c) := asc_members _ _
theorem JV {U : ZI} {E : ZR} (hg : J0 U E = true) {s : ZI} (hs : s ∈ J5 (U.length : Int).toNat) :
    (J0 U E && J2 s 0 ((U.length : Int) - 1) && decide (0 < s.length)) = true ∧ s.length ≤ 7 := by
  obtain ⟨g1, g2, g3⟩ := Jm hg
  rw [Int.toNat_natCast] at hs
  obtain ⟨c, h1, h2, rfl⟩ := J6a.1 hs
  have hl := Jde (n := U.length) (code := c)
  refine ⟨?_, by omega⟩
  rw [hg, JcF Jdm (fun x hx => by have := Jds x hx; omega), decide_eq_true (Jdc h1 h2)]
  rfl
theorem JcV {n : Nat} (h : 1 ≤ n) : 0 < (J5 n).length := by
  rw [J98]
  have := Nat.pow_le_pow_right (n := 2) (by omega) h
  omega
theorem J4e {n : Nat} (h : n ≤ 7) : (J5 n).length ≤ 127 := by
  rw [J98]
  have := Nat.pow_le_pow_right (n := 2) (by omega) h
  have e : (2 : Nat) ^ 7 = 128 := by decide
  omega
def JdA (xs : ZI) (b : Int) (k : Nat) : Int := max b (xs.getD k 0)
def J3G (xs : ZI) (k : Nat) : Int := foldTo (JdA xs) (xs.getD 0 0) k
def J6p (xs : ZI) : Int := J3G xs xs.length
theorem J7Z (xs : ZI) (k : Nat) : J3G xs (k + 1) = max (J3G xs k) (xs.getD k 0) := rfl
theorem Jaw (xs : ZI) : ∀ k, 0 < k → (∀ j, j < k → xs.getD j 0 ≤ J3G xs k) ∧ ∃ j, j < k ∧ J3G xs k = xs.getD j 0
  | 0, h => by omega
  | k + 1, _ => by
    rw [J7Z]
    by_cases hk : 0 < k
    · obtain ⟨h1, j, h2, h3⟩ := Jaw xs k hk
      refine ⟨fun i hi => ?_, ?_⟩
      · by_cases e : i = k
        · subst e; omega
        · have := h1 i (by omega); omega
      by_cases e : xs.getD k 0 ≤ J3G xs k
      · exact ⟨j, by omega, by omega⟩
      · exact ⟨k, by omega, by omega⟩
    have : k = 0 := by omega
    subst this
    have e : J3G xs 0 = xs.getD 0 0 := rfl
    refine ⟨fun i hi => ?_, 0, by omega, by omega⟩
    have : i = 0 := by omega
    subst this; omega
def Jdz (E : ZR) (set : ZI) (m : Int) (j : Nat) : Int := max m (JB E set j)
def J2w (E : ZR) (set : ZI) (k : Nat) : Int := foldTo (Jdz E set) 0 k
def J7 (E : ZR) (set : ZI) : Int := J2w E set E.length
theorem J5o (E : ZR) (set : ZI) (k : Nat) : J2w E set (k + 1) = max (J2w E set k) (JB E set k) := rfl
theorem J3n (E : ZR) (set : ZI) : ∀ k, 0 ≤ J2w E set k ∧ (∀ j, j < k → JB E set j ≤ J2w E set k) ∧ (J2w E set k = 0 ∨ ∃ j, j < k ∧ J2w E set k = JB E set j)
  | 0 => ⟨Int.le_refl _, fun j hj => by omega, .inl rfl⟩
  | k + 1 => by
    obtain ⟨h1, h2, h3⟩ := J3n E set k
    rw [J5o]
    refine ⟨by omega, fun j hj => ?_, ?_⟩
    · by_cases e : j = k
      · subst e; omega
      · have := h2 j (by omega); omega
    by_cases e : JB E set k ≤ J2w E set k
    · rcases h3 with h3 | ⟨j, h3, h4⟩
      · left; omega
      · right; exact ⟨j, by omega, by omega⟩
    · right; exact ⟨k, by omega, by omega⟩
theorem Jdg (E : ZR) (set : ZI) : J6p (Jd E set E.length ++ [0]) = J7 E set := by
  have el : (Jd E set E.length ++ [0]).length = E.length + 1 := by simp [Jx]
  have ge : ∀ j, j < E.length → (Jd E set E.length ++ [0]).getD j 0 = JB E set j := fun j hj => by
    rw [← J5l E set E.length j hj, List.getD_eq_getElem?_getD, List.getElem?_append_left (by rw [Jx]; exact hj), ← List.getD_eq_getElem?_getD]
  have gl : (Jd E set E.length ++ [0]).getD E.length 0 = 0 := by
    rw [List.getD_eq_getElem?_getD, List.getElem?_append_right (by rw [Jx]; exact Nat.le_refl _), Jx, Nat.sub_self]; rfl
  obtain ⟨h1, j, h2, h3⟩ := Jaw (Jd E set E.length ++ [0]) (E.length + 1) (by omega)
  obtain ⟨k1, k2, k3⟩ := J3n E set E.length
  unfold J6p J7
  rw [el]
  have a0 := h1 E.length (by omega)
  rw [gl] at a0
  have u : J3G (Jd E set E.length ++ [0]) (E.length + 1) ≤ J2w E set E.length := by
    rw [h3]
    by_cases e : j = E.length
    · rw [e, gl]; exact k1
    rw [ge j (by omega)]; exact k2 j (by omega)
  have l : J2w E set E.length ≤ J3G (Jd E set E.length ++ [0]) (E.length + 1) := by
    rcases k3 with k3 | ⟨i, k3, k4⟩
    · omega
    have := h1 i (by omega)
    rw [ge i k3] at this
    omega
  omega
def J3p (U : ZI) (E : ZR) (r : Int) : Int := idxI (fun s => decide (J7 E s ≤ r)) (J5 (U.length : Int).toNat)
def Jc (U : ZI) (E : ZR) (r : Int) : Bool := (J0 U E && decide (0 ≤ r)) && decide (0 ≤ J3p U E r)
def J4 (U : ZI) (E : ZR) (r : Int) : ZI := if Jc U E r = true then (J5 (U.length : Int).toNat).getD (J3p U E r).toNat [] else []
theorem J6r {U : ZI} {E : ZR} {r i : Int} (hg : J0 U E = true) (hr : 0 ≤ r) (h0 : 0 ≤ i) (h : J3p U E r = i) : Jc U E r = true ∧ J4 U E r = (J5 (U.length : Int).toNat).getD i.toNat [] := by
  have e : Jc U E r = true := by rw [Jc, hg, decide_eq_true hr, h, decide_eq_true h0]; rfl
  exact ⟨e, by rw [J4, if_pos e, h]⟩
theorem J1Q {U : ZI} {E : ZR} {r : Int} (h : (J0 U E && decide (0 ≤ r)) = false ∨ J3p U E r = -1) : Jc U E r = false ∧ J4 U E r = [] := by
  have e : Jc U E r = false := by
    rw [Jc]
    rcases h with h | h
    · rw [h]; rfl
    rw [h, decide_eq_false (show ¬ (0 : Int) ≤ -1 by omega), Bool.and_false]
  exact ⟨e, by rw [J4, e]; rfl⟩
abbrev J08 (xs : ZI) (m : Int) (i : Int) : Prop := (1 ≤ i) ∧ (i ≤ (xs.length : Int)) ∧ (m = J3G xs i.toNat)
abbrev J07 (xs : ZI) (m : Int) (i : Int) : Nat := (xs.length - i).toNat
def J58 (f : FuncId) (ds : List D) : Orc := .no
def J5e (xs : ZI) : Ann := .two (.none) (.two (.two (.none) (.goF (.none))) (.two (.none) (.two (.two (.none) (.loop (cut2 (fun (m : Int) (i : Int) => J08 xs m i) (fun (m : Int) (i : Int) => [(0, .d false (.sl (.ints xs))), (3, .d true (.int .i64 m)), (4, .d true (.int .i64 i))]) (fun (m : Int) (i : Int) => [])) (fun g => J07 xs g.1 g.2) (fun _ => .none))) (.none))))
def J2N (xs : ZI) : Prop :=
  ((decide ((xs.length : Int) < 1)) = false) ∧ ((0 : Int) ≤ 0) ∧ ((0 : Int) < xs.length) ∧ (0 < xs.length) ∧ ((∃ m' : Int, ∃ i' : Int, (J08 xs m' i') ∧ (xs = xs) ∧ ((xs.getD 0 0) = m') ∧ ((1 : Int) = i')) ∧ (∀ m : Int, ∀ i : Int, (J08 xs m i) → (((decide (i < (xs.length : Int))) = true → ((0 : Int) ≤ i) ∧ ((i : Int) < xs.length) ∧ (i.toNat < xs.length) ∧ (I6 (i + 1)) ∧ (∃ m' : Int, ∃ i' : Int, (J08 xs m' i') ∧ (J07 xs m' i' < J07 xs m i) ∧ (xs = xs) ∧ ((max m (xs.getD i.toNat 0)) = m') ∧ ((i + 1) = i'))) ∧ ((decide (i < (xs.length : Int))) = false → ((m = (J6p xs)))))))
theorem J4Y (xs : ZI) (hp : 0 < xs.length) (w_xs : (xs.length : Int) ≤ 9223372036854775807) : J2N xs := by
  unfold J2N
  refine ⟨?_, ?_, ?_, ?_, ?_, ?_⟩
  ·exact decide_eq_false (by omega)
  ·omega
  ·omega
  ·omega
  ·refine ⟨(xs.getD 0 0), 1, ?_⟩
   refine ⟨?_, rfl, rfl, rfl⟩
   ·refine ⟨?_, ?_, ?_⟩
    ·omega
    ·omega
    ·show _ = max (xs.getD 0 0) (xs.getD 0 0)
     omega
  intro m i hJ
  obtain ⟨h1, h2, h3⟩ := hJ
  refine ⟨?_, ?_⟩
  ·intro b1
   try simp only [nrmT] at b1
   refine ⟨?_, ?_, ?_, ?_, ?_⟩
   ·omega
   ·omega
   ·omega
   ·omega
   refine ⟨(max m (xs.getD i.toNat 0)), (i + 1), ?_⟩
   refine ⟨?_, ?_, rfl, rfl, rfl⟩
   ·refine ⟨?_, ?_, ?_⟩
    ·omega
    ·omega
    ·rw [h3, show (i + 1).toNat = i.toNat + 1 by omega, J7Z]
   (simp only [J07]; omega)
  intro b2
  try simp only [nrmT] at b2
  unfold J6p; rw [h3, show i.toNat = xs.length by omega]
theorem J4Z (xs : ZI) (hp : 0 < xs.length) : PC Tryz.prog 191 [.sl (.ints xs)] (.one (.d (.int .i64 (J6p xs)))) :=
  pc_wf @Tryz.call191 fun hw => pc_by (by kernel_rfl) Tryz.func191 @Tryz.call191 (by kernel_rfl) J58 (J5e xs) (by kernel_rfl) (J4Y xs hp hw.1) (by kernel_rfl)
def J4C : List D → Orc := orcN [some .ints] fun ds => match ds with
  | [.sl (.ints xs)] => some (.one (.d (.int .i64 (J6p xs))))
  | _ => none
abbrev J3C (U : ZI) (E : ZR) (set : ZI) (most : Int) (i : Int) : Prop := (0 ≤ i) ∧ (i ≤ (E.length : Int)) ∧ (most = J2w E set i.toNat)
abbrev J3J (U : ZI) (E : ZR) (set : ZI) (most : Int) (i : Int) : Nat := (E.length - i).toNat
def JcA (f : FuncId) (ds : List D) : Orc := bif Nat.beq f 150 then J2X ds else bif Nat.beq f 154 then J2Z ds else .no
def Jci (U : ZI) (E : ZR) (set : ZI) : Ann := .two (.none) (.two (.none) (.two (.two (.none) (.loop (cut2 (fun (most : Int) (i : Int) => J3C U E set most i) (fun (most : Int) (i : Int) => [(1, .d false (.sl (.ints set))), (2, .ptr 2 0), (5, .d true (.int .i64 most)), (6, .d true (.int .i64 i))]) (fun (most : Int) (i : Int) => [(2, .box 27 [.d false (.sl (.ints U)), .d false (.sl (.rows E))])])) (fun g => J3J U E set g.1 g.2) (fun _ => .none))) (.none)))
def J9g (U : ZI) (E : ZR) (set : ZI) : Prop :=
  ((∃ most' : Int, ∃ i' : Int, (J3C U E set most' i') ∧ (set = set) ∧ ((0 : Int) = most') ∧ ((0 : Int) = i') ∧ (U = U) ∧ (E = E)) ∧ (∀ most : Int, ∀ i : Int, (J3C U E set most i) → (((decide (i < (E.length : Int))) = true → (PC Tryz.prog 150 [.agg [.sl (.ints U), .sl (.rows E)], .int .i64 i, .sl (.ints set)] (.one (.d (.int .i64 ((E.getD i.toNat []).getD (J8 (E.getD i.toNat []) set set.length).toNat 0))))) ∧ (PC Tryz.prog 154 [.int .i64 most, .int .i64 ((E.getD i.toNat []).getD (J8 (E.getD i.toNat []) set set.length).toNat 0)] (.one (.d (.int .i64 (max most ((E.getD i.toNat []).getD (J8 (E.getD i.toNat []) set set.length).toNat 0)))))) ∧ (I6 (i + 1)) ∧ (∃ most' : Int, ∃ i' : Int, (J3C U E set most' i') ∧ (J3J U E set most' i' < J3J U E set most i) ∧ (set = set) ∧ ((max most ((E.getD i.toNat []).getD (J8 (E.getD i.toNat []) set set.length).toNat 0)) = most') ∧ ((i + 1) = i') ∧ (U = U) ∧ (E = E))) ∧ ((decide (i < (E.length : Int))) = false → ((most = (J7 E set)))))))
theorem Jbq (U : ZI) (E : ZR) (set : ZI) (ht : (J0 U E && J2 set 0 ((U.length : Int) - 1) && decide (0 < set.length)) = true) (w_Open : (U.length : Int) ≤ 9223372036854775807) (w_Dist : (E.length : Int) ≤ 9223372036854775807) (v_Dist : ∀ x9 ∈ E, (x9.length : Int) ≤ 9223372036854775807) (w_set : (set.length : Int) ≤ 9223372036854775807) : J9g U E set := by
  unfold J9g
  obtain ⟨hg, hs, hp⟩ := Jj ht
  obtain ⟨g1, g2, g3⟩ := Jm hg
  refine ⟨?_, ?_⟩
  ·refine ⟨0, 0, ?_⟩
   refine ⟨?_, rfl, rfl, rfl, rfl, rfl⟩
   ·refine ⟨?_, ?_, ?_⟩
    ·omega
    ·omega
    ·rfl
  intro most i hJ
  obtain ⟨h1, h2, h3⟩ := hJ
  refine ⟨?_, ?_⟩
  ·intro b1
   try simp only [nrmT] at b1
   refine ⟨?_, J3M most ((E.getD i.toNat []).getD (J8 (E.getD i.toNat []) set set.length).toNat 0), ?_, ?_⟩
   ·refine J3s U E i set ?_ ?_
    ·exact ht
    ·omega
   ·omega
   refine ⟨(max most ((E.getD i.toNat []).getD (J8 (E.getD i.toNat []) set set.length).toNat 0)), (i + 1), ?_⟩
   refine ⟨?_, ?_, rfl, rfl, rfl, rfl, rfl⟩
   ·refine ⟨?_, ?_, ?_⟩
    ·omega
    ·omega
    ·rw [h3, show (i + 1).toNat = i.toNat + 1 by omega, J5o]; rfl
   (simp only [J3J]; omega)
  intro b2
  try simp only [nrmT] at b2
  rw [h3, show i.toNat = E.length by omega]; rfl
theorem Jc2 (U : ZI) (E : ZR) (set : ZI) (ht : (J0 U E && J2 set 0 ((U.length : Int) - 1) && decide (0 < set.length)) = true) : PC Tryz.prog 100 [.agg [.sl (.ints U), .sl (.rows E)], .sl (.ints set)] (.one (.d (.int .i64 (J7 E set)))) :=
  pc_wf @Tryz.call100 fun hw => pc_by (by kernel_rfl) Tryz.func100 @Tryz.call100 (by kernel_rfl) JcA (Jci U E set) (by kernel_rfl) (Jbq U E set ht hw.1.1 hw.1.2.1.1 hw.1.2.1.2 hw.2.1) (by kernel_rfl)
def Jba : List D → Orc := orcN [none, some .ints] fun ds => match ds with
  | [.agg [.sl (.ints U), .sl (.rows E)], .sl (.ints set)] => some (.one (.d (.int .i64 (J7 E set))))
  | _ => none
def J8h (f : FuncId) (ds : List D) : Orc := bif Nat.beq f 149 then J1t ds else bif Nat.beq f 191 then J4C ds else .no
def J8j (U : ZI) (E : ZR) (set : ZI) : Ann := .none
def J4N (U : ZI) (E : ZR) (set : ZI) : Prop :=
  (PC Tryz.prog 149 [.agg [.sl (.ints U), .sl (.rows E)], .sl (.ints set)] (.one (.own 3 (.ints (Jd E set E.length))))) ∧ ((Jd E set E.length).length = (Jd E set E.length).length) ∧ ((1 : Nat) = 1) ∧ (((Jd E set E.length).length + 1) * 8 ≤ 140737488355328) ∧ (((Jd E set E.length).length + 1) = (Jd E set E.length ++ [0]).length) ∧ (PC Tryz.prog 191 [.sl (.ints (Jd E set E.length ++ [0]))] (.one (.d (.int .i64 (J6p (Jd E set E.length ++ [0])))))) ∧ (((J6p (Jd E set E.length ++ [0])) = (J7 E set)))
theorem J7w (U : ZI) (E : ZR) (set : ZI) (ht : (J0 U E && J2 set 0 ((U.length : Int) - 1) && decide (0 < set.length)) = true) (w_Open : (U.length : Int) ≤ 9223372036854775807) (w_Dist : (E.length : Int) ≤ 9223372036854775807) (v_Dist : ∀ x9 ∈ E, (x9.length : Int) ≤ 9223372036854775807) (w_set : (set.length : Int) ≤ 9223372036854775807) : J4N U E set := by
  unfold J4N
  obtain ⟨hg, hs, hp⟩ := Jj ht
  obtain ⟨g1, g2, g3⟩ := Jm hg
  refine ⟨?_, rfl, rfl, ?_, ?_, ?_, ?_⟩
  ·refine J1R U E set ?_
   ·exact ht
  ·rw [Jx]; omega
  ·(simp_all; done)
  ·refine J4Z (Jd E set E.length ++ [0]) ?_
   ·simp
  exact Jdg E set
theorem J0B (U : ZI) (E : ZR) (set : ZI) (ht : (J0 U E && J2 set 0 ((U.length : Int) - 1) && decide (0 < set.length)) = true) : PC Tryz.prog 96 [.agg [.sl (.ints U), .sl (.rows E)], .sl (.ints set)] (.one (.d (.int .i64 (J7 E set)))) :=
  pc_wf @Tryz.call96 fun hw => pc_by (by kernel_rfl) Tryz.func96 @Tryz.call96 (by kernel_rfl) J8h (J8j U E set) (by kernel_rfl) (J7w U E set ht hw.1.1 hw.1.2.1.1 hw.1.2.1.2 hw.2.1) (by kernel_rfl)
def J15 : List D → Orc := orcN [none, some .ints] fun ds => match ds with
  | [.agg [.sl (.ints U), .sl (.rows E)], .sl (.ints set)] => some (.one (.d (.int .i64 (J7 E set))))
  | _ => none
theorem J11 {U : ZI} {E : ZR} {r : Int} : cond (!(J0 U E)) true (decide (r < 0)) = !(J0 U E && decide (0 ≤ r)) := by
  by_cases h : r < 0
  · rw [decide_eq_true h, decide_eq_false (by omega)]; cases J0 U E <;> rfl
  rw [decide_eq_false h, decide_eq_true (by omega)]; cases J0 U E <;> rfl
abbrev J0K (U : ZI) (E : ZR) (r : Int) (i : Int) : Prop := (0 ≤ i) ∧ (i ≤ ((J5 (U.length : Int).toNat).length : Int)) ∧ (∀ k, k < i.toNat → (fun s => decide (J7 E s ≤ r)) ((J5 (U.length : Int).toNat).getD k []) = false)
abbrev J0O (U : ZI) (E : ZR) (r : Int) (i : Int) : Nat := ((J5 (U.length : Int).toNat).length - i).toNat
def J6v (f : FuncId) (ds : List D) : Orc := bif Nat.beq f 112 then J39 ds else bif Nat.beq f 148 then J6e ds else bif Nat.beq f 100 then Jba ds else bif Nat.beq f 98 then J2o ds else .no
def J6U (U : ZI) (E : ZR) (r : Int) : Ann := .two (.none) (.two (.none) (.two (.none) (.two (.two (.none) (.loop (cut1 (fun (i : Int) => J0K U E r i) (fun (i : Int) => [(1, .d false (.int .i64 r)), (2, .ptr 2 0), (6, .d true (.sl (.rows (J5 (U.length : Int).toNat)))), (7, .d true (.int .i64 i))]) (fun (i : Int) => [(2, .box 27 [.d false (.sl (.ints U)), .d false (.sl (.rows E))])])) (fun g => J0O U E r g) (fun _ => .none))) (.none))))
def J4a (U : ZI) (E : ZR) (r : Int) : Prop :=
  (PC Tryz.prog 112 [.agg [.sl (.ints U), .sl (.rows E)]] (.one (.d (.bool (J0 U E))))) ∧ ((!(!(J0 U E))) = true → (!(!(J0 U E))) = true) ∧ (true = true) ∧ (((!(J0 U E)) = true → true = true)) ∧ (((!(J0 U E)) = false → (!(!(J0 U E))) = true)) ∧ (((cond (!(J0 U E)) true (decide (r < 0))) = true → (((0 : Nat) = 0) ∧ (([] : ZI) = J4 U E r) ∧ (false = (Jc U E r)))) ∧ ((cond (!(J0 U E)) true (decide (r < 0))) = false → (PC Tryz.prog 148 [.int .i64 (U.length : Int)] (.one (.d (.sl (.rows (J5 (U.length : Int).toNat)))))) ∧ ((∃ i' : Int, (J0K U E r i') ∧ (r = r) ∧ ((J5 (U.length : Int).toNat) = (J5 (U.length : Int).toNat)) ∧ ((0 : Int) = i') ∧ (U = U) ∧ (E = E)) ∧ (∀ i : Int, (J0K U E r i) → (((decide (i < (((J5 (U.length : Int).toNat).length) : Int))) = true → (true = true) ∧ ((0 : Int) ≤ i) ∧ ((i : Int) < (J5 (U.length : Int).toNat).length) ∧ (i.toNat < (J5 (U.length : Int).toNat).length) ∧ (PC Tryz.prog 100 [.agg [.sl (.ints U), .sl (.rows E)], .sl (.ints ((J5 (U.length : Int).toNat).getD i.toNat []))] (.one (.d (.int .i64 (J7 E ((J5 (U.length : Int).toNat).getD i.toNat [])))))) ∧ (((decide ((J7 E ((J5 (U.length : Int).toNat).getD i.toNat [])) ≤ r)) = true → ((0 : Int) ≤ i) ∧ ((i : Int) < (J5 (U.length : Int).toNat).length) ∧ (i.toNat < (J5 (U.length : Int).toNat).length) ∧ (PC Tryz.prog 98 [.sl (.ints ((J5 (U.length : Int).toNat).getD i.toNat []))] (.one (.own 3 (.ints ((J5 (U.length : Int).toNat).getD i.toNat []))))) ∧ ((((J5 (U.length : Int).toNat).getD i.toNat []).length = ((J5 (U.length : Int).toNat).getD i.toNat []).length) ∧ ((((J5 (U.length : Int).toNat).getD i.toNat []) : ZI) = J4 U E r) ∧ (true = (Jc U E r)))) ∧ ((decide ((J7 E ((J5 (U.length : Int).toNat).getD i.toNat [])) ≤ r)) = false → (I6 (i + 1)) ∧ (∃ i' : Int, (J0K U E r i') ∧ (J0O U E r i' < J0O U E r i) ∧ (r = r) ∧ ((J5 (U.length : Int).toNat) = (J5 (U.length : Int).toNat)) ∧ ((i + 1) = i') ∧ (U = U) ∧ (E = E))))) ∧ ((decide (i < (((J5 (U.length : Int).toNat).length) : Int))) = false → (((0 : Nat) = 0) ∧ (([] : ZI) = J4 U E r) ∧ (false = (Jc U E r)))))))))
theorem J5U (U : ZI) (E : ZR) (r : Int)  (w_Open : (U.length : Int) ≤ 9223372036854775807) (w_Dist : (E.length : Int) ≤ 9223372036854775807) (v_Dist : ∀ x9 ∈ E, (x9.length : Int) ≤ 9223372036854775807) : J4a U E r := by
  unfold J4a
  refine ⟨J3I U E, id, rfl, fun _ => rfl, ?_, ?_, ?_⟩
  ·intro h; rw [h]; rfl
  ·intro b1
   refine ⟨rfl, ?_, ?_⟩
   ·obtain ⟨c1, c2⟩ := J1Q (U := U) (E := E) (r := r) (.inl (by have h9 := J11 (U := U) (E := E) (r := r); rw [b1] at h9; revert h9; cases (J0 U E && decide (0 ≤ r)) <;> simp))
    exact c2.symm
   obtain ⟨c1, c2⟩ := J1Q (U := U) (E := E) (r := r) (.inl (by have h9 := J11 (U := U) (E := E) (r := r); rw [b1] at h9; revert h9; cases (J0 U E && decide (0 ≤ r)) <;> simp))
   exact c1.symm
  intro b2
  refine ⟨?_, ?_, ?_⟩
  ·refine J79 (U.length : Int) ?_
   ·have hgr : (J0 U E && decide (0 ≤ r)) = true := by
      have h9 := J11 (U := U) (E := E) (r := r)
      rw [b2] at h9
      simpa using h9.symm
    rw [Bool.and_eq_true] at hgr
    obtain ⟨hg, hr⟩ := hgr
    have hr := of_decide_eq_true hr
    have := Jm hg
    omega
  ·refine ⟨0, ?_⟩
   refine ⟨?_, rfl, rfl, rfl, rfl, rfl⟩
   ·refine ⟨?_, ?_, ?_⟩
    ·omega
    ·omega
    ·intro k hk; exact absurd hk (by simp)
  intro i hJ
  obtain ⟨h1, h2, h3⟩ := hJ
  refine ⟨?_, ?_⟩
  ·intro b3
   try simp only [nrmT] at b3
   refine ⟨rfl, ?_, ?_, ?_, ?_, ?_, ?_⟩
   ·omega
   ·omega
   ·omega
   ·refine Jc2 U E ((J5 (U.length : Int).toNat).getD i.toNat []) ?_
    ·have hgr : (J0 U E && decide (0 ≤ r)) = true := by
       have h9 := J11 (U := U) (E := E) (r := r)
       rw [b2] at h9
       simpa using h9.symm
     rw [Bool.and_eq_true] at hgr
     obtain ⟨hg, hr⟩ := hgr
     have hr := of_decide_eq_true hr
     have ht2 := (JV hg (getD_memI (d := []) h1 (by omega : i < ((J5 (U.length : Int).toNat).length : Int)))).1
     exact ht2
   ·intro b4
    try simp only [nrmT] at b4
    refine ⟨?_, ?_, ?_, ?_, rfl, ?_, ?_⟩
    ·omega
    ·omega
    ·omega
    ·refine J29 ((J5 (U.length : Int).toNat).getD i.toNat []) ?_
     ·have hgr : (J0 U E && decide (0 ≤ r)) = true := by
        have := J11 (U := U) (E := E) (r := r)
        rw [b2] at this
        simpa using this.symm
      rw [Bool.and_eq_true] at hgr
      have := (JV hgr.1 (getD_memI (d := []) h1 (by omega : i < ((J5 (U.length : Int).toNat).length : Int)))).2
      omega
    ·have hgr : (J0 U E && decide (0 ≤ r)) = true := by
       have h9 := J11 (U := U) (E := E) (r := r)
       rw [b2] at h9
       simpa using h9.symm
     rw [Bool.and_eq_true] at hgr
     obtain ⟨hg, hr⟩ := hgr
     have hr := of_decide_eq_true hr
     have ht2 := (JV hg (getD_memI (d := []) h1 (by omega : i < ((J5 (U.length : Int).toNat).length : Int)))).1
     obtain ⟨c1, c2⟩ := J6r hg hr h1 (idx_found (p := fun s => decide (J7 E s ≤ r)) (d := []) h1 (by omega) h3 (by simpa using b4)).symm
     exact c2.symm
    have hgr : (J0 U E && decide (0 ≤ r)) = true := by
      have h9 := J11 (U := U) (E := E) (r := r)
      rw [b2] at h9
      simpa using h9.symm
    rw [Bool.and_eq_true] at hgr
    obtain ⟨hg, hr⟩ := hgr
    have hr := of_decide_eq_true hr
    have ht2 := (JV hg (getD_memI (d := []) h1 (by omega : i < ((J5 (U.length : Int).toNat).length : Int)))).1
    obtain ⟨c1, c2⟩ := J6r hg hr h1 (idx_found (p := fun s => decide (J7 E s ≤ r)) (d := []) h1 (by omega) h3 (by simpa using b4)).symm
    exact c1.symm
   intro b5
   try simp only [nrmT] at b5
   refine ⟨?_, ?_⟩
   ·have hgr : (J0 U E && decide (0 ≤ r)) = true := by
      have h9 := J11 (U := U) (E := E) (r := r)
      rw [b2] at h9
      simpa using h9.symm
    rw [Bool.and_eq_true] at hgr
    obtain ⟨hg, hr⟩ := hgr
    have hr := of_decide_eq_true hr
    have := Jm hg
    have := J4e (n := (U.length : Int).toNat) (by omega)
    omega
   refine ⟨(i + 1), ?_⟩
   refine ⟨?_, ?_, rfl, rfl, rfl, rfl, rfl⟩
   ·refine ⟨?_, ?_, ?_⟩
    ·omega
    ·omega
    ·exact idx_step (p := fun s => decide (J7 E s ≤ r)) h1 h3 (by simpa using b5)
   (simp only [J0O]; omega)
  intro b6
  try simp only [nrmT] at b6
  refine ⟨rfl, ?_, ?_⟩
  ·have hgr : (J0 U E && decide (0 ≤ r)) = true := by
     have h9 := J11 (U := U) (E := E) (r := r)
     rw [b2] at h9
     simpa using h9.symm
   rw [Bool.and_eq_true] at hgr
   obtain ⟨hg, hr⟩ := hgr
   have hr := of_decide_eq_true hr
   obtain ⟨c1, c2⟩ := J1Q (U := U) (E := E) (r := r) (.inr (idx_none (p := fun s => decide (J7 E s ≤ r)) (d := []) (by omega) h3))
   exact c2.symm
  have hgr : (J0 U E && decide (0 ≤ r)) = true := by
    have h9 := J11 (U := U) (E := E) (r := r)
    rw [b2] at h9
    simpa using h9.symm
  rw [Bool.and_eq_true] at hgr
  obtain ⟨hg, hr⟩ := hgr
  have hr := of_decide_eq_true hr
  obtain ⟨c1, c2⟩ := J1Q (U := U) (E := E) (r := r) (.inr (idx_none (p := fun s => decide (J7 E s ≤ r)) (d := []) (by omega) h3))
  exact c1.symm
theorem J6j (U : ZI) (E : ZR) (r : Int)  : PC Tryz.prog 56 [.agg [.sl (.ints U), .sl (.rows E)], .int .i64 r] (.tup [.own 3 (.ints (J4 U E r)), .d (.bool (Jc U E r))]) :=
  pc_wf @Tryz.call56 fun hw => pc_by (by kernel_rfl) Tryz.func56 @Tryz.call56 (by kernel_rfl) J6v (J6U U E r) (by kernel_rfl) (J5U U E r hw.1.1 hw.1.2.1.1 hw.1.2.1.2) (by kernel_rfl)
def J5J : List D → Orc := orcN [none, none] fun ds => match ds with
  | [.agg [.sl (.ints U), .sl (.rows E)], .int .i64 r] => some (.tup [.own 3 (.ints (J4 U E r)), .d (.bool (Jc U E r))])
  | _ => none
abbrev J0L (U : ZI) (E : ZR) (r : Int) (i : Int) : Prop := (0 ≤ i) ∧ (i ≤ ((J5 (U.length : Int).toNat).length : Int)) ∧ (∀ k, k < i.toNat → (fun s => decide (J7 E s ≤ r)) ((J5 (U.length : Int).toNat).getD k []) = false)
abbrev J0P (U : ZI) (E : ZR) (r : Int) (i : Int) : Nat := ((J5 (U.length : Int).toNat).length - i).toNat
def J6H (f : FuncId) (ds : List D) : Orc := bif Nat.beq f 114 then J8J ds else bif Nat.beq f 115 then J8u ds else bif Nat.beq f 96 then J15 ds else .no
def J6N (U : ZI) (E : ZR) (r : Int) : Ann := .two (.none) (.two (.none) (.two (.two (.none) (.loop (cut1 (fun (i : Int) => J0L U E r i) (fun (i : Int) => [(1, .d false (.int .i64 r)), (2, .ptr 2 0), (15, .own 15 ((J5 (U.length : Int).toNat).length)), (16, .d true (.int .i64 (((J5 (U.length : Int).toNat).length) : Int))), (17, .d true (.int .i64 i))]) (fun (i : Int) => [(2, .box 27 [.d false (.sl (.ints U)), .d false (.sl (.rows E))]), (15, .arr true 24 (.rows (J5 (U.length : Int).toNat)))])) (fun g => J0P U E r g) (fun _ => .none))) (.none)))
def J4b (U : ZI) (E : ZR) (r : Int) : Prop :=
  (PC Tryz.prog 114 [.agg [.sl (.ints U), .sl (.rows E)], .int .i64 r] (.one (.d (.bool (J0 U E && decide (0 ≤ r)))))) ∧ (((!(J0 U E && decide (0 ≤ r))) = true → (((J4 U E r).length = 0) ∧ (false = (Jc U E r)))) ∧ ((!(J0 U E && decide (0 ≤ r))) = false → (PC Tryz.prog 115 [.int .i64 (U.length : Int)] (.one (.own 24 (.rows (J5 (U.length : Int).toNat))))) ∧ ((∃ i' : Int, (J0L U E r i') ∧ (r = r) ∧ ((J5 (U.length : Int).toNat).length = (J5 (U.length : Int).toNat).length) ∧ ((((J5 (U.length : Int).toNat).length) : Int) = (((J5 (U.length : Int).toNat).length) : Int)) ∧ ((0 : Int) = i') ∧ (U = U) ∧ (E = E) ∧ (J5 (U.length : Int).toNat = J5 (U.length : Int).toNat)) ∧ (∀ i : Int, (J0L U E r i) → (((decide (i < (((J5 (U.length : Int).toNat).length) : Int))) = true → ((0 : Int) ≤ i) ∧ ((i : Int) < (((J5 (U.length : Int).toNat).length) : Int)) ∧ (i.toNat < (J5 (U.length : Int).toNat).length) ∧ (PC Tryz.prog 96 [.agg [.sl (.ints U), .sl (.rows E)], .sl (.ints ((J5 (U.length : Int).toNat).getD i.toNat []))] (.one (.d (.int .i64 (J7 E ((J5 (U.length : Int).toNat).getD i.toNat [])))))) ∧ (((decide ((J7 E ((J5 (U.length : Int).toNat).getD i.toNat [])) ≤ r)) = true → (((((J5 (U.length : Int).toNat).getD i.toNat []) : ZI) = (J4 U E r)) ∧ (true = (Jc U E r)))) ∧ ((decide ((J7 E ((J5 (U.length : Int).toNat).getD i.toNat [])) ≤ r)) = false → (I6 (i + 1)) ∧ (∃ i' : Int, (J0L U E r i') ∧ (J0P U E r i' < J0P U E r i) ∧ (r = r) ∧ ((J5 (U.length : Int).toNat).length = (J5 (U.length : Int).toNat).length) ∧ ((((J5 (U.length : Int).toNat).length) : Int) = (((J5 (U.length : Int).toNat).length) : Int)) ∧ ((i + 1) = i') ∧ (U = U) ∧ (E = E) ∧ (J5 (U.length : Int).toNat = J5 (U.length : Int).toNat))))) ∧ ((decide (i < (((J5 (U.length : Int).toNat).length) : Int))) = false → (((J4 U E r).length = 0) ∧ (false = (Jc U E r)))))))))
theorem J6f (U : ZI) (E : ZR) (r : Int)  (w_Open : (U.length : Int) ≤ 9223372036854775807) (w_Dist : (E.length : Int) ≤ 9223372036854775807) (v_Dist : ∀ x9 ∈ E, (x9.length : Int) ≤ 9223372036854775807) : J4b U E r := by
  unfold J4b
  refine ⟨J9v U E r, ?_, ?_⟩
  ·intro b1
   try simp only [Bool.not_eq_true', Bool.not_eq_false', Bool.not_not] at b1
   refine ⟨?_, ?_⟩
   ·obtain ⟨c1, c2⟩ := J1Q (U := U) (E := E) (r := r) (.inl (by simpa using b1))
    (rw [c2]; rfl)
   obtain ⟨c1, c2⟩ := J1Q (U := U) (E := E) (r := r) (.inl (by simpa using b1))
   exact c1.symm
  intro b2
  try simp only [Bool.not_eq_true', Bool.not_eq_false', Bool.not_not] at b2
  refine ⟨?_, ?_, ?_⟩
  ·refine J9r (U.length : Int) ?_
   ·have hgr : (J0 U E && decide (0 ≤ r)) = true := by simpa using b2
    rw [Bool.and_eq_true] at hgr
    obtain ⟨hg, hr⟩ := hgr
    have hr := of_decide_eq_true hr
    have := Jm hg
    omega
  ·refine ⟨0, ?_⟩
   refine ⟨?_, rfl, rfl, rfl, rfl, rfl, rfl, rfl⟩
   ·refine ⟨?_, ?_, ?_⟩
    ·omega
    ·omega
    ·intro k hk; exact absurd hk (by simp)
  intro i hJ
  obtain ⟨h1, h2, h3⟩ := hJ
  refine ⟨?_, ?_⟩
  ·intro b3
   try simp only [nrmT] at b3
   refine ⟨?_, ?_, ?_, ?_, ?_, ?_⟩
   ·omega
   ·omega
   ·omega
   ·refine J0B U E ((J5 (U.length : Int).toNat).getD i.toNat []) ?_
    ·have hgr : (J0 U E && decide (0 ≤ r)) = true := by simpa using b2
     rw [Bool.and_eq_true] at hgr
     obtain ⟨hg, hr⟩ := hgr
     have hr := of_decide_eq_true hr
     have ht2 := (JV hg (getD_memI (d := []) h1 (by omega : i < ((J5 (U.length : Int).toNat).length : Int)))).1
     exact ht2
   ·intro b4
    try simp only [nrmT] at b4
    refine ⟨?_, ?_⟩
    ·have hgr : (J0 U E && decide (0 ≤ r)) = true := by simpa using b2
     rw [Bool.and_eq_true] at hgr
     obtain ⟨hg, hr⟩ := hgr
     have hr := of_decide_eq_true hr
     have ht2 := (JV hg (getD_memI (d := []) h1 (by omega : i < ((J5 (U.length : Int).toNat).length : Int)))).1
     obtain ⟨c1, c2⟩ := J6r hg hr h1 (idx_found (p := fun s => decide (J7 E s ≤ r)) (d := []) h1 (by omega) h3 (by simpa using b4)).symm
     exact c2.symm
    have hgr : (J0 U E && decide (0 ≤ r)) = true := by simpa using b2
    rw [Bool.and_eq_true] at hgr
    obtain ⟨hg, hr⟩ := hgr
    have hr := of_decide_eq_true hr
    have ht2 := (JV hg (getD_memI (d := []) h1 (by omega : i < ((J5 (U.length : Int).toNat).length : Int)))).1
    obtain ⟨c1, c2⟩ := J6r hg hr h1 (idx_found (p := fun s => decide (J7 E s ≤ r)) (d := []) h1 (by omega) h3 (by simpa using b4)).symm
    exact c1.symm
   intro b5
   try simp only [nrmT] at b5
   refine ⟨?_, ?_⟩
   ·have hgr : (J0 U E && decide (0 ≤ r)) = true := by simpa using b2
    rw [Bool.and_eq_true] at hgr
    obtain ⟨hg, hr⟩ := hgr
    have hr := of_decide_eq_true hr
    have := Jm hg
    have := J4e (n := (U.length : Int).toNat) (by omega)
    omega
   refine ⟨(i + 1), ?_⟩
   refine ⟨?_, ?_, rfl, rfl, rfl, rfl, rfl, rfl, rfl⟩
   ·refine ⟨?_, ?_, ?_⟩
    ·omega
    ·omega
    ·exact idx_step (p := fun s => decide (J7 E s ≤ r)) h1 h3 (by simpa using b5)
   (simp only [J0P]; omega)
  intro b6
  try simp only [nrmT] at b6
  refine ⟨?_, ?_⟩
  ·have hgr : (J0 U E && decide (0 ≤ r)) = true := by simpa using b2
   rw [Bool.and_eq_true] at hgr
   obtain ⟨hg, hr⟩ := hgr
   have hr := of_decide_eq_true hr
   obtain ⟨c1, c2⟩ := J1Q (U := U) (E := E) (r := r) (.inr (idx_none (p := fun s => decide (J7 E s ≤ r)) (d := []) (by omega) h3))
   (rw [c2]; rfl)
  have hgr : (J0 U E && decide (0 ≤ r)) = true := by simpa using b2
  rw [Bool.and_eq_true] at hgr
  obtain ⟨hg, hr⟩ := hgr
  have hr := of_decide_eq_true hr
  obtain ⟨c1, c2⟩ := J1Q (U := U) (E := E) (r := r) (.inr (idx_none (p := fun s => decide (J7 E s ≤ r)) (d := []) (by omega) h3))
  exact c1.symm
theorem J68 (U : ZI) (E : ZR) (r : Int)  : PC Tryz.prog 27 [.agg [.sl (.ints U), .sl (.rows E)], .int .i64 r] (.tup [.d (.sl (.ints (J4 U E r))), .d (.bool (Jc U E r))]) :=
  pc_wf @Tryz.call27 fun hw => pc_by (by kernel_rfl) Tryz.func27 @Tryz.call27 (by kernel_rfl) J6H (J6N U E r) (by kernel_rfl) (J6f U E r hw.1.1 hw.1.2.1.1 hw.1.2.1.2) (by kernel_rfl)
def J5E : List D → Orc := orcN [none, none] fun ds => match ds with
  | [.agg [.sl (.ints U), .sl (.rows E)], .int .i64 r] => some (.tup [.d (.sl (.ints (J4 U E r))), .d (.bool (Jc U E r))])
  | _ => none
def lsB (v : ZI → Int) (b s : ZI) : ZI := if v s < v b then s else b
def J0b (v : ZI → Int) (l : ZR) : ZI := l.foldl (lsB v) (l.getD 0 [])
theorem JcW (v : ZI → Int) (b : ZI) : lsB v b b = b := by unfold lsB; split <;> rfl
theorem J2L {α β : Type} {f : β → α → β} {b : β} {l : List α} {i : Int} {d : α} (h0 : 0 ≤ i) (h : i < (l.length : Int)) : (l.take (i + 1).toNat).foldl f b = f ((l.take i.toNat).foldl f b) (l.getD i.toNat d) := by
  rw [take_step (d := d) h0 h, List.foldl_append]
  rfl
theorem J34 {v : ZI → Int} {l : ZR} (h : 0 < l.length) : J0b v l ∈ l := by
  have key : ∀ (r : ZR) (b : ZI), b ∈ l → (∀ x ∈ r, x ∈ l) → r.foldl (lsB v) b ∈ l := by
    intro r
    induction r with
    | nil => intro b hb _; exact hb
    | cons x r ih =>
      intro b hb hr
      refine ih _ ?_ fun y hy => hr y (List.mem_cons_of_mem _ hy)
      unfold lsB
      split
      · exact hr x List.mem_cons_self
      exact hb
  exact key l _ (getD_mem h) fun x hx => hx
theorem Jby {v : ZI → Int} {l : ZR} (h : 0 < l.length) : (l.take (1 : Int).toNat).foldl (lsB v) (l.getD 0 []) = l.getD 0 [] := by
  cases l with
  | nil => simp at h
  | cons x r => exact JcW v x
theorem Ja4 {U : ZI} {E : ZR} {set : ZI} (ht : (J0 U E && J2 set 0 ((U.length : Int) - 1) && decide (0 < set.length)) = true) {j : Nat} (hj : j < E.length) : 0 ≤ JB E set j ∧ JB E set j ≤ 99 := by
  obtain ⟨hg, hs, hp⟩ := Jj ht
  obtain ⟨rl, rb⟩ := J0o hg hj
  have si := J00 (row := E.getD j []) (set := set) (n := (U.length : Int)) (fun k hk => by have := JU hs k hk; omega) hp set.length (Nat.le_refl _)
  exact rb _ (by omega)
theorem Jc1 {g : Addr → Option Value} {O : Nat → Prop} {v : Value} {x : ZI} (h : R g O v (.sl (.ints x))) : ∃ (ad : Option Addr) (cap : Nat), v = .slice ad x.length cap := by
  cases h with
  | slnil _ h0 => exact ⟨none, 0, by rw [show x.length = 0 from h0]⟩
  | sl _ a n cap hn _ _ _ _ => exact ⟨some a, cap, by rw [hn]; rfl⟩
theorem Jd2 {g : Addr → Option Value} {O : Nat → Prop} {v : Value} {k : Int} (h : R g O v (.bx [.int .i64 k] 0)) : ∃ b : Addr, v = .pointer (some b) ∧ g b = some (.int .i64 k) := by
  cases h with
  | bx _ a _ f hc hr =>
    refine ⟨a.add 0, rfl, ?_⟩
    have h1 := (hc 0 (by simp)).1
    have h2 := hr 0 (.int .i64 k) rfl
    rw [h1]
    cases hf : f 0 <;> rw [hf] at h2 <;> cases h2
    rfl
theorem JcS {n k : Nat} (h : k ≤ n) : (lst n (2 ^ k - 1)).length = k := by
  unfold lst
  rw [J30 (m := k) (fun i hi => Nat.testBit_lt_two_pow (Nat.lt_of_lt_of_le (Nat.sub_lt (Nat.two_pow_pos k) (by omega)) (Nat.pow_le_pow_right (by omega) hi))) n h, Jcu, J5i]
theorem JcM {n : Nat} {k : Int} (h1 : 1 ≤ k) (h2 : k ≤ n) : ∃ s ∈ J5 n, (s.length : Int) = k := by
  refine ⟨lst n (2 ^ k.toNat - 1), J6a.2 ⟨_, ?_, ?_, rfl⟩, by rw [JcS (by omega)]; omega⟩
  · have := Nat.pow_le_pow_right (n := 2) (by omega) (show 1 ≤ k.toNat by omega)
    omega
  have h3 := Nat.pow_le_pow_right (n := 2) (by omega) (show k.toNat ≤ n by omega)
  have h4 := Nat.two_pow_pos k.toNat
  omega
theorem JbD {p : ZI → Bool} {l : ZR} (h : ∃ s ∈ l, p s = true) : 0 < (l.filter p).length := by
  obtain ⟨s, h1, h2⟩ := h
  exact List.length_pos_of_mem (List.mem_filter.2 ⟨h1, h2⟩)
theorem J9q {v : ZI → Int} {l : ZR} : ∀ x ∈ l, v (J0b v l) ≤ v x := by
  have key : ∀ (r : ZR) (b : ZI), v (r.foldl (lsB v) b) ≤ v b ∧ ∀ x ∈ r, v (r.foldl (lsB v) b) ≤ v x := by
    intro r
    induction r with
    | nil => intro b; exact ⟨Int.le_refl _, fun x hx => by cases hx⟩
    | cons y r ih =>
      intro b
      obtain ⟨h1, h2⟩ := ih (lsB v b y)
      have h3 : v (lsB v b y) ≤ v b ∧ v (lsB v b y) ≤ v y := by
        unfold lsB
        split <;> omega
      refine ⟨Int.le_trans h1 h3.1, fun x hx => ?_⟩
      rcases List.mem_cons.1 hx with rfl | hx
      · exact Int.le_trans h1 h3.2
      exact h2 x hx
  exact fun x hx => (key l _).2 x hx
abbrev J0Z (xss : ZR) (U : ZI) (E : ZR) (best : ZI) (i : Int) : Prop := (0 ≤ i) ∧ (i ≤ (xss.length : Int)) ∧ (best ∈ xss) ∧ (best = (xss.take i.toNat).foldl (lsB (J7 E)) (xss.getD 0 []))
abbrev J04 (xss : ZR) (U : ZI) (E : ZR) (best : ZI) (i : Int) : Nat := (xss.length - i).toNat
def J9u (f : FuncId) (ds : List D) : Orc := bif Nat.beq f 96 then J15 ds else .no
def J9O (xss : ZR) (U : ZI) (E : ZR) : Ann := .two (.none) (.two (.none) (.two (.two (.none) (.loop (cut2 (fun (best : ZI) (i : Int) => J0Z xss U E best i) (fun (best : ZI) (i : Int) => [(1, .d false (.fn 96 1 [.agg [.sl (.ints U), .sl (.rows E)]])), (5, .d true (.sl (.ints best))), (11, .d true (.sl (.rows xss))), (12, .d true (.int .i64 (xss.length : Int))), (13, .d true (.int .i64 i))]) (fun (best : ZI) (i : Int) => [])) (fun g => J04 xss U E g.1 g.2) (fun _ => .none))) (.none)))
def J5v (xss : ZR) (U : ZI) (E : ZR) : Prop :=
  ((0 : Int) ≤ 0) ∧ ((0 : Int) < xss.length) ∧ (0 < xss.length) ∧ ((∃ best' : ZI, ∃ i' : Int, (J0Z xss U E best' i') ∧ ((.fn 96 1 [.agg [.sl (.ints U), .sl (.rows E)]] : D) = (.fn 96 1 [.agg [.sl (.ints U), .sl (.rows E)]] : D)) ∧ ((xss.getD 0 []) = best') ∧ (xss = xss) ∧ ((xss.length : Int) = (xss.length : Int)) ∧ ((0 : Int) = i')) ∧ (∀ best : ZI, ∀ i : Int, (J0Z xss U E best i) → (((decide (i < (xss.length : Int))) = true → ((0 : Int) ≤ i) ∧ ((i : Int) < xss.length) ∧ (i.toNat < xss.length) ∧ (PC Tryz.prog 96 [.agg [.sl (.ints U), .sl (.rows E)], .sl (.ints (xss.getD i.toNat []))] (.one (.d (.int .i64 (J7 E (xss.getD i.toNat [])))))) ∧ (PC Tryz.prog 96 [.agg [.sl (.ints U), .sl (.rows E)], .sl (.ints best)] (.one (.d (.int .i64 (J7 E best))))) ∧ (((decide ((J7 E (xss.getD i.toNat [])) < (J7 E best))) = true → (I6 (i + 1)) ∧ (∃ best' : ZI, ∃ i' : Int, (J0Z xss U E best' i') ∧ (J04 xss U E best' i' < J04 xss U E best i) ∧ ((.fn 96 1 [.agg [.sl (.ints U), .sl (.rows E)]] : D) = (.fn 96 1 [.agg [.sl (.ints U), .sl (.rows E)]] : D)) ∧ ((xss.getD i.toNat []) = best') ∧ (xss = xss) ∧ ((xss.length : Int) = (xss.length : Int)) ∧ ((i + 1) = i'))) ∧ ((decide ((J7 E (xss.getD i.toNat [])) < (J7 E best))) = false → (I6 (i + 1)) ∧ (∃ best' : ZI, ∃ i' : Int, (J0Z xss U E best' i') ∧ (J04 xss U E best' i' < J04 xss U E best i) ∧ ((.fn 96 1 [.agg [.sl (.ints U), .sl (.rows E)]] : D) = (.fn 96 1 [.agg [.sl (.ints U), .sl (.rows E)]] : D)) ∧ (best = best') ∧ (xss = xss) ∧ ((xss.length : Int) = (xss.length : Int)) ∧ ((i + 1) = i'))))) ∧ ((decide (i < (xss.length : Int))) = false → (((best : ZI) = (J0b (J7 E) xss)))))))
theorem J8E (xss : ZR) (U : ZI) (E : ZR) (hp : 0 < xss.length) (hx : ∀ s ∈ xss, J0 U E && J2 s 0 ((U.length : Int) - 1) && decide (0 < s.length)) (w_xss : (xss.length : Int) ≤ 9223372036854775807) (v_xss : ∀ x9 ∈ xss, (x9.length : Int) ≤ 9223372036854775807) (w_Open : (U.length : Int) ≤ 9223372036854775807) (w_Dist : (E.length : Int) ≤ 9223372036854775807) (v_Dist : ∀ x9 ∈ E, (x9.length : Int) ≤ 9223372036854775807) : J5v xss U E := by
  unfold J5v
  refine ⟨?_, ?_, ?_, ?_, ?_⟩
  ·omega
  ·omega
  ·omega
  ·refine ⟨(xss.getD 0 []), 0, ?_⟩
   refine ⟨?_, rfl, rfl, rfl, rfl, rfl⟩
   ·refine ⟨?_, ?_, ?_, ?_⟩
    ·omega
    ·omega
    ·exact getD_mem hp
    ·rfl
  intro best i hJ
  obtain ⟨h1, h2, h3, h4⟩ := hJ
  refine ⟨?_, ?_⟩
  ·intro b1
   try simp only [nrmT] at b1
   refine ⟨?_, ?_, ?_, ?_, ?_, ?_, ?_⟩
   ·omega
   ·omega
   ·omega
   ·refine J0B U E (xss.getD i.toNat []) ?_
    ·exact hx _ (getD_memI h1 (by omega))
   ·refine J0B U E best ?_
    ·exact hx _ h3
   ·intro b2
    try simp only [nrmT] at b2
    refine ⟨?_, ?_⟩
    ·omega
    refine ⟨(xss.getD i.toNat []), (i + 1), ?_⟩
    refine ⟨?_, ?_, rfl, rfl, rfl, rfl, rfl⟩
    ·refine ⟨?_, ?_, ?_, ?_⟩
     ·omega
     ·omega
     ·exact getD_memI h1 (by omega)
     ·rw [J2L (d := []) h1 (by omega), ← h4]; unfold lsB; rw [if_pos b2]
    (simp only [J04]; omega)
   intro b3
   try simp only [nrmT] at b3
   refine ⟨?_, ?_⟩
   ·omega
   refine ⟨best, (i + 1), ?_⟩
   refine ⟨?_, ?_, rfl, rfl, rfl, rfl, rfl⟩
   ·refine ⟨?_, ?_, ?_, ?_⟩
    ·omega
    ·omega
    ·exact h3
    ·rw [J2L (d := []) h1 (by omega), ← h4]; unfold lsB; (try dsimp only); rw [if_neg (by omega)]
   (simp only [J04]; omega)
  intro b4
  try simp only [nrmT] at b4
  rw [h4, take_all (by omega)]; rfl
theorem J8y (xss : ZR) (U : ZI) (E : ZR) (hp : 0 < xss.length) (hx : ∀ s ∈ xss, J0 U E && J2 s 0 ((U.length : Int) - 1) && decide (0 < s.length)) : PCs Tryz.prog 94 [.sl (.rows xss), .fn 96 1 [.agg [.sl (.ints U), .sl (.rows E)]]] 0 (.sl (.ints (J0b (J7 E) xss))) :=
  pcs_wf @Tryz.call94 fun hw => pcs_by (by kernel_rfl) Tryz.func94 @Tryz.call94 (by kernel_rfl) J9u (J9O xss U E) (by kernel_rfl) (J8E xss U E hp hx hw.1.1 hw.1.2 hw.2.1.1.1 hw.2.1.1.2.1.1 hw.2.1.1.2.1.2) (by kernel_rfl)
def J86 : List D → Orc := orcS 0 fun ds => match ds with
  | [.sl (.rows xss), .fn f0 1 [.agg [.sl (.ints U), .sl (.rows E)]]] => some (.sl (.ints (J0b (J7 E) xss)))
  | _ => none
def upS (U : ZI) (k : Int) : ZR := (J5 (U.length : Int).toNat).filter fun x9 => !(decide ((x9.length : Int) > k))
theorem J1o {U : ZI} {k : Int} {s : ZI} (h : s ∈ upS U k) : s ∈ J5 (U.length : Int).toNat := (List.mem_filter.1 h).1
theorem Jn {U : ZI} {k : Int} (hk : 1 ≤ k ∧ k ≤ (U.length : Int)) : 0 < (upS U k).length := by
  obtain ⟨s, h1, h2⟩ := JcM (n := (U.length : Int).toNat) hk.1 (by omega)
  exact JbD ⟨s, h1, by simp [h2]⟩
theorem Jw {U : ZI} {E : ZR} (hg : J0 U E = true) {k : Int} : (upS U k).length ≤ 127 := by
  have := Jm hg
  exact Nat.le_trans (List.length_filter_le _ _) (J4e (by omega))
theorem J71 {l : ZR} {p : ZI → Bool} {i : Int} (h0 : 0 ≤ i) (h : i < (l.length : Int)) : (l.take (i + 1).toNat).filter p = if p (l.getD i.toNat []) = true then (l.take i.toNat).filter p ++ [l.getD i.toNat []] else (l.take i.toNat).filter p := by
  rw [take_step (d := []) h0 h, List.filter_append]
  by_cases e : p (l.getD i.toNat []) = true
  · rw [if_pos e, List.filter_cons, if_pos e]; rfl
  rw [if_neg e, List.filter_cons, if_neg e]; simp
def J4X (U : ZI) (E : ZR) (k : Int) : ZI := J0b (J7 E) (upS U k)
theorem Jdd {U : ZI} {E : ZR} {k : Int} (hk : 1 ≤ k ∧ k ≤ (U.length : Int)) : J4X U E k ∈ J5 (U.length : Int).toNat := J1o (J34 (Jn hk))
def J3t (U : ZI) (E : ZR) (k : Int) : ZI := if (J0 U E && inB k 1 (U.length : Int)) = true then J4X U E k else []
def JL (U : ZI) (E : ZR) (k : Int) : Int := if (J0 U E && inB k 1 (U.length : Int)) = true then J7 E (J4X U E k) else 0
theorem JaP (x : ZI) (k : Int) : PB Tryz.prog 190 [.sl (.ints x), .bx [.int .i64 k] 0] (decide ((x.length : Int) > k)) := by
  refine ⟨@Tryz.call190, fun w vs hall => ?_⟩
  obtain ⟨v1, v2, rfl⟩ : ∃ v1 v2, vs = [v1, v2] := by
    match vs, hall.1 with
    | [a, b], _ => exact ⟨a, b, rfl⟩
  obtain ⟨ad, cap, rfl⟩ := Jc1 (hall.2 0 v1 _ rfl rfl)
  obtain ⟨b, rfl, hc⟩ := Jd2 (hall.2 1 v2 _ rfl rfl)
  show Calls Tryz.prog 190 #[.slice ad x.length cap, .pointer (some b)] w _
  clear hall
  go_enter Tryz.func190, Tryz.ntmps190
  go_wp2
  all_goals (go_ret; exact ⟨by first | (simp_all; done) | (simp_all; rfl), 0, rfl⟩)
theorem J2S (xss : ZR) (k : Int) (hp : 0 < xss.length) : PU Tryz.prog 189 24 (.rows xss) (.rows (xss.filter (fun x9 => !(decide ((x9.length : Int) > k))))) [.fn 190 0 [.bx [.int .i64 k] 0]] true :=
  pu_deleteFunc Tryz.layDelete Tryz.zeroValue24 24 xss (fun x9 => decide ((x9.length : Int) > k)) 190 [.bx [.int .i64 k] 0] (fun x => JaP x k) hp
def J90 (f : FuncId) (ds : List D) : Orc := bif Nat.beq f 115 then J8u ds else .no
def J8D (U : ZI) (E : ZR) (k : Int) : Ann := .two (.none) (.two (.mark [] [(5, .up (.rows ((J5 (U.length : Int).toNat).filter (fun x9 => !(decide ((x9.length : Int) > k))))) true)]) (.none))
def J59 (U : ZI) (E : ZR) (k : Int) : Prop :=
  (PC Tryz.prog 115 [.int .i64 (U.length : Int)] (.one (.own 24 (.rows (J5 (U.length : Int).toNat))))) ∧ ((J5 (U.length : Int).toNat).length = (J5 (U.length : Int).toNat).length) ∧ (PU Tryz.prog 189 24 (.rows (J5 (U.length : Int).toNat)) (.rows ((J5 (U.length : Int).toNat).filter (fun x9 => !(decide ((x9.length : Int) > k))))) [.fn 190 0 [.bx [.int .i64 k] 0]] true) ∧ ((((J5 (U.length : Int).toNat).filter (fun x9 => !(decide ((x9.length : Int) > k)))).length = ((J5 (U.length : Int).toNat).filter (fun x9 => !(decide ((x9.length : Int) > k)))).length) ∧ ((((J5 (U.length : Int).toNat).filter (fun x9 => !(decide ((x9.length : Int) > k)))) : ZR) = (upS U k)))
theorem J8f (U : ZI) (E : ZR) (k : Int) (hg : J0 U E = true) (hk : 1 ≤ k ∧ k ≤ (U.length : Int)) (w_Open : (U.length : Int) ≤ 9223372036854775807) (w_Dist : (E.length : Int) ≤ 9223372036854775807) (v_Dist : ∀ x9 ∈ E, (x9.length : Int) ≤ 9223372036854775807) : J59 U E k := by
  unfold J59
  obtain ⟨g1, g2, g3⟩ := Jm hg
  refine ⟨?_, rfl, ?_, rfl, ?_⟩
  ·refine J9r (U.length : Int) ?_
   ·omega
  ·refine J2S (J5 (U.length : Int).toNat) k ?_
   ·exact JcV (by omega)
  rfl
theorem J4F (U : ZI) (E : ZR) (k : Int) (hg : J0 U E = true) (hk : 1 ≤ k ∧ k ≤ (U.length : Int)) : PC Tryz.prog 95 [.agg [.sl (.ints U), .sl (.rows E)], .int .i64 k] (.one (.d (.sl (.rows (upS U k))))) :=
  pc_wf @Tryz.call95 fun hw => pc_by (by kernel_rfl) Tryz.func95 @Tryz.call95 (by kernel_rfl) J90 (J8D U E k) (by kernel_rfl) (J8f U E k hg hk hw.1.1 hw.1.2.1.1 hw.1.2.1.2) (by kernel_rfl)
def J4B : List D → Orc := orcN [none, none] fun ds => match ds with
  | [.agg [.sl (.ints U), .sl (.rows E)], .int .i64 k] => some (.one (.d (.sl (.rows (upS U k)))))
  | _ => none
abbrev J1S (U : ZI) (E : ZR) (k : Int) (out : ZR) (i : Int) : Prop := (0 ≤ i) ∧ (i ≤ ((J5 (U.length : Int).toNat).length : Int)) ∧ (out = ((J5 (U.length : Int).toNat).take i.toNat).filter (fun x9 => !(decide ((x9.length : Int) > k))))
abbrev J0H (U : ZI) (E : ZR) (k : Int) (out : ZR) (i : Int) : Nat := ((J5 (U.length : Int).toNat).length - i).toNat
def JbO (f : FuncId) (ds : List D) : Orc := bif Nat.beq f 148 then J6e ds else .no
def JbS (U : ZI) (E : ZR) (k : Int) : Ann := .two (.none) (.two (.none) (.two (.none) (.two (.two (.none) (.loop (cut2 (fun (out : ZR) (i : Int) => J1S U E k out i) (fun (out : ZR) (i : Int) => [(1, .d false (.int .i64 k)), (5, .own 1000000 out.length), (6, .d true (.sl (.rows (J5 (U.length : Int).toNat)))), (7, .d true (.int .i64 i))]) (fun (out : ZR) (i : Int) => [(1000000, .arr true 24 (.rows out))])) (fun g => J0H U E k g.1 g.2) (fun _ => .none))) (.none))))
def J8w (U : ZI) (E : ZR) (k : Int) : Prop :=
  (PC Tryz.prog 148 [.int .i64 (U.length : Int)] (.one (.d (.sl (.rows (J5 (U.length : Int).toNat)))))) ∧ ((∃ out' : ZR, ∃ i' : Int, (J1S U E k out' i') ∧ (k = k) ∧ ((0 : Nat) = out'.length) ∧ ((J5 (U.length : Int).toNat) = (J5 (U.length : Int).toNat)) ∧ ((0 : Int) = i') ∧ ([] = out')) ∧ (∀ out : ZR, ∀ i : Int, (J1S U E k out i) → (((decide (i < (((J5 (U.length : Int).toNat).length) : Int))) = true → ((0 : Int) ≤ i) ∧ ((i : Int) < (J5 (U.length : Int).toNat).length) ∧ (i.toNat < (J5 (U.length : Int).toNat).length) ∧ (((decide ((((J5 (U.length : Int).toNat).getD i.toNat []).length : Int) ≤ k)) = true → ((0 : Int) ≤ i) ∧ ((i : Int) < (J5 (U.length : Int).toNat).length) ∧ (i.toNat < (J5 (U.length : Int).toNat).length) ∧ (out.length = out.length) ∧ ((1 : Nat) = 1) ∧ ((out.length + 1) * 24 ≤ 140737488355328) ∧ (I6 (i + 1)) ∧ (∃ out' : ZR, ∃ i' : Int, (J1S U E k out' i') ∧ (J0H U E k out' i' < J0H U E k out i) ∧ (k = k) ∧ ((out.length + 1) = out'.length) ∧ ((J5 (U.length : Int).toNat) = (J5 (U.length : Int).toNat)) ∧ ((i + 1) = i') ∧ ((out ++ [((J5 (U.length : Int).toNat).getD i.toNat [])]) = out'))) ∧ ((decide ((((J5 (U.length : Int).toNat).getD i.toNat []).length : Int) ≤ k)) = false → (I6 (i + 1)) ∧ (∃ out' : ZR, ∃ i' : Int, (J1S U E k out' i') ∧ (J0H U E k out' i' < J0H U E k out i) ∧ (k = k) ∧ (out.length = out'.length) ∧ ((J5 (U.length : Int).toNat) = (J5 (U.length : Int).toNat)) ∧ ((i + 1) = i') ∧ (out = out'))))) ∧ ((decide (i < (((J5 (U.length : Int).toNat).length) : Int))) = false → ((out.length = out.length) ∧ ((out : ZR) = (upS U k)))))))
theorem Jbd (U : ZI) (E : ZR) (k : Int) (hg : J0 U E = true) (hk : 1 ≤ k ∧ k ≤ (U.length : Int)) (w_Open : (U.length : Int) ≤ 9223372036854775807) (w_Dist : (E.length : Int) ≤ 9223372036854775807) (v_Dist : ∀ x9 ∈ E, (x9.length : Int) ≤ 9223372036854775807) : J8w U E k := by
  unfold J8w
  obtain ⟨g1, g2, g3⟩ := Jm hg
  have sl := J4e (n := (U.length : Int).toNat) (by omega)
  refine ⟨?_, ?_, ?_⟩
  ·refine J79 (U.length : Int) ?_
   ·omega
  ·refine ⟨([]), 0, ?_⟩
   refine ⟨?_, rfl, rfl, rfl, rfl, ?_⟩
   ·refine ⟨?_, ?_, ?_⟩
    ·omega
    ·omega
    ·rfl
   rfl
  intro out i hJ
  obtain ⟨h1, h2, h3⟩ := hJ
  refine ⟨?_, ?_⟩
  ·intro b1
   try simp only [nrmT] at b1
   refine ⟨?_, ?_, ?_, ?_, ?_⟩
   ·omega
   ·omega
   ·omega
   ·intro b2
    try simp only [nrmT] at b2
    refine ⟨?_, ?_, ?_, rfl, rfl, ?_, ?_, ?_⟩
    ·omega
    ·omega
    ·omega
    ·have := List.length_filter_le (fun x9 : ZI => !(decide ((x9.length : Int) > k))) ((J5 (U.length : Int).toNat).take i.toNat)
     rw [← h3, List.length_take] at this
     omega
    ·omega
    refine ⟨(out ++ [((J5 (U.length : Int).toNat).getD i.toNat [])]), (i + 1), ?_⟩
    refine ⟨?_, ?_, rfl, ?_, rfl, rfl, rfl⟩
    ·refine ⟨?_, ?_, ?_⟩
     ·omega
     ·omega
     ·rw [J71 h1 (by omega), ← h3, if_pos (by rw [decide_eq_false (by omega)]; rfl)]
    ·(simp only [J0H]; omega)
    (simp_all; done)
   intro b3
   try simp only [nrmT] at b3
   refine ⟨?_, ?_⟩
   ·omega
   refine ⟨out, (i + 1), ?_⟩
   refine ⟨?_, ?_, rfl, rfl, rfl, rfl, rfl⟩
   ·refine ⟨?_, ?_, ?_⟩
    ·omega
    ·omega
    ·rw [J71 h1 (by omega), ← h3, if_neg (by rw [decide_eq_true (by omega)]; simp)]
   (simp only [J0H]; omega)
  intro b4
  try simp only [nrmT] at b4
  refine ⟨rfl, ?_⟩
  ·rw [h3, take_all (by omega)]; rfl
theorem JaM (U : ZI) (E : ZR) (k : Int) (hg : J0 U E = true) (hk : 1 ≤ k ∧ k ≤ (U.length : Int)) : PC Tryz.prog 159 [.agg [.sl (.ints U), .sl (.rows E)], .int .i64 k] (.one (.d (.sl (.rows (upS U k))))) :=
  pc_wf @Tryz.call159 fun hw => pc_by (by kernel_rfl) Tryz.func159 @Tryz.call159 (by kernel_rfl) JbO (JbS U E k) (by kernel_rfl) (Jbd U E k hg hk hw.1.1 hw.1.2.1.1 hw.1.2.1.2) (by kernel_rfl)
def Jaj : List D → Orc := orcN [none, none] fun ds => match ds with
  | [.agg [.sl (.ints U), .sl (.rows E)], .int .i64 k] => some (.one (.d (.sl (.rows (upS U k)))))
  | _ => none
def J7P (f : FuncId) (ds : List D) : Orc := bif Nat.beq f 93 then J3T ds else bif Nat.beq f 95 then J4B ds else bif Nat.beq f 94 then J86 ds else .no
def J7R (U : ZI) (E : ZR) (k : Int) : Ann := .none
def J4S (U : ZI) (E : ZR) (k : Int) : Prop :=
  (PC Tryz.prog 93 [.agg [.sl (.ints U), .sl (.rows E)], .int .i64 k] (.one (.d (.bool (J0 U E && inB k 1 (U.length : Int)))))) ∧ (((!(J0 U E && inB k 1 (U.length : Int))) = true → (((J3t U E k).length = 0) ∧ (false = (J0 U E && inB k 1 (U.length : Int))))) ∧ ((!(J0 U E && inB k 1 (U.length : Int))) = false → (true = true) ∧ (PC Tryz.prog 95 [.agg [.sl (.ints U), .sl (.rows E)], .int .i64 k] (.one (.d (.sl (.rows (upS U k)))))) ∧ (PCs Tryz.prog 94 [.sl (.rows (upS U k)), .fn 96 1 [.agg [.sl (.ints U), .sl (.rows E)]]] 0 (.sl (.ints (J0b (J7 E) (upS U k))))) ∧ ((((J0b (J7 E) (upS U k)) : ZI) = (J3t U E k)) ∧ (true = (J0 U E && inB k 1 (U.length : Int))))))
theorem J7i (U : ZI) (E : ZR) (k : Int)  (w_Open : (U.length : Int) ≤ 9223372036854775807) (w_Dist : (E.length : Int) ≤ 9223372036854775807) (v_Dist : ∀ x9 ∈ E, (x9.length : Int) ≤ 9223372036854775807) : J4S U E k := by
  unfold J4S
  refine ⟨J46 U E k, ?_, ?_⟩
  ·intro b1
   try simp only [Bool.not_eq_true', Bool.not_eq_false', Bool.not_not] at b1
   refine ⟨?_, ?_⟩
   ·have hgk : (J0 U E && inB k 1 (U.length : Int)) = false := by simpa using b1
    unfold J3t; rw [hgk]; rfl
   have hgk : (J0 U E && inB k 1 (U.length : Int)) = false := by simpa using b1
   exact hgk.symm
  intro b2
  try simp only [Bool.not_eq_true', Bool.not_eq_false', Bool.not_not] at b2
  refine ⟨rfl, ?_, ?_, ?_, ?_⟩
  ·refine J4F U E k ?_ ?_
   ·have hgk : (J0 U E && inB k 1 (U.length : Int)) = true := by simpa using b2
    obtain ⟨hg, hk⟩ := (Bool.and_eq_true _ _ ▸ hgk : _ ∧ _)
    have hk2 := J0D hk
    exact hg
   ·have hgk : (J0 U E && inB k 1 (U.length : Int)) = true := by simpa using b2
    obtain ⟨hg, hk⟩ := (Bool.and_eq_true _ _ ▸ hgk : _ ∧ _)
    have hk2 := J0D hk
    exact hk2
  ·refine J8y (upS U k) U E ?_ ?_
   ·have hgk : (J0 U E && inB k 1 (U.length : Int)) = true := by simpa using b2
    obtain ⟨hg, hk⟩ := (Bool.and_eq_true _ _ ▸ hgk : _ ∧ _)
    have hk2 := J0D hk
    exact Jn hk2
   ·have hgk : (J0 U E && inB k 1 (U.length : Int)) = true := by simpa using b2
    obtain ⟨hg, hk⟩ := (Bool.and_eq_true _ _ ▸ hgk : _ ∧ _)
    have hk2 := J0D hk
    intro s hs
    exact (JV hg (J1o (hs))).1
  ·have hgk : (J0 U E && inB k 1 (U.length : Int)) = true := by simpa using b2
   obtain ⟨hg, hk⟩ := (Bool.and_eq_true _ _ ▸ hgk : _ ∧ _)
   have hk2 := J0D hk
   unfold J3t; rw [if_pos hgk]; try rfl
  have hgk : (J0 U E && inB k 1 (U.length : Int)) = true := by simpa using b2
  obtain ⟨hg, hk⟩ := (Bool.and_eq_true _ _ ▸ hgk : _ ∧ _)
  have hk2 := J0D hk
  exact hgk.symm
theorem J7F (U : ZI) (E : ZR) (k : Int)  : PC Tryz.prog 11 [.agg [.sl (.ints U), .sl (.rows E)], .int .i64 k] (.tup [.d (.sl (.ints (J3t U E k))), .d (.bool (J0 U E && inB k 1 (U.length : Int)))]) :=
  pc_wf @Tryz.call11 fun hw => pc_by (by kernel_rfl) Tryz.func11 @Tryz.call11 (by kernel_rfl) J7P (J7R U E k) (by kernel_rfl) (J7i U E k hw.1.1 hw.1.2.1.1 hw.1.2.1.2) (by kernel_rfl)
def J6P : List D → Orc := orcN [none, none] fun ds => match ds with
  | [.agg [.sl (.ints U), .sl (.rows E)], .int .i64 k] => some (.tup [.d (.sl (.ints (J3t U E k))), .d (.bool (J0 U E && inB k 1 (U.length : Int)))])
  | _ => none
def J7T (f : FuncId) (ds : List D) : Orc := bif Nat.beq f 11 then J6P ds else bif Nat.beq f 96 then J15 ds else .no
def J8t (U : ZI) (E : ZR) (k : Int) : Ann := .none
def J4G (U : ZI) (E : ZR) (k : Int) : Prop :=
  (PC Tryz.prog 11 [.agg [.sl (.ints U), .sl (.rows E)], .int .i64 k] (.tup [.d (.sl (.ints (J3t U E k))), .d (.bool (J0 U E && inB k 1 (U.length : Int)))])) ∧ (((!(J0 U E && inB k 1 (U.length : Int))) = true → (((0 : Int) = (JL U E k)) ∧ (false = (J0 U E && inB k 1 (U.length : Int))))) ∧ ((!(J0 U E && inB k 1 (U.length : Int))) = false → (PC Tryz.prog 96 [.agg [.sl (.ints U), .sl (.rows E)], .sl (.ints (J3t U E k))] (.one (.d (.int .i64 (J7 E (J3t U E k)))))) ∧ (((J7 E (J3t U E k)) = (JL U E k)) ∧ (true = (J0 U E && inB k 1 (U.length : Int))))))
theorem J7u (U : ZI) (E : ZR) (k : Int)  (w_Open : (U.length : Int) ≤ 9223372036854775807) (w_Dist : (E.length : Int) ≤ 9223372036854775807) (v_Dist : ∀ x9 ∈ E, (x9.length : Int) ≤ 9223372036854775807) : J4G U E k := by
  unfold J4G
  refine ⟨J7F U E k, ?_, ?_⟩
  ·intro b1
   try simp only [Bool.not_eq_true', Bool.not_eq_false', Bool.not_not] at b1
   refine ⟨?_, ?_⟩
   ·have hgk : (J0 U E && inB k 1 (U.length : Int)) = false := by simpa using b1
    unfold JL; rw [hgk]; rfl
   have hgk : (J0 U E && inB k 1 (U.length : Int)) = false := by simpa using b1
   exact hgk.symm
  intro b2
  try simp only [Bool.not_eq_true', Bool.not_eq_false', Bool.not_not] at b2
  refine ⟨?_, ?_, ?_⟩
  ·refine J0B U E (J3t U E k) ?_
   ·have hgk : (J0 U E && inB k 1 (U.length : Int)) = true := by simpa using b2
    obtain ⟨hg, hk⟩ := (Bool.and_eq_true _ _ ▸ hgk : _ ∧ _)
    have hk2 := J0D hk
    unfold J3t
    rw [if_pos hgk]
    exact (JV hg (Jdd hk2)).1
  ·have hgk : (J0 U E && inB k 1 (U.length : Int)) = true := by simpa using b2
   obtain ⟨hg, hk⟩ := (Bool.and_eq_true _ _ ▸ hgk : _ ∧ _)
   have hk2 := J0D hk
   unfold JL J3t
   rw [if_pos hgk, if_pos hgk]
  have hgk : (J0 U E && inB k 1 (U.length : Int)) = true := by simpa using b2
  obtain ⟨hg, hk⟩ := (Bool.and_eq_true _ _ ▸ hgk : _ ∧ _)
  have hk2 := J0D hk
  exact hgk.symm
theorem J4z (U : ZI) (E : ZR) (k : Int)  : PC Tryz.prog 13 [.agg [.sl (.ints U), .sl (.rows E)], .int .i64 k] (.tup [.d (.int .i64 (JL U E k)), .d (.bool (J0 U E && inB k 1 (U.length : Int)))]) :=
  pc_wf @Tryz.call13 fun hw => pc_by (by kernel_rfl) Tryz.func13 @Tryz.call13 (by kernel_rfl) J7T (J8t U E k) (by kernel_rfl) (J7u U E k hw.1.1 hw.1.2.1.1 hw.1.2.1.2) (by kernel_rfl)
def J6B : List D → Orc := orcN [none, none] fun ds => match ds with
  | [.agg [.sl (.ints U), .sl (.rows E)], .int .i64 k] => some (.tup [.d (.int .i64 (JL U E k)), .d (.bool (J0 U E && inB k 1 (U.length : Int)))])
  | _ => none
def J1l (x y : Int) : Int := JY y x
theorem JcY {a b : Int} : 0 < JY a b ↔ b < a := by unfold JY; split <;> (try split) <;> omega
theorem Jbr : Go.Sort.SWO (ltOf J1l) ∧ ∀ x y, ltOf J1l x y = false → ltOf J1l y x = false → x = y :=
  J9Z (fun x => J9m.2 rfl) (fun h => (J9m.1 h).symm) (fun {x y} => by unfold J1l; rw [J7f, JcY]) (fun {x y z} h1 h2 => by unfold J1l at *; rw [J7f] at *; omega)
theorem ltD {x y : Int} : ltOf J1l y x = false ↔ y ≤ x := by
  unfold ltOf J1l
  rw [decide_eq_false_iff_not, J7f]
  omega
def J3D (E : ZR) (set : ZI) : ZI := (Jd E set E.length).mergeSort fun x9 y9 => !(ltOf J1l) y9 x9
theorem J4T (E : ZR) (set : ZI) : (J3D E set).length = E.length := by unfold J3D; rw [List.length_mergeSort, Jx]
def Jg (E : ZR) (set : ZI) (z : Int) : Int := if z ≥ (E.length : Int) then 0 else (J3D E set).getD z.toNat 0
theorem Jdh {out : ZI} {x : Int} {k : Nat} (ho : out.Pairwise fun x9 y9 => y9 ≤ x9) (hk : k ≤ out.length) (h1 : ∀ j, j < k → x ≤ out.getD j 0) (h2 : k < out.length → out.getD k 0 < x) :
    ((out.take k ++ [x]) ++ out.drop k).Pairwise fun x9 y9 => y9 ≤ x9 := by
  have hle : ∀ y ∈ out.take k, x ≤ y := by
    intro y hy
    obtain ⟨j, hj, rfl⟩ := List.mem_iff_getElem.1 hy
    have hj' : j < k ∧ j < out.length := by rw [List.length_take] at hj; omega
    have := h1 j hj'.1
    rw [Js hj'.2] at this
    simpa using this
  have hgt : ∀ y ∈ out.drop k, y ≤ x := by
    intro y hy
    obtain ⟨j, hj, rfl⟩ := List.mem_iff_getElem.1 hy
    have hj' : k + j < out.length := by rw [List.length_drop] at hj; omega
    have h3 := h2 (by omega)
    rw [Js (by omega)] at h3
    rw [List.getElem_drop]
    by_cases e : j = 0
    · subst e; simp only [Nat.add_zero]; omega
    have := List.pairwise_iff_getElem.1 ho k (k + j) (by omega) hj' (by omega)
    omega
  refine List.pairwise_append.2 ⟨List.pairwise_append.2 ⟨ho.sublist (List.take_sublist _ _), by simp, fun a ha b hb => ?_⟩, ho.sublist (List.drop_sublist _ _), fun a ha b hb => ?_⟩
  · have : b = x := by simpa using hb
    subst this; exact hle a ha
  rcases List.mem_append.1 ha with ha | ha
  · have q1 := hle a ha
    have q2 := hgt b hb
    omega
  · have : a = x := by simpa using ha
    subst this; exact hgt b hb
theorem JcT {out : ZI} {x : Int} {k : Nat} {l : ZI} (hp : out.Perm l) : ((out.take k ++ [x]) ++ out.drop k).Perm (l ++ [x]) := by
  rw [List.append_assoc]
  refine List.Perm.trans (List.perm_append_comm_assoc _ _ _) ?_
  refine List.Perm.trans ?_ (List.perm_append_comm)
  rw [List.take_append_drop]
  exact hp.append_left [x]
theorem Jd6 {out : ZI} {E : ZR} {set : ZI} (hp : out.Perm (Jd E set E.length)) (ho : out.Pairwise fun x9 y9 => y9 ≤ x9) : out = J3D E set :=
  sortedBy_unique Jbr.1 Jbr.2 hp (ho.imp fun h => ltD.2 h)
def J5z (f : FuncId) (ds : List D) : Orc := bif Nat.beq f 216 then J1j ds else .no
def J5L (a : Int) (b : Int) : Ann := .none
def J3k (a : Int) (b : Int) : Prop :=
  (PC Tryz.prog 216 [.int .i64 b, .int .i64 a] (.one (.d (.int .i64 (JY b a))))) ∧ (((JY b a) = (J1l a b)))
theorem J5k (a : Int) (b : Int)   : J3k a b := by
  unfold J3k
  refine ⟨J1x b a, ?_⟩
  ·rfl
theorem J5q (a : Int) (b : Int)  : PC Tryz.prog 215 [.int .i64 a, .int .i64 b] (.one (.d (.int .i64 (J1l a b)))) :=
  pc_wf @Tryz.call215 fun _ => pc_by (by kernel_rfl) Tryz.func215 @Tryz.call215 (by kernel_rfl) J5z (J5L a b) (by kernel_rfl) (J5k a b) (by kernel_rfl)
theorem J2P (xs : ZI) (hz : xs.length < 4611686018427387904) : PU Tryz.prog 214 3 (.ints xs) (.ints (xs.mergeSort (fun x9 y9 => !(ltOf J1l) y9 x9))) [.fn 215 0 []] false :=
  pu_sortFunc Tryz.laySortInts 3 xs (fun x => .int .i64 x) J1l Jbr.1 Jbr.2 215 (fun x _ y _ => J5q x y) _ _ rfl rfl rfl (List.length_mergeSort _) (fun _ => rfl) (fun i x h => by simp [Mem.get, h]) (fun i x h => by simp [Mem.get, h]) hz @Tryz.call215
def J6L (f : FuncId) (ds : List D) : Orc := bif Nat.beq f 149 then J1t ds else .no
def J6I (U : ZI) (E : ZR) (set : ZI) (z : Int) : Ann := .two (.none) (.two (.none) (.two (.mark [] [(1, .up (.ints ((Jd E set E.length).mergeSort (fun x9 y9 => !(ltOf J1l) y9 x9))) false)]) (.none)))
def J45 (U : ZI) (E : ZR) (set : ZI) (z : Int) : Prop :=
  (PC Tryz.prog 149 [.agg [.sl (.ints U), .sl (.rows E)], .sl (.ints set)] (.one (.own 3 (.ints (Jd E set E.length))))) ∧ ((Jd E set E.length).length = (Jd E set E.length).length) ∧ (PU Tryz.prog 214 3 (.ints (Jd E set E.length)) (.ints ((Jd E set E.length).mergeSort (fun x9 y9 => !(ltOf J1l) y9 x9))) [.fn 215 0 []] false) ∧ (((decide (z ≥ (((Jd E set E.length).length) : Int))) = true → (((0 : Int) = (Jg E set z)))) ∧ ((decide (z ≥ (((Jd E set E.length).length) : Int))) = false → ((0 : Int) ≤ z) ∧ ((z : Int) < (((Jd E set E.length).length) : Int)) ∧ (z.toNat < ((Jd E set E.length).mergeSort (fun x9 y9 => !(ltOf J1l) y9 x9)).length) ∧ (((((Jd E set E.length).mergeSort (fun x9 y9 => !(ltOf J1l) y9 x9)).getD z.toNat 0) = (Jg E set z)))))
theorem J6m (U : ZI) (E : ZR) (set : ZI) (z : Int) (ht : (J0 U E && J2 set 0 ((U.length : Int) - 1) && decide (0 < set.length)) = true) (hz0 : 0 ≤ z ∧ z ≤ 7) (w_Open : (U.length : Int) ≤ 9223372036854775807) (w_Dist : (E.length : Int) ≤ 9223372036854775807) (v_Dist : ∀ x9 ∈ E, (x9.length : Int) ≤ 9223372036854775807) (w_set : (set.length : Int) ≤ 9223372036854775807) : J45 U E set z := by
  unfold J45
  obtain ⟨hg, hs, hp⟩ := Jj ht
  obtain ⟨g1, g2, g3⟩ := Jm hg
  have pl := J4T E set
  refine ⟨?_, rfl, ?_, ?_, ?_⟩
  ·refine J1R U E set ?_
   ·exact ht
  ·refine J2P (Jd E set E.length) ?_
   ·rw [Jx]; omega
  ·intro b1
   try simp only [nrmT] at b1
   unfold Jg; rw [if_pos (by rw [Jx] at b1; omega)]
  intro b2
  try simp only [nrmT] at b2
  refine ⟨?_, ?_, ?_, ?_⟩
  ·omega
  ·omega
  ·rw [Jx] at b2
   simp only [List.length_mergeSort, Jx]
   omega
  unfold Jg; rw [if_neg (by rw [Jx] at b2; omega)]; rfl
theorem J3W (U : ZI) (E : ZR) (set : ZI) (z : Int) (ht : (J0 U E && J2 set 0 ((U.length : Int) - 1) && decide (0 < set.length)) = true) (hz0 : 0 ≤ z ∧ z ≤ 7) : PC Tryz.prog 158 [.agg [.sl (.ints U), .sl (.rows E)], .sl (.ints set), .int .i64 z] (.one (.d (.int .i64 (Jg E set z)))) :=
  pc_wf @Tryz.call158 fun hw => pc_by (by kernel_rfl) Tryz.func158 @Tryz.call158 (by kernel_rfl) J6L (J6I U E set z) (by kernel_rfl) (J6m U E set z ht hz0 hw.1.1 hw.1.2.1.1 hw.1.2.1.2 hw.2.1) (by kernel_rfl)
def J3l : List D → Orc := orcN [none, some .ints, none] fun ds => match ds with
  | [.agg [.sl (.ints U), .sl (.rows E)], .sl (.ints set), .int .i64 z] => some (.one (.d (.int .i64 (Jg E set z))))
  | _ => none
abbrev J1H (U : ZI) (E : ZR) (set : ZI) (z : Int) (out : ZI) (j : Int) : Prop := (0 ≤ j) ∧ (j ≤ (E.length : Int)) ∧ (out.Perm (Jd E set j.toNat)) ∧ (out.Pairwise (fun x9 y9 => y9 ≤ x9))
abbrev J1C (U : ZI) (E : ZR) (set : ZI) (z : Int) (out : ZI) (j : Int) : Nat := (E.length - j).toNat
abbrev J1B (U : ZI) (E : ZR) (set : ZI) (z : Int) (out : ZI) (j : Int) (k : Int) : Prop := (0 ≤ k) ∧ (k ≤ (out.length : Int)) ∧ (∀ j9, j9 < k.toNat → (E.getD j.toNat []).getD (J8 (E.getD j.toNat []) set set.length).toNat 0 ≤ out.getD j9 0)
abbrev J1G (U : ZI) (E : ZR) (set : ZI) (z : Int) (out : ZI) (j : Int) (k : Int) : Nat := (out.length - k).toNat
def J9I (f : FuncId) (ds : List D) : Orc := bif Nat.beq f 150 then J2X ds else bif Nat.beq f 98 then J2o ds else .no
def J9x (U : ZI) (E : ZR) (set : ZI) (z : Int) : Ann := .two (.none) (.two (.reg [(0, .frz)]) (.two (.two (.none) (.loop (cut2 (fun (out : ZI) (j : Int) => J1H U E set z out j) (fun (out : ZI) (j : Int) => [(1, .d false (.sl (.ints set))), (2, .d false (.int .i64 z)), (3, .ptr 3 0), (7, .d true (.sl (.ints out))), (8, .d true (.int .i64 j))]) (fun (out : ZI) (j : Int) => [(3, .box 27 [.d false (.sl (.ints U)), .d false (.sl (.rows E))])])) (fun g => J1C U E set z g.1 g.2) (fun g => (fun (out : ZI) (j : Int) => .two (.none) (.two (.two (.none) (.two (.none) (.two (.loop (cut1 (fun (k : Int) => J1B U E set z out j k) (fun (k : Int) => [(1, .d false (.sl (.ints set))), (2, .d false (.int .i64 z)), (3, .ptr 3 0), (7, .d true (.sl (.ints out))), (8, .d true (.int .i64 j)), (9, .d true (.int .i64 ((E.getD j.toNat []).getD (J8 (E.getD j.toNat []) set set.length).toNat 0))), (10, .d true (.int .i64 k))]) (fun (k : Int) => [(3, .box 27 [.d false (.sl (.ints U)), .d false (.sl (.rows E))])])) (fun g => J1G U E set z out j g) (fun _ => .none)) (.none)))) (.none))) (g.1) (g.2)))) (.none)))
def J3m (E : ZR) (set : ZI) (out : ZI) (j : Int) (k : Int) : Bool := (cond (decide (k < (out.length : Int))) (decide ((out.getD k.toNat 0) ≥ ((E.getD j.toNat []).getD (J8 (E.getD j.toNat []) set set.length).toNat 0))) false)
def J5y (U : ZI) (E : ZR) (set : ZI) (z : Int) : Prop :=
  ((∃ out' : ZI, ∃ j' : Int, (J1H U E set z out' j') ∧ (set = set) ∧ (z = z) ∧ ([] = out') ∧ ((0 : Int) = j') ∧ (U = U) ∧ (E = E)) ∧ (∀ out : ZI, ∀ j : Int, (J1H U E set z out j) → (((decide (j < (E.length : Int))) = true → (PC Tryz.prog 150 [.agg [.sl (.ints U), .sl (.rows E)], .int .i64 j, .sl (.ints set)] (.one (.d (.int .i64 ((E.getD j.toNat []).getD (J8 (E.getD j.toNat []) set set.length).toNat 0))))) ∧ ((∃ k' : Int, (J1B U E set z out j k') ∧ (set = set) ∧ (z = z) ∧ (out = out) ∧ (j = j) ∧ (((E.getD j.toNat []).getD (J8 (E.getD j.toNat []) set set.length).toNat 0) = ((E.getD j.toNat []).getD (J8 (E.getD j.toNat []) set set.length).toNat 0)) ∧ ((0 : Int) = k') ∧ (U = U) ∧ (E = E)) ∧ (∀ k : Int, (J1B U E set z out j k) → ((decide (k < (out.length : Int))) = true → (decide (k < (out.length : Int))) = true) ∧ ((decide (k < (out.length : Int))) = true → (decide (k < (out.length : Int))) = true) ∧ (((decide (k < (out.length : Int))) = true → (0 : Int) ≤ k)) ∧ (((decide (k < (out.length : Int))) = true → (k : Int) < out.length)) ∧ ((decide (k < (out.length : Int))) = true → (decide (k < (out.length : Int))) = true) ∧ (((decide (k < (out.length : Int))) = true → k.toNat < out.length)) ∧ ((decide (k < (out.length : Int))) = true → (decide (k < (out.length : Int))) = true) ∧ ((decide (k < (out.length : Int))) = true → (decide (k < (out.length : Int))) = true) ∧ (true = true) ∧ (((decide (k < (out.length : Int))) = true → (decide (k < (out.length : Int))) = true)) ∧ (((decide (k < (out.length : Int))) = false → true = true)) ∧ (((J3m E set out j k) = true → (I6 (k + 1)) ∧ (∃ k' : Int, (J1B U E set z out j k') ∧ (J1G U E set z out j k' < J1G U E set z out j k) ∧ (set = set) ∧ (z = z) ∧ (out = out) ∧ (j = j) ∧ (((E.getD j.toNat []).getD (J8 (E.getD j.toNat []) set set.length).toNat 0) = ((E.getD j.toNat []).getD (J8 (E.getD j.toNat []) set set.length).toNat 0)) ∧ ((k + 1) = k') ∧ (U = U) ∧ (E = E))) ∧ ((J3m E set out j k) = false → (true = true) ∧ ((0 : Int) ≤ k) ∧ ((k : Int) ≤ out.length) ∧ (PC Tryz.prog 98 [.sl (.ints ((out.take k.toNat).drop 0))] (.one (.own 3 (.ints ((out.take k.toNat).drop 0))))) ∧ (((out.take k.toNat).drop 0).length = ((out.take k.toNat).drop 0).length) ∧ ((1 : Nat) = 1) ∧ ((((out.take k.toNat).drop 0).length + 1) * 8 ≤ 140737488355328) ∧ ((0 : Int) ≤ k) ∧ ((k : Int) ≤ out.length) ∧ ((((out.take k.toNat).drop 0).length + 1) = (((out.take k.toNat).drop 0) ++ [((E.getD j.toNat []).getD (J8 (E.getD j.toNat []) set set.length).toNat 0)]).length) ∧ (True) ∧ (((((out.take k.toNat).drop 0) ++ [((E.getD j.toNat []).getD (J8 (E.getD j.toNat []) set set.length).toNat 0)]).length + ((out.take out.length).drop k.toNat).length) * 8 ≤ 140737488355328) ∧ (I6 (j + 1)) ∧ (∃ out' : ZI, ∃ j' : Int, (J1H U E set z out' j') ∧ (J1C U E set z out' j' < J1C U E set z out j) ∧ (set = set) ∧ (z = z) ∧ (((((out.take k.toNat).drop 0).length + 1) + ((out.take out.length).drop k.toNat).length) = ((((out.take k.toNat).drop 0) ++ [((E.getD j.toNat []).getD (J8 (E.getD j.toNat []) set set.length).toNat 0)]) ++ ((out.take out.length).drop k.toNat)).length) ∧ (((((out.take k.toNat).drop 0) ++ [((E.getD j.toNat []).getD (J8 (E.getD j.toNat []) set set.length).toNat 0)]) ++ ((out.take out.length).drop k.toNat)) = out') ∧ ((j + 1) = j') ∧ (U = U) ∧ (E = E))))))) ∧ ((decide (j < (E.length : Int))) = false → (((decide (z ≥ (out.length : Int))) = true → (((0 : Int) = (Jg E set z)))) ∧ ((decide (z ≥ (out.length : Int))) = false → ((0 : Int) ≤ z) ∧ ((z : Int) < out.length) ∧ (z.toNat < out.length) ∧ (((out.getD z.toNat 0) = (Jg E set z)))))))))
theorem J93 (U : ZI) (E : ZR) (set : ZI) (z : Int) (ht : (J0 U E && J2 set 0 ((U.length : Int) - 1) && decide (0 < set.length)) = true) (hz0 : 0 ≤ z ∧ z ≤ 7) (w_Open : (U.length : Int) ≤ 9223372036854775807) (w_Dist : (E.length : Int) ≤ 9223372036854775807) (v_Dist : ∀ x9 ∈ E, (x9.length : Int) ≤ 9223372036854775807) (w_set : (set.length : Int) ≤ 9223372036854775807) : J5y U E set z := by
  unfold J5y J3m
  obtain ⟨hg, hs, hp⟩ := Jj ht
  obtain ⟨g1, g2, g3⟩ := Jm hg
  have pl := J4T E set
  refine ⟨?_, ?_⟩
  ·refine ⟨([]), 0, ?_⟩
   refine ⟨?_, rfl, rfl, ?_, rfl, rfl, rfl⟩
   ·refine ⟨?_, ?_, ?_, ?_⟩
    ·omega
    ·omega
    ·exact List.Perm.refl _
    ·exact List.Pairwise.nil
   rfl
  intro out j hJ
  obtain ⟨h1, h2, h3, h4⟩ := hJ
  refine ⟨?_, ?_⟩
  ·intro b1
   try simp only [nrmT] at b1
   refine ⟨?_, ?_, ?_⟩
   ·refine J3s U E j set ?_ ?_
    ·exact ht
    ·omega
   ·refine ⟨0, ?_⟩
    refine ⟨?_, rfl, rfl, rfl, rfl, rfl, rfl, rfl, rfl⟩
    ·refine ⟨?_, ?_, ?_⟩
     ·omega
     ·omega
     ·intro j9 hj; exact absurd hj (by simp)
   intro k hJ
   obtain ⟨h5, h6, h7⟩ := hJ
   refine ⟨id, id, ?_, ?_, id, ?_, id, id, rfl, id, fun _ => rfl, ?_, ?_⟩
   ·omega
   ·(intro hg; simp only [nrmT] at hg; omega)
   ·(intro hg; simp only [nrmT] at hg; omega)
   ·intro b2
    refine ⟨?_, ?_⟩
    ·have hk : k < (out.length : Int) ∧ (E.getD j.toNat []).getD (J8 (E.getD j.toNat []) set set.length).toNat 0 ≤ out.getD k.toNat 0 := by
       revert b2
       by_cases h : k < (out.length : Int)
       · rw [decide_eq_true h]; intro g; exact ⟨h, of_decide_eq_true g⟩
       rw [decide_eq_false h]; intro g; cases g
     have ol := h3.length_eq
     rw [Jx] at ol
     omega
    refine ⟨(k + 1), ?_⟩
    refine ⟨?_, ?_, rfl, rfl, rfl, rfl, rfl, rfl, rfl, rfl⟩
    ·refine ⟨?_, ?_, ?_⟩
     ·have hk : k < (out.length : Int) ∧ (E.getD j.toNat []).getD (J8 (E.getD j.toNat []) set set.length).toNat 0 ≤ out.getD k.toNat 0 := by
        revert b2
        by_cases h : k < (out.length : Int)
        · rw [decide_eq_true h]; intro g; exact ⟨h, of_decide_eq_true g⟩
        rw [decide_eq_false h]; intro g; cases g
      have ol := h3.length_eq
      rw [Jx] at ol
      omega
     ·have hk : k < (out.length : Int) ∧ (E.getD j.toNat []).getD (J8 (E.getD j.toNat []) set set.length).toNat 0 ≤ out.getD k.toNat 0 := by
        revert b2
        by_cases h : k < (out.length : Int)
        · rw [decide_eq_true h]; intro g; exact ⟨h, of_decide_eq_true g⟩
        rw [decide_eq_false h]; intro g; cases g
      have ol := h3.length_eq
      rw [Jx] at ol
      omega
     ·have hk : k < (out.length : Int) ∧ (E.getD j.toNat []).getD (J8 (E.getD j.toNat []) set set.length).toNat 0 ≤ out.getD k.toNat 0 := by
        revert b2
        by_cases h : k < (out.length : Int)
        · rw [decide_eq_true h]; intro g; exact ⟨h, of_decide_eq_true g⟩
        rw [decide_eq_false h]; intro g; cases g
      intro j9 hj
      by_cases e : j9 = k.toNat
      · rw [e]; exact hk.2
      exact h7 j9 (by omega)
    have hk : k < (out.length : Int) ∧ (E.getD j.toNat []).getD (J8 (E.getD j.toNat []) set set.length).toNat 0 ≤ out.getD k.toNat 0 := by
      revert b2
      by_cases h : k < (out.length : Int)
      · rw [decide_eq_true h]; intro g; exact ⟨h, of_decide_eq_true g⟩
      rw [decide_eq_false h]; intro g; cases g
    (simp only [J1G]; omega)
   intro b3
   refine ⟨rfl, ?_, ?_, ?_, rfl, rfl, ?_, ?_, ?_, ?_, trivial, ?_, ?_, ?_⟩
   ·omega
   ·omega
   ·refine J29 ((out.take k.toNat).drop 0) ?_
    ·have ol := h3.length_eq
     rw [Jx] at ol
     rw [List.drop_zero, List.length_take]
     omega
   ·have ol := h3.length_eq
    rw [Jx] at ol
    simp only [List.length_append, List.length_drop, List.length_take, List.length_cons, List.length_nil]
    omega
   ·omega
   ·omega
   ·(simp_all; done)
   ·have ol := h3.length_eq
    rw [Jx] at ol
    simp only [List.length_append, List.length_drop, List.length_take, List.length_cons, List.length_nil]
    omega
   ·omega
   refine ⟨((((out.take k.toNat).drop 0) ++ [((E.getD j.toNat []).getD (J8 (E.getD j.toNat []) set set.length).toNat 0)]) ++ ((out.take out.length).drop k.toNat)), (j + 1), ?_⟩
   refine ⟨?_, ?_, rfl, rfl, ?_, rfl, rfl, rfl, rfl⟩
   ·refine ⟨?_, ?_, ?_, ?_⟩
    ·omega
    ·omega
    ·have hq : ((((out.take k.toNat).drop 0) ++ [(E.getD j.toNat []).getD (J8 (E.getD j.toNat []) set set.length).toNat 0]) ++ ((out.take out.length).drop k.toNat)) = (out.take k.toNat ++ [JB E set j.toNat]) ++ out.drop k.toNat := by
       rw [List.drop_zero, List.take_length]; rfl
     rw [hq, show (j + 1).toNat = j.toNat + 1 by omega, J8p]
     exact JcT h3
    ·have hq : ((((out.take k.toNat).drop 0) ++ [(E.getD j.toNat []).getD (J8 (E.getD j.toNat []) set set.length).toNat 0]) ++ ((out.take out.length).drop k.toNat)) = (out.take k.toNat ++ [JB E set j.toNat]) ++ out.drop k.toNat := by
       rw [List.drop_zero, List.take_length]; rfl
     rw [hq]
     refine Jdh h4 (by omega) (fun j9 hj => h7 j9 hj) fun hlt => ?_
     rw [decide_eq_true (show k < (out.length : Int) by omega)] at b3
     simp only [cond_true, decide_eq_false_iff_not] at b3
     unfold JB
     omega
   ·(simp only [J1C]; omega)
   simp only [List.length_append, List.length_cons, List.length_nil] <;> omega
  intro b4
  try simp only [nrmT] at b4
  refine ⟨?_, ?_⟩
  ·intro b5
   try simp only [nrmT] at b5
   have ol := h3.length_eq
   rw [Jx] at ol
   unfold Jg; rw [if_pos (by omega)]
  intro b6
  try simp only [nrmT] at b6
  refine ⟨?_, ?_, ?_, ?_⟩
  ·omega
  ·omega
  ·omega
  have hd : out = J3D E set := Jd6 (by rw [show j.toNat = E.length by omega] at h3; exact h3) h4
  have ol := h3.length_eq
  rw [Jx] at ol
  unfold Jg; rw [if_neg (by omega), hd]
theorem J3r (U : ZI) (E : ZR) (set : ZI) (z : Int) (ht : (J0 U E && J2 set 0 ((U.length : Int) - 1) && decide (0 < set.length)) = true) (hz0 : 0 ≤ z ∧ z ≤ 7) : PC Tryz.prog 160 [.agg [.sl (.ints U), .sl (.rows E)], .sl (.ints set), .int .i64 z] (.one (.d (.int .i64 (Jg E set z)))) :=
  pc_wf @Tryz.call160 fun hw => pc_by (by kernel_rfl) Tryz.func160 @Tryz.call160 (by kernel_rfl) J9I (J9x U E set z) (by kernel_rfl) (J93 U E set z ht hz0 hw.1.1 hw.1.2.1.1 hw.1.2.1.2 hw.2.1) (by kernel_rfl)
def J8a : List D → Orc := orcN [none, some .ints, none] fun ds => match ds with
  | [.agg [.sl (.ints U), .sl (.rows E)], .sl (.ints set), .int .i64 z] => some (.one (.d (.int .i64 (Jg E set z))))
  | _ => none
def J6u (f : FuncId) (ds : List D) : Orc := bif Nat.beq f 158 then J3l ds else .no
def J6R (set : ZI) (U : ZI) (E : ZR) (z : Int) : Ann := .none
def J44 (set : ZI) (U : ZI) (E : ZR) (z : Int) : Prop :=
  (PC Tryz.prog 158 [.agg [.sl (.ints U), .sl (.rows E)], .sl (.ints set), .int .i64 z] (.one (.d (.int .i64 (Jg E set z))))) ∧ (((Jg E set z) = (Jg E set z)))
theorem J60 (set : ZI) (U : ZI) (E : ZR) (z : Int) (hh : (J0 U E && J2 set 0 ((U.length : Int) - 1) && decide (0 < set.length)) = true ∧ (0 ≤ z ∧ z ≤ 7)) (w_set : (set.length : Int) ≤ 9223372036854775807) (w_Open : (U.length : Int) ≤ 9223372036854775807) (w_Dist : (E.length : Int) ≤ 9223372036854775807) (v_Dist : ∀ x9 ∈ E, (x9.length : Int) ≤ 9223372036854775807) : J44 set U E z := by
  unfold J44
  refine ⟨?_, rfl⟩
  ·refine J3W U E set z ?_ ?_
   ·exact hh.1
   ·exact hh.2
theorem J3V (set : ZI) (U : ZI) (E : ZR) (z : Int) (hh : (J0 U E && J2 set 0 ((U.length : Int) - 1) && decide (0 < set.length)) = true ∧ (0 ≤ z ∧ z ≤ 7)) : PC Tryz.prog 157 [.sl (.ints set), .bx [.sl (.ints U), .sl (.rows E)] 0, .bx [.int .i64 z] 0] (.one (.d (.int .i64 (Jg E set z)))) :=
  pc_wf @Tryz.call157 fun hw => pc_by (by kernel_rfl) Tryz.func157 @Tryz.call157 (by kernel_rfl) J6u (J6R set U E z) (by kernel_rfl) (J60 set U E z hh hw.1 hw.2.1.1 hw.2.1.2.1.1 hw.2.1.2.1.2) (by kernel_rfl)
def J5K : List D → Orc := orcN [some .ints, none, none] fun ds => match ds with
  | [.sl (.ints set), .bx [.sl (.ints U), .sl (.rows E)] 0, .bx [.int .i64 z] 0] => some (.one (.d (.int .i64 (Jg E set z))))
  | _ => none
abbrev J0I (xss : ZR) (U : ZI) (E : ZR) (z : Int) (best : ZI) (i : Int) : Prop := (0 ≤ i) ∧ (i ≤ (xss.length : Int)) ∧ (best ∈ xss) ∧ (best = (xss.take i.toNat).foldl (lsB (fun s9 => Jg E s9 z)) (xss.getD 0 []))
abbrev JZ (xss : ZR) (U : ZI) (E : ZR) (z : Int) (best : ZI) (i : Int) : Nat := (xss.length - i).toNat
def J8I (f : FuncId) (ds : List D) : Orc := bif Nat.beq f 157 then J5K ds else .no
def J8F (xss : ZR) (U : ZI) (E : ZR) (z : Int) : Ann := .two (.none) (.two (.none) (.two (.two (.none) (.loop (cut2 (fun (best : ZI) (i : Int) => J0I xss U E z best i) (fun (best : ZI) (i : Int) => [(1, .d false (.fn 157 0 [.bx [.sl (.ints U), .sl (.rows E)] 0, .bx [.int .i64 z] 0])), (5, .d true (.sl (.ints best))), (11, .d true (.sl (.rows xss))), (12, .d true (.int .i64 (xss.length : Int))), (13, .d true (.int .i64 i))]) (fun (best : ZI) (i : Int) => [])) (fun g => JZ xss U E z g.1 g.2) (fun _ => .none))) (.none)))
def J55 (xss : ZR) (U : ZI) (E : ZR) (z : Int) : Prop :=
  ((0 : Int) ≤ 0) ∧ ((0 : Int) < xss.length) ∧ (0 < xss.length) ∧ ((∃ best' : ZI, ∃ i' : Int, (J0I xss U E z best' i') ∧ ((.fn 157 0 [.bx [.sl (.ints U), .sl (.rows E)] 0, .bx [.int .i64 z] 0] : D) = (.fn 157 0 [.bx [.sl (.ints U), .sl (.rows E)] 0, .bx [.int .i64 z] 0] : D)) ∧ ((xss.getD 0 []) = best') ∧ (xss = xss) ∧ ((xss.length : Int) = (xss.length : Int)) ∧ ((0 : Int) = i')) ∧ (∀ best : ZI, ∀ i : Int, (J0I xss U E z best i) → (((decide (i < (xss.length : Int))) = true → ((0 : Int) ≤ i) ∧ ((i : Int) < xss.length) ∧ (i.toNat < xss.length) ∧ (PC Tryz.prog 157 [.sl (.ints (xss.getD i.toNat [])), .bx [.sl (.ints U), .sl (.rows E)] 0, .bx [.int .i64 z] 0] (.one (.d (.int .i64 (Jg E (xss.getD i.toNat []) z))))) ∧ (PC Tryz.prog 157 [.sl (.ints best), .bx [.sl (.ints U), .sl (.rows E)] 0, .bx [.int .i64 z] 0] (.one (.d (.int .i64 (Jg E best z))))) ∧ (((decide ((Jg E (xss.getD i.toNat []) z) < (Jg E best z))) = true → (I6 (i + 1)) ∧ (∃ best' : ZI, ∃ i' : Int, (J0I xss U E z best' i') ∧ (JZ xss U E z best' i' < JZ xss U E z best i) ∧ ((.fn 157 0 [.bx [.sl (.ints U), .sl (.rows E)] 0, .bx [.int .i64 z] 0] : D) = (.fn 157 0 [.bx [.sl (.ints U), .sl (.rows E)] 0, .bx [.int .i64 z] 0] : D)) ∧ ((xss.getD i.toNat []) = best') ∧ (xss = xss) ∧ ((xss.length : Int) = (xss.length : Int)) ∧ ((i + 1) = i'))) ∧ ((decide ((Jg E (xss.getD i.toNat []) z) < (Jg E best z))) = false → (I6 (i + 1)) ∧ (∃ best' : ZI, ∃ i' : Int, (J0I xss U E z best' i') ∧ (JZ xss U E z best' i' < JZ xss U E z best i) ∧ ((.fn 157 0 [.bx [.sl (.ints U), .sl (.rows E)] 0, .bx [.int .i64 z] 0] : D) = (.fn 157 0 [.bx [.sl (.ints U), .sl (.rows E)] 0, .bx [.int .i64 z] 0] : D)) ∧ (best = best') ∧ (xss = xss) ∧ ((xss.length : Int) = (xss.length : Int)) ∧ ((i + 1) = i'))))) ∧ ((decide (i < (xss.length : Int))) = false → (((best : ZI) = (J0b (fun s9 => Jg E s9 z) xss)))))))
end Go.Proofs.YtomnmacmlhkceaaGreat
