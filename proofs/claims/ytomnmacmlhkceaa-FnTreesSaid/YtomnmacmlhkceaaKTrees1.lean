/- Contracts of the functions that the law reaches. -/
import Derived.Test.YtomnmacmlhkceaaQw
import Derived.Test.YtomnmacmlhkceaaQua
import Derived.Test.YtomnmacmlhkceaaQuc
import Derived.Test.YtomnmacmlhkceaaSh
import Derived.Test.YtomnmacmlhkceaaProg
import Derived.KernelRfl
set_option linter.unusedVariables false
set_option linter.unusedSimpArgs false
namespace Go.Proofs.Ytomnmacmlhkceaa
open Go

abbrev ZI := List Int
abbrev ZR := List (List Int)
abbrev I6 (x : Int) : Prop := -9223372036854775808 ≤ x ∧ x ≤ 9223372036854775807
def J8k (f : FuncId) (ds : List D) : Orc := .no
def J8u (x : Int) (a : Int) (b : Int) : Ann := .none
def J6K (x : Int) (a : Int) (b : Int) : Prop :=
  ((decide (x ≥ a)) = true → (decide (x ≥ a)) = true) ∧ ((decide (x ≥ a)) = true → (decide (x ≥ a)) = true) ∧ (true = true) ∧ (((decide (x ≥ a)) = true → (decide (x ≥ a)) = true)) ∧ (((decide (x ≥ a)) = false → true = true)) ∧ (((cond (decide (x ≥ a)) (decide (x ≤ b)) false) = (inB x a b)))
theorem J7Z (x : Int) (a : Int) (b : Int)   : J6K x a b := by
  unfold J6K
  refine ⟨id, id, rfl, id, fun _ => rfl, ?_⟩
  ·first | omega | rfl | (intro hg; simp only [nrmT] at hg; omega) | (intro g1 g2; simp [g1, g2]; done) | (intro g1; simp at g1 ⊢; simp [g1]; done) | (simp only [nrmT] at *; omega) | (simp at * <;> omega) | (simp_all <;> omega) | (simp_all; done) | (simp [inB]; omega) | (simp only [inB]; by_cases h : a ≤ x <;> simp_all)
theorem J2T (x : Int) (a : Int) (b : Int)  : PC Try.prog 116 [.int .i64 x, .int .i64 a, .int .i64 b] (.one (.d (.bool (inB x a b)))) :=
  pc_wf @Try.call116 fun _ => pc_by (by kernel_rfl) Try.func116 @Try.call116 (by kernel_rfl) J8k (J8u x a b) (by kernel_rfl) (J7Z x a b) (by kernel_rfl)
def J3g : List D → Orc := orcN [none, none, none] fun ds => match ds with
  | [.int .i64 x, .int .i64 a, .int .i64 b] => some (.one (.d (.bool (inB x a b))))
  | _ => none
def J7e (f : FuncId) (ds : List D) : Orc := .no
def J79 (x : Int) (a : Int) (b : Int) : Ann := .none
def J4m (x : Int) (a : Int) (b : Int) : Prop :=
  ((decide (x ≥ a)) = true → (decide (x ≥ a)) = true) ∧ ((decide (x ≥ a)) = true → (decide (x ≥ a)) = true) ∧ (true = true) ∧ (((decide (x ≥ a)) = true → (decide (x ≥ a)) = true)) ∧ (((decide (x ≥ a)) = false → true = true)) ∧ (((cond (decide (x ≥ a)) (decide (x ≤ b)) false) = (inB x a b)))
theorem J6z (x : Int) (a : Int) (b : Int)   : J4m x a b := by
  unfold J4m
  refine ⟨id, id, rfl, id, fun _ => rfl, ?_⟩
  ·first | omega | rfl | (intro hg; simp only [nrmT] at hg; omega) | (intro g1 g2; simp [g1, g2]; done) | (intro g1; simp at g1 ⊢; simp [g1]; done) | (simp only [nrmT] at *; omega) | (simp at * <;> omega) | (simp_all <;> omega) | (simp_all; done) | (simp [inB]; omega) | (simp only [inB]; by_cases h : a ≤ x <;> simp_all)
theorem J0E (x : Int) (a : Int) (b : Int)  : PC Try.prog 120 [.int .i64 x, .int .i64 a, .int .i64 b] (.one (.d (.bool (inB x a b)))) :=
  pc_wf @Try.call120 fun _ => pc_by (by kernel_rfl) Try.func120 @Try.call120 (by kernel_rfl) J7e (J79 x a b) (by kernel_rfl) (J6z x a b) (by kernel_rfl)
def J0X : List D → Orc := orcN [none, none, none] fun ds => match ds with
  | [.int .i64 x, .int .i64 a, .int .i64 b] => some (.one (.d (.bool (inB x a b))))
  | _ => none
def J1F (xs : ZI) (lo hi : Int) (k : Nat) : Bool := inB (xs.getD k 0) lo hi && (decide (k = 0) || decide (xs.getD (k - 1) 0 < xs.getD k 0))
def Ja (xs : ZI) (lo hi : Int) : Bool := allTo (J1F xs lo hi) xs.length
theorem J4j {xs : ZI} {lo hi i : Int} (h0 : 0 ≤ i) {c : Bool} (hc : (cond (!(inB (xs.getD i.toNat 0) lo hi)) true (cond (decide (i > 0)) (decide (xs.getD (i - 1).toNat 0 ≥ xs.getD i.toNat 0)) false)) = c) :
    J1F xs lo hi i.toNat = !c := by
  subst hc
  have e : (i - 1).toNat = i.toNat - 1 := by omega
  unfold J1F
  rw [e]
  cases inB (xs.getD i.toNat 0) lo hi
  · rfl
  by_cases h : i > 0
  · have h2 : ¬ i.toNat = 0 := by omega
    simp [h, h2]
    by_cases h3 : xs[i.toNat - 1]?.getD 0 < xs[i.toNat]?.getD 0
    · simp [h3]
    simp [h3]; omega
  · have h2 : i.toNat = 0 := by omega
    simp [h, h2]
abbrev J1f (xs : ZI) (below : Int) (i : Int) : Prop := (0 ≤ i) ∧ (i ≤ (xs.length : Int)) ∧ (allTo (J1F xs 0 (below - 1)) i.toNat = true)
abbrev J0H (xs : ZI) (below : Int) (i : Int) : Nat := (xs.length - i).toNat
def J6I (f : FuncId) (ds : List D) : Orc := bif Nat.beq f 120 then J0X ds else .no
def J6W (xs : ZI) (below : Int) : Ann := .two (.none) (.two (.two (.none) (.loop (cut1 (fun (i : Int) => J1f xs below i) (fun (i : Int) => [(0, .d false (.sl (.ints xs))), (1, .d false (.int .i64 below)), (7, .d false (.sl (.ints xs))), (8, .d true (.int .i64 (xs.length : Int))), (9, .d true (.int .i64 i))]) (fun (i : Int) => [])) (fun g => J0H xs below g) (fun _ => .none))) (.none))
def J3J (xs : ZI) (below : Int) : Prop :=
  ((∃ i' : Int, (J1f xs below i') ∧ (xs = xs) ∧ (below = below) ∧ (xs = xs) ∧ ((xs.length : Int) = (xs.length : Int)) ∧ ((0 : Int) = i')) ∧ (∀ i : Int, (J1f xs below i) → (((decide (i < (xs.length : Int))) = true → ((0 : Int) ≤ i) ∧ ((i : Int) < xs.length) ∧ (i.toNat < xs.length) ∧ (I6 (below - 1)) ∧ (PC Try.prog 120 [.int .i64 (xs.getD i.toNat 0), .int .i64 0, .int .i64 (below - 1)] (.one (.d (.bool (inB (xs.getD i.toNat 0) 0 (below - 1)))))) ∧ ((!(!(inB (xs.getD i.toNat 0) 0 (below - 1)))) = true → (!(!(inB (xs.getD i.toNat 0) 0 (below - 1)))) = true) ∧ ((!(!(inB (xs.getD i.toNat 0) 0 (below - 1)))) = true → (!(!(inB (xs.getD i.toNat 0) 0 (below - 1)))) = true) ∧ (((!(!(inB (xs.getD i.toNat 0) 0 (below - 1)))) && (decide (i > 0))) = true → ((!(!(inB (xs.getD i.toNat 0) 0 (below - 1)))) && (decide (i > 0))) = true) ∧ ((((!(!(inB (xs.getD i.toNat 0) 0 (below - 1)))) && (decide (i > 0))) = true → I6 (i - 1))) ∧ (((!(!(inB (xs.getD i.toNat 0) 0 (below - 1)))) && (decide (i > 0))) = true → ((!(!(inB (xs.getD i.toNat 0) 0 (below - 1)))) && (decide (i > 0))) = true) ∧ (((!(!(inB (xs.getD i.toNat 0) 0 (below - 1)))) && (decide (i > 0))) = true → ((!(!(inB (xs.getD i.toNat 0) 0 (below - 1)))) && (decide (i > 0))) = true) ∧ ((((!(!(inB (xs.getD i.toNat 0) 0 (below - 1)))) && (decide (i > 0))) = true → (0 : Int) ≤ (i - 1))) ∧ ((((!(!(inB (xs.getD i.toNat 0) 0 (below - 1)))) && (decide (i > 0))) = true → ((i - 1) : Int) < xs.length)) ∧ (((!(!(inB (xs.getD i.toNat 0) 0 (below - 1)))) && (decide (i > 0))) = true → ((!(!(inB (xs.getD i.toNat 0) 0 (below - 1)))) && (decide (i > 0))) = true) ∧ ((((!(!(inB (xs.getD i.toNat 0) 0 (below - 1)))) && (decide (i > 0))) = true → (i - 1).toNat < xs.length)) ∧ (((!(!(inB (xs.getD i.toNat 0) 0 (below - 1)))) && (decide (i > 0))) = true → ((!(!(inB (xs.getD i.toNat 0) 0 (below - 1)))) && (decide (i > 0))) = true) ∧ (((!(!(inB (xs.getD i.toNat 0) 0 (below - 1)))) && (decide (i > 0))) = true → ((!(!(inB (xs.getD i.toNat 0) 0 (below - 1)))) && (decide (i > 0))) = true) ∧ (((!(!(inB (xs.getD i.toNat 0) 0 (below - 1)))) = true → (!(!(inB (xs.getD i.toNat 0) 0 (below - 1)))) = true)) ∧ (((!(!(inB (xs.getD i.toNat 0) 0 (below - 1)))) = true → (decide (i > 0)) = true → ((!(!(inB (xs.getD i.toNat 0) 0 (below - 1)))) && (decide (i > 0))) = true)) ∧ (((!(!(inB (xs.getD i.toNat 0) 0 (below - 1)))) = true → (decide (i > 0)) = false → true = true)) ∧ (true = true) ∧ (((!(inB (xs.getD i.toNat 0) 0 (below - 1))) = true → true = true)) ∧ (((!(inB (xs.getD i.toNat 0) 0 (below - 1))) = false → (!(!(inB (xs.getD i.toNat 0) 0 (below - 1)))) = true)) ∧ (((cond (!(inB (xs.getD i.toNat 0) 0 (below - 1))) true (cond (decide (i > 0)) (decide ((xs.getD i.toNat 0) ≤ (xs.getD ((i - 1).toNat) 0))) false)) = true → ((false = (Ja xs 0 (below - 1))))) ∧ ((cond (!(inB (xs.getD i.toNat 0) 0 (below - 1))) true (cond (decide (i > 0)) (decide ((xs.getD i.toNat 0) ≤ (xs.getD ((i - 1).toNat) 0))) false)) = false → (I6 (i + 1)) ∧ (∃ i' : Int, (J1f xs below i') ∧ (J0H xs below i' < J0H xs below i) ∧ (xs = xs) ∧ (below = below) ∧ (xs = xs) ∧ ((xs.length : Int) = (xs.length : Int)) ∧ ((i + 1) = i'))))) ∧ ((decide (i < (xs.length : Int))) = false → ((true = (Ja xs 0 (below - 1))))))))
theorem J67 (xs : ZI) (below : Int) (hb : -9223372036854775808 < below ∧ below ≤ 9223372036854775807) (w_xs : (xs.length : Int) ≤ 9223372036854775807) : J3J xs below := by
  unfold J3J
  refine ⟨?_, ?_⟩
  ·refine ⟨0, ?_⟩
   refine ⟨?_, rfl, rfl, rfl, rfl, rfl⟩
   ·refine ⟨?_, ?_, ?_⟩
    ·first | omega | rfl | (intro hg; simp only [nrmT] at hg; omega) | (intro g1 g2; simp [g1, g2]; done) | (intro g1; simp at g1 ⊢; simp [g1]; done) | (simp only [nrmT] at *; omega) | (simp at * <;> omega) | (simp_all <;> omega) | (simp_all; done)
    ·first | omega | rfl | (intro hg; simp only [nrmT] at hg; omega) | (intro g1 g2; simp [g1, g2]; done) | (intro g1; simp at g1 ⊢; simp [g1]; done) | (simp only [nrmT] at *; omega) | (simp at * <;> omega) | (simp_all <;> omega) | (simp_all; done)
    ·first | omega | rfl | (intro hg; simp only [nrmT] at hg; omega) | (intro g1 g2; simp [g1, g2]; done) | (intro g1; simp at g1 ⊢; simp [g1]; done) | (simp only [nrmT] at *; omega) | (simp at * <;> omega) | (simp_all <;> omega) | (simp_all; done)
  intro i hJ
  obtain ⟨h1, h2, h3⟩ := hJ
  refine ⟨?_, ?_⟩
  ·intro b1
   try simp only [nrmT] at b1
   refine ⟨?_, ?_, ?_, ?_, J0E (xs.getD i.toNat 0) 0 (below - 1), id, id, id, ?_, id, id, ?_, ?_, id, ?_, id, id, id, ?_, fun _ _ => rfl, rfl, fun _ => rfl, ?_, ?_, ?_⟩
   ·first | omega | rfl | (intro hg; simp only [nrmT] at hg; omega) | (intro g1 g2; simp [g1, g2]; done) | (intro g1; simp at g1 ⊢; simp [g1]; done) | (simp only [nrmT] at *; omega) | (simp at * <;> omega) | (simp_all <;> omega) | (simp_all; done)
   ·first | omega | rfl | (intro hg; simp only [nrmT] at hg; omega) | (intro g1 g2; simp [g1, g2]; done) | (intro g1; simp at g1 ⊢; simp [g1]; done) | (simp only [nrmT] at *; omega) | (simp at * <;> omega) | (simp_all <;> omega) | (simp_all; done)
   ·first | omega | rfl | (intro hg; simp only [nrmT] at hg; omega) | (intro g1 g2; simp [g1, g2]; done) | (intro g1; simp at g1 ⊢; simp [g1]; done) | (simp only [nrmT] at *; omega) | (simp at * <;> omega) | (simp_all <;> omega) | (simp_all; done)
   ·first | omega | rfl | (intro hg; simp only [nrmT] at hg; omega) | (intro g1 g2; simp [g1, g2]; done) | (intro g1; simp at g1 ⊢; simp [g1]; done) | (simp only [nrmT] at *; omega) | (simp at * <;> omega) | (simp_all <;> omega) | (simp_all; done)
   ·first | omega | rfl | (intro hg; simp only [nrmT] at hg; omega) | (intro g1 g2; simp [g1, g2]; done) | (intro g1; simp at g1 ⊢; simp [g1]; done) | (simp only [nrmT] at *; omega) | (simp at * <;> omega) | (simp_all <;> omega) | (simp_all; done)
   ·first | omega | rfl | (intro hg; simp only [nrmT] at hg; omega) | (intro g1 g2; simp [g1, g2]; done) | (intro g1; simp at g1 ⊢; simp [g1]; done) | (simp only [nrmT] at *; omega) | (simp at * <;> omega) | (simp_all <;> omega) | (simp_all; done)
   ·first | omega | rfl | (intro hg; simp only [nrmT] at hg; omega) | (intro g1 g2; simp [g1, g2]; done) | (intro g1; simp at g1 ⊢; simp [g1]; done) | (simp only [nrmT] at *; omega) | (simp at * <;> omega) | (simp_all <;> omega) | (simp_all; done)
   ·first | omega | rfl | (intro hg; simp only [nrmT] at hg; omega) | (intro g1 g2; simp [g1, g2]; done) | (intro g1; simp at g1 ⊢; simp [g1]; done) | (simp only [nrmT] at *; omega) | (simp at * <;> omega) | (simp_all <;> omega) | (simp_all; done)
   ·first | omega | rfl | (intro hg; simp only [nrmT] at hg; omega) | (intro g1 g2; simp [g1, g2]; done) | (intro g1; simp at g1 ⊢; simp [g1]; done) | (simp only [nrmT] at *; omega) | (simp at * <;> omega) | (simp_all <;> omega) | (simp_all; done)
   ·first | omega | rfl | (intro hg; simp only [nrmT] at hg; omega) | (intro g1 g2; simp [g1, g2]; done) | (intro g1; simp at g1 ⊢; simp [g1]; done) | (simp only [nrmT] at *; omega) | (simp at * <;> omega) | (simp_all <;> omega) | (simp_all; done)
   ·intro b2
    have e := J4j h1 b2
    exact (allTo_falseI h1 (by omega) e).symm
   intro b3
   refine ⟨?_, ?_⟩
   ·first | omega | rfl | (intro hg; simp only [nrmT] at hg; omega) | (intro g1 g2; simp [g1, g2]; done) | (intro g1; simp at g1 ⊢; simp [g1]; done) | (simp only [nrmT] at *; omega) | (simp at * <;> omega) | (simp_all <;> omega) | (simp_all; done)
   refine ⟨(i + 1), ?_⟩
   refine ⟨?_, ?_, rfl, rfl, rfl, rfl, rfl⟩
   ·refine ⟨?_, ?_, ?_⟩
    ·first | omega | rfl | (intro hg; simp only [nrmT] at hg; omega) | (intro g1 g2; simp [g1, g2]; done) | (intro g1; simp at g1 ⊢; simp [g1]; done) | (simp only [nrmT] at *; omega) | (simp at * <;> omega) | (simp_all <;> omega) | (simp_all; done)
    ·first | omega | rfl | (intro hg; simp only [nrmT] at hg; omega) | (intro g1 g2; simp [g1, g2]; done) | (intro g1; simp at g1 ⊢; simp [g1]; done) | (simp only [nrmT] at *; omega) | (simp at * <;> omega) | (simp_all <;> omega) | (simp_all; done)
    ·have e := J4j h1 b3
     exact allTo_step h1 h3 e
   first | (show _ < _; omega) | (simp only [J0H]; omega) | (simp only [J0H] at *; simp at *; omega)
  intro b4
  try simp only [nrmT] at b4
  have e : i.toNat = xs.length := by omega
  rw [e] at h3
  exact h3.symm
theorem J6d (xs : ZI) (below : Int) (hb : -9223372036854775808 < below ∧ below ≤ 9223372036854775807) : PC Try.prog 130 [.sl (.ints xs), .int .i64 below] (.one (.d (.bool (Ja xs 0 (below - 1))))) :=
  pc_wf @Try.call130 fun hw => pc_by (by kernel_rfl) Try.func130 @Try.call130 (by kernel_rfl) J6I (J6W xs below) (by kernel_rfl) (J67 xs below hb hw.1) (by kernel_rfl)
def J5E : List D → Orc := orcN [some .ints, none] fun ds => match ds with
  | [.sl (.ints xs), .int .i64 below] => some (.one (.d (.bool (Ja xs 0 (below - 1)))))
  | _ => none
theorem J7X (m n : Nat) : decide ((m : Int) ≤ (n : Int)) = decide (m ≤ n) := by
  rw [Bool.eq_iff_iff]; simp only [decide_eq_true_eq]; omega
theorem J7o {α : Type} {p : α → Bool} {d : α} {xs : List α} {i : Int} (h2 : (xs.length : Int) ≤ i) (h2' : i ≤ (xs.length : Int)) (h3 : allTo (fun k => p (xs.getD k d)) i.toNat = true) : xs.all p = true := by
  have e : i.toNat = xs.length := by omega
  rw [e, allTo_list] at h3; exact h3
theorem J8a {α : Type} {p : α → Bool} {d : α} {xs : List α} {i : Int} (h0 : 0 ≤ i) (h : i < (xs.length : Int)) (h3 : p (xs.getD i.toNat d) = false) : xs.all p = false := by
  rw [← allTo_list (d := d)]; exact allTo_falseI h0 h h3
theorem JJ {x lo hi : Int} (h : inB x lo hi = true) : lo ≤ x ∧ x ≤ hi := of_decide_eq_true h
def J4K (f : FuncId) (ds : List D) : Orc := bif Nat.beq f 120 then J0X ds else .no
def J4u (x : Int) (lo : Int) (hi : Int) : Ann := .none
def J2M (x : Int) (lo : Int) (hi : Int) : Prop :=
  (PC Try.prog 120 [.int .i64 x, .int .i64 lo, .int .i64 hi] (.one (.d (.bool (inB x lo hi))))) ∧ (((!(inB x lo hi)) = (!(inB x lo hi))))
theorem J44 (x : Int) (lo : Int) (hi : Int)   : J2M x lo hi := by
  unfold J2M
  refine ⟨J0E x lo hi, rfl⟩
theorem J48 (x : Int) (lo : Int) (hi : Int)  : PC Try.prog 205 [.int .i64 x, .bx [.int .i64 lo] 0, .bx [.int .i64 hi] 0] (.one (.d (.bool (!(inB x lo hi))))) :=
  pc_wf @Try.call205 fun _ => pc_by (by kernel_rfl) Try.func205 @Try.call205 (by kernel_rfl) J4K (J4u x lo hi) (by kernel_rfl) (J44 x lo hi) (by kernel_rfl)
def J3s : List D → Orc := orcN [none, none, none] fun ds => match ds with
  | [.int .i64 x, .bx [.int .i64 lo] 0, .bx [.int .i64 hi] 0] => some (.one (.d (.bool (!(inB x lo hi)))))
  | _ => none
abbrev JA (xs : ZI) (lo : Int) (hi : Int) (i : Int) : Prop := (0 ≤ i) ∧ (i ≤ (xs.length : Int)) ∧ (∀ k, k < i.toNat → (fun x => !(inB x lo hi)) (xs.getD k 0) = false)
abbrev Jp (xs : ZI) (lo : Int) (hi : Int) (i : Int) : Nat := (xs.length - i).toNat
def J1X (f : FuncId) (ds : List D) : Orc := bif Nat.beq f 205 then J3s ds else .no
def J20 (xs : ZI) (lo : Int) (hi : Int) : Ann := .two (.none) (.two (.two (.none) (.loop (cut1 (fun (i : Int) => JA xs lo hi i) (fun (i : Int) => [(0, .d false (.sl (.ints xs))), (1, .d false (.fn 205 0 [.bx [.int .i64 lo] 0, .bx [.int .i64 hi] 0])), (7, .d true (.int .i64 (xs.length : Int))), (8, .d true (.int .i64 i))]) (fun (i : Int) => [])) (fun g => Jp xs lo hi g) (fun _ => .none))) (.none))
def J0B (xs : ZI) (lo : Int) (hi : Int) : Prop :=
  ((∃ i' : Int, (JA xs lo hi i') ∧ (xs = xs) ∧ ((.fn 205 0 [.bx [.int .i64 lo] 0, .bx [.int .i64 hi] 0] : D) = (.fn 205 0 [.bx [.int .i64 lo] 0, .bx [.int .i64 hi] 0] : D)) ∧ ((xs.length : Int) = (xs.length : Int)) ∧ ((0 : Int) = i')) ∧ (∀ i : Int, (JA xs lo hi i) → (((decide (i < (xs.length : Int))) = true → ((0 : Int) ≤ i) ∧ ((i : Int) < xs.length) ∧ (i.toNat < xs.length) ∧ (PC Try.prog 205 [.int .i64 (xs.getD i.toNat 0), .bx [.int .i64 lo] 0, .bx [.int .i64 hi] 0] (.one (.d (.bool (!(inB (xs.getD i.toNat 0) lo hi)))))) ∧ (((!(inB (xs.getD i.toNat 0) lo hi)) = true → ((i = (idxI (fun x => !(inB x lo hi)) xs)))) ∧ ((!(inB (xs.getD i.toNat 0) lo hi)) = false → (I6 (i + 1)) ∧ (∃ i' : Int, (JA xs lo hi i') ∧ (Jp xs lo hi i' < Jp xs lo hi i) ∧ (xs = xs) ∧ ((.fn 205 0 [.bx [.int .i64 lo] 0, .bx [.int .i64 hi] 0] : D) = (.fn 205 0 [.bx [.int .i64 lo] 0, .bx [.int .i64 hi] 0] : D)) ∧ ((xs.length : Int) = (xs.length : Int)) ∧ ((i + 1) = i'))))) ∧ ((decide (i < (xs.length : Int))) = false → ((((-1) : Int) = (idxI (fun x => !(inB x lo hi)) xs)))))))
theorem J1N (xs : ZI) (lo : Int) (hi : Int)  (w_xs : (xs.length : Int) ≤ 9223372036854775807) : J0B xs lo hi := by
  unfold J0B
  refine ⟨?_, ?_⟩
  ·refine ⟨0, ?_⟩
   refine ⟨?_, rfl, rfl, rfl, rfl⟩
   ·refine ⟨?_, ?_, ?_⟩
    ·first | omega | rfl | (intro hg; simp only [nrmT] at hg; omega) | (intro g1 g2; simp [g1, g2]; done) | (intro g1; simp at g1 ⊢; simp [g1]; done) | (simp only [nrmT] at *; omega) | (simp at * <;> omega) | (simp_all <;> omega) | (simp_all; done)
    ·first | omega | rfl | (intro hg; simp only [nrmT] at hg; omega) | (intro g1 g2; simp [g1, g2]; done) | (intro g1; simp at g1 ⊢; simp [g1]; done) | (simp only [nrmT] at *; omega) | (simp at * <;> omega) | (simp_all <;> omega) | (simp_all; done)
    ·first | omega | rfl | (intro hg; simp only [nrmT] at hg; omega) | (intro g1 g2; simp [g1, g2]; done) | (intro g1; simp at g1 ⊢; simp [g1]; done) | (simp only [nrmT] at *; omega) | (simp at * <;> omega) | (simp_all <;> omega) | (simp_all; done)
  intro i hJ
  obtain ⟨h1, h2, h3⟩ := hJ
  refine ⟨?_, ?_⟩
  ·intro b1
   try simp only [nrmT] at b1
   refine ⟨?_, ?_, ?_, J48 (xs.getD i.toNat 0) lo hi, ?_, ?_⟩
   ·first | omega | rfl | (intro hg; simp only [nrmT] at hg; omega) | (intro g1 g2; simp [g1, g2]; done) | (intro g1; simp at g1 ⊢; simp [g1]; done) | (simp only [nrmT] at *; omega) | (simp at * <;> omega) | (simp_all <;> omega) | (simp_all; done)
   ·first | omega | rfl | (intro hg; simp only [nrmT] at hg; omega) | (intro g1 g2; simp [g1, g2]; done) | (intro g1; simp at g1 ⊢; simp [g1]; done) | (simp only [nrmT] at *; omega) | (simp at * <;> omega) | (simp_all <;> omega) | (simp_all; done)
   ·first | omega | rfl | (intro hg; simp only [nrmT] at hg; omega) | (intro g1 g2; simp [g1, g2]; done) | (intro g1; simp at g1 ⊢; simp [g1]; done) | (simp only [nrmT] at *; omega) | (simp at * <;> omega) | (simp_all <;> omega) | (simp_all; done)
   ·intro b2
    try simp only [nrmT] at b2
    exact idx_found (p := fun x => !(inB x lo hi)) h1 b1 h3 (by simpa using b2)
   intro b3
   try simp only [nrmT] at b3
   refine ⟨?_, ?_⟩
   ·first | omega | rfl | (intro hg; simp only [nrmT] at hg; omega) | (intro g1 g2; simp [g1, g2]; done) | (intro g1; simp at g1 ⊢; simp [g1]; done) | (simp only [nrmT] at *; omega) | (simp at * <;> omega) | (simp_all <;> omega) | (simp_all; done)
   refine ⟨(i + 1), ?_⟩
   refine ⟨?_, ?_, rfl, rfl, rfl, rfl⟩
   ·refine ⟨?_, ?_, ?_⟩
    ·first | omega | rfl | (intro hg; simp only [nrmT] at hg; omega) | (intro g1 g2; simp [g1, g2]; done) | (intro g1; simp at g1 ⊢; simp [g1]; done) | (simp only [nrmT] at *; omega) | (simp at * <;> omega) | (simp_all <;> omega) | (simp_all; done)
    ·first | omega | rfl | (intro hg; simp only [nrmT] at hg; omega) | (intro g1 g2; simp [g1, g2]; done) | (intro g1; simp at g1 ⊢; simp [g1]; done) | (simp only [nrmT] at *; omega) | (simp at * <;> omega) | (simp_all <;> omega) | (simp_all; done)
    ·exact idx_step (p := fun x => !(inB x lo hi)) h1 h3 (by simpa using b3)
   first | (show _ < _; omega) | (simp only [Jp]; omega) | (simp only [Jp] at *; simp at *; omega)
  intro b4
  try simp only [nrmT] at b4
  exact (idx_none (by omega) h3).symm
theorem J1T (xs : ZI) (lo : Int) (hi : Int)  : PC Try.prog 204 [.sl (.ints xs), .fn 205 0 [.bx [.int .i64 lo] 0, .bx [.int .i64 hi] 0]] (.one (.d (.int .i64 (idxI (fun x => !(inB x lo hi)) xs)))) :=
  pc_wf @Try.call204 fun hw => pc_by (by kernel_rfl) Try.func204 @Try.call204 (by kernel_rfl) J1X (J20 xs lo hi) (by kernel_rfl) (J1N xs lo hi hw.1) (by kernel_rfl)
def J1J : List D → Orc := orcN [some .ints, none] fun ds => match ds with
  | [.sl (.ints xs), .fn f0 0 [.bx [.int .i64 lo] 0, .bx [.int .i64 hi] 0]] => bif Nat.beq f0 205 then some (.one (.d (.int .i64 (idxI (fun x => !(inB x lo hi)) xs)))) else none
  | _ => none
def J1C (f : FuncId) (ds : List D) : Orc := bif Nat.beq f 204 then J1J ds else .no
def J1A (xs : ZI) (lo : Int) (hi : Int) : Ann := .none
def J0d (xs : ZI) (lo : Int) (hi : Int) : Prop :=
  (PC Try.prog 204 [.sl (.ints xs), .fn 205 0 [.bx [.int .i64 lo] 0, .bx [.int .i64 hi] 0]] (.one (.d (.int .i64 (idxI (fun x => !(inB x lo hi)) xs))))) ∧ (((decide ((idxI (fun x => !(inB x lo hi)) xs) ≥ 0)) = (xs.any (fun x => !(inB x lo hi)))))
theorem J1u (xs : ZI) (lo : Int) (hi : Int)  (w_xs : (xs.length : Int) ≤ 9223372036854775807) : J0d xs lo hi := by
  unfold J0d
  refine ⟨J1T xs lo hi, ?_⟩
  ·exact idx_any _ _
theorem J1r (xs : ZI) (lo : Int) (hi : Int)  : PC Try.prog 127 [.sl (.ints xs), .fn 205 0 [.bx [.int .i64 lo] 0, .bx [.int .i64 hi] 0]] (.one (.d (.bool (xs.any (fun x => !(inB x lo hi)))))) :=
  pc_wf @Try.call127 fun hw => pc_by (by kernel_rfl) Try.func127 @Try.call127 (by kernel_rfl) J1C (J1A xs lo hi) (by kernel_rfl) (J1u xs lo hi hw.1) (by kernel_rfl)
def J1m : List D → Orc := orcN [some .ints, none] fun ds => match ds with
  | [.sl (.ints xs), .fn f0 0 [.bx [.int .i64 lo] 0, .bx [.int .i64 hi] 0]] => bif Nat.beq f0 205 then some (.one (.d (.bool (xs.any (fun x => !(inB x lo hi)))))) else none
  | _ => none
def J5w (f : FuncId) (ds : List D) : Orc := bif Nat.beq f 127 then J1m ds else .no
def J5t (xs : ZI) (lo : Int) (hi : Int) : Ann := .none
def J35 (xs : ZI) (lo : Int) (hi : Int) : Prop :=
  (PC Try.prog 127 [.sl (.ints xs), .fn 205 0 [.bx [.int .i64 lo] 0, .bx [.int .i64 hi] 0]] (.one (.d (.bool (xs.any (fun x => !(inB x lo hi))))))) ∧ (((!(xs.any (fun x => !(inB x lo hi)))) = (xs.all (fun x => inB x lo hi))))
theorem J4Z (xs : ZI) (lo : Int) (hi : Int)  (w_xs : (xs.length : Int) ≤ 9223372036854775807) : J35 xs lo hi := by
  unfold J35
  refine ⟨J1r xs lo hi, ?_⟩
  ·exact any_not _ _
theorem J12 (xs : ZI) (lo : Int) (hi : Int)  : PC Try.prog 131 [.sl (.ints xs), .int .i64 lo, .int .i64 hi] (.one (.d (.bool (xs.all (fun x => inB x lo hi))))) :=
  pc_wf @Try.call131 fun hw => pc_by (by kernel_rfl) Try.func131 @Try.call131 (by kernel_rfl) J5w (J5t xs lo hi) (by kernel_rfl) (J4Z xs lo hi hw.1) (by kernel_rfl)
def J0O : List D → Orc := orcN [some .ints, none, none] fun ds => match ds with
  | [.sl (.ints xs), .int .i64 lo, .int .i64 hi] => some (.one (.d (.bool (xs.all (fun x => inB x lo hi)))))
  | _ => none
theorem J2s {α : Type} [BEq α] [LawfulBEq α] {d : α} {xs ys : List α} (hl : xs.length = ys.length) : allTo (fun k => xs.getD k d == ys.getD k d) xs.length = (xs == ys) := by
  rw [Bool.eq_iff_iff, allTo_iff]
  simp only [beq_iff_eq]
  constructor
  · intro h
    refine List.ext_getElem hl fun k h1 h2 => ?_
    have := h k h1
    simpa [h1, h2] using this
  intro h k _
  rw [h]
theorem J87 {α : Type} [BEq α] [LawfulBEq α] {xs ys : List α} (h : ¬ xs.length = ys.length) : (xs == ys) = false := by
  rw [Bool.eq_false_iff]; intro h2; simp only [beq_iff_eq] at h2; exact h (by rw [h2])
def J3 (row : ZI) (n most : Int) : Bool := row.all (fun x => inB x 0 most) && decide ((row.length : Int) = n)
def J0 (U : ZI) (E : ZR) : Bool :=
  inB (U.length : Int) 1 7 && U.all (fun x => inB x 0 99) && decide (E.length ≤ 7) && E.all (fun l => J3 l (U.length : Int) 99)
theorem JG {U : ZI} {E : ZR} (h : J0 U E = true) : 1 ≤ U.length ∧ U.length ≤ 7 ∧ E.length ≤ 7 := by
  simp only [J0, Bool.and_eq_true, decide_eq_true_eq] at h
  have := JJ h.1.1.1
  omega
theorem Jz {U : ZI} {E : ZR} (h : J0 U E = true) {i : Nat} (hi : i < E.length) : (E.getD i []).length = U.length ∧ ∀ a, a < U.length → 0 ≤ (E.getD i []).getD a 0 ∧ (E.getD i []).getD a 0 ≤ 99 := by
  simp only [J0, Bool.and_eq_true, decide_eq_true_eq] at h
  have h2 := List.all_eq_true.1 h.2 _ (getD_mem (d := []) hi)
  simp only [J3, Bool.and_eq_true, decide_eq_true_eq] at h2
  refine ⟨by omega, fun a ha => ?_⟩
  exact JJ (List.all_eq_true.1 h2.1 _ (getD_mem (by omega)))
abbrev J2a (row : ZI) (n : Int) (most : Int) (i : Int) : Prop := (0 ≤ i) ∧ (i ≤ (row.length : Int)) ∧ (allTo (fun k => inB (row.getD k 0) 0 most) i.toNat = true)
abbrev J1q (row : ZI) (n : Int) (most : Int) (i : Int) : Nat := (row.length - i).toNat
def J8d (f : FuncId) (ds : List D) : Orc := bif Nat.beq f 116 then J3g ds else .no
def J85 (row : ZI) (n : Int) (most : Int) : Ann := .two (.none) (.two (.two (.none) (.loop (cut1 (fun (i : Int) => J2a row n most i) (fun (i : Int) => [(0, .d false (.sl (.ints row))), (1, .d false (.int .i64 n)), (2, .d false (.int .i64 most)), (7, .d true (.int .i64 i))]) (fun (i : Int) => [])) (fun g => J1q row n most g) (fun _ => .none))) (.none))
def J62 (row : ZI) (n : Int) (most : Int) : Prop :=
  ((∃ i' : Int, (J2a row n most i') ∧ (row = row) ∧ (n = n) ∧ (most = most) ∧ ((0 : Int) = i')) ∧ (∀ i : Int, (J2a row n most i) → (((decide (i < (row.length : Int))) = true → ((0 : Int) ≤ i) ∧ ((i : Int) < row.length) ∧ (i.toNat < row.length) ∧ (PC Try.prog 116 [.int .i64 (row.getD i.toNat 0), .int .i64 0, .int .i64 most] (.one (.d (.bool (inB (row.getD i.toNat 0) 0 most))))) ∧ (((!(inB (row.getD i.toNat 0) 0 most)) = true → ((false = (J3 row n most)))) ∧ ((!(inB (row.getD i.toNat 0) 0 most)) = false → (I6 (i + 1)) ∧ (∃ i' : Int, (J2a row n most i') ∧ (J1q row n most i' < J1q row n most i) ∧ (row = row) ∧ (n = n) ∧ (most = most) ∧ ((i + 1) = i'))))) ∧ ((decide (i < (row.length : Int))) = false → ((((row.length : Int) == n) = (J3 row n most)))))))
theorem J7z (row : ZI) (n : Int) (most : Int)  (w_row : (row.length : Int) ≤ 9223372036854775807) : J62 row n most := by
  unfold J62
  refine ⟨?_, ?_⟩
  ·refine ⟨0, ?_⟩
   refine ⟨?_, rfl, rfl, rfl, rfl⟩
   ·refine ⟨?_, ?_, ?_⟩
    ·first | omega | rfl | (intro hg; simp only [nrmT] at hg; omega) | (intro g1 g2; simp [g1, g2]; done) | (intro g1; simp at g1 ⊢; simp [g1]; done) | (simp only [nrmT] at *; omega) | (simp at * <;> omega) | (simp_all <;> omega) | (simp_all; done)
    ·first | omega | rfl | (intro hg; simp only [nrmT] at hg; omega) | (intro g1 g2; simp [g1, g2]; done) | (intro g1; simp at g1 ⊢; simp [g1]; done) | (simp only [nrmT] at *; omega) | (simp at * <;> omega) | (simp_all <;> omega) | (simp_all; done)
    ·first | omega | rfl | (intro hg; simp only [nrmT] at hg; omega) | (intro g1 g2; simp [g1, g2]; done) | (intro g1; simp at g1 ⊢; simp [g1]; done) | (simp only [nrmT] at *; omega) | (simp at * <;> omega) | (simp_all <;> omega) | (simp_all; done)
  intro i hJ
  obtain ⟨h1, h2, h3⟩ := hJ
  refine ⟨?_, ?_⟩
  ·intro b1
   try simp only [nrmT] at b1
   refine ⟨?_, ?_, ?_, J2T (row.getD i.toNat 0) 0 most, ?_, ?_⟩
   ·first | omega | rfl | (intro hg; simp only [nrmT] at hg; omega) | (intro g1 g2; simp [g1, g2]; done) | (intro g1; simp at g1 ⊢; simp [g1]; done) | (simp only [nrmT] at *; omega) | (simp at * <;> omega) | (simp_all <;> omega) | (simp_all; done)
   ·first | omega | rfl | (intro hg; simp only [nrmT] at hg; omega) | (intro g1 g2; simp [g1, g2]; done) | (intro g1; simp at g1 ⊢; simp [g1]; done) | (simp only [nrmT] at *; omega) | (simp at * <;> omega) | (simp_all <;> omega) | (simp_all; done)
   ·first | omega | rfl | (intro hg; simp only [nrmT] at hg; omega) | (intro g1 g2; simp [g1, g2]; done) | (intro g1; simp at g1 ⊢; simp [g1]; done) | (simp only [nrmT] at *; omega) | (simp at * <;> omega) | (simp_all <;> omega) | (simp_all; done)
   ·intro b2
    try simp only [nrmT] at b2
    unfold J3
    rw [J8a (p := fun x => inB x 0 most) (d := 0) h1 (by omega) b2]; rfl
   intro b3
   try simp only [nrmT] at b3
   refine ⟨?_, ?_⟩
   ·first | omega | rfl | (intro hg; simp only [nrmT] at hg; omega) | (intro g1 g2; simp [g1, g2]; done) | (intro g1; simp at g1 ⊢; simp [g1]; done) | (simp only [nrmT] at *; omega) | (simp at * <;> omega) | (simp_all <;> omega) | (simp_all; done)
   refine ⟨(i + 1), ?_⟩
   refine ⟨?_, ?_, rfl, rfl, rfl, rfl⟩
   ·refine ⟨?_, ?_, ?_⟩
    ·first | omega | rfl | (intro hg; simp only [nrmT] at hg; omega) | (intro g1 g2; simp [g1, g2]; done) | (intro g1; simp at g1 ⊢; simp [g1]; done) | (simp only [nrmT] at *; omega) | (simp at * <;> omega) | (simp_all <;> omega) | (simp_all; done)
    ·first | omega | rfl | (intro hg; simp only [nrmT] at hg; omega) | (intro g1 g2; simp [g1, g2]; done) | (intro g1; simp at g1 ⊢; simp [g1]; done) | (simp only [nrmT] at *; omega) | (simp at * <;> omega) | (simp_all <;> omega) | (simp_all; done)
    ·exact allTo_step h1 h3 b3
   first | (show _ < _; omega) | (simp only [J1q]; omega) | (simp only [J1q] at *; simp at *; omega)
  intro b4
  try simp only [nrmT] at b4
  unfold J3
  rw [J7o (p := fun x => inB x 0 most) (d := 0) (by omega) h2 h3, Bool.true_and]; rfl
theorem J2x (row : ZI) (n : Int) (most : Int)  : PC Try.prog 150 [.sl (.ints row), .int .i64 n, .int .i64 most] (.one (.d (.bool (J3 row n most)))) :=
  pc_wf @Try.call150 fun hw => pc_by (by kernel_rfl) Try.func150 @Try.call150 (by kernel_rfl) J8d (J85 row n most) (by kernel_rfl) (J7z row n most hw.1) (by kernel_rfl)
def J2Y : List D → Orc := orcN [some .ints, none, none] fun ds => match ds with
  | [.sl (.ints row), .int .i64 n, .int .i64 most] => some (.one (.d (.bool (J3 row n most))))
  | _ => none
abbrev J1R (U : ZI) (E : ZR) (i : Int) : Prop := (0 ≤ i) ∧ (i ≤ (E.length : Int)) ∧ (allTo (fun k => J3 (E.getD k []) (U.length : Int) 99) i.toNat = true)
abbrev J1c (U : ZI) (E : ZR) (i : Int) : Nat := (E.length - i).toNat
def J7G (f : FuncId) (ds : List D) : Orc := bif Nat.beq f 150 then J2Y ds else bif Nat.beq f 116 then J3g ds else .no
def J7A (U : ZI) (E : ZR) : Ann := .two (.none) (.two (.none) (.two (.two (.none) (.loop (cut1 (fun (i : Int) => J1R U E i) (fun (i : Int) => [(1, .ptr 1 0), (3, .d true (.int .i64 (U.length : Int))), (4, .d true (.int .i64 i))]) (fun (i : Int) => [(1, .box 39 [.d false (.sl (.ints U)), .d false (.sl (.rows E))])])) (fun g => J1c U E g) (fun _ => .none))) (.none)))
def J5d (U : ZI) (E : ZR) : Prop :=
  ((∃ i' : Int, (J1R U E i') ∧ ((U.length : Int) = (U.length : Int)) ∧ ((0 : Int) = i') ∧ (U = U) ∧ (E = E)) ∧ (∀ i : Int, (J1R U E i) → (((decide (i < (E.length : Int))) = true → ((0 : Int) ≤ i) ∧ ((i : Int) < E.length) ∧ (i.toNat < E.length) ∧ (PC Try.prog 150 [.sl (.ints (E.getD i.toNat [])), .int .i64 (U.length : Int), .int .i64 99] (.one (.d (.bool (J3 (E.getD i.toNat []) (U.length : Int) 99))))) ∧ (((!(J3 (E.getD i.toNat []) (U.length : Int) 99)) = true → ((false = (J0 U E)))) ∧ ((!(J3 (E.getD i.toNat []) (U.length : Int) 99)) = false → (I6 (i + 1)) ∧ (∃ i' : Int, (J1R U E i') ∧ (J1c U E i' < J1c U E i) ∧ ((U.length : Int) = (U.length : Int)) ∧ ((i + 1) = i') ∧ (U = U) ∧ (E = E))))) ∧ ((decide (i < (E.length : Int))) = false → (PC Try.prog 116 [.int .i64 (U.length : Int), .int .i64 1, .int .i64 7] (.one (.d (.bool (inB (U.length : Int) 1 7))))) ∧ ((inB (U.length : Int) 1 7) = true → (inB (U.length : Int) 1 7) = true) ∧ ((inB (U.length : Int) 1 7) = true → (inB (U.length : Int) 1 7) = true) ∧ ((inB (U.length : Int) 1 7) = true → (inB (U.length : Int) 1 7) = true) ∧ ((inB (U.length : Int) 1 7) = true → PC Try.prog 150 [.sl (.ints U), .int .i64 (U.length : Int), .int .i64 99] (.one (.d (.bool (J3 U (U.length : Int) 99))))) ∧ (true = true) ∧ (((inB (U.length : Int) 1 7) = true → (inB (U.length : Int) 1 7) = true)) ∧ (((inB (U.length : Int) 1 7) = false → true = true)) ∧ ((cond (inB (U.length : Int) 1 7) (J3 U (U.length : Int) 99) false) = true → (cond (inB (U.length : Int) 1 7) (J3 U (U.length : Int) 99) false) = true) ∧ ((cond (inB (U.length : Int) 1 7) (J3 U (U.length : Int) 99) false) = true → (cond (inB (U.length : Int) 1 7) (J3 U (U.length : Int) 99) false) = true) ∧ ((cond (inB (U.length : Int) 1 7) (J3 U (U.length : Int) 99) false) = true → (cond (inB (U.length : Int) 1 7) (J3 U (U.length : Int) 99) false) = true) ∧ (true = true) ∧ (((cond (inB (U.length : Int) 1 7) (J3 U (U.length : Int) 99) false) = true → (cond (inB (U.length : Int) 1 7) (J3 U (U.length : Int) 99) false) = true)) ∧ (((cond (inB (U.length : Int) 1 7) (J3 U (U.length : Int) 99) false) = false → true = true)) ∧ (((cond (cond (inB (U.length : Int) 1 7) (J3 U (U.length : Int) 99) false) (decide ((E.length : Int) ≤ 7)) false) = (J0 U E)))))))
theorem J7a (U : ZI) (E : ZR)  (w_Open : (U.length : Int) ≤ 9223372036854775807) (w_Dist : (E.length : Int) ≤ 9223372036854775807) (v_Dist : ∀ x9 ∈ E, (x9.length : Int) ≤ 9223372036854775807) : J5d U E := by
  unfold J5d
  refine ⟨?_, ?_⟩
  ·refine ⟨0, ?_⟩
   refine ⟨?_, rfl, rfl, rfl, rfl⟩
   ·refine ⟨?_, ?_, ?_⟩
    ·first | omega | rfl | (intro hg; simp only [nrmT] at hg; omega) | (intro g1 g2; simp [g1, g2]; done) | (intro g1; simp at g1 ⊢; simp [g1]; done) | (simp only [nrmT] at *; omega) | (simp at * <;> omega) | (simp_all <;> omega) | (simp_all; done)
    ·first | omega | rfl | (intro hg; simp only [nrmT] at hg; omega) | (intro g1 g2; simp [g1, g2]; done) | (intro g1; simp at g1 ⊢; simp [g1]; done) | (simp only [nrmT] at *; omega) | (simp at * <;> omega) | (simp_all <;> omega) | (simp_all; done)
    ·first | omega | rfl | (intro hg; simp only [nrmT] at hg; omega) | (intro g1 g2; simp [g1, g2]; done) | (intro g1; simp at g1 ⊢; simp [g1]; done) | (simp only [nrmT] at *; omega) | (simp at * <;> omega) | (simp_all <;> omega) | (simp_all; done)
  intro i hJ
  obtain ⟨h1, h2, h3⟩ := hJ
  refine ⟨?_, ?_⟩
  ·intro b1
   try simp only [nrmT] at b1
   refine ⟨?_, ?_, ?_, J2x (E.getD i.toNat []) (U.length : Int) 99, ?_, ?_⟩
   ·first | omega | rfl | (intro hg; simp only [nrmT] at hg; omega) | (intro g1 g2; simp [g1, g2]; done) | (intro g1; simp at g1 ⊢; simp [g1]; done) | (simp only [nrmT] at *; omega) | (simp at * <;> omega) | (simp_all <;> omega) | (simp_all; done)
   ·first | omega | rfl | (intro hg; simp only [nrmT] at hg; omega) | (intro g1 g2; simp [g1, g2]; done) | (intro g1; simp at g1 ⊢; simp [g1]; done) | (simp only [nrmT] at *; omega) | (simp at * <;> omega) | (simp_all <;> omega) | (simp_all; done)
   ·first | omega | rfl | (intro hg; simp only [nrmT] at hg; omega) | (intro g1 g2; simp [g1, g2]; done) | (intro g1; simp at g1 ⊢; simp [g1]; done) | (simp only [nrmT] at *; omega) | (simp at * <;> omega) | (simp_all <;> omega) | (simp_all; done)
   ·intro b2
    try simp only [nrmT] at b2
    unfold J0
    rw [J8a (p := fun l => J3 l (U.length : Int) 99) (d := []) h1 (by omega) b2, Bool.and_false]
   intro b3
   try simp only [nrmT] at b3
   refine ⟨?_, ?_⟩
   ·first | omega | rfl | (intro hg; simp only [nrmT] at hg; omega) | (intro g1 g2; simp [g1, g2]; done) | (intro g1; simp at g1 ⊢; simp [g1]; done) | (simp only [nrmT] at *; omega) | (simp at * <;> omega) | (simp_all <;> omega) | (simp_all; done)
   refine ⟨(i + 1), ?_⟩
   refine ⟨?_, ?_, rfl, rfl, rfl, rfl⟩
   ·refine ⟨?_, ?_, ?_⟩
    ·first | omega | rfl | (intro hg; simp only [nrmT] at hg; omega) | (intro g1 g2; simp [g1, g2]; done) | (intro g1; simp at g1 ⊢; simp [g1]; done) | (simp only [nrmT] at *; omega) | (simp at * <;> omega) | (simp_all <;> omega) | (simp_all; done)
    ·first | omega | rfl | (intro hg; simp only [nrmT] at hg; omega) | (intro g1 g2; simp [g1, g2]; done) | (intro g1; simp at g1 ⊢; simp [g1]; done) | (simp only [nrmT] at *; omega) | (simp at * <;> omega) | (simp_all <;> omega) | (simp_all; done)
    ·exact allTo_step h1 h3 b3
   first | (show _ < _; omega) | (simp only [J1c]; omega) | (simp only [J1c] at *; simp at *; omega)
  intro b4
  try simp only [nrmT] at b4
  refine ⟨J2T (U.length : Int) 1 7, id, id, id, fun _ => J2x U (U.length : Int) 99, rfl, id, fun _ => rfl, id, id, id, rfl, id, fun _ => rfl, ?_⟩
  ·unfold J0
   rw [J7o (p := fun l => J3 l (U.length : Int) 99) (d := []) (by omega) h2 h3, show decide ((E.length : Int) ≤ 7) = decide (E.length ≤ 7) from J7X _ 7]
   unfold J3
   cases inB (U.length : Int) 1 7 <;> cases U.all (fun x => inB x 0 99) <;> cases decide (E.length ≤ 7) <;> simp
theorem J78 (U : ZI) (E : ZR)  : PC Try.prog 115 [.agg [.sl (.ints U), .sl (.rows E)]] (.one (.d (.bool (J0 U E)))) :=
  pc_wf @Try.call115 fun hw => pc_by (by kernel_rfl) Try.func115 @Try.call115 (by kernel_rfl) J7G (J7A U E) (by kernel_rfl) (J7a U E hw.1.1 hw.1.2.1.1 hw.1.2.1.2) (by kernel_rfl)
def J6D : List D → Orc := orcN [none] fun ds => match ds with
  | [.agg [.sl (.ints U), .sl (.rows E)]] => some (.one (.d (.bool (J0 U E))))
  | _ => none
def J68 (f : FuncId) (ds : List D) : Orc := bif Nat.beq f 131 then J0O ds else .no
def J6g (xs : ZI) (U : ZI) (E : ZR) : Ann := .none
def J3n (xs : ZI) (U : ZI) (E : ZR) : Prop :=
  ((!((xs.length : Int) != (U.length : Int))) = true → (!((xs.length : Int) != (U.length : Int))) = true) ∧ ((!((xs.length : Int) != (U.length : Int))) = true → PC Try.prog 131 [.sl (.ints xs), .int .i64 0, .int .i64 99] (.one (.d (.bool (xs.all (fun x => inB x 0 99)))))) ∧ ((!((xs.length : Int) != (U.length : Int))) = true → (!((xs.length : Int) != (U.length : Int))) = true) ∧ (true = true) ∧ ((((xs.length : Int) != (U.length : Int)) = true → true = true)) ∧ ((((xs.length : Int) != (U.length : Int)) = false → (!((xs.length : Int) != (U.length : Int))) = true)) ∧ (((cond ((xs.length : Int) != (U.length : Int)) true (!(xs.all (fun x => inB x 0 99)))) = (!(J3 xs (U.length : Int) 99))))
theorem J5p (xs : ZI) (U : ZI) (E : ZR)  (w_xs : (xs.length : Int) ≤ 9223372036854775807) (w_Open : (U.length : Int) ≤ 9223372036854775807) (w_Dist : (E.length : Int) ≤ 9223372036854775807) (v_Dist : ∀ x9 ∈ E, (x9.length : Int) ≤ 9223372036854775807) : J3n xs U E := by
  unfold J3n
  refine ⟨id, fun _ => J12 xs 0 99, id, rfl, fun _ => rfl, ?_, ?_⟩
  ·first | omega | rfl | (intro hg; simp only [nrmT] at hg; omega) | (intro g1 g2; simp [g1, g2]; done) | (intro g1; simp at g1 ⊢; simp [g1]; done) | (simp only [nrmT] at *; omega) | (simp at * <;> omega) | (simp_all <;> omega) | (simp_all; done)
  unfold J3
  by_cases h : (xs.length : Int) = (U.length : Int)
  · simp [h]
  simp [h]
theorem J5l (xs : ZI) (U : ZI) (E : ZR)  : PC Try.prog 200 [.sl (.ints xs), .bx [.sl (.ints U), .sl (.rows E)] 0] (.one (.d (.bool (!(J3 xs (U.length : Int) 99))))) :=
  pc_wf @Try.call200 fun hw => pc_by (by kernel_rfl) Try.func200 @Try.call200 (by kernel_rfl) J68 (J6g xs U E) (by kernel_rfl) (J5p xs U E hw.1 hw.2.1.1 hw.2.1.2.1.1 hw.2.1.2.1.2) (by kernel_rfl)
def J52 : List D → Orc := orcN [some .ints, none] fun ds => match ds with
  | [.sl (.ints xs), .bx [.sl (.ints U), .sl (.rows E)] 0] => some (.one (.d (.bool (!(J3 xs (U.length : Int) 99)))))
  | _ => none
abbrev JB (xs : ZR) (U : ZI) (E : ZR) (i : Int) : Prop := (0 ≤ i) ∧ (i ≤ (xs.length : Int)) ∧ (∀ k, k < i.toNat → (fun x => !(J3 x (U.length : Int) 99)) (xs.getD k []) = false)
abbrev Jo (xs : ZR) (U : ZI) (E : ZR) (i : Int) : Nat := (xs.length - i).toNat
def J1Y (f : FuncId) (ds : List D) : Orc := bif Nat.beq f 200 then J52 ds else .no
def J1Z (xs : ZR) (U : ZI) (E : ZR) : Ann := .two (.none) (.two (.two (.none) (.loop (cut1 (fun (i : Int) => JB xs U E i) (fun (i : Int) => [(0, .d false (.sl (.rows xs))), (1, .d false (.fn 200 0 [.bx [.sl (.ints U), .sl (.rows E)] 0])), (7, .d true (.int .i64 (xs.length : Int))), (8, .d true (.int .i64 i))]) (fun (i : Int) => [])) (fun g => Jo xs U E g) (fun _ => .none))) (.none))
def J0C (xs : ZR) (U : ZI) (E : ZR) : Prop :=
  ((∃ i' : Int, (JB xs U E i') ∧ (xs = xs) ∧ ((.fn 200 0 [.bx [.sl (.ints U), .sl (.rows E)] 0] : D) = (.fn 200 0 [.bx [.sl (.ints U), .sl (.rows E)] 0] : D)) ∧ ((xs.length : Int) = (xs.length : Int)) ∧ ((0 : Int) = i')) ∧ (∀ i : Int, (JB xs U E i) → (((decide (i < (xs.length : Int))) = true → ((0 : Int) ≤ i) ∧ ((i : Int) < xs.length) ∧ (i.toNat < xs.length) ∧ (PC Try.prog 200 [.sl (.ints (xs.getD i.toNat [])), .bx [.sl (.ints U), .sl (.rows E)] 0] (.one (.d (.bool (!(J3 (xs.getD i.toNat []) (U.length : Int) 99)))))) ∧ (((!(J3 (xs.getD i.toNat []) (U.length : Int) 99)) = true → ((i = (idxI (fun x => !(J3 x (U.length : Int) 99)) xs)))) ∧ ((!(J3 (xs.getD i.toNat []) (U.length : Int) 99)) = false → (I6 (i + 1)) ∧ (∃ i' : Int, (JB xs U E i') ∧ (Jo xs U E i' < Jo xs U E i) ∧ (xs = xs) ∧ ((.fn 200 0 [.bx [.sl (.ints U), .sl (.rows E)] 0] : D) = (.fn 200 0 [.bx [.sl (.ints U), .sl (.rows E)] 0] : D)) ∧ ((xs.length : Int) = (xs.length : Int)) ∧ ((i + 1) = i'))))) ∧ ((decide (i < (xs.length : Int))) = false → ((((-1) : Int) = (idxI (fun x => !(J3 x (U.length : Int) 99)) xs)))))))
theorem J1V (xs : ZR) (U : ZI) (E : ZR)  (w_xs : (xs.length : Int) ≤ 9223372036854775807) (v_xs : ∀ x9 ∈ xs, (x9.length : Int) ≤ 9223372036854775807) (w_Open : (U.length : Int) ≤ 9223372036854775807) (w_Dist : (E.length : Int) ≤ 9223372036854775807) (v_Dist : ∀ x9 ∈ E, (x9.length : Int) ≤ 9223372036854775807) : J0C xs U E := by
  unfold J0C
  refine ⟨?_, ?_⟩
  ·refine ⟨0, ?_⟩
   refine ⟨?_, rfl, rfl, rfl, rfl⟩
   ·refine ⟨?_, ?_, ?_⟩
    ·first | omega | rfl | (intro hg; simp only [nrmT] at hg; omega) | (intro g1 g2; simp [g1, g2]; done) | (intro g1; simp at g1 ⊢; simp [g1]; done) | (simp only [nrmT] at *; omega) | (simp at * <;> omega) | (simp_all <;> omega) | (simp_all; done)
    ·first | omega | rfl | (intro hg; simp only [nrmT] at hg; omega) | (intro g1 g2; simp [g1, g2]; done) | (intro g1; simp at g1 ⊢; simp [g1]; done) | (simp only [nrmT] at *; omega) | (simp at * <;> omega) | (simp_all <;> omega) | (simp_all; done)
    ·first | omega | rfl | (intro hg; simp only [nrmT] at hg; omega) | (intro g1 g2; simp [g1, g2]; done) | (intro g1; simp at g1 ⊢; simp [g1]; done) | (simp only [nrmT] at *; omega) | (simp at * <;> omega) | (simp_all <;> omega) | (simp_all; done)
  intro i hJ
  obtain ⟨h1, h2, h3⟩ := hJ
  refine ⟨?_, ?_⟩
  ·intro b1
   try simp only [nrmT] at b1
   refine ⟨?_, ?_, ?_, J5l (xs.getD i.toNat []) U E, ?_, ?_⟩
   ·first | omega | rfl | (intro hg; simp only [nrmT] at hg; omega) | (intro g1 g2; simp [g1, g2]; done) | (intro g1; simp at g1 ⊢; simp [g1]; done) | (simp only [nrmT] at *; omega) | (simp at * <;> omega) | (simp_all <;> omega) | (simp_all; done)
   ·first | omega | rfl | (intro hg; simp only [nrmT] at hg; omega) | (intro g1 g2; simp [g1, g2]; done) | (intro g1; simp at g1 ⊢; simp [g1]; done) | (simp only [nrmT] at *; omega) | (simp at * <;> omega) | (simp_all <;> omega) | (simp_all; done)
   ·first | omega | rfl | (intro hg; simp only [nrmT] at hg; omega) | (intro g1 g2; simp [g1, g2]; done) | (intro g1; simp at g1 ⊢; simp [g1]; done) | (simp only [nrmT] at *; omega) | (simp at * <;> omega) | (simp_all <;> omega) | (simp_all; done)
   ·intro b2
    try simp only [nrmT] at b2
    exact idx_found (p := fun x => !(J3 x (U.length : Int) 99)) h1 b1 h3 (by simpa using b2)
   intro b3
   try simp only [nrmT] at b3
   refine ⟨?_, ?_⟩
   ·first | omega | rfl | (intro hg; simp only [nrmT] at hg; omega) | (intro g1 g2; simp [g1, g2]; done) | (intro g1; simp at g1 ⊢; simp [g1]; done) | (simp only [nrmT] at *; omega) | (simp at * <;> omega) | (simp_all <;> omega) | (simp_all; done)
   refine ⟨(i + 1), ?_⟩
   refine ⟨?_, ?_, rfl, rfl, rfl, rfl⟩
   ·refine ⟨?_, ?_, ?_⟩
    ·first | omega | rfl | (intro hg; simp only [nrmT] at hg; omega) | (intro g1 g2; simp [g1, g2]; done) | (intro g1; simp at g1 ⊢; simp [g1]; done) | (simp only [nrmT] at *; omega) | (simp at * <;> omega) | (simp_all <;> omega) | (simp_all; done)
    ·first | omega | rfl | (intro hg; simp only [nrmT] at hg; omega) | (intro g1 g2; simp [g1, g2]; done) | (intro g1; simp at g1 ⊢; simp [g1]; done) | (simp only [nrmT] at *; omega) | (simp at * <;> omega) | (simp_all <;> omega) | (simp_all; done)
    ·exact idx_step (p := fun x => !(J3 x (U.length : Int) 99)) h1 h3 (by simpa using b3)
   first | (show _ < _; omega) | (simp only [Jo]; omega) | (simp only [Jo] at *; simp at *; omega)
  intro b4
  try simp only [nrmT] at b4
  exact (idx_none (by omega) h3).symm
theorem J1K (xs : ZR) (U : ZI) (E : ZR)  : PC Try.prog 224 [.sl (.rows xs), .fn 200 0 [.bx [.sl (.ints U), .sl (.rows E)] 0]] (.one (.d (.int .i64 (idxI (fun x => !(J3 x (U.length : Int) 99)) xs)))) :=
  pc_wf @Try.call224 fun hw => pc_by (by kernel_rfl) Try.func224 @Try.call224 (by kernel_rfl) J1Y (J1Z xs U E) (by kernel_rfl) (J1V xs U E hw.1.1 hw.1.2 hw.2.1.1.1 hw.2.1.1.2.1.1 hw.2.1.1.2.1.2) (by kernel_rfl)
def J1I : List D → Orc := orcN [some .rows, none] fun ds => match ds with
  | [.sl (.rows xs), .fn f0 0 [.bx [.sl (.ints U), .sl (.rows E)] 0]] => bif Nat.beq f0 200 then some (.one (.d (.int .i64 (idxI (fun x => !(J3 x (U.length : Int) 99)) xs)))) else none
  | _ => none
def J1y (f : FuncId) (ds : List D) : Orc := bif Nat.beq f 224 then J1I ds else .no
def J1z (xs : ZR) (U : ZI) (E : ZR) : Ann := .none
def J09 (xs : ZR) (U : ZI) (E : ZR) : Prop :=
  (PC Try.prog 224 [.sl (.rows xs), .fn 200 0 [.bx [.sl (.ints U), .sl (.rows E)] 0]] (.one (.d (.int .i64 (idxI (fun x => !(J3 x (U.length : Int) 99)) xs))))) ∧ (((decide ((idxI (fun x => !(J3 x (U.length : Int) 99)) xs) ≥ 0)) = (xs.any (fun x => !(J3 x (U.length : Int) 99)))))
theorem J1v (xs : ZR) (U : ZI) (E : ZR)  (w_xs : (xs.length : Int) ≤ 9223372036854775807) (v_xs : ∀ x9 ∈ xs, (x9.length : Int) ≤ 9223372036854775807) (w_Open : (U.length : Int) ≤ 9223372036854775807) (w_Dist : (E.length : Int) ≤ 9223372036854775807) (v_Dist : ∀ x9 ∈ E, (x9.length : Int) ≤ 9223372036854775807) : J09 xs U E := by
  unfold J09
  refine ⟨J1K xs U E, ?_⟩
  ·exact idx_any _ _
theorem J1s (xs : ZR) (U : ZI) (E : ZR)  : PC Try.prog 169 [.sl (.rows xs), .fn 200 0 [.bx [.sl (.ints U), .sl (.rows E)] 0]] (.one (.d (.bool (xs.any (fun x => !(J3 x (U.length : Int) 99)))))) :=
  pc_wf @Try.call169 fun hw => pc_by (by kernel_rfl) Try.func169 @Try.call169 (by kernel_rfl) J1y (J1z xs U E) (by kernel_rfl) (J1v xs U E hw.1.1 hw.1.2 hw.2.1.1.1 hw.2.1.1.2.1.1 hw.2.1.1.2.1.2) (by kernel_rfl)
def J1n : List D → Orc := orcN [some .rows, none] fun ds => match ds with
  | [.sl (.rows xs), .fn f0 0 [.bx [.sl (.ints U), .sl (.rows E)] 0]] => bif Nat.beq f0 200 then some (.one (.d (.bool (xs.any (fun x => !(J3 x (U.length : Int) 99)))))) else none
  | _ => none
def J73 (f : FuncId) (ds : List D) : Orc := bif Nat.beq f 120 then J0X ds else bif Nat.beq f 131 then J0O ds else bif Nat.beq f 169 then J1n ds else .no
def J71 (U : ZI) (E : ZR) : Ann := .none
def Jt (U : ZI) (E : ZR) : Bool := (cond (cond (inB (U.length : Int) 1 7) (U.all (fun x => inB x 0 99)) false) (decide ((E.length : Int) ≤ 7)) false)
def J4h (U : ZI) (E : ZR) : Prop :=
  (PC Try.prog 120 [.int .i64 (U.length : Int), .int .i64 1, .int .i64 7] (.one (.d (.bool (inB (U.length : Int) 1 7))))) ∧ ((inB (U.length : Int) 1 7) = true → (inB (U.length : Int) 1 7) = true) ∧ ((inB (U.length : Int) 1 7) = true → (inB (U.length : Int) 1 7) = true) ∧ ((inB (U.length : Int) 1 7) = true → PC Try.prog 131 [.sl (.ints U), .int .i64 0, .int .i64 99] (.one (.d (.bool (U.all (fun x => inB x 0 99)))))) ∧ (true = true) ∧ (((inB (U.length : Int) 1 7) = true → (inB (U.length : Int) 1 7) = true)) ∧ (((inB (U.length : Int) 1 7) = false → true = true)) ∧ ((cond (inB (U.length : Int) 1 7) (U.all (fun x => inB x 0 99)) false) = true → (cond (inB (U.length : Int) 1 7) (U.all (fun x => inB x 0 99)) false) = true) ∧ ((cond (inB (U.length : Int) 1 7) (U.all (fun x => inB x 0 99)) false) = true → (cond (inB (U.length : Int) 1 7) (U.all (fun x => inB x 0 99)) false) = true) ∧ ((cond (inB (U.length : Int) 1 7) (U.all (fun x => inB x 0 99)) false) = true → (cond (inB (U.length : Int) 1 7) (U.all (fun x => inB x 0 99)) false) = true) ∧ (true = true) ∧ (((cond (inB (U.length : Int) 1 7) (U.all (fun x => inB x 0 99)) false) = true → (cond (inB (U.length : Int) 1 7) (U.all (fun x => inB x 0 99)) false) = true)) ∧ (((cond (inB (U.length : Int) 1 7) (U.all (fun x => inB x 0 99)) false) = false → true = true)) ∧ ((Jt U E) = true → (Jt U E) = true) ∧ ((Jt U E) = true → (Jt U E) = true) ∧ ((Jt U E) = true → (Jt U E) = true) ∧ ((Jt U E) = true → PC Try.prog 169 [.sl (.rows E), .fn 200 0 [.bx [.sl (.ints U), .sl (.rows E)] 0]] (.one (.d (.bool (E.any (fun x => !(J3 x (U.length : Int) 99))))))) ∧ ((Jt U E) = true → (Jt U E) = true) ∧ (true = true) ∧ (((Jt U E) = true → (Jt U E) = true)) ∧ (((Jt U E) = false → true = true)) ∧ (((cond (Jt U E) (!(E.any (fun x => !(J3 x (U.length : Int) 99)))) false) = (J0 U E)))
theorem J6C (U : ZI) (E : ZR)  (w_Open : (U.length : Int) ≤ 9223372036854775807) (w_Dist : (E.length : Int) ≤ 9223372036854775807) (v_Dist : ∀ x9 ∈ E, (x9.length : Int) ≤ 9223372036854775807) : J4h U E := by
  unfold J4h Jt
  refine ⟨J0E (U.length : Int) 1 7, id, id, fun _ => J12 U 0 99, rfl, id, fun _ => rfl, id, id, id, rfl, id, fun _ => rfl, id, id, id, fun _ => J1s E U E, id, rfl, id, fun _ => rfl, ?_⟩
  ·unfold J0
   rw [any_not, show decide ((E.length : Int) ≤ 7) = decide (E.length ≤ 7) from J7X _ 7]
   cases inB (U.length : Int) 1 7 <;> cases U.all (fun x => inB x 0 99) <;> cases decide (E.length ≤ 7) <;> simp
theorem J1U (U : ZI) (E : ZR)  : PC Try.prog 119 [.agg [.sl (.ints U), .sl (.rows E)]] (.one (.d (.bool (J0 U E)))) :=
  pc_wf @Try.call119 fun hw => pc_by (by kernel_rfl) Try.func119 @Try.call119 (by kernel_rfl) J73 (J71 U E) (by kernel_rfl) (J6C U E hw.1.1 hw.1.2.1.1 hw.1.2.1.2) (by kernel_rfl)
def J1w : List D → Orc := orcN [none] fun ds => match ds with
  | [.agg [.sl (.ints U), .sl (.rows E)]] => some (.one (.d (.bool (J0 U E))))
  | _ => none
def Jb (f : Nat → Int) (n : Nat) : Int := foldTo (fun s k => s + f k) 0 n
theorem J1p {f : Nat → Int} {m : Int} (n : Nat) (h : ∀ k, k < n → 0 ≤ f k ∧ f k ≤ m) : 0 ≤ Jb f n ∧ Jb f n ≤ m * n := by
  induction n with
  | zero => simp [Jb, foldTo]
  | succ n ih =>
    have h1 := ih fun k hk => h k (Nat.lt_succ_of_lt hk)
    have h2 := h n (Nat.lt_succ_self n)
    have e : Jb f (n + 1) = Jb f n + f n := rfl
    rw [e]
    have e2 : m * ((n + 1 : Nat) : Int) = m * (n : Int) + m := by rw [Int.natCast_succ, Int.mul_add, Int.mul_one]
    rw [e2]
    omega
theorem J2f {xs : ZI} {lo hi : Int} (h : Ja xs lo hi = true) : ∀ k, k < xs.length → lo + k ≤ xs.getD k 0 ∧ xs.getD k 0 ≤ hi := by
  intro k
  induction k with
  | zero =>
    intro hk
    have h1 := allTo_iff.1 h 0 hk
    simp only [J1F, Bool.and_eq_true] at h1
    have := JJ h1.1
    omega
  | succ k ih =>
    intro hk
    have h0 := ih (by omega)
    have h1 := allTo_iff.1 h (k + 1) hk
    simp only [J1F, Bool.and_eq_true, Bool.or_eq_true, decide_eq_true_eq, Nat.add_sub_cancel] at h1
    have := JJ h1.1
    have h2 := h1.2
    omega
def J70 (f : FuncId) (ds : List D) : Orc := .no
def J7f (b : Int) (x : Int) : Ann := .none
def J4i (b : Int) (x : Int) : Prop :=
  ((0 : Int) ≤ b ∧ (b : Int) ≤ 18446744073709551615) ∧ ((0 : Int) ≤ x) ∧ ((0 : Int) ≤ (b / 2 ^ x.toNat) ∧ ((b / 2 ^ x.toNat) : Int) ≤ 18446744073709551615) ∧ ((0 : Int) ≤ 1 ∧ (1 : Int) ≤ 18446744073709551615) ∧ ((((((b / 2 ^ x.toNat).toNat &&& 1 : Nat) : Int) == 1) = (b.toNat.testBit x.toNat)))
theorem J6Y (b : Int) (x : Int) (hb : 0 ≤ b ∧ b ≤ 4611686018427387903) (hx : 0 ≤ x)  : J4i b x := by
  unfold J4i
  refine ⟨?_, ?_, ?_, ?_, ?_⟩
  ·first | omega | rfl | (intro hg; simp only [nrmT] at hg; omega) | (intro g1 g2; simp [g1, g2]; done) | (intro g1; simp at g1 ⊢; simp [g1]; done) | (simp only [nrmT] at *; omega) | (simp at * <;> omega) | (simp_all <;> omega) | (simp_all; done)
  ·first | omega | rfl | (intro hg; simp only [nrmT] at hg; omega) | (intro g1 g2; simp [g1, g2]; done) | (intro g1; simp at g1 ⊢; simp [g1]; done) | (simp only [nrmT] at *; omega) | (simp at * <;> omega) | (simp_all <;> omega) | (simp_all; done)
  ·have h1 : 0 ≤ b / 2 ^ x.toNat := Int.ediv_nonneg hb.1 (Int.le_of_lt (Int.pow_pos (by omega)))
   have h2 : b / 2 ^ x.toNat ≤ b := Int.ediv_le_self _ hb.1
   omega
  ·first | omega | rfl | (intro hg; simp only [nrmT] at hg; omega) | (intro g1 g2; simp [g1, g2]; done) | (intro g1; simp at g1 ⊢; simp [g1]; done) | (simp only [nrmT] at *; omega) | (simp at * <;> omega) | (simp_all <;> omega) | (simp_all; done)
  have e : b = ((b.toNat : Nat) : Int) := by omega
  have h := shr_bit (n := b.toNat) (k := x.toNat)
  rw [← e] at h
  rw [h]
  cases b.toNat.testBit x.toNat <;> rfl
theorem J6Q (b : Int) (x : Int) (hb : 0 ≤ b ∧ b ≤ 4611686018427387903) (hx : 0 ≤ x) : PC Try.prog 226 [.int .u64 b, .int .i64 x] (.one (.d (.bool (b.toNat.testBit x.toNat)))) :=
  pc_wf @Try.call226 fun _ => pc_by (by kernel_rfl) Try.func226 @Try.call226 (by kernel_rfl) J70 (J7f b x) (by kernel_rfl) (J6Y b x hb hx) (by kernel_rfl)
def J6c : List D → Orc := orcN [none, none] fun ds => match ds with
  | [.int .u64 b, .int .i64 x] => some (.one (.d (.bool (b.toNat.testBit x.toNat))))
  | _ => none
theorem J58 {xs : ZI} {lo hi : Int} (h : Ja xs lo hi = true) : ∀ x ∈ xs, lo ≤ x ∧ x ≤ hi := by
  intro x hx
  obtain ⟨k, hk, rfl⟩ := List.mem_iff_getElem.1 hx
  have := J2f h k hk
  simp [hk] at this
  omega
theorem J92 {n : Nat} (h : n ≤ 8) : (2 : Nat) ^ n ≤ 256 := Nat.le_trans (Nat.pow_le_pow_right (by omega) h) (by decide)
theorem J08 {α : Type} {xs : List α} {k : Nat} {d : α} (h : k < xs.length) : xs.getD k d = xs[k] := by simp [h]
def J4T (f : FuncId) (ds : List D) : Orc := bif Nat.beq f 130 then J5E ds else .no
def J4W (U : ZI) (E : ZR) (set : ZI) : Ann := .none
def J2P (U : ZI) (E : ZR) (set : ZI) : Prop :=
  ((decide ((set.length : Int) > 0)) = true → (decide ((set.length : Int) > 0)) = true) ∧ ((decide ((set.length : Int) > 0)) = true → (decide ((set.length : Int) > 0)) = true) ∧ ((decide ((set.length : Int) > 0)) = true → (decide ((set.length : Int) > 0)) = true) ∧ ((decide ((set.length : Int) > 0)) = true → (decide ((set.length : Int) > 0)) = true) ∧ ((decide ((set.length : Int) > 0)) = true → PC Try.prog 130 [.sl (.ints set), .int .i64 (U.length : Int)] (.one (.d (.bool (Ja set 0 ((U.length : Int) - 1)))))) ∧ (true = true) ∧ (((decide ((set.length : Int) > 0)) = true → (decide ((set.length : Int) > 0)) = true)) ∧ (((decide ((set.length : Int) > 0)) = false → true = true)) ∧ (((cond (decide ((set.length : Int) > 0)) (Ja set 0 ((U.length : Int) - 1)) false) = (Ja set 0 ((U.length : Int) - 1) && decide (0 < set.length))))
theorem J4N (U : ZI) (E : ZR) (set : ZI)  (w_Open : (U.length : Int) ≤ 9223372036854775807) (w_Dist : (E.length : Int) ≤ 9223372036854775807) (v_Dist : ∀ x9 ∈ E, (x9.length : Int) ≤ 9223372036854775807) (w_set : (set.length : Int) ≤ 9223372036854775807) : J2P U E set := by
  unfold J2P
  refine ⟨id, id, id, id, ?_, rfl, id, fun _ => rfl, ?_⟩
  ·intro hg
   refine J6d set (U.length : Int) ?_
   ·first | omega | rfl | (intro hg; simp only [nrmT] at hg; omega) | (intro g1 g2; simp [g1, g2]; done) | (intro g1; simp at g1 ⊢; simp [g1]; done) | (simp only [nrmT] at *; omega) | (simp at * <;> omega) | (simp_all <;> omega) | (simp_all; done)
  rw [(show decide ((set.length : Int) > 0) = decide (0 < set.length) by rw [Bool.eq_iff_iff]; simp only [decide_eq_true_eq]; omega)]
  cases Ja set 0 ((U.length : Int) - 1) <;> cases decide (0 < set.length) <;> rfl
theorem J4M (U : ZI) (E : ZR) (set : ZI)  : PC Try.prog 211 [.agg [.sl (.ints U), .sl (.rows E)], .sl (.ints set)] (.one (.d (.bool (Ja set 0 ((U.length : Int) - 1) && decide (0 < set.length))))) :=
  pc_wf @Try.call211 fun hw => pc_by (by kernel_rfl) Try.func211 @Try.call211 (by kernel_rfl) J4T (J4W U E set) (by kernel_rfl) (J4N U E set hw.1.1 hw.1.2.1.1 hw.1.2.1.2 hw.2.1) (by kernel_rfl)
def J45 : List D → Orc := orcN [none, some .ints] fun ds => match ds with
  | [.agg [.sl (.ints U), .sl (.rows E)], .sl (.ints set)] => some (.one (.d (.bool (Ja set 0 ((U.length : Int) - 1) && decide (0 < set.length)))))
  | _ => none
def J6H (f : FuncId) (ds : List D) : Orc := bif Nat.beq f 119 then J1w ds else bif Nat.beq f 211 then J45 ds else .no
def J6A (U : ZI) (E : ZR) (set : ZI) : Ann := .none
def J3t (U : ZI) (E : ZR) (set : ZI) : Prop :=
  (PC Try.prog 119 [.agg [.sl (.ints U), .sl (.rows E)]] (.one (.d (.bool (J0 U E))))) ∧ ((J0 U E) = true → (J0 U E) = true) ∧ ((J0 U E) = true → (J0 U E) = true) ∧ ((J0 U E) = true → PC Try.prog 211 [.agg [.sl (.ints U), .sl (.rows E)], .sl (.ints set)] (.one (.d (.bool (Ja set 0 ((U.length : Int) - 1) && decide (0 < set.length)))))) ∧ (true = true) ∧ (((J0 U E) = true → (J0 U E) = true)) ∧ (((J0 U E) = false → true = true)) ∧ (((cond (J0 U E) (Ja set 0 ((U.length : Int) - 1) && decide (0 < set.length)) false) = (J0 U E && Ja set 0 ((U.length : Int) - 1) && decide (0 < set.length))))
theorem J6l (U : ZI) (E : ZR) (set : ZI)  (w_Open : (U.length : Int) ≤ 9223372036854775807) (w_Dist : (E.length : Int) ≤ 9223372036854775807) (v_Dist : ∀ x9 ∈ E, (x9.length : Int) ≤ 9223372036854775807) (w_set : (set.length : Int) ≤ 9223372036854775807) : J3t U E set := by
  unfold J3t
  refine ⟨J1U U E, id, id, fun _ => J4M U E set, rfl, id, fun _ => rfl, ?_⟩
  ·cases J0 U E <;> cases Ja set 0 ((U.length : Int) - 1) <;> cases decide (0 < set.length) <;> rfl
theorem J66 (U : ZI) (E : ZR) (set : ZI)  : PC Try.prog 136 [.agg [.sl (.ints U), .sl (.rows E)], .sl (.ints set)] (.one (.d (.bool (J0 U E && Ja set 0 ((U.length : Int) - 1) && decide (0 < set.length))))) :=
  pc_wf @Try.call136 fun hw => pc_by (by kernel_rfl) Try.func136 @Try.call136 (by kernel_rfl) J6H (J6A U E set) (by kernel_rfl) (J6l U E set hw.1.1 hw.1.2.1.1 hw.1.2.1.2 hw.2.1) (by kernel_rfl)
def J5Q : List D → Orc := orcN [none, some .ints] fun ds => match ds with
  | [.agg [.sl (.ints U), .sl (.rows E)], .sl (.ints set)] => some (.one (.d (.bool (J0 U E && Ja set 0 ((U.length : Int) - 1) && decide (0 < set.length)))))
  | _ => none
theorem J1E {U set : ZI} {E : ZR} (h : (J0 U E && Ja set 0 ((U.length : Int) - 1) && decide (0 < set.length)) = true) :
    J0 U E = true ∧ Ja set 0 ((U.length : Int) - 1) = true ∧ 0 < set.length := by
  simp only [Bool.and_eq_true, decide_eq_true_eq] at h
  exact ⟨h.1.1, h.1.2, h.2⟩
theorem J7s {b x : Int} (hb : 0 ≤ b ∧ b ≤ 4611686018427387903) (h2 : x ≤ 62) (h : 0 < b / 2 ^ x.toNat) : x < 62 := by
  by_cases e : x = 62
  · subst e
    have e2 : (2 : Int) ^ (62 : Int).toNat = 4611686018427387904 := by decide
    rw [e2] at h
    omega
  omega
theorem J8O {b : Int} {m : Nat} (hb : 0 ≤ b) (h : ¬ 0 < b / 2 ^ m) (k : Nat) (hk : m ≤ k) : b.toNat.testBit k = false := by
  have h1 : b.toNat / 2 ^ m = 0 := by
    have h2 : ((b.toNat / 2 ^ m : Nat) : Int) = b / 2 ^ m := by
      rw [Int.natCast_ediv, Int.toNat_of_nonneg hb]; simp
    have h3 : (0 : Int) ≤ ((b.toNat / 2 ^ m : Nat) : Int) := Int.natCast_nonneg _
    omega
  have h4 : b.toNat < 2 ^ m := (Nat.div_eq_zero_iff_lt (Nat.two_pow_pos m)).1 h1
  exact Nat.testBit_lt_two_pow (Nat.lt_of_lt_of_le h4 (Nat.pow_le_pow_right (by omega) hk))
theorem J1W {p : Nat → Bool} {m : Nat} (h : ∀ k, m ≤ k → p k = false) : ∀ n, m ≤ n → members p n = members p m
  | 0, hn => by have : m = 0 := by omega
                rw [this]
  | n + 1, hn => by
    by_cases e : m = n + 1
    · rw [e]
    rw [members_succ, J1W h n (by omega), h n (by omega)]; simp
def J3S (row set : ZI) (b : Int) (k : Nat) : Int := if row.getD (set.getD k 0).toNat 0 < row.getD b.toNat 0 then set.getD k 0 else b
def J05 (row set : ZI) (k : Nat) : Int := foldTo (J3S row set) (set.getD 0 0) k
theorem J2b (row set : ZI) (k : Nat) : J05 row set (k + 1) = J3S row set (J05 row set k) k := rfl
theorem J2g {row set : ZI} {n : Int} (h : ∀ k, k < set.length → 0 ≤ set.getD k 0 ∧ set.getD k 0 < n) (hp : 0 < set.length) : ∀ k, k ≤ set.length → 0 ≤ J05 row set k ∧ J05 row set k < n
  | 0, _ => h 0 hp
  | k + 1, hk => by
    rw [J2b]
    unfold J3S
    split
    · exact h k (by omega)
    exact J2g h hp k (by omega)
abbrev J01 (U : ZI) (E : ZR) (client : Int) (set : ZI) (best : Int) (k : Int) : Prop := (0 ≤ k) ∧ (k ≤ (set.length : Int)) ∧ (best = J05 (E.getD client.toNat []) set k.toNat)
abbrev Ju (U : ZI) (E : ZR) (client : Int) (set : ZI) (best : Int) (k : Int) : Nat := (set.length - k).toNat
def J4y (f : FuncId) (ds : List D) : Orc := .no
def J4x (U : ZI) (E : ZR) (client : Int) (set : ZI) : Ann := .two (.none) (.two (.none) (.two (.two (.none) (.loop (cut2 (fun (best : Int) (k : Int) => J01 U E client set best k) (fun (best : Int) (k : Int) => [(1, .d false (.int .i64 client)), (3, .ptr 3 0), (7, .d true (.int .i64 best)), (13, .d false (.sl (.ints set))), (14, .d true (.int .i64 (set.length : Int))), (15, .d true (.int .i64 k))]) (fun (best : Int) (k : Int) => [(3, .box 39 [.d false (.sl (.ints U)), .d false (.sl (.rows E))])])) (fun g => Ju U E client set g.1 g.2) (fun _ => .none))) (.none)))
def J2L (U : ZI) (E : ZR) (client : Int) (set : ZI) : Prop :=
  ((0 : Int) ≤ 0) ∧ ((0 : Int) < set.length) ∧ (0 < set.length) ∧ ((∃ best' : Int, ∃ k' : Int, (J01 U E client set best' k') ∧ (client = client) ∧ ((set.getD 0 0) = best') ∧ (set = set) ∧ ((set.length : Int) = (set.length : Int)) ∧ ((0 : Int) = k') ∧ (U = U) ∧ (E = E)) ∧ (∀ best : Int, ∀ k : Int, (J01 U E client set best k) → (((decide (k < (set.length : Int))) = true → ((0 : Int) ≤ k) ∧ ((k : Int) < set.length) ∧ (k.toNat < set.length) ∧ (true = true) ∧ ((0 : Int) ≤ client) ∧ ((client : Int) < E.length) ∧ (client.toNat < E.length) ∧ ((0 : Int) ≤ (set.getD k.toNat 0)) ∧ (((set.getD k.toNat 0) : Int) < (E.getD client.toNat []).length) ∧ ((set.getD k.toNat 0).toNat < (E.getD client.toNat []).length) ∧ ((0 : Int) ≤ client) ∧ ((client : Int) < E.length) ∧ (client.toNat < E.length) ∧ ((0 : Int) ≤ best) ∧ ((best : Int) < (E.getD client.toNat []).length) ∧ (best.toNat < (E.getD client.toNat []).length) ∧ (((decide (((E.getD client.toNat []).getD ((set.getD k.toNat 0).toNat) 0) < ((E.getD client.toNat []).getD best.toNat 0))) = true → (I6 (k + 1)) ∧ (∃ best' : Int, ∃ k' : Int, (J01 U E client set best' k') ∧ (Ju U E client set best' k' < Ju U E client set best k) ∧ (client = client) ∧ ((set.getD k.toNat 0) = best') ∧ (set = set) ∧ ((set.length : Int) = (set.length : Int)) ∧ ((k + 1) = k') ∧ (U = U) ∧ (E = E))) ∧ ((decide (((E.getD client.toNat []).getD ((set.getD k.toNat 0).toNat) 0) < ((E.getD client.toNat []).getD best.toNat 0))) = false → (I6 (k + 1)) ∧ (∃ best' : Int, ∃ k' : Int, (J01 U E client set best' k') ∧ (Ju U E client set best' k' < Ju U E client set best k) ∧ (client = client) ∧ (best = best') ∧ (set = set) ∧ ((set.length : Int) = (set.length : Int)) ∧ ((k + 1) = k') ∧ (U = U) ∧ (E = E))))) ∧ ((decide (k < (set.length : Int))) = false → ((best = (J05 (E.getD client.toNat []) set set.length)))))))
theorem J49 (U : ZI) (E : ZR) (client : Int) (set : ZI) (ht : (J0 U E && Ja set 0 ((U.length : Int) - 1) && decide (0 < set.length)) = true) (hc : 0 ≤ client ∧ client < (E.length : Int)) (w_Open : (U.length : Int) ≤ 9223372036854775807) (w_Dist : (E.length : Int) ≤ 9223372036854775807) (v_Dist : ∀ x9 ∈ E, (x9.length : Int) ≤ 9223372036854775807) (w_set : (set.length : Int) ≤ 9223372036854775807) : J2L U E client set := by
  unfold J2L
  obtain ⟨hg, hs, hp⟩ := J1E ht
  obtain ⟨g1, g2, g3⟩ := JG hg
  have cs := fun k => J2f hs k
  obtain ⟨rl, rb⟩ := Jz (i := client.toNat) hg (by omega)
  have si := J2g (row := E.getD client.toNat []) (set := set) (n := (U.length : Int)) (fun k hk => by have := cs k hk; omega) hp
  refine ⟨?_, ?_, ?_, ?_, ?_⟩
  ·first | omega | rfl | (intro hg; simp only [nrmT] at hg; omega) | (intro g1 g2; simp [g1, g2]; done) | (intro g1; simp at g1 ⊢; simp [g1]; done) | (simp only [nrmT] at *; omega) | (simp at * <;> omega) | (simp_all <;> omega) | (simp_all; done)
  ·first | omega | rfl | (intro hg; simp only [nrmT] at hg; omega) | (intro g1 g2; simp [g1, g2]; done) | (intro g1; simp at g1 ⊢; simp [g1]; done) | (simp only [nrmT] at *; omega) | (simp at * <;> omega) | (simp_all <;> omega) | (simp_all; done)
  ·first | omega | rfl | (intro hg; simp only [nrmT] at hg; omega) | (intro g1 g2; simp [g1, g2]; done) | (intro g1; simp at g1 ⊢; simp [g1]; done) | (simp only [nrmT] at *; omega) | (simp at * <;> omega) | (simp_all <;> omega) | (simp_all; done)
  ·refine ⟨(set.getD 0 0), 0, ?_⟩
   refine ⟨?_, rfl, rfl, rfl, rfl, rfl, rfl, rfl⟩
   ·refine ⟨?_, ?_, ?_⟩
    ·first | omega | rfl | (intro hg; simp only [nrmT] at hg; omega) | (intro g1 g2; simp [g1, g2]; done) | (intro g1; simp at g1 ⊢; simp [g1]; done) | (simp only [nrmT] at *; omega) | (simp at * <;> omega) | (simp_all <;> omega) | (simp_all; done)
    ·first | omega | rfl | (intro hg; simp only [nrmT] at hg; omega) | (intro g1 g2; simp [g1, g2]; done) | (intro g1; simp at g1 ⊢; simp [g1]; done) | (simp only [nrmT] at *; omega) | (simp at * <;> omega) | (simp_all <;> omega) | (simp_all; done)
    ·rfl
  intro best k hJ
  obtain ⟨h1, h2, h3⟩ := hJ
  refine ⟨?_, ?_⟩
  ·intro b1
   try simp only [nrmT] at b1
   refine ⟨?_, ?_, ?_, rfl, ?_, ?_, ?_, ?_, ?_, ?_, ?_, ?_, ?_, ?_, ?_, ?_, ?_, ?_⟩
   ·first | omega | rfl | (intro hg; simp only [nrmT] at hg; omega) | (intro g1 g2; simp [g1, g2]; done) | (intro g1; simp at g1 ⊢; simp [g1]; done) | (simp only [nrmT] at *; omega) | (simp at * <;> omega) | (simp_all <;> omega) | (simp_all; done)
   ·first | omega | rfl | (intro hg; simp only [nrmT] at hg; omega) | (intro g1 g2; simp [g1, g2]; done) | (intro g1; simp at g1 ⊢; simp [g1]; done) | (simp only [nrmT] at *; omega) | (simp at * <;> omega) | (simp_all <;> omega) | (simp_all; done)
   ·first | omega | rfl | (intro hg; simp only [nrmT] at hg; omega) | (intro g1 g2; simp [g1, g2]; done) | (intro g1; simp at g1 ⊢; simp [g1]; done) | (simp only [nrmT] at *; omega) | (simp at * <;> omega) | (simp_all <;> omega) | (simp_all; done)
   ·first | omega | rfl | (intro hg; simp only [nrmT] at hg; omega) | (intro g1 g2; simp [g1, g2]; done) | (intro g1; simp at g1 ⊢; simp [g1]; done) | (simp only [nrmT] at *; omega) | (simp at * <;> omega) | (simp_all <;> omega) | (simp_all; done)
   ·first | omega | rfl | (intro hg; simp only [nrmT] at hg; omega) | (intro g1 g2; simp [g1, g2]; done) | (intro g1; simp at g1 ⊢; simp [g1]; done) | (simp only [nrmT] at *; omega) | (simp at * <;> omega) | (simp_all <;> omega) | (simp_all; done)
   ·first | omega | rfl | (intro hg; simp only [nrmT] at hg; omega) | (intro g1 g2; simp [g1, g2]; done) | (intro g1; simp at g1 ⊢; simp [g1]; done) | (simp only [nrmT] at *; omega) | (simp at * <;> omega) | (simp_all <;> omega) | (simp_all; done)
   ·have := cs k.toNat (by omega)
    omega
   ·have := cs k.toNat (by omega)
    omega
   ·have := cs k.toNat (by omega)
    omega
   ·first | omega | rfl | (intro hg; simp only [nrmT] at hg; omega) | (intro g1 g2; simp [g1, g2]; done) | (intro g1; simp at g1 ⊢; simp [g1]; done) | (simp only [nrmT] at *; omega) | (simp at * <;> omega) | (simp_all <;> omega) | (simp_all; done)
   ·first | omega | rfl | (intro hg; simp only [nrmT] at hg; omega) | (intro g1 g2; simp [g1, g2]; done) | (intro g1; simp at g1 ⊢; simp [g1]; done) | (simp only [nrmT] at *; omega) | (simp at * <;> omega) | (simp_all <;> omega) | (simp_all; done)
   ·first | omega | rfl | (intro hg; simp only [nrmT] at hg; omega) | (intro g1 g2; simp [g1, g2]; done) | (intro g1; simp at g1 ⊢; simp [g1]; done) | (simp only [nrmT] at *; omega) | (simp at * <;> omega) | (simp_all <;> omega) | (simp_all; done)
   ·have := si k.toNat (by omega)
    omega
   ·have := si k.toNat (by omega)
    omega
   ·have := si k.toNat (by omega)
    omega
   ·intro b2
    try simp only [nrmT] at b2
    refine ⟨?_, ?_⟩
    ·first | omega | rfl | (intro hg; simp only [nrmT] at hg; omega) | (intro g1 g2; simp [g1, g2]; done) | (intro g1; simp at g1 ⊢; simp [g1]; done) | (simp only [nrmT] at *; omega) | (simp at * <;> omega) | (simp_all <;> omega) | (simp_all; done)
    refine ⟨(set.getD k.toNat 0), (k + 1), ?_⟩
    refine ⟨?_, ?_, rfl, rfl, rfl, rfl, rfl, rfl, rfl⟩
    ·refine ⟨?_, ?_, ?_⟩
     ·first | omega | rfl | (intro hg; simp only [nrmT] at hg; omega) | (intro g1 g2; simp [g1, g2]; done) | (intro g1; simp at g1 ⊢; simp [g1]; done) | (simp only [nrmT] at *; omega) | (simp at * <;> omega) | (simp_all <;> omega) | (simp_all; done)
     ·first | omega | rfl | (intro hg; simp only [nrmT] at hg; omega) | (intro g1 g2; simp [g1, g2]; done) | (intro g1; simp at g1 ⊢; simp [g1]; done) | (simp only [nrmT] at *; omega) | (simp at * <;> omega) | (simp_all <;> omega) | (simp_all; done)
     ·rw [show (k + 1).toNat = k.toNat + 1 by omega, J2b, ← h3]; unfold J3S; rw [if_pos b2]
    first | (show _ < _; omega) | (simp only [Ju]; omega) | (simp only [Ju] at *; simp at *; omega)
   intro b3
   try simp only [nrmT] at b3
   refine ⟨?_, ?_⟩
   ·first | omega | rfl | (intro hg; simp only [nrmT] at hg; omega) | (intro g1 g2; simp [g1, g2]; done) | (intro g1; simp at g1 ⊢; simp [g1]; done) | (simp only [nrmT] at *; omega) | (simp at * <;> omega) | (simp_all <;> omega) | (simp_all; done)
   refine ⟨best, (k + 1), ?_⟩
   refine ⟨?_, ?_, rfl, rfl, rfl, rfl, rfl, rfl, rfl⟩
   ·refine ⟨?_, ?_, ?_⟩
    ·first | omega | rfl | (intro hg; simp only [nrmT] at hg; omega) | (intro g1 g2; simp [g1, g2]; done) | (intro g1; simp at g1 ⊢; simp [g1]; done) | (simp only [nrmT] at *; omega) | (simp at * <;> omega) | (simp_all <;> omega) | (simp_all; done)
    ·first | omega | rfl | (intro hg; simp only [nrmT] at hg; omega) | (intro g1 g2; simp [g1, g2]; done) | (intro g1; simp at g1 ⊢; simp [g1]; done) | (simp only [nrmT] at *; omega) | (simp at * <;> omega) | (simp_all <;> omega) | (simp_all; done)
    ·rw [show (k + 1).toNat = k.toNat + 1 by omega, J2b, ← h3]; unfold J3S; rw [if_neg (by omega)]
   first | (show _ < _; omega) | (simp only [Ju]; omega) | (simp only [Ju] at *; simp at *; omega)
  intro b4
  try simp only [nrmT] at b4
  rw [h3, show k.toNat = set.length by omega]
theorem J4d (U : ZI) (E : ZR) (client : Int) (set : ZI) (ht : (J0 U E && Ja set 0 ((U.length : Int) - 1) && decide (0 < set.length)) = true) (hc : 0 ≤ client ∧ client < (E.length : Int)) : PC Try.prog 240 [.agg [.sl (.ints U), .sl (.rows E)], .int .i64 client, .sl (.ints set)] (.one (.d (.int .i64 (J05 (E.getD client.toNat []) set set.length)))) :=
  pc_wf @Try.call240 fun hw => pc_by (by kernel_rfl) Try.func240 @Try.call240 (by kernel_rfl) J4y (J4x U E client set) (by kernel_rfl) (J49 U E client set ht hc hw.1.1 hw.1.2.1.1 hw.1.2.1.2 hw.2.2.1) (by kernel_rfl)
def J3O : List D → Orc := orcN [none, none, some .ints] fun ds => match ds with
  | [.agg [.sl (.ints U), .sl (.rows E)], .int .i64 client, .sl (.ints set)] => some (.one (.d (.int .i64 (J05 (E.getD client.toNat []) set set.length))))
  | _ => none
def Jq (E : ZR) (set : ZI) (n : Nat) : ZI := (List.range n).map fun i => J05 (E.getD i []) set set.length
def J3h (E : ZR) (set : ZI) (i : Nat) : Int := (E.getD i []).getD (J05 (E.getD i []) set set.length).toNat 0
def JS (E : ZR) (set : ZI) (n : Nat) : ZI := (List.range n).map (J3h E set)
theorem J5T (E : ZR) (set : ZI) (n : Nat) : (Jq E set n).length = n := by simp [Jq]
theorem J3w (E : ZR) (set : ZI) (n : Nat) : (JS E set n).length = n := by simp [JS]
theorem J2w (E : ZR) (set : ZI) (n i : Nat) (h : i < n) : (Jq E set n).getD i 0 = J05 (E.getD i []) set set.length := by simp [Jq, h]
theorem J7x (E : ZR) (set : ZI) (n i : Nat) (h : i < n) : (JS E set n).getD i 0 = J3h E set i := by simp [JS, h]
theorem J7F (E : ZR) (set : ZI) (n : Nat) : Jq E set (n + 1) = Jq E set n ++ [J05 (E.getD n []) set set.length] := by simp [Jq, List.range_succ]
theorem J7J (E : ZR) (set : ZI) (n : Nat) : JS E set (n + 1) = JS E set n ++ [J3h E set n] := by simp [JS, List.range_succ]
abbrev J0n (U : ZI) (E : ZR) (set : ZI) (out : ZI) (i : Int) : Prop := (0 ≤ i) ∧ (i ≤ (E.length : Int)) ∧ (out = Jq E set i.toNat)
abbrev JX (U : ZI) (E : ZR) (set : ZI) (out : ZI) (i : Int) : Nat := (E.length - i).toNat
def J4H (f : FuncId) (ds : List D) : Orc := bif Nat.beq f 240 then J3O ds else .no
def J4t (U : ZI) (E : ZR) (set : ZI) : Ann := .two (.none) (.two (.none) (.two (.two (.none) (.loop (cut2 (fun (out : ZI) (i : Int) => J0n U E set out i) (fun (out : ZI) (i : Int) => [(1, .d false (.sl (.ints set))), (2, .ptr 2 0), (5, .own 1000000 out.length), (10, .d true (.int .i64 (E.length : Int))), (11, .d true (.int .i64 i))]) (fun (out : ZI) (i : Int) => [(1000000, .arr true 3 (.ints out)), (2, .box 39 [.d false (.sl (.ints U)), .d false (.sl (.rows E))])])) (fun g => JX U E set g.1 g.2) (fun _ => .none))) (.none)))
def J2E (U : ZI) (E : ZR) (set : ZI) : Prop :=
  ((∃ out' : ZI, ∃ i' : Int, (J0n U E set out' i') ∧ (set = set) ∧ ((0 : Nat) = out'.length) ∧ ((E.length : Int) = (E.length : Int)) ∧ ((0 : Int) = i') ∧ ([] = out') ∧ (U = U) ∧ (E = E)) ∧ (∀ out : ZI, ∀ i : Int, (J0n U E set out i) → (((decide (i < (E.length : Int))) = true → (PC Try.prog 240 [.agg [.sl (.ints U), .sl (.rows E)], .int .i64 i, .sl (.ints set)] (.one (.d (.int .i64 (J05 (E.getD i.toNat []) set set.length))))) ∧ (out.length = out.length) ∧ ((1 : Nat) = 1) ∧ ((out.length + 1) * 8 ≤ 140737488355328) ∧ (I6 (i + 1)) ∧ (∃ out' : ZI, ∃ i' : Int, (J0n U E set out' i') ∧ (JX U E set out' i' < JX U E set out i) ∧ (set = set) ∧ ((out.length + 1) = out'.length) ∧ ((E.length : Int) = (E.length : Int)) ∧ ((i + 1) = i') ∧ ((out ++ [(J05 (E.getD i.toNat []) set set.length)]) = out') ∧ (U = U) ∧ (E = E))) ∧ ((decide (i < (E.length : Int))) = false → ((out.length = out.length) ∧ ((out : ZI) = Jq E set E.length))))))
theorem J4a (U : ZI) (E : ZR) (set : ZI) (ht : (J0 U E && Ja set 0 ((U.length : Int) - 1) && decide (0 < set.length)) = true) (w_Open : (U.length : Int) ≤ 9223372036854775807) (w_Dist : (E.length : Int) ≤ 9223372036854775807) (v_Dist : ∀ x9 ∈ E, (x9.length : Int) ≤ 9223372036854775807) (w_set : (set.length : Int) ≤ 9223372036854775807) : J2E U E set := by
  unfold J2E
  obtain ⟨hg, hs, hp⟩ := J1E ht
  obtain ⟨g1, g2, g3⟩ := JG hg
  have cs := fun k => J2f hs k
  have si := fun (i : Nat) (hi : i < E.length) => J2g (row := E.getD i []) (set := set) (n := (U.length : Int)) (fun k hk => by have := cs k hk; omega) hp set.length (Nat.le_refl _)
  refine ⟨?_, ?_⟩
  ·refine ⟨([]), 0, ?_⟩
   refine ⟨?_, rfl, rfl, rfl, rfl, ?_, rfl, rfl⟩
   ·refine ⟨?_, ?_, ?_⟩
    ·first | omega | rfl | (intro hg; simp only [nrmT] at hg; omega) | (intro g1 g2; simp [g1, g2]; done) | (intro g1; simp at g1 ⊢; simp [g1]; done) | (simp only [nrmT] at *; omega) | (simp at * <;> omega) | (simp_all <;> omega) | (simp_all; done)
    ·first | omega | rfl | (intro hg; simp only [nrmT] at hg; omega) | (intro g1 g2; simp [g1, g2]; done) | (intro g1; simp at g1 ⊢; simp [g1]; done) | (simp only [nrmT] at *; omega) | (simp at * <;> omega) | (simp_all <;> omega) | (simp_all; done)
    ·first | omega | rfl | (intro hg; simp only [nrmT] at hg; omega) | (intro g1 g2; simp [g1, g2]; done) | (intro g1; simp at g1 ⊢; simp [g1]; done) | (simp only [nrmT] at *; omega) | (simp at * <;> omega) | (simp_all <;> omega) | (simp_all; done)
   first | omega | rfl | (intro hg; simp only [nrmT] at hg; omega) | (intro g1 g2; simp [g1, g2]; done) | (intro g1; simp at g1 ⊢; simp [g1]; done) | (simp only [nrmT] at *; omega) | (simp at * <;> omega) | (simp_all <;> omega) | (simp_all; done)
  intro out i hJ
  obtain ⟨h1, h2, h3⟩ := hJ
  refine ⟨?_, ?_⟩
  ·intro b1
   try simp only [nrmT] at b1
   refine ⟨?_, rfl, rfl, ?_, ?_, ?_⟩
   ·refine J4d U E i set ?_ ?_
    ·first | omega | rfl | (intro hg; simp only [nrmT] at hg; omega) | (intro g1 g2; simp [g1, g2]; done) | (intro g1; simp at g1 ⊢; simp [g1]; done) | (simp only [nrmT] at *; omega) | (simp at * <;> omega) | (simp_all <;> omega) | (simp_all; done)
    ·first | omega | rfl | (intro hg; simp only [nrmT] at hg; omega) | (intro g1 g2; simp [g1, g2]; done) | (intro g1; simp at g1 ⊢; simp [g1]; done) | (simp only [nrmT] at *; omega) | (simp at * <;> omega) | (simp_all <;> omega) | (simp_all; done)
   ·rw [h3, J5T]; omega
   ·first | omega | rfl | (intro hg; simp only [nrmT] at hg; omega) | (intro g1 g2; simp [g1, g2]; done) | (intro g1; simp at g1 ⊢; simp [g1]; done) | (simp only [nrmT] at *; omega) | (simp at * <;> omega) | (simp_all <;> omega) | (simp_all; done)
   refine ⟨(out ++ [(J05 (E.getD i.toNat []) set set.length)]), (i + 1), ?_⟩
   refine ⟨?_, ?_, rfl, ?_, rfl, rfl, rfl, rfl, rfl⟩
   ·refine ⟨?_, ?_, ?_⟩
    ·first | omega | rfl | (intro hg; simp only [nrmT] at hg; omega) | (intro g1 g2; simp [g1, g2]; done) | (intro g1; simp at g1 ⊢; simp [g1]; done) | (simp only [nrmT] at *; omega) | (simp at * <;> omega) | (simp_all <;> omega) | (simp_all; done)
    ·first | omega | rfl | (intro hg; simp only [nrmT] at hg; omega) | (intro g1 g2; simp [g1, g2]; done) | (intro g1; simp at g1 ⊢; simp [g1]; done) | (simp only [nrmT] at *; omega) | (simp at * <;> omega) | (simp_all <;> omega) | (simp_all; done)
    ·rw [h3, show (i + 1).toNat = i.toNat + 1 by omega, J7F]
   ·first | (show _ < _; omega) | (simp only [JX]; omega) | (simp only [JX] at *; simp at *; omega)
   first | omega | rfl | (intro hg; simp only [nrmT] at hg; omega) | (intro g1 g2; simp [g1, g2]; done) | (intro g1; simp at g1 ⊢; simp [g1]; done) | (simp only [nrmT] at *; omega) | (simp at * <;> omega) | (simp_all <;> omega) | (simp_all; done)
  intro b2
  try simp only [nrmT] at b2
  refine ⟨rfl, ?_⟩
  ·rw [h3, show i.toNat = E.length by omega]
theorem J4e (U : ZI) (E : ZR) (set : ZI) (ht : (J0 U E && Ja set 0 ((U.length : Int) - 1) && decide (0 < set.length)) = true) : PC Try.prog 215 [.agg [.sl (.ints U), .sl (.rows E)], .sl (.ints set)] (.one (.own 3 (.ints (Jq E set E.length)))) :=
  pc_wf @Try.call215 fun hw => pc_by (by kernel_rfl) Try.func215 @Try.call215 (by kernel_rfl) J4H (J4t U E set) (by kernel_rfl) (J4a U E set ht hw.1.1 hw.1.2.1.1 hw.1.2.1.2 hw.2.1) (by kernel_rfl)
def J3r : List D → Orc := orcN [none, some .ints] fun ds => match ds with
  | [.agg [.sl (.ints U), .sl (.rows E)], .sl (.ints set)] => some (.one (.own 3 (.ints (Jq E set E.length))))
  | _ => none
abbrev J0h (U : ZI) (E : ZR) (set : ZI) (out : ZI) (i : Int) : Prop := (0 ≤ i) ∧ (i ≤ (E.length : Int)) ∧ (out = JS E set i.toNat)
abbrev JT (U : ZI) (E : ZR) (set : ZI) (out : ZI) (i : Int) : Nat := (E.length - i).toNat
def J47 (f : FuncId) (ds : List D) : Orc := bif Nat.beq f 215 then J3r ds else .no
def J46 (U : ZI) (E : ZR) (set : ZI) : Ann := .two (.none) (.two (.none) (.two (.two (.none) (.loop (cut2 (fun (out : ZI) (i : Int) => J0h U E set out i) (fun (out : ZI) (i : Int) => [(2, .ptr 2 0), (5, .own 1000000 out.length), (11, .own 11 ((Jq E set E.length).length)), (12, .d true (.int .i64 (((Jq E set E.length).length) : Int))), (13, .d true (.int .i64 i))]) (fun (out : ZI) (i : Int) => [(1000000, .arr true 3 (.ints out)), (2, .box 39 [.d false (.sl (.ints U)), .d false (.sl (.rows E))]), (11, .arr true 3 (.ints (Jq E set E.length)))])) (fun g => JT U E set g.1 g.2) (fun _ => .none))) (.none)))
def J2m (U : ZI) (E : ZR) (set : ZI) : Prop :=
  (PC Try.prog 215 [.agg [.sl (.ints U), .sl (.rows E)], .sl (.ints set)] (.one (.own 3 (.ints (Jq E set E.length))))) ∧ ((∃ out' : ZI, ∃ i' : Int, (J0h U E set out' i') ∧ ((0 : Nat) = out'.length) ∧ ((Jq E set E.length).length = (Jq E set E.length).length) ∧ ((((Jq E set E.length).length) : Int) = (((Jq E set E.length).length) : Int)) ∧ ((0 : Int) = i') ∧ ([] = out') ∧ (U = U) ∧ (E = E) ∧ (Jq E set E.length = Jq E set E.length)) ∧ (∀ out : ZI, ∀ i : Int, (J0h U E set out i) → (((decide (i < (((Jq E set E.length).length) : Int))) = true → ((0 : Int) ≤ i) ∧ ((i : Int) < (((Jq E set E.length).length) : Int)) ∧ (i.toNat < (Jq E set E.length).length) ∧ ((0 : Int) ≤ i) ∧ ((i : Int) < E.length) ∧ (i.toNat < E.length) ∧ ((0 : Int) ≤ ((Jq E set E.length).getD i.toNat 0)) ∧ ((((Jq E set E.length).getD i.toNat 0) : Int) < (E.getD i.toNat []).length) ∧ (((Jq E set E.length).getD i.toNat 0).toNat < (E.getD i.toNat []).length) ∧ (out.length = out.length) ∧ ((1 : Nat) = 1) ∧ ((out.length + 1) * 8 ≤ 140737488355328) ∧ (I6 (i + 1)) ∧ (∃ out' : ZI, ∃ i' : Int, (J0h U E set out' i') ∧ (JT U E set out' i' < JT U E set out i) ∧ ((out.length + 1) = out'.length) ∧ ((Jq E set E.length).length = (Jq E set E.length).length) ∧ ((((Jq E set E.length).length) : Int) = (((Jq E set E.length).length) : Int)) ∧ ((i + 1) = i') ∧ ((out ++ [((E.getD i.toNat []).getD (((Jq E set E.length).getD i.toNat 0).toNat) 0)]) = out') ∧ (U = U) ∧ (E = E) ∧ (Jq E set E.length = Jq E set E.length))) ∧ ((decide (i < (((Jq E set E.length).length) : Int))) = false → ((out.length = out.length) ∧ ((out : ZI) = JS E set E.length))))))
theorem J3y (U : ZI) (E : ZR) (set : ZI) (ht : (J0 U E && Ja set 0 ((U.length : Int) - 1) && decide (0 < set.length)) = true) (w_Open : (U.length : Int) ≤ 9223372036854775807) (w_Dist : (E.length : Int) ≤ 9223372036854775807) (v_Dist : ∀ x9 ∈ E, (x9.length : Int) ≤ 9223372036854775807) (w_set : (set.length : Int) ≤ 9223372036854775807) : J2m U E set := by
  unfold J2m
  obtain ⟨hg, hs, hp⟩ := J1E ht
  obtain ⟨g1, g2, g3⟩ := JG hg
  have cs := fun k => J2f hs k
  have si := fun (i : Nat) (hi : i < E.length) => J2g (row := E.getD i []) (set := set) (n := (U.length : Int)) (fun k hk => by have := cs k hk; omega) hp set.length (Nat.le_refl _)
  have e0 := J5T E set E.length
  refine ⟨?_, ?_, ?_⟩
  ·refine J4e U E set ?_
   ·first | omega | rfl | (intro hg; simp only [nrmT] at hg; omega) | (intro g1 g2; simp [g1, g2]; done) | (intro g1; simp at g1 ⊢; simp [g1]; done) | (simp only [nrmT] at *; omega) | (simp at * <;> omega) | (simp_all <;> omega) | (simp_all; done)
  ·refine ⟨([]), 0, ?_⟩
   refine ⟨?_, rfl, rfl, rfl, rfl, ?_, rfl, rfl, rfl⟩
   ·refine ⟨?_, ?_, ?_⟩
    ·first | omega | rfl | (intro hg; simp only [nrmT] at hg; omega) | (intro g1 g2; simp [g1, g2]; done) | (intro g1; simp at g1 ⊢; simp [g1]; done) | (simp only [nrmT] at *; omega) | (simp at * <;> omega) | (simp_all <;> omega) | (simp_all; done)
    ·first | omega | rfl | (intro hg; simp only [nrmT] at hg; omega) | (intro g1 g2; simp [g1, g2]; done) | (intro g1; simp at g1 ⊢; simp [g1]; done) | (simp only [nrmT] at *; omega) | (simp at * <;> omega) | (simp_all <;> omega) | (simp_all; done)
    ·first | omega | rfl | (intro hg; simp only [nrmT] at hg; omega) | (intro g1 g2; simp [g1, g2]; done) | (intro g1; simp at g1 ⊢; simp [g1]; done) | (simp only [nrmT] at *; omega) | (simp at * <;> omega) | (simp_all <;> omega) | (simp_all; done)
   first | omega | rfl | (intro hg; simp only [nrmT] at hg; omega) | (intro g1 g2; simp [g1, g2]; done) | (intro g1; simp at g1 ⊢; simp [g1]; done) | (simp only [nrmT] at *; omega) | (simp at * <;> omega) | (simp_all <;> omega) | (simp_all; done)
  intro out i hJ
  obtain ⟨h1, h2, h3⟩ := hJ
  refine ⟨?_, ?_⟩
  ·intro b1
   try simp only [nrmT] at b1
   refine ⟨?_, ?_, ?_, ?_, ?_, ?_, ?_, ?_, ?_, rfl, rfl, ?_, ?_, ?_⟩
   ·first | omega | rfl | (intro hg; simp only [nrmT] at hg; omega) | (intro g1 g2; simp [g1, g2]; done) | (intro g1; simp at g1 ⊢; simp [g1]; done) | (simp only [nrmT] at *; omega) | (simp at * <;> omega) | (simp_all <;> omega) | (simp_all; done)
   ·first | omega | rfl | (intro hg; simp only [nrmT] at hg; omega) | (intro g1 g2; simp [g1, g2]; done) | (intro g1; simp at g1 ⊢; simp [g1]; done) | (simp only [nrmT] at *; omega) | (simp at * <;> omega) | (simp_all <;> omega) | (simp_all; done)
   ·first | omega | rfl | (intro hg; simp only [nrmT] at hg; omega) | (intro g1 g2; simp [g1, g2]; done) | (intro g1; simp at g1 ⊢; simp [g1]; done) | (simp only [nrmT] at *; omega) | (simp at * <;> omega) | (simp_all <;> omega) | (simp_all; done)
   ·first | omega | rfl | (intro hg; simp only [nrmT] at hg; omega) | (intro g1 g2; simp [g1, g2]; done) | (intro g1; simp at g1 ⊢; simp [g1]; done) | (simp only [nrmT] at *; omega) | (simp at * <;> omega) | (simp_all <;> omega) | (simp_all; done)
   ·first | omega | rfl | (intro hg; simp only [nrmT] at hg; omega) | (intro g1 g2; simp [g1, g2]; done) | (intro g1; simp at g1 ⊢; simp [g1]; done) | (simp only [nrmT] at *; omega) | (simp at * <;> omega) | (simp_all <;> omega) | (simp_all; done)
   ·first | omega | rfl | (intro hg; simp only [nrmT] at hg; omega) | (intro g1 g2; simp [g1, g2]; done) | (intro g1; simp at g1 ⊢; simp [g1]; done) | (simp only [nrmT] at *; omega) | (simp at * <;> omega) | (simp_all <;> omega) | (simp_all; done)
   ·rw [J2w _ _ _ _ (by omega)]; obtain ⟨rl, rb⟩ := Jz (i := i.toNat) hg (by omega); have := si i.toNat (by omega); omega
   ·rw [J2w _ _ _ _ (by omega)]; obtain ⟨rl, rb⟩ := Jz (i := i.toNat) hg (by omega); have := si i.toNat (by omega); omega
   ·rw [J2w _ _ _ _ (by omega)]; obtain ⟨rl, rb⟩ := Jz (i := i.toNat) hg (by omega); have := si i.toNat (by omega); omega
   ·rw [h3, J3w]; omega
   ·first | omega | rfl | (intro hg; simp only [nrmT] at hg; omega) | (intro g1 g2; simp [g1, g2]; done) | (intro g1; simp at g1 ⊢; simp [g1]; done) | (simp only [nrmT] at *; omega) | (simp at * <;> omega) | (simp_all <;> omega) | (simp_all; done)
   refine ⟨(out ++ [((E.getD i.toNat []).getD (((Jq E set E.length).getD i.toNat 0).toNat) 0)]), (i + 1), ?_⟩
   refine ⟨?_, ?_, ?_, rfl, rfl, rfl, rfl, rfl, rfl, rfl⟩
   ·refine ⟨?_, ?_, ?_⟩
    ·first | omega | rfl | (intro hg; simp only [nrmT] at hg; omega) | (intro g1 g2; simp [g1, g2]; done) | (intro g1; simp at g1 ⊢; simp [g1]; done) | (simp only [nrmT] at *; omega) | (simp at * <;> omega) | (simp_all <;> omega) | (simp_all; done)
    ·first | omega | rfl | (intro hg; simp only [nrmT] at hg; omega) | (intro g1 g2; simp [g1, g2]; done) | (intro g1; simp at g1 ⊢; simp [g1]; done) | (simp only [nrmT] at *; omega) | (simp at * <;> omega) | (simp_all <;> omega) | (simp_all; done)
    ·rw [h3, show (i + 1).toNat = i.toNat + 1 by omega, J7J, J2w _ _ _ _ (by omega)]; rfl
   ·first | (show _ < _; omega) | (simp only [JT]; omega) | (simp only [JT] at *; simp at *; omega)
   first | omega | rfl | (intro hg; simp only [nrmT] at hg; omega) | (intro g1 g2; simp [g1, g2]; done) | (intro g1; simp at g1 ⊢; simp [g1]; done) | (simp only [nrmT] at *; omega) | (simp at * <;> omega) | (simp_all <;> omega) | (simp_all; done)
  intro b2
  try simp only [nrmT] at b2
  refine ⟨rfl, ?_⟩
  ·rw [h3, show i.toNat = E.length by omega]
theorem J3u (U : ZI) (E : ZR) (set : ZI) (ht : (J0 U E && Ja set 0 ((U.length : Int) - 1) && decide (0 < set.length)) = true) : PC Try.prog 210 [.agg [.sl (.ints U), .sl (.rows E)], .sl (.ints set)] (.one (.own 3 (.ints (JS E set E.length)))) :=
  pc_wf @Try.call210 fun hw => pc_by (by kernel_rfl) Try.func210 @Try.call210 (by kernel_rfl) J47 (J46 U E set) (by kernel_rfl) (J3y U E set ht hw.1.1 hw.1.2.1.1 hw.1.2.1.2 hw.2.1) (by kernel_rfl)
def J3o : List D → Orc := orcN [none, some .ints] fun ds => match ds with
  | [.agg [.sl (.ints U), .sl (.rows E)], .sl (.ints set)] => some (.one (.own 3 (.ints (JS E set E.length))))
  | _ => none
theorem J5b {row set : ZI} (hp : 0 < set.length) : ∀ k, k ≤ set.length → J05 row set k ∈ set
  | 0, _ => getD_mem hp
  | k + 1, hk => by
    rw [J2b]
    unfold J3S
    split
    · exact getD_mem (by omega)
    exact J5b hp k (by omega)
theorem J64 {xs : ZI} {lo hi : Int} (h : Ja xs lo hi = true) {i : Nat} : ∀ {j : Nat}, i < j → j < xs.length → xs.getD i 0 < xs.getD j 0
  | 0, hi, _ => by omega
  | j + 1, hi, hj => by
    have h1 := allTo_iff.1 h (j + 1) hj
    simp only [J1F, Bool.and_eq_true, Bool.or_eq_true, decide_eq_true_eq, Nat.add_sub_cancel] at h1
    have h2 := h1.2
    by_cases e : i = j
    · subst e; omega
    have := J64 h (i := i) (j := j) (by omega) (by omega)
    omega
def J7D (f : FuncId) (ds : List D) : Orc := .no
def J7v (a : Int) (b : Int) : Ann := .none
def J5e (a : Int) (b : Int) : Prop :=
  (((decide (a > b)) = true → ((a = (max a b)))) ∧ ((decide (a > b)) = false → ((b = (max a b)))))
theorem J77 (a : Int) (b : Int)   : J5e a b := by
  unfold J5e
  refine ⟨?_, ?_⟩
  ·intro b1
   try simp only [nrmT] at b1
   first | omega | rfl | (intro hg; simp only [nrmT] at hg; omega) | (intro g1 g2; simp [g1, g2]; done) | (intro g1; simp at g1 ⊢; simp [g1]; done) | (simp only [nrmT] at *; omega) | (simp at * <;> omega) | (simp_all <;> omega) | (simp_all; done)
  intro b2
  try simp only [nrmT] at b2
  first | omega | rfl | (intro hg; simp only [nrmT] at hg; omega) | (intro g1 g2; simp [g1, g2]; done) | (intro g1; simp at g1 ⊢; simp [g1]; done) | (simp only [nrmT] at *; omega) | (simp at * <;> omega) | (simp_all <;> omega) | (simp_all; done)
theorem J72 (a : Int) (b : Int)  : PC Try.prog 152 [.int .i64 a, .int .i64 b] (.one (.d (.int .i64 (max a b)))) :=
  pc_wf @Try.call152 fun _ => pc_by (by kernel_rfl) Try.func152 @Try.call152 (by kernel_rfl) J7D (J7v a b) (by kernel_rfl) (J77 a b) (by kernel_rfl)
def J6S : List D → Orc := orcN [none, none] fun ds => match ds with
  | [.int .i64 a, .int .i64 b] => some (.one (.d (.int .i64 (max a b))))
  | _ => none
theorem JI (f : Nat → Int) (n : Nat) : Jb f (n + 1) = Jb f n + f n := rfl
def J2O (f : FuncId) (ds : List D) : Orc := .no
def J2N (xs : ZI) : Ann := .two (.none) (.two (.two (.none) (.goF (.none))) (.none))
def J1k (xs : ZI) : Prop :=
  (0 < xs.length) ∧ (false = false) ∧ ((0 : Nat) = 0) ∧ (True) ∧ ((0 + xs.length) * 8 ≤ 140737488355328) ∧ (((0 + xs.length) = ([] ++ xs).length) ∧ ((([] ++ xs) : ZI) = xs))
theorem J2C (xs : ZI) (hl : 0 < xs.length ∧ xs.length ≤ 1048576) (w_xs : (xs.length : Int) ≤ 9223372036854775807) : J1k xs := by
  unfold J1k
  refine ⟨?_, rfl, rfl, trivial, ?_, ?_, ?_⟩
  ·exact hl.1
  ·first | omega | rfl | (intro hg; simp only [nrmT] at hg; omega) | (intro g1 g2; simp [g1, g2]; done) | (intro g1; simp at g1 ⊢; simp [g1]; done) | (simp only [nrmT] at *; omega) | (simp at * <;> omega) | (simp_all <;> omega) | (simp_all; done)
  ·first | omega | rfl | (intro hg; simp only [nrmT] at hg; omega) | (intro g1 g2; simp [g1, g2]; done) | (intro g1; simp at g1 ⊢; simp [g1]; done) | (simp only [nrmT] at *; omega) | (simp at * <;> omega) | (simp_all <;> omega) | (simp_all; done)
  first | omega | rfl | (intro hg; simp only [nrmT] at hg; omega) | (intro g1 g2; simp [g1, g2]; done) | (intro g1; simp at g1 ⊢; simp [g1]; done) | (simp only [nrmT] at *; omega) | (simp at * <;> omega) | (simp_all <;> omega) | (simp_all; done)
theorem J2B (xs : ZI) (hl : 0 < xs.length ∧ xs.length ≤ 1048576) : PC Try.prog 149 [.sl (.ints xs)] (.one (.own 3 (.ints xs))) :=
  pc_wf @Try.call149 fun hw => pc_by (by kernel_rfl) Try.func149 @Try.call149 (by kernel_rfl) J2O (J2N xs) (by kernel_rfl) (J2C xs hl hw.1) (by kernel_rfl)
def J2u : List D → Orc := orcN [some .ints] fun ds => match ds with
  | [.sl (.ints xs)] => some (.one (.own 3 (.ints xs)))
  | _ => none
theorem J7N {xs : ZI} {lo hi : Int} (h : Ja xs lo hi = true) : Asc xs := by
  refine List.pairwise_iff_getElem.2 fun i j hi hj hij => ?_
  have := J64 h hij hj
  rwa [J08 hi, J08 hj] at this
def J39 (n : Nat) : ZI := members (fun _ => true) n
theorem J7T {n : Nat} : members (fun k => (2 ^ n - 1).testBit k) n = J39 n :=
  members_congr fun k hk => by simp [Nat.testBit_two_pow_sub_one, hk]
def J4E (f : FuncId) (ds : List D) : Orc := bif Nat.beq f 119 then J1w ds else bif Nat.beq f 120 then J0X ds else .no
def J4C (U : ZI) (E : ZR) (k : Int) : Ann := .none
def J2H (U : ZI) (E : ZR) (k : Int) : Prop :=
  (PC Try.prog 119 [.agg [.sl (.ints U), .sl (.rows E)]] (.one (.d (.bool (J0 U E))))) ∧ ((J0 U E) = true → (J0 U E) = true) ∧ ((J0 U E) = true → (J0 U E) = true) ∧ ((J0 U E) = true → (J0 U E) = true) ∧ ((J0 U E) = true → (J0 U E) = true) ∧ ((J0 U E) = true → PC Try.prog 120 [.int .i64 k, .int .i64 1, .int .i64 (U.length : Int)] (.one (.d (.bool (inB k 1 (U.length : Int)))))) ∧ (true = true) ∧ (((J0 U E) = true → (J0 U E) = true)) ∧ (((J0 U E) = false → true = true)) ∧ (((cond (J0 U E) (inB k 1 (U.length : Int)) false) = (J0 U E && inB k 1 (U.length : Int))))
theorem J4c (U : ZI) (E : ZR) (k : Int)  (w_Open : (U.length : Int) ≤ 9223372036854775807) (w_Dist : (E.length : Int) ≤ 9223372036854775807) (v_Dist : ∀ x9 ∈ E, (x9.length : Int) ≤ 9223372036854775807) : J2H U E k := by
  unfold J2H
  refine ⟨J1U U E, id, id, id, id, fun _ => J0E k 1 (U.length : Int), rfl, id, fun _ => rfl, ?_⟩
  ·cases J0 U E <;> rfl
theorem J3Z (U : ZI) (E : ZR) (k : Int)  : PC Try.prog 141 [.agg [.sl (.ints U), .sl (.rows E)], .int .i64 k] (.one (.d (.bool (J0 U E && inB k 1 (U.length : Int))))) :=
  pc_wf @Try.call141 fun hw => pc_by (by kernel_rfl) Try.func141 @Try.call141 (by kernel_rfl) J4E (J4C U E k) (by kernel_rfl) (J4c U E k hw.1.1 hw.1.2.1.1 hw.1.2.1.2) (by kernel_rfl)
def J3F : List D → Orc := orcN [none, none] fun ds => match ds with
  | [.agg [.sl (.ints U), .sl (.rows E)], .int .i64 k] => some (.one (.d (.bool (J0 U E && inB k 1 (U.length : Int)))))
  | _ => none
def J0j (a b : Int) : Int := if a < b then -1 else if a > b then 1 else 0
def Jm : ZI → ZI → Int
  | [], [] => 0
  | [], _ :: _ => -1
  | _ :: _, [] => 1
  | x :: r, y :: s => if x < y then -1 else if x > y then 1 else Jm r s
theorem J5Y {xs ys : ZI} {i : Nat} (h : Jm xs ys = Jm (xs.drop i) (ys.drop i)) (h1 : i < xs.length) (h2 : i < ys.length) :
    Jm xs ys = if xs.getD i 0 < ys.getD i 0 then -1 else if xs.getD i 0 > ys.getD i 0 then 1 else Jm (xs.drop (i + 1)) (ys.drop (i + 1)) := by
  rw [h, List.drop_eq_getElem_cons h1, List.drop_eq_getElem_cons h2, J08 h1, J08 h2]
  rfl
theorem J7L {xs ys : ZI} {i : Nat} (h : Jm xs ys = Jm (xs.drop i) (ys.drop i)) (h1 : i < xs.length) (h2 : ys.length ≤ i) : Jm xs ys = 1 := by
  rw [h, List.drop_eq_getElem_cons h1, List.drop_eq_nil_of_le h2]
  rfl
theorem J6T {xs ys : ZI} {i : Nat} (h : Jm xs ys = Jm (xs.drop i) (ys.drop i)) (h1 : xs.length ≤ i) (h2 : i ≤ ys.length) (h3 : i = xs.length) : Jm xs ys = if xs.length < ys.length then -1 else 0 := by
  rw [h, List.drop_eq_nil_of_le h1]
  by_cases e : xs.length < ys.length
  · rw [if_pos e, List.drop_eq_getElem_cons (by omega)]
    rfl
  rw [if_neg e, List.drop_eq_nil_of_le (by omega)]
  rfl
def J4J (f : FuncId) (ds : List D) : Orc := .no
def J4w (x : Int) : Ann := .none
def J2A (x : Int) : Prop :=
  (((x != x) = false))
theorem J42 (x : Int)   : J2A x := by
  unfold J2A
  simp
theorem J2o (x : Int)  : PC Try.prog 231 [.int .i64 x] (.one (.d (.bool false))) :=
  pc_wf @Try.call231 fun _ => pc_by (by kernel_rfl) Try.func231 @Try.call231 (by kernel_rfl) J4J (J4w x) (by kernel_rfl) (J42 x) (by kernel_rfl)
def J3P : List D → Orc := orcN [none] fun ds => match ds with
  | [.int .i64 x] => some (.one (.d (.bool false)))
  | _ => none
def J3E (f : FuncId) (ds : List D) : Orc := bif Nat.beq f 231 then J3P ds else .no
def J3G (a : Int) (b : Int) : Ann := .two (.none) (.two (.none) (.two (.none) (.two (.two (.none) (.goF (.none))) (.two (.two (.none) (.goF (.none))) (.none)))))
def J2h (a : Int) (b : Int) : Prop :=
  (PC Try.prog 231 [.int .i64 a] (.one (.d (.bool false)))) ∧ (PC Try.prog 231 [.int .i64 b] (.one (.d (.bool false)))) ∧ (false = false) ∧ (false = false) ∧ (((decide (a < b)) = true → ((((-1) : Int) = (J0j a b)))) ∧ ((decide (a < b)) = false → (((decide (a > b)) = true → (((1 : Int) = (J0j a b)))) ∧ ((decide (a > b)) = false → (((0 : Int) = (J0j a b)))))))
theorem J3p (a : Int) (b : Int)   : J2h a b := by
  unfold J2h
  refine ⟨J2o a, J2o b, rfl, rfl, ?_, ?_⟩
  ·intro b1
   try simp only [nrmT] at b1
   unfold J0j; first | rw [if_pos (by omega)] | rw [if_neg (by omega), if_pos (by omega)] | rw [if_neg (by omega), if_neg (by omega)]
  intro b2
  try simp only [nrmT] at b2
  refine ⟨?_, ?_⟩
  ·intro b3
   try simp only [nrmT] at b3
   unfold J0j; first | rw [if_pos (by omega)] | rw [if_neg (by omega), if_pos (by omega)] | rw [if_neg (by omega), if_neg (by omega)]
  intro b4
  try simp only [nrmT] at b4
  unfold J0j; first | rw [if_pos (by omega)] | rw [if_neg (by omega), if_pos (by omega)] | rw [if_neg (by omega), if_neg (by omega)]
theorem J21 (a : Int) (b : Int)  : PC Try.prog 235 [.int .i64 a, .int .i64 b] (.one (.d (.int .i64 (J0j a b)))) :=
  pc_wf @Try.call235 fun _ => pc_by (by kernel_rfl) Try.func235 @Try.call235 (by kernel_rfl) J3E (J3G a b) (by kernel_rfl) (J3p a b) (by kernel_rfl)
def J1P : List D → Orc := orcN [none, none] fun ds => match ds with
  | [.int .i64 a, .int .i64 b] => some (.one (.d (.int .i64 (J0j a b))))
  | _ => none
abbrev JK (xs : ZI) (ys : ZI) (i : Int) : Prop := (0 ≤ i) ∧ (i ≤ (xs.length : Int)) ∧ (i ≤ (ys.length : Int)) ∧ (Jm xs ys = Jm (xs.drop i.toNat) (ys.drop i.toNat))
abbrev Jw (xs : ZI) (ys : ZI) (i : Int) : Nat := (xs.length - i).toNat
def J2y (f : FuncId) (ds : List D) : Orc := bif Nat.beq f 235 then J1P ds else .no
def J2r (xs : ZI) (ys : ZI) : Ann := .two (.none) (.two (.two (.none) (.loop (cut1 (fun (i : Int) => JK xs ys i) (fun (i : Int) => [(0, .d false (.sl (.ints xs))), (1, .d false (.sl (.ints ys))), (9, .d false (.sl (.ints xs))), (10, .d true (.int .i64 (xs.length : Int))), (11, .d true (.int .i64 i))]) (fun (i : Int) => [])) (fun g => Jw xs ys g) (fun _ => .none))) (.none))
def J15 (xs : ZI) (ys : ZI) : Prop :=
  ((∃ i' : Int, (JK xs ys i') ∧ (xs = xs) ∧ (ys = ys) ∧ (xs = xs) ∧ ((xs.length : Int) = (xs.length : Int)) ∧ ((0 : Int) = i')) ∧ (∀ i : Int, (JK xs ys i) → (((decide (i < (xs.length : Int))) = true → ((0 : Int) ≤ i) ∧ ((i : Int) < xs.length) ∧ (i.toNat < xs.length) ∧ (((decide (i ≥ (ys.length : Int))) = true → (((1 : Int) = (Jm xs ys)))) ∧ ((decide (i ≥ (ys.length : Int))) = false → ((0 : Int) ≤ i) ∧ ((i : Int) < ys.length) ∧ (i.toNat < ys.length) ∧ (PC Try.prog 235 [.int .i64 (xs.getD i.toNat 0), .int .i64 (ys.getD i.toNat 0)] (.one (.d (.int .i64 (J0j (xs.getD i.toNat 0) (ys.getD i.toNat 0)))))) ∧ ((((J0j (xs.getD i.toNat 0) (ys.getD i.toNat 0)) != 0) = true → (((J0j (xs.getD i.toNat 0) (ys.getD i.toNat 0)) = (Jm xs ys)))) ∧ (((J0j (xs.getD i.toNat 0) (ys.getD i.toNat 0)) != 0) = false → (I6 (i + 1)) ∧ (∃ i' : Int, (JK xs ys i') ∧ (Jw xs ys i' < Jw xs ys i) ∧ (xs = xs) ∧ (ys = ys) ∧ (xs = xs) ∧ ((xs.length : Int) = (xs.length : Int)) ∧ ((i + 1) = i'))))))) ∧ ((decide (i < (xs.length : Int))) = false → (((decide ((xs.length : Int) < (ys.length : Int))) = true → ((((-1) : Int) = (Jm xs ys)))) ∧ ((decide ((xs.length : Int) < (ys.length : Int))) = false → (((0 : Int) = (Jm xs ys)))))))))
theorem J2i (xs : ZI) (ys : ZI)  (w_xs : (xs.length : Int) ≤ 9223372036854775807) (w_ys : (ys.length : Int) ≤ 9223372036854775807) : J15 xs ys := by
  unfold J15
  refine ⟨?_, ?_⟩
  ·refine ⟨0, ?_⟩
   refine ⟨?_, rfl, rfl, rfl, rfl, rfl⟩
   ·refine ⟨?_, ?_, ?_, ?_⟩
    ·first | omega | rfl | (intro hg; simp only [nrmT] at hg; omega) | (intro g1 g2; simp [g1, g2]; done) | (intro g1; simp at g1 ⊢; simp [g1]; done) | (simp only [nrmT] at *; omega) | (simp at * <;> omega) | (simp_all <;> omega) | (simp_all; done)
    ·first | omega | rfl | (intro hg; simp only [nrmT] at hg; omega) | (intro g1 g2; simp [g1, g2]; done) | (intro g1; simp at g1 ⊢; simp [g1]; done) | (simp only [nrmT] at *; omega) | (simp at * <;> omega) | (simp_all <;> omega) | (simp_all; done)
    ·first | omega | rfl | (intro hg; simp only [nrmT] at hg; omega) | (intro g1 g2; simp [g1, g2]; done) | (intro g1; simp at g1 ⊢; simp [g1]; done) | (simp only [nrmT] at *; omega) | (simp at * <;> omega) | (simp_all <;> omega) | (simp_all; done)
    ·rfl
  intro i hJ
  obtain ⟨h1, h2, h2y, h3⟩ := hJ
  refine ⟨?_, ?_⟩
  ·intro b1
   try simp only [nrmT] at b1
   refine ⟨?_, ?_, ?_, ?_, ?_⟩
   ·first | omega | rfl | (intro hg; simp only [nrmT] at hg; omega) | (intro g1 g2; simp [g1, g2]; done) | (intro g1; simp at g1 ⊢; simp [g1]; done) | (simp only [nrmT] at *; omega) | (simp at * <;> omega) | (simp_all <;> omega) | (simp_all; done)
   ·first | omega | rfl | (intro hg; simp only [nrmT] at hg; omega) | (intro g1 g2; simp [g1, g2]; done) | (intro g1; simp at g1 ⊢; simp [g1]; done) | (simp only [nrmT] at *; omega) | (simp at * <;> omega) | (simp_all <;> omega) | (simp_all; done)
   ·first | omega | rfl | (intro hg; simp only [nrmT] at hg; omega) | (intro g1 g2; simp [g1, g2]; done) | (intro g1; simp at g1 ⊢; simp [g1]; done) | (simp only [nrmT] at *; omega) | (simp at * <;> omega) | (simp_all <;> omega) | (simp_all; done)
   ·intro b2
    try simp only [nrmT] at b2
    exact (J7L h3 (by omega) (by omega)).symm
   intro b3
   try simp only [nrmT] at b3
   refine ⟨?_, ?_, ?_, J21 (xs.getD i.toNat 0) (ys.getD i.toNat 0), ?_, ?_⟩
   ·first | omega | rfl | (intro hg; simp only [nrmT] at hg; omega) | (intro g1 g2; simp [g1, g2]; done) | (intro g1; simp at g1 ⊢; simp [g1]; done) | (simp only [nrmT] at *; omega) | (simp at * <;> omega) | (simp_all <;> omega) | (simp_all; done)
   ·first | omega | rfl | (intro hg; simp only [nrmT] at hg; omega) | (intro g1 g2; simp [g1, g2]; done) | (intro g1; simp at g1 ⊢; simp [g1]; done) | (simp only [nrmT] at *; omega) | (simp at * <;> omega) | (simp_all <;> omega) | (simp_all; done)
   ·first | omega | rfl | (intro hg; simp only [nrmT] at hg; omega) | (intro g1 g2; simp [g1, g2]; done) | (intro g1; simp at g1 ⊢; simp [g1]; done) | (simp only [nrmT] at *; omega) | (simp at * <;> omega) | (simp_all <;> omega) | (simp_all; done)
   ·intro b4
    try simp only [nrmT] at b4
    rw [J5Y h3 (by omega) (by omega)]
    unfold J0j at b4 ⊢
    by_cases h5 : xs.getD i.toNat 0 < ys.getD i.toNat 0
    · rw [if_pos h5, if_pos h5]
    rw [if_neg h5] at b4 ⊢
    by_cases h6 : xs.getD i.toNat 0 > ys.getD i.toNat 0
    · rw [if_pos h6, if_neg h5, if_pos h6]
    rw [if_neg h6] at b4; omega
   intro b5
   try simp only [nrmT] at b5
   refine ⟨?_, ?_⟩
   ·first | omega | rfl | (intro hg; simp only [nrmT] at hg; omega) | (intro g1 g2; simp [g1, g2]; done) | (intro g1; simp at g1 ⊢; simp [g1]; done) | (simp only [nrmT] at *; omega) | (simp at * <;> omega) | (simp_all <;> omega) | (simp_all; done)
   refine ⟨(i + 1), ?_⟩
   refine ⟨?_, ?_, rfl, rfl, rfl, rfl, rfl⟩
   ·refine ⟨?_, ?_, ?_, ?_⟩
    ·first | omega | rfl | (intro hg; simp only [nrmT] at hg; omega) | (intro g1 g2; simp [g1, g2]; done) | (intro g1; simp at g1 ⊢; simp [g1]; done) | (simp only [nrmT] at *; omega) | (simp at * <;> omega) | (simp_all <;> omega) | (simp_all; done)
    ·first | omega | rfl | (intro hg; simp only [nrmT] at hg; omega) | (intro g1 g2; simp [g1, g2]; done) | (intro g1; simp at g1 ⊢; simp [g1]; done) | (simp only [nrmT] at *; omega) | (simp at * <;> omega) | (simp_all <;> omega) | (simp_all; done)
    ·first | omega | rfl | (intro hg; simp only [nrmT] at hg; omega) | (intro g1 g2; simp [g1, g2]; done) | (intro g1; simp at g1 ⊢; simp [g1]; done) | (simp only [nrmT] at *; omega) | (simp at * <;> omega) | (simp_all <;> omega) | (simp_all; done)
    ·have h7 := J5Y h3 (by omega) (by omega)
     unfold J0j at b5
     rw [h7, show (i + 1).toNat = i.toNat + 1 by omega]
     by_cases h5 : xs.getD i.toNat 0 < ys.getD i.toNat 0
     · rw [if_pos h5] at b5; omega
     rw [if_neg h5] at b5 ⊢
     by_cases h6 : xs.getD i.toNat 0 > ys.getD i.toNat 0
     · rw [if_pos h6] at b5; omega
     rw [if_neg h6]
   first | (show _ < _; omega) | (simp only [Jw]; omega) | (simp only [Jw] at *; simp at *; omega)
  intro b6
  try simp only [nrmT] at b6
  refine ⟨?_, ?_⟩
  ·intro b7
   try simp only [nrmT] at b7
   rw [J6T h3 (by omega) (by omega) (by omega), if_pos (by omega)]
  intro b8
  try simp only [nrmT] at b8
  rw [J6T h3 (by omega) (by omega) (by omega), if_neg (by omega)]
theorem J2k (xs : ZI) (ys : ZI)  : PC Try.prog 236 [.sl (.ints xs), .sl (.ints ys)] (.one (.d (.int .i64 (Jm xs ys)))) :=
  pc_wf @Try.call236 fun hw => pc_by (by kernel_rfl) Try.func236 @Try.call236 (by kernel_rfl) J2y (J2r xs ys) (by kernel_rfl) (J2i xs ys hw.1 hw.2.1) (by kernel_rfl)
def J2c : List D → Orc := orcN [some .ints, some .ints] fun ds => match ds with
  | [.sl (.ints xs), .sl (.ints ys)] => some (.one (.d (.int .i64 (Jm xs ys))))
  | _ => none
def lst (n code : Nat) : ZI := members (fun k => code.testBit k) n
theorem J8Y {n code : Nat} : ∀ x ∈ lst n code, 0 ≤ x ∧ x < (n : Int) := fun x hx => by
  have := mem_members.1 hx
  omega
theorem J8R {n code : Nat} : (lst n code).length ≤ n := members_len_le _ _
theorem J8B (n : Nat) : (1 : Int) * 2 ^ ((n : Int)).toNat = ((2 ^ n : Nat) : Int) := by
  rw [Int.toNat_natCast]; simp
theorem JR {n k : Nat} (h : k < n) : (J39 n).getD k 0 = (k : Int) := by
  unfold J39 members
  have e : (List.range n).filter (fun _ => true) = List.range n := List.filter_eq_self.2 fun _ _ => rfl
  rw [e]
  simp [h]
theorem J0x (n : Nat) : (J39 n).length = n := by
  unfold J39 members
  have e : (List.range n).filter (fun _ => true) = List.range n := List.filter_eq_self.2 fun _ _ => rfl
  rw [e]; simp
def J0e (a b : ZI) : Int := if J0j (a.length : Int) (b.length : Int) = 0 then Jm a b else J0j (a.length : Int) (b.length : Int)
theorem J5R : ∀ x : ZI, Jm x x = 0
  | [] => rfl
  | x :: r => by unfold Jm; rw [if_neg (by omega), if_neg (by omega)]; exact J5R r
theorem J61 : ∀ {x y : ZI}, Jm x y = 0 → x = y
  | [], [], _ => rfl
  | [], _ :: _, h => by simp [Jm] at h
  | _ :: _, [], h => by simp [Jm] at h
  | x :: r, y :: s, h => by
    unfold Jm at h
    by_cases h1 : x < y
    · rw [if_pos h1] at h; omega
    rw [if_neg h1] at h
    by_cases h2 : x > y
    · rw [if_pos h2] at h; omega
    rw [if_neg h2] at h
    have : x = y := by omega
    rw [this, J61 h]
theorem J5W : ∀ {x y : ZI}, Jm x y < 0 ↔ 0 < Jm y x
  | [], [] => by simp [Jm]
  | [], _ :: _ => by simp [Jm]
  | _ :: _, [] => by simp [Jm]
  | x :: r, y :: s => by
    unfold Jm
    by_cases h1 : x < y
    · rw [if_pos h1, if_neg (by omega), if_pos (by omega)]; omega
    rw [if_neg h1]
    by_cases h2 : x > y
    · rw [if_pos h2, if_pos (by omega)]; omega
    rw [if_neg h2, if_neg (by omega), if_neg (by omega)]; exact J5W
theorem J7n : ∀ {x y z : ZI}, Jm x y < 0 → Jm y z < 0 → Jm x z < 0
  | [], _, [], h1, h2 => by
    exfalso
    rename_i y
    cases y with
    | nil => simp [Jm] at h1
    | cons y s => simp [Jm] at h2
  | [], _, _ :: _, _, _ => by simp [Jm]
  | _ :: _, [], _, h, _ => by simp [Jm] at h
  | _ :: _, _ :: _, [], _, h => by simp [Jm] at h
  | x :: r, y :: s, z :: t, h1, h2 => by
    unfold Jm at h1 h2 ⊢
    by_cases a1 : x < y
    · by_cases a2 : y < z
      · rw [if_pos (by omega)]; omega
      · rw [if_neg a2] at h2
        by_cases a3 : y > z
        · rw [if_pos a3] at h2; omega
        rw [if_pos (by omega)]; omega
    rw [if_neg a1] at h1
    by_cases a4 : x > y
    · rw [if_pos a4] at h1; omega
    rw [if_neg a4] at h1
    by_cases a2 : y < z
    · rw [if_pos (by omega)]; omega
    rw [if_neg a2] at h2
    by_cases a3 : y > z
    · rw [if_pos a3] at h2; omega
    rw [if_neg a3] at h2
    rw [if_neg (by omega), if_neg (by omega)]
    exact J7n h1 h2
theorem J0Q (a b : ZI) : (a.length < b.length ∧ J0e a b < 0) ∨ (b.length < a.length ∧ 0 < J0e a b) ∨ (a.length = b.length ∧ J0e a b = Jm a b) := by
  unfold J0e J0j
  by_cases h1 : (a.length : Int) < b.length
  · rw [if_pos h1]; left; exact ⟨by omega, by rw [if_neg (by omega)]; omega⟩
  rw [if_neg h1]
  by_cases h2 : (a.length : Int) > b.length
  · rw [if_pos h2]; right; left; exact ⟨by omega, by rw [if_neg (by omega)]; omega⟩
  rw [if_neg h2]; right; right; exact ⟨by omega, by rw [if_pos rfl]⟩
theorem J63 (a : ZI) : J0e a a = 0 := by
  rcases J0Q a a with h | h | h
  · omega
  · omega
  rw [h.2, J5R]
theorem J5U {a b : ZI} (h : J0e a b = 0) : a = b := by
  rcases J0Q a b with h1 | h1 | h1
  · omega
  · omega
  exact J61 (h1.2 ▸ h)
theorem J5Z {a b : ZI} : J0e a b < 0 ↔ 0 < J0e b a := by
  rcases J0Q a b with h1 | h1 | h1 <;> rcases J0Q b a with h2 | h2 | h2
  · omega
  · omega
  · omega
  · omega
  · omega
  · omega
  · omega
  · omega
  rw [h1.2, h2.2]; exact J5W
theorem J7m {a b c : ZI} (h : J0e a b < 0) (k : J0e b c < 0) : J0e a c < 0 := by
  rcases J0Q a b with h1 | h1 | h1 <;> rcases J0Q b c with h2 | h2 | h2 <;> rcases J0Q a c with h3 | h3 | h3
  all_goals first | omega | (rw [h3.2]; exact J7n (h1.2 ▸ h) (h2.2 ▸ k))
theorem J82 {β : Type} {c : β → β → Int} (hs : ∀ x, c x x = 0) (h0 : ∀ {x y}, c x y = 0 → x = y) (hf : ∀ {x y}, c x y < 0 ↔ 0 < c y x) (ht : ∀ {x y z}, c x y < 0 → c y z < 0 → c x z < 0) :
    Go.Sort.SWO (ltOf c) ∧ ∀ x y, ltOf c x y = false → ltOf c y x = false → x = y := by
  refine ⟨⟨fun x => ?_, fun x y z h1 h2 => ?_, fun x y z h1 h2 => ?_⟩, fun x y h1 h2 => ?_⟩
  · exact decide_eq_false (by rw [hs]; omega)
  · exact decide_eq_true (ht (of_decide_eq_true h1) (of_decide_eq_true h2))
  · have h1 := of_decide_eq_false h1
    have h2 := of_decide_eq_false h2
    refine decide_eq_false fun h3 => ?_
    by_cases e1 : c x y = 0
    · rw [h0 e1] at h3; omega
    by_cases e2 : c y z = 0
    · rw [← h0 e2] at h3; omega
    · have a1 : c y x < 0 := hf.2 (by omega)
      have a2 : c z y < 0 := hf.2 (by omega)
      have a3 := ht a2 a1
      have a4 := hf.1 h3
      omega
  have h1 := of_decide_eq_false h1
  have h2 := of_decide_eq_false h2
  refine h0 ?_
  by_cases e1 : 0 < c x y
  · have := hf.2 e1; omega
  omega
theorem J90 : Go.Sort.SWO (ltOf J0e) := (J82 J63 J5U J5Z J7m).1
theorem J91 : ∀ x y, ltOf J0e x y = false → ltOf J0e y x = false → x = y := (J82 J63 J5U J5Z J7m).2
def orI : ZI → Int
  | [] => 0
  | x :: r => if x = 0 then orI r else x
theorem J6B {xs : ZI} {i : Nat} (h : orI xs = orI (xs.drop i)) (hi : i < xs.length) : orI xs = if xs.getD i 0 = 0 then orI (xs.drop (i + 1)) else xs.getD i 0 := by
  rw [h, List.drop_eq_getElem_cons hi, J08 hi]; rfl
theorem J8M {xs : ZI} {i : Nat} (h : orI xs = orI (xs.drop i)) (hi : xs.length ≤ i) : orI xs = 0 := by
  rw [h, List.drop_eq_nil_of_le hi]; rfl
theorem J8C (a b : Int) : orI [a, b] = if a = 0 then b else a := by
  unfold orI orI orI
  by_cases h : b = 0
  · rw [if_pos h, h]
  rw [if_neg h]
def J3b (n m : Nat) : ZR := (List.range m).map fun c => lst n (c + 1)
def JF (n : Nat) : ZR := (J3b n (2 ^ n - 1)).mergeSort fun x9 y9 => !(ltOf J0e) y9 x9
theorem J4D (n m : Nat) : (J3b n m).length = m := by simp [J3b]
theorem J7Q (n : Nat) : (JF n).length = 2 ^ n - 1 := by unfold JF; rw [List.length_mergeSort, J4D]
theorem J80 (n m : Nat) : J3b n (m + 1) = J3b n m ++ [lst n (m + 1)] := by simp [J3b, List.range_succ]
theorem J3N {n : Nat} {s : ZI} : s ∈ JF n ↔ ∃ c, 1 ≤ c ∧ c < 2 ^ n ∧ lst n c = s := by
  unfold JF
  rw [(List.mergeSort_perm _ _).mem_iff, J3b, List.mem_map]
  constructor
  · rintro ⟨c, hc, rfl⟩
    have := List.mem_range.1 hc
    exact ⟨c + 1, by omega, by omega, rfl⟩
  rintro ⟨c, h1, h2, rfl⟩
  exact ⟨c - 1, List.mem_range.2 (by omega), by rw [show c - 1 + 1 = c by omega]⟩
theorem J8K {n c : Nat} (h1 : 1 ≤ c) (h2 : c < 2 ^ n) : 0 < (lst n c).length := by
  rcases Nat.eq_zero_or_pos (lst n c).length with h | h
  · exfalso
    have e : lst n c = [] := List.eq_nil_of_length_eq_zero h
    have : c = 0 := by
      apply Nat.eq_of_testBit_eq
      intro i
      rw [Nat.zero_testBit]
      by_cases hi : i < n
      · cases hb : c.testBit i with
        | false => rfl
        | true =>
          have hm : (i : Int) ∈ lst n c := mem_members.2 ⟨by omega, by omega, by rw [Int.toNat_natCast]; exact hb⟩
          rw [e] at hm; cases hm
      exact Nat.testBit_lt_two_pow (Nat.lt_of_lt_of_le h2 (Nat.pow_le_pow_right (by omega) (by omega)))
    omega
  exact h
theorem J8W {n c : Nat} (hn : n ≤ 62) (h : c < 2 ^ n) : members (fun k => c.testBit k) 62 = lst n c :=
  J1W (fun k hk => Nat.testBit_lt_two_pow (Nat.lt_of_lt_of_le h (Nat.pow_le_pow_right (by omega) hk))) 62 hn
abbrev J17 (xs : ZI) (i : Int) : Prop := (0 ≤ i) ∧ (i ≤ (xs.length : Int)) ∧ (orI xs = orI (xs.drop i.toNat))
abbrev J0l (xs : ZI) (i : Int) : Nat := (xs.length - i).toNat
def J6e (f : FuncId) (ds : List D) : Orc := .no
def J6n (xs : ZI) : Ann := .two (.none) (.two (.none) (.two (.two (.none) (.loop (cut1 (fun (i : Int) => J17 xs i) (fun (i : Int) => [(3, .d true (.int .i64 0)), (6, .d false (.sl (.ints xs))), (7, .d true (.int .i64 (xs.length : Int))), (8, .d true (.int .i64 i))]) (fun (i : Int) => [])) (fun g => J0l xs g) (fun _ => .none))) (.none)))
def J3i (xs : ZI) : Prop :=
  ((∃ i' : Int, (J17 xs i') ∧ ((0 : Int) = 0) ∧ (xs = xs) ∧ ((xs.length : Int) = (xs.length : Int)) ∧ ((0 : Int) = i')) ∧ (∀ i : Int, (J17 xs i) → (((decide (i < (xs.length : Int))) = true → ((0 : Int) ≤ i) ∧ ((i : Int) < xs.length) ∧ (i.toNat < xs.length) ∧ ((((xs.getD i.toNat 0) != 0) = true → (((xs.getD i.toNat 0) = (orI xs)))) ∧ (((xs.getD i.toNat 0) != 0) = false → (I6 (i + 1)) ∧ (∃ i' : Int, (J17 xs i') ∧ (J0l xs i' < J0l xs i) ∧ ((0 : Int) = 0) ∧ (xs = xs) ∧ ((xs.length : Int) = (xs.length : Int)) ∧ ((i + 1) = i'))))) ∧ ((decide (i < (xs.length : Int))) = false → (((0 : Int) = (orI xs)))))))
theorem J5N (xs : ZI)  (w_xs : (xs.length : Int) ≤ 9223372036854775807) : J3i xs := by
  unfold J3i
  refine ⟨?_, ?_⟩
  ·refine ⟨0, ?_⟩
   refine ⟨?_, rfl, rfl, rfl, rfl⟩
   ·refine ⟨?_, ?_, ?_⟩
    ·first | omega | rfl | (intro hg; simp only [nrmT] at hg; omega) | (intro g1 g2; simp [g1, g2]; done) | (intro g1; simp at g1 ⊢; simp [g1]; done) | (simp only [nrmT] at *; omega) | (simp at * <;> omega) | (simp_all <;> omega) | (simp_all; done)
    ·first | omega | rfl | (intro hg; simp only [nrmT] at hg; omega) | (intro g1 g2; simp [g1, g2]; done) | (intro g1; simp at g1 ⊢; simp [g1]; done) | (simp only [nrmT] at *; omega) | (simp at * <;> omega) | (simp_all <;> omega) | (simp_all; done)
    ·rfl
  intro i hJ
  obtain ⟨h1, h2, h3⟩ := hJ
  refine ⟨?_, ?_⟩
  ·intro b1
   try simp only [nrmT] at b1
   refine ⟨?_, ?_, ?_, ?_, ?_⟩
   ·first | omega | rfl | (intro hg; simp only [nrmT] at hg; omega) | (intro g1 g2; simp [g1, g2]; done) | (intro g1; simp at g1 ⊢; simp [g1]; done) | (simp only [nrmT] at *; omega) | (simp at * <;> omega) | (simp_all <;> omega) | (simp_all; done)
   ·first | omega | rfl | (intro hg; simp only [nrmT] at hg; omega) | (intro g1 g2; simp [g1, g2]; done) | (intro g1; simp at g1 ⊢; simp [g1]; done) | (simp only [nrmT] at *; omega) | (simp at * <;> omega) | (simp_all <;> omega) | (simp_all; done)
   ·first | omega | rfl | (intro hg; simp only [nrmT] at hg; omega) | (intro g1 g2; simp [g1, g2]; done) | (intro g1; simp at g1 ⊢; simp [g1]; done) | (simp only [nrmT] at *; omega) | (simp at * <;> omega) | (simp_all <;> omega) | (simp_all; done)
   ·intro b2
    try simp only [nrmT] at b2
    rw [J6B h3 (by omega), if_neg (by omega)]
   intro b3
   try simp only [nrmT] at b3
   refine ⟨?_, ?_⟩
   ·first | omega | rfl | (intro hg; simp only [nrmT] at hg; omega) | (intro g1 g2; simp [g1, g2]; done) | (intro g1; simp at g1 ⊢; simp [g1]; done) | (simp only [nrmT] at *; omega) | (simp at * <;> omega) | (simp_all <;> omega) | (simp_all; done)
   refine ⟨(i + 1), ?_⟩
   refine ⟨?_, ?_, rfl, rfl, rfl, rfl⟩
   ·refine ⟨?_, ?_, ?_⟩
    ·first | omega | rfl | (intro hg; simp only [nrmT] at hg; omega) | (intro g1 g2; simp [g1, g2]; done) | (intro g1; simp at g1 ⊢; simp [g1]; done) | (simp only [nrmT] at *; omega) | (simp at * <;> omega) | (simp_all <;> omega) | (simp_all; done)
    ·first | omega | rfl | (intro hg; simp only [nrmT] at hg; omega) | (intro g1 g2; simp [g1, g2]; done) | (intro g1; simp at g1 ⊢; simp [g1]; done) | (simp only [nrmT] at *; omega) | (simp at * <;> omega) | (simp_all <;> omega) | (simp_all; done)
    ·rw [J6B h3 (by omega), if_pos (by omega), show (i + 1).toNat = i.toNat + 1 by omega]
   first | (show _ < _; omega) | (simp only [J0l]; omega) | (simp only [J0l] at *; simp at *; omega)
  intro b4
  try simp only [nrmT] at b4
  exact (J8M h3 (by omega)).symm
theorem J5u (xs : ZI)  : PC Try.prog 234 [.sl (.ints xs)] (.one (.d (.int .i64 (orI xs)))) :=
  pc_wf @Try.call234 fun hw => pc_by (by kernel_rfl) Try.func234 @Try.call234 (by kernel_rfl) J6e (J6n xs) (by kernel_rfl) (J5N xs hw.1) (by kernel_rfl)
def J5j : List D → Orc := orcN [some .ints] fun ds => match ds with
  | [.sl (.ints xs)] => some (.one (.d (.int .i64 (orI xs))))
  | _ => none
def J56 (f : FuncId) (ds : List D) : Orc := bif Nat.beq f 235 then J1P ds else bif Nat.beq f 236 then J2c ds else bif Nat.beq f 234 then J5j ds else .no
def J4P (xs : ZI) (ys : ZI) : Ann := .none
def J2U (xs : ZI) (ys : ZI) : Prop :=
  (PC Try.prog 235 [.int .i64 (xs.length : Int), .int .i64 (ys.length : Int)] (.one (.d (.int .i64 (J0j (xs.length : Int) (ys.length : Int)))))) ∧ (PC Try.prog 236 [.sl (.ints xs), .sl (.ints ys)] (.one (.d (.int .i64 (Jm xs ys))))) ∧ ((2 : Nat) = 2) ∧ (PC Try.prog 234 [.sl (.ints ([(J0j (xs.length : Int) (ys.length : Int)), (Jm xs ys)]))] (.one (.d (.int .i64 (orI ([(J0j (xs.length : Int) (ys.length : Int)), (Jm xs ys)])))))) ∧ (((orI ([(J0j (xs.length : Int) (ys.length : Int)), (Jm xs ys)])) = (J0e xs ys)))
theorem J4n (xs : ZI) (ys : ZI)  (w_xs : (xs.length : Int) ≤ 9223372036854775807) (w_ys : (ys.length : Int) ≤ 9223372036854775807) : J2U xs ys := by
  unfold J2U
  refine ⟨J21 (xs.length : Int) (ys.length : Int), J2k xs ys, rfl, J5u ([(J0j (xs.length : Int) (ys.length : Int)), (Jm xs ys)]), ?_⟩
  ·rw [J8C]; rfl
theorem J4o (xs : ZI) (ys : ZI)  : PC Try.prog 208 [.sl (.ints xs), .sl (.ints ys)] (.one (.d (.int .i64 (J0e xs ys)))) :=
  pc_wf @Try.call208 fun hw => pc_by (by kernel_rfl) Try.func208 @Try.call208 (by kernel_rfl) J56 (J4P xs ys) (by kernel_rfl) (J4n xs ys hw.1 hw.2.1) (by kernel_rfl)
theorem J1H (xss : ZR) (hz : xss.length < 4611686018427387904) : PU Try.prog 207 26 (.rows xss) (.rows (xss.mergeSort (fun x9 y9 => !(ltOf J0e) y9 x9))) [.fn 208 0 []] false :=
  pu_sortFunc Try.laySortRows 26 xss (fun x => .sl (.ints x)) J0e J90 J91 208 (fun x _ y _ => J4o x y) _ _ rfl rfl rfl (List.length_mergeSort _) (fun _ => rfl) (fun i x h => by simp [Mem.get, h]) (fun i x h => by simp [Mem.get, h]) hz @Try.call208
abbrev J0c (b : Int) (out : ZI) (x : Int) : Prop := (0 ≤ x) ∧ (x ≤ 62) ∧ (out = members (fun k => b.toNat.testBit k) x.toNat)
abbrev Jx (b : Int) (out : ZI) (x : Int) : Nat := (62 - x).toNat
def J5z (f : FuncId) (ds : List D) : Orc := bif Nat.beq f 226 then J6c ds else .no
def J5q (b : Int) : Ann := .two (.none) (.two (.none) (.two (.two (.none) (.loop (cut2 (fun (out : ZI) (x : Int) => J0c b out x) (fun (out : ZI) (x : Int) => [(0, .d false (.int .u64 b)), (3, .own 1000000 out.length), (4, .d true (.int .i64 x))]) (fun (out : ZI) (x : Int) => [(1000000, .arr true 3 (.ints out))])) (fun g => Jx b g.1 g.2) (fun _ => .none))) (.none)))
def J36 (b : Int) : Prop :=
  ((∃ out' : ZI, ∃ x' : Int, (J0c b out' x') ∧ (b = b) ∧ ((0 : Nat) = out'.length) ∧ ((0 : Int) = x') ∧ ([] = out')) ∧ (∀ out : ZI, ∀ x : Int, (J0c b out x) → ((0 : Int) ≤ b ∧ (b : Int) ≤ 18446744073709551615) ∧ ((0 : Int) ≤ x) ∧ (((decide ((b / 2 ^ x.toNat) > 0)) = true → (PC Try.prog 226 [.int .u64 b, .int .i64 x] (.one (.d (.bool (b.toNat.testBit x.toNat))))) ∧ (((b.toNat.testBit x.toNat) = true → (out.length = out.length) ∧ ((1 : Nat) = 1) ∧ ((out.length + 1) * 8 ≤ 140737488355328) ∧ (I6 (x + 1)) ∧ (∃ out' : ZI, ∃ x' : Int, (J0c b out' x') ∧ (Jx b out' x' < Jx b out x) ∧ (b = b) ∧ ((out.length + 1) = out'.length) ∧ ((x + 1) = x') ∧ ((out ++ [x]) = out'))) ∧ ((b.toNat.testBit x.toNat) = false → (I6 (x + 1)) ∧ (∃ out' : ZI, ∃ x' : Int, (J0c b out' x') ∧ (Jx b out' x' < Jx b out x) ∧ (b = b) ∧ (out.length = out'.length) ∧ ((x + 1) = x') ∧ (out = out'))))) ∧ ((decide ((b / 2 ^ x.toNat) > 0)) = false → ((out.length = out.length) ∧ ((out : ZI) = (members (fun k => b.toNat.testBit k) 62)))))))
theorem J5i (b : Int) (hb : 0 ≤ b ∧ b ≤ 4611686018427387903)  : J36 b := by
  unfold J36
  refine ⟨?_, ?_⟩
  ·refine ⟨([]), 0, ?_⟩
   refine ⟨?_, rfl, rfl, rfl, ?_⟩
   ·refine ⟨?_, ?_, ?_⟩
    ·first | omega | rfl | (intro hg; simp only [nrmT] at hg; omega) | (intro g1 g2; simp [g1, g2]; done) | (intro g1; simp at g1 ⊢; simp [g1]; done) | (simp only [nrmT] at *; omega) | (simp at * <;> omega) | (simp_all <;> omega) | (simp_all; done)
    ·first | omega | rfl | (intro hg; simp only [nrmT] at hg; omega) | (intro g1 g2; simp [g1, g2]; done) | (intro g1; simp at g1 ⊢; simp [g1]; done) | (simp only [nrmT] at *; omega) | (simp at * <;> omega) | (simp_all <;> omega) | (simp_all; done)
    ·first | omega | rfl | (intro hg; simp only [nrmT] at hg; omega) | (intro g1 g2; simp [g1, g2]; done) | (intro g1; simp at g1 ⊢; simp [g1]; done) | (simp only [nrmT] at *; omega) | (simp at * <;> omega) | (simp_all <;> omega) | (simp_all; done)
   first | omega | rfl | (intro hg; simp only [nrmT] at hg; omega) | (intro g1 g2; simp [g1, g2]; done) | (intro g1; simp at g1 ⊢; simp [g1]; done) | (simp only [nrmT] at *; omega) | (simp at * <;> omega) | (simp_all <;> omega) | (simp_all; done)
  intro out x hJ
  obtain ⟨h1, h2, h3⟩ := hJ
  refine ⟨?_, ?_, ?_, ?_⟩
  ·first | omega | rfl | (intro hg; simp only [nrmT] at hg; omega) | (intro g1 g2; simp [g1, g2]; done) | (intro g1; simp at g1 ⊢; simp [g1]; done) | (simp only [nrmT] at *; omega) | (simp at * <;> omega) | (simp_all <;> omega) | (simp_all; done)
  ·first | omega | rfl | (intro hg; simp only [nrmT] at hg; omega) | (intro g1 g2; simp [g1, g2]; done) | (intro g1; simp at g1 ⊢; simp [g1]; done) | (simp only [nrmT] at *; omega) | (simp at * <;> omega) | (simp_all <;> omega) | (simp_all; done)
  ·intro b1
   try simp only [nrmT] at b1
   refine ⟨?_, ?_, ?_⟩
   ·refine J6Q b x ?_ ?_
    ·first | omega | rfl | (intro hg; simp only [nrmT] at hg; omega) | (intro g1 g2; simp [g1, g2]; done) | (intro g1; simp at g1 ⊢; simp [g1]; done) | (simp only [nrmT] at *; omega) | (simp at * <;> omega) | (simp_all <;> omega) | (simp_all; done)
    ·first | omega | rfl | (intro hg; simp only [nrmT] at hg; omega) | (intro g1 g2; simp [g1, g2]; done) | (intro g1; simp at g1 ⊢; simp [g1]; done) | (simp only [nrmT] at *; omega) | (simp at * <;> omega) | (simp_all <;> omega) | (simp_all; done)
   ·intro b2
    try simp only [nrmT] at b2
    refine ⟨rfl, rfl, ?_, ?_, ?_⟩
    ·rw [h3]; have := members_len_le (fun k => b.toNat.testBit k) x.toNat; omega
    ·first | omega | rfl | (intro hg; simp only [nrmT] at hg; omega) | (intro g1 g2; simp [g1, g2]; done) | (intro g1; simp at g1 ⊢; simp [g1]; done) | (simp only [nrmT] at *; omega) | (simp at * <;> omega) | (simp_all <;> omega) | (simp_all; done)
    refine ⟨(out ++ [x]), (x + 1), ?_⟩
    refine ⟨?_, ?_, rfl, ?_, rfl, rfl⟩
    ·refine ⟨?_, ?_, ?_⟩
     ·first | omega | rfl | (intro hg; simp only [nrmT] at hg; omega) | (intro g1 g2; simp [g1, g2]; done) | (intro g1; simp at g1 ⊢; simp [g1]; done) | (simp only [nrmT] at *; omega) | (simp at * <;> omega) | (simp_all <;> omega) | (simp_all; done)
     ·have := J7s hb h2 b1; omega
     ·rw [h3, show (x + 1).toNat = x.toNat + 1 by omega, members_succ, b2]; simp; try omega
    ·have := J7s hb h2 b1
     first | (show _ < _; omega) | (simp only [Jx]; omega) | (simp only [Jx] at *; simp at *; omega)
    first | omega | rfl | (intro hg; simp only [nrmT] at hg; omega) | (intro g1 g2; simp [g1, g2]; done) | (intro g1; simp at g1 ⊢; simp [g1]; done) | (simp only [nrmT] at *; omega) | (simp at * <;> omega) | (simp_all <;> omega) | (simp_all; done)
   intro b3
   try simp only [nrmT] at b3
   refine ⟨?_, ?_⟩
   ·first | omega | rfl | (intro hg; simp only [nrmT] at hg; omega) | (intro g1 g2; simp [g1, g2]; done) | (intro g1; simp at g1 ⊢; simp [g1]; done) | (simp only [nrmT] at *; omega) | (simp at * <;> omega) | (simp_all <;> omega) | (simp_all; done)
   refine ⟨out, (x + 1), ?_⟩
   refine ⟨?_, ?_, rfl, rfl, rfl, rfl⟩
   ·refine ⟨?_, ?_, ?_⟩
    ·first | omega | rfl | (intro hg; simp only [nrmT] at hg; omega) | (intro g1 g2; simp [g1, g2]; done) | (intro g1; simp at g1 ⊢; simp [g1]; done) | (simp only [nrmT] at *; omega) | (simp at * <;> omega) | (simp_all <;> omega) | (simp_all; done)
    ·have := J7s hb h2 b1; omega
    ·rw [h3, show (x + 1).toNat = x.toNat + 1 by omega, members_succ, b3]; simp; try omega
   have := J7s hb h2 b1
   first | (show _ < _; omega) | (simp only [Jx]; omega) | (simp only [Jx] at *; simp at *; omega)
  intro b4
  try simp only [nrmT] at b4
  refine ⟨rfl, ?_⟩
  ·rw [h3]; refine (J1W (fun k hk => J8O hb.1 (m := x.toNat) (by omega) k hk) 62 (by omega)).symm
theorem J50 (b : Int) (hb : 0 ≤ b ∧ b ≤ 4611686018427387903) : PC Try.prog 188 [.int .u64 b] (.one (.d (.sl (.ints (members (fun k => b.toNat.testBit k) 62))))) :=
  pc_wf @Try.call188 fun _ => pc_by (by kernel_rfl) Try.func188 @Try.call188 (by kernel_rfl) J5z (J5q b) (by kernel_rfl) (J5i b hb) (by kernel_rfl)
abbrev J2t (n : Int) (out : ZR) (b : Int) : Prop := (1 ≤ b) ∧ (b ≤ ((2 ^ n.toNat : Nat) : Int)) ∧ (out = J3b n.toNat (b.toNat - 1))
abbrev J1M (n : Int) (out : ZR) (b : Int) : Nat := (((2 ^ n.toNat : Nat) : Int) - b).toNat
abbrev J2v (n : Int) (out2 : ZR) : Prop := (out2 = J3b n.toNat (2 ^ n.toNat - 1))
def J8p (f : FuncId) (ds : List D) : Orc := .no
def J8f (n : Int) : Ann := .two (.none) (.two (.none) (.cut (.two (.none) (.loop (cut2 (fun (out : ZR) (b : Int) => J2t n out b) (fun (out : ZR) (b : Int) => [(0, .d false (.int .i64 n)), (3, .own 1000000 out.length), (4, .d true (.int .u64 b))]) (fun (out : ZR) (b : Int) => [(1000000, .arr true 26 (.rows out))])) (fun g => J1M n g.1 g.2) (fun g => (fun (out : ZR) (b : Int) => .two (.none) (.two (.reg [(2, .call none (.one (.d (.sl (.ints (members (fun k => b.toNat.testBit k) 62))))))]) (.none))) (g.1) (g.2)))) (cut1 (fun (out2 : ZR) => J2v n out2) (fun (out2 : ZR) => [(3, .own 1000050 out2.length)]) (fun (out2 : ZR) => [(1000050, .arr true 26 (.rows out2))])) (fun g => (fun (out2 : ZR) => .two (.mark [] [(1, .up (.rows (out2.mergeSort (fun x9 y9 => !(ltOf J0e) y9 x9))) false)]) (.none)) g)))
def J6M (n : Int) : Prop :=
  ((((∃ out' : ZR, ∃ b' : Int, (J2t n out' b') ∧ (n = n) ∧ ((0 : Nat) = out'.length) ∧ ((1 : Int) = b') ∧ ([] = out')) ∧ (∀ out : ZR, ∀ b : Int, (J2t n out b) → ((0 : Int) ≤ 1) ∧ ((0 : Int) ≤ n) ∧ ((0 : Int) ≤ ((1 : Int) * 2 ^ n.toNat) ∧ (((1 : Int) * 2 ^ n.toNat) : Int) ≤ 18446744073709551615) ∧ (((decide (b < ((1 : Int) * 2 ^ n.toNat))) = true → (PC Try.prog 188 [.int .u64 b] (.one (.d (.sl (.ints (members (fun k => b.toNat.testBit k) 62)))))) ∧ (out.length = out.length) ∧ ((1 : Nat) = 1) ∧ ((out.length + 1) * 24 ≤ 140737488355328) ∧ (0 ≤ (b + 1) ∧ (b + 1) ≤ 18446744073709551615) ∧ (∃ out' : ZR, ∃ b' : Int, (J2t n out' b') ∧ (J1M n out' b' < J1M n out b) ∧ (n = n) ∧ ((out.length + 1) = out'.length) ∧ ((b + 1) = b') ∧ ((out ++ [(members (fun k => b.toNat.testBit k) 62)]) = out'))) ∧ ((decide (b < ((1 : Int) * 2 ^ n.toNat))) = false → (∃ out2' : ZR, (J2v n out2') ∧ (out.length = out2'.length) ∧ (out = out2'))))))) ∧ (∀ out2 : ZR, (J2v n out2) → (out2.length = out2.length) ∧ (PU Try.prog 207 26 (.rows out2) (.rows (out2.mergeSort (fun x9 y9 => !(ltOf J0e) y9 x9))) [.fn 208 0 []] false) ∧ ((out2.length = (out2.mergeSort (fun x9 y9 => !(ltOf J0e) y9 x9)).length) ∧ (((out2.mergeSort (fun x9 y9 => !(ltOf J0e) y9 x9)) : ZR) = JF n.toNat))))
theorem J81 (n : Int) (hn : 0 ≤ n ∧ n ≤ 8)  : J6M n := by
  unfold J6M
  have p7 := J92 (n := n.toNat) (by omega)
  have pp := Nat.two_pow_pos n.toNat
  have e0 := J8B n.toNat
  have e1 : ((2 : Int) ^ n.toNat) = ((2 ^ n.toNat : Nat) : Int) := by simp
  refine ⟨?_, ?_⟩
  ·refine ⟨?_, ?_⟩
   ·refine ⟨([]), 1, ?_⟩
    refine ⟨?_, rfl, rfl, rfl, ?_⟩
    ·refine ⟨?_, ?_, ?_⟩
     ·first | omega | rfl | (intro hg; simp only [nrmT] at hg; omega) | (intro g1 g2; simp [g1, g2]; done) | (intro g1; simp at g1 ⊢; simp [g1]; done) | (simp only [nrmT] at *; omega) | (simp at * <;> omega) | (simp_all <;> omega) | (simp_all; done)
     ·generalize 2 ^ n.toNat = M at *
      omega
     ·rfl
    first | omega | rfl | (intro hg; simp only [nrmT] at hg; omega) | (intro g1 g2; simp [g1, g2]; done) | (intro g1; simp at g1 ⊢; simp [g1]; done) | (simp only [nrmT] at *; omega) | (simp at * <;> omega) | (simp_all <;> omega) | (simp_all; done)
   ·intro out b hJ
    obtain ⟨h1, h2, h3⟩ := hJ
    refine ⟨?_, ?_, ?_, ?_, ?_⟩
    ·first | omega | rfl | (intro hg; simp only [nrmT] at hg; omega) | (intro g1 g2; simp [g1, g2]; done) | (intro g1; simp at g1 ⊢; simp [g1]; done) | (simp only [nrmT] at *; omega) | (simp at * <;> omega) | (simp_all <;> omega) | (simp_all; done)
    ·first | omega | rfl | (intro hg; simp only [nrmT] at hg; omega) | (intro g1 g2; simp [g1, g2]; done) | (intro g1; simp at g1 ⊢; simp [g1]; done) | (simp only [nrmT] at *; omega) | (simp at * <;> omega) | (simp_all <;> omega) | (simp_all; done)
    ·rw [Int.one_mul, e1]
     generalize 2 ^ n.toNat = M at *
     omega
    ·intro b1
     try simp only [nrmT] at b1
     refine ⟨?_, rfl, rfl, ?_, ?_, ?_⟩
     ·refine J50 b ?_
      ·rw [Int.one_mul, e1] at b1
       generalize 2 ^ n.toNat = M at *
       omega
     ·rw [Int.one_mul, e1] at b1
      rw [h3, J4D]
      generalize 2 ^ n.toNat = M at *
      omega
     ·rw [Int.one_mul, e1] at b1
      generalize 2 ^ n.toNat = M at *
      omega
     refine ⟨(out ++ [(members (fun k => b.toNat.testBit k) 62)]), (b + 1), ?_⟩
     refine ⟨?_, ?_, rfl, ?_, rfl, rfl⟩
     ·refine ⟨?_, ?_, ?_⟩
      ·first | omega | rfl | (intro hg; simp only [nrmT] at hg; omega) | (intro g1 g2; simp [g1, g2]; done) | (intro g1; simp at g1 ⊢; simp [g1]; done) | (simp only [nrmT] at *; omega) | (simp at * <;> omega) | (simp_all <;> omega) | (simp_all; done)
      ·rw [Int.one_mul, e1] at b1
       generalize 2 ^ n.toNat = M at *
       omega
      ·rw [Int.one_mul, e1] at b1
       have hb : b.toNat < 2 ^ n.toNat := by
         generalize 2 ^ n.toNat = M at *
         omega
       rw [h3, show (b + 1).toNat - 1 = (b.toNat - 1) + 1 by omega, J80, show b.toNat - 1 + 1 = b.toNat by omega, J8W (n := n.toNat) (by omega) hb]
     ·rw [Int.one_mul, e1] at b1
      first | (show _ < _; omega) | (simp only [J1M]; omega) | (simp only [J1M] at *; simp at *; omega)
     first | omega | rfl | (intro hg; simp only [nrmT] at hg; omega) | (intro g1 g2; simp [g1, g2]; done) | (intro g1; simp at g1 ⊢; simp [g1]; done) | (simp only [nrmT] at *; omega) | (simp at * <;> omega) | (simp_all <;> omega) | (simp_all; done)
    intro b2
    try simp only [nrmT] at b2
    refine ⟨out, ?_⟩
    refine ⟨?_, rfl, rfl⟩
    ·unfold J2v
     rw [Int.one_mul, e1] at b2
     have hm : b.toNat - 1 = 2 ^ n.toNat - 1 := by
       generalize 2 ^ n.toNat = M at *
       omega
     rw [h3, hm]
  intro out2 hJ
  have h8 := hJ
  refine ⟨rfl, ?_, ?_, ?_⟩
  ·refine J1H out2 ?_
   ·rw [h8, J4D]
    generalize 2 ^ n.toNat = M at *
    omega
  ·simp
  rw [h8]; rfl
theorem J86 (n : Int) (hn : 0 ≤ n ∧ n ≤ 8) : PC Try.prog 134 [.int .i64 n] (.one (.own 26 (.rows (JF n.toNat)))) :=
  pc_wf @Try.call134 fun _ => pc_by (by kernel_rfl) Try.func134 @Try.call134 (by kernel_rfl) J8p (J8f n) (by kernel_rfl) (J81 n hn) (by kernel_rfl)
def J7M : List D → Orc := orcN [none] fun ds => match ds with
  | [.int .i64 n] => some (.one (.own 26 (.rows (JF n.toNat))))
  | _ => none
theorem J5X {l : ZI} {lo hi : Int} (ha : Asc l) (hb : ∀ x ∈ l, lo ≤ x ∧ x ≤ hi) : Ja l lo hi = true :=
  allTo_iff.2 fun k hk => by
    unfold J1F
    rw [Bool.and_eq_true, Bool.or_eq_true]
    refine ⟨decide_eq_true (hb _ (getD_mem hk)), ?_⟩
    by_cases e : k = 0
    · exact .inl (decide_eq_true e)
    right
    have := List.pairwise_iff_getElem.1 ha (k - 1) k (by omega) hk (by omega)
    rw [J08 hk, J08 (by omega)]
    exact decide_eq_true this
theorem J8E {n c : Nat} : Asc (lst n c) := asc_members _ _
theorem J5v {U : ZI} {E : ZR} (hg : J0 U E = true) {s : ZI} (hs : s ∈ JF (U.length : Int).toNat) :
    (J0 U E && Ja s 0 ((U.length : Int) - 1) && decide (0 < s.length)) = true ∧ s.length ≤ 7 := by
  obtain ⟨g1, g2, g3⟩ := JG hg
  rw [Int.toNat_natCast] at hs
  obtain ⟨c, h1, h2, rfl⟩ := J3N.1 hs
  have hl := J8R (n := U.length) (code := c)
  refine ⟨?_, by omega⟩
  rw [hg, J5X J8E (fun x hx => by have := J8Y x hx; omega), decide_eq_true (J8K h1 h2)]
  rfl
theorem J8m {n : Nat} (h : 1 ≤ n) : 0 < (JF n).length := by
  rw [J7Q]
  have := Nat.pow_le_pow_right (n := 2) (by omega) h
  omega
def lsB (v : ZI → Int) (b s : ZI) : ZI := if v s < v b then s else b
def J2e (v : ZI → Int) (l : ZR) : ZI := l.foldl (lsB v) (l.getD 0 [])
theorem J65 {α β : Type} {f : β → α → β} {b : β} {l : List α} {i : Int} {d : α} (h0 : 0 ≤ i) (h : i < (l.length : Int)) : (l.take (i + 1).toNat).foldl f b = f ((l.take i.toNat).foldl f b) (l.getD i.toNat d) := by
  rw [take_step (d := d) h0 h, List.foldl_append]
  rfl
theorem J5f {v : ZI → Int} {l : ZR} (h : 0 < l.length) : J2e v l ∈ l := by
  have key : ∀ (r : ZR) (b : ZI), b ∈ l → (∀ x ∈ r, x ∈ l) → r.foldl (lsB v) b ∈ l := by
    intro r
    induction r with
    | nil => intro b hb _; exact hb
    | cons x r ih =>
      intro b hb hr
      refine ih _ ?_ fun y hy => hr y (List.mem_cons_of_mem _ hy)
      unfold lsB
      split
      · exact hr x List.mem_cons_self
      exact hb
  exact key l _ (getD_mem h) fun x hx => hx
def J27 (xs : ZI) (k : Nat) : Int := foldTo (fun m j => m + xs.getD j 0) 0 k
theorem J5V (xs : ZI) (k : Nat) : J27 xs (k + 1) = J27 xs k + xs.getD k 0 := rfl
theorem J7j {xs : ZI} (h : ∀ x ∈ xs, 0 ≤ x ∧ x ≤ 99) : ∀ k, k ≤ xs.length → 0 ≤ J27 xs k ∧ J27 xs k ≤ 99 * k
  | 0, _ => by simp [J27, foldTo]
  | k + 1, hk => by
    have h1 := J7j h k (by omega)
    have h2 := h _ (getD_mem (d := 0) (show k < xs.length by omega))
    rw [J5V]
    omega
def Ji (E : ZR) (set : ZI) : Int := J27 (JS E set E.length) E.length
theorem J8v {U : ZI} {E : ZR} {set : ZI} (ht : (J0 U E && Ja set 0 ((U.length : Int) - 1) && decide (0 < set.length)) = true) {j : Nat} (hj : j < E.length) : 0 ≤ J3h E set j ∧ J3h E set j ≤ 99 := by
  obtain ⟨hg, hs, hp⟩ := J1E ht
  obtain ⟨rl, rb⟩ := Jz hg hj
  have si := J2g (row := E.getD j []) (set := set) (n := (U.length : Int)) (fun k hk => by have := J2f hs k hk; omega) hp set.length (Nat.le_refl _)
  exact rb _ (by omega)
theorem J8A {U : ZI} {E : ZR} {set : ZI} (ht : (J0 U E && Ja set 0 ((U.length : Int) - 1) && decide (0 < set.length)) = true) : ∀ x ∈ JS E set E.length, 0 ≤ x ∧ x ≤ 99 := by
  intro x hx
  obtain ⟨j, hj, rfl⟩ := List.mem_map.1 hx
  exact J8v ht (List.mem_range.1 hj)
theorem J7I {g : Addr → Option Value} {O : Nat → Prop} {v : Value} {x : ZI} (h : R g O v (.sl (.ints x))) : ∃ (ad : Option Addr) (cap : Nat), v = .slice ad x.length cap := by
  cases h with
  | slnil _ h0 => exact ⟨none, 0, by rw [show x.length = 0 from h0]⟩
  | sl _ a n cap hn _ _ _ _ => exact ⟨some a, cap, by rw [hn]; rfl⟩
theorem J8s {g : Addr → Option Value} {O : Nat → Prop} {v : Value} {k : Int} (h : R g O v (.bx [.int .i64 k] 0)) : ∃ b : Addr, v = .pointer (some b) ∧ g b = some (.int .i64 k) := by
  cases h with
  | bx _ a _ f hc hr =>
    refine ⟨a.add 0, rfl, ?_⟩
    have h1 := (hc 0 (by simp)).1
    have h2 := hr 0 (.int .i64 k) rfl
    rw [h1]
    cases hf : f 0 <;> rw [hf] at h2 <;> cases h2
    rfl
theorem J8t {n k : Nat} (h : k ≤ n) : (lst n (2 ^ k - 1)).length = k := by
  unfold lst
  rw [J1W (m := k) (fun i hi => Nat.testBit_lt_two_pow (Nat.lt_of_lt_of_le (Nat.sub_lt (Nat.two_pow_pos k) (by omega)) (Nat.pow_le_pow_right (by omega) hi))) n h, J7T, J0x]
theorem J7Y {n : Nat} {k : Int} (h1 : 1 ≤ k) (h2 : k ≤ n) : ∃ s ∈ JF n, (s.length : Int) = k := by
  refine ⟨lst n (2 ^ k.toNat - 1), J3N.2 ⟨_, ?_, ?_, rfl⟩, by rw [J8t (by omega)]; omega⟩
  · have := Nat.pow_le_pow_right (n := 2) (by omega) (show 1 ≤ k.toNat by omega)
    omega
  have h3 := Nat.pow_le_pow_right (n := 2) (by omega) (show k.toNat ≤ n by omega)
  have h4 := Nat.two_pow_pos k.toNat
  omega
theorem J7u {p : ZI → Bool} {l : ZR} (h : ∃ s ∈ l, p s = true) : 0 < (l.filter p).length := by
  obtain ⟨s, h1, h2⟩ := h
  exact List.length_pos_of_mem (List.mem_filter.2 ⟨h1, h2⟩)
def J0S (U : ZI) (E : ZR) (k : Int) : ZI := J2e (Ji E) ((JF (U.length : Int).toNat).filter fun x9 => !(decide ((x9.length : Int) ≠ k)))
theorem J3T {U : ZI} {k : Int} (hk : 1 ≤ k ∧ k ≤ (U.length : Int)) : 0 < ((JF (U.length : Int).toNat).filter fun x9 => !(decide ((x9.length : Int) ≠ k))).length := by
  obtain ⟨s, h1, h2⟩ := J7Y (n := (U.length : Int).toNat) hk.1 (by omega)
  exact J7u ⟨s, h1, by simp [h2]⟩
theorem J7r {U : ZI} {k : Int} {E : ZR} (hk : 1 ≤ k ∧ k ≤ (U.length : Int)) : J0S U E k ∈ JF (U.length : Int).toNat :=
  (List.mem_filter.1 (J5f (J3T hk))).1
abbrev J2Q (list : ZI) (m : Int) (i : Int) : Prop := (0 ≤ i) ∧ (i ≤ (list.length : Int)) ∧ (m = J27 list i.toNat)
abbrev J2d (list : ZI) (m : Int) (i : Int) : Nat := (list.length - i).toNat
def J8G (f : FuncId) (ds : List D) : Orc := .no
def J8T (list : ZI) : Ann := .two (.none) (.two (.none) (.two (.two (.none) (.loop (cut2 (fun (m : Int) (i : Int) => J2Q list m i) (fun (m : Int) (i : Int) => [(3, .d true (.int .i64 m)), (6, .d false (.sl (.ints list))), (7, .d true (.int .i64 (list.length : Int))), (8, .d true (.int .i64 i))]) (fun (m : Int) (i : Int) => [])) (fun g => J2d list g.1 g.2) (fun _ => .none))) (.none)))
def J7q (list : ZI) : Prop :=
  ((∃ m' : Int, ∃ i' : Int, (J2Q list m' i') ∧ ((0 : Int) = m') ∧ (list = list) ∧ ((list.length : Int) = (list.length : Int)) ∧ ((0 : Int) = i')) ∧ (∀ m : Int, ∀ i : Int, (J2Q list m i) → (((decide (i < (list.length : Int))) = true → ((0 : Int) ≤ i) ∧ ((i : Int) < list.length) ∧ (i.toNat < list.length) ∧ (I6 (m + (list.getD i.toNat 0))) ∧ (I6 (i + 1)) ∧ (∃ m' : Int, ∃ i' : Int, (J2Q list m' i') ∧ (J2d list m' i' < J2d list m i) ∧ ((m + (list.getD i.toNat 0)) = m') ∧ (list = list) ∧ ((list.length : Int) = (list.length : Int)) ∧ ((i + 1) = i'))) ∧ ((decide (i < (list.length : Int))) = false → ((m = (J27 list list.length)))))))
theorem J8z (list : ZI) (hx : ∀ x ∈ list, 0 ≤ x ∧ x ≤ 99) (hl : list.length ≤ 7) (w_list : (list.length : Int) ≤ 9223372036854775807) : J7q list := by
  unfold J7q
  refine ⟨?_, ?_⟩
  ·refine ⟨0, 0, ?_⟩
   refine ⟨?_, rfl, rfl, rfl, rfl⟩
   ·refine ⟨?_, ?_, ?_⟩
    ·first | omega | rfl | (intro hg; simp only [nrmT] at hg; omega) | (intro g1 g2; simp [g1, g2]; done) | (intro g1; simp at g1 ⊢; simp [g1]; done) | (simp only [nrmT] at *; omega) | (simp at * <;> omega) | (simp_all <;> omega) | (simp_all; done)
    ·first | omega | rfl | (intro hg; simp only [nrmT] at hg; omega) | (intro g1 g2; simp [g1, g2]; done) | (intro g1; simp at g1 ⊢; simp [g1]; done) | (simp only [nrmT] at *; omega) | (simp at * <;> omega) | (simp_all <;> omega) | (simp_all; done)
    ·first | omega | rfl | (intro hg; simp only [nrmT] at hg; omega) | (intro g1 g2; simp [g1, g2]; done) | (intro g1; simp at g1 ⊢; simp [g1]; done) | (simp only [nrmT] at *; omega) | (simp at * <;> omega) | (simp_all <;> omega) | (simp_all; done)
  intro m i hJ
  obtain ⟨h1, h2, h3⟩ := hJ
  refine ⟨?_, ?_⟩
  ·intro b1
   try simp only [nrmT] at b1
   refine ⟨?_, ?_, ?_, ?_, ?_, ?_⟩
   ·first | omega | rfl | (intro hg; simp only [nrmT] at hg; omega) | (intro g1 g2; simp [g1, g2]; done) | (intro g1; simp at g1 ⊢; simp [g1]; done) | (simp only [nrmT] at *; omega) | (simp at * <;> omega) | (simp_all <;> omega) | (simp_all; done)
   ·first | omega | rfl | (intro hg; simp only [nrmT] at hg; omega) | (intro g1 g2; simp [g1, g2]; done) | (intro g1; simp at g1 ⊢; simp [g1]; done) | (simp only [nrmT] at *; omega) | (simp at * <;> omega) | (simp_all <;> omega) | (simp_all; done)
   ·first | omega | rfl | (intro hg; simp only [nrmT] at hg; omega) | (intro g1 g2; simp [g1, g2]; done) | (intro g1; simp at g1 ⊢; simp [g1]; done) | (simp only [nrmT] at *; omega) | (simp at * <;> omega) | (simp_all <;> omega) | (simp_all; done)
   ·have h4 := J7j hx i.toNat (by omega)
    have h5 := hx _ (getD_memI (d := 0) h1 (by omega))
    omega
   ·first | omega | rfl | (intro hg; simp only [nrmT] at hg; omega) | (intro g1 g2; simp [g1, g2]; done) | (intro g1; simp at g1 ⊢; simp [g1]; done) | (simp only [nrmT] at *; omega) | (simp at * <;> omega) | (simp_all <;> omega) | (simp_all; done)
   refine ⟨(m + (list.getD i.toNat 0)), (i + 1), ?_⟩
   refine ⟨?_, ?_, rfl, rfl, rfl, rfl⟩
   ·refine ⟨?_, ?_, ?_⟩
    ·first | omega | rfl | (intro hg; simp only [nrmT] at hg; omega) | (intro g1 g2; simp [g1, g2]; done) | (intro g1; simp at g1 ⊢; simp [g1]; done) | (simp only [nrmT] at *; omega) | (simp at * <;> omega) | (simp_all <;> omega) | (simp_all; done)
    ·first | omega | rfl | (intro hg; simp only [nrmT] at hg; omega) | (intro g1 g2; simp [g1, g2]; done) | (intro g1; simp at g1 ⊢; simp [g1]; done) | (simp only [nrmT] at *; omega) | (simp at * <;> omega) | (simp_all <;> omega) | (simp_all; done)
    ·rw [h3, show (i + 1).toNat = i.toNat + 1 by omega, J5V]
   first | (show _ < _; omega) | (simp only [J2d]; omega) | (simp only [J2d] at *; simp at *; omega)
  intro b2
  try simp only [nrmT] at b2
  rw [h3, show i.toNat = list.length by omega]
theorem J8l (list : ZI) (hx : ∀ x ∈ list, 0 ≤ x ∧ x ≤ 99) (hl : list.length ≤ 7) : PC Try.prog 219 [.sl (.ints list)] (.one (.d (.int .i64 (J27 list list.length)))) :=
  pc_wf @Try.call219 fun hw => pc_by (by kernel_rfl) Try.func219 @Try.call219 (by kernel_rfl) J8G (J8T list) (by kernel_rfl) (J8z list hx hl hw.1) (by kernel_rfl)
def J83 : List D → Orc := orcN [some .ints] fun ds => match ds with
  | [.sl (.ints list)] => some (.one (.d (.int .i64 (J27 list list.length))))
  | _ => none
def J3V (f : FuncId) (ds : List D) : Orc := bif Nat.beq f 210 then J3o ds else bif Nat.beq f 219 then J83 ds else .no
def J40 (U : ZI) (E : ZR) (set : ZI) : Ann := .none
def J2p (U : ZI) (E : ZR) (set : ZI) : Prop :=
  (PC Try.prog 210 [.agg [.sl (.ints U), .sl (.rows E)], .sl (.ints set)] (.one (.own 3 (.ints (JS E set E.length))))) ∧ ((JS E set E.length).length = (JS E set E.length).length) ∧ (PC Try.prog 219 [.sl (.ints (JS E set E.length))] (.one (.d (.int .i64 (J27 (JS E set E.length) (JS E set E.length).length))))) ∧ (((J27 (JS E set E.length) (JS E set E.length).length) = (Ji E set)))
theorem J3C (U : ZI) (E : ZR) (set : ZI) (ht : (J0 U E && Ja set 0 ((U.length : Int) - 1) && decide (0 < set.length)) = true) (w_Open : (U.length : Int) ≤ 9223372036854775807) (w_Dist : (E.length : Int) ≤ 9223372036854775807) (v_Dist : ∀ x9 ∈ E, (x9.length : Int) ≤ 9223372036854775807) (w_set : (set.length : Int) ≤ 9223372036854775807) : J2p U E set := by
  unfold J2p
  obtain ⟨hg, hs, hp⟩ := J1E ht
  obtain ⟨g1, g2, g3⟩ := JG hg
  refine ⟨?_, rfl, ?_, ?_⟩
  ·refine J3u U E set ?_
   ·exact ht
  ·refine J8l (JS E set E.length) ?_ ?_
   ·exact J8A ht
   ·rw [J3w]; exact g3
  rw [J3w]; rfl
theorem J0s (U : ZI) (E : ZR) (set : ZI) (ht : (J0 U E && Ja set 0 ((U.length : Int) - 1) && decide (0 < set.length)) = true) : PC Try.prog 153 [.agg [.sl (.ints U), .sl (.rows E)], .sl (.ints set)] (.one (.d (.int .i64 (Ji E set)))) :=
  pc_wf @Try.call153 fun hw => pc_by (by kernel_rfl) Try.func153 @Try.call153 (by kernel_rfl) J3V (J40 U E set) (by kernel_rfl) (J3C U E set ht hw.1.1 hw.1.2.1.1 hw.1.2.1.2 hw.2.1) (by kernel_rfl)
def J10 : List D → Orc := orcN [none, some .ints] fun ds => match ds with
  | [.agg [.sl (.ints U), .sl (.rows E)], .sl (.ints set)] => some (.one (.d (.int .i64 (Ji E set))))
  | _ => none
abbrev J0b (xss : ZR) (U : ZI) (E : ZR) (best : ZI) (i : Int) : Prop := (0 ≤ i) ∧ (i ≤ (xss.length : Int)) ∧ (best ∈ xss) ∧ (best = (xss.take i.toNat).foldl (lsB (Ji E)) (xss.getD 0 []))
abbrev Jy (xss : ZR) (U : ZI) (E : ZR) (best : ZI) (i : Int) : Nat := (xss.length - i).toNat
def J5F (f : FuncId) (ds : List D) : Orc := bif Nat.beq f 153 then J10 ds else .no
def J5M (xss : ZR) (U : ZI) (E : ZR) : Ann := .two (.none) (.two (.none) (.two (.two (.none) (.loop (cut2 (fun (best : ZI) (i : Int) => J0b xss U E best i) (fun (best : ZI) (i : Int) => [(1, .d false (.fn 153 1 [.agg [.sl (.ints U), .sl (.rows E)]])), (5, .d true (.sl (.ints best))), (11, .d true (.sl (.rows xss))), (12, .d true (.int .i64 (xss.length : Int))), (13, .d true (.int .i64 i))]) (fun (best : ZI) (i : Int) => [])) (fun g => Jy xss U E g.1 g.2) (fun _ => .none))) (.none)))
def J34 (xss : ZR) (U : ZI) (E : ZR) : Prop :=
  ((0 : Int) ≤ 0) ∧ ((0 : Int) < xss.length) ∧ (0 < xss.length) ∧ ((∃ best' : ZI, ∃ i' : Int, (J0b xss U E best' i') ∧ ((.fn 153 1 [.agg [.sl (.ints U), .sl (.rows E)]] : D) = (.fn 153 1 [.agg [.sl (.ints U), .sl (.rows E)]] : D)) ∧ ((xss.getD 0 []) = best') ∧ (xss = xss) ∧ ((xss.length : Int) = (xss.length : Int)) ∧ ((0 : Int) = i')) ∧ (∀ best : ZI, ∀ i : Int, (J0b xss U E best i) → (((decide (i < (xss.length : Int))) = true → ((0 : Int) ≤ i) ∧ ((i : Int) < xss.length) ∧ (i.toNat < xss.length) ∧ (PC Try.prog 153 [.agg [.sl (.ints U), .sl (.rows E)], .sl (.ints (xss.getD i.toNat []))] (.one (.d (.int .i64 (Ji E (xss.getD i.toNat [])))))) ∧ (PC Try.prog 153 [.agg [.sl (.ints U), .sl (.rows E)], .sl (.ints best)] (.one (.d (.int .i64 (Ji E best))))) ∧ (((decide ((Ji E (xss.getD i.toNat [])) < (Ji E best))) = true → (I6 (i + 1)) ∧ (∃ best' : ZI, ∃ i' : Int, (J0b xss U E best' i') ∧ (Jy xss U E best' i' < Jy xss U E best i) ∧ ((.fn 153 1 [.agg [.sl (.ints U), .sl (.rows E)]] : D) = (.fn 153 1 [.agg [.sl (.ints U), .sl (.rows E)]] : D)) ∧ ((xss.getD i.toNat []) = best') ∧ (xss = xss) ∧ ((xss.length : Int) = (xss.length : Int)) ∧ ((i + 1) = i'))) ∧ ((decide ((Ji E (xss.getD i.toNat [])) < (Ji E best))) = false → (I6 (i + 1)) ∧ (∃ best' : ZI, ∃ i' : Int, (J0b xss U E best' i') ∧ (Jy xss U E best' i' < Jy xss U E best i) ∧ ((.fn 153 1 [.agg [.sl (.ints U), .sl (.rows E)]] : D) = (.fn 153 1 [.agg [.sl (.ints U), .sl (.rows E)]] : D)) ∧ (best = best') ∧ (xss = xss) ∧ ((xss.length : Int) = (xss.length : Int)) ∧ ((i + 1) = i'))))) ∧ ((decide (i < (xss.length : Int))) = false → (((best : ZI) = (J2e (Ji E) xss)))))))
theorem J5k (xss : ZR) (U : ZI) (E : ZR) (hp : 0 < xss.length) (hx : ∀ s ∈ xss, J0 U E && Ja s 0 ((U.length : Int) - 1) && decide (0 < s.length)) (w_xss : (xss.length : Int) ≤ 9223372036854775807) (v_xss : ∀ x9 ∈ xss, (x9.length : Int) ≤ 9223372036854775807) (w_Open : (U.length : Int) ≤ 9223372036854775807) (w_Dist : (E.length : Int) ≤ 9223372036854775807) (v_Dist : ∀ x9 ∈ E, (x9.length : Int) ≤ 9223372036854775807) : J34 xss U E := by
  unfold J34
  refine ⟨?_, ?_, ?_, ?_, ?_⟩
  ·first | omega | rfl | (intro hg; simp only [nrmT] at hg; omega) | (intro g1 g2; simp [g1, g2]; done) | (intro g1; simp at g1 ⊢; simp [g1]; done) | (simp only [nrmT] at *; omega) | (simp at * <;> omega) | (simp_all <;> omega) | (simp_all; done)
  ·first | omega | rfl | (intro hg; simp only [nrmT] at hg; omega) | (intro g1 g2; simp [g1, g2]; done) | (intro g1; simp at g1 ⊢; simp [g1]; done) | (simp only [nrmT] at *; omega) | (simp at * <;> omega) | (simp_all <;> omega) | (simp_all; done)
  ·first | omega | rfl | (intro hg; simp only [nrmT] at hg; omega) | (intro g1 g2; simp [g1, g2]; done) | (intro g1; simp at g1 ⊢; simp [g1]; done) | (simp only [nrmT] at *; omega) | (simp at * <;> omega) | (simp_all <;> omega) | (simp_all; done)
  ·refine ⟨(xss.getD 0 []), 0, ?_⟩
   refine ⟨?_, rfl, rfl, rfl, rfl, rfl⟩
   ·refine ⟨?_, ?_, ?_, ?_⟩
    ·first | omega | rfl | (intro hg; simp only [nrmT] at hg; omega) | (intro g1 g2; simp [g1, g2]; done) | (intro g1; simp at g1 ⊢; simp [g1]; done) | (simp only [nrmT] at *; omega) | (simp at * <;> omega) | (simp_all <;> omega) | (simp_all; done)
    ·first | omega | rfl | (intro hg; simp only [nrmT] at hg; omega) | (intro g1 g2; simp [g1, g2]; done) | (intro g1; simp at g1 ⊢; simp [g1]; done) | (simp only [nrmT] at *; omega) | (simp at * <;> omega) | (simp_all <;> omega) | (simp_all; done)
    ·exact getD_mem hp
    ·rfl
  intro best i hJ
  obtain ⟨h1, h2, h3, h4⟩ := hJ
  refine ⟨?_, ?_⟩
  ·intro b1
   try simp only [nrmT] at b1
   refine ⟨?_, ?_, ?_, ?_, ?_, ?_, ?_⟩
   ·first | omega | rfl | (intro hg; simp only [nrmT] at hg; omega) | (intro g1 g2; simp [g1, g2]; done) | (intro g1; simp at g1 ⊢; simp [g1]; done) | (simp only [nrmT] at *; omega) | (simp at * <;> omega) | (simp_all <;> omega) | (simp_all; done)
   ·first | omega | rfl | (intro hg; simp only [nrmT] at hg; omega) | (intro g1 g2; simp [g1, g2]; done) | (intro g1; simp at g1 ⊢; simp [g1]; done) | (simp only [nrmT] at *; omega) | (simp at * <;> omega) | (simp_all <;> omega) | (simp_all; done)
   ·first | omega | rfl | (intro hg; simp only [nrmT] at hg; omega) | (intro g1 g2; simp [g1, g2]; done) | (intro g1; simp at g1 ⊢; simp [g1]; done) | (simp only [nrmT] at *; omega) | (simp at * <;> omega) | (simp_all <;> omega) | (simp_all; done)
   ·refine J0s U E (xss.getD i.toNat []) ?_
    ·exact hx _ (getD_memI h1 (by omega))
   ·refine J0s U E best ?_
    ·exact hx _ h3
   ·intro b2
    try simp only [nrmT] at b2
    refine ⟨?_, ?_⟩
    ·first | omega | rfl | (intro hg; simp only [nrmT] at hg; omega) | (intro g1 g2; simp [g1, g2]; done) | (intro g1; simp at g1 ⊢; simp [g1]; done) | (simp only [nrmT] at *; omega) | (simp at * <;> omega) | (simp_all <;> omega) | (simp_all; done)
    refine ⟨(xss.getD i.toNat []), (i + 1), ?_⟩
    refine ⟨?_, ?_, rfl, rfl, rfl, rfl, rfl⟩
    ·refine ⟨?_, ?_, ?_, ?_⟩
     ·first | omega | rfl | (intro hg; simp only [nrmT] at hg; omega) | (intro g1 g2; simp [g1, g2]; done) | (intro g1; simp at g1 ⊢; simp [g1]; done) | (simp only [nrmT] at *; omega) | (simp at * <;> omega) | (simp_all <;> omega) | (simp_all; done)
     ·first | omega | rfl | (intro hg; simp only [nrmT] at hg; omega) | (intro g1 g2; simp [g1, g2]; done) | (intro g1; simp at g1 ⊢; simp [g1]; done) | (simp only [nrmT] at *; omega) | (simp at * <;> omega) | (simp_all <;> omega) | (simp_all; done)
     ·exact getD_memI h1 (by omega)
     ·rw [J65 (d := []) h1 (by omega), ← h4]; unfold lsB; rw [if_pos b2]
    first | (show _ < _; omega) | (simp only [Jy]; omega) | (simp only [Jy] at *; simp at *; omega)
   intro b3
   try simp only [nrmT] at b3
   refine ⟨?_, ?_⟩
   ·first | omega | rfl | (intro hg; simp only [nrmT] at hg; omega) | (intro g1 g2; simp [g1, g2]; done) | (intro g1; simp at g1 ⊢; simp [g1]; done) | (simp only [nrmT] at *; omega) | (simp at * <;> omega) | (simp_all <;> omega) | (simp_all; done)
   refine ⟨best, (i + 1), ?_⟩
   refine ⟨?_, ?_, rfl, rfl, rfl, rfl, rfl⟩
   ·refine ⟨?_, ?_, ?_, ?_⟩
    ·first | omega | rfl | (intro hg; simp only [nrmT] at hg; omega) | (intro g1 g2; simp [g1, g2]; done) | (intro g1; simp at g1 ⊢; simp [g1]; done) | (simp only [nrmT] at *; omega) | (simp at * <;> omega) | (simp_all <;> omega) | (simp_all; done)
    ·first | omega | rfl | (intro hg; simp only [nrmT] at hg; omega) | (intro g1 g2; simp [g1, g2]; done) | (intro g1; simp at g1 ⊢; simp [g1]; done) | (simp only [nrmT] at *; omega) | (simp at * <;> omega) | (simp_all <;> omega) | (simp_all; done)
    ·exact h3
    ·rw [J65 (d := []) h1 (by omega), ← h4]; unfold lsB; (try dsimp only); rw [if_neg (by omega)]
   first | (show _ < _; omega) | (simp only [Jy]; omega) | (simp only [Jy] at *; simp at *; omega)
  intro b4
  try simp only [nrmT] at b4
  rw [h4, take_all (by omega)]; rfl
theorem J57 (xss : ZR) (U : ZI) (E : ZR) (hp : 0 < xss.length) (hx : ∀ s ∈ xss, J0 U E && Ja s 0 ((U.length : Int) - 1) && decide (0 < s.length)) : PCs Try.prog 172 [.sl (.rows xss), .fn 153 1 [.agg [.sl (.ints U), .sl (.rows E)]]] 0 (.sl (.ints (J2e (Ji E) xss))) :=
  pcs_wf @Try.call172 fun hw => pcs_by (by kernel_rfl) Try.func172 @Try.call172 (by kernel_rfl) J5F (J5M xss U E) (by kernel_rfl) (J5k xss U E hp hx hw.1.1 hw.1.2 hw.2.1.1.1 hw.2.1.1.2.1.1 hw.2.1.1.2.1.2) (by kernel_rfl)
def J4q : List D → Orc := orcS 0 fun ds => match ds with
  | [.sl (.rows xss), .fn f0 1 [.agg [.sl (.ints U), .sl (.rows E)]]] => some (.sl (.ints (J2e (Ji E) xss)))
  | _ => none
theorem J6h (x : ZI) (k : Int) : PB Try.prog 218 [.sl (.ints x), .bx [.int .i64 k] 0] (decide ((x.length : Int) ≠ k)) := by
  refine ⟨@Try.call218, fun w vs hall => ?_⟩
  obtain ⟨v1, v2, rfl⟩ : ∃ v1 v2, vs = [v1, v2] := by
    match vs, hall.1 with
    | [a, b], _ => exact ⟨a, b, rfl⟩
  obtain ⟨ad, cap, rfl⟩ := J7I (hall.2 0 v1 _ rfl rfl)
  obtain ⟨b, rfl, hc⟩ := J8s (hall.2 1 v2 _ rfl rfl)
  show Calls Try.prog 218 #[.slice ad x.length cap, .pointer (some b)] w _
  clear hall
  go_enter Try.func218, Try.ntmps218
  go_wp2
  all_goals (go_ret; exact ⟨by first | (simp_all; done) | (simp_all; rfl), 0, rfl⟩)
theorem J1D (xss : ZR) (k : Int) (hp : 0 < xss.length) : PU Try.prog 217 26 (.rows xss) (.rows (xss.filter (fun x9 => !(decide ((x9.length : Int) ≠ k))))) [.fn 218 0 [.bx [.int .i64 k] 0]] true :=
  pu_deleteFunc Try.layDelete Try.zeroValue26 26 xss (fun x9 => decide ((x9.length : Int) ≠ k)) 218 [.bx [.int .i64 k] 0] (fun x => J6h x k) hp
abbrev J0k (U : ZI) (E : ZR) (k : Int) (list2 : ZR) : Prop := (list2 = (JF (U.length : Int).toNat).filter (fun x9 => !(decide ((x9.length : Int) ≠ k))))
def J4L (f : FuncId) (ds : List D) : Orc := bif Nat.beq f 134 then J7M ds else bif Nat.beq f 172 then J4q ds else .no
def J4G (U : ZI) (E : ZR) (k : Int) : Ann := .two (.none) (.cut (.mark [] [(5, .up (.rows ((JF (U.length : Int).toNat).filter (fun x9 => !(decide ((x9.length : Int) ≠ k))))) true)]) (cut1 (fun (list2 : ZR) => J0k U E k list2) (fun (list2 : ZR) => [(2, .ptr 2 0), (5, .d true (.sl (.rows list2)))]) (fun (list2 : ZR) => [(2, .box 39 [.d false (.sl (.ints U)), .d false (.sl (.rows E))])])) (fun _ => .none))
def J2G (U : ZI) (E : ZR) (k : Int) : Prop :=
  (((PC Try.prog 134 [.int .i64 (U.length : Int)] (.one (.own 26 (.rows (JF (U.length : Int).toNat))))) ∧ ((JF (U.length : Int).toNat).length = (JF (U.length : Int).toNat).length) ∧ (PU Try.prog 217 26 (.rows (JF (U.length : Int).toNat)) (.rows ((JF (U.length : Int).toNat).filter (fun x9 => !(decide ((x9.length : Int) ≠ k))))) [.fn 218 0 [.bx [.int .i64 k] 0]] true) ∧ (∃ list2' : ZR, (J0k U E k list2') ∧ (((JF (U.length : Int).toNat).filter (fun x9 => !(decide ((x9.length : Int) ≠ k)))).length = ((JF (U.length : Int).toNat).filter (fun x9 => !(decide ((x9.length : Int) ≠ k)))).length) ∧ (((JF (U.length : Int).toNat).filter (fun x9 => !(decide ((x9.length : Int) ≠ k)))) = list2') ∧ (U = U) ∧ (E = E))) ∧ (∀ list2 : ZR, (J0k U E k list2) → (PCs Try.prog 172 [.sl (.rows list2), .fn 153 1 [.agg [.sl (.ints U), .sl (.rows E)]]] 0 (.sl (.ints (J2e (Ji E) list2)))) ∧ ((((J2e (Ji E) list2) : ZI) = (J0S U E k)))))
theorem J4b (U : ZI) (E : ZR) (k : Int) (hg : J0 U E = true) (hk : 1 ≤ k ∧ k ≤ (U.length : Int)) (w_Open : (U.length : Int) ≤ 9223372036854775807) (w_Dist : (E.length : Int) ≤ 9223372036854775807) (v_Dist : ∀ x9 ∈ E, (x9.length : Int) ≤ 9223372036854775807) : J2G U E k := by
  unfold J2G
  obtain ⟨g1, g2, g3⟩ := JG hg
  refine ⟨?_, ?_⟩
  ·refine ⟨?_, rfl, ?_, ?_⟩
   ·refine J86 (U.length : Int) ?_
    ·omega
   ·refine J1D (JF (U.length : Int).toNat) k ?_
    ·first | (rw [h8]; exact J3T hk) | exact J8m (by omega)
   ·refine ⟨((JF (U.length : Int).toNat).filter (fun x9 => !(decide ((x9.length : Int) ≠ k)))), ?_⟩
    refine ⟨?_, rfl, rfl, rfl, rfl⟩
    ·unfold J0k
     first | omega | rfl | (intro hg; simp only [nrmT] at hg; omega) | (intro g1 g2; simp [g1, g2]; done) | (intro g1; simp at g1 ⊢; simp [g1]; done) | (simp only [nrmT] at *; omega) | (simp at * <;> omega) | (simp_all <;> omega) | (simp_all; done)
  intro list2 hJ
  have h8 := hJ
  refine ⟨?_, ?_⟩
  ·refine J57 list2 U E ?_ ?_
   ·rw [h8]; exact J3T hk
   ·rw [h8]
    intro s hs
    exact (J5v hg (List.mem_filter.1 hs).1).1
  rw [h8]; rfl
theorem J3X (U : ZI) (E : ZR) (k : Int) (hg : J0 U E = true) (hk : 1 ≤ k ∧ k ≤ (U.length : Int)) : PC Try.prog 143 [.agg [.sl (.ints U), .sl (.rows E)], .int .i64 k] (.one (.d (.sl (.ints (J0S U E k))))) :=
  pc_wf @Try.call143 fun hw => pc_by (by kernel_rfl) Try.func143 @Try.call143 (by kernel_rfl) J4L (J4G U E k) (by kernel_rfl) (J4b U E k hg hk hw.1.1 hw.1.2.1.1 hw.1.2.1.2) (by kernel_rfl)
def J3H : List D → Orc := orcN [none, none] fun ds => match ds with
  | [.agg [.sl (.ints U), .sl (.rows E)], .int .i64 k] => some (.one (.d (.sl (.ints (J0S U E k)))))
  | _ => none
def J2F (U : ZI) (E : ZR) (k : Int) : Int := if (J0 U E && inB k 1 (U.length : Int)) = true then Ji E (J0S U E k) else 0
def J4R (f : FuncId) (ds : List D) : Orc := bif Nat.beq f 141 then J3F ds else bif Nat.beq f 143 then J3H ds else bif Nat.beq f 153 then J10 ds else .no
def J4Y (U : ZI) (E : ZR) (k : Int) : Ann := .none
def J2W (U : ZI) (E : ZR) (k : Int) : Prop :=
  (PC Try.prog 141 [.agg [.sl (.ints U), .sl (.rows E)], .int .i64 k] (.one (.d (.bool (J0 U E && inB k 1 (U.length : Int)))))) ∧ (((!(J0 U E && inB k 1 (U.length : Int))) = true → (((0 : Int) = (J2F U E k)) ∧ (false = (J0 U E && inB k 1 (U.length : Int))))) ∧ ((!(J0 U E && inB k 1 (U.length : Int))) = false → (true = true) ∧ (PC Try.prog 143 [.agg [.sl (.ints U), .sl (.rows E)], .int .i64 k] (.one (.d (.sl (.ints (J0S U E k)))))) ∧ (PC Try.prog 153 [.agg [.sl (.ints U), .sl (.rows E)], .sl (.ints (J0S U E k))] (.one (.d (.int .i64 (Ji E (J0S U E k)))))) ∧ (((Ji E (J0S U E k)) = (J2F U E k)) ∧ (true = (J0 U E && inB k 1 (U.length : Int))))))
theorem J4A (U : ZI) (E : ZR) (k : Int)  (w_Open : (U.length : Int) ≤ 9223372036854775807) (w_Dist : (E.length : Int) ≤ 9223372036854775807) (v_Dist : ∀ x9 ∈ E, (x9.length : Int) ≤ 9223372036854775807) : J2W U E k := by
  unfold J2W
  refine ⟨J3Z U E k, ?_, ?_⟩
  ·intro b1
   try simp only [Bool.not_eq_true', Bool.not_eq_false', Bool.not_not] at b1
   refine ⟨?_, ?_⟩
   ·have hgk : (J0 U E && inB k 1 (U.length : Int)) = false := by simpa using b1
    unfold J2F; rw [hgk]; rfl
   have hgk : (J0 U E && inB k 1 (U.length : Int)) = false := by simpa using b1
   exact hgk.symm
  intro b2
  try simp only [Bool.not_eq_true', Bool.not_eq_false', Bool.not_not] at b2
  refine ⟨rfl, ?_, ?_, ?_, ?_⟩
  ·refine J3X U E k ?_ ?_
   ·have hgk : (J0 U E && inB k 1 (U.length : Int)) = true := by simpa using b2
    obtain ⟨hg, hk⟩ := (Bool.and_eq_true _ _ ▸ hgk : _ ∧ _)
    have hk2 := JJ hk
    exact hg
   ·have hgk : (J0 U E && inB k 1 (U.length : Int)) = true := by simpa using b2
    obtain ⟨hg, hk⟩ := (Bool.and_eq_true _ _ ▸ hgk : _ ∧ _)
    have hk2 := JJ hk
    exact hk2
  ·refine J0s U E (J0S U E k) ?_
   ·have hgk : (J0 U E && inB k 1 (U.length : Int)) = true := by simpa using b2
    obtain ⟨hg, hk⟩ := (Bool.and_eq_true _ _ ▸ hgk : _ ∧ _)
    have hk2 := JJ hk
    exact (J5v hg (J7r hk2)).1
  ·have hgk : (J0 U E && inB k 1 (U.length : Int)) = true := by simpa using b2
   obtain ⟨hg, hk⟩ := (Bool.and_eq_true _ _ ▸ hgk : _ ∧ _)
   have hk2 := JJ hk
   unfold J2F; rw [if_pos hgk]
  have hgk : (J0 U E && inB k 1 (U.length : Int)) = true := by simpa using b2
  obtain ⟨hg, hk⟩ := (Bool.and_eq_true _ _ ▸ hgk : _ ∧ _)
  have hk2 := JJ hk
  exact hgk.symm
theorem J4r (U : ZI) (E : ZR) (k : Int)  : PC Try.prog 59 [.agg [.sl (.ints U), .sl (.rows E)], .int .i64 k] (.tup [.d (.int .i64 (J2F U E k)), .d (.bool (J0 U E && inB k 1 (U.length : Int)))]) :=
  pc_wf @Try.call59 fun hw => pc_by (by kernel_rfl) Try.func59 @Try.call59 (by kernel_rfl) J4R (J4Y U E k) (by kernel_rfl) (J4A U E k hw.1.1 hw.1.2.1.1 hw.1.2.1.2) (by kernel_rfl)
def J43 : List D → Orc := orcN [none, none] fun ds => match ds with
  | [.agg [.sl (.ints U), .sl (.rows E)], .int .i64 k] => some (.tup [.d (.int .i64 (J2F U E k)), .d (.bool (J0 U E && inB k 1 (U.length : Int)))])
  | _ => none
theorem J8j {U : ZI} {E : ZR} (hg : J0 U E = true) {k : Int} (hk : 1 ≤ k ∧ k ≤ (U.length : Int)) : (J0 U E && Ja (J0S U E k) 0 ((U.length : Int) - 1) && decide (0 < (J0S U E k).length)) = true := (J5v hg (J7r hk)).1
theorem J8e {v : ZI → Int} {l : ZR} : ∀ x ∈ l, v (J2e v l) ≤ v x := by
  have key : ∀ (r : ZR) (b : ZI), v (r.foldl (lsB v) b) ≤ v b ∧ ∀ x ∈ r, v (r.foldl (lsB v) b) ≤ v x := by
    intro r
    induction r with
    | nil => intro b; exact ⟨Int.le_refl _, fun x hx => by cases hx⟩
    | cons y r ih =>
      intro b
      obtain ⟨h1, h2⟩ := ih (lsB v b y)
      have h3 : v (lsB v b y) ≤ v b ∧ v (lsB v b y) ≤ v y := by
        unfold lsB
        split <;> omega
      refine ⟨Int.le_trans h1 h3.1, fun x hx => ?_⟩
      rcases List.mem_cons.1 hx with rfl | hx
      · exact Int.le_trans h1 h3.2
      exact h2 x hx
  exact fun x hx => (key l _).2 x hx
theorem J8r {U : ZI} {E : ZR} {k : Int} (hk : 1 ≤ k ∧ k ≤ (U.length : Int)) : ((J0S U E k).length : Int) = k := by
  have h := (List.mem_filter.1 (J5f (v := Ji E) (J3T hk))).2
  have h : (!(decide (((J0S U E k).length : Int) ≠ k))) = true := h
  simpa using h
def chs (n : Nat) : ZR := [[]] ++ JF n
theorem J8D {n : Nat} {s : ZI} : s ∈ chs n ↔ ∃ c, c < 2 ^ n ∧ lst n c = s := by
  unfold chs
  rw [List.mem_append, J3N]
  have h0 : lst n 0 = [] := by
    cases e : lst n 0 with
    | nil => rfl
    | cons x r =>
      have hm : x ∈ lst n 0 := by rw [e]; exact List.mem_cons_self
      have := (mem_members.1 hm).2.2
      rw [Nat.zero_testBit] at this
      cases this
  constructor
  · rintro (h | ⟨c, h1, h2, h3⟩)
    · exact ⟨0, Nat.two_pow_pos n, by rw [List.mem_singleton.1 h, h0]⟩
    · exact ⟨c, h2, h3⟩
  rintro ⟨c, h1, h2⟩
  by_cases e : c = 0
  · left; rw [← h2, e, h0]; exact List.mem_singleton.2 rfl
  exact .inr ⟨c, by omega, h1, h2⟩
/-- How far a cursor has read, and its seed. -/
structure Cur where
  pos : Int
  seed : Int
abbrev J3c : Cur := ⟨0, 0⟩
def okC (c : Cur) (b : Int) : Prop := 0 ≤ c.pos ∧ c.pos ≤ b ∧ 0 ≤ c.seed ∧ c.seed ≤ 18446744073709551615
theorem J6y (g : Bool) (a b : Cur) : cond g a.pos b.pos = (cond g a b).pos := by cases g <;> rfl
theorem J6t (g : Bool) (a b : Cur) : cond g a.seed b.seed = (cond g a b).seed := by cases g <;> rfl
def nxB (code : List Nat) (c : Cur) : Int := if c.pos < (code.length : Int) then ((code.getD c.pos.toNat 0 : Nat) : Int) else 0
def Je (code : List Nat) (c : Cur) : Cur := ⟨c.pos + 1, IntKind.u64.wrap (IntKind.u64.wrap (IntKind.u64.wrap (c.seed * 6364136223846793005) + nxB code c) + 462197)⟩
def JE (code : List Nat) (c : Cur) : Int := if c.pos + 1 ≤ (code.length : Int) then nxB code c else ((((Je code c).seed / 2 ^ 40).toNat &&& 255 : Nat) : Int)
theorem J4B (n : Int) : 0 ≤ IntKind.u64.wrap n ∧ IntKind.u64.wrap n ≤ 18446744073709551615 := by
  have h : IntKind.u64.wrap n = n % 18446744073709551616 := rfl
  omega
theorem J88 {code : List Nat} (hb : ∀ x9 ∈ code, x9 < 256) (c : Cur) (h0 : 0 ≤ c.pos) : 0 ≤ nxB code c ∧ nxB code c ≤ 255 := by
  unfold nxB
  split
  · have := hb _ (getD_mem (d := 0) (show c.pos.toNat < code.length by omega))
    omega
  omega
theorem J84 (n : Nat) : n &&& 255 ≤ 255 := Nat.and_le_right
theorem J19 {code : List Nat} (hb : ∀ x9 ∈ code, x9 < 256) {c : Cur} (h0 : 0 ≤ c.pos) : 0 ≤ JE code c ∧ JE code c ≤ 255 := by
  unfold JE
  split
  · exact J88 hb c h0
  have := J84 ((Je code c).seed / 2 ^ 40).toNat
  omega
theorem Jd {code : List Nat} {c : Cur} {b : Int} (h : okC c b) : okC (Je code c) (b + 1) := by
  obtain ⟨h1, h2, _, _⟩ := h
  exact ⟨by show 0 ≤ c.pos + 1; omega, by show c.pos + 1 ≤ b + 1; omega, (J4B _).1, (J4B _).2⟩
theorem Jf {c : Cur} {b b' : Int} (h : okC c b) (hb : b ≤ b') : okC c b' := ⟨h.1, Int.le_trans h.2.1 hb, h.2.2⟩
def J5J (f : FuncId) (ds : List D) : Orc := .no
def J5m (u : Value) (code : List Nat) (c : Cur) : Ann := .two (.none) (.two (.none) (.two (.none) (.two (.none) (.two (.reg [(5, .wrap), (8, .wrap), (9, .wrap)]) (.none)))))
def J28 (u : Value) (code : List Nat) (c : Cur) : Prop :=
  (true = true) ∧ (((decide (c.pos < (code.length : Int))) = true → (true = true) ∧ ((0 : Int) ≤ c.pos) ∧ ((c.pos : Int) < code.length) ∧ (c.pos.toNat < code.length) ∧ (I6 ((code.getD c.pos.toNat 0 : Nat) : Int)) ∧ (I6 (c.pos + 1)) ∧ (0 ≤ ((code.getD c.pos.toNat 0 : Nat) : Int) ∧ ((code.getD c.pos.toNat 0 : Nat) : Int) ≤ 18446744073709551615) ∧ (true = true) ∧ (((decide ((c.pos + 1) ≤ (code.length : Int))) = true → (((.lit u (.sl (.bytes code)) : D) = .lit u (.sl (.bytes code))) ∧ ((c.pos + 1) = (Je code c).pos) ∧ ((IntKind.u64.wrap ((IntKind.u64.wrap ((IntKind.u64.wrap (c.seed * 6364136223846793005)) + ((code.getD c.pos.toNat 0 : Nat) : Int))) + 462197)) = (Je code c).seed) ∧ (((code.getD c.pos.toNat 0 : Nat) : Int) = (JE code c)))) ∧ ((decide ((c.pos + 1) ≤ (code.length : Int))) = false → ((0 : Int) ≤ (IntKind.u64.wrap ((IntKind.u64.wrap ((IntKind.u64.wrap (c.seed * 6364136223846793005)) + ((code.getD c.pos.toNat 0 : Nat) : Int))) + 462197)) ∧ ((IntKind.u64.wrap ((IntKind.u64.wrap ((IntKind.u64.wrap (c.seed * 6364136223846793005)) + ((code.getD c.pos.toNat 0 : Nat) : Int))) + 462197)) : Int) ≤ 18446744073709551615) ∧ ((0 : Int) ≤ 40) ∧ ((0 : Int) ≤ ((IntKind.u64.wrap ((IntKind.u64.wrap ((IntKind.u64.wrap (c.seed * 6364136223846793005)) + ((code.getD c.pos.toNat 0 : Nat) : Int))) + 462197)) / 2 ^ 40) ∧ (((IntKind.u64.wrap ((IntKind.u64.wrap ((IntKind.u64.wrap (c.seed * 6364136223846793005)) + ((code.getD c.pos.toNat 0 : Nat) : Int))) + 462197)) / 2 ^ 40) : Int) ≤ 18446744073709551615) ∧ ((0 : Int) ≤ 255 ∧ (255 : Int) ≤ 18446744073709551615) ∧ (I6 ((((IntKind.u64.wrap ((IntKind.u64.wrap ((IntKind.u64.wrap (c.seed * 6364136223846793005)) + ((code.getD c.pos.toNat 0 : Nat) : Int))) + 462197)) / 2 ^ 40).toNat &&& 255 : Nat) : Int)) ∧ (((.lit u (.sl (.bytes code)) : D) = .lit u (.sl (.bytes code))) ∧ ((c.pos + 1) = (Je code c).pos) ∧ ((IntKind.u64.wrap ((IntKind.u64.wrap ((IntKind.u64.wrap (c.seed * 6364136223846793005)) + ((code.getD c.pos.toNat 0 : Nat) : Int))) + 462197)) = (Je code c).seed) ∧ (((((IntKind.u64.wrap ((IntKind.u64.wrap ((IntKind.u64.wrap (c.seed * 6364136223846793005)) + ((code.getD c.pos.toNat 0 : Nat) : Int))) + 462197)) / 2 ^ 40).toNat &&& 255 : Nat) : Int) = (JE code c)))))) ∧ ((decide (c.pos < (code.length : Int))) = false → (I6 (c.pos + 1)) ∧ (0 ≤ (0 : Int) ∧ (0 : Int) ≤ 18446744073709551615) ∧ (true = true) ∧ (((decide ((c.pos + 1) ≤ (code.length : Int))) = true → (((.lit u (.sl (.bytes code)) : D) = .lit u (.sl (.bytes code))) ∧ ((c.pos + 1) = (Je code c).pos) ∧ ((IntKind.u64.wrap ((IntKind.u64.wrap ((IntKind.u64.wrap (c.seed * 6364136223846793005)) + 0)) + 462197)) = (Je code c).seed) ∧ ((0 : Int) = (JE code c)))) ∧ ((decide ((c.pos + 1) ≤ (code.length : Int))) = false → ((0 : Int) ≤ (IntKind.u64.wrap ((IntKind.u64.wrap ((IntKind.u64.wrap (c.seed * 6364136223846793005)) + 0)) + 462197)) ∧ ((IntKind.u64.wrap ((IntKind.u64.wrap ((IntKind.u64.wrap (c.seed * 6364136223846793005)) + 0)) + 462197)) : Int) ≤ 18446744073709551615) ∧ ((0 : Int) ≤ 40) ∧ ((0 : Int) ≤ ((IntKind.u64.wrap ((IntKind.u64.wrap ((IntKind.u64.wrap (c.seed * 6364136223846793005)) + 0)) + 462197)) / 2 ^ 40) ∧ (((IntKind.u64.wrap ((IntKind.u64.wrap ((IntKind.u64.wrap (c.seed * 6364136223846793005)) + 0)) + 462197)) / 2 ^ 40) : Int) ≤ 18446744073709551615) ∧ ((0 : Int) ≤ 255 ∧ (255 : Int) ≤ 18446744073709551615) ∧ (I6 ((((IntKind.u64.wrap ((IntKind.u64.wrap ((IntKind.u64.wrap (c.seed * 6364136223846793005)) + 0)) + 462197)) / 2 ^ 40).toNat &&& 255 : Nat) : Int)) ∧ (((.lit u (.sl (.bytes code)) : D) = .lit u (.sl (.bytes code))) ∧ ((c.pos + 1) = (Je code c).pos) ∧ ((IntKind.u64.wrap ((IntKind.u64.wrap ((IntKind.u64.wrap (c.seed * 6364136223846793005)) + 0)) + 462197)) = (Je code c).seed) ∧ (((((IntKind.u64.wrap ((IntKind.u64.wrap ((IntKind.u64.wrap (c.seed * 6364136223846793005)) + 0)) + 462197)) / 2 ^ 40).toNat &&& 255 : Nat) : Int) = (JE code c)))))))
theorem J51 (u : Value) (code : List Nat) (c : Cur) (hb : ∀ x9 ∈ code, x9 < 256) (hc : okC c 1000000000000)  : J28 u code c := by
  unfold J28
  obtain ⟨c1, c2, c3, c4⟩ := hc
  have nb := J88 hb c c1
  have w64 := J4B
  refine ⟨rfl, ?_, ?_⟩
  ·intro b1
   try simp only [nrmT] at b1
   refine ⟨rfl, ?_, ?_, ?_, ?_, ?_, ?_, rfl, ?_, ?_⟩
   ·first | omega | rfl | (intro hg; simp only [nrmT] at hg; omega) | (intro g1 g2; simp [g1, g2]; done) | (intro g1; simp at g1 ⊢; simp [g1]; done) | (simp only [nrmT] at *; omega) | (simp at * <;> omega) | (simp_all <;> omega) | (simp_all; done)
   ·first | omega | rfl | (intro hg; simp only [nrmT] at hg; omega) | (intro g1 g2; simp [g1, g2]; done) | (intro g1; simp at g1 ⊢; simp [g1]; done) | (simp only [nrmT] at *; omega) | (simp at * <;> omega) | (simp_all <;> omega) | (simp_all; done)
   ·first | omega | rfl | (intro hg; simp only [nrmT] at hg; omega) | (intro g1 g2; simp [g1, g2]; done) | (intro g1; simp at g1 ⊢; simp [g1]; done) | (simp only [nrmT] at *; omega) | (simp at * <;> omega) | (simp_all <;> omega) | (simp_all; done)
   ·have := hb _ (getD_mem (d := 0) (show c.pos.toNat < code.length by omega))
    omega
   ·first | omega | rfl | (intro hg; simp only [nrmT] at hg; omega) | (intro g1 g2; simp [g1, g2]; done) | (intro g1; simp at g1 ⊢; simp [g1]; done) | (simp only [nrmT] at *; omega) | (simp at * <;> omega) | (simp_all <;> omega) | (simp_all; done)
   ·have := hb _ (getD_mem (d := 0) (show c.pos.toNat < code.length by omega))
    omega
   ·intro b2
    try simp only [nrmT] at b2
    refine ⟨rfl, ?_, ?_, ?_⟩
    ·first | omega | rfl | (intro hg; simp only [nrmT] at hg; omega) | (intro g1 g2; simp [g1, g2]; done) | (intro g1; simp at g1 ⊢; simp [g1]; done) | (simp only [nrmT] at *; omega) | (simp at * <;> omega) | (simp_all <;> omega) | (simp_all; done)
    ·have hs : (Je code c).seed = IntKind.u64.wrap (IntKind.u64.wrap (IntKind.u64.wrap (c.seed * 6364136223846793005) + nxB code c) + 462197) := rfl
     first | rw [show nxB code c = ((code.getD c.pos.toNat 0 : Nat) : Int) from if_pos (by omega)] at hs | rw [show nxB code c = 0 from if_neg (by omega)] at hs
     first | exact hs.symm | (exfalso; omega)
    unfold JE nxB; rw [if_pos (by omega), if_pos (by omega)]
   intro b3
   try simp only [nrmT] at b3
   refine ⟨?_, ?_, ?_, ?_, ?_, rfl, ?_, ?_, ?_⟩
   ·have := hb _ (getD_mem (d := 0) (show c.pos.toNat < code.length by omega))
    omega
   ·first | omega | rfl | (intro hg; simp only [nrmT] at hg; omega) | (intro g1 g2; simp [g1, g2]; done) | (intro g1; simp at g1 ⊢; simp [g1]; done) | (simp only [nrmT] at *; omega) | (simp at * <;> omega) | (simp_all <;> omega) | (simp_all; done)
   ·have := hb _ (getD_mem (d := 0) (show c.pos.toNat < code.length by omega))
    omega
   ·first | omega | rfl | (intro hg; simp only [nrmT] at hg; omega) | (intro g1 g2; simp [g1, g2]; done) | (intro g1; simp at g1 ⊢; simp [g1]; done) | (simp only [nrmT] at *; omega) | (simp at * <;> omega) | (simp_all <;> omega) | (simp_all; done)
   ·have := hb _ (getD_mem (d := 0) (show c.pos.toNat < code.length by omega))
    omega
   ·first | omega | rfl | (intro hg; simp only [nrmT] at hg; omega) | (intro g1 g2; simp [g1, g2]; done) | (intro g1; simp at g1 ⊢; simp [g1]; done) | (simp only [nrmT] at *; omega) | (simp at * <;> omega) | (simp_all <;> omega) | (simp_all; done)
   ·have hs : (Je code c).seed = IntKind.u64.wrap (IntKind.u64.wrap (IntKind.u64.wrap (c.seed * 6364136223846793005) + nxB code c) + 462197) := rfl
    first | rw [show nxB code c = ((code.getD c.pos.toNat 0 : Nat) : Int) from if_pos (by omega)] at hs | rw [show nxB code c = 0 from if_neg (by omega)] at hs
    first | exact hs.symm | (exfalso; omega)
   have hs : (Je code c).seed = IntKind.u64.wrap (IntKind.u64.wrap (IntKind.u64.wrap (c.seed * 6364136223846793005) + nxB code c) + 462197) := rfl
   first | rw [show nxB code c = ((code.getD c.pos.toNat 0 : Nat) : Int) from if_pos (by omega)] at hs | rw [show nxB code c = 0 from if_neg (by omega)] at hs
   unfold JE
   rw [if_neg (by omega), hs]
  intro b4
  try simp only [nrmT] at b4
  refine ⟨?_, ?_, rfl, ?_, ?_⟩
  ·first | omega | rfl | (intro hg; simp only [nrmT] at hg; omega) | (intro g1 g2; simp [g1, g2]; done) | (intro g1; simp at g1 ⊢; simp [g1]; done) | (simp only [nrmT] at *; omega) | (simp at * <;> omega) | (simp_all <;> omega) | (simp_all; done)
  ·first | omega | rfl | (intro hg; simp only [nrmT] at hg; omega) | (intro g1 g2; simp [g1, g2]; done) | (intro g1; simp at g1 ⊢; simp [g1]; done) | (simp only [nrmT] at *; omega) | (simp at * <;> omega) | (simp_all <;> omega) | (simp_all; done)
  ·intro b5
   try simp only [nrmT] at b5
   refine ⟨rfl, ?_, ?_, ?_⟩
   ·first | omega | rfl | (intro hg; simp only [nrmT] at hg; omega) | (intro g1 g2; simp [g1, g2]; done) | (intro g1; simp at g1 ⊢; simp [g1]; done) | (simp only [nrmT] at *; omega) | (simp at * <;> omega) | (simp_all <;> omega) | (simp_all; done)
   ·have hs : (Je code c).seed = IntKind.u64.wrap (IntKind.u64.wrap (IntKind.u64.wrap (c.seed * 6364136223846793005) + nxB code c) + 462197) := rfl
    first | rw [show nxB code c = ((code.getD c.pos.toNat 0 : Nat) : Int) from if_pos (by omega)] at hs | rw [show nxB code c = 0 from if_neg (by omega)] at hs
    first | exact hs.symm | (exfalso; omega)
   first | omega | rfl | (intro hg; simp only [nrmT] at hg; omega) | (intro g1 g2; simp [g1, g2]; done) | (intro g1; simp at g1 ⊢; simp [g1]; done) | (simp only [nrmT] at *; omega) | (simp at * <;> omega) | (simp_all <;> omega) | (simp_all; done)
  intro b6
  try simp only [nrmT] at b6
  refine ⟨?_, ?_, ?_, ?_, ?_, rfl, ?_, ?_, ?_⟩
  ·exact w64 _
  ·first | omega | rfl | (intro hg; simp only [nrmT] at hg; omega) | (intro g1 g2; simp [g1, g2]; done) | (intro g1; simp at g1 ⊢; simp [g1]; done) | (simp only [nrmT] at *; omega) | (simp at * <;> omega) | (simp_all <;> omega) | (simp_all; done)
  ·have := w64 (IntKind.u64.wrap (IntKind.u64.wrap (c.seed * 6364136223846793005) + 0) + 462197)
   generalize IntKind.u64.wrap (IntKind.u64.wrap (IntKind.u64.wrap (c.seed * 6364136223846793005) + 0) + 462197) = z at *
   omega
  ·first | omega | rfl | (intro hg; simp only [nrmT] at hg; omega) | (intro g1 g2; simp [g1, g2]; done) | (intro g1; simp at g1 ⊢; simp [g1]; done) | (simp only [nrmT] at *; omega) | (simp at * <;> omega) | (simp_all <;> omega) | (simp_all; done)
  ·have := J84 ((IntKind.u64.wrap (IntKind.u64.wrap (IntKind.u64.wrap (c.seed * 6364136223846793005) + 0) + 462197)) / 2 ^ 40).toNat
   omega
  ·first | omega | rfl | (intro hg; simp only [nrmT] at hg; omega) | (intro g1 g2; simp [g1, g2]; done) | (intro g1; simp at g1 ⊢; simp [g1]; done) | (simp only [nrmT] at *; omega) | (simp at * <;> omega) | (simp_all <;> omega) | (simp_all; done)
  ·have hs : (Je code c).seed = IntKind.u64.wrap (IntKind.u64.wrap (IntKind.u64.wrap (c.seed * 6364136223846793005) + nxB code c) + 462197) := rfl
   first | rw [show nxB code c = ((code.getD c.pos.toNat 0 : Nat) : Int) from if_pos (by omega)] at hs | rw [show nxB code c = 0 from if_neg (by omega)] at hs
   first | exact hs.symm | (exfalso; omega)
  have hs : (Je code c).seed = IntKind.u64.wrap (IntKind.u64.wrap (IntKind.u64.wrap (c.seed * 6364136223846793005) + nxB code c) + 462197) := rfl
  first | rw [show nxB code c = ((code.getD c.pos.toNat 0 : Nat) : Int) from if_pos (by omega)] at hs | rw [show nxB code c = 0 from if_neg (by omega)] at hs
  unfold JE
  rw [if_neg (by omega), hs]
theorem J2S (code : List Nat) (c : Cur) (hb : ∀ x9 ∈ code, x9 < 256) (hc : okC c 1000000000000) : PK Try.prog 195 98 (.sl (.bytes code)) [.int .i64 c.pos, .int .u64 c.seed] [.int .i64 (Je code c).pos, .int .u64 (Je code c).seed] [] (.one (.d (.int .i64 (JE code c)))) :=
  pk_by (Q := fun u => J28 u code c) (by kernel_rfl) Try.func195 @Try.call195 (by kernel_rfl) J5J (fun u => J5m u code c) (by kernel_rfl) (fun u => J51 u code c hb hc) (fun u => by kernel_rfl)
def J1 (code : List Nat) (c : Cur) (n : Int) : Cur := if n ≤ 1 then c else if n > 200 then Je code (Je code c) else Je code c
def J6 (code : List Nat) (c : Cur) (n : Int) : Int := if n ≤ 1 then 0 else (if n > 200 then JE code c * 256 + JE code (Je code c) else JE code c) % n
theorem Jh {code : List Nat} {c : Cur} {n b : Int} (h : okC c b) : okC (J1 code c n) (b + 2) := by
  unfold J1
  split
  · exact Jf h (by omega)
  split
  · have := Jd (code := code) (Jd (code := code) h)
    exact Jf this (by omega)
  · exact Jf (Jd h) (by omega)
theorem J04 (code : List Nat) (c : Cur) {n : Int} (hn : 1 ≤ n) : 0 ≤ J6 code c n ∧ J6 code c n < n := by
  unfold J6
  split
  · omega
  exact ⟨Int.emod_nonneg _ (by omega), Int.emod_lt_of_pos _ (by omega)⟩
theorem J4z (code : List Nat) (c : Cur) (n : Int) : 0 ≤ J6 code c n := by
  by_cases h : 1 ≤ n
  · exact (J04 code c h).1
  unfold J6; rw [if_pos (by omega)]; omega
def J5s (f : FuncId) (ds : List D) : Orc := .no
def J5L (u : Value) (code : List Nat) (c : Cur) (n : Int) : Ann := .two (.none) (.two (.none) (.two (.mark [] [(1, .cell [.int .i64 ((Je code c).pos), .int .u64 ((Je code c).seed)] (.one (.d (.int .i64 (JE code c)))))]) (.two (.two (.none) (.two (.mark [] [(3, .cell [.int .i64 ((Je code (Je code c)).pos), .int .u64 ((Je code (Je code c)).seed)] (.one (.d (.int .i64 (JE code (Je code c))))))]) (.none))) (.none))))
def J24 (u : Value) (code : List Nat) (c : Cur) (n : Int) : Prop :=
  (((decide (n ≤ 1)) = true → (((.lit u (.sl (.bytes code)) : D) = .lit u (.sl (.bytes code))) ∧ (c.pos = (J1 code c n).pos) ∧ (c.seed = (J1 code c n).seed) ∧ ((0 : Int) = (J6 code c n)))) ∧ ((decide (n ≤ 1)) = false → (PK Try.prog 195 98 (.sl (.bytes code)) [.int .i64 c.pos, .int .u64 c.seed] [.int .i64 ((Je code c).pos), .int .u64 ((Je code c).seed)] [] (.one (.d (.int .i64 (JE code c))))) ∧ (((decide (n > 200)) = true → (I6 ((JE code c) * 256)) ∧ (PK Try.prog 195 98 (.sl (.bytes code)) [.int .i64 ((Je code c).pos), .int .u64 ((Je code c).seed)] [.int .i64 ((Je code (Je code c)).pos), .int .u64 ((Je code (Je code c)).seed)] [] (.one (.d (.int .i64 (JE code (Je code c)))))) ∧ (I6 (((JE code c) * 256) + (JE code (Je code c)))) ∧ ((0 : Int) ≤ (((JE code c) * 256) + (JE code (Je code c)))) ∧ ((1 : Int) ≤ n) ∧ (((.lit u (.sl (.bytes code)) : D) = .lit u (.sl (.bytes code))) ∧ ((Je code (Je code c)).pos = (J1 code c n).pos) ∧ ((Je code (Je code c)).seed = (J1 code c n).seed) ∧ (((((JE code c) * 256) + (JE code (Je code c))) % n) = (J6 code c n)))) ∧ ((decide (n > 200)) = false → ((0 : Int) ≤ (JE code c)) ∧ ((1 : Int) ≤ n) ∧ (((.lit u (.sl (.bytes code)) : D) = .lit u (.sl (.bytes code))) ∧ ((Je code c).pos = (J1 code c n).pos) ∧ ((Je code c).seed = (J1 code c n).seed) ∧ (((JE code c) % n) = (J6 code c n)))))))
theorem J5h (u : Value) (code : List Nat) (c : Cur) (n : Int) (hb : ∀ x9 ∈ code, x9 < 256) (hc : okC c 900000000000)  : J24 u code c n := by
  unfold J24
  refine ⟨?_, ?_⟩
  ·intro b1
   try simp only [nrmT] at b1
   refine ⟨rfl, ?_, ?_, ?_⟩
   ·unfold J1; first | rw [if_pos (by omega)] | rw [if_neg (by omega), if_pos (by omega)] | rw [if_neg (by omega), if_neg (by omega)]
   ·unfold J1; first | rw [if_pos (by omega)] | rw [if_neg (by omega), if_pos (by omega)] | rw [if_neg (by omega), if_neg (by omega)]
   unfold J6; first | rw [if_pos (by omega)] | rw [if_neg (by omega), if_pos (by omega)] | rw [if_neg (by omega), if_neg (by omega)]
  intro b2
  try simp only [nrmT] at b2
  refine ⟨?_, ?_, ?_⟩
  ·refine J2S code c ?_ ?_
   ·exact hb
   ·exact Jf (by repeat (first | assumption | apply Jh | apply Jd)) (by omega)
  ·intro b3
   try simp only [nrmT] at b3
   refine ⟨?_, ?_, ?_, ?_, ?_, rfl, ?_, ?_, ?_⟩
   ·have q0 := J19 hb (c := c) hc.1
    have q1 := J19 hb (c := Je code c) (Jd hc).1
    omega
   ·refine J2S code (Je code c) ?_ ?_
    ·exact hb
    ·exact Jf (by repeat (first | assumption | apply Jh | apply Jd)) (by omega)
   ·have q0 := J19 hb (c := c) hc.1
    have q1 := J19 hb (c := Je code c) (Jd hc).1
    omega
   ·have q0 := J19 hb (c := c) hc.1
    have q1 := J19 hb (c := Je code c) (Jd hc).1
    omega
   ·first | omega | rfl | (intro hg; simp only [nrmT] at hg; omega) | (intro g1 g2; simp [g1, g2]; done) | (intro g1; simp at g1 ⊢; simp [g1]; done) | (simp only [nrmT] at *; omega) | (simp at * <;> omega) | (simp_all <;> omega) | (simp_all; done)
   ·unfold J1; first | rw [if_pos (by omega)] | rw [if_neg (by omega), if_pos (by omega)] | rw [if_neg (by omega), if_neg (by omega)]
   ·unfold J1; first | rw [if_pos (by omega)] | rw [if_neg (by omega), if_pos (by omega)] | rw [if_neg (by omega), if_neg (by omega)]
   unfold J6; first | rw [if_pos (by omega)] | rw [if_neg (by omega), if_pos (by omega)] | rw [if_neg (by omega), if_neg (by omega)]
  intro b4
  try simp only [nrmT] at b4
  refine ⟨?_, ?_, rfl, ?_, ?_, ?_⟩
  ·have q0 := J19 hb (c := c) hc.1
   have q1 := J19 hb (c := Je code c) (Jd hc).1
   omega
  ·first | omega | rfl | (intro hg; simp only [nrmT] at hg; omega) | (intro g1 g2; simp [g1, g2]; done) | (intro g1; simp at g1 ⊢; simp [g1]; done) | (simp only [nrmT] at *; omega) | (simp at * <;> omega) | (simp_all <;> omega) | (simp_all; done)
  ·unfold J1; first | rw [if_pos (by omega)] | rw [if_neg (by omega), if_pos (by omega)] | rw [if_neg (by omega), if_neg (by omega)]
  ·unfold J1; first | rw [if_pos (by omega)] | rw [if_neg (by omega), if_pos (by omega)] | rw [if_neg (by omega), if_neg (by omega)]
  unfold J6; first | rw [if_pos (by omega)] | rw [if_neg (by omega), if_pos (by omega)] | rw [if_neg (by omega), if_neg (by omega)]
theorem JQ (code : List Nat) (c : Cur) (n : Int) (hb : ∀ x9 ∈ code, x9 < 256) (hc : okC c 900000000000) : PK Try.prog 107 98 (.sl (.bytes code)) [.int .i64 c.pos, .int .u64 c.seed] [.int .i64 (J1 code c n).pos, .int .u64 (J1 code c n).seed] [.int .i64 n] (.one (.d (.int .i64 (J6 code c n)))) :=
  pk_by (Q := fun u => J24 u code c n) (by kernel_rfl) Try.func107 @Try.call107 (by kernel_rfl) J5s (fun u => J5L u code c n) (by kernel_rfl) (fun u => J5h u code c n hb hc) (fun u => by kernel_rfl)
def J4Q (f : FuncId) (ds : List D) : Orc := .no
def J4V (u : Value) (code : List Nat) (c : Cur) (list : ZI) : Ann := .two (.none) (.two (.mark [] [(4, .cell [.int .i64 ((J1 code c (list.length : Int)).pos), .int .u64 ((J1 code c (list.length : Int)).seed)] (.one (.d (.int .i64 (J6 code c (list.length : Int))))))]) (.none))
def J1Q (u : Value) (code : List Nat) (c : Cur) (list : ZI) : Prop :=
  (PK Try.prog 107 98 (.sl (.bytes code)) [.int .i64 c.pos, .int .u64 c.seed] [.int .i64 ((J1 code c (list.length : Int)).pos), .int .u64 ((J1 code c (list.length : Int)).seed)] [.int .i64 (list.length : Int)] (.one (.d (.int .i64 (J6 code c (list.length : Int)))))) ∧ ((0 : Int) ≤ (J6 code c (list.length : Int))) ∧ (((J6 code c (list.length : Int)) : Int) < list.length) ∧ ((J6 code c (list.length : Int)).toNat < list.length) ∧ (((.lit u (.sl (.bytes code)) : D) = .lit u (.sl (.bytes code))) ∧ ((J1 code c (list.length : Int)).pos = (J1 code c (list.length : Int)).pos) ∧ ((J1 code c (list.length : Int)).seed = (J1 code c (list.length : Int)).seed) ∧ ((list.getD ((J6 code c (list.length : Int)).toNat) 0) = (list.getD (J6 code c (list.length : Int)).toNat 0)))
theorem J4O (u : Value) (code : List Nat) (c : Cur) (list : ZI) (hb : ∀ x9 ∈ code, x9 < 256) (hc : okC c 800000000000) (hl : 0 < list.length)  : J1Q u code c list := by
  unfold J1Q
  refine ⟨?_, ?_, ?_, ?_, rfl, rfl, rfl, ?_⟩
  ·refine JQ code c (list.length : Int) ?_ ?_
   ·exact hb
   ·exact Jf (by repeat (first | assumption | apply Jh | apply Jd)) (by omega)
  ·have := J04 code c (n := (list.length : Int)) (by omega)
   omega
  ·have := J04 code c (n := (list.length : Int)) (by omega)
   omega
  ·have := J04 code c (n := (list.length : Int)) (by omega)
   omega
  have := J04 code c (n := (list.length : Int)) (by omega)
  omega
theorem JU (code : List Nat) (c : Cur) (list : ZI) (hb : ∀ x9 ∈ code, x9 < 256) (hc : okC c 800000000000) (hl : 0 < list.length) : PK Try.prog 106 98 (.sl (.bytes code)) [.int .i64 c.pos, .int .u64 c.seed] [.int .i64 (J1 code c (list.length : Int)).pos, .int .u64 (J1 code c (list.length : Int)).seed] [.sl (.ints list)] (.one (.d (.int .i64 (list.getD (J6 code c (list.length : Int)).toNat 0)))) :=
  pk_by (Q := fun u => J1Q u code c list) (by kernel_rfl) Try.func106 @Try.call106 (by kernel_rfl) J4Q (fun u => J4V u code c list) (by kernel_rfl) (fun u => J4O u code c list hb hc hl) (fun u => by kernel_rfl)
def J6b (f : FuncId) (ds : List D) : Orc := .no
def J6s (u : Value) (code : List Nat) (c : Cur) (n : Int) : Ann := .two (.none) (.two (.mark [] [(2, .cell [.int .i64 ((J1 code c n).pos), .int .u64 ((J1 code c n).seed)] (.one (.d (.int .i64 (J6 code c n)))))]) (.none))
def J2l (u : Value) (code : List Nat) (c : Cur) (n : Int) : Prop :=
  (PK Try.prog 107 98 (.sl (.bytes code)) [.int .i64 c.pos, .int .u64 c.seed] [.int .i64 ((J1 code c n).pos), .int .u64 ((J1 code c n).seed)] [.int .i64 n] (.one (.d (.int .i64 (J6 code c n))))) ∧ (((.lit u (.sl (.bytes code)) : D) = .lit u (.sl (.bytes code))) ∧ ((J1 code c n).pos = (J1 code c n).pos) ∧ ((J1 code c n).seed = (J1 code c n).seed) ∧ (((J6 code c n) == 0) = (J6 code c n == 0)))
theorem J5A (u : Value) (code : List Nat) (c : Cur) (n : Int) (hb : ∀ x9 ∈ code, x9 < 256) (hc : okC c 800000000000)  : J2l u code c n := by
  unfold J2l
  refine ⟨?_, rfl, rfl, rfl, ?_⟩
  ·refine JQ code c n ?_ ?_
   ·exact hb
   ·exact Jf (by repeat (first | assumption | apply Jh | apply Jd)) (by omega)
  first | omega | rfl | (intro hg; simp only [nrmT] at hg; omega) | (intro g1 g2; simp [g1, g2]; done) | (intro g1; simp at g1 ⊢; simp [g1]; done) | (simp only [nrmT] at *; omega) | (simp at * <;> omega) | (simp_all <;> omega) | (simp_all; done)
theorem J2Z (code : List Nat) (c : Cur) (n : Int) (hb : ∀ x9 ∈ code, x9 < 256) (hc : okC c 800000000000) : PK Try.prog 108 98 (.sl (.bytes code)) [.int .i64 c.pos, .int .u64 c.seed] [.int .i64 (J1 code c n).pos, .int .u64 (J1 code c n).seed] [.int .i64 n] (.one (.d (.bool (J6 code c n == 0)))) :=
  pk_by (Q := fun u => J2l u code c n) (by kernel_rfl) Try.func108 @Try.call108 (by kernel_rfl) J6b (fun u => J6s u code c n) (by kernel_rfl) (fun u => J5A u code c n hb hc) (fun u => by kernel_rfl)
theorem JM : okC J3c 0 := by unfold okC; decide
def J8q (f : FuncId) (ds : List D) : Orc := .no
def J8n (code : List Nat) : Ann := .none
def J6U (code : List Nat) : Prop :=
  (((decide ((code.length : Int) > 65536)) = (decide ((code.length : Int) > 65536))))
theorem J89 (code : List Nat)  (w_code : (code.length : Int) ≤ 9223372036854775807) : J6U code := by
  unfold J6U
  exact rfl
theorem J7R (code : List Nat)  : PC Try.prog 14 [.sl (.bytes code)] (.one (.d (.bool (decide ((code.length : Int) > 65536))))) :=
  pc_wf @Try.call14 fun hw => pc_by (by kernel_rfl) Try.func14 @Try.call14 (by kernel_rfl) J8q (J8n code) (by kernel_rfl) (J89 code hw.1) (by kernel_rfl)
def J7P : List D → Orc := orcN [some .bytes] fun ds => match ds with
  | [.sl (.bytes code)] => some (.one (.d (.bool (decide ((code.length : Int) > 65536)))))
  | _ => none
abbrev J29 (xs : ZI) (ys : ZI) (i : Int) : Prop := (0 ≤ i) ∧ (i ≤ (xs.length : Int)) ∧ (allTo (fun k => xs.getD k 0 == ys.getD k 0) i.toNat = true) ∧ (xs.length = ys.length)
abbrev J1t (xs : ZI) (ys : ZI) (i : Int) : Nat := (xs.length - i).toNat
def J7U (f : FuncId) (ds : List D) : Orc := .no
def J7V (xs : ZI) (ys : ZI) : Ann := .two (.none) (.two (.none) (.two (.two (.none) (.loop (cut1 (fun (i : Int) => J29 xs ys i) (fun (i : Int) => [(0, .d false (.sl (.ints xs))), (1, .d false (.sl (.ints ys))), (5, .d true (.int .i64 i))]) (fun (i : Int) => [])) (fun g => J1t xs ys g) (fun _ => .none))) (.none)))
def J60 (xs : ZI) (ys : ZI) : Prop :=
  ((((xs.length : Int) != (ys.length : Int)) = true → ((false = (xs == ys)))) ∧ (((xs.length : Int) != (ys.length : Int)) = false → ((∃ i' : Int, (J29 xs ys i') ∧ (xs = xs) ∧ (ys = ys) ∧ ((0 : Int) = i')) ∧ (∀ i : Int, (J29 xs ys i) → (((decide (i < (xs.length : Int))) = true → (true = true) ∧ ((0 : Int) ≤ i) ∧ ((i : Int) < xs.length) ∧ (i.toNat < xs.length) ∧ ((0 : Int) ≤ i) ∧ ((i : Int) < ys.length) ∧ (i.toNat < ys.length) ∧ ((((xs.getD i.toNat 0) != (ys.getD i.toNat 0)) = true → ((false = (xs == ys)))) ∧ (((xs.getD i.toNat 0) != (ys.getD i.toNat 0)) = false → (I6 (i + 1)) ∧ (∃ i' : Int, (J29 xs ys i') ∧ (J1t xs ys i' < J1t xs ys i) ∧ (xs = xs) ∧ (ys = ys) ∧ ((i + 1) = i'))))) ∧ ((decide (i < (xs.length : Int))) = false → ((true = (xs == ys)))))))))
theorem J7E (xs : ZI) (ys : ZI)  (w_xs : (xs.length : Int) ≤ 9223372036854775807) (w_ys : (ys.length : Int) ≤ 9223372036854775807) : J60 xs ys := by
  unfold J60
  refine ⟨?_, ?_⟩
  ·intro b1
   try simp only [nrmT] at b1
   exact (J87 (by omega)).symm
  intro b2
  try simp only [nrmT] at b2
  refine ⟨?_, ?_⟩
  ·refine ⟨0, ?_⟩
   refine ⟨?_, rfl, rfl, rfl⟩
   ·refine ⟨?_, ?_, ?_, ?_⟩
    ·first | omega | rfl | (intro hg; simp only [nrmT] at hg; omega) | (intro g1 g2; simp [g1, g2]; done) | (intro g1; simp at g1 ⊢; simp [g1]; done) | (simp only [nrmT] at *; omega) | (simp at * <;> omega) | (simp_all <;> omega) | (simp_all; done)
    ·first | omega | rfl | (intro hg; simp only [nrmT] at hg; omega) | (intro g1 g2; simp [g1, g2]; done) | (intro g1; simp at g1 ⊢; simp [g1]; done) | (simp only [nrmT] at *; omega) | (simp at * <;> omega) | (simp_all <;> omega) | (simp_all; done)
    ·first | omega | rfl | (intro hg; simp only [nrmT] at hg; omega) | (intro g1 g2; simp [g1, g2]; done) | (intro g1; simp at g1 ⊢; simp [g1]; done) | (simp only [nrmT] at *; omega) | (simp at * <;> omega) | (simp_all <;> omega) | (simp_all; done)
    ·first | omega | rfl | (intro hg; simp only [nrmT] at hg; omega) | (intro g1 g2; simp [g1, g2]; done) | (intro g1; simp at g1 ⊢; simp [g1]; done) | (simp only [nrmT] at *; omega) | (simp at * <;> omega) | (simp_all <;> omega) | (simp_all; done)
  intro i hJ
  obtain ⟨h1, h2, h3, h4⟩ := hJ
  refine ⟨?_, ?_⟩
  ·intro b3
   try simp only [nrmT] at b3
   refine ⟨rfl, ?_, ?_, ?_, ?_, ?_, ?_, ?_, ?_⟩
   ·first | omega | rfl | (intro hg; simp only [nrmT] at hg; omega) | (intro g1 g2; simp [g1, g2]; done) | (intro g1; simp at g1 ⊢; simp [g1]; done) | (simp only [nrmT] at *; omega) | (simp at * <;> omega) | (simp_all <;> omega) | (simp_all; done)
   ·first | omega | rfl | (intro hg; simp only [nrmT] at hg; omega) | (intro g1 g2; simp [g1, g2]; done) | (intro g1; simp at g1 ⊢; simp [g1]; done) | (simp only [nrmT] at *; omega) | (simp at * <;> omega) | (simp_all <;> omega) | (simp_all; done)
   ·first | omega | rfl | (intro hg; simp only [nrmT] at hg; omega) | (intro g1 g2; simp [g1, g2]; done) | (intro g1; simp at g1 ⊢; simp [g1]; done) | (simp only [nrmT] at *; omega) | (simp at * <;> omega) | (simp_all <;> omega) | (simp_all; done)
   ·first | omega | rfl | (intro hg; simp only [nrmT] at hg; omega) | (intro g1 g2; simp [g1, g2]; done) | (intro g1; simp at g1 ⊢; simp [g1]; done) | (simp only [nrmT] at *; omega) | (simp at * <;> omega) | (simp_all <;> omega) | (simp_all; done)
   ·first | omega | rfl | (intro hg; simp only [nrmT] at hg; omega) | (intro g1 g2; simp [g1, g2]; done) | (intro g1; simp at g1 ⊢; simp [g1]; done) | (simp only [nrmT] at *; omega) | (simp at * <;> omega) | (simp_all <;> omega) | (simp_all; done)
   ·first | omega | rfl | (intro hg; simp only [nrmT] at hg; omega) | (intro g1 g2; simp [g1, g2]; done) | (intro g1; simp at g1 ⊢; simp [g1]; done) | (simp only [nrmT] at *; omega) | (simp at * <;> omega) | (simp_all <;> omega) | (simp_all; done)
   ·intro b4
    try simp only [nrmT] at b4
    rw [← J2s (d := 0) h4]; exact (allTo_falseI h1 (by omega) (by simpa using b4)).symm
   intro b5
   try simp only [nrmT] at b5
   refine ⟨?_, ?_⟩
   ·first | omega | rfl | (intro hg; simp only [nrmT] at hg; omega) | (intro g1 g2; simp [g1, g2]; done) | (intro g1; simp at g1 ⊢; simp [g1]; done) | (simp only [nrmT] at *; omega) | (simp at * <;> omega) | (simp_all <;> omega) | (simp_all; done)
   refine ⟨(i + 1), ?_⟩
   refine ⟨?_, ?_, rfl, rfl, rfl⟩
   ·refine ⟨?_, ?_, ?_, ?_⟩
    ·first | omega | rfl | (intro hg; simp only [nrmT] at hg; omega) | (intro g1 g2; simp [g1, g2]; done) | (intro g1; simp at g1 ⊢; simp [g1]; done) | (simp only [nrmT] at *; omega) | (simp at * <;> omega) | (simp_all <;> omega) | (simp_all; done)
    ·first | omega | rfl | (intro hg; simp only [nrmT] at hg; omega) | (intro g1 g2; simp [g1, g2]; done) | (intro g1; simp at g1 ⊢; simp [g1]; done) | (simp only [nrmT] at *; omega) | (simp at * <;> omega) | (simp_all <;> omega) | (simp_all; done)
    ·exact allTo_step h1 h3 (by simpa using b5)
    ·first | omega | rfl | (intro hg; simp only [nrmT] at hg; omega) | (intro g1 g2; simp [g1, g2]; done) | (intro g1; simp at g1 ⊢; simp [g1]; done) | (simp only [nrmT] at *; omega) | (simp at * <;> omega) | (simp_all <;> omega) | (simp_all; done)
   first | (show _ < _; omega) | (simp only [J1t]; omega) | (simp only [J1t] at *; simp at *; omega)
  intro b6
  try simp only [nrmT] at b6
  rw [← J2s (d := 0) h4, ← h3]; congr 1; omega
theorem J3a (xs : ZI) (ys : ZI)  : PC Try.prog 18 [.sl (.ints xs), .sl (.ints ys)] (.one (.d (.bool (xs == ys)))) :=
  pc_wf @Try.call18 fun hw => pc_by (by kernel_rfl) Try.func18 @Try.call18 (by kernel_rfl) J7U (J7V xs ys) (by kernel_rfl) (J7E xs ys hw.1 hw.2.1) (by kernel_rfl)
def J2X : List D → Orc := orcN [some .ints, some .ints] fun ds => match ds with
  | [.sl (.ints xs), .sl (.ints ys)] => some (.one (.d (.bool (xs == ys))))
  | _ => none
theorem J7W {α : Type} {p : α → Bool} {xs : List α} {d : α} (h0 : 0 ≤ idxI p xs) {i : Nat} (hi : i < xs.length) (hp : p (xs.getD i d) = true) : idxI p xs ≤ (i : Int) ∧ p (xs.getD (idxI p xs).toNat d) = true := by
  unfold idxI at h0 ⊢
  cases hf : xs.findIdx? p with
  | none => rw [hf] at h0; simp at h0
  | some k =>
    obtain ⟨hk, h1, h2⟩ := List.findIdx?_eq_some_iff_getElem.1 hf
    show (k : Int) ≤ (i : Int) ∧ p (xs.getD (k : Int).toNat d) = true
    rw [Int.toNat_natCast, J08 hk]
    refine ⟨?_, h1⟩
    by_cases e : k ≤ i
    · omega
    rw [J08 hi] at hp
    have := h2 i (by omega)
    rw [hp] at this
    simp at this
theorem Jk {g : Bool} {a b : Cur} {x y : Int} (ha : okC a x) (hb : okC b y) : okC (cond g a b) (max x y) := by
  cases g
  · exact Jf hb (by omega)
  exact Jf ha (by omega)
theorem J7O {n : Nat} {s : ZI} (h : Ja s 0 ((n : Int) - 1) = true) : s ∈ chs n := by
  have ha := J7N h
  have hr := J58 h
  have hp : ∀ x ∈ s, 0 ≤ x ∧ x < (n : Int) := fun x hx => by have := hr x hx; omega
  refine J8D.2 ⟨bagN s, bagN_lt (m := n) hp, ?_⟩
  unfold lst
  refine asc_ext (asc_members _ _) ha fun x => ?_
  rw [mem_members]
  constructor
  · rintro ⟨h1, h2, h3⟩
    rw [bagN_bit fun y hy => (hp y hy).1, List.contains_iff_mem, show ((x.toNat : Nat) : Int) = x by omega] at h3
    exact h3
  intro hx
  have h1 := hp x hx
  refine ⟨h1.1, h1.2, ?_⟩
  rw [bagN_bit fun y hy => (hp y hy).1, List.contains_iff_mem, show ((x.toNat : Nat) : Int) = x by omega]
  exact hx
abbrev J1O (xs : ZR) (ys : ZR) (i : Int) : Prop := (0 ≤ i) ∧ (i ≤ (xs.length : Int)) ∧ (allTo (fun k => xs.getD k [] == ys.getD k []) i.toNat = true) ∧ (xs.length = ys.length)
abbrev J18 (xs : ZR) (ys : ZR) (i : Int) : Nat := (xs.length - i).toNat
def J7C (f : FuncId) (ds : List D) : Orc := bif Nat.beq f 18 then J2X ds else .no
def J7B (xs : ZR) (ys : ZR) : Ann := .two (.none) (.two (.none) (.two (.two (.none) (.loop (cut1 (fun (i : Int) => J1O xs ys i) (fun (i : Int) => [(0, .d false (.sl (.rows xs))), (1, .d false (.sl (.rows ys))), (5, .d true (.int .i64 i))]) (fun (i : Int) => [])) (fun g => J18 xs ys g) (fun _ => .none))) (.none)))
def J5g (xs : ZR) (ys : ZR) : Prop :=
  ((((xs.length : Int) != (ys.length : Int)) = true → ((false = (xs == ys)))) ∧ (((xs.length : Int) != (ys.length : Int)) = false → ((∃ i' : Int, (J1O xs ys i') ∧ (xs = xs) ∧ (ys = ys) ∧ ((0 : Int) = i')) ∧ (∀ i : Int, (J1O xs ys i) → (((decide (i < (xs.length : Int))) = true → (true = true) ∧ ((0 : Int) ≤ i) ∧ ((i : Int) < xs.length) ∧ (i.toNat < xs.length) ∧ ((0 : Int) ≤ i) ∧ ((i : Int) < ys.length) ∧ (i.toNat < ys.length) ∧ (PC Try.prog 18 [.sl (.ints (xs.getD i.toNat [])), .sl (.ints (ys.getD i.toNat []))] (.one (.d (.bool ((xs.getD i.toNat []) == (ys.getD i.toNat [])))))) ∧ (((!((xs.getD i.toNat []) == (ys.getD i.toNat []))) = true → ((false = (xs == ys)))) ∧ ((!((xs.getD i.toNat []) == (ys.getD i.toNat []))) = false → (I6 (i + 1)) ∧ (∃ i' : Int, (J1O xs ys i') ∧ (J18 xs ys i' < J18 xs ys i) ∧ (xs = xs) ∧ (ys = ys) ∧ ((i + 1) = i'))))) ∧ ((decide (i < (xs.length : Int))) = false → ((true = (xs == ys)))))))))
theorem J7d (xs : ZR) (ys : ZR)  (w_xs : (xs.length : Int) ≤ 9223372036854775807) (v_xs : ∀ x9 ∈ xs, (x9.length : Int) ≤ 9223372036854775807) (w_ys : (ys.length : Int) ≤ 9223372036854775807) (v_ys : ∀ x9 ∈ ys, (x9.length : Int) ≤ 9223372036854775807) : J5g xs ys := by
  unfold J5g
  refine ⟨?_, ?_⟩
  ·intro b1
   try simp only [nrmT] at b1
   exact (J87 (by omega)).symm
  intro b2
  try simp only [nrmT] at b2
  refine ⟨?_, ?_⟩
  ·refine ⟨0, ?_⟩
   refine ⟨?_, rfl, rfl, rfl⟩
   ·refine ⟨?_, ?_, ?_, ?_⟩
    ·first | omega | rfl | (intro hg; simp only [nrmT] at hg; omega) | (intro g1 g2; simp [g1, g2]; done) | (intro g1; simp at g1 ⊢; simp [g1]; done) | (simp only [nrmT] at *; omega) | (simp at * <;> omega) | (simp_all <;> omega) | (simp_all; done)
    ·first | omega | rfl | (intro hg; simp only [nrmT] at hg; omega) | (intro g1 g2; simp [g1, g2]; done) | (intro g1; simp at g1 ⊢; simp [g1]; done) | (simp only [nrmT] at *; omega) | (simp at * <;> omega) | (simp_all <;> omega) | (simp_all; done)
    ·first | omega | rfl | (intro hg; simp only [nrmT] at hg; omega) | (intro g1 g2; simp [g1, g2]; done) | (intro g1; simp at g1 ⊢; simp [g1]; done) | (simp only [nrmT] at *; omega) | (simp at * <;> omega) | (simp_all <;> omega) | (simp_all; done)
    ·first | omega | rfl | (intro hg; simp only [nrmT] at hg; omega) | (intro g1 g2; simp [g1, g2]; done) | (intro g1; simp at g1 ⊢; simp [g1]; done) | (simp only [nrmT] at *; omega) | (simp at * <;> omega) | (simp_all <;> omega) | (simp_all; done)
  intro i hJ
  obtain ⟨h1, h2, h3, h4⟩ := hJ
  refine ⟨?_, ?_⟩
  ·intro b3
   try simp only [nrmT] at b3
   refine ⟨rfl, ?_, ?_, ?_, ?_, ?_, ?_, J3a (xs.getD i.toNat []) (ys.getD i.toNat []), ?_, ?_⟩
   ·first | omega | rfl | (intro hg; simp only [nrmT] at hg; omega) | (intro g1 g2; simp [g1, g2]; done) | (intro g1; simp at g1 ⊢; simp [g1]; done) | (simp only [nrmT] at *; omega) | (simp at * <;> omega) | (simp_all <;> omega) | (simp_all; done)
   ·first | omega | rfl | (intro hg; simp only [nrmT] at hg; omega) | (intro g1 g2; simp [g1, g2]; done) | (intro g1; simp at g1 ⊢; simp [g1]; done) | (simp only [nrmT] at *; omega) | (simp at * <;> omega) | (simp_all <;> omega) | (simp_all; done)
   ·first | omega | rfl | (intro hg; simp only [nrmT] at hg; omega) | (intro g1 g2; simp [g1, g2]; done) | (intro g1; simp at g1 ⊢; simp [g1]; done) | (simp only [nrmT] at *; omega) | (simp at * <;> omega) | (simp_all <;> omega) | (simp_all; done)
   ·first | omega | rfl | (intro hg; simp only [nrmT] at hg; omega) | (intro g1 g2; simp [g1, g2]; done) | (intro g1; simp at g1 ⊢; simp [g1]; done) | (simp only [nrmT] at *; omega) | (simp at * <;> omega) | (simp_all <;> omega) | (simp_all; done)
   ·first | omega | rfl | (intro hg; simp only [nrmT] at hg; omega) | (intro g1 g2; simp [g1, g2]; done) | (intro g1; simp at g1 ⊢; simp [g1]; done) | (simp only [nrmT] at *; omega) | (simp at * <;> omega) | (simp_all <;> omega) | (simp_all; done)
   ·first | omega | rfl | (intro hg; simp only [nrmT] at hg; omega) | (intro g1 g2; simp [g1, g2]; done) | (intro g1; simp at g1 ⊢; simp [g1]; done) | (simp only [nrmT] at *; omega) | (simp at * <;> omega) | (simp_all <;> omega) | (simp_all; done)
   ·intro b4
    try simp only [nrmT] at b4
    rw [← J2s (d := []) h4]; exact (allTo_falseI h1 (by omega) (by simpa using b4)).symm
   intro b5
   try simp only [nrmT] at b5
   refine ⟨?_, ?_⟩
   ·first | omega | rfl | (intro hg; simp only [nrmT] at hg; omega) | (intro g1 g2; simp [g1, g2]; done) | (intro g1; simp at g1 ⊢; simp [g1]; done) | (simp only [nrmT] at *; omega) | (simp at * <;> omega) | (simp_all <;> omega) | (simp_all; done)
   refine ⟨(i + 1), ?_⟩
   refine ⟨?_, ?_, rfl, rfl, rfl⟩
   ·refine ⟨?_, ?_, ?_, ?_⟩
    ·first | omega | rfl | (intro hg; simp only [nrmT] at hg; omega) | (intro g1 g2; simp [g1, g2]; done) | (intro g1; simp at g1 ⊢; simp [g1]; done) | (simp only [nrmT] at *; omega) | (simp at * <;> omega) | (simp_all <;> omega) | (simp_all; done)
    ·first | omega | rfl | (intro hg; simp only [nrmT] at hg; omega) | (intro g1 g2; simp [g1, g2]; done) | (intro g1; simp at g1 ⊢; simp [g1]; done) | (simp only [nrmT] at *; omega) | (simp at * <;> omega) | (simp_all <;> omega) | (simp_all; done)
    ·exact allTo_step h1 h3 (by simpa using b5)
    ·first | omega | rfl | (intro hg; simp only [nrmT] at hg; omega) | (intro g1 g2; simp [g1, g2]; done) | (intro g1; simp at g1 ⊢; simp [g1]; done) | (simp only [nrmT] at *; omega) | (simp at * <;> omega) | (simp_all <;> omega) | (simp_all; done)
   first | (show _ < _; omega) | (simp only [J18]; omega) | (simp only [J18] at *; simp at *; omega)
  intro b6
  try simp only [nrmT] at b6
  rw [← J2s (d := []) h4, ← h3]; congr 1; omega
theorem J7g (xs : ZR) (ys : ZR)  : PC Try.prog 71 [.sl (.rows xs), .sl (.rows ys)] (.one (.d (.bool (xs == ys)))) :=
  pc_wf @Try.call71 fun hw => pc_by (by kernel_rfl) Try.func71 @Try.call71 (by kernel_rfl) J7C (J7B xs ys) (by kernel_rfl) (J7d xs ys hw.1.1 hw.1.2 hw.2.1.1 hw.2.1.2) (by kernel_rfl)
def J6F : List D → Orc := orcN [some .rows, some .rows] fun ds => match ds with
  | [.sl (.rows xs), .sl (.rows ys)] => some (.one (.d (.bool (xs == ys))))
  | _ => none
theorem J0N (f g : Nat → Int) : ∀ n, Jb (fun k => f k + g k) n = Jb f n + Jb g n
  | 0 => rfl
  | n + 1 => by rw [JI, JI, JI, J0N f g n]; omega
theorem J0W {f g : Nat → Int} : ∀ n, (∀ k, k < n → f k ≤ g k) → Jb f n ≤ Jb g n
  | 0, _ => Int.le_refl _
  | n + 1, h => by
    have := J0W (f := f) (g := g) n fun k hk => h k (by omega)
    have := h n (by omega)
    rw [JI, JI]; omega
theorem Jg {f g : Nat → Int} {n : Nat} (h : ∀ k, k < n → f k = g k) : Jb f n = Jb g n := by
  have h1 := J0W (f := f) (g := g) n fun k hk => by rw [h k hk]; exact Int.le_refl _
  have h2 := J0W (f := g) (g := f) n fun k hk => by rw [h k hk]; exact Int.le_refl _
  omega
theorem J3I (c : Int) (f : Nat → Int) : ∀ n, Jb (fun k => c * f k) n = c * Jb f n
  | 0 => by simp [Jb, foldTo]
  | n + 1 => by rw [JI, JI, J3I c f n, Int.mul_add]
theorem J06 : ∀ n, Jb (fun _ => 0) n = 0
  | 0 => rfl
  | n + 1 => by rw [JI, J06 n]; rfl
theorem J31 {f : Nat → Int} {j : Nat} : ∀ n, j < n → Jb (fun x => if x = j then f x else 0) n = f j
  | 0, h => by omega
  | n + 1, h => by
    rw [JI]
    by_cases e : n = j
    · subst e
      rw [if_pos rfl]
      have : Jb (fun x => if x = n then f x else 0) n = Jb (fun _ => 0) n := Jg fun k hk => if_neg (by omega)
      rw [this, J06]; omega
    rw [if_neg e, J31 n (by omega)]; omega
/-- A way by two other lengths is shorter. -/
def J4X (D : ZR) (i j a b : Nat) : Bool := decide ((D.getD i []).getD a 0 > (D.getD i []).getD b 0 + (D.getD j []).getD b 0 + (D.getD j []).getD a 0)
def J8g (n : Nat) (D : ZR) (i j a : Nat) : Bool := allTo (fun b => !J4X D i j a b) n
def J8o (n : Nat) (D : ZR) (i j : Nat) : Bool := allTo (J8g n D i j) n
def J8w (n : Nat) (D : ZR) (i : Nat) : Bool := allTo (J8o n D i) D.length
def J0I (n : Nat) (D : ZR) : Bool := allTo (J8w n D) D.length
theorem J8x {D : ZR} {s : ZI} (hp : 0 < s.length) (j : Nat) : ∃ a, a ∈ s ∧ J3h D s j = (D.getD j []).getD a.toNat 0 :=
  ⟨_, J5b hp s.length (Nat.le_refl _), rfl⟩
abbrev J1d (U : ZI) (E : ZR) (i : Int) : Prop := (0 ≤ i) ∧ (i ≤ (E.length : Int)) ∧ (allTo (J8w U.length E) i.toNat = true)
abbrev J0J (U : ZI) (E : ZR) (i : Int) : Nat := (E.length - i).toNat
abbrev J1g (U : ZI) (E : ZR) (i : Int) (j : Int) : Prop := (0 ≤ j) ∧ (j ≤ (E.length : Int)) ∧ (allTo (J8o U.length E i.toNat) j.toNat = true)
abbrev J0F (U : ZI) (E : ZR) (i : Int) (j : Int) : Nat := (E.length - j).toNat
abbrev J1e (U : ZI) (E : ZR) (i : Int) (j : Int) (a : Int) : Prop := (0 ≤ a) ∧ (a ≤ (U.length : Int)) ∧ (allTo (J8g U.length E i.toNat j.toNat) a.toNat = true)
abbrev J0M (U : ZI) (E : ZR) (i : Int) (j : Int) (a : Int) : Nat := (U.length - a).toNat
abbrev J1i (U : ZI) (E : ZR) (i : Int) (j : Int) (a : Int) (b : Int) : Prop := (0 ≤ b) ∧ (b ≤ (U.length : Int)) ∧ (allTo (fun b => !J4X E i.toNat j.toNat a.toNat b) b.toNat = true)
abbrev J0L (U : ZI) (E : ZR) (i : Int) (j : Int) (a : Int) (b : Int) : Nat := (U.length - b).toNat
def J6G (f : FuncId) (ds : List D) : Orc := bif Nat.beq f 119 then J1w ds else .no
def J6E (U : ZI) (E : ZR) : Ann := .two (.none) (.two (.none) (.two (.two (.none) (.loop (cut1 (fun (i : Int) => J1d U E i) (fun (i : Int) => [(1, .ptr 1 0), (14, .d false (.sl (.rows E))), (15, .d true (.int .i64 (E.length : Int))), (16, .d true (.int .i64 i))]) (fun (i : Int) => [(1, .box 39 [.d false (.sl (.ints U)), .d false (.sl (.rows E))])])) (fun g => J0J U E g) (fun g => (fun (i : Int) => .two (.none) (.two (.none) (.two (.two (.none) (.two (.none) (.loop (cut1 (fun (j : Int) => J1g U E i j) (fun (j : Int) => [(1, .ptr 1 0), (5, .d false (.sl (.ints (E.getD i.toNat [])))), (14, .d false (.sl (.rows E))), (15, .d true (.int .i64 (E.length : Int))), (16, .d true (.int .i64 i)), (21, .d false (.sl (.rows E))), (22, .d true (.int .i64 (E.length : Int))), (23, .d true (.int .i64 j))]) (fun (j : Int) => [(1, .box 39 [.d false (.sl (.ints U)), .d false (.sl (.rows E))])])) (fun g => J0F U E i g) (fun g => (fun (j : Int) => .two (.none) (.two (.none) (.two (.two (.none) (.two (.none) (.loop (cut1 (fun (a : Int) => J1e U E i j a) (fun (a : Int) => [(1, .ptr 1 0), (5, .d false (.sl (.ints (E.getD i.toNat [])))), (7, .d false (.sl (.ints (E.getD j.toNat [])))), (14, .d false (.sl (.rows E))), (15, .d true (.int .i64 (E.length : Int))), (16, .d true (.int .i64 i)), (21, .d false (.sl (.rows E))), (22, .d true (.int .i64 (E.length : Int))), (23, .d true (.int .i64 j)), (29, .d true (.int .i64 (U.length : Int))), (30, .d true (.int .i64 a))]) (fun (a : Int) => [(1, .box 39 [.d false (.sl (.ints U)), .d false (.sl (.rows E))])])) (fun g => J0M U E i j g) (fun g => (fun (a : Int) => .two (.none) (.two (.none) (.two (.two (.none) (.two (.none) (.loop (cut1 (fun (b : Int) => J1i U E i j a b) (fun (b : Int) => [(1, .ptr 1 0), (5, .d false (.sl (.ints (E.getD i.toNat [])))), (7, .d false (.sl (.ints (E.getD j.toNat [])))), (8, .d true (.int .i64 a)), (14, .d false (.sl (.rows E))), (15, .d true (.int .i64 (E.length : Int))), (16, .d true (.int .i64 i)), (21, .d false (.sl (.rows E))), (22, .d true (.int .i64 (E.length : Int))), (23, .d true (.int .i64 j)), (29, .d true (.int .i64 (U.length : Int))), (30, .d true (.int .i64 a)), (35, .d true (.int .i64 (U.length : Int))), (36, .d true (.int .i64 b))]) (fun (b : Int) => [(1, .box 39 [.d false (.sl (.ints U)), .d false (.sl (.rows E))])])) (fun g => J0L U E i j a g) (fun _ => .none)))) (.none)))) g)))) (.none)))) g)))) (.none)))) g))) (.none)))
def J3v (U : ZI) (E : ZR) : Prop :=
  (PC Try.prog 119 [.agg [.sl (.ints U), .sl (.rows E)]] (.one (.d (.bool (J0 U E))))) ∧ (((!(J0 U E)) = true → ((false = (J0 U E && J0I U.length E)) ∧ (false = (J0 U E)))) ∧ ((!(J0 U E)) = false → ((∃ i' : Int, (J1d U E i') ∧ (E = E) ∧ ((E.length : Int) = (E.length : Int)) ∧ ((0 : Int) = i') ∧ (U = U) ∧ (E = E)) ∧ (∀ i : Int, (J1d U E i) → (((decide (i < (E.length : Int))) = true → ((0 : Int) ≤ i) ∧ ((i : Int) < E.length) ∧ (i.toNat < E.length) ∧ ((∃ j' : Int, (J1g U E i j') ∧ ((E.getD i.toNat []) = (E.getD i.toNat [])) ∧ (E = E) ∧ ((E.length : Int) = (E.length : Int)) ∧ (i = i) ∧ (E = E) ∧ ((E.length : Int) = (E.length : Int)) ∧ ((0 : Int) = j') ∧ (U = U) ∧ (E = E)) ∧ (∀ j : Int, (J1g U E i j) → (((decide (j < (E.length : Int))) = true → ((0 : Int) ≤ j) ∧ ((j : Int) < E.length) ∧ (j.toNat < E.length) ∧ ((∃ a' : Int, (J1e U E i j a') ∧ ((E.getD i.toNat []) = (E.getD i.toNat [])) ∧ ((E.getD j.toNat []) = (E.getD j.toNat [])) ∧ (E = E) ∧ ((E.length : Int) = (E.length : Int)) ∧ (i = i) ∧ (E = E) ∧ ((E.length : Int) = (E.length : Int)) ∧ (j = j) ∧ ((U.length : Int) = (U.length : Int)) ∧ ((0 : Int) = a') ∧ (U = U) ∧ (E = E)) ∧ (∀ a : Int, (J1e U E i j a) → (((decide (a < (U.length : Int))) = true → ((∃ b' : Int, (J1i U E i j a b') ∧ ((E.getD i.toNat []) = (E.getD i.toNat [])) ∧ ((E.getD j.toNat []) = (E.getD j.toNat [])) ∧ (a = a) ∧ (E = E) ∧ ((E.length : Int) = (E.length : Int)) ∧ (i = i) ∧ (E = E) ∧ ((E.length : Int) = (E.length : Int)) ∧ (j = j) ∧ ((U.length : Int) = (U.length : Int)) ∧ (a = a) ∧ ((U.length : Int) = (U.length : Int)) ∧ ((0 : Int) = b') ∧ (U = U) ∧ (E = E)) ∧ (∀ b : Int, (J1i U E i j a b) → (((decide (b < (U.length : Int))) = true → (true = true) ∧ ((0 : Int) ≤ a) ∧ ((a : Int) < (E.getD i.toNat []).length) ∧ (a.toNat < (E.getD i.toNat []).length) ∧ ((0 : Int) ≤ b) ∧ ((b : Int) < (E.getD i.toNat []).length) ∧ (b.toNat < (E.getD i.toNat []).length) ∧ ((0 : Int) ≤ b) ∧ ((b : Int) < (E.getD j.toNat []).length) ∧ (b.toNat < (E.getD j.toNat []).length) ∧ (I6 (((E.getD i.toNat []).getD b.toNat 0) + ((E.getD j.toNat []).getD b.toNat 0))) ∧ ((0 : Int) ≤ a) ∧ ((a : Int) < (E.getD j.toNat []).length) ∧ (a.toNat < (E.getD j.toNat []).length) ∧ (I6 ((((E.getD i.toNat []).getD b.toNat 0) + ((E.getD j.toNat []).getD b.toNat 0)) + ((E.getD j.toNat []).getD a.toNat 0))) ∧ (((decide (((E.getD i.toNat []).getD a.toNat 0) > ((((E.getD i.toNat []).getD b.toNat 0) + ((E.getD j.toNat []).getD b.toNat 0)) + ((E.getD j.toNat []).getD a.toNat 0)))) = true → ((false = (J0 U E && J0I U.length E)) ∧ (true = (J0 U E)))) ∧ ((decide (((E.getD i.toNat []).getD a.toNat 0) > ((((E.getD i.toNat []).getD b.toNat 0) + ((E.getD j.toNat []).getD b.toNat 0)) + ((E.getD j.toNat []).getD a.toNat 0)))) = false → (I6 (b + 1)) ∧ (∃ b' : Int, (J1i U E i j a b') ∧ (J0L U E i j a b' < J0L U E i j a b) ∧ ((E.getD i.toNat []) = (E.getD i.toNat [])) ∧ ((E.getD j.toNat []) = (E.getD j.toNat [])) ∧ (a = a) ∧ (E = E) ∧ ((E.length : Int) = (E.length : Int)) ∧ (i = i) ∧ (E = E) ∧ ((E.length : Int) = (E.length : Int)) ∧ (j = j) ∧ ((U.length : Int) = (U.length : Int)) ∧ (a = a) ∧ ((U.length : Int) = (U.length : Int)) ∧ ((b + 1) = b') ∧ (U = U) ∧ (E = E))))) ∧ ((decide (b < (U.length : Int))) = false → (I6 (a + 1)) ∧ (∃ a' : Int, (J1e U E i j a') ∧ (J0M U E i j a' < J0M U E i j a) ∧ ((E.getD i.toNat []) = (E.getD i.toNat [])) ∧ ((E.getD j.toNat []) = (E.getD j.toNat [])) ∧ (E = E) ∧ ((E.length : Int) = (E.length : Int)) ∧ (i = i) ∧ (E = E) ∧ ((E.length : Int) = (E.length : Int)) ∧ (j = j) ∧ ((U.length : Int) = (U.length : Int)) ∧ ((a + 1) = a') ∧ (U = U) ∧ (E = E))))))) ∧ ((decide (a < (U.length : Int))) = false → (I6 (j + 1)) ∧ (∃ j' : Int, (J1g U E i j') ∧ (J0F U E i j' < J0F U E i j) ∧ ((E.getD i.toNat []) = (E.getD i.toNat [])) ∧ (E = E) ∧ ((E.length : Int) = (E.length : Int)) ∧ (i = i) ∧ (E = E) ∧ ((E.length : Int) = (E.length : Int)) ∧ ((j + 1) = j') ∧ (U = U) ∧ (E = E))))))) ∧ ((decide (j < (E.length : Int))) = false → (I6 (i + 1)) ∧ (∃ i' : Int, (J1d U E i') ∧ (J0J U E i' < J0J U E i) ∧ (E = E) ∧ ((E.length : Int) = (E.length : Int)) ∧ ((i + 1) = i') ∧ (U = U) ∧ (E = E))))))) ∧ ((decide (i < (E.length : Int))) = false → ((true = (J0 U E && J0I U.length E)) ∧ (true = (J0 U E)))))))))
theorem J6j (U : ZI) (E : ZR)  (w_Open : (U.length : Int) ≤ 9223372036854775807) (w_Dist : (E.length : Int) ≤ 9223372036854775807) (v_Dist : ∀ x9 ∈ E, (x9.length : Int) ≤ 9223372036854775807) : J3v U E := by
  unfold J3v
  refine ⟨J1U U E, ?_, ?_⟩
  ·intro b1
   try simp only [nrmT] at b1
   refine ⟨?_, ?_⟩
   ·have e1 : J0 U E = false := by simpa using b1
    rw [e1]; rfl
   have e1 : J0 U E = false := by simpa using b1
   exact e1.symm
  intro b2
  try simp only [nrmT] at b2
  refine ⟨?_, ?_⟩
  ·refine ⟨0, ?_⟩
   refine ⟨?_, rfl, rfl, rfl, rfl, rfl⟩
   ·refine ⟨?_, ?_, ?_⟩
    ·first | omega | rfl | (intro hg; simp only [nrmT] at hg; omega) | (intro g1 g2; simp [g1, g2]; done) | (intro g1; simp at g1 ⊢; simp [g1]; done) | (simp only [nrmT] at *; omega) | (simp at * <;> omega) | (simp_all <;> omega) | (simp_all; done)
    ·first | omega | rfl | (intro hg; simp only [nrmT] at hg; omega) | (intro g1 g2; simp [g1, g2]; done) | (intro g1; simp at g1 ⊢; simp [g1]; done) | (simp only [nrmT] at *; omega) | (simp at * <;> omega) | (simp_all <;> omega) | (simp_all; done)
    ·first | omega | rfl | (intro hg; simp only [nrmT] at hg; omega) | (intro g1 g2; simp [g1, g2]; done) | (intro g1; simp at g1 ⊢; simp [g1]; done) | (simp only [nrmT] at *; omega) | (simp at * <;> omega) | (simp_all <;> omega) | (simp_all; done)
  intro i hJ
  obtain ⟨h1, h2, h3⟩ := hJ
  refine ⟨?_, ?_⟩
  ·intro b3
   try simp only [nrmT] at b3
   refine ⟨?_, ?_, ?_, ?_, ?_⟩
   ·first | omega | rfl | (intro hg; simp only [nrmT] at hg; omega) | (intro g1 g2; simp [g1, g2]; done) | (intro g1; simp at g1 ⊢; simp [g1]; done) | (simp only [nrmT] at *; omega) | (simp at * <;> omega) | (simp_all <;> omega) | (simp_all; done)
   ·first | omega | rfl | (intro hg; simp only [nrmT] at hg; omega) | (intro g1 g2; simp [g1, g2]; done) | (intro g1; simp at g1 ⊢; simp [g1]; done) | (simp only [nrmT] at *; omega) | (simp at * <;> omega) | (simp_all <;> omega) | (simp_all; done)
   ·first | omega | rfl | (intro hg; simp only [nrmT] at hg; omega) | (intro g1 g2; simp [g1, g2]; done) | (intro g1; simp at g1 ⊢; simp [g1]; done) | (simp only [nrmT] at *; omega) | (simp at * <;> omega) | (simp_all <;> omega) | (simp_all; done)
   ·refine ⟨0, ?_⟩
    refine ⟨?_, rfl, rfl, rfl, rfl, rfl, rfl, rfl, rfl, rfl⟩
    ·refine ⟨?_, ?_, ?_⟩
     ·first | omega | rfl | (intro hg; simp only [nrmT] at hg; omega) | (intro g1 g2; simp [g1, g2]; done) | (intro g1; simp at g1 ⊢; simp [g1]; done) | (simp only [nrmT] at *; omega) | (simp at * <;> omega) | (simp_all <;> omega) | (simp_all; done)
     ·first | omega | rfl | (intro hg; simp only [nrmT] at hg; omega) | (intro g1 g2; simp [g1, g2]; done) | (intro g1; simp at g1 ⊢; simp [g1]; done) | (simp only [nrmT] at *; omega) | (simp at * <;> omega) | (simp_all <;> omega) | (simp_all; done)
     ·first | omega | rfl | (intro hg; simp only [nrmT] at hg; omega) | (intro g1 g2; simp [g1, g2]; done) | (intro g1; simp at g1 ⊢; simp [g1]; done) | (simp only [nrmT] at *; omega) | (simp at * <;> omega) | (simp_all <;> omega) | (simp_all; done)
   intro j hJ
   obtain ⟨h4, h5, h6⟩ := hJ
   refine ⟨?_, ?_⟩
   ·intro b4
    try simp only [nrmT] at b4
    refine ⟨?_, ?_, ?_, ?_, ?_⟩
    ·first | omega | rfl | (intro hg; simp only [nrmT] at hg; omega) | (intro g1 g2; simp [g1, g2]; done) | (intro g1; simp at g1 ⊢; simp [g1]; done) | (simp only [nrmT] at *; omega) | (simp at * <;> omega) | (simp_all <;> omega) | (simp_all; done)
    ·first | omega | rfl | (intro hg; simp only [nrmT] at hg; omega) | (intro g1 g2; simp [g1, g2]; done) | (intro g1; simp at g1 ⊢; simp [g1]; done) | (simp only [nrmT] at *; omega) | (simp at * <;> omega) | (simp_all <;> omega) | (simp_all; done)
    ·first | omega | rfl | (intro hg; simp only [nrmT] at hg; omega) | (intro g1 g2; simp [g1, g2]; done) | (intro g1; simp at g1 ⊢; simp [g1]; done) | (simp only [nrmT] at *; omega) | (simp at * <;> omega) | (simp_all <;> omega) | (simp_all; done)
    ·refine ⟨0, ?_⟩
     refine ⟨?_, rfl, rfl, rfl, rfl, rfl, rfl, rfl, rfl, rfl, rfl, rfl, rfl⟩
     ·refine ⟨?_, ?_, ?_⟩
      ·first | omega | rfl | (intro hg; simp only [nrmT] at hg; omega) | (intro g1 g2; simp [g1, g2]; done) | (intro g1; simp at g1 ⊢; simp [g1]; done) | (simp only [nrmT] at *; omega) | (simp at * <;> omega) | (simp_all <;> omega) | (simp_all; done)
      ·first | omega | rfl | (intro hg; simp only [nrmT] at hg; omega) | (intro g1 g2; simp [g1, g2]; done) | (intro g1; simp at g1 ⊢; simp [g1]; done) | (simp only [nrmT] at *; omega) | (simp at * <;> omega) | (simp_all <;> omega) | (simp_all; done)
      ·first | omega | rfl | (intro hg; simp only [nrmT] at hg; omega) | (intro g1 g2; simp [g1, g2]; done) | (intro g1; simp at g1 ⊢; simp [g1]; done) | (simp only [nrmT] at *; omega) | (simp at * <;> omega) | (simp_all <;> omega) | (simp_all; done)
    intro a hJ
    obtain ⟨h7, h8, h9⟩ := hJ
    refine ⟨?_, ?_⟩
    ·intro b5
     try simp only [nrmT] at b5
     refine ⟨?_, ?_⟩
     ·refine ⟨0, ?_⟩
      refine ⟨?_, rfl, rfl, rfl, rfl, rfl, rfl, rfl, rfl, rfl, rfl, rfl, rfl, rfl, rfl, rfl⟩
      ·refine ⟨?_, ?_, ?_⟩
       ·first | omega | rfl | (intro hg; simp only [nrmT] at hg; omega) | (intro g1 g2; simp [g1, g2]; done) | (intro g1; simp at g1 ⊢; simp [g1]; done) | (simp only [nrmT] at *; omega) | (simp at * <;> omega) | (simp_all <;> omega) | (simp_all; done)
       ·first | omega | rfl | (intro hg; simp only [nrmT] at hg; omega) | (intro g1 g2; simp [g1, g2]; done) | (intro g1; simp at g1 ⊢; simp [g1]; done) | (simp only [nrmT] at *; omega) | (simp at * <;> omega) | (simp_all <;> omega) | (simp_all; done)
       ·first | omega | rfl | (intro hg; simp only [nrmT] at hg; omega) | (intro g1 g2; simp [g1, g2]; done) | (intro g1; simp at g1 ⊢; simp [g1]; done) | (simp only [nrmT] at *; omega) | (simp at * <;> omega) | (simp_all <;> omega) | (simp_all; done)
     intro b hJ
     obtain ⟨k1, k2, k3⟩ := hJ
     refine ⟨?_, ?_⟩
     ·intro b6
      try simp only [nrmT] at b6
      refine ⟨rfl, ?_, ?_, ?_, ?_, ?_, ?_, ?_, ?_, ?_, ?_, ?_, ?_, ?_, ?_, ?_, ?_⟩
      ·first | omega | rfl | (intro hg; simp only [nrmT] at hg; omega) | (intro g1 g2; simp [g1, g2]; done) | (intro g1; simp at g1 ⊢; simp [g1]; done) | (simp only [nrmT] at *; omega) | (simp at * <;> omega) | (simp_all <;> omega) | (simp_all; done)
      ·have hg : J0 U E = true := by simpa using b2
       obtain ⟨g1, g2, g3⟩ := JG hg
       have r1 := Jz hg (i := i.toNat) (by omega)
       have r2 := Jz hg (i := j.toNat) (by omega)
       have q1 := r1.2 a.toNat (by omega)
       have q2 := r1.2 b.toNat (by omega)
       have q3 := r2.2 b.toNat (by omega)
       have q4 := r2.2 a.toNat (by omega)
       omega
      ·have hg : J0 U E = true := by simpa using b2
       obtain ⟨g1, g2, g3⟩ := JG hg
       have r1 := Jz hg (i := i.toNat) (by omega)
       have r2 := Jz hg (i := j.toNat) (by omega)
       have q1 := r1.2 a.toNat (by omega)
       have q2 := r1.2 b.toNat (by omega)
       have q3 := r2.2 b.toNat (by omega)
       have q4 := r2.2 a.toNat (by omega)
       omega
      ·first | omega | rfl | (intro hg; simp only [nrmT] at hg; omega) | (intro g1 g2; simp [g1, g2]; done) | (intro g1; simp at g1 ⊢; simp [g1]; done) | (simp only [nrmT] at *; omega) | (simp at * <;> omega) | (simp_all <;> omega) | (simp_all; done)
      ·have hg : J0 U E = true := by simpa using b2
       obtain ⟨g1, g2, g3⟩ := JG hg
       have r1 := Jz hg (i := i.toNat) (by omega)
       have r2 := Jz hg (i := j.toNat) (by omega)
       have q1 := r1.2 a.toNat (by omega)
       have q2 := r1.2 b.toNat (by omega)
       have q3 := r2.2 b.toNat (by omega)
       have q4 := r2.2 a.toNat (by omega)
       omega
      ·have hg : J0 U E = true := by simpa using b2
       obtain ⟨g1, g2, g3⟩ := JG hg
       have r1 := Jz hg (i := i.toNat) (by omega)
       have r2 := Jz hg (i := j.toNat) (by omega)
       have q1 := r1.2 a.toNat (by omega)
       have q2 := r1.2 b.toNat (by omega)
       have q3 := r2.2 b.toNat (by omega)
       have q4 := r2.2 a.toNat (by omega)
       omega
      ·first | omega | rfl | (intro hg; simp only [nrmT] at hg; omega) | (intro g1 g2; simp [g1, g2]; done) | (intro g1; simp at g1 ⊢; simp [g1]; done) | (simp only [nrmT] at *; omega) | (simp at * <;> omega) | (simp_all <;> omega) | (simp_all; done)
      ·have hg : J0 U E = true := by simpa using b2
       obtain ⟨g1, g2, g3⟩ := JG hg
       have r1 := Jz hg (i := i.toNat) (by omega)
       have r2 := Jz hg (i := j.toNat) (by omega)
       have q1 := r1.2 a.toNat (by omega)
       have q2 := r1.2 b.toNat (by omega)
       have q3 := r2.2 b.toNat (by omega)
       have q4 := r2.2 a.toNat (by omega)
       omega
      ·have hg : J0 U E = true := by simpa using b2
       obtain ⟨g1, g2, g3⟩ := JG hg
       have r1 := Jz hg (i := i.toNat) (by omega)
       have r2 := Jz hg (i := j.toNat) (by omega)
       have q1 := r1.2 a.toNat (by omega)
       have q2 := r1.2 b.toNat (by omega)
       have q3 := r2.2 b.toNat (by omega)
       have q4 := r2.2 a.toNat (by omega)
       omega
      ·have hg : J0 U E = true := by simpa using b2
       obtain ⟨g1, g2, g3⟩ := JG hg
       have r1 := Jz hg (i := i.toNat) (by omega)
       have r2 := Jz hg (i := j.toNat) (by omega)
       have q1 := r1.2 a.toNat (by omega)
       have q2 := r1.2 b.toNat (by omega)
       have q3 := r2.2 b.toNat (by omega)
       have q4 := r2.2 a.toNat (by omega)
       omega
      ·first | omega | rfl | (intro hg; simp only [nrmT] at hg; omega) | (intro g1 g2; simp [g1, g2]; done) | (intro g1; simp at g1 ⊢; simp [g1]; done) | (simp only [nrmT] at *; omega) | (simp at * <;> omega) | (simp_all <;> omega) | (simp_all; done)
      ·have hg : J0 U E = true := by simpa using b2
       obtain ⟨g1, g2, g3⟩ := JG hg
       have r1 := Jz hg (i := i.toNat) (by omega)
       have r2 := Jz hg (i := j.toNat) (by omega)
       have q1 := r1.2 a.toNat (by omega)
       have q2 := r1.2 b.toNat (by omega)
       have q3 := r2.2 b.toNat (by omega)
       have q4 := r2.2 a.toNat (by omega)
       omega
      ·have hg : J0 U E = true := by simpa using b2
       obtain ⟨g1, g2, g3⟩ := JG hg
       have r1 := Jz hg (i := i.toNat) (by omega)
       have r2 := Jz hg (i := j.toNat) (by omega)
       have q1 := r1.2 a.toNat (by omega)
       have q2 := r1.2 b.toNat (by omega)
       have q3 := r2.2 b.toNat (by omega)
       have q4 := r2.2 a.toNat (by omega)
       omega
      ·have hg : J0 U E = true := by simpa using b2
       obtain ⟨g1, g2, g3⟩ := JG hg
       have r1 := Jz hg (i := i.toNat) (by omega)
       have r2 := Jz hg (i := j.toNat) (by omega)
       have q1 := r1.2 a.toNat (by omega)
       have q2 := r1.2 b.toNat (by omega)
       have q3 := r2.2 b.toNat (by omega)
       have q4 := r2.2 a.toNat (by omega)
       omega
      ·intro b7
       try simp only [nrmT] at b7
       refine ⟨?_, ?_⟩
       ·have e1 : J8g U.length E i.toNat j.toNat a.toNat = false := allTo_falseI k1 (by omega) (by unfold J4X; rw [decide_eq_true (by omega)]; rfl)
        have e2 : J8o U.length E i.toNat j.toNat = false := allTo_falseI h7 (by omega) e1
        have e3 : J8w U.length E i.toNat = false := allTo_falseI h4 (by omega) e2
        rw [show J0I U.length E = false from allTo_falseI h1 (by omega) e3, Bool.and_false]
       have hg : J0 U E = true := by simpa using b2
       obtain ⟨g1, g2, g3⟩ := JG hg
       exact hg.symm
      intro b8
      try simp only [nrmT] at b8
      refine ⟨?_, ?_⟩
      ·omega
      refine ⟨(b + 1), ?_⟩
      refine ⟨?_, ?_, rfl, rfl, rfl, rfl, rfl, rfl, rfl, rfl, rfl, rfl, rfl, rfl, rfl, rfl, rfl⟩
      ·refine ⟨?_, ?_, ?_⟩
       ·first | omega | rfl | (intro hg; simp only [nrmT] at hg; omega) | (intro g1 g2; simp [g1, g2]; done) | (intro g1; simp at g1 ⊢; simp [g1]; done) | (simp only [nrmT] at *; omega) | (simp at * <;> omega) | (simp_all <;> omega) | (simp_all; done)
       ·first | omega | rfl | (intro hg; simp only [nrmT] at hg; omega) | (intro g1 g2; simp [g1, g2]; done) | (intro g1; simp at g1 ⊢; simp [g1]; done) | (simp only [nrmT] at *; omega) | (simp at * <;> omega) | (simp_all <;> omega) | (simp_all; done)
       ·refine allTo_step k1 k3 ?_
        unfold J4X
        rw [decide_eq_false (by omega)]; rfl
      first | (show _ < _; omega) | (simp only [J0L]; omega) | (simp only [J0L] at *; simp at *; omega)
     intro b9
     try simp only [nrmT] at b9
     refine ⟨?_, ?_⟩
     ·omega
     refine ⟨(a + 1), ?_⟩
     refine ⟨?_, ?_, rfl, rfl, rfl, rfl, rfl, rfl, rfl, rfl, rfl, rfl, rfl, rfl⟩
     ·refine ⟨?_, ?_, ?_⟩
      ·first | omega | rfl | (intro hg; simp only [nrmT] at hg; omega) | (intro g1 g2; simp [g1, g2]; done) | (intro g1; simp at g1 ⊢; simp [g1]; done) | (simp only [nrmT] at *; omega) | (simp at * <;> omega) | (simp_all <;> omega) | (simp_all; done)
      ·first | omega | rfl | (intro hg; simp only [nrmT] at hg; omega) | (intro g1 g2; simp [g1, g2]; done) | (intro g1; simp at g1 ⊢; simp [g1]; done) | (simp only [nrmT] at *; omega) | (simp at * <;> omega) | (simp_all <;> omega) | (simp_all; done)
      ·refine allTo_step h7 h9 ?_
       show allTo _ U.length = true
       rw [← k3]; congr 1; omega
     first | (show _ < _; omega) | (simp only [J0M]; omega) | (simp only [J0M] at *; simp at *; omega)
    intro b10
    try simp only [nrmT] at b10
    refine ⟨?_, ?_⟩
    ·omega
    refine ⟨(j + 1), ?_⟩
    refine ⟨?_, ?_, rfl, rfl, rfl, rfl, rfl, rfl, rfl, rfl, rfl⟩
    ·refine ⟨?_, ?_, ?_⟩
     ·first | omega | rfl | (intro hg; simp only [nrmT] at hg; omega) | (intro g1 g2; simp [g1, g2]; done) | (intro g1; simp at g1 ⊢; simp [g1]; done) | (simp only [nrmT] at *; omega) | (simp at * <;> omega) | (simp_all <;> omega) | (simp_all; done)
     ·first | omega | rfl | (intro hg; simp only [nrmT] at hg; omega) | (intro g1 g2; simp [g1, g2]; done) | (intro g1; simp at g1 ⊢; simp [g1]; done) | (simp only [nrmT] at *; omega) | (simp at * <;> omega) | (simp_all <;> omega) | (simp_all; done)
     ·refine allTo_step h4 h6 ?_
      show allTo _ U.length = true
      rw [← h9]; congr 1; omega
    first | (show _ < _; omega) | (simp only [J0F]; omega) | (simp only [J0F] at *; simp at *; omega)
   intro b11
   try simp only [nrmT] at b11
   refine ⟨?_, ?_⟩
   ·omega
   refine ⟨(i + 1), ?_⟩
   refine ⟨?_, ?_, rfl, rfl, rfl, rfl, rfl⟩
   ·refine ⟨?_, ?_, ?_⟩
    ·first | omega | rfl | (intro hg; simp only [nrmT] at hg; omega) | (intro g1 g2; simp [g1, g2]; done) | (intro g1; simp at g1 ⊢; simp [g1]; done) | (simp only [nrmT] at *; omega) | (simp at * <;> omega) | (simp_all <;> omega) | (simp_all; done)
    ·first | omega | rfl | (intro hg; simp only [nrmT] at hg; omega) | (intro g1 g2; simp [g1, g2]; done) | (intro g1; simp at g1 ⊢; simp [g1]; done) | (simp only [nrmT] at *; omega) | (simp at * <;> omega) | (simp_all <;> omega) | (simp_all; done)
    ·refine allTo_step h1 h3 ?_
     show allTo _ E.length = true
     rw [← h6]; congr 1; omega
   first | (show _ < _; omega) | (simp only [J0J]; omega) | (simp only [J0J] at *; simp at *; omega)
  intro b12
  try simp only [nrmT] at b12
  refine ⟨?_, ?_⟩
  ·have hg : J0 U E = true := by simpa using b2
   obtain ⟨g1, g2, g3⟩ := JG hg
   have hm : J0I U.length E = true := by
     unfold J0I
     rw [← h3]; congr 1; omega
   rw [hg, hm]; rfl
  have hg : J0 U E = true := by simpa using b2
  obtain ⟨g1, g2, g3⟩ := JG hg
  exact hg.symm
theorem J6p (U : ZI) (E : ZR)  : PC Try.prog 58 [.agg [.sl (.ints U), .sl (.rows E)]] (.tup [.d (.bool (J0 U E && J0I U.length E)), .d (.bool (J0 U E))]) :=
  pc_wf @Try.call58 fun hw => pc_by (by kernel_rfl) Try.func58 @Try.call58 (by kernel_rfl) J6G (J6E U E) (by kernel_rfl) (J6j U E hw.1.1 hw.1.2.1.1 hw.1.2.1.2) (by kernel_rfl)
def J5r : List D → Orc := orcN [none] fun ds => match ds with
  | [.agg [.sl (.ints U), .sl (.rows E)]] => some (.tup [.d (.bool (J0 U E && J0I U.length E)), .d (.bool (J0 U E))])
  | _ => none
theorem J8F {n : Nat} {s : ZI} (h : Ja s 0 ((n : Int) - 1) = true) (hp : 0 < s.length) : s ∈ JF n := by
  have h1 := J7O h
  unfold chs at h1
  rcases List.mem_append.1 h1 with h1 | h1
  · rw [List.mem_singleton] at h1; subst h1; simp at hp
  exact h1
def J6k (f : FuncId) (ds : List D) : Orc := bif Nat.beq f 136 then J5Q ds else bif Nat.beq f 153 then J10 ds else .no
def J69 (U : ZI) (E : ZR) (set : ZI) : Ann := .none
def J3m (U : ZI) (E : ZR) (set : ZI) : Prop :=
  (PC Try.prog 136 [.agg [.sl (.ints U), .sl (.rows E)], .sl (.ints set)] (.one (.d (.bool (J0 U E && Ja set 0 ((U.length : Int) - 1) && decide (0 < set.length)))))) ∧ (((!(J0 U E && Ja set 0 ((U.length : Int) - 1) && decide (0 < set.length))) = true → (((0 : Int) = (if (J0 U E && Ja set 0 ((U.length : Int) - 1) && decide (0 < set.length)) = true then Ji E set else 0)) ∧ (false = (J0 U E && Ja set 0 ((U.length : Int) - 1) && decide (0 < set.length))))) ∧ ((!(J0 U E && Ja set 0 ((U.length : Int) - 1) && decide (0 < set.length))) = false → (PC Try.prog 153 [.agg [.sl (.ints U), .sl (.rows E)], .sl (.ints set)] (.one (.d (.int .i64 (Ji E set))))) ∧ (((Ji E set) = (if (J0 U E && Ja set 0 ((U.length : Int) - 1) && decide (0 < set.length)) = true then Ji E set else 0)) ∧ (true = (J0 U E && Ja set 0 ((U.length : Int) - 1) && decide (0 < set.length))))))
theorem J5P (U : ZI) (E : ZR) (set : ZI)  (w_Open : (U.length : Int) ≤ 9223372036854775807) (w_Dist : (E.length : Int) ≤ 9223372036854775807) (v_Dist : ∀ x9 ∈ E, (x9.length : Int) ≤ 9223372036854775807) (w_set : (set.length : Int) ≤ 9223372036854775807) : J3m U E set := by
  unfold J3m
  refine ⟨J66 U E set, ?_, ?_⟩
  ·intro b1
   try simp only [Bool.not_eq_true', Bool.not_eq_false', Bool.not_not] at b1
   refine ⟨?_, ?_⟩
   ·have hq : (J0 U E && Ja set 0 ((U.length : Int) - 1) && decide (0 < set.length)) = false := by simpa only [Bool.not_eq_true', Bool.not_eq_false', Bool.not_not] using b1
    rw [hq]; rfl
   first | omega | rfl | (intro hg; simp only [nrmT] at hg; omega) | (intro g1 g2; simp [g1, g2]; done) | (intro g1; simp at g1 ⊢; simp [g1]; done) | (simp only [nrmT] at *; omega) | (simp at * <;> omega) | (simp_all <;> omega) | (simp_all; done)
  intro b2
  try simp only [Bool.not_eq_true', Bool.not_eq_false', Bool.not_not] at b2
  refine ⟨?_, ?_, ?_⟩
  ·refine J0s U E set ?_
   ·first | omega | rfl | (intro hg; simp only [nrmT] at hg; omega) | (intro g1 g2; simp [g1, g2]; done) | (intro g1; simp at g1 ⊢; simp [g1]; done) | (simp only [nrmT] at *; omega) | (simp at * <;> omega) | (simp_all <;> omega) | (simp_all; done)
  ·have hq : (J0 U E && Ja set 0 ((U.length : Int) - 1) && decide (0 < set.length)) = true := by simpa only [Bool.not_eq_true', Bool.not_eq_false', Bool.not_not] using b2
   rw [if_pos hq]
  first | omega | rfl | (intro hg; simp only [nrmT] at hg; omega) | (intro g1 g2; simp [g1, g2]; done) | (intro g1; simp at g1 ⊢; simp [g1]; done) | (simp only [nrmT] at *; omega) | (simp at * <;> omega) | (simp_all <;> omega) | (simp_all; done)
theorem J5D (U : ZI) (E : ZR) (set : ZI)  : PC Try.prog 60 [.agg [.sl (.ints U), .sl (.rows E)], .sl (.ints set)] (.tup [.d (.int .i64 (if (J0 U E && Ja set 0 ((U.length : Int) - 1) && decide (0 < set.length)) = true then Ji E set else 0)), .d (.bool (J0 U E && Ja set 0 ((U.length : Int) - 1) && decide (0 < set.length)))]) :=
  pc_wf @Try.call60 fun hw => pc_by (by kernel_rfl) Try.func60 @Try.call60 (by kernel_rfl) J6k (J69 U E set) (by kernel_rfl) (J5P U E set hw.1.1 hw.1.2.1.1 hw.1.2.1.2 hw.2.1) (by kernel_rfl)
def J4U : List D → Orc := orcN [none, some .ints] fun ds => match ds with
  | [.agg [.sl (.ints U), .sl (.rows E)], .sl (.ints set)] => some (.tup [.d (.int .i64 (if (J0 U E && Ja set 0 ((U.length : Int) - 1) && decide (0 < set.length)) = true then Ji E set else 0)), .d (.bool (J0 U E && Ja set 0 ((U.length : Int) - 1) && decide (0 < set.length)))])
  | _ => none
theorem J8i {U : ZI} {D : ZR} {k : Int} {s : ZI} (hs : Ja s 0 ((U.length : Int) - 1) = true) (hp : 0 < s.length) (hk : (s.length : Int) = k) : Ji D (J0S U D k) ≤ Ji D s :=
  J8e (v := Ji D) s (List.mem_filter.2 ⟨by rw [Int.toNat_natCast]; exact J8F hs hp, by simpa using hk⟩)
/-- The node above. -/
def upN (ps : ZI) (x : Nat) : Nat := (ps.getD x 0).toNat
def JN (ps : ZI) : Prop := ∀ x : Nat, 0 < x → x < ps.length → 0 ≤ ps.getD x 0 ∧ upN ps x < x
/-- z lies on the way from x to the root. -/
def J4v (ps : ZI) : Nat → Nat → Nat → Bool
  | 0, z, x => decide (x = z)
  | f + 1, z, x => decide (x = z) || (decide (0 < x) && J4v ps f z (upN ps x))
def anc (ps : ZI) (z x : Nat) : Bool := J4v ps x z x
theorem J3K {ps : ZI} (ht : JN ps) {z : Nat} : ∀ f x, x ≤ f → x < ps.length → J4v ps f z x = J4v ps x z x
  | 0, x, h, _ => by
    have : x = 0 := by omega
    subst this; rfl
  | f + 1, x, h, hx => by
    by_cases e : x = 0
    · subst e
      show (decide (0 = z) || (decide (0 < 0) && _)) = decide (0 = z)
      simp
    obtain ⟨y, rfl⟩ : ∃ y, x = y + 1 := ⟨x - 1, by omega⟩
    have hu := (ht (y + 1) (by omega) hx).2
    show (_ || (_ && J4v ps f z (upN ps (y + 1)))) = (_ || (_ && J4v ps y z (upN ps (y + 1))))
    rw [J3K ht f _ (by omega) (by omega), J3K ht y _ (by omega) (by omega)]
theorem J03 {ps : ZI} (ht : JN ps) {z x : Nat} (h0 : 0 < x) (hx : x < ps.length) : anc ps z x = (decide (x = z) || anc ps z (upN ps x)) := by
  obtain ⟨y, rfl⟩ : ∃ y, x = y + 1 := ⟨x - 1, by omega⟩
  have hu := (ht (y + 1) (by omega) hx).2
  show (_ || (decide (0 < y + 1) && J4v ps y z (upN ps (y + 1)))) = _
  rw [J3K ht y _ (by omega) (by omega), decide_eq_true (show 0 < y + 1 by omega), Bool.true_and]
  rfl
theorem J3d (ps : ZI) (z : Nat) : anc ps z 0 = decide (0 = z) := rfl
theorem J2D {ps : ZI} (ht : JN ps) {z : Nat} : ∀ x, x < ps.length → anc ps z x = true → z ≤ x
  | x, hx, h => by
    by_cases e : x = 0
    · subst e; rw [J3d, decide_eq_true_eq] at h; omega
    have hu := (ht x (by omega) hx).2
    rw [J03 ht (by omega) hx, Bool.or_eq_true, decide_eq_true_eq] at h
    rcases h with h | h
    · omega
    have := J2D ht (upN ps x) (by omega) h; omega
/-- The length of the way between two nodes: the edges above nodes that lie on the way from one of them alone to the root. -/
def tdF (ps ls : ZI) (x y z : Nat) : Int := if (anc ps z x != anc ps z y) = true then ls.getD z 0 else 0
def tdL (ps ls : ZI) (x y : Nat) : Int := Jb (tdF ps ls x y) ps.length
theorem J3f (ps ls : ZI) (x : Nat) : tdL ps ls x x = 0 := by
  unfold tdL
  rw [← J06 ps.length]
  refine Jg fun z _ => ?_
  unfold tdF
  rw [if_neg (by simp)]
theorem J7 (ps ls : ZI) (x y : Nat) : tdL ps ls x y = tdL ps ls y x := by
  unfold tdL
  refine Jg fun z _ => ?_
  unfold tdF
  cases anc ps z x <;> cases anc ps z y <;> rfl
theorem J7l {ps ls : ZI} (hl : ∀ z, z < ps.length → 0 ≤ ls.getD z 0) (x y w : Nat) : tdL ps ls x y ≤ tdL ps ls x w + tdL ps ls w y := by
  unfold tdL
  rw [← J0N]
  refine J0W _ fun z hz => ?_
  have h := hl z hz
  unfold tdF
  generalize ls.getD z 0 = v at h ⊢
  cases anc ps z x <;> cases anc ps z y <;> cases anc ps z w <;> simp <;> omega
theorem J8 {ps ls : ZI} (ht : JN ps) {x y : Nat} (hxy : y < x) (hx : x < ps.length) : tdL ps ls x y = ls.getD x 0 + tdL ps ls (upN ps x) y := by
  have hu := (ht x (by omega) hx).2
  have e : ls.getD x 0 = Jb (fun z => if z = x then ls.getD z 0 else 0) ps.length := (J31 (f := fun z => ls.getD z 0) ps.length hx).symm
  rw [e]
  unfold tdL
  rw [← J0N]
  refine Jg fun z hz => ?_
  unfold tdF
  rw [J03 ht (by omega) hx]
  by_cases q : z = x
  · subst q
    have h1 : anc ps z y = false := by
      cases h : anc ps z y with
      | false => rfl
      | true => have := J2D ht y (by omega) h; omega
    have h2 : anc ps z (upN ps z) = false := by
      cases h : anc ps z (upN ps z) with
      | false => rfl
      | true => have := J2D ht _ (by omega) h; omega
    rw [h1, h2]
    simp
  rw [decide_eq_false (show ¬ x = z by omega), Bool.false_or, if_neg q]
  omega
theorem J26 (ps : ZI) (x : Nat) : anc ps x x = true := by
  unfold anc
  cases x with
  | zero => rfl
  | succ y => show (decide (y + 1 = y + 1) || _) = true; simp
theorem J3R {ps : ZI} (ht : JN ps) {a b : Nat} (h : anc ps a b = true) : ∀ y, y < ps.length → anc ps b y = true → anc ps a y = true
  | y, hy, h2 => by
    by_cases e : y = b
    · subst e; exact h
    by_cases e0 : y = 0
    · subst e0; rw [J3d, decide_eq_true_eq] at h2; omega
    · have hu := (ht y (by omega) hy).2
      rw [J03 ht (by omega) hy, decide_eq_false e, Bool.false_or] at h2
      rw [J03 ht (by omega) hy, J3R ht h (upN ps y) (by omega) h2, Bool.or_true]
theorem J3A {ps : ZI} (ht : JN ps) {a b : Nat} : ∀ y, y < ps.length → anc ps a y = true → anc ps b y = true → anc ps a b = true ∨ anc ps b a = true
  | y, hy, h1, h2 => by
    by_cases ea : y = a
    · subst ea; exact .inr h2
    by_cases eb : y = b
    · subst eb; exact .inl h1
    · by_cases e0 : y = 0
      · subst e0; rw [J3d, decide_eq_true_eq] at h1; omega
      · have hu := (ht y (by omega) hy).2
        rw [J03 ht (by omega) hy, decide_eq_false ea, Bool.false_or] at h1
        rw [J03 ht (by omega) hy, decide_eq_false eb, Bool.false_or] at h2
        exact J3A ht (upN ps y) (by omega) h1 h2
theorem J3M {ps : ZI} (ht : JN ps) {m : Nat} : ∀ z, z < ps.length → z ≠ m → anc ps m z = true → ∃ c, 0 < c ∧ c < ps.length ∧ upN ps c = m ∧ anc ps c z = true
  | z, hz, hne, h => by
    by_cases e0 : z = 0
    · subst e0; rw [J3d, decide_eq_true_eq] at h; omega
    have hu := (ht z (by omega) hz).2
    rw [J03 ht (by omega) hz, decide_eq_false hne, Bool.false_or] at h
    by_cases e : upN ps z = m
    · exact ⟨z, by omega, hz, e, J26 ps z⟩
    obtain ⟨c, c1, c2, c3, c4⟩ := J3M ht (upN ps z) (by omega) e h
    exact ⟨c, c1, c2, c3, by rw [J03 ht (by omega) hz, c4, Bool.or_true]⟩
/-- The weight of a node and of all nodes below it. -/
def J0R (ps ws : ZI) (z y : Nat) : Int := if anc ps z y = true then ws.getD y 0 else 0
def bel (ps ws : ZI) (z : Nat) : Int := Jb (J0R ps ws z) ps.length
def Jn (ps ws : ZI) : Int := Jb (fun y => ws.getD y 0) ps.length
theorem J6R {ps ws : ZI} (ht : JN ps) (hw : ∀ y, y < ps.length → 0 ≤ ws.getD y 0) {a b : Nat} (h : anc ps a b = true) : bel ps ws b ≤ bel ps ws a :=
  J0W _ fun y hy => by
    unfold J0R
    have := hw y hy
    by_cases q : anc ps b y = true
    · rw [if_pos q, if_pos (J3R ht h y hy q)]; omega
    rw [if_neg q]; split <;> omega
theorem J8c {ps ws : ZI} (ht : JN ps) (hw : ∀ y, y < ps.length → 0 ≤ ws.getD y 0) {a b : Nat} (h1 : anc ps a b = false) (h2 : anc ps b a = false) : bel ps ws a + bel ps ws b ≤ Jn ps ws := by
  unfold bel Jn
  rw [← J0N]
  refine J0W _ fun y hy => ?_
  unfold J0R
  have := hw y hy
  by_cases q : anc ps a y = true
  · rw [if_pos q]
    by_cases q2 : anc ps b y = true
    · rcases J3A ht y hy q q2 with h | h
      · rw [h] at h1; cases h1
      · rw [h] at h2; cases h2
    rw [if_neg q2]; omega
  rw [if_neg q]; split <;> omega
/-- A node without which no part has more than half of all weights. -/
def J6v (ps ws : ZI) (m : Nat) : Prop := m < ps.length ∧ 2 * (Jn ps ws - bel ps ws m) ≤ Jn ps ws ∧ ∀ c, 0 < c → c < ps.length → upN ps c = m → 2 * bel ps ws c ≤ Jn ps ws
/-- The weighted sum of the lengths to a node. -/
def J0y (ps ls ws : ZI) (x : Nat) : Int := Jb (fun y => ws.getD y 0 * tdL ps ls y x) ps.length
theorem J38 (f : Nat → Nat → Int) (m : Nat) : ∀ n, Jb (fun y => Jb (f y) m) n = Jb (fun z => Jb (fun y => f y z) n) m
  | 0 => (J06 m).symm
  | n + 1 => by
    rw [JI, J38 f m n, ← J0N]
    rfl
theorem J7h (ps ls ws : ZI) (x : Nat) : J0y ps ls ws x = Jb (fun z => ls.getD z 0 * (if anc ps z x = true then Jn ps ws - bel ps ws z else bel ps ws z)) ps.length := by
  unfold J0y tdL
  have e : (fun y => ws.getD y 0 * Jb (tdF ps ls y x) ps.length) = fun y => Jb (fun z => ws.getD y 0 * tdF ps ls y x z) ps.length := by
    funext y; rw [J3I]
  rw [e, J38]
  refine Jg fun z _ => ?_
  have e2 : (if anc ps z x = true then Jn ps ws - bel ps ws z else bel ps ws z) = Jb (fun y => if (anc ps z y != anc ps z x) = true then ws.getD y 0 else 0) ps.length := by
    by_cases q : anc ps z x = true
    · rw [if_pos q]
      have : Jn ps ws = bel ps ws z + Jb (fun y => if (anc ps z y != anc ps z x) = true then ws.getD y 0 else 0) ps.length := by
        unfold bel Jn
        rw [← J0N]
        refine Jg fun y _ => ?_
        unfold J0R
        rw [q]
        cases anc ps z y <;> simp
      omega
    have q : anc ps z x = false := by cases h : anc ps z x with | false => rfl | true => exact absurd h q
    rw [if_neg (by rw [q]; decide)]
    unfold bel
    refine Jg fun y _ => ?_
    unfold J0R
    rw [q]
    cases anc ps z y <;> simp
  rw [e2, ← J3I]
  refine Jg fun y _ => ?_
  unfold tdF
  split
  · exact Int.mul_comm _ _
  rw [Int.mul_zero, Int.mul_zero]
theorem J6V {ps ls ws : ZI} (ht : JN ps) (hl : ∀ z, z < ps.length → 0 ≤ ls.getD z 0) (hw : ∀ y, y < ps.length → 0 ≤ ws.getD y 0) {m : Nat} (hm : J6v ps ws m) (x : Nat) : J0y ps ls ws m ≤ J0y ps ls ws x := by
  obtain ⟨h1, h2, h3⟩ := hm
  rw [J7h, J7h]
  refine J0W _ fun z hz => Int.mul_le_mul_of_nonneg_left ?_ (hl z hz)
  have key : (anc ps z m = true → Jn ps ws - bel ps ws z ≤ bel ps ws z) ∧ (anc ps z m = false → bel ps ws z ≤ Jn ps ws - bel ps ws z) := by
    refine ⟨fun h => ?_, fun h => ?_⟩
    · have := J6R ht hw h; omega
    cases q : anc ps m z with
    | true =>
      have hne : z ≠ m := fun e => by rw [e, J26] at h; cases h
      obtain ⟨c, c1, c2, c3, c4⟩ := J3M ht z hz hne q
      have := J6R ht hw c4
      have := h3 c c1 c2 c3
      omega
    | false =>
      have := J8c ht hw h q
      omega
  cases h : anc ps z m with
  | true =>
    have := key.1 h
    rw [if_pos rfl]
    split <;> omega
  | false =>
    have := key.2 h
    rw [if_neg (by decide)]
    split <;> omega
def J0D (ps : ZI) (i : Nat) : Bool := if i = 0 then decide (ps.getD 0 0 = -1) else inB (ps.getD i 0) 0 ((i : Int) - 1)
def J2 (ps : ZI) : Bool := inB (ps.length : Int) 1 7 && allTo (J0D ps) ps.length
theorem J4 {ps : ZI} (h : J2 ps = true) : 1 ≤ ps.length ∧ ps.length ≤ 7 ∧ ps.getD 0 0 = -1 ∧ JN ps := by
  unfold J2 at h
  rw [Bool.and_eq_true] at h
  have h1 := JJ h.1
  have h2 := allTo_iff.1 h.2
  refine ⟨by omega, by omega, ?_, fun x h0 hx => ?_⟩
  · have := h2 0 (by omega)
    unfold J0D at this
    rw [if_pos rfl] at this
    exact of_decide_eq_true this
  have := h2 x hx
  unfold J0D at this
  rw [if_neg (by omega)] at this
  have := JJ this
  unfold upN
  omega
theorem J8b {ps ls : ZI} (hl : ∀ z, z < ps.length → 0 ≤ ls.getD z 0 ∧ ls.getD z 0 ≤ 99) (x y : Nat) : 0 ≤ tdL ps ls x y ∧ tdL ps ls x y ≤ 99 * (ps.length : Int) :=
  J1p _ fun z hz => by
    have := hl z hz
    unfold tdF
    split <;> omega
abbrev J1L (parents : ZI) (i : Int) : Prop := (0 ≤ i) ∧ (i ≤ (parents.length : Int)) ∧ (allTo (J0D parents) i.toNat = true)
abbrev J1a (parents : ZI) (i : Int) : Nat := (parents.length - i).toNat
def J7w (f : FuncId) (ds : List D) : Orc := bif Nat.beq f 116 then J3g ds else .no
def J7H (parents : ZI) : Ann := .two (.none) (.two (.two (.none) (.loop (cut1 (fun (i : Int) => J1L parents i) (fun (i : Int) => [(0, .d false (.sl (.ints parents))), (3, .d true (.int .i64 i))]) (fun (i : Int) => [])) (fun g => J1a parents g) (fun _ => .none))) (.none))
def J5a (parents : ZI) : Prop :=
  ((∃ i' : Int, (J1L parents i') ∧ (parents = parents) ∧ ((0 : Int) = i')) ∧ (∀ i : Int, (J1L parents i) → (((decide (i < (parents.length : Int))) = true → ((i == 0) = true → (i == 0) = true) ∧ ((i == 0) = true → (i == 0) = true) ∧ (((i == 0) = true → (0 : Int) ≤ i)) ∧ (((i == 0) = true → (i : Int) < parents.length)) ∧ ((i == 0) = true → (i == 0) = true) ∧ (((i == 0) = true → i.toNat < parents.length)) ∧ ((i == 0) = true → (i == 0) = true) ∧ (true = true) ∧ (((i == 0) = true → (i == 0) = true)) ∧ (((i == 0) = false → true = true)) ∧ ((!(cond (i == 0) ((parents.getD i.toNat 0) != (-1)) false)) = true → (!(cond (i == 0) ((parents.getD i.toNat 0) != (-1)) false)) = true) ∧ ((!(cond (i == 0) ((parents.getD i.toNat 0) != (-1)) false)) = true → (!(cond (i == 0) ((parents.getD i.toNat 0) != (-1)) false)) = true) ∧ (((!(cond (i == 0) ((parents.getD i.toNat 0) != (-1)) false)) && (decide (i > 0))) = true → ((!(cond (i == 0) ((parents.getD i.toNat 0) != (-1)) false)) && (decide (i > 0))) = true) ∧ (((!(cond (i == 0) ((parents.getD i.toNat 0) != (-1)) false)) && (decide (i > 0))) = true → ((!(cond (i == 0) ((parents.getD i.toNat 0) != (-1)) false)) && (decide (i > 0))) = true) ∧ ((((!(cond (i == 0) ((parents.getD i.toNat 0) != (-1)) false)) && (decide (i > 0))) = true → (0 : Int) ≤ i)) ∧ ((((!(cond (i == 0) ((parents.getD i.toNat 0) != (-1)) false)) && (decide (i > 0))) = true → (i : Int) < parents.length)) ∧ (((!(cond (i == 0) ((parents.getD i.toNat 0) != (-1)) false)) && (decide (i > 0))) = true → ((!(cond (i == 0) ((parents.getD i.toNat 0) != (-1)) false)) && (decide (i > 0))) = true) ∧ ((((!(cond (i == 0) ((parents.getD i.toNat 0) != (-1)) false)) && (decide (i > 0))) = true → i.toNat < parents.length)) ∧ (((!(cond (i == 0) ((parents.getD i.toNat 0) != (-1)) false)) && (decide (i > 0))) = true → ((!(cond (i == 0) ((parents.getD i.toNat 0) != (-1)) false)) && (decide (i > 0))) = true) ∧ ((((!(cond (i == 0) ((parents.getD i.toNat 0) != (-1)) false)) && (decide (i > 0))) = true → I6 (i - 1))) ∧ (((!(cond (i == 0) ((parents.getD i.toNat 0) != (-1)) false)) && (decide (i > 0))) = true → ((!(cond (i == 0) ((parents.getD i.toNat 0) != (-1)) false)) && (decide (i > 0))) = true) ∧ (((!(cond (i == 0) ((parents.getD i.toNat 0) != (-1)) false)) && (decide (i > 0))) = true → ((!(cond (i == 0) ((parents.getD i.toNat 0) != (-1)) false)) && (decide (i > 0))) = true) ∧ (((!(cond (i == 0) ((parents.getD i.toNat 0) != (-1)) false)) && (decide (i > 0))) = true → PC Try.prog 116 [.int .i64 (parents.getD i.toNat 0), .int .i64 0, .int .i64 (i - 1)] (.one (.d (.bool (inB (parents.getD i.toNat 0) 0 (i - 1)))))) ∧ (((!(cond (i == 0) ((parents.getD i.toNat 0) != (-1)) false)) && (decide (i > 0))) = true → ((!(cond (i == 0) ((parents.getD i.toNat 0) != (-1)) false)) && (decide (i > 0))) = true) ∧ (((!(cond (i == 0) ((parents.getD i.toNat 0) != (-1)) false)) = true → (!(cond (i == 0) ((parents.getD i.toNat 0) != (-1)) false)) = true)) ∧ (((!(cond (i == 0) ((parents.getD i.toNat 0) != (-1)) false)) = true → (decide (i > 0)) = true → ((!(cond (i == 0) ((parents.getD i.toNat 0) != (-1)) false)) && (decide (i > 0))) = true)) ∧ (((!(cond (i == 0) ((parents.getD i.toNat 0) != (-1)) false)) = true → (decide (i > 0)) = false → true = true)) ∧ (true = true) ∧ (((cond (i == 0) ((parents.getD i.toNat 0) != (-1)) false) = true → true = true)) ∧ (((cond (i == 0) ((parents.getD i.toNat 0) != (-1)) false) = false → (!(cond (i == 0) ((parents.getD i.toNat 0) != (-1)) false)) = true)) ∧ (((cond (cond (i == 0) ((parents.getD i.toNat 0) != (-1)) false) true (cond (decide (i > 0)) (!(inB (parents.getD i.toNat 0) 0 (i - 1))) false)) = true → ((false = (J2 parents)))) ∧ ((cond (cond (i == 0) ((parents.getD i.toNat 0) != (-1)) false) true (cond (decide (i > 0)) (!(inB (parents.getD i.toNat 0) 0 (i - 1))) false)) = false → (I6 (i + 1)) ∧ (∃ i' : Int, (J1L parents i') ∧ (J1a parents i' < J1a parents i) ∧ (parents = parents) ∧ ((i + 1) = i'))))) ∧ ((decide (i < (parents.length : Int))) = false → (PC Try.prog 116 [.int .i64 (parents.length : Int), .int .i64 1, .int .i64 7] (.one (.d (.bool (inB (parents.length : Int) 1 7))))) ∧ (((inB (parents.length : Int) 1 7) = (J2 parents)))))))
theorem J7c (parents : ZI)  (w_parents : (parents.length : Int) ≤ 9223372036854775807) : J5a parents := by
  unfold J5a
  refine ⟨?_, ?_⟩
  ·refine ⟨0, ?_⟩
   refine ⟨?_, rfl, rfl⟩
   ·refine ⟨?_, ?_, ?_⟩
    ·first | omega | rfl | (intro hg; simp only [nrmT] at hg; omega) | (intro g1 g2; simp [g1, g2]; done) | (intro g1; simp at g1 ⊢; simp [g1]; done) | (simp only [nrmT] at *; omega) | (simp at * <;> omega) | (simp_all <;> omega) | (simp_all; done)
    ·first | omega | rfl | (intro hg; simp only [nrmT] at hg; omega) | (intro g1 g2; simp [g1, g2]; done) | (intro g1; simp at g1 ⊢; simp [g1]; done) | (simp only [nrmT] at *; omega) | (simp at * <;> omega) | (simp_all <;> omega) | (simp_all; done)
    ·first | omega | rfl | (intro hg; simp only [nrmT] at hg; omega) | (intro g1 g2; simp [g1, g2]; done) | (intro g1; simp at g1 ⊢; simp [g1]; done) | (simp only [nrmT] at *; omega) | (simp at * <;> omega) | (simp_all <;> omega) | (simp_all; done)
  intro i hJ
  obtain ⟨h1, h2, h3⟩ := hJ
  refine ⟨?_, ?_⟩
  ·intro b1
   try simp only [nrmT] at b1
   refine ⟨id, id, ?_, ?_, id, ?_, id, rfl, id, fun _ => rfl, id, id, id, id, ?_, ?_, id, ?_, id, ?_, id, id, fun _ => J2T (parents.getD i.toNat 0) 0 (i - 1), id, id, ?_, fun _ _ => rfl, rfl, fun _ => rfl, ?_, ?_, ?_⟩
   ·first | omega | rfl | (intro hg; simp only [nrmT] at hg; omega) | (intro g1 g2; simp [g1, g2]; done) | (intro g1; simp at g1 ⊢; simp [g1]; done) | (simp only [nrmT] at *; omega) | (simp at * <;> omega) | (simp_all <;> omega) | (simp_all; done)
   ·first | omega | rfl | (intro hg; simp only [nrmT] at hg; omega) | (intro g1 g2; simp [g1, g2]; done) | (intro g1; simp at g1 ⊢; simp [g1]; done) | (simp only [nrmT] at *; omega) | (simp at * <;> omega) | (simp_all <;> omega) | (simp_all; done)
   ·first | omega | rfl | (intro hg; simp only [nrmT] at hg; omega) | (intro g1 g2; simp [g1, g2]; done) | (intro g1; simp at g1 ⊢; simp [g1]; done) | (simp only [nrmT] at *; omega) | (simp at * <;> omega) | (simp_all <;> omega) | (simp_all; done)
   ·first | omega | rfl | (intro hg; simp only [nrmT] at hg; omega) | (intro g1 g2; simp [g1, g2]; done) | (intro g1; simp at g1 ⊢; simp [g1]; done) | (simp only [nrmT] at *; omega) | (simp at * <;> omega) | (simp_all <;> omega) | (simp_all; done)
   ·first | omega | rfl | (intro hg; simp only [nrmT] at hg; omega) | (intro g1 g2; simp [g1, g2]; done) | (intro g1; simp at g1 ⊢; simp [g1]; done) | (simp only [nrmT] at *; omega) | (simp at * <;> omega) | (simp_all <;> omega) | (simp_all; done)
   ·first | omega | rfl | (intro hg; simp only [nrmT] at hg; omega) | (intro g1 g2; simp [g1, g2]; done) | (intro g1; simp at g1 ⊢; simp [g1]; done) | (simp only [nrmT] at *; omega) | (simp at * <;> omega) | (simp_all <;> omega) | (simp_all; done)
   ·first | omega | rfl | (intro hg; simp only [nrmT] at hg; omega) | (intro g1 g2; simp [g1, g2]; done) | (intro g1; simp at g1 ⊢; simp [g1]; done) | (simp only [nrmT] at *; omega) | (simp at * <;> omega) | (simp_all <;> omega) | (simp_all; done)
   ·first | omega | rfl | (intro hg; simp only [nrmT] at hg; omega) | (intro g1 g2; simp [g1, g2]; done) | (intro g1; simp at g1 ⊢; simp [g1]; done) | (simp only [nrmT] at *; omega) | (simp at * <;> omega) | (simp_all <;> omega) | (simp_all; done)
   ·first | omega | rfl | (intro hg; simp only [nrmT] at hg; omega) | (intro g1 g2; simp [g1, g2]; done) | (intro g1; simp at g1 ⊢; simp [g1]; done) | (simp only [nrmT] at *; omega) | (simp at * <;> omega) | (simp_all <;> omega) | (simp_all; done)
   ·intro b2
    unfold J2
    rw [show allTo (J0D parents) parents.length = false from allTo_falseI h1 (by omega) ?_, Bool.and_false]
    unfold J0D
    by_cases e : i = 0
    · subst e; simpa using b2
    rw [if_neg (by omega), show ((i.toNat : Nat) : Int) = i by omega]
    have hp : decide (i > 0) = true := decide_eq_true (by omega)
    have he : (i == 0) = false := beq_eq_false_iff_ne.2 e
    rw [he, hp] at b2
    simpa using b2
   intro b3
   refine ⟨?_, ?_⟩
   ·first | omega | rfl | (intro hg; simp only [nrmT] at hg; omega) | (intro g1 g2; simp [g1, g2]; done) | (intro g1; simp at g1 ⊢; simp [g1]; done) | (simp only [nrmT] at *; omega) | (simp at * <;> omega) | (simp_all <;> omega) | (simp_all; done)
   refine ⟨(i + 1), ?_⟩
   refine ⟨?_, ?_, rfl, rfl⟩
   ·refine ⟨?_, ?_, ?_⟩
    ·first | omega | rfl | (intro hg; simp only [nrmT] at hg; omega) | (intro g1 g2; simp [g1, g2]; done) | (intro g1; simp at g1 ⊢; simp [g1]; done) | (simp only [nrmT] at *; omega) | (simp at * <;> omega) | (simp_all <;> omega) | (simp_all; done)
    ·first | omega | rfl | (intro hg; simp only [nrmT] at hg; omega) | (intro g1 g2; simp [g1, g2]; done) | (intro g1; simp at g1 ⊢; simp [g1]; done) | (simp only [nrmT] at *; omega) | (simp at * <;> omega) | (simp_all <;> omega) | (simp_all; done)
    ·refine allTo_step h1 h3 ?_
     unfold J0D
     by_cases e : i = 0
     · subst e; simpa using b3
     rw [if_neg (by omega), show ((i.toNat : Nat) : Int) = i by omega]
     have hp : decide (i > 0) = true := decide_eq_true (by omega)
     have he : (i == 0) = false := beq_eq_false_iff_ne.2 e
     rw [he, hp] at b3
     simpa using b3
   first | (show _ < _; omega) | (simp only [J1a]; omega) | (simp only [J1a] at *; simp at *; omega)
  intro b4
  try simp only [nrmT] at b4
  refine ⟨J2T (parents.length : Int) 1 7, ?_⟩
  ·have h9 : allTo (J0D parents) parents.length = true := by rw [show parents.length = i.toNat by omega]; exact h3
   unfold J2
   rw [h9, Bool.and_true]
theorem J4k (parents : ZI)  : PC Try.prog 146 [.sl (.ints parents)] (.one (.d (.bool (J2 parents)))) :=
  pc_wf @Try.call146 fun hw => pc_by (by kernel_rfl) Try.func146 @Try.call146 (by kernel_rfl) J7w (J7H parents) (by kernel_rfl) (J7c parents hw.1) (by kernel_rfl)
def J3B : List D → Orc := orcN [some .ints] fun ds => match ds with
  | [.sl (.ints parents)] => some (.one (.d (.bool (J2 parents))))
  | _ => none
abbrev J0Z (parents : ZI) (lengths : ZI) (x : Int) (y : Int) (x1 : Int) (y1 : Int) (sum : Int) : Prop := (0 ≤ x1 ∧ x1 < (parents.length : Int)) ∧ (0 ≤ y1 ∧ y1 < (parents.length : Int)) ∧ (sum + tdL parents lengths x1.toNat y1.toNat = tdL parents lengths x.toNat y.toNat) ∧ (0 ≤ sum)
abbrev J0Y (parents : ZI) (lengths : ZI) (x : Int) (y : Int) (x1 : Int) (y1 : Int) (sum : Int) : Nat := (x1 + y1).toNat
def J76 (f : FuncId) (ds : List D) : Orc := .no
def J7b (parents : ZI) (lengths : ZI) (x : Int) (y : Int) : Ann := .two (.none) (.two (.none) (.two (.loop (cut3 (fun (x1 : Int) (y1 : Int) (sum : Int) => J0Z parents lengths x y x1 y1 sum) (fun (x1 : Int) (y1 : Int) (sum : Int) => [(0, .d false (.sl (.ints parents))), (1, .d false (.sl (.ints lengths))), (2, .d true (.int .i64 x1)), (3, .d true (.int .i64 y1)), (9, .d true (.int .i64 sum))]) (fun (x1 : Int) (y1 : Int) (sum : Int) => [])) (fun g => J0Y parents lengths x y g.1 g.2.1 g.2.2) (fun _ => .none)) (.none)))
def J4l (parents : ZI) (lengths : ZI) (x : Int) (y : Int) : Prop :=
  ((∃ x1' : Int, ∃ y1' : Int, ∃ sum' : Int, (J0Z parents lengths x y x1' y1' sum') ∧ (parents = parents) ∧ (lengths = lengths) ∧ (x = x1') ∧ (y = y1') ∧ ((0 : Int) = sum')) ∧ (∀ x1 : Int, ∀ y1 : Int, ∀ sum : Int, (J0Z parents lengths x y x1 y1 sum) → (((x1 != y1) = true → (((decide (x1 > y1)) = true → ((0 : Int) ≤ x1) ∧ ((x1 : Int) < lengths.length) ∧ (x1.toNat < lengths.length) ∧ (I6 (sum + (lengths.getD x1.toNat 0))) ∧ ((0 : Int) ≤ x1) ∧ ((x1 : Int) < parents.length) ∧ (x1.toNat < parents.length) ∧ (∃ x1' : Int, ∃ y1' : Int, ∃ sum' : Int, (J0Z parents lengths x y x1' y1' sum') ∧ (J0Y parents lengths x y x1' y1' sum' < J0Y parents lengths x y x1 y1 sum) ∧ (parents = parents) ∧ (lengths = lengths) ∧ ((parents.getD x1.toNat 0) = x1') ∧ (y1 = y1') ∧ ((sum + (lengths.getD x1.toNat 0)) = sum'))) ∧ ((decide (x1 > y1)) = false → ((0 : Int) ≤ y1) ∧ ((y1 : Int) < lengths.length) ∧ (y1.toNat < lengths.length) ∧ (I6 (sum + (lengths.getD y1.toNat 0))) ∧ ((0 : Int) ≤ y1) ∧ ((y1 : Int) < parents.length) ∧ (y1.toNat < parents.length) ∧ (∃ x1' : Int, ∃ y1' : Int, ∃ sum' : Int, (J0Z parents lengths x y x1' y1' sum') ∧ (J0Y parents lengths x y x1' y1' sum' < J0Y parents lengths x y x1 y1 sum) ∧ (parents = parents) ∧ (lengths = lengths) ∧ (x1 = x1') ∧ ((parents.getD y1.toNat 0) = y1') ∧ ((sum + (lengths.getD y1.toNat 0)) = sum'))))) ∧ ((x1 != y1) = false → ((sum = (tdL parents lengths x.toNat y.toNat)))))))
theorem J6Z (parents : ZI) (lengths : ZI) (x : Int) (y : Int) (ht : J2 parents = true) (hl : lengths.length = parents.length) (hr : ∀ z, z < parents.length → 0 ≤ lengths.getD z 0 ∧ lengths.getD z 0 ≤ 99) (hx : 0 ≤ x ∧ x < (parents.length : Int)) (hy : 0 ≤ y ∧ y < (parents.length : Int)) (w_parents : (parents.length : Int) ≤ 9223372036854775807) (w_lengths : (lengths.length : Int) ≤ 9223372036854775807) : J4l parents lengths x y := by
  unfold J4l
  obtain ⟨t1, t2, t3, t4⟩ := J4 ht
  have hb := fun x y => J8b hr x y
  refine ⟨?_, ?_⟩
  ·refine ⟨x, y, 0, ?_⟩
   refine ⟨?_, rfl, rfl, rfl, rfl, rfl⟩
   ·refine ⟨?_, ?_, ?_, ?_⟩
    ·first | omega | rfl | (intro hg; simp only [nrmT] at hg; omega) | (intro g1 g2; simp [g1, g2]; done) | (intro g1; simp at g1 ⊢; simp [g1]; done) | (simp only [nrmT] at *; omega) | (simp at * <;> omega) | (simp_all <;> omega) | (simp_all; done)
    ·first | omega | rfl | (intro hg; simp only [nrmT] at hg; omega) | (intro g1 g2; simp [g1, g2]; done) | (intro g1; simp at g1 ⊢; simp [g1]; done) | (simp only [nrmT] at *; omega) | (simp at * <;> omega) | (simp_all <;> omega) | (simp_all; done)
    ·omega
    ·first | omega | rfl | (intro hg; simp only [nrmT] at hg; omega) | (intro g1 g2; simp [g1, g2]; done) | (intro g1; simp at g1 ⊢; simp [g1]; done) | (simp only [nrmT] at *; omega) | (simp at * <;> omega) | (simp_all <;> omega) | (simp_all; done)
  intro x1 y1 sum hJ
  obtain ⟨h1, h2, h3, h4⟩ := hJ
  refine ⟨?_, ?_⟩
  ·intro b1
   try simp only [nrmT] at b1
   refine ⟨?_, ?_⟩
   ·intro b2
    try simp only [nrmT] at b2
    refine ⟨?_, ?_, ?_, ?_, ?_, ?_, ?_, ?_⟩
    ·first | omega | (have hu := t4 x1.toNat (by omega) (by omega); have he := J8 t4 (ls := lengths) (x := x1.toNat) (y := y1.toNat) (by omega) (by omega); have hv := hr x1.toNat (by omega); have hb1 := hb (upN parents x1.toNat) y1.toNat; have hb2 := hb x.toNat y.toNat; unfold upN at hu he hb1; omega) | (have hu := t4 y1.toNat (by omega) (by omega); have he := J8 t4 (ls := lengths) (x := y1.toNat) (y := x1.toNat) (by omega) (by omega); have hs := J7 parents lengths y1.toNat x1.toNat; have hs2 := J7 parents lengths (parents.getD y1.toNat 0).toNat x1.toNat; have hv := hr y1.toNat (by omega); have hb1 := hb (upN parents y1.toNat) x1.toNat; have hb2 := hb x.toNat y.toNat; unfold upN at hu he hb1; omega)
    ·first | omega | (have hu := t4 x1.toNat (by omega) (by omega); have he := J8 t4 (ls := lengths) (x := x1.toNat) (y := y1.toNat) (by omega) (by omega); have hv := hr x1.toNat (by omega); have hb1 := hb (upN parents x1.toNat) y1.toNat; have hb2 := hb x.toNat y.toNat; unfold upN at hu he hb1; omega) | (have hu := t4 y1.toNat (by omega) (by omega); have he := J8 t4 (ls := lengths) (x := y1.toNat) (y := x1.toNat) (by omega) (by omega); have hs := J7 parents lengths y1.toNat x1.toNat; have hs2 := J7 parents lengths (parents.getD y1.toNat 0).toNat x1.toNat; have hv := hr y1.toNat (by omega); have hb1 := hb (upN parents y1.toNat) x1.toNat; have hb2 := hb x.toNat y.toNat; unfold upN at hu he hb1; omega)
    ·first | omega | (have hu := t4 x1.toNat (by omega) (by omega); have he := J8 t4 (ls := lengths) (x := x1.toNat) (y := y1.toNat) (by omega) (by omega); have hv := hr x1.toNat (by omega); have hb1 := hb (upN parents x1.toNat) y1.toNat; have hb2 := hb x.toNat y.toNat; unfold upN at hu he hb1; omega) | (have hu := t4 y1.toNat (by omega) (by omega); have he := J8 t4 (ls := lengths) (x := y1.toNat) (y := x1.toNat) (by omega) (by omega); have hs := J7 parents lengths y1.toNat x1.toNat; have hs2 := J7 parents lengths (parents.getD y1.toNat 0).toNat x1.toNat; have hv := hr y1.toNat (by omega); have hb1 := hb (upN parents y1.toNat) x1.toNat; have hb2 := hb x.toNat y.toNat; unfold upN at hu he hb1; omega)
    ·first | omega | (have hu := t4 x1.toNat (by omega) (by omega); have he := J8 t4 (ls := lengths) (x := x1.toNat) (y := y1.toNat) (by omega) (by omega); have hv := hr x1.toNat (by omega); have hb1 := hb (upN parents x1.toNat) y1.toNat; have hb2 := hb x.toNat y.toNat; unfold upN at hu he hb1; omega) | (have hu := t4 y1.toNat (by omega) (by omega); have he := J8 t4 (ls := lengths) (x := y1.toNat) (y := x1.toNat) (by omega) (by omega); have hs := J7 parents lengths y1.toNat x1.toNat; have hs2 := J7 parents lengths (parents.getD y1.toNat 0).toNat x1.toNat; have hv := hr y1.toNat (by omega); have hb1 := hb (upN parents y1.toNat) x1.toNat; have hb2 := hb x.toNat y.toNat; unfold upN at hu he hb1; omega)
    ·first | omega | (have hu := t4 x1.toNat (by omega) (by omega); have he := J8 t4 (ls := lengths) (x := x1.toNat) (y := y1.toNat) (by omega) (by omega); have hv := hr x1.toNat (by omega); have hb1 := hb (upN parents x1.toNat) y1.toNat; have hb2 := hb x.toNat y.toNat; unfold upN at hu he hb1; omega) | (have hu := t4 y1.toNat (by omega) (by omega); have he := J8 t4 (ls := lengths) (x := y1.toNat) (y := x1.toNat) (by omega) (by omega); have hs := J7 parents lengths y1.toNat x1.toNat; have hs2 := J7 parents lengths (parents.getD y1.toNat 0).toNat x1.toNat; have hv := hr y1.toNat (by omega); have hb1 := hb (upN parents y1.toNat) x1.toNat; have hb2 := hb x.toNat y.toNat; unfold upN at hu he hb1; omega)
    ·first | omega | (have hu := t4 x1.toNat (by omega) (by omega); have he := J8 t4 (ls := lengths) (x := x1.toNat) (y := y1.toNat) (by omega) (by omega); have hv := hr x1.toNat (by omega); have hb1 := hb (upN parents x1.toNat) y1.toNat; have hb2 := hb x.toNat y.toNat; unfold upN at hu he hb1; omega) | (have hu := t4 y1.toNat (by omega) (by omega); have he := J8 t4 (ls := lengths) (x := y1.toNat) (y := x1.toNat) (by omega) (by omega); have hs := J7 parents lengths y1.toNat x1.toNat; have hs2 := J7 parents lengths (parents.getD y1.toNat 0).toNat x1.toNat; have hv := hr y1.toNat (by omega); have hb1 := hb (upN parents y1.toNat) x1.toNat; have hb2 := hb x.toNat y.toNat; unfold upN at hu he hb1; omega)
    ·first | omega | (have hu := t4 x1.toNat (by omega) (by omega); have he := J8 t4 (ls := lengths) (x := x1.toNat) (y := y1.toNat) (by omega) (by omega); have hv := hr x1.toNat (by omega); have hb1 := hb (upN parents x1.toNat) y1.toNat; have hb2 := hb x.toNat y.toNat; unfold upN at hu he hb1; omega) | (have hu := t4 y1.toNat (by omega) (by omega); have he := J8 t4 (ls := lengths) (x := y1.toNat) (y := x1.toNat) (by omega) (by omega); have hs := J7 parents lengths y1.toNat x1.toNat; have hs2 := J7 parents lengths (parents.getD y1.toNat 0).toNat x1.toNat; have hv := hr y1.toNat (by omega); have hb1 := hb (upN parents y1.toNat) x1.toNat; have hb2 := hb x.toNat y.toNat; unfold upN at hu he hb1; omega)
    refine ⟨(parents.getD x1.toNat 0), y1, (sum + (lengths.getD x1.toNat 0)), ?_⟩
    refine ⟨?_, ?_, rfl, rfl, rfl, rfl, rfl⟩
    ·refine ⟨?_, ?_, ?_, ?_⟩
     ·first | omega | (have hu := t4 x1.toNat (by omega) (by omega); have he := J8 t4 (ls := lengths) (x := x1.toNat) (y := y1.toNat) (by omega) (by omega); have hv := hr x1.toNat (by omega); have hb1 := hb (upN parents x1.toNat) y1.toNat; have hb2 := hb x.toNat y.toNat; unfold upN at hu he hb1; omega) | (have hu := t4 y1.toNat (by omega) (by omega); have he := J8 t4 (ls := lengths) (x := y1.toNat) (y := x1.toNat) (by omega) (by omega); have hs := J7 parents lengths y1.toNat x1.toNat; have hs2 := J7 parents lengths (parents.getD y1.toNat 0).toNat x1.toNat; have hv := hr y1.toNat (by omega); have hb1 := hb (upN parents y1.toNat) x1.toNat; have hb2 := hb x.toNat y.toNat; unfold upN at hu he hb1; omega)
     ·first | omega | (have hu := t4 x1.toNat (by omega) (by omega); have he := J8 t4 (ls := lengths) (x := x1.toNat) (y := y1.toNat) (by omega) (by omega); have hv := hr x1.toNat (by omega); have hb1 := hb (upN parents x1.toNat) y1.toNat; have hb2 := hb x.toNat y.toNat; unfold upN at hu he hb1; omega) | (have hu := t4 y1.toNat (by omega) (by omega); have he := J8 t4 (ls := lengths) (x := y1.toNat) (y := x1.toNat) (by omega) (by omega); have hs := J7 parents lengths y1.toNat x1.toNat; have hs2 := J7 parents lengths (parents.getD y1.toNat 0).toNat x1.toNat; have hv := hr y1.toNat (by omega); have hb1 := hb (upN parents y1.toNat) x1.toNat; have hb2 := hb x.toNat y.toNat; unfold upN at hu he hb1; omega)
     ·first | omega | (have hu := t4 x1.toNat (by omega) (by omega); have he := J8 t4 (ls := lengths) (x := x1.toNat) (y := y1.toNat) (by omega) (by omega); have hv := hr x1.toNat (by omega); have hb1 := hb (upN parents x1.toNat) y1.toNat; have hb2 := hb x.toNat y.toNat; unfold upN at hu he hb1; omega) | (have hu := t4 y1.toNat (by omega) (by omega); have he := J8 t4 (ls := lengths) (x := y1.toNat) (y := x1.toNat) (by omega) (by omega); have hs := J7 parents lengths y1.toNat x1.toNat; have hs2 := J7 parents lengths (parents.getD y1.toNat 0).toNat x1.toNat; have hv := hr y1.toNat (by omega); have hb1 := hb (upN parents y1.toNat) x1.toNat; have hb2 := hb x.toNat y.toNat; unfold upN at hu he hb1; omega)
     ·first | omega | (have hu := t4 x1.toNat (by omega) (by omega); have he := J8 t4 (ls := lengths) (x := x1.toNat) (y := y1.toNat) (by omega) (by omega); have hv := hr x1.toNat (by omega); have hb1 := hb (upN parents x1.toNat) y1.toNat; have hb2 := hb x.toNat y.toNat; unfold upN at hu he hb1; omega) | (have hu := t4 y1.toNat (by omega) (by omega); have he := J8 t4 (ls := lengths) (x := y1.toNat) (y := x1.toNat) (by omega) (by omega); have hs := J7 parents lengths y1.toNat x1.toNat; have hs2 := J7 parents lengths (parents.getD y1.toNat 0).toNat x1.toNat; have hv := hr y1.toNat (by omega); have hb1 := hb (upN parents y1.toNat) x1.toNat; have hb2 := hb x.toNat y.toNat; unfold upN at hu he hb1; omega)
    first | (have hu := t4 x1.toNat (by omega) (by omega); have he := J8 t4 (ls := lengths) (x := x1.toNat) (y := y1.toNat) (by omega) (by omega); have hv := hr x1.toNat (by omega); have hb1 := hb (upN parents x1.toNat) y1.toNat; have hb2 := hb x.toNat y.toNat; unfold upN at hu he hb1; show (parents.getD x1.toNat 0 + y1).toNat < (x1 + y1).toNat; omega) | (have hu := t4 y1.toNat (by omega) (by omega); have he := J8 t4 (ls := lengths) (x := y1.toNat) (y := x1.toNat) (by omega) (by omega); have hs := J7 parents lengths y1.toNat x1.toNat; have hs2 := J7 parents lengths (parents.getD y1.toNat 0).toNat x1.toNat; have hv := hr y1.toNat (by omega); have hb1 := hb (upN parents y1.toNat) x1.toNat; have hb2 := hb x.toNat y.toNat; unfold upN at hu he hb1; show (x1 + parents.getD y1.toNat 0).toNat < (x1 + y1).toNat; omega)
   intro b3
   try simp only [nrmT] at b3
   refine ⟨?_, ?_, ?_, ?_, ?_, ?_, ?_, ?_⟩
   ·first | omega | (have hu := t4 x1.toNat (by omega) (by omega); have he := J8 t4 (ls := lengths) (x := x1.toNat) (y := y1.toNat) (by omega) (by omega); have hv := hr x1.toNat (by omega); have hb1 := hb (upN parents x1.toNat) y1.toNat; have hb2 := hb x.toNat y.toNat; unfold upN at hu he hb1; omega) | (have hu := t4 y1.toNat (by omega) (by omega); have he := J8 t4 (ls := lengths) (x := y1.toNat) (y := x1.toNat) (by omega) (by omega); have hs := J7 parents lengths y1.toNat x1.toNat; have hs2 := J7 parents lengths (parents.getD y1.toNat 0).toNat x1.toNat; have hv := hr y1.toNat (by omega); have hb1 := hb (upN parents y1.toNat) x1.toNat; have hb2 := hb x.toNat y.toNat; unfold upN at hu he hb1; omega)
   ·first | omega | (have hu := t4 x1.toNat (by omega) (by omega); have he := J8 t4 (ls := lengths) (x := x1.toNat) (y := y1.toNat) (by omega) (by omega); have hv := hr x1.toNat (by omega); have hb1 := hb (upN parents x1.toNat) y1.toNat; have hb2 := hb x.toNat y.toNat; unfold upN at hu he hb1; omega) | (have hu := t4 y1.toNat (by omega) (by omega); have he := J8 t4 (ls := lengths) (x := y1.toNat) (y := x1.toNat) (by omega) (by omega); have hs := J7 parents lengths y1.toNat x1.toNat; have hs2 := J7 parents lengths (parents.getD y1.toNat 0).toNat x1.toNat; have hv := hr y1.toNat (by omega); have hb1 := hb (upN parents y1.toNat) x1.toNat; have hb2 := hb x.toNat y.toNat; unfold upN at hu he hb1; omega)
   ·first | omega | (have hu := t4 x1.toNat (by omega) (by omega); have he := J8 t4 (ls := lengths) (x := x1.toNat) (y := y1.toNat) (by omega) (by omega); have hv := hr x1.toNat (by omega); have hb1 := hb (upN parents x1.toNat) y1.toNat; have hb2 := hb x.toNat y.toNat; unfold upN at hu he hb1; omega) | (have hu := t4 y1.toNat (by omega) (by omega); have he := J8 t4 (ls := lengths) (x := y1.toNat) (y := x1.toNat) (by omega) (by omega); have hs := J7 parents lengths y1.toNat x1.toNat; have hs2 := J7 parents lengths (parents.getD y1.toNat 0).toNat x1.toNat; have hv := hr y1.toNat (by omega); have hb1 := hb (upN parents y1.toNat) x1.toNat; have hb2 := hb x.toNat y.toNat; unfold upN at hu he hb1; omega)
   ·first | omega | (have hu := t4 x1.toNat (by omega) (by omega); have he := J8 t4 (ls := lengths) (x := x1.toNat) (y := y1.toNat) (by omega) (by omega); have hv := hr x1.toNat (by omega); have hb1 := hb (upN parents x1.toNat) y1.toNat; have hb2 := hb x.toNat y.toNat; unfold upN at hu he hb1; omega) | (have hu := t4 y1.toNat (by omega) (by omega); have he := J8 t4 (ls := lengths) (x := y1.toNat) (y := x1.toNat) (by omega) (by omega); have hs := J7 parents lengths y1.toNat x1.toNat; have hs2 := J7 parents lengths (parents.getD y1.toNat 0).toNat x1.toNat; have hv := hr y1.toNat (by omega); have hb1 := hb (upN parents y1.toNat) x1.toNat; have hb2 := hb x.toNat y.toNat; unfold upN at hu he hb1; omega)
   ·first | omega | (have hu := t4 x1.toNat (by omega) (by omega); have he := J8 t4 (ls := lengths) (x := x1.toNat) (y := y1.toNat) (by omega) (by omega); have hv := hr x1.toNat (by omega); have hb1 := hb (upN parents x1.toNat) y1.toNat; have hb2 := hb x.toNat y.toNat; unfold upN at hu he hb1; omega) | (have hu := t4 y1.toNat (by omega) (by omega); have he := J8 t4 (ls := lengths) (x := y1.toNat) (y := x1.toNat) (by omega) (by omega); have hs := J7 parents lengths y1.toNat x1.toNat; have hs2 := J7 parents lengths (parents.getD y1.toNat 0).toNat x1.toNat; have hv := hr y1.toNat (by omega); have hb1 := hb (upN parents y1.toNat) x1.toNat; have hb2 := hb x.toNat y.toNat; unfold upN at hu he hb1; omega)
   ·first | omega | (have hu := t4 x1.toNat (by omega) (by omega); have he := J8 t4 (ls := lengths) (x := x1.toNat) (y := y1.toNat) (by omega) (by omega); have hv := hr x1.toNat (by omega); have hb1 := hb (upN parents x1.toNat) y1.toNat; have hb2 := hb x.toNat y.toNat; unfold upN at hu he hb1; omega) | (have hu := t4 y1.toNat (by omega) (by omega); have he := J8 t4 (ls := lengths) (x := y1.toNat) (y := x1.toNat) (by omega) (by omega); have hs := J7 parents lengths y1.toNat x1.toNat; have hs2 := J7 parents lengths (parents.getD y1.toNat 0).toNat x1.toNat; have hv := hr y1.toNat (by omega); have hb1 := hb (upN parents y1.toNat) x1.toNat; have hb2 := hb x.toNat y.toNat; unfold upN at hu he hb1; omega)
   ·first | omega | (have hu := t4 x1.toNat (by omega) (by omega); have he := J8 t4 (ls := lengths) (x := x1.toNat) (y := y1.toNat) (by omega) (by omega); have hv := hr x1.toNat (by omega); have hb1 := hb (upN parents x1.toNat) y1.toNat; have hb2 := hb x.toNat y.toNat; unfold upN at hu he hb1; omega) | (have hu := t4 y1.toNat (by omega) (by omega); have he := J8 t4 (ls := lengths) (x := y1.toNat) (y := x1.toNat) (by omega) (by omega); have hs := J7 parents lengths y1.toNat x1.toNat; have hs2 := J7 parents lengths (parents.getD y1.toNat 0).toNat x1.toNat; have hv := hr y1.toNat (by omega); have hb1 := hb (upN parents y1.toNat) x1.toNat; have hb2 := hb x.toNat y.toNat; unfold upN at hu he hb1; omega)
   refine ⟨x1, (parents.getD y1.toNat 0), (sum + (lengths.getD y1.toNat 0)), ?_⟩
   refine ⟨?_, ?_, rfl, rfl, rfl, rfl, rfl⟩
   ·refine ⟨?_, ?_, ?_, ?_⟩
    ·first | omega | (have hu := t4 x1.toNat (by omega) (by omega); have he := J8 t4 (ls := lengths) (x := x1.toNat) (y := y1.toNat) (by omega) (by omega); have hv := hr x1.toNat (by omega); have hb1 := hb (upN parents x1.toNat) y1.toNat; have hb2 := hb x.toNat y.toNat; unfold upN at hu he hb1; omega) | (have hu := t4 y1.toNat (by omega) (by omega); have he := J8 t4 (ls := lengths) (x := y1.toNat) (y := x1.toNat) (by omega) (by omega); have hs := J7 parents lengths y1.toNat x1.toNat; have hs2 := J7 parents lengths (parents.getD y1.toNat 0).toNat x1.toNat; have hv := hr y1.toNat (by omega); have hb1 := hb (upN parents y1.toNat) x1.toNat; have hb2 := hb x.toNat y.toNat; unfold upN at hu he hb1; omega)
    ·first | omega | (have hu := t4 x1.toNat (by omega) (by omega); have he := J8 t4 (ls := lengths) (x := x1.toNat) (y := y1.toNat) (by omega) (by omega); have hv := hr x1.toNat (by omega); have hb1 := hb (upN parents x1.toNat) y1.toNat; have hb2 := hb x.toNat y.toNat; unfold upN at hu he hb1; omega) | (have hu := t4 y1.toNat (by omega) (by omega); have he := J8 t4 (ls := lengths) (x := y1.toNat) (y := x1.toNat) (by omega) (by omega); have hs := J7 parents lengths y1.toNat x1.toNat; have hs2 := J7 parents lengths (parents.getD y1.toNat 0).toNat x1.toNat; have hv := hr y1.toNat (by omega); have hb1 := hb (upN parents y1.toNat) x1.toNat; have hb2 := hb x.toNat y.toNat; unfold upN at hu he hb1; omega)
    ·first | omega | (have hu := t4 x1.toNat (by omega) (by omega); have he := J8 t4 (ls := lengths) (x := x1.toNat) (y := y1.toNat) (by omega) (by omega); have hv := hr x1.toNat (by omega); have hb1 := hb (upN parents x1.toNat) y1.toNat; have hb2 := hb x.toNat y.toNat; unfold upN at hu he hb1; omega) | (have hu := t4 y1.toNat (by omega) (by omega); have he := J8 t4 (ls := lengths) (x := y1.toNat) (y := x1.toNat) (by omega) (by omega); have hs := J7 parents lengths y1.toNat x1.toNat; have hs2 := J7 parents lengths (parents.getD y1.toNat 0).toNat x1.toNat; have hv := hr y1.toNat (by omega); have hb1 := hb (upN parents y1.toNat) x1.toNat; have hb2 := hb x.toNat y.toNat; unfold upN at hu he hb1; omega)
    ·first | omega | (have hu := t4 x1.toNat (by omega) (by omega); have he := J8 t4 (ls := lengths) (x := x1.toNat) (y := y1.toNat) (by omega) (by omega); have hv := hr x1.toNat (by omega); have hb1 := hb (upN parents x1.toNat) y1.toNat; have hb2 := hb x.toNat y.toNat; unfold upN at hu he hb1; omega) | (have hu := t4 y1.toNat (by omega) (by omega); have he := J8 t4 (ls := lengths) (x := y1.toNat) (y := x1.toNat) (by omega) (by omega); have hs := J7 parents lengths y1.toNat x1.toNat; have hs2 := J7 parents lengths (parents.getD y1.toNat 0).toNat x1.toNat; have hv := hr y1.toNat (by omega); have hb1 := hb (upN parents y1.toNat) x1.toNat; have hb2 := hb x.toNat y.toNat; unfold upN at hu he hb1; omega)
   first | (have hu := t4 x1.toNat (by omega) (by omega); have he := J8 t4 (ls := lengths) (x := x1.toNat) (y := y1.toNat) (by omega) (by omega); have hv := hr x1.toNat (by omega); have hb1 := hb (upN parents x1.toNat) y1.toNat; have hb2 := hb x.toNat y.toNat; unfold upN at hu he hb1; show (parents.getD x1.toNat 0 + y1).toNat < (x1 + y1).toNat; omega) | (have hu := t4 y1.toNat (by omega) (by omega); have he := J8 t4 (ls := lengths) (x := y1.toNat) (y := x1.toNat) (by omega) (by omega); have hs := J7 parents lengths y1.toNat x1.toNat; have hs2 := J7 parents lengths (parents.getD y1.toNat 0).toNat x1.toNat; have hv := hr y1.toNat (by omega); have hb1 := hb (upN parents y1.toNat) x1.toNat; have hb2 := hb x.toNat y.toNat; unfold upN at hu he hb1; show (x1 + parents.getD y1.toNat 0).toNat < (x1 + y1).toNat; omega)
  intro b4
  try simp only [nrmT] at b4
  have e : x1 = y1 := by first | omega | simpa using b4
  rw [e, J3f] at h3
  omega
theorem J6J (parents : ZI) (lengths : ZI) (x : Int) (y : Int) (ht : J2 parents = true) (hl : lengths.length = parents.length) (hr : ∀ z, z < parents.length → 0 ≤ lengths.getD z 0 ∧ lengths.getD z 0 ≤ 99) (hx : 0 ≤ x ∧ x < (parents.length : Int)) (hy : 0 ≤ y ∧ y < (parents.length : Int)) : PC Try.prog 148 [.sl (.ints parents), .sl (.ints lengths), .int .i64 x, .int .i64 y] (.one (.d (.int .i64 (tdL parents lengths x.toNat y.toNat)))) :=
  pc_wf @Try.call148 fun hw => pc_by (by kernel_rfl) Try.func148 @Try.call148 (by kernel_rfl) J76 (J7b parents lengths x y) (by kernel_rfl) (J6Z parents lengths x y ht hl hr hx hy hw.1 hw.2.1) (by kernel_rfl)
end Go.Proofs.Ytomnmacmlhkceaa
