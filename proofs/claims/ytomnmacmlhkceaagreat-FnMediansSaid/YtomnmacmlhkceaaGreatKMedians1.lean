/- Contracts of the functions that the law reaches. -/
import Derived.Test.YtomnmacmlhkceaaGreatQw
import Derived.Test.YtomnmacmlhkceaaGreatQua
import Derived.Test.YtomnmacmlhkceaaGreatQuc
import Derived.Test.YtomnmacmlhkceaaGreatSh
import Derived.Test.YtomnmacmlhkceaaGreatProg
import Derived.KernelRfl
set_option linter.unusedVariables false
set_option linter.unusedSimpArgs false
namespace Go.Proofs.YtomnmacmlhkceaaGreat
open Go

abbrev ZI := List Int
abbrev ZR := List (List Int)
abbrev I6 (x : Int) : Prop := -9223372036854775808 ≤ x ∧ x ≤ 9223372036854775807
def Jc4 (f : FuncId) (ds : List D) : Orc := .no
def JbP (x : Int) (a : Int) (b : Int) : Ann := .none
def J9S (x : Int) (a : Int) (b : Int) : Prop :=
  ((decide (x ≥ a)) = true → (decide (x ≥ a)) = true) ∧ ((decide (x ≥ a)) = true → (decide (x ≥ a)) = true) ∧ (true = true) ∧ (((decide (x ≥ a)) = true → (decide (x ≥ a)) = true)) ∧ (((decide (x ≥ a)) = false → true = true)) ∧ (((cond (decide (x ≥ a)) (decide (x ≤ b)) false) = (inB x a b)))
theorem Jbo (x : Int) (a : Int) (b : Int)   : J9S x a b := by
  unfold J9S
  refine ⟨id, id, rfl, id, fun _ => rfl, ?_⟩
  ·(simp only [inB]; by_cases h : a ≤ x <;> simp_all)
theorem J5p (x : Int) (a : Int) (b : Int)  : PC Tryz.prog 129 [.int .i64 x, .int .i64 a, .int .i64 b] (.one (.d (.bool (inB x a b)))) :=
  pc_wf @Tryz.call129 fun _ => pc_by (by kernel_rfl) Tryz.func129 @Tryz.call129 (by kernel_rfl) Jc4 (JbP x a b) (by kernel_rfl) (Jbo x a b) (by kernel_rfl)
def J4o : List D → Orc := orcN [none, none, none] fun ds => match ds with
  | [.int .i64 x, .int .i64 a, .int .i64 b] => some (.one (.d (.bool (inB x a b))))
  | _ => none
def Ja3 (f : FuncId) (ds : List D) : Orc := .no
def Jak (x : Int) (a : Int) (b : Int) : Ann := .none
def J69 (x : Int) (a : Int) (b : Int) : Prop :=
  ((decide (x ≥ a)) = true → (decide (x ≥ a)) = true) ∧ ((decide (x ≥ a)) = true → (decide (x ≥ a)) = true) ∧ (true = true) ∧ (((decide (x ≥ a)) = true → (decide (x ≥ a)) = true)) ∧ (((decide (x ≥ a)) = false → true = true)) ∧ (((cond (decide (x ≥ a)) (decide (x ≤ b)) false) = (inB x a b)))
theorem J9x (x : Int) (a : Int) (b : Int)   : J69 x a b := by
  unfold J69
  refine ⟨id, id, rfl, id, fun _ => rfl, ?_⟩
  ·(simp only [inB]; by_cases h : a ≤ x <;> simp_all)
theorem J2C (x : Int) (a : Int) (b : Int)  : PC Tryz.prog 132 [.int .i64 x, .int .i64 a, .int .i64 b] (.one (.d (.bool (inB x a b)))) :=
  pc_wf @Tryz.call132 fun _ => pc_by (by kernel_rfl) Tryz.func132 @Tryz.call132 (by kernel_rfl) Ja3 (Jak x a b) (by kernel_rfl) (J9x x a b) (by kernel_rfl)
def J2a : List D → Orc := orcN [none, none, none] fun ds => match ds with
  | [.int .i64 x, .int .i64 a, .int .i64 b] => some (.one (.d (.bool (inB x a b))))
  | _ => none
def J2t (xs : ZI) (lo hi : Int) (k : Nat) : Bool := inB (xs.getD k 0) lo hi && (decide (k = 0) || decide (xs.getD (k - 1) 0 < xs.getD k 0))
def J5 (xs : ZI) (lo hi : Int) : Bool := allTo (J2t xs lo hi) xs.length
theorem J6f {xs : ZI} {lo hi i : Int} (h0 : 0 ≤ i) {c : Bool} (hc : (cond (!(inB (xs.getD i.toNat 0) lo hi)) true (cond (decide (i > 0)) (decide (xs.getD (i - 1).toNat 0 ≥ xs.getD i.toNat 0)) false)) = c) :
    J2t xs lo hi i.toNat = !c := by
  subst hc
  have e : (i - 1).toNat = i.toNat - 1 := by omega
  unfold J2t
  rw [e]
  cases inB (xs.getD i.toNat 0) lo hi
  · rfl
  by_cases h : i > 0
  · have h2 : ¬ i.toNat = 0 := by omega
    simp [h, h2]
    by_cases h3 : xs[i.toNat - 1]?.getD 0 < xs[i.toNat]?.getD 0
    · simp [h3]
    simp [h3]; omega
  · have h2 : i.toNat = 0 := by omega
    simp [h, h2]
abbrev J1K (xs : ZI) (below : Int) (i : Int) : Prop := (0 ≤ i) ∧ (i ≤ (xs.length : Int)) ∧ (allTo (J2t xs 0 (below - 1)) i.toNat = true)
abbrev J1H (xs : ZI) (below : Int) (i : Int) : Nat := (xs.length - i).toNat
def J9N (f : FuncId) (ds : List D) : Orc := bif Nat.beq f 132 then J2a ds else .no
def J9s (xs : ZI) (below : Int) : Ann := .two (.none) (.two (.two (.none) (.loop (cut1 (fun (i : Int) => J1K xs below i) (fun (i : Int) => [(0, .d false (.sl (.ints xs))), (1, .d false (.int .i64 below)), (7, .d false (.sl (.ints xs))), (8, .d true (.int .i64 (xs.length : Int))), (9, .d true (.int .i64 i))]) (fun (i : Int) => [])) (fun g => J1H xs below g) (fun _ => .none))) (.none))
def J4N (xs : ZI) (below : Int) : Prop :=
  ((∃ i' : Int, (J1K xs below i') ∧ (xs = xs) ∧ (below = below) ∧ (xs = xs) ∧ ((xs.length : Int) = (xs.length : Int)) ∧ ((0 : Int) = i')) ∧ (∀ i : Int, (J1K xs below i) → (((decide (i < (xs.length : Int))) = true → ((0 : Int) ≤ i) ∧ ((i : Int) < xs.length) ∧ (i.toNat < xs.length) ∧ (I6 (below - 1)) ∧ (PC Tryz.prog 132 [.int .i64 (xs.getD i.toNat 0), .int .i64 0, .int .i64 (below - 1)] (.one (.d (.bool (inB (xs.getD i.toNat 0) 0 (below - 1)))))) ∧ ((!(!(inB (xs.getD i.toNat 0) 0 (below - 1)))) = true → (!(!(inB (xs.getD i.toNat 0) 0 (below - 1)))) = true) ∧ ((!(!(inB (xs.getD i.toNat 0) 0 (below - 1)))) = true → (!(!(inB (xs.getD i.toNat 0) 0 (below - 1)))) = true) ∧ (((!(!(inB (xs.getD i.toNat 0) 0 (below - 1)))) && (decide (i > 0))) = true → ((!(!(inB (xs.getD i.toNat 0) 0 (below - 1)))) && (decide (i > 0))) = true) ∧ ((((!(!(inB (xs.getD i.toNat 0) 0 (below - 1)))) && (decide (i > 0))) = true → I6 (i - 1))) ∧ (((!(!(inB (xs.getD i.toNat 0) 0 (below - 1)))) && (decide (i > 0))) = true → ((!(!(inB (xs.getD i.toNat 0) 0 (below - 1)))) && (decide (i > 0))) = true) ∧ (((!(!(inB (xs.getD i.toNat 0) 0 (below - 1)))) && (decide (i > 0))) = true → ((!(!(inB (xs.getD i.toNat 0) 0 (below - 1)))) && (decide (i > 0))) = true) ∧ ((((!(!(inB (xs.getD i.toNat 0) 0 (below - 1)))) && (decide (i > 0))) = true → (0 : Int) ≤ (i - 1))) ∧ ((((!(!(inB (xs.getD i.toNat 0) 0 (below - 1)))) && (decide (i > 0))) = true → ((i - 1) : Int) < xs.length)) ∧ (((!(!(inB (xs.getD i.toNat 0) 0 (below - 1)))) && (decide (i > 0))) = true → ((!(!(inB (xs.getD i.toNat 0) 0 (below - 1)))) && (decide (i > 0))) = true) ∧ ((((!(!(inB (xs.getD i.toNat 0) 0 (below - 1)))) && (decide (i > 0))) = true → (i - 1).toNat < xs.length)) ∧ (((!(!(inB (xs.getD i.toNat 0) 0 (below - 1)))) && (decide (i > 0))) = true → ((!(!(inB (xs.getD i.toNat 0) 0 (below - 1)))) && (decide (i > 0))) = true) ∧ (((!(!(inB (xs.getD i.toNat 0) 0 (below - 1)))) && (decide (i > 0))) = true → ((!(!(inB (xs.getD i.toNat 0) 0 (below - 1)))) && (decide (i > 0))) = true) ∧ (((!(!(inB (xs.getD i.toNat 0) 0 (below - 1)))) = true → (!(!(inB (xs.getD i.toNat 0) 0 (below - 1)))) = true)) ∧ (((!(!(inB (xs.getD i.toNat 0) 0 (below - 1)))) = true → (decide (i > 0)) = true → ((!(!(inB (xs.getD i.toNat 0) 0 (below - 1)))) && (decide (i > 0))) = true)) ∧ (((!(!(inB (xs.getD i.toNat 0) 0 (below - 1)))) = true → (decide (i > 0)) = false → true = true)) ∧ (true = true) ∧ (((!(inB (xs.getD i.toNat 0) 0 (below - 1))) = true → true = true)) ∧ (((!(inB (xs.getD i.toNat 0) 0 (below - 1))) = false → (!(!(inB (xs.getD i.toNat 0) 0 (below - 1)))) = true)) ∧ (((cond (!(inB (xs.getD i.toNat 0) 0 (below - 1))) true (cond (decide (i > 0)) (decide ((xs.getD i.toNat 0) ≤ (xs.getD ((i - 1).toNat) 0))) false)) = true → ((false = (J5 xs 0 (below - 1))))) ∧ ((cond (!(inB (xs.getD i.toNat 0) 0 (below - 1))) true (cond (decide (i > 0)) (decide ((xs.getD i.toNat 0) ≤ (xs.getD ((i - 1).toNat) 0))) false)) = false → (I6 (i + 1)) ∧ (∃ i' : Int, (J1K xs below i') ∧ (J1H xs below i' < J1H xs below i) ∧ (xs = xs) ∧ (below = below) ∧ (xs = xs) ∧ ((xs.length : Int) = (xs.length : Int)) ∧ ((i + 1) = i'))))) ∧ ((decide (i < (xs.length : Int))) = false → ((true = (J5 xs 0 (below - 1))))))))
theorem J8J (xs : ZI) (below : Int) (hb : -9223372036854775808 < below ∧ below ≤ 9223372036854775807) (w_xs : (xs.length : Int) ≤ 9223372036854775807) : J4N xs below := by
  unfold J4N
  refine ⟨?_, ?_⟩
  ·refine ⟨0, ?_⟩
   refine ⟨?_, rfl, rfl, rfl, rfl, rfl⟩
   ·refine ⟨?_, ?_, ?_⟩
    ·omega
    ·omega
    ·rfl
  intro i hJ
  obtain ⟨h1, h2, h3⟩ := hJ
  refine ⟨?_, ?_⟩
  ·intro b1
   try simp only [nrmT] at b1
   refine ⟨?_, ?_, ?_, ?_, J2C (xs.getD i.toNat 0) 0 (below - 1), id, id, id, ?_, id, id, ?_, ?_, id, ?_, id, id, id, ?_, fun _ _ => rfl, rfl, fun _ => rfl, ?_, ?_, ?_⟩
   ·omega
   ·omega
   ·omega
   ·omega
   ·omega
   ·(intro hg; simp only [nrmT] at hg; omega)
   ·omega
   ·omega
   ·(simp_all; done)
   ·(simp_all; done)
   ·intro b2
    have e := J6f h1 b2
    exact (allTo_falseI h1 (by omega) e).symm
   intro b3
   refine ⟨?_, ?_⟩
   ·omega
   refine ⟨(i + 1), ?_⟩
   refine ⟨?_, ?_, rfl, rfl, rfl, rfl, rfl⟩
   ·refine ⟨?_, ?_, ?_⟩
    ·omega
    ·omega
    ·have e := J6f h1 b3
     exact allTo_step h1 h3 e
   (simp only [J1H]; omega)
  intro b4
  try simp only [nrmT] at b4
  have e : i.toNat = xs.length := by omega
  rw [e] at h3
  exact h3.symm
theorem J8K (xs : ZI) (below : Int) (hb : -9223372036854775808 < below ∧ below ≤ 9223372036854775807) : PC Tryz.prog 162 [.sl (.ints xs), .int .i64 below] (.one (.d (.bool (J5 xs 0 (below - 1))))) :=
  pc_wf @Tryz.call162 fun hw => pc_by (by kernel_rfl) Tryz.func162 @Tryz.call162 (by kernel_rfl) J9N (J9s xs below) (by kernel_rfl) (J8J xs below hb hw.1) (by kernel_rfl)
def J7P : List D → Orc := orcN [some .ints, none] fun ds => match ds with
  | [.sl (.ints xs), .int .i64 below] => some (.one (.d (.bool (J5 xs 0 (below - 1)))))
  | _ => none
theorem JbG (m n : Nat) : decide ((m : Int) ≤ (n : Int)) = decide (m ≤ n) := by
  rw [Bool.eq_iff_iff]; simp only [decide_eq_true_eq]; omega
theorem Jaz {α : Type} {p : α → Bool} {d : α} {xs : List α} {i : Int} (h2 : (xs.length : Int) ≤ i) (h2' : i ≤ (xs.length : Int)) (h3 : allTo (fun k => p (xs.getD k d)) i.toNat = true) : xs.all p = true := by
  have e : i.toNat = xs.length := by omega
  rw [e, allTo_list] at h3; exact h3
theorem Jbv {α : Type} {p : α → Bool} {d : α} {xs : List α} {i : Int} (h0 : 0 ≤ i) (h : i < (xs.length : Int)) (h3 : p (xs.getD i.toNat d) = false) : xs.all p = false := by
  rw [← allTo_list (d := d)]; exact allTo_falseI h0 h h3
theorem J3 {x lo hi : Int} (h : inB x lo hi = true) : lo ≤ x ∧ x ≤ hi := of_decide_eq_true h
def J6y (f : FuncId) (ds : List D) : Orc := bif Nat.beq f 132 then J2a ds else .no
def J6W (x : Int) (lo : Int) (hi : Int) : Ann := .none
def J3N (x : Int) (lo : Int) (hi : Int) : Prop :=
  (PC Tryz.prog 132 [.int .i64 x, .int .i64 lo, .int .i64 hi] (.one (.d (.bool (inB x lo hi))))) ∧ (((!(inB x lo hi)) = (!(inB x lo hi))))
theorem J5R (x : Int) (lo : Int) (hi : Int)   : J3N x lo hi := by
  unfold J3N
  refine ⟨J2C x lo hi, rfl⟩
theorem J5S (x : Int) (lo : Int) (hi : Int)  : PC Tryz.prog 220 [.int .i64 x, .bx [.int .i64 lo] 0, .bx [.int .i64 hi] 0] (.one (.d (.bool (!(inB x lo hi))))) :=
  pc_wf @Tryz.call220 fun _ => pc_by (by kernel_rfl) Tryz.func220 @Tryz.call220 (by kernel_rfl) J6y (J6W x lo hi) (by kernel_rfl) (J5R x lo hi) (by kernel_rfl)
def J4X : List D → Orc := orcN [none, none, none] fun ds => match ds with
  | [.int .i64 x, .bx [.int .i64 lo] 0, .bx [.int .i64 hi] 0] => some (.one (.d (.bool (!(inB x lo hi)))))
  | _ => none
abbrev Jv (xs : ZI) (lo : Int) (hi : Int) (i : Int) : Prop := (0 ≤ i) ∧ (i ≤ (xs.length : Int)) ∧ (∀ k, k < i.toNat → (fun x => !(inB x lo hi)) (xs.getD k 0) = false)
abbrev Jt (xs : ZI) (lo : Int) (hi : Int) (i : Int) : Nat := (xs.length - i).toNat
def J2U (f : FuncId) (ds : List D) : Orc := bif Nat.beq f 220 then J4X ds else .no
def J2R (xs : ZI) (lo : Int) (hi : Int) : Ann := .two (.none) (.two (.two (.none) (.loop (cut1 (fun (i : Int) => Jv xs lo hi i) (fun (i : Int) => [(0, .d false (.sl (.ints xs))), (1, .d false (.fn 220 0 [.bx [.int .i64 lo] 0, .bx [.int .i64 hi] 0])), (7, .d true (.int .i64 (xs.length : Int))), (8, .d true (.int .i64 i))]) (fun (i : Int) => [])) (fun g => Jt xs lo hi g) (fun _ => .none))) (.none))
def J0Z (xs : ZI) (lo : Int) (hi : Int) : Prop :=
  ((∃ i' : Int, (Jv xs lo hi i') ∧ (xs = xs) ∧ ((.fn 220 0 [.bx [.int .i64 lo] 0, .bx [.int .i64 hi] 0] : D) = (.fn 220 0 [.bx [.int .i64 lo] 0, .bx [.int .i64 hi] 0] : D)) ∧ ((xs.length : Int) = (xs.length : Int)) ∧ ((0 : Int) = i')) ∧ (∀ i : Int, (Jv xs lo hi i) → (((decide (i < (xs.length : Int))) = true → ((0 : Int) ≤ i) ∧ ((i : Int) < xs.length) ∧ (i.toNat < xs.length) ∧ (PC Tryz.prog 220 [.int .i64 (xs.getD i.toNat 0), .bx [.int .i64 lo] 0, .bx [.int .i64 hi] 0] (.one (.d (.bool (!(inB (xs.getD i.toNat 0) lo hi)))))) ∧ (((!(inB (xs.getD i.toNat 0) lo hi)) = true → ((i = (idxI (fun x => !(inB x lo hi)) xs)))) ∧ ((!(inB (xs.getD i.toNat 0) lo hi)) = false → (I6 (i + 1)) ∧ (∃ i' : Int, (Jv xs lo hi i') ∧ (Jt xs lo hi i' < Jt xs lo hi i) ∧ (xs = xs) ∧ ((.fn 220 0 [.bx [.int .i64 lo] 0, .bx [.int .i64 hi] 0] : D) = (.fn 220 0 [.bx [.int .i64 lo] 0, .bx [.int .i64 hi] 0] : D)) ∧ ((xs.length : Int) = (xs.length : Int)) ∧ ((i + 1) = i'))))) ∧ ((decide (i < (xs.length : Int))) = false → ((((-1) : Int) = (idxI (fun x => !(inB x lo hi)) xs)))))))
theorem J2y (xs : ZI) (lo : Int) (hi : Int)  (w_xs : (xs.length : Int) ≤ 9223372036854775807) : J0Z xs lo hi := by
  unfold J0Z
  refine ⟨?_, ?_⟩
  ·refine ⟨0, ?_⟩
   refine ⟨?_, rfl, rfl, rfl, rfl⟩
   ·refine ⟨?_, ?_, ?_⟩
    ·omega
    ·omega
    ·omega
  intro i hJ
  obtain ⟨h1, h2, h3⟩ := hJ
  refine ⟨?_, ?_⟩
  ·intro b1
   try simp only [nrmT] at b1
   refine ⟨?_, ?_, ?_, J5S (xs.getD i.toNat 0) lo hi, ?_, ?_⟩
   ·omega
   ·omega
   ·omega
   ·intro b2
    try simp only [nrmT] at b2
    exact idx_found (p := fun x => !(inB x lo hi)) h1 b1 h3 (by simpa using b2)
   intro b3
   try simp only [nrmT] at b3
   refine ⟨?_, ?_⟩
   ·omega
   refine ⟨(i + 1), ?_⟩
   refine ⟨?_, ?_, rfl, rfl, rfl, rfl⟩
   ·refine ⟨?_, ?_, ?_⟩
    ·omega
    ·omega
    ·exact idx_step (p := fun x => !(inB x lo hi)) h1 h3 (by simpa using b3)
   (simp only [Jt]; omega)
  intro b4
  try simp only [nrmT] at b4
  exact (idx_none (by omega) h3).symm
theorem J2I (xs : ZI) (lo : Int) (hi : Int)  : PC Tryz.prog 237 [.sl (.ints xs), .fn 220 0 [.bx [.int .i64 lo] 0, .bx [.int .i64 hi] 0]] (.one (.d (.int .i64 (idxI (fun x => !(inB x lo hi)) xs)))) :=
  pc_wf @Tryz.call237 fun hw => pc_by (by kernel_rfl) Tryz.func237 @Tryz.call237 (by kernel_rfl) J2U (J2R xs lo hi) (by kernel_rfl) (J2y xs lo hi hw.1) (by kernel_rfl)
def J2w : List D → Orc := orcN [some .ints, none] fun ds => match ds with
  | [.sl (.ints xs), .fn f0 0 [.bx [.int .i64 lo] 0, .bx [.int .i64 hi] 0]] => bif Nat.beq f0 220 then some (.one (.d (.int .i64 (idxI (fun x => !(inB x lo hi)) xs)))) else none
  | _ => none
def J2r (f : FuncId) (ds : List D) : Orc := bif Nat.beq f 237 then J2w ds else .no
def J2i (xs : ZI) (lo : Int) (hi : Int) : Ann := .none
def J0t (xs : ZI) (lo : Int) (hi : Int) : Prop :=
  (PC Tryz.prog 237 [.sl (.ints xs), .fn 220 0 [.bx [.int .i64 lo] 0, .bx [.int .i64 hi] 0]] (.one (.d (.int .i64 (idxI (fun x => !(inB x lo hi)) xs))))) ∧ (((decide ((idxI (fun x => !(inB x lo hi)) xs) ≥ 0)) = (xs.any (fun x => !(inB x lo hi)))))
theorem J22 (xs : ZI) (lo : Int) (hi : Int)  (w_xs : (xs.length : Int) ≤ 9223372036854775807) : J0t xs lo hi := by
  unfold J0t
  refine ⟨J2I xs lo hi, ?_⟩
  ·exact idx_any _ _
theorem J20 (xs : ZI) (lo : Int) (hi : Int)  : PC Tryz.prog 218 [.sl (.ints xs), .fn 220 0 [.bx [.int .i64 lo] 0, .bx [.int .i64 hi] 0]] (.one (.d (.bool (xs.any (fun x => !(inB x lo hi)))))) :=
  pc_wf @Tryz.call218 fun hw => pc_by (by kernel_rfl) Tryz.func218 @Tryz.call218 (by kernel_rfl) J2r (J2i xs lo hi) (by kernel_rfl) (J22 xs lo hi hw.1) (by kernel_rfl)
def J1W : List D → Orc := orcN [some .ints, none] fun ds => match ds with
  | [.sl (.ints xs), .fn f0 0 [.bx [.int .i64 lo] 0, .bx [.int .i64 hi] 0]] => bif Nat.beq f0 220 then some (.one (.d (.bool (xs.any (fun x => !(inB x lo hi)))))) else none
  | _ => none
def J85 (f : FuncId) (ds : List D) : Orc := bif Nat.beq f 218 then J1W ds else .no
def J7W (xs : ZI) (lo : Int) (hi : Int) : Ann := .none
def J4f (xs : ZI) (lo : Int) (hi : Int) : Prop :=
  (PC Tryz.prog 218 [.sl (.ints xs), .fn 220 0 [.bx [.int .i64 lo] 0, .bx [.int .i64 hi] 0]] (.one (.d (.bool (xs.any (fun x => !(inB x lo hi))))))) ∧ (((!(xs.any (fun x => !(inB x lo hi)))) = (xs.all (fun x => inB x lo hi))))
theorem J71 (xs : ZI) (lo : Int) (hi : Int)  (w_xs : (xs.length : Int) ≤ 9223372036854775807) : J4f xs lo hi := by
  unfold J4f
  refine ⟨J20 xs lo hi, ?_⟩
  ·exact any_not _ _
theorem J44 (xs : ZI) (lo : Int) (hi : Int)  : PC Tryz.prog 168 [.sl (.ints xs), .int .i64 lo, .int .i64 hi] (.one (.d (.bool (xs.all (fun x => inB x lo hi))))) :=
  pc_wf @Tryz.call168 fun hw => pc_by (by kernel_rfl) Tryz.func168 @Tryz.call168 (by kernel_rfl) J85 (J7W xs lo hi) (by kernel_rfl) (J71 xs lo hi hw.1) (by kernel_rfl)
def J3S : List D → Orc := orcN [some .ints, none, none] fun ds => match ds with
  | [.sl (.ints xs), .int .i64 lo, .int .i64 hi] => some (.one (.d (.bool (xs.all (fun x => inB x lo hi)))))
  | _ => none
theorem J7o {α : Type} [BEq α] [LawfulBEq α] {d : α} {xs ys : List α} (hl : xs.length = ys.length) : allTo (fun k => xs.getD k d == ys.getD k d) xs.length = (xs == ys) := by
  rw [Bool.eq_iff_iff, allTo_iff]
  simp only [beq_iff_eq]
  constructor
  · intro h
    refine List.ext_getElem hl fun k h1 h2 => ?_
    have := h k h1
    simpa [h1, h2] using this
  intro h k _
  rw [h]
theorem Jcx {α : Type} [BEq α] [LawfulBEq α] {xs ys : List α} (h : ¬ xs.length = ys.length) : (xs == ys) = false := by
  rw [Bool.eq_false_iff]; intro h2; simp only [beq_iff_eq] at h2; exact h (by rw [h2])
def Je (row : ZI) (n most : Int) : Bool := row.all (fun x => inB x 0 most) && decide ((row.length : Int) = n)
def J0 (U : ZI) (E : ZR) : Bool :=
  inB (U.length : Int) 1 7 && U.all (fun x => inB x 0 99) && decide (E.length ≤ 7) && E.all (fun l => Je l (U.length : Int) 99)
theorem J2 {U : ZI} {E : ZR} (h : J0 U E = true) : 1 ≤ U.length ∧ U.length ≤ 7 ∧ E.length ≤ 7 := by
  simp only [J0, Bool.and_eq_true, decide_eq_true_eq] at h
  have := J3 h.1.1.1
  omega
theorem J3I {U : ZI} {E : ZR} (h : J0 U E = true) {i : Nat} (hi : i < E.length) : (E.getD i []).length = U.length ∧ ∀ a, a < U.length → 0 ≤ (E.getD i []).getD a 0 ∧ (E.getD i []).getD a 0 ≤ 99 := by
  simp only [J0, Bool.and_eq_true, decide_eq_true_eq] at h
  have h2 := List.all_eq_true.1 h.2 _ (getD_mem (d := []) hi)
  simp only [Je, Bool.and_eq_true, decide_eq_true_eq] at h2
  refine ⟨by omega, fun a ha => ?_⟩
  exact J3 (List.all_eq_true.1 h2.1 _ (getD_mem (by omega)))
abbrev J33 (row : ZI) (n : Int) (most : Int) (i : Int) : Prop := (0 ≤ i) ∧ (i ≤ (row.length : Int)) ∧ (allTo (fun k => inB (row.getD k 0) 0 most) i.toNat = true)
abbrev J37 (row : ZI) (n : Int) (most : Int) (i : Int) : Nat := (row.length - i).toNat
def JbK (f : FuncId) (ds : List D) : Orc := bif Nat.beq f 129 then J4o ds else .no
def JbN (row : ZI) (n : Int) (most : Int) : Ann := .two (.none) (.two (.two (.none) (.loop (cut1 (fun (i : Int) => J33 row n most i) (fun (i : Int) => [(0, .d false (.sl (.ints row))), (1, .d false (.int .i64 n)), (2, .d false (.int .i64 most)), (7, .d true (.int .i64 i))]) (fun (i : Int) => [])) (fun g => J37 row n most g) (fun _ => .none))) (.none))
def J8n (row : ZI) (n : Int) (most : Int) : Prop :=
  ((∃ i' : Int, (J33 row n most i') ∧ (row = row) ∧ (n = n) ∧ (most = most) ∧ ((0 : Int) = i')) ∧ (∀ i : Int, (J33 row n most i) → (((decide (i < (row.length : Int))) = true → ((0 : Int) ≤ i) ∧ ((i : Int) < row.length) ∧ (i.toNat < row.length) ∧ (PC Tryz.prog 129 [.int .i64 (row.getD i.toNat 0), .int .i64 0, .int .i64 most] (.one (.d (.bool (inB (row.getD i.toNat 0) 0 most))))) ∧ (((!(inB (row.getD i.toNat 0) 0 most)) = true → ((false = (Je row n most)))) ∧ ((!(inB (row.getD i.toNat 0) 0 most)) = false → (I6 (i + 1)) ∧ (∃ i' : Int, (J33 row n most i') ∧ (J37 row n most i' < J37 row n most i) ∧ (row = row) ∧ (n = n) ∧ (most = most) ∧ ((i + 1) = i'))))) ∧ ((decide (i < (row.length : Int))) = false → ((((row.length : Int) == n) = (Je row n most)))))))
theorem Jbd (row : ZI) (n : Int) (most : Int)  (w_row : (row.length : Int) ≤ 9223372036854775807) : J8n row n most := by
  unfold J8n
  refine ⟨?_, ?_⟩
  ·refine ⟨0, ?_⟩
   refine ⟨?_, rfl, rfl, rfl, rfl⟩
   ·refine ⟨?_, ?_, ?_⟩
    ·omega
    ·omega
    ·rfl
  intro i hJ
  obtain ⟨h1, h2, h3⟩ := hJ
  refine ⟨?_, ?_⟩
  ·intro b1
   try simp only [nrmT] at b1
   refine ⟨?_, ?_, ?_, J5p (row.getD i.toNat 0) 0 most, ?_, ?_⟩
   ·omega
   ·omega
   ·omega
   ·intro b2
    try simp only [nrmT] at b2
    unfold Je
    rw [Jbv (p := fun x => inB x 0 most) (d := 0) h1 (by omega) b2]; rfl
   intro b3
   try simp only [nrmT] at b3
   refine ⟨?_, ?_⟩
   ·omega
   refine ⟨(i + 1), ?_⟩
   refine ⟨?_, ?_, rfl, rfl, rfl, rfl⟩
   ·refine ⟨?_, ?_, ?_⟩
    ·omega
    ·omega
    ·exact allTo_step h1 h3 b3
   (simp only [J37]; omega)
  intro b4
  try simp only [nrmT] at b4
  unfold Je
  rw [Jaz (p := fun x => inB x 0 most) (d := 0) (by omega) h2 h3, Bool.true_and]; rfl
theorem J7t (row : ZI) (n : Int) (most : Int)  : PC Tryz.prog 202 [.sl (.ints row), .int .i64 n, .int .i64 most] (.one (.d (.bool (Je row n most)))) :=
  pc_wf @Tryz.call202 fun hw => pc_by (by kernel_rfl) Tryz.func202 @Tryz.call202 (by kernel_rfl) JbK (JbN row n most) (by kernel_rfl) (Jbd row n most hw.1) (by kernel_rfl)
def Ja6 : List D → Orc := orcN [some .ints, none, none] fun ds => match ds with
  | [.sl (.ints row), .int .i64 n, .int .i64 most] => some (.one (.d (.bool (Je row n most))))
  | _ => none
abbrev J2J (U : ZI) (E : ZR) (i : Int) : Prop := (0 ≤ i) ∧ (i ≤ (E.length : Int)) ∧ (allTo (fun k => Je (E.getD k []) (U.length : Int) 99) i.toNat = true)
abbrev J2P (U : ZI) (E : ZR) (i : Int) : Nat := (E.length - i).toNat
def Jb9 (f : FuncId) (ds : List D) : Orc := bif Nat.beq f 202 then Ja6 ds else bif Nat.beq f 129 then J4o ds else .no
def Jb3 (U : ZI) (E : ZR) : Ann := .two (.none) (.two (.none) (.two (.two (.none) (.loop (cut1 (fun (i : Int) => J2J U E i) (fun (i : Int) => [(1, .ptr 1 0), (3, .d true (.int .i64 (U.length : Int))), (4, .d true (.int .i64 i))]) (fun (i : Int) => [(1, .box 27 [.d false (.sl (.ints U)), .d false (.sl (.rows E))])])) (fun g => J2P U E g) (fun _ => .none))) (.none)))
def J7l (U : ZI) (E : ZR) : Prop :=
  ((∃ i' : Int, (J2J U E i') ∧ ((U.length : Int) = (U.length : Int)) ∧ ((0 : Int) = i') ∧ (U = U) ∧ (E = E)) ∧ (∀ i : Int, (J2J U E i) → (((decide (i < (E.length : Int))) = true → ((0 : Int) ≤ i) ∧ ((i : Int) < E.length) ∧ (i.toNat < E.length) ∧ (PC Tryz.prog 202 [.sl (.ints (E.getD i.toNat [])), .int .i64 (U.length : Int), .int .i64 99] (.one (.d (.bool (Je (E.getD i.toNat []) (U.length : Int) 99))))) ∧ (((!(Je (E.getD i.toNat []) (U.length : Int) 99)) = true → ((false = (J0 U E)))) ∧ ((!(Je (E.getD i.toNat []) (U.length : Int) 99)) = false → (I6 (i + 1)) ∧ (∃ i' : Int, (J2J U E i') ∧ (J2P U E i' < J2P U E i) ∧ ((U.length : Int) = (U.length : Int)) ∧ ((i + 1) = i') ∧ (U = U) ∧ (E = E))))) ∧ ((decide (i < (E.length : Int))) = false → (PC Tryz.prog 129 [.int .i64 (U.length : Int), .int .i64 1, .int .i64 7] (.one (.d (.bool (inB (U.length : Int) 1 7))))) ∧ ((inB (U.length : Int) 1 7) = true → (inB (U.length : Int) 1 7) = true) ∧ ((inB (U.length : Int) 1 7) = true → (inB (U.length : Int) 1 7) = true) ∧ ((inB (U.length : Int) 1 7) = true → (inB (U.length : Int) 1 7) = true) ∧ ((inB (U.length : Int) 1 7) = true → PC Tryz.prog 202 [.sl (.ints U), .int .i64 (U.length : Int), .int .i64 99] (.one (.d (.bool (Je U (U.length : Int) 99))))) ∧ (true = true) ∧ (((inB (U.length : Int) 1 7) = true → (inB (U.length : Int) 1 7) = true)) ∧ (((inB (U.length : Int) 1 7) = false → true = true)) ∧ ((cond (inB (U.length : Int) 1 7) (Je U (U.length : Int) 99) false) = true → (cond (inB (U.length : Int) 1 7) (Je U (U.length : Int) 99) false) = true) ∧ ((cond (inB (U.length : Int) 1 7) (Je U (U.length : Int) 99) false) = true → (cond (inB (U.length : Int) 1 7) (Je U (U.length : Int) 99) false) = true) ∧ ((cond (inB (U.length : Int) 1 7) (Je U (U.length : Int) 99) false) = true → (cond (inB (U.length : Int) 1 7) (Je U (U.length : Int) 99) false) = true) ∧ (true = true) ∧ (((cond (inB (U.length : Int) 1 7) (Je U (U.length : Int) 99) false) = true → (cond (inB (U.length : Int) 1 7) (Je U (U.length : Int) 99) false) = true)) ∧ (((cond (inB (U.length : Int) 1 7) (Je U (U.length : Int) 99) false) = false → true = true)) ∧ (((cond (cond (inB (U.length : Int) 1 7) (Je U (U.length : Int) 99) false) (decide ((E.length : Int) ≤ 7)) false) = (J0 U E)))))))
theorem Ja7 (U : ZI) (E : ZR)  (w_Open : (U.length : Int) ≤ 9223372036854775807) (w_Dist : (E.length : Int) ≤ 9223372036854775807) (v_Dist : ∀ x9 ∈ E, (x9.length : Int) ≤ 9223372036854775807) : J7l U E := by
  unfold J7l
  refine ⟨?_, ?_⟩
  ·refine ⟨0, ?_⟩
   refine ⟨?_, rfl, rfl, rfl, rfl⟩
   ·refine ⟨?_, ?_, ?_⟩
    ·omega
    ·omega
    ·rfl
  intro i hJ
  obtain ⟨h1, h2, h3⟩ := hJ
  refine ⟨?_, ?_⟩
  ·intro b1
   try simp only [nrmT] at b1
   refine ⟨?_, ?_, ?_, J7t (E.getD i.toNat []) (U.length : Int) 99, ?_, ?_⟩
   ·omega
   ·omega
   ·omega
   ·intro b2
    try simp only [nrmT] at b2
    unfold J0
    rw [Jbv (p := fun l => Je l (U.length : Int) 99) (d := []) h1 (by omega) b2, Bool.and_false]
   intro b3
   try simp only [nrmT] at b3
   refine ⟨?_, ?_⟩
   ·omega
   refine ⟨(i + 1), ?_⟩
   refine ⟨?_, ?_, rfl, rfl, rfl, rfl⟩
   ·refine ⟨?_, ?_, ?_⟩
    ·omega
    ·omega
    ·exact allTo_step h1 h3 b3
   (simp only [J2P]; omega)
  intro b4
  try simp only [nrmT] at b4
  refine ⟨J5p (U.length : Int) 1 7, id, id, id, fun _ => J7t U (U.length : Int) 99, rfl, id, fun _ => rfl, id, id, id, rfl, id, fun _ => rfl, ?_⟩
  ·unfold J0
   rw [Jaz (p := fun l => Je l (U.length : Int) 99) (d := []) (by omega) h2 h3, show decide ((E.length : Int) ≤ 7) = decide (E.length ≤ 7) from JbG _ 7]
   unfold Je
   cases inB (U.length : Int) 1 7 <;> cases U.all (fun x => inB x 0 99) <;> cases decide (E.length ≤ 7) <;> simp
theorem J6b (U : ZI) (E : ZR)  : PC Tryz.prog 112 [.agg [.sl (.ints U), .sl (.rows E)]] (.one (.d (.bool (J0 U E)))) :=
  pc_wf @Tryz.call112 fun hw => pc_by (by kernel_rfl) Tryz.func112 @Tryz.call112 (by kernel_rfl) Jb9 (Jb3 U E) (by kernel_rfl) (Ja7 U E hw.1.1 hw.1.2.1.1 hw.1.2.1.2) (by kernel_rfl)
def J59 : List D → Orc := orcN [none] fun ds => match ds with
  | [.agg [.sl (.ints U), .sl (.rows E)]] => some (.one (.d (.bool (J0 U E))))
  | _ => none
def J8R (f : FuncId) (ds : List D) : Orc := bif Nat.beq f 168 then J3S ds else .no
def J8D (xs : ZI) (U : ZI) (E : ZR) : Ann := .none
def J4w (xs : ZI) (U : ZI) (E : ZR) : Prop :=
  ((!((xs.length : Int) != (U.length : Int))) = true → (!((xs.length : Int) != (U.length : Int))) = true) ∧ ((!((xs.length : Int) != (U.length : Int))) = true → PC Tryz.prog 168 [.sl (.ints xs), .int .i64 0, .int .i64 99] (.one (.d (.bool (xs.all (fun x => inB x 0 99)))))) ∧ ((!((xs.length : Int) != (U.length : Int))) = true → (!((xs.length : Int) != (U.length : Int))) = true) ∧ (true = true) ∧ ((((xs.length : Int) != (U.length : Int)) = true → true = true)) ∧ ((((xs.length : Int) != (U.length : Int)) = false → (!((xs.length : Int) != (U.length : Int))) = true)) ∧ (((cond ((xs.length : Int) != (U.length : Int)) true (!(xs.all (fun x => inB x 0 99)))) = (!(Je xs (U.length : Int) 99))))
theorem J7N (xs : ZI) (U : ZI) (E : ZR)  (w_xs : (xs.length : Int) ≤ 9223372036854775807) (w_Open : (U.length : Int) ≤ 9223372036854775807) (w_Dist : (E.length : Int) ≤ 9223372036854775807) (v_Dist : ∀ x9 ∈ E, (x9.length : Int) ≤ 9223372036854775807) : J4w xs U E := by
  unfold J4w
  refine ⟨id, fun _ => J44 xs 0 99, id, rfl, fun _ => rfl, ?_, ?_⟩
  ·(simp_all; done)
  unfold Je
  by_cases h : (xs.length : Int) = (U.length : Int)
  · simp [h]
  simp [h]
theorem J8c (xs : ZI) (U : ZI) (E : ZR)  : PC Tryz.prog 201 [.sl (.ints xs), .bx [.sl (.ints U), .sl (.rows E)] 0] (.one (.d (.bool (!(Je xs (U.length : Int) 99))))) :=
  pc_wf @Tryz.call201 fun hw => pc_by (by kernel_rfl) Tryz.func201 @Tryz.call201 (by kernel_rfl) J8R (J8D xs U E) (by kernel_rfl) (J7N xs U E hw.1 hw.2.1.1 hw.2.1.2.1.1 hw.2.1.2.1.2) (by kernel_rfl)
def J75 : List D → Orc := orcN [some .ints, none] fun ds => match ds with
  | [.sl (.ints xs), .bx [.sl (.ints U), .sl (.rows E)] 0] => some (.one (.d (.bool (!(Je xs (U.length : Int) 99)))))
  | _ => none
abbrev Js (xs : ZR) (U : ZI) (E : ZR) (i : Int) : Prop := (0 ≤ i) ∧ (i ≤ (xs.length : Int)) ∧ (∀ k, k < i.toNat → (fun x => !(Je x (U.length : Int) 99)) (xs.getD k []) = false)
abbrev Ju (xs : ZR) (U : ZI) (E : ZR) (i : Int) : Nat := (xs.length - i).toNat
def J2S (f : FuncId) (ds : List D) : Orc := bif Nat.beq f 201 then J75 ds else .no
def J2T (xs : ZR) (U : ZI) (E : ZR) : Ann := .two (.none) (.two (.two (.none) (.loop (cut1 (fun (i : Int) => Js xs U E i) (fun (i : Int) => [(0, .d false (.sl (.rows xs))), (1, .d false (.fn 201 0 [.bx [.sl (.ints U), .sl (.rows E)] 0])), (7, .d true (.int .i64 (xs.length : Int))), (8, .d true (.int .i64 i))]) (fun (i : Int) => [])) (fun g => Ju xs U E g) (fun _ => .none))) (.none))
def J0Y (xs : ZR) (U : ZI) (E : ZR) : Prop :=
  ((∃ i' : Int, (Js xs U E i') ∧ (xs = xs) ∧ ((.fn 201 0 [.bx [.sl (.ints U), .sl (.rows E)] 0] : D) = (.fn 201 0 [.bx [.sl (.ints U), .sl (.rows E)] 0] : D)) ∧ ((xs.length : Int) = (xs.length : Int)) ∧ ((0 : Int) = i')) ∧ (∀ i : Int, (Js xs U E i) → (((decide (i < (xs.length : Int))) = true → ((0 : Int) ≤ i) ∧ ((i : Int) < xs.length) ∧ (i.toNat < xs.length) ∧ (PC Tryz.prog 201 [.sl (.ints (xs.getD i.toNat [])), .bx [.sl (.ints U), .sl (.rows E)] 0] (.one (.d (.bool (!(Je (xs.getD i.toNat []) (U.length : Int) 99)))))) ∧ (((!(Je (xs.getD i.toNat []) (U.length : Int) 99)) = true → ((i = (idxI (fun x => !(Je x (U.length : Int) 99)) xs)))) ∧ ((!(Je (xs.getD i.toNat []) (U.length : Int) 99)) = false → (I6 (i + 1)) ∧ (∃ i' : Int, (Js xs U E i') ∧ (Ju xs U E i' < Ju xs U E i) ∧ (xs = xs) ∧ ((.fn 201 0 [.bx [.sl (.ints U), .sl (.rows E)] 0] : D) = (.fn 201 0 [.bx [.sl (.ints U), .sl (.rows E)] 0] : D)) ∧ ((xs.length : Int) = (xs.length : Int)) ∧ ((i + 1) = i'))))) ∧ ((decide (i < (xs.length : Int))) = false → ((((-1) : Int) = (idxI (fun x => !(Je x (U.length : Int) 99)) xs)))))))
theorem J2D (xs : ZR) (U : ZI) (E : ZR)  (w_xs : (xs.length : Int) ≤ 9223372036854775807) (v_xs : ∀ x9 ∈ xs, (x9.length : Int) ≤ 9223372036854775807) (w_Open : (U.length : Int) ≤ 9223372036854775807) (w_Dist : (E.length : Int) ≤ 9223372036854775807) (v_Dist : ∀ x9 ∈ E, (x9.length : Int) ≤ 9223372036854775807) : J0Y xs U E := by
  unfold J0Y
  refine ⟨?_, ?_⟩
  ·refine ⟨0, ?_⟩
   refine ⟨?_, rfl, rfl, rfl, rfl⟩
   ·refine ⟨?_, ?_, ?_⟩
    ·omega
    ·omega
    ·omega
  intro i hJ
  obtain ⟨h1, h2, h3⟩ := hJ
  refine ⟨?_, ?_⟩
  ·intro b1
   try simp only [nrmT] at b1
   refine ⟨?_, ?_, ?_, J8c (xs.getD i.toNat []) U E, ?_, ?_⟩
   ·omega
   ·omega
   ·omega
   ·intro b2
    try simp only [nrmT] at b2
    exact idx_found (p := fun x => !(Je x (U.length : Int) 99)) h1 b1 h3 (by simpa using b2)
   intro b3
   try simp only [nrmT] at b3
   refine ⟨?_, ?_⟩
   ·omega
   refine ⟨(i + 1), ?_⟩
   refine ⟨?_, ?_, rfl, rfl, rfl, rfl⟩
   ·refine ⟨?_, ?_, ?_⟩
    ·omega
    ·omega
    ·exact idx_step (p := fun x => !(Je x (U.length : Int) 99)) h1 h3 (by simpa using b3)
   (simp only [Ju]; omega)
  intro b4
  try simp only [nrmT] at b4
  exact (idx_none (by omega) h3).symm
theorem J2N (xs : ZR) (U : ZI) (E : ZR)  : PC Tryz.prog 226 [.sl (.rows xs), .fn 201 0 [.bx [.sl (.ints U), .sl (.rows E)] 0]] (.one (.d (.int .i64 (idxI (fun x => !(Je x (U.length : Int) 99)) xs)))) :=
  pc_wf @Tryz.call226 fun hw => pc_by (by kernel_rfl) Tryz.func226 @Tryz.call226 (by kernel_rfl) J2S (J2T xs U E) (by kernel_rfl) (J2D xs U E hw.1.1 hw.1.2 hw.2.1.1.1 hw.2.1.1.2.1.1 hw.2.1.1.2.1.2) (by kernel_rfl)
def J2v : List D → Orc := orcN [some .rows, none] fun ds => match ds with
  | [.sl (.rows xs), .fn f0 0 [.bx [.sl (.ints U), .sl (.rows E)] 0]] => bif Nat.beq f0 201 then some (.one (.d (.int .i64 (idxI (fun x => !(Je x (U.length : Int) 99)) xs)))) else none
  | _ => none
def J2n (f : FuncId) (ds : List D) : Orc := bif Nat.beq f 226 then J2v ds else .no
def J2p (xs : ZR) (U : ZI) (E : ZR) : Ann := .none
def J0r (xs : ZR) (U : ZI) (E : ZR) : Prop :=
  (PC Tryz.prog 226 [.sl (.rows xs), .fn 201 0 [.bx [.sl (.ints U), .sl (.rows E)] 0]] (.one (.d (.int .i64 (idxI (fun x => !(Je x (U.length : Int) 99)) xs))))) ∧ (((decide ((idxI (fun x => !(Je x (U.length : Int) 99)) xs) ≥ 0)) = (xs.any (fun x => !(Je x (U.length : Int) 99)))))
theorem J24 (xs : ZR) (U : ZI) (E : ZR)  (w_xs : (xs.length : Int) ≤ 9223372036854775807) (v_xs : ∀ x9 ∈ xs, (x9.length : Int) ≤ 9223372036854775807) (w_Open : (U.length : Int) ≤ 9223372036854775807) (w_Dist : (E.length : Int) ≤ 9223372036854775807) (v_Dist : ∀ x9 ∈ E, (x9.length : Int) ≤ 9223372036854775807) : J0r xs U E := by
  unfold J0r
  refine ⟨J2N xs U E, ?_⟩
  ·exact idx_any _ _
theorem J21 (xs : ZR) (U : ZI) (E : ZR)  : PC Tryz.prog 195 [.sl (.rows xs), .fn 201 0 [.bx [.sl (.ints U), .sl (.rows E)] 0]] (.one (.d (.bool (xs.any (fun x => !(Je x (U.length : Int) 99)))))) :=
  pc_wf @Tryz.call195 fun hw => pc_by (by kernel_rfl) Tryz.func195 @Tryz.call195 (by kernel_rfl) J2n (J2p xs U E) (by kernel_rfl) (J24 xs U E hw.1.1 hw.1.2 hw.2.1.1.1 hw.2.1.1.2.1.1 hw.2.1.1.2.1.2) (by kernel_rfl)
def J1Z : List D → Orc := orcN [some .rows, none] fun ds => match ds with
  | [.sl (.rows xs), .fn f0 0 [.bx [.sl (.ints U), .sl (.rows E)] 0]] => bif Nat.beq f0 201 then some (.one (.d (.bool (xs.any (fun x => !(Je x (U.length : Int) 99)))))) else none
  | _ => none
def J9Z (f : FuncId) (ds : List D) : Orc := bif Nat.beq f 132 then J2a ds else bif Nat.beq f 168 then J3S ds else bif Nat.beq f 195 then J1Z ds else .no
def Jan (U : ZI) (E : ZR) : Ann := .none
def Jo (U : ZI) (E : ZR) : Bool := (cond (cond (inB (U.length : Int) 1 7) (U.all (fun x => inB x 0 99)) false) (decide ((E.length : Int) ≤ 7)) false)
def J6c (U : ZI) (E : ZR) : Prop :=
  (PC Tryz.prog 132 [.int .i64 (U.length : Int), .int .i64 1, .int .i64 7] (.one (.d (.bool (inB (U.length : Int) 1 7))))) ∧ ((inB (U.length : Int) 1 7) = true → (inB (U.length : Int) 1 7) = true) ∧ ((inB (U.length : Int) 1 7) = true → (inB (U.length : Int) 1 7) = true) ∧ ((inB (U.length : Int) 1 7) = true → PC Tryz.prog 168 [.sl (.ints U), .int .i64 0, .int .i64 99] (.one (.d (.bool (U.all (fun x => inB x 0 99)))))) ∧ (true = true) ∧ (((inB (U.length : Int) 1 7) = true → (inB (U.length : Int) 1 7) = true)) ∧ (((inB (U.length : Int) 1 7) = false → true = true)) ∧ ((cond (inB (U.length : Int) 1 7) (U.all (fun x => inB x 0 99)) false) = true → (cond (inB (U.length : Int) 1 7) (U.all (fun x => inB x 0 99)) false) = true) ∧ ((cond (inB (U.length : Int) 1 7) (U.all (fun x => inB x 0 99)) false) = true → (cond (inB (U.length : Int) 1 7) (U.all (fun x => inB x 0 99)) false) = true) ∧ ((cond (inB (U.length : Int) 1 7) (U.all (fun x => inB x 0 99)) false) = true → (cond (inB (U.length : Int) 1 7) (U.all (fun x => inB x 0 99)) false) = true) ∧ (true = true) ∧ (((cond (inB (U.length : Int) 1 7) (U.all (fun x => inB x 0 99)) false) = true → (cond (inB (U.length : Int) 1 7) (U.all (fun x => inB x 0 99)) false) = true)) ∧ (((cond (inB (U.length : Int) 1 7) (U.all (fun x => inB x 0 99)) false) = false → true = true)) ∧ ((Jo U E) = true → (Jo U E) = true) ∧ ((Jo U E) = true → (Jo U E) = true) ∧ ((Jo U E) = true → (Jo U E) = true) ∧ ((Jo U E) = true → PC Tryz.prog 195 [.sl (.rows E), .fn 201 0 [.bx [.sl (.ints U), .sl (.rows E)] 0]] (.one (.d (.bool (E.any (fun x => !(Je x (U.length : Int) 99))))))) ∧ ((Jo U E) = true → (Jo U E) = true) ∧ (true = true) ∧ (((Jo U E) = true → (Jo U E) = true)) ∧ (((Jo U E) = false → true = true)) ∧ (((cond (Jo U E) (!(E.any (fun x => !(Je x (U.length : Int) 99)))) false) = (J0 U E)))
theorem J9B (U : ZI) (E : ZR)  (w_Open : (U.length : Int) ≤ 9223372036854775807) (w_Dist : (E.length : Int) ≤ 9223372036854775807) (v_Dist : ∀ x9 ∈ E, (x9.length : Int) ≤ 9223372036854775807) : J6c U E := by
  unfold J6c Jo
  refine ⟨J2C (U.length : Int) 1 7, id, id, fun _ => J44 U 0 99, rfl, id, fun _ => rfl, id, id, id, rfl, id, fun _ => rfl, id, id, id, fun _ => J21 E U E, id, rfl, id, fun _ => rfl, ?_⟩
  ·unfold J0
   rw [any_not, show decide ((E.length : Int) ≤ 7) = decide (E.length ≤ 7) from JbG _ 7]
   cases inB (U.length : Int) 1 7 <;> cases U.all (fun x => inB x 0 99) <;> cases decide (E.length ≤ 7) <;> simp
theorem J3R (U : ZI) (E : ZR)  : PC Tryz.prog 111 [.agg [.sl (.ints U), .sl (.rows E)]] (.one (.d (.bool (J0 U E)))) :=
  pc_wf @Tryz.call111 fun hw => pc_by (by kernel_rfl) Tryz.func111 @Tryz.call111 (by kernel_rfl) J9Z (Jan U E) (by kernel_rfl) (J9B U E hw.1.1 hw.1.2.1.1 hw.1.2.1.2) (by kernel_rfl)
def J3n : List D → Orc := orcN [none] fun ds => match ds with
  | [.agg [.sl (.ints U), .sl (.rows E)]] => some (.one (.d (.bool (J0 U E))))
  | _ => none
def J9Y (f : FuncId) (ds : List D) : Orc := .no
def Jah (a : Int) (b : Int) : Ann := .none
def J6d (a : Int) (b : Int) : Prop :=
  (((decide (a < b)) = true → ((a = (min a b)))) ∧ ((decide (a < b)) = false → ((b = (min a b)))))
theorem J9P (a : Int) (b : Int)   : J6d a b := by
  unfold J6d
  refine ⟨?_, ?_⟩
  ·intro b1
   try simp only [nrmT] at b1
   omega
  intro b2
  try simp only [nrmT] at b2
  omega
theorem J98 (a : Int) (b : Int)  : PC Tryz.prog 161 [.int .i64 a, .int .i64 b] (.one (.d (.int .i64 (min a b)))) :=
  pc_wf @Tryz.call161 fun _ => pc_by (by kernel_rfl) Tryz.func161 @Tryz.call161 (by kernel_rfl) J9Y (Jah a b) (by kernel_rfl) (J9P a b) (by kernel_rfl)
def J92 : List D → Orc := orcN [none, none] fun ds => match ds with
  | [.int .i64 a, .int .i64 b] => some (.one (.d (.int .i64 (min a b))))
  | _ => none
theorem J1A {xs : ZI} {lo hi : Int} (h : J5 xs lo hi = true) : ∀ k, k < xs.length → lo + k ≤ xs.getD k 0 ∧ xs.getD k 0 ≤ hi := by
  intro k
  induction k with
  | zero =>
    intro hk
    have h1 := allTo_iff.1 h 0 hk
    simp only [J2t, Bool.and_eq_true] at h1
    have := J3 h1.1
    omega
  | succ k ih =>
    intro hk
    have h0 := ih (by omega)
    have h1 := allTo_iff.1 h (k + 1) hk
    simp only [J2t, Bool.and_eq_true, Bool.or_eq_true, decide_eq_true_eq, Nat.add_sub_cancel] at h1
    have := J3 h1.1
    have h2 := h1.2
    omega
def Ja4 (f : FuncId) (ds : List D) : Orc := .no
def Ja2 (b : Int) (x : Int) : Ann := .none
def J6e (b : Int) (x : Int) : Prop :=
  ((0 : Int) ≤ b ∧ (b : Int) ≤ 18446744073709551615) ∧ ((0 : Int) ≤ x) ∧ ((0 : Int) ≤ (b / 2 ^ x.toNat) ∧ ((b / 2 ^ x.toNat) : Int) ≤ 18446744073709551615) ∧ ((0 : Int) ≤ 1 ∧ (1 : Int) ≤ 18446744073709551615) ∧ ((((((b / 2 ^ x.toNat).toNat &&& 1 : Nat) : Int) == 1) = (b.toNat.testBit x.toNat)))
theorem J9Q (b : Int) (x : Int) (hb : 0 ≤ b ∧ b ≤ 4611686018427387903) (hx : 0 ≤ x)  : J6e b x := by
  unfold J6e
  refine ⟨?_, ?_, ?_, ?_, ?_⟩
  ·omega
  ·omega
  ·have h1 : 0 ≤ b / 2 ^ x.toNat := Int.ediv_nonneg hb.1 (Int.le_of_lt (Int.pow_pos (by omega)))
   have h2 : b / 2 ^ x.toNat ≤ b := Int.ediv_le_self _ hb.1
   omega
  ·omega
  have e : b = ((b.toNat : Nat) : Int) := by omega
  have h := shr_bit (n := b.toNat) (k := x.toNat)
  rw [← e] at h
  rw [h]
  cases b.toNat.testBit x.toNat <;> rfl
theorem J3V (b : Int) (x : Int) (hb : 0 ≤ b ∧ b ≤ 4611686018427387903) (hx : 0 ≤ x) : PC Tryz.prog 138 [.int .u64 b, .int .i64 x] (.one (.d (.bool (b.toNat.testBit x.toNat)))) :=
  pc_wf @Tryz.call138 fun _ => pc_by (by kernel_rfl) Tryz.func138 @Tryz.call138 (by kernel_rfl) Ja4 (Ja2 b x) (by kernel_rfl) (J9Q b x hb hx) (by kernel_rfl)
def J3j : List D → Orc := orcN [none, none] fun ds => match ds with
  | [.int .u64 b, .int .i64 x] => some (.one (.d (.bool (b.toNat.testBit x.toNat))))
  | _ => none
theorem J16 {xs : ZI} {lo hi : Int} (h : J5 xs lo hi = true) : ∀ x ∈ xs, lo ≤ x ∧ x ≤ hi := by
  intro x hx
  obtain ⟨k, hk, rfl⟩ := List.mem_iff_getElem.1 hx
  have := J1A h k hk
  simp [hk] at this
  omega
theorem Jcz {n : Nat} (h : n ≤ 8) : (2 : Nat) ^ n ≤ 256 := Nat.le_trans (Nat.pow_le_pow_right (by omega) h) (by decide)
abbrev J35 (l : ZI) (n : Int) (k : Int) : Prop := (0 ≤ k) ∧ (k ≤ (l.length : Int)) ∧ (∀ j, j < k.toNat → l.getD j 0 < n)
abbrev J39 (l : ZI) (n : Int) (k : Int) : Nat := (l.length - k).toNat
def Jbk (f : FuncId) (ds : List D) : Orc := .no
def JbC (l : ZI) (n : Int) : Ann := .two (.none) (.two (.none) (.two (.loop (cut1 (fun (k : Int) => J35 l n k) (fun (k : Int) => [(0, .d true (.sl (.ints l))), (1, .d false (.int .i64 n)), (5, .d true (.int .i64 k))]) (fun (k : Int) => [])) (fun g => J39 l n g) (fun _ => .none)) (.two (.none) (.two (.reg [(6, .frz)]) (.none)))))
def J8x (l : ZI) (n : Int) : Prop :=
  ((∃ k' : Int, (J35 l n k') ∧ (l = l) ∧ (n = n) ∧ ((0 : Int) = k')) ∧ (∀ k : Int, (J35 l n k) → ((decide (k < (l.length : Int))) = true → (decide (k < (l.length : Int))) = true) ∧ ((decide (k < (l.length : Int))) = true → (decide (k < (l.length : Int))) = true) ∧ (((decide (k < (l.length : Int))) = true → (0 : Int) ≤ k)) ∧ (((decide (k < (l.length : Int))) = true → (k : Int) < l.length)) ∧ ((decide (k < (l.length : Int))) = true → (decide (k < (l.length : Int))) = true) ∧ (((decide (k < (l.length : Int))) = true → k.toNat < l.length)) ∧ ((decide (k < (l.length : Int))) = true → (decide (k < (l.length : Int))) = true) ∧ ((decide (k < (l.length : Int))) = true → (decide (k < (l.length : Int))) = true) ∧ (true = true) ∧ (((decide (k < (l.length : Int))) = true → (decide (k < (l.length : Int))) = true)) ∧ (((decide (k < (l.length : Int))) = false → true = true)) ∧ (((cond (decide (k < (l.length : Int))) (decide ((l.getD k.toNat 0) < n)) false) = true → (I6 (k + 1)) ∧ (∃ k' : Int, (J35 l n k') ∧ (J39 l n k' < J39 l n k) ∧ (l = l) ∧ (n = n) ∧ ((k + 1) = k'))) ∧ ((cond (decide (k < (l.length : Int))) (decide ((l.getD k.toNat 0) < n)) false) = false → ((decide (k < (l.length : Int))) = true → (decide (k < (l.length : Int))) = true) ∧ ((decide (k < (l.length : Int))) = true → (decide (k < (l.length : Int))) = true) ∧ (((decide (k < (l.length : Int))) = true → (0 : Int) ≤ k)) ∧ (((decide (k < (l.length : Int))) = true → (k : Int) < l.length)) ∧ ((decide (k < (l.length : Int))) = true → (decide (k < (l.length : Int))) = true) ∧ (((decide (k < (l.length : Int))) = true → k.toNat < l.length)) ∧ ((decide (k < (l.length : Int))) = true → (decide (k < (l.length : Int))) = true) ∧ ((decide (k < (l.length : Int))) = true → (decide (k < (l.length : Int))) = true) ∧ (true = true) ∧ (((decide (k < (l.length : Int))) = true → (decide (k < (l.length : Int))) = true)) ∧ (((decide (k < (l.length : Int))) = false → true = true)) ∧ (((cond (decide (k < (l.length : Int))) ((l.getD k.toNat 0) == n) false) = true → (((l : ZI) = (putL l n)))) ∧ ((cond (decide (k < (l.length : Int))) ((l.getD k.toNat 0) == n) false) = false → (true = true) ∧ ((0 : Int) ≤ k) ∧ ((k : Int) ≤ l.length) ∧ ((0 : Nat) = 0) ∧ (True) ∧ ((0 + ((l.take k.toNat).drop 0).length) * 8 ≤ 140737488355328) ∧ ((0 + ((l.take k.toNat).drop 0).length) = ([] ++ ((l.take k.toNat).drop 0)).length) ∧ (True) ∧ ((([] ++ ((l.take k.toNat).drop 0)).length + 1) * 8 ≤ 140737488355328) ∧ ((0 : Int) ≤ k) ∧ ((k : Int) ≤ l.length) ∧ (((0 + ((l.take k.toNat).drop 0).length) + 1) = (([] ++ ((l.take k.toNat).drop 0)) ++ [n]).length) ∧ (True) ∧ (((([] ++ ((l.take k.toNat).drop 0)) ++ [n]).length + ((l.take l.length).drop k.toNat).length) * 8 ≤ 140737488355328) ∧ (((((0 + ((l.take k.toNat).drop 0).length) + 1) + ((l.take l.length).drop k.toNat).length) = ((([] ++ ((l.take k.toNat).drop 0)) ++ [n]) ++ ((l.take l.length).drop k.toNat)).length) ∧ ((((([] ++ ((l.take k.toNat).drop 0)) ++ [n]) ++ ((l.take l.length).drop k.toNat)) : ZI) = (putL l n)))))))))
theorem JaV (l : ZI) (n : Int) (hl : l.length ≤ 1048576) (w_l : (l.length : Int) ≤ 9223372036854775807) : J8x l n := by
  unfold J8x
  refine ⟨?_, ?_⟩
  ·refine ⟨0, ?_⟩
   refine ⟨?_, rfl, rfl, rfl⟩
   ·refine ⟨?_, ?_, ?_⟩
    ·omega
    ·omega
    ·omega
  intro k hJ
  obtain ⟨h1, h2, h3⟩ := hJ
  refine ⟨id, id, ?_, ?_, id, ?_, id, id, rfl, id, fun _ => rfl, ?_, ?_⟩
  ·omega
  ·(intro hg; simp only [nrmT] at hg; omega)
  ·(intro hg; simp only [nrmT] at hg; omega)
  ·intro b1
   refine ⟨?_, ?_⟩
   ·have h5 : k < (l.length : Int) ∧ l.getD k.toNat 0 < n := by
      revert b1; by_cases h : k < (l.length : Int)
      · rw [decide_eq_true h]; intro g; exact ⟨h, by simpa using g⟩
      rw [decide_eq_false h]; intro g; cases g
    omega
   refine ⟨(k + 1), ?_⟩
   refine ⟨?_, ?_, rfl, rfl, rfl⟩
   ·refine ⟨?_, ?_, ?_⟩
    ·omega
    ·have h5 : k < (l.length : Int) ∧ l.getD k.toNat 0 < n := by
       revert b1; by_cases h : k < (l.length : Int)
       · rw [decide_eq_true h]; intro g; exact ⟨h, by simpa using g⟩
       rw [decide_eq_false h]; intro g; cases g
     omega
    ·have h5 : k < (l.length : Int) ∧ l.getD k.toNat 0 < n := by
       revert b1; by_cases h : k < (l.length : Int)
       · rw [decide_eq_true h]; intro g; exact ⟨h, by simpa using g⟩
       rw [decide_eq_false h]; intro g; cases g
     intro j hj
     by_cases e : j = k.toNat
     · rw [e]; exact h5.2
     exact h3 j (by omega)
   have h5 : k < (l.length : Int) ∧ l.getD k.toNat 0 < n := by
     revert b1; by_cases h : k < (l.length : Int)
     · rw [decide_eq_true h]; intro g; exact ⟨h, by simpa using g⟩
     rw [decide_eq_false h]; intro g; cases g
   (simp only [J39]; omega)
  intro b2
  refine ⟨id, id, ?_, ?_, id, ?_, id, id, rfl, id, fun _ => rfl, ?_, ?_⟩
  ·omega
  ·(intro hg; simp only [nrmT] at hg; omega)
  ·(intro hg; simp only [nrmT] at hg; omega)
  ·intro b3
   have h6 : k.toNat < l.length → ¬ l.getD k.toNat 0 < n := by
     intro g1 g2
     rw [decide_eq_true (show k < (l.length : Int) by omega), decide_eq_true g2] at b2
     cases b2
   have h7 : k < (l.length : Int) ∧ l.getD k.toNat 0 = n := by
     revert b3; by_cases h : k < (l.length : Int)
     · rw [decide_eq_true h]; intro g; exact ⟨h, by simpa using g⟩
     rw [decide_eq_false h]; intro g; cases g
   rw [putL_at l n k.toNat (by omega) h3 h6, if_pos ⟨by omega, h7.2⟩]
  intro b4
  refine ⟨rfl, ?_, ?_, rfl, trivial, ?_, ?_, trivial, ?_, ?_, ?_, ?_, trivial, ?_, ?_, ?_⟩
  ·omega
  ·omega
  ·(simp only [List.length_append, List.length_take, List.length_drop, List.length_cons, List.length_nil]; omega)
  ·(simp only [List.length_append, List.length_take, List.length_drop, List.length_cons, List.length_nil]; done)
  ·(simp only [List.length_append, List.length_take, List.length_drop, List.length_cons, List.length_nil]; omega)
  ·omega
  ·omega
  ·(simp only [List.length_append, List.length_take, List.length_drop, List.length_cons, List.length_nil]; done)
  ·(simp only [List.length_append, List.length_take, List.length_drop, List.length_cons, List.length_nil]; omega)
  ·(simp only [List.length_append, List.length_take, List.length_drop, List.length_cons, List.length_nil]; done)
  have h6 : k.toNat < l.length → ¬ l.getD k.toNat 0 < n := by
    intro g1 g2
    rw [decide_eq_true (show k < (l.length : Int) by omega), decide_eq_true g2] at b2
    cases b2
  have h7 : ¬ (k.toNat < l.length ∧ l.getD k.toNat 0 = n) := by
    rintro ⟨g1, g2⟩
    rw [decide_eq_true (show k < (l.length : Int) by omega), g2] at b4
    simp at b4
  rw [putL_at l n k.toNat (by omega) h3 h6, if_neg h7]
  simp
theorem J4u (l : ZI) (n : Int) (hl : l.length ≤ 1048576) : PCs Tryz.prog 140 [.sl (.ints l), .int .i64 n] 0 (.sl (.ints (putL l n))) :=
  pcs_wf @Tryz.call140 fun hw => pcs_by (by kernel_rfl) Tryz.func140 @Tryz.call140 (by kernel_rfl) Jbk (JbC l n) (by kernel_rfl) (JaV l n hl hw.1) (by kernel_rfl)
def Jal : List D → Orc := orcS 0 fun ds => match ds with
  | [.sl (.ints l), .int .i64 n] => some (.sl (.ints (putL l n)))
  | _ => none
theorem JG {α : Type} {xs : List α} {k : Nat} {d : α} (h : k < xs.length) : xs.getD k d = xs[k] := by simp [h]
theorem Jci {xs : ZI} {x i : Int} (h2 : (xs.length : Int) ≤ i) (h3 : ∀ k, k < i.toNat → (fun y => x == y) (xs.getD k 0) = false) : xs.contains x = false := by
  rw [List.contains_eq_any_beq, List.any_eq_false]
  intro y hy
  obtain ⟨k, hk, rfl⟩ := List.mem_iff_getElem.1 hy
  have := h3 k (by omega)
  simp [hk] at this
  simpa using this
theorem JbE {xs : ZI} {x i : Int} (h1 : 0 ≤ i) (h2 : i < (xs.length : Int)) (h : xs.getD i.toNat 0 = x) : xs.contains x = true := by
  rw [List.contains_iff_mem, ← h]; exact getD_memI h1 h2
abbrev J32 (xs : ZI) (x : Int) (i : Int) : Prop := (0 ≤ i) ∧ (i ≤ (xs.length : Int)) ∧ (∀ k, k < i.toNat → (fun y => x == y) (xs.getD k 0) = false)
abbrev J3a (xs : ZI) (x : Int) (i : Int) : Nat := (xs.length - i).toNat
def JbI (f : FuncId) (ds : List D) : Orc := .no
def Jbz (xs : ZI) (x : Int) : Ann := .two (.none) (.two (.two (.none) (.loop (cut1 (fun (i : Int) => J32 xs x i) (fun (i : Int) => [(0, .d false (.sl (.ints xs))), (1, .d false (.int .i64 x)), (5, .d true (.int .i64 i))]) (fun (i : Int) => [])) (fun g => J3a xs x g) (fun _ => .none))) (.none))
def J8q (xs : ZI) (x : Int) : Prop :=
  ((∃ i' : Int, (J32 xs x i') ∧ (xs = xs) ∧ (x = x) ∧ ((0 : Int) = i')) ∧ (∀ i : Int, (J32 xs x i) → (((decide (i < (xs.length : Int))) = true → ((0 : Int) ≤ i) ∧ ((i : Int) < xs.length) ∧ (i.toNat < xs.length) ∧ ((((xs.getD i.toNat 0) == x) = true → ((true = (xs.contains x)))) ∧ (((xs.getD i.toNat 0) == x) = false → (I6 (i + 1)) ∧ (∃ i' : Int, (J32 xs x i') ∧ (J3a xs x i' < J3a xs x i) ∧ (xs = xs) ∧ (x = x) ∧ ((i + 1) = i'))))) ∧ ((decide (i < (xs.length : Int))) = false → ((false = (xs.contains x)))))))
theorem JaG (xs : ZI) (x : Int)  (w_xs : (xs.length : Int) ≤ 9223372036854775807) : J8q xs x := by
  unfold J8q
  refine ⟨?_, ?_⟩
  ·refine ⟨0, ?_⟩
   refine ⟨?_, rfl, rfl, rfl⟩
   ·refine ⟨?_, ?_, ?_⟩
    ·omega
    ·omega
    ·omega
  intro i hJ
  obtain ⟨h1, h2, h3⟩ := hJ
  refine ⟨?_, ?_⟩
  ·intro b1
   try simp only [nrmT] at b1
   refine ⟨?_, ?_, ?_, ?_, ?_⟩
   ·omega
   ·omega
   ·omega
   ·intro b2
    try simp only [nrmT] at b2
    exact (JbE h1 b1 b2).symm
   intro b3
   try simp only [nrmT] at b3
   refine ⟨?_, ?_⟩
   ·omega
   refine ⟨(i + 1), ?_⟩
   refine ⟨?_, ?_, rfl, rfl, rfl⟩
   ·refine ⟨?_, ?_, ?_⟩
    ·omega
    ·omega
    ·exact idx_step (p := fun y => x == y) h1 h3 (by simp only [beq_eq_false_iff_ne]; exact fun h => b3 h.symm)
   (simp only [J3a]; omega)
  intro b4
  try simp only [nrmT] at b4
  exact (Jci (by omega) h3).symm
theorem JaI (xs : ZI) (x : Int)  : PC Tryz.prog 128 [.sl (.ints xs), .int .i64 x] (.one (.d (.bool (xs.contains x)))) :=
  pc_wf @Tryz.call128 fun hw => pc_by (by kernel_rfl) Tryz.func128 @Tryz.call128 (by kernel_rfl) JbI (Jbz xs x) (by kernel_rfl) (JaG xs x hw.1) (by kernel_rfl)
def Jaf : List D → Orc := orcN [some .ints, none] fun ds => match ds with
  | [.sl (.ints xs), .int .i64 x] => some (.one (.d (.bool (xs.contains x))))
  | _ => none
def J7z (f : FuncId) (ds : List D) : Orc := bif Nat.beq f 162 then J7P ds else .no
def J7i (U : ZI) (E : ZR) (set : ZI) : Ann := .none
def J48 (U : ZI) (E : ZR) (set : ZI) : Prop :=
  ((decide ((set.length : Int) > 0)) = true → (decide ((set.length : Int) > 0)) = true) ∧ ((decide ((set.length : Int) > 0)) = true → (decide ((set.length : Int) > 0)) = true) ∧ ((decide ((set.length : Int) > 0)) = true → (decide ((set.length : Int) > 0)) = true) ∧ ((decide ((set.length : Int) > 0)) = true → (decide ((set.length : Int) > 0)) = true) ∧ ((decide ((set.length : Int) > 0)) = true → PC Tryz.prog 162 [.sl (.ints set), .int .i64 (U.length : Int)] (.one (.d (.bool (J5 set 0 ((U.length : Int) - 1)))))) ∧ (true = true) ∧ (((decide ((set.length : Int) > 0)) = true → (decide ((set.length : Int) > 0)) = true)) ∧ (((decide ((set.length : Int) > 0)) = false → true = true)) ∧ (((cond (decide ((set.length : Int) > 0)) (J5 set 0 ((U.length : Int) - 1)) false) = (J5 set 0 ((U.length : Int) - 1) && decide (0 < set.length))))
theorem J6H (U : ZI) (E : ZR) (set : ZI)  (w_Open : (U.length : Int) ≤ 9223372036854775807) (w_Dist : (E.length : Int) ≤ 9223372036854775807) (v_Dist : ∀ x9 ∈ E, (x9.length : Int) ≤ 9223372036854775807) (w_set : (set.length : Int) ≤ 9223372036854775807) : J48 U E set := by
  unfold J48
  refine ⟨id, id, id, id, ?_, rfl, id, fun _ => rfl, ?_⟩
  ·intro hg
   refine J8K set (U.length : Int) ?_
   ·omega
  rw [(show decide ((set.length : Int) > 0) = decide (0 < set.length) by rw [Bool.eq_iff_iff]; simp only [decide_eq_true_eq]; omega)]
  cases J5 set 0 ((U.length : Int) - 1) <;> cases decide (0 < set.length) <;> rfl
theorem J6G (U : ZI) (E : ZR) (set : ZI)  : PC Tryz.prog 203 [.agg [.sl (.ints U), .sl (.rows E)], .sl (.ints set)] (.one (.d (.bool (J5 set 0 ((U.length : Int) - 1) && decide (0 < set.length))))) :=
  pc_wf @Tryz.call203 fun hw => pc_by (by kernel_rfl) Tryz.func203 @Tryz.call203 (by kernel_rfl) J7z (J7i U E set) (by kernel_rfl) (J6H U E set hw.1.1 hw.1.2.1.1 hw.1.2.1.2 hw.2.1) (by kernel_rfl)
def J5Z : List D → Orc := orcN [none, some .ints] fun ds => match ds with
  | [.agg [.sl (.ints U), .sl (.rows E)], .sl (.ints set)] => some (.one (.d (.bool (J5 set 0 ((U.length : Int) - 1) && decide (0 < set.length)))))
  | _ => none
def J9U (f : FuncId) (ds : List D) : Orc := bif Nat.beq f 111 then J3n ds else bif Nat.beq f 203 then J5Z ds else .no
def J9j (U : ZI) (E : ZR) (set : ZI) : Ann := .none
def J5h (U : ZI) (E : ZR) (set : ZI) : Prop :=
  (PC Tryz.prog 111 [.agg [.sl (.ints U), .sl (.rows E)]] (.one (.d (.bool (J0 U E))))) ∧ ((J0 U E) = true → (J0 U E) = true) ∧ ((J0 U E) = true → (J0 U E) = true) ∧ ((J0 U E) = true → PC Tryz.prog 203 [.agg [.sl (.ints U), .sl (.rows E)], .sl (.ints set)] (.one (.d (.bool (J5 set 0 ((U.length : Int) - 1) && decide (0 < set.length)))))) ∧ (true = true) ∧ (((J0 U E) = true → (J0 U E) = true)) ∧ (((J0 U E) = false → true = true)) ∧ (((cond (J0 U E) (J5 set 0 ((U.length : Int) - 1) && decide (0 < set.length)) false) = (J0 U E && J5 set 0 ((U.length : Int) - 1) && decide (0 < set.length))))
theorem J8G (U : ZI) (E : ZR) (set : ZI)  (w_Open : (U.length : Int) ≤ 9223372036854775807) (w_Dist : (E.length : Int) ≤ 9223372036854775807) (v_Dist : ∀ x9 ∈ E, (x9.length : Int) ≤ 9223372036854775807) (w_set : (set.length : Int) ≤ 9223372036854775807) : J5h U E set := by
  unfold J5h
  refine ⟨J3R U E, id, id, fun _ => J6G U E set, rfl, id, fun _ => rfl, ?_⟩
  ·cases J0 U E <;> cases J5 set 0 ((U.length : Int) - 1) <;> cases decide (0 < set.length) <;> rfl
theorem J8I (U : ZI) (E : ZR) (set : ZI)  : PC Tryz.prog 113 [.agg [.sl (.ints U), .sl (.rows E)], .sl (.ints set)] (.one (.d (.bool (J0 U E && J5 set 0 ((U.length : Int) - 1) && decide (0 < set.length))))) :=
  pc_wf @Tryz.call113 fun hw => pc_by (by kernel_rfl) Tryz.func113 @Tryz.call113 (by kernel_rfl) J9U (J9j U E set) (by kernel_rfl) (J8G U E set hw.1.1 hw.1.2.1.1 hw.1.2.1.2 hw.2.1) (by kernel_rfl)
def J7Q : List D → Orc := orcN [none, some .ints] fun ds => match ds with
  | [.agg [.sl (.ints U), .sl (.rows E)], .sl (.ints set)] => some (.one (.d (.bool (J0 U E && J5 set 0 ((U.length : Int) - 1) && decide (0 < set.length)))))
  | _ => none
theorem JZ {U set : ZI} {E : ZR} (h : (J0 U E && J5 set 0 ((U.length : Int) - 1) && decide (0 < set.length)) = true) :
    J0 U E = true ∧ J5 set 0 ((U.length : Int) - 1) = true ∧ 0 < set.length := by
  simp only [Bool.and_eq_true, decide_eq_true_eq] at h
  exact ⟨h.1.1, h.1.2, h.2⟩
theorem J4Q {b x : Int} (hb : 0 ≤ b ∧ b ≤ 4611686018427387903) (h2 : x ≤ 62) (h : 0 < b / 2 ^ x.toNat) : x < 62 := by
  by_cases e : x = 62
  · subst e
    have e2 : (2 : Int) ^ (62 : Int).toNat = 4611686018427387904 := by decide
    rw [e2] at h
    omega
  omega
theorem Jau {b : Int} {m : Nat} (hb : 0 ≤ b) (h : ¬ 0 < b / 2 ^ m) (k : Nat) (hk : m ≤ k) : b.toNat.testBit k = false := by
  have h1 : b.toNat / 2 ^ m = 0 := by
    have h2 : ((b.toNat / 2 ^ m : Nat) : Int) = b / 2 ^ m := by
      rw [Int.natCast_ediv, Int.toNat_of_nonneg hb]; simp
    have h3 : (0 : Int) ≤ ((b.toNat / 2 ^ m : Nat) : Int) := Int.natCast_nonneg _
    omega
  have h4 : b.toNat < 2 ^ m := (Nat.div_eq_zero_iff_lt (Nat.two_pow_pos m)).1 h1
  exact Nat.testBit_lt_two_pow (Nat.lt_of_lt_of_le h4 (Nat.pow_le_pow_right (by omega) hk))
theorem J1w {p : Nat → Bool} {m : Nat} (h : ∀ k, m ≤ k → p k = false) : ∀ n, m ≤ n → members p n = members p m
  | 0, hn => by have : m = 0 := by omega
                rw [this]
  | n + 1, hn => by
    by_cases e : m = n + 1
    · rw [e]
    rw [members_succ, J1w h n (by omega), h n (by omega)]; simp
abbrev J14 (b : Int) (out : ZI) (x : Int) : Prop := (0 ≤ x) ∧ (x ≤ 62) ∧ (out = members (fun k => b.toNat.testBit k) x.toNat)
abbrev JW (b : Int) (out : ZI) (x : Int) : Nat := (62 - x).toNat
def J99 (f : FuncId) (ds : List D) : Orc := bif Nat.beq f 138 then J3j ds else .no
def J9v (b : Int) : Ann := .two (.none) (.two (.none) (.two (.two (.none) (.loop (cut2 (fun (out : ZI) (x : Int) => J14 b out x) (fun (out : ZI) (x : Int) => [(0, .d false (.int .u64 b)), (3, .own 1000000 out.length), (4, .d true (.int .i64 x))]) (fun (out : ZI) (x : Int) => [(1000000, .arr true 3 (.ints out))])) (fun g => JW b g.1 g.2) (fun _ => .none))) (.none)))
def J4V (b : Int) : Prop :=
  ((∃ out' : ZI, ∃ x' : Int, (J14 b out' x') ∧ (b = b) ∧ ((0 : Nat) = out'.length) ∧ ((0 : Int) = x') ∧ ([] = out')) ∧ (∀ out : ZI, ∀ x : Int, (J14 b out x) → ((0 : Int) ≤ b ∧ (b : Int) ≤ 18446744073709551615) ∧ ((0 : Int) ≤ x) ∧ (((decide ((b / 2 ^ x.toNat) > 0)) = true → (PC Tryz.prog 138 [.int .u64 b, .int .i64 x] (.one (.d (.bool (b.toNat.testBit x.toNat))))) ∧ (((b.toNat.testBit x.toNat) = true → (out.length = out.length) ∧ ((1 : Nat) = 1) ∧ ((out.length + 1) * 8 ≤ 140737488355328) ∧ (I6 (x + 1)) ∧ (∃ out' : ZI, ∃ x' : Int, (J14 b out' x') ∧ (JW b out' x' < JW b out x) ∧ (b = b) ∧ ((out.length + 1) = out'.length) ∧ ((x + 1) = x') ∧ ((out ++ [x]) = out'))) ∧ ((b.toNat.testBit x.toNat) = false → (I6 (x + 1)) ∧ (∃ out' : ZI, ∃ x' : Int, (J14 b out' x') ∧ (JW b out' x' < JW b out x) ∧ (b = b) ∧ (out.length = out'.length) ∧ ((x + 1) = x') ∧ (out = out'))))) ∧ ((decide ((b / 2 ^ x.toNat) > 0)) = false → ((out.length = out.length) ∧ ((out : ZI) = members (fun k => b.toNat.testBit k) 62))))))
theorem J8A (b : Int) (hb : 0 ≤ b ∧ b ≤ 4611686018427387903)  : J4V b := by
  unfold J4V
  refine ⟨?_, ?_⟩
  ·refine ⟨([]), 0, ?_⟩
   refine ⟨?_, rfl, rfl, rfl, ?_⟩
   ·refine ⟨?_, ?_, ?_⟩
    ·omega
    ·omega
    ·rfl
   rfl
  intro out x hJ
  obtain ⟨h1, h2, h3⟩ := hJ
  refine ⟨?_, ?_, ?_, ?_⟩
  ·omega
  ·omega
  ·intro b1
   try simp only [nrmT] at b1
   refine ⟨?_, ?_, ?_⟩
   ·refine J3V b x ?_ ?_
    ·omega
    ·omega
   ·intro b2
    try simp only [nrmT] at b2
    refine ⟨rfl, rfl, ?_, ?_, ?_⟩
    ·rw [h3]; have := members_len_le (fun k => b.toNat.testBit k) x.toNat; omega
    ·omega
    refine ⟨(out ++ [x]), (x + 1), ?_⟩
    refine ⟨?_, ?_, rfl, ?_, rfl, rfl⟩
    ·refine ⟨?_, ?_, ?_⟩
     ·omega
     ·have := J4Q hb h2 b1; omega
     ·rw [h3, show (x + 1).toNat = x.toNat + 1 by omega, members_succ, b2]; simp; try omega
    ·have := J4Q hb h2 b1
     (simp only [JW]; omega)
    (simp_all; done)
   intro b3
   try simp only [nrmT] at b3
   refine ⟨?_, ?_⟩
   ·omega
   refine ⟨out, (x + 1), ?_⟩
   refine ⟨?_, ?_, rfl, rfl, rfl, rfl⟩
   ·refine ⟨?_, ?_, ?_⟩
    ·omega
    ·have := J4Q hb h2 b1; omega
    ·rw [h3, show (x + 1).toNat = x.toNat + 1 by omega, members_succ, b3]; simp; try omega
   have := J4Q hb h2 b1
   (simp only [JW]; omega)
  intro b4
  try simp only [nrmT] at b4
  refine ⟨rfl, ?_⟩
  ·rw [h3]; refine (J1w (fun k hk => Jau hb.1 (m := x.toNat) (by omega) k hk) 62 (by omega)).symm
theorem J4z (b : Int) (hb : 0 ≤ b ∧ b ≤ 4611686018427387903) : PC Tryz.prog 139 [.int .u64 b] (.one (.own 3 (.ints (members (fun k => b.toNat.testBit k) 62)))) :=
  pc_wf @Tryz.call139 fun _ => pc_by (by kernel_rfl) Tryz.func139 @Tryz.call139 (by kernel_rfl) J99 (J9v b) (by kernel_rfl) (J8A b hb) (by kernel_rfl)
def J8a : List D → Orc := orcN [none] fun ds => match ds with
  | [.int .u64 b] => some (.one (.own 3 (.ints (members (fun k => b.toNat.testBit k) 62))))
  | _ => none
def J2M (row set : ZI) (b : Int) (k : Nat) : Int := if row.getD (set.getD k 0).toNat 0 < row.getD b.toNat 0 then set.getD k 0 else b
def Ji (row set : ZI) (k : Nat) : Int := foldTo (J2M row set) (set.getD 0 0) k
theorem Jb1 (row set : ZI) : Ji row set 1 = set.getD 0 0 := by
  show J2M row set (set.getD 0 0) 0 = _
  unfold J2M; split <;> rfl
theorem J0X (row set : ZI) (k : Nat) : Ji row set (k + 1) = J2M row set (Ji row set k) k := rfl
theorem J1s {row set : ZI} {n : Int} (h : ∀ k, k < set.length → 0 ≤ set.getD k 0 ∧ set.getD k 0 < n) (hp : 0 < set.length) : ∀ k, k ≤ set.length → 0 ≤ Ji row set k ∧ Ji row set k < n
  | 0, _ => h 0 hp
  | k + 1, hk => by
    rw [J0X]
    unfold J2M
    split
    · exact h k (by omega)
    exact J1s h hp k (by omega)
abbrev J1D (U : ZI) (E : ZR) (client : Int) (set : ZI) (best : Int) (k : Int) : Prop := (1 ≤ k) ∧ (k ≤ (set.length : Int)) ∧ (best = Ji (E.getD client.toNat []) set k.toNat)
abbrev J0s (U : ZI) (E : ZR) (client : Int) (set : ZI) (best : Int) (k : Int) : Nat := (set.length - k).toNat
def Jbe (f : FuncId) (ds : List D) : Orc := .no
def Jb7 (U : ZI) (E : ZR) (client : Int) (set : ZI) : Ann := .two (.none) (.two (.none) (.two (.two (.none) (.loop (cut2 (fun (best : Int) (k : Int) => J1D U E client set best k) (fun (best : Int) (k : Int) => [(1, .d false (.int .i64 client)), (2, .d false (.sl (.ints set))), (3, .ptr 3 0), (7, .d true (.int .i64 best)), (8, .d true (.int .i64 k))]) (fun (best : Int) (k : Int) => [(3, .box 27 [.d false (.sl (.ints U)), .d false (.sl (.rows E))])])) (fun g => J0s U E client set g.1 g.2) (fun _ => .none))) (.none)))
def J7e (U : ZI) (E : ZR) (client : Int) (set : ZI) : Prop :=
  ((0 : Int) ≤ 0) ∧ ((0 : Int) < set.length) ∧ (0 < set.length) ∧ ((∃ best' : Int, ∃ k' : Int, (J1D U E client set best' k') ∧ (client = client) ∧ (set = set) ∧ ((set.getD 0 0) = best') ∧ ((1 : Int) = k') ∧ (U = U) ∧ (E = E)) ∧ (∀ best : Int, ∀ k : Int, (J1D U E client set best k) → (((decide (k < (set.length : Int))) = true → (true = true) ∧ ((0 : Int) ≤ client) ∧ ((client : Int) < E.length) ∧ (client.toNat < E.length) ∧ ((0 : Int) ≤ k) ∧ ((k : Int) < set.length) ∧ (k.toNat < set.length) ∧ ((0 : Int) ≤ (set.getD k.toNat 0)) ∧ (((set.getD k.toNat 0) : Int) < (E.getD client.toNat []).length) ∧ ((set.getD k.toNat 0).toNat < (E.getD client.toNat []).length) ∧ ((0 : Int) ≤ client) ∧ ((client : Int) < E.length) ∧ (client.toNat < E.length) ∧ ((0 : Int) ≤ best) ∧ ((best : Int) < (E.getD client.toNat []).length) ∧ (best.toNat < (E.getD client.toNat []).length) ∧ (((decide (((E.getD client.toNat []).getD ((set.getD k.toNat 0).toNat) 0) < ((E.getD client.toNat []).getD best.toNat 0))) = true → ((0 : Int) ≤ k) ∧ ((k : Int) < set.length) ∧ (k.toNat < set.length) ∧ (I6 (k + 1)) ∧ (∃ best' : Int, ∃ k' : Int, (J1D U E client set best' k') ∧ (J0s U E client set best' k' < J0s U E client set best k) ∧ (client = client) ∧ (set = set) ∧ ((set.getD k.toNat 0) = best') ∧ ((k + 1) = k') ∧ (U = U) ∧ (E = E))) ∧ ((decide (((E.getD client.toNat []).getD ((set.getD k.toNat 0).toNat) 0) < ((E.getD client.toNat []).getD best.toNat 0))) = false → (I6 (k + 1)) ∧ (∃ best' : Int, ∃ k' : Int, (J1D U E client set best' k') ∧ (J0s U E client set best' k' < J0s U E client set best k) ∧ (client = client) ∧ (set = set) ∧ (best = best') ∧ ((k + 1) = k') ∧ (U = U) ∧ (E = E))))) ∧ ((decide (k < (set.length : Int))) = false → ((best = (Ji (E.getD client.toNat []) set set.length)))))))
theorem Jag (U : ZI) (E : ZR) (client : Int) (set : ZI) (ht : (J0 U E && J5 set 0 ((U.length : Int) - 1) && decide (0 < set.length)) = true) (hc : 0 ≤ client ∧ client < (E.length : Int)) (w_Open : (U.length : Int) ≤ 9223372036854775807) (w_Dist : (E.length : Int) ≤ 9223372036854775807) (v_Dist : ∀ x9 ∈ E, (x9.length : Int) ≤ 9223372036854775807) (w_set : (set.length : Int) ≤ 9223372036854775807) : J7e U E client set := by
  unfold J7e
  obtain ⟨hg, hs, hp⟩ := JZ ht
  obtain ⟨g1, g2, g3⟩ := J2 hg
  have cs := fun k => J1A hs k
  obtain ⟨rl, rb⟩ := J3I (i := client.toNat) hg (by omega)
  have si := J1s (row := E.getD client.toNat []) (set := set) (n := (U.length : Int)) (fun k hk => by have := cs k hk; omega) hp
  refine ⟨?_, ?_, ?_, ?_, ?_⟩
  ·omega
  ·omega
  ·omega
  ·refine ⟨(set.getD 0 0), 1, ?_⟩
   refine ⟨?_, rfl, rfl, rfl, rfl, rfl, rfl⟩
   ·refine ⟨?_, ?_, ?_⟩
    ·omega
    ·omega
    ·exact (Jb1 _ _).symm
  intro best k hJ
  obtain ⟨h1, h2, h3⟩ := hJ
  refine ⟨?_, ?_⟩
  ·intro b1
   try simp only [nrmT] at b1
   refine ⟨rfl, ?_, ?_, ?_, ?_, ?_, ?_, ?_, ?_, ?_, ?_, ?_, ?_, ?_, ?_, ?_, ?_, ?_⟩
   ·omega
   ·omega
   ·omega
   ·omega
   ·omega
   ·omega
   ·have := cs k.toNat (by omega)
    omega
   ·have := cs k.toNat (by omega)
    omega
   ·have := cs k.toNat (by omega)
    omega
   ·omega
   ·omega
   ·omega
   ·have := si k.toNat (by omega)
    omega
   ·have := si k.toNat (by omega)
    omega
   ·have := si k.toNat (by omega)
    omega
   ·intro b2
    try simp only [nrmT] at b2
    refine ⟨?_, ?_, ?_, ?_, ?_⟩
    ·omega
    ·omega
    ·omega
    ·omega
    refine ⟨(set.getD k.toNat 0), (k + 1), ?_⟩
    refine ⟨?_, ?_, rfl, rfl, rfl, rfl, rfl, rfl⟩
    ·refine ⟨?_, ?_, ?_⟩
     ·omega
     ·omega
     ·rw [show (k + 1).toNat = k.toNat + 1 by omega, J0X, ← h3]; unfold J2M; rw [if_pos b2]
    (simp only [J0s]; omega)
   intro b3
   try simp only [nrmT] at b3
   refine ⟨?_, ?_⟩
   ·omega
   refine ⟨best, (k + 1), ?_⟩
   refine ⟨?_, ?_, rfl, rfl, rfl, rfl, rfl, rfl⟩
   ·refine ⟨?_, ?_, ?_⟩
    ·omega
    ·omega
    ·rw [show (k + 1).toNat = k.toNat + 1 by omega, J0X, ← h3]; unfold J2M; rw [if_neg (by omega)]
   (simp only [J0s]; omega)
  intro b4
  try simp only [nrmT] at b4
  rw [h3, show k.toNat = set.length by omega]
theorem Jaj (U : ZI) (E : ZR) (client : Int) (set : ZI) (ht : (J0 U E && J5 set 0 ((U.length : Int) - 1) && decide (0 < set.length)) = true) (hc : 0 ≤ client ∧ client < (E.length : Int)) : PC Tryz.prog 153 [.agg [.sl (.ints U), .sl (.rows E)], .int .i64 client, .sl (.ints set)] (.one (.d (.int .i64 (Ji (E.getD client.toNat []) set set.length)))) :=
  pc_wf @Tryz.call153 fun hw => pc_by (by kernel_rfl) Tryz.func153 @Tryz.call153 (by kernel_rfl) Jbe (Jb7 U E client set) (by kernel_rfl) (Jag U E client set ht hc hw.1.1 hw.1.2.1.1 hw.1.2.1.2 hw.2.2.1) (by kernel_rfl)
def J9F : List D → Orc := orcN [none, none, some .ints] fun ds => match ds with
  | [.agg [.sl (.ints U), .sl (.rows E)], .int .i64 client, .sl (.ints set)] => some (.one (.d (.int .i64 (Ji (E.getD client.toNat []) set set.length))))
  | _ => none
abbrev J00 (U : ZI) (E : ZR) (client : Int) (set : ZI) (best : Int) (k : Int) : Prop := (0 ≤ k) ∧ (k ≤ (set.length : Int)) ∧ (best = Ji (E.getD client.toNat []) set k.toNat)
abbrev JA (U : ZI) (E : ZR) (client : Int) (set : ZI) (best : Int) (k : Int) : Nat := (set.length - k).toNat
def J6l (f : FuncId) (ds : List D) : Orc := .no
def J6t (U : ZI) (E : ZR) (client : Int) (set : ZI) : Ann := .two (.none) (.two (.none) (.two (.two (.none) (.loop (cut2 (fun (best : Int) (k : Int) => J00 U E client set best k) (fun (best : Int) (k : Int) => [(1, .d false (.int .i64 client)), (3, .ptr 3 0), (7, .d true (.int .i64 best)), (13, .d false (.sl (.ints set))), (14, .d true (.int .i64 (set.length : Int))), (15, .d true (.int .i64 k))]) (fun (best : Int) (k : Int) => [(3, .box 27 [.d false (.sl (.ints U)), .d false (.sl (.rows E))])])) (fun g => JA U E client set g.1 g.2) (fun _ => .none))) (.none)))
def J3L (U : ZI) (E : ZR) (client : Int) (set : ZI) : Prop :=
  ((0 : Int) ≤ 0) ∧ ((0 : Int) < set.length) ∧ (0 < set.length) ∧ ((∃ best' : Int, ∃ k' : Int, (J00 U E client set best' k') ∧ (client = client) ∧ ((set.getD 0 0) = best') ∧ (set = set) ∧ ((set.length : Int) = (set.length : Int)) ∧ ((0 : Int) = k') ∧ (U = U) ∧ (E = E)) ∧ (∀ best : Int, ∀ k : Int, (J00 U E client set best k) → (((decide (k < (set.length : Int))) = true → ((0 : Int) ≤ k) ∧ ((k : Int) < set.length) ∧ (k.toNat < set.length) ∧ (true = true) ∧ ((0 : Int) ≤ client) ∧ ((client : Int) < E.length) ∧ (client.toNat < E.length) ∧ ((0 : Int) ≤ (set.getD k.toNat 0)) ∧ (((set.getD k.toNat 0) : Int) < (E.getD client.toNat []).length) ∧ ((set.getD k.toNat 0).toNat < (E.getD client.toNat []).length) ∧ ((0 : Int) ≤ client) ∧ ((client : Int) < E.length) ∧ (client.toNat < E.length) ∧ ((0 : Int) ≤ best) ∧ ((best : Int) < (E.getD client.toNat []).length) ∧ (best.toNat < (E.getD client.toNat []).length) ∧ (((decide (((E.getD client.toNat []).getD ((set.getD k.toNat 0).toNat) 0) < ((E.getD client.toNat []).getD best.toNat 0))) = true → (I6 (k + 1)) ∧ (∃ best' : Int, ∃ k' : Int, (J00 U E client set best' k') ∧ (JA U E client set best' k' < JA U E client set best k) ∧ (client = client) ∧ ((set.getD k.toNat 0) = best') ∧ (set = set) ∧ ((set.length : Int) = (set.length : Int)) ∧ ((k + 1) = k') ∧ (U = U) ∧ (E = E))) ∧ ((decide (((E.getD client.toNat []).getD ((set.getD k.toNat 0).toNat) 0) < ((E.getD client.toNat []).getD best.toNat 0))) = false → (I6 (k + 1)) ∧ (∃ best' : Int, ∃ k' : Int, (J00 U E client set best' k') ∧ (JA U E client set best' k' < JA U E client set best k) ∧ (client = client) ∧ (best = best') ∧ (set = set) ∧ ((set.length : Int) = (set.length : Int)) ∧ ((k + 1) = k') ∧ (U = U) ∧ (E = E))))) ∧ ((decide (k < (set.length : Int))) = false → ((best = (Ji (E.getD client.toNat []) set set.length)))))))
theorem J5X (U : ZI) (E : ZR) (client : Int) (set : ZI) (ht : (J0 U E && J5 set 0 ((U.length : Int) - 1) && decide (0 < set.length)) = true) (hc : 0 ≤ client ∧ client < (E.length : Int)) (w_Open : (U.length : Int) ≤ 9223372036854775807) (w_Dist : (E.length : Int) ≤ 9223372036854775807) (v_Dist : ∀ x9 ∈ E, (x9.length : Int) ≤ 9223372036854775807) (w_set : (set.length : Int) ≤ 9223372036854775807) : J3L U E client set := by
  unfold J3L
  obtain ⟨hg, hs, hp⟩ := JZ ht
  obtain ⟨g1, g2, g3⟩ := J2 hg
  have cs := fun k => J1A hs k
  obtain ⟨rl, rb⟩ := J3I (i := client.toNat) hg (by omega)
  have si := J1s (row := E.getD client.toNat []) (set := set) (n := (U.length : Int)) (fun k hk => by have := cs k hk; omega) hp
  refine ⟨?_, ?_, ?_, ?_, ?_⟩
  ·omega
  ·omega
  ·omega
  ·refine ⟨(set.getD 0 0), 0, ?_⟩
   refine ⟨?_, rfl, rfl, rfl, rfl, rfl, rfl, rfl⟩
   ·refine ⟨?_, ?_, ?_⟩
    ·omega
    ·omega
    ·rfl
  intro best k hJ
  obtain ⟨h1, h2, h3⟩ := hJ
  refine ⟨?_, ?_⟩
  ·intro b1
   try simp only [nrmT] at b1
   refine ⟨?_, ?_, ?_, rfl, ?_, ?_, ?_, ?_, ?_, ?_, ?_, ?_, ?_, ?_, ?_, ?_, ?_, ?_⟩
   ·omega
   ·omega
   ·omega
   ·omega
   ·omega
   ·omega
   ·have := cs k.toNat (by omega)
    omega
   ·have := cs k.toNat (by omega)
    omega
   ·have := cs k.toNat (by omega)
    omega
   ·omega
   ·omega
   ·omega
   ·have := si k.toNat (by omega)
    omega
   ·have := si k.toNat (by omega)
    omega
   ·have := si k.toNat (by omega)
    omega
   ·intro b2
    try simp only [nrmT] at b2
    refine ⟨?_, ?_⟩
    ·omega
    refine ⟨(set.getD k.toNat 0), (k + 1), ?_⟩
    refine ⟨?_, ?_, rfl, rfl, rfl, rfl, rfl, rfl, rfl⟩
    ·refine ⟨?_, ?_, ?_⟩
     ·omega
     ·omega
     ·rw [show (k + 1).toNat = k.toNat + 1 by omega, J0X, ← h3]; unfold J2M; rw [if_pos b2]
    (simp only [JA]; omega)
   intro b3
   try simp only [nrmT] at b3
   refine ⟨?_, ?_⟩
   ·omega
   refine ⟨best, (k + 1), ?_⟩
   refine ⟨?_, ?_, rfl, rfl, rfl, rfl, rfl, rfl, rfl⟩
   ·refine ⟨?_, ?_, ?_⟩
    ·omega
    ·omega
    ·rw [show (k + 1).toNat = k.toNat + 1 by omega, J0X, ← h3]; unfold J2M; rw [if_neg (by omega)]
   (simp only [JA]; omega)
  intro b4
  try simp only [nrmT] at b4
  rw [h3, show k.toNat = set.length by omega]
theorem J5K (U : ZI) (E : ZR) (client : Int) (set : ZI) (ht : (J0 U E && J5 set 0 ((U.length : Int) - 1) && decide (0 < set.length)) = true) (hc : 0 ≤ client ∧ client < (E.length : Int)) : PC Tryz.prog 212 [.agg [.sl (.ints U), .sl (.rows E)], .int .i64 client, .sl (.ints set)] (.one (.d (.int .i64 (Ji (E.getD client.toNat []) set set.length)))) :=
  pc_wf @Tryz.call212 fun hw => pc_by (by kernel_rfl) Tryz.func212 @Tryz.call212 (by kernel_rfl) J6l (J6t U E client set) (by kernel_rfl) (J5X U E client set ht hc hw.1.1 hw.1.2.1.1 hw.1.2.1.2 hw.2.2.1) (by kernel_rfl)
def J4U : List D → Orc := orcN [none, none, some .ints] fun ds => match ds with
  | [.agg [.sl (.ints U), .sl (.rows E)], .int .i64 client, .sl (.ints set)] => some (.one (.d (.int .i64 (Ji (E.getD client.toNat []) set set.length))))
  | _ => none
def J91 (f : FuncId) (ds : List D) : Orc := bif Nat.beq f 153 then J9F ds else .no
def J8B (U : ZI) (E : ZR) (client : Int) (set : ZI) : Ann := .none
def J4v (U : ZI) (E : ZR) (client : Int) (set : ZI) : Prop :=
  (true = true) ∧ ((0 : Int) ≤ client) ∧ ((client : Int) < E.length) ∧ (client.toNat < E.length) ∧ (PC Tryz.prog 153 [.agg [.sl (.ints U), .sl (.rows E)], .int .i64 client, .sl (.ints set)] (.one (.d (.int .i64 (Ji (E.getD client.toNat []) set set.length))))) ∧ ((0 : Int) ≤ (Ji (E.getD client.toNat []) set set.length)) ∧ (((Ji (E.getD client.toNat []) set set.length) : Int) < (E.getD client.toNat []).length) ∧ ((Ji (E.getD client.toNat []) set set.length).toNat < (E.getD client.toNat []).length) ∧ ((((E.getD client.toNat []).getD ((Ji (E.getD client.toNat []) set set.length).toNat) 0) = ((E.getD client.toNat []).getD (Ji (E.getD client.toNat []) set set.length).toNat 0)))
theorem J7R (U : ZI) (E : ZR) (client : Int) (set : ZI) (ht : (J0 U E && J5 set 0 ((U.length : Int) - 1) && decide (0 < set.length)) = true) (hc : 0 ≤ client ∧ client < (E.length : Int)) (w_Open : (U.length : Int) ≤ 9223372036854775807) (w_Dist : (E.length : Int) ≤ 9223372036854775807) (v_Dist : ∀ x9 ∈ E, (x9.length : Int) ≤ 9223372036854775807) (w_set : (set.length : Int) ≤ 9223372036854775807) : J4v U E client set := by
  unfold J4v
  obtain ⟨hg, hs, hp⟩ := JZ ht
  obtain ⟨g1, g2, g3⟩ := J2 hg
  have cs := fun k => J1A hs k
  obtain ⟨rl, rb⟩ := J3I (i := client.toNat) hg (by omega)
  have si := J1s (row := E.getD client.toNat []) (set := set) (n := (U.length : Int)) (fun k hk => by have := cs k hk; omega) hp
  have sl := si set.length (Nat.le_refl _)
  refine ⟨rfl, ?_, ?_, ?_, ?_, ?_, ?_, ?_, ?_⟩
  ·omega
  ·omega
  ·omega
  ·refine Jaj U E client set ?_ ?_
   ·omega
   ·omega
  ·omega
  ·omega
  ·omega
  omega
theorem J7Y (U : ZI) (E : ZR) (client : Int) (set : ZI) (ht : (J0 U E && J5 set 0 ((U.length : Int) - 1) && decide (0 < set.length)) = true) (hc : 0 ≤ client ∧ client < (E.length : Int)) : PC Tryz.prog 150 [.agg [.sl (.ints U), .sl (.rows E)], .int .i64 client, .sl (.ints set)] (.one (.d (.int .i64 ((E.getD client.toNat []).getD (Ji (E.getD client.toNat []) set set.length).toNat 0)))) :=
  pc_wf @Tryz.call150 fun hw => pc_by (by kernel_rfl) Tryz.func150 @Tryz.call150 (by kernel_rfl) J91 (J8B U E client set) (by kernel_rfl) (J7R U E client set ht hc hw.1.1 hw.1.2.1.1 hw.1.2.1.2 hw.2.2.1) (by kernel_rfl)
def J7j : List D → Orc := orcN [none, none, some .ints] fun ds => match ds with
  | [.agg [.sl (.ints U), .sl (.rows E)], .int .i64 client, .sl (.ints set)] => some (.one (.d (.int .i64 ((E.getD client.toNat []).getD (Ji (E.getD client.toNat []) set set.length).toNat 0))))
  | _ => none
def Jm (E : ZR) (set : ZI) (n : Nat) : ZI := (List.range n).map fun i => Ji (E.getD i []) set set.length
def J2f (E : ZR) (set : ZI) (i : Nat) : Int := (E.getD i []).getD (Ji (E.getD i []) set set.length).toNat 0
def JR (E : ZR) (set : ZI) (n : Nat) : ZI := (List.range n).map (J2f E set)
theorem J8t (E : ZR) (set : ZI) (n : Nat) : (Jm E set n).length = n := by simp [Jm]
theorem J45 (E : ZR) (set : ZI) (n : Nat) : (JR E set n).length = n := by simp [JR]
theorem J3A (E : ZR) (set : ZI) (n i : Nat) (h : i < n) : (Jm E set n).getD i 0 = Ji (E.getD i []) set set.length := by simp [Jm, h]
theorem J4n (E : ZR) (set : ZI) (n i : Nat) (h : i < n) : (JR E set n).getD i 0 = J2f E set i := by simp [JR, h]
theorem Jb5 (E : ZR) (set : ZI) (n : Nat) : Jm E set (n + 1) = Jm E set n ++ [Ji (E.getD n []) set set.length] := by simp [Jm, List.range_succ]
theorem JaO (E : ZR) (set : ZI) (n : Nat) : JR E set (n + 1) = JR E set n ++ [J2f E set n] := by simp [JR, List.range_succ]
abbrev J0R (U : ZI) (E : ZR) (set : ZI) (out : ZI) (i : Int) : Prop := (0 ≤ i) ∧ (i ≤ (E.length : Int)) ∧ (out = Jm E set i.toNat)
abbrev J0M (U : ZI) (E : ZR) (set : ZI) (out : ZI) (i : Int) : Nat := (E.length - i).toNat
def J6J (f : FuncId) (ds : List D) : Orc := bif Nat.beq f 212 then J4U ds else .no
def J6Y (U : ZI) (E : ZR) (set : ZI) : Ann := .two (.none) (.two (.none) (.two (.two (.none) (.loop (cut2 (fun (out : ZI) (i : Int) => J0R U E set out i) (fun (out : ZI) (i : Int) => [(1, .d false (.sl (.ints set))), (2, .ptr 2 0), (5, .own 1000000 out.length), (10, .d true (.int .i64 (E.length : Int))), (11, .d true (.int .i64 i))]) (fun (out : ZI) (i : Int) => [(1000000, .arr true 3 (.ints out)), (2, .box 27 [.d false (.sl (.ints U)), .d false (.sl (.rows E))])])) (fun g => J0M U E set g.1 g.2) (fun _ => .none))) (.none)))
def J3F (U : ZI) (E : ZR) (set : ZI) : Prop :=
  ((∃ out' : ZI, ∃ i' : Int, (J0R U E set out' i') ∧ (set = set) ∧ ((0 : Nat) = out'.length) ∧ ((E.length : Int) = (E.length : Int)) ∧ ((0 : Int) = i') ∧ ([] = out') ∧ (U = U) ∧ (E = E)) ∧ (∀ out : ZI, ∀ i : Int, (J0R U E set out i) → (((decide (i < (E.length : Int))) = true → (PC Tryz.prog 212 [.agg [.sl (.ints U), .sl (.rows E)], .int .i64 i, .sl (.ints set)] (.one (.d (.int .i64 (Ji (E.getD i.toNat []) set set.length))))) ∧ (out.length = out.length) ∧ ((1 : Nat) = 1) ∧ ((out.length + 1) * 8 ≤ 140737488355328) ∧ (I6 (i + 1)) ∧ (∃ out' : ZI, ∃ i' : Int, (J0R U E set out' i') ∧ (J0M U E set out' i' < J0M U E set out i) ∧ (set = set) ∧ ((out.length + 1) = out'.length) ∧ ((E.length : Int) = (E.length : Int)) ∧ ((i + 1) = i') ∧ ((out ++ [(Ji (E.getD i.toNat []) set set.length)]) = out') ∧ (U = U) ∧ (E = E))) ∧ ((decide (i < (E.length : Int))) = false → ((out.length = out.length) ∧ ((out : ZI) = Jm E set E.length))))))
theorem J5F (U : ZI) (E : ZR) (set : ZI) (ht : (J0 U E && J5 set 0 ((U.length : Int) - 1) && decide (0 < set.length)) = true) (w_Open : (U.length : Int) ≤ 9223372036854775807) (w_Dist : (E.length : Int) ≤ 9223372036854775807) (v_Dist : ∀ x9 ∈ E, (x9.length : Int) ≤ 9223372036854775807) (w_set : (set.length : Int) ≤ 9223372036854775807) : J3F U E set := by
  unfold J3F
  obtain ⟨hg, hs, hp⟩ := JZ ht
  obtain ⟨g1, g2, g3⟩ := J2 hg
  have cs := fun k => J1A hs k
  have si := fun (i : Nat) (hi : i < E.length) => J1s (row := E.getD i []) (set := set) (n := (U.length : Int)) (fun k hk => by have := cs k hk; omega) hp set.length (Nat.le_refl _)
  refine ⟨?_, ?_⟩
  ·refine ⟨([]), 0, ?_⟩
   refine ⟨?_, rfl, rfl, rfl, rfl, ?_, rfl, rfl⟩
   ·refine ⟨?_, ?_, ?_⟩
    ·omega
    ·omega
    ·rfl
   rfl
  intro out i hJ
  obtain ⟨h1, h2, h3⟩ := hJ
  refine ⟨?_, ?_⟩
  ·intro b1
   try simp only [nrmT] at b1
   refine ⟨?_, rfl, rfl, ?_, ?_, ?_⟩
   ·refine J5K U E i set ?_ ?_
    ·omega
    ·omega
   ·rw [h3, J8t]; omega
   ·omega
   refine ⟨(out ++ [(Ji (E.getD i.toNat []) set set.length)]), (i + 1), ?_⟩
   refine ⟨?_, ?_, rfl, ?_, rfl, rfl, rfl, rfl, rfl⟩
   ·refine ⟨?_, ?_, ?_⟩
    ·omega
    ·omega
    ·rw [h3, show (i + 1).toNat = i.toNat + 1 by omega, Jb5]
   ·(simp only [J0M]; omega)
   (simp_all; done)
  intro b2
  try simp only [nrmT] at b2
  refine ⟨rfl, ?_⟩
  ·rw [h3, show i.toNat = E.length by omega]
theorem J5U (U : ZI) (E : ZR) (set : ZI) (ht : (J0 U E && J5 set 0 ((U.length : Int) - 1) && decide (0 < set.length)) = true) : PC Tryz.prog 151 [.agg [.sl (.ints U), .sl (.rows E)], .sl (.ints set)] (.one (.own 3 (.ints (Jm E set E.length)))) :=
  pc_wf @Tryz.call151 fun hw => pc_by (by kernel_rfl) Tryz.func151 @Tryz.call151 (by kernel_rfl) J6J (J6Y U E set) (by kernel_rfl) (J5F U E set ht hw.1.1 hw.1.2.1.1 hw.1.2.1.2 hw.2.1) (by kernel_rfl)
def J5g : List D → Orc := orcN [none, some .ints] fun ds => match ds with
  | [.agg [.sl (.ints U), .sl (.rows E)], .sl (.ints set)] => some (.one (.own 3 (.ints (Jm E set E.length))))
  | _ => none
abbrev J0B (U : ZI) (E : ZR) (set : ZI) (out : ZI) (i : Int) : Prop := (0 ≤ i) ∧ (i ≤ (E.length : Int)) ∧ (out = JR E set i.toNat)
abbrev J0x (U : ZI) (E : ZR) (set : ZI) (out : ZI) (i : Int) : Nat := (E.length - i).toNat
def J5B (f : FuncId) (ds : List D) : Orc := bif Nat.beq f 151 then J5g ds else .no
def J60 (U : ZI) (E : ZR) (set : ZI) : Ann := .two (.none) (.two (.none) (.two (.two (.none) (.loop (cut2 (fun (out : ZI) (i : Int) => J0B U E set out i) (fun (out : ZI) (i : Int) => [(2, .ptr 2 0), (5, .own 1000000 out.length), (11, .own 11 ((Jm E set E.length).length)), (12, .d true (.int .i64 (((Jm E set E.length).length) : Int))), (13, .d true (.int .i64 i))]) (fun (out : ZI) (i : Int) => [(1000000, .arr true 3 (.ints out)), (2, .box 27 [.d false (.sl (.ints U)), .d false (.sl (.rows E))]), (11, .arr true 3 (.ints (Jm E set E.length)))])) (fun g => J0x U E set g.1 g.2) (fun _ => .none))) (.none)))
def J3s (U : ZI) (E : ZR) (set : ZI) : Prop :=
  (PC Tryz.prog 151 [.agg [.sl (.ints U), .sl (.rows E)], .sl (.ints set)] (.one (.own 3 (.ints (Jm E set E.length))))) ∧ ((∃ out' : ZI, ∃ i' : Int, (J0B U E set out' i') ∧ ((0 : Nat) = out'.length) ∧ ((Jm E set E.length).length = (Jm E set E.length).length) ∧ ((((Jm E set E.length).length) : Int) = (((Jm E set E.length).length) : Int)) ∧ ((0 : Int) = i') ∧ ([] = out') ∧ (U = U) ∧ (E = E) ∧ (Jm E set E.length = Jm E set E.length)) ∧ (∀ out : ZI, ∀ i : Int, (J0B U E set out i) → (((decide (i < (((Jm E set E.length).length) : Int))) = true → ((0 : Int) ≤ i) ∧ ((i : Int) < (((Jm E set E.length).length) : Int)) ∧ (i.toNat < (Jm E set E.length).length) ∧ ((0 : Int) ≤ i) ∧ ((i : Int) < E.length) ∧ (i.toNat < E.length) ∧ ((0 : Int) ≤ ((Jm E set E.length).getD i.toNat 0)) ∧ ((((Jm E set E.length).getD i.toNat 0) : Int) < (E.getD i.toNat []).length) ∧ (((Jm E set E.length).getD i.toNat 0).toNat < (E.getD i.toNat []).length) ∧ (out.length = out.length) ∧ ((1 : Nat) = 1) ∧ ((out.length + 1) * 8 ≤ 140737488355328) ∧ (I6 (i + 1)) ∧ (∃ out' : ZI, ∃ i' : Int, (J0B U E set out' i') ∧ (J0x U E set out' i' < J0x U E set out i) ∧ ((out.length + 1) = out'.length) ∧ ((Jm E set E.length).length = (Jm E set E.length).length) ∧ ((((Jm E set E.length).length) : Int) = (((Jm E set E.length).length) : Int)) ∧ ((i + 1) = i') ∧ ((out ++ [((E.getD i.toNat []).getD (((Jm E set E.length).getD i.toNat 0).toNat) 0)]) = out') ∧ (U = U) ∧ (E = E) ∧ (Jm E set E.length = Jm E set E.length))) ∧ ((decide (i < (((Jm E set E.length).length) : Int))) = false → ((out.length = out.length) ∧ ((out : ZI) = JR E set E.length))))))
theorem J51 (U : ZI) (E : ZR) (set : ZI) (ht : (J0 U E && J5 set 0 ((U.length : Int) - 1) && decide (0 < set.length)) = true) (w_Open : (U.length : Int) ≤ 9223372036854775807) (w_Dist : (E.length : Int) ≤ 9223372036854775807) (v_Dist : ∀ x9 ∈ E, (x9.length : Int) ≤ 9223372036854775807) (w_set : (set.length : Int) ≤ 9223372036854775807) : J3s U E set := by
  unfold J3s
  obtain ⟨hg, hs, hp⟩ := JZ ht
  obtain ⟨g1, g2, g3⟩ := J2 hg
  have cs := fun k => J1A hs k
  have si := fun (i : Nat) (hi : i < E.length) => J1s (row := E.getD i []) (set := set) (n := (U.length : Int)) (fun k hk => by have := cs k hk; omega) hp set.length (Nat.le_refl _)
  have e0 := J8t E set E.length
  refine ⟨?_, ?_, ?_⟩
  ·refine J5U U E set ?_
   ·omega
  ·refine ⟨([]), 0, ?_⟩
   refine ⟨?_, rfl, rfl, rfl, rfl, ?_, rfl, rfl, rfl⟩
   ·refine ⟨?_, ?_, ?_⟩
    ·omega
    ·omega
    ·rfl
   rfl
  intro out i hJ
  obtain ⟨h1, h2, h3⟩ := hJ
  refine ⟨?_, ?_⟩
  ·intro b1
   try simp only [nrmT] at b1
   refine ⟨?_, ?_, ?_, ?_, ?_, ?_, ?_, ?_, ?_, rfl, rfl, ?_, ?_, ?_⟩
   ·omega
   ·omega
   ·omega
   ·omega
   ·omega
   ·omega
   ·rw [J3A _ _ _ _ (by omega)]; obtain ⟨rl, rb⟩ := J3I (i := i.toNat) hg (by omega); have := si i.toNat (by omega); omega
   ·rw [J3A _ _ _ _ (by omega)]; obtain ⟨rl, rb⟩ := J3I (i := i.toNat) hg (by omega); have := si i.toNat (by omega); omega
   ·rw [J3A _ _ _ _ (by omega)]; obtain ⟨rl, rb⟩ := J3I (i := i.toNat) hg (by omega); have := si i.toNat (by omega); omega
   ·rw [h3, J45]; omega
   ·omega
   refine ⟨(out ++ [((E.getD i.toNat []).getD (((Jm E set E.length).getD i.toNat 0).toNat) 0)]), (i + 1), ?_⟩
   refine ⟨?_, ?_, ?_, rfl, rfl, rfl, rfl, rfl, rfl, rfl⟩
   ·refine ⟨?_, ?_, ?_⟩
    ·omega
    ·omega
    ·rw [h3, show (i + 1).toNat = i.toNat + 1 by omega, JaO, J3A _ _ _ _ (by omega)]; rfl
   ·(simp only [J0x]; omega)
   (simp_all; done)
  intro b2
  try simp only [nrmT] at b2
  refine ⟨rfl, ?_⟩
  ·rw [h3, show i.toNat = E.length by omega]
theorem J4O (U : ZI) (E : ZR) (set : ZI) (ht : (J0 U E && J5 set 0 ((U.length : Int) - 1) && decide (0 < set.length)) = true) : PC Tryz.prog 149 [.agg [.sl (.ints U), .sl (.rows E)], .sl (.ints set)] (.one (.own 3 (.ints (JR E set E.length)))) :=
  pc_wf @Tryz.call149 fun hw => pc_by (by kernel_rfl) Tryz.func149 @Tryz.call149 (by kernel_rfl) J5B (J60 U E set) (by kernel_rfl) (J51 U E set ht hw.1.1 hw.1.2.1.1 hw.1.2.1.2 hw.2.1) (by kernel_rfl)
def J4F : List D → Orc := orcN [none, some .ints] fun ds => match ds with
  | [.agg [.sl (.ints U), .sl (.rows E)], .sl (.ints set)] => some (.one (.own 3 (.ints (JR E set E.length))))
  | _ => none
theorem J70 {row set : ZI} (hp : 0 < set.length) : ∀ k, k ≤ set.length → Ji row set k ∈ set
  | 0, _ => getD_mem hp
  | k + 1, hk => by
    rw [J0X]
    unfold J2M
    split
    · exact getD_mem (by omega)
    exact J70 hp k (by omega)
theorem J8p {xs : ZI} {lo hi : Int} (h : J5 xs lo hi = true) {i : Nat} : ∀ {j : Nat}, i < j → j < xs.length → xs.getD i 0 < xs.getD j 0
  | 0, hi, _ => by omega
  | j + 1, hi, hj => by
    have h1 := allTo_iff.1 h (j + 1) hj
    simp only [J2t, Bool.and_eq_true, Bool.or_eq_true, decide_eq_true_eq, Nat.add_sub_cancel] at h1
    have h2 := h1.2
    by_cases e : i = j
    · subst e; omega
    have := J8p h (i := i) (j := j) (by omega) (by omega)
    omega
def Jba (f : FuncId) (ds : List D) : Orc := .no
def JaM (a : Int) (b : Int) : Ann := .none
def J6Z (a : Int) (b : Int) : Prop :=
  (((decide (a > b)) = true → ((a = (max a b)))) ∧ ((decide (a > b)) = false → ((b = (max a b)))))
theorem Jao (a : Int) (b : Int)   : J6Z a b := by
  unfold J6Z
  refine ⟨?_, ?_⟩
  ·intro b1
   try simp only [nrmT] at b1
   omega
  intro b2
  try simp only [nrmT] at b2
  omega
theorem Jaq (a : Int) (b : Int)  : PC Tryz.prog 154 [.int .i64 a, .int .i64 b] (.one (.d (.int .i64 (max a b)))) :=
  pc_wf @Tryz.call154 fun _ => pc_by (by kernel_rfl) Tryz.func154 @Tryz.call154 (by kernel_rfl) Jba (JaM a b) (by kernel_rfl) (Jao a b) (by kernel_rfl)
def J9X : List D → Orc := orcN [none, none] fun ds => match ds with
  | [.int .i64 a, .int .i64 b] => some (.one (.d (.int .i64 (max a b))))
  | _ => none
def JbB (f : FuncId) (ds : List D) : Orc := .no
def Jbp (l : ZI) : Ann := .none
def J8j (l : ZI) : Prop :=
  ((0 : Nat) = 0) ∧ (True) ∧ ((0 + l.length) * 8 ≤ 140737488355328) ∧ (((0 + l.length) = ([] ++ l).length) ∧ ((([] ++ l) : ZI) = l))
theorem Jbb (l : ZI) (hl : l.length ≤ 1048576) (w_l : (l.length : Int) ≤ 9223372036854775807) : J8j l := by
  unfold J8j
  refine ⟨rfl, trivial, ?_, ?_, ?_⟩
  ·omega
  ·(simp_all; done)
  rfl
theorem J4r (l : ZI) (hl : l.length ≤ 1048576) : PC Tryz.prog 98 [.sl (.ints l)] (.one (.own 3 (.ints l))) :=
  pc_wf @Tryz.call98 fun hw => pc_by (by kernel_rfl) Tryz.func98 @Tryz.call98 (by kernel_rfl) JbB (Jbp l) (by kernel_rfl) (Jbb l hl hw.1) (by kernel_rfl)
def J6g : List D → Orc := orcN [some .ints] fun ds => match ds with
  | [.sl (.ints l)] => some (.one (.own 3 (.ints l)))
  | _ => none
theorem J3w {xs : ZI} {lo hi : Int} (h : J5 xs lo hi = true) : Asc xs := by
  refine List.pairwise_iff_getElem.2 fun i j hi hj hij => ?_
  have := J8p h hij hj
  rwa [JG hi, JG hj] at this
def J0E (n : Nat) : Int := ((members (fun k => n.testBit k) 8).length : Int)
def oc1 (n : Nat) : Nat := (n / 2 ^ 1 &&& 6148914691236517205) + (n &&& 6148914691236517205)
def oc2 (n : Nat) : Nat := (oc1 n / 2 ^ 2 &&& 3689348814741910323) + (oc1 n &&& 3689348814741910323)
def oc3 (n : Nat) : Nat := (oc2 n / 2 ^ 4 + oc2 n) &&& 1085102592571150095
def oc4 (n : Nat) : Nat := oc3 n + oc3 n / 2 ^ 8
def oc5 (n : Nat) : Nat := oc4 n + oc4 n / 2 ^ 16
def oc6 (n : Nat) : Nat := oc5 n + oc5 n / 2 ^ 32
theorem ocb : ∀ n, n < 256 → oc1 n < 65536 ∧ oc2 n < 65536 ∧ oc3 n < 65536 ∧ oc4 n < 65536 ∧ oc5 n < 65536 ∧ oc6 n < 65536 ∧ (oc6 n &&& 127) = (members (fun k => n.testBit k) 8).length := by decide +kernel
theorem JaW (m k : Nat) : ((m : Nat) : Int) / 2 ^ k = ((m / 2 ^ k : Nat) : Int) := by simp
theorem J5w (m k : Nat) : 0 ≤ ((m : Nat) : Int) / 2 ^ k ∧ ((m : Nat) : Int) / 2 ^ k ≤ (m : Int) := by
  rw [JaW]
  exact ⟨Int.natCast_nonneg _, by exact_mod_cast Nat.div_le_self m (2 ^ k)⟩
theorem JaY (m k M : Nat) : (((((m : Nat) : Int) / 2 ^ k).toNat &&& M : Nat) : Int) + ((((m : Nat) : Int).toNat &&& M : Nat) : Int) = (((m / 2 ^ k &&& M) + (m &&& M) : Nat) : Int) := by
  rw [JaW, Int.toNat_natCast, Int.toNat_natCast]; simp
theorem st3 (m k M : Nat) : (((((m : Nat) : Int) / 2 ^ k + ((m : Nat) : Int)).toNat &&& M : Nat) : Int) = (((m / 2 ^ k + m) &&& M : Nat) : Int) := by
  rw [JaW, ← Int.natCast_add, Int.toNat_natCast]
theorem st4 (m k : Nat) : ((m : Nat) : Int) + ((m : Nat) : Int) / 2 ^ k = ((m + m / 2 ^ k : Nat) : Int) := by
  rw [JaW, ← Int.natCast_add]
abbrev J0i (x : Int) (y : Int) : Prop := (y = ((oc1 x.toNat : Nat) : Int))
abbrev J0l (x : Int) (y : Int) (y : Int) : Prop := (y = ((oc2 x.toNat : Nat) : Int))
abbrev J0e (x : Int) (y : Int) (y : Int) (y : Int) : Prop := (y = ((oc3 x.toNat : Nat) : Int))
abbrev J0k (x : Int) (y : Int) (y : Int) (y : Int) (y : Int) : Prop := (y = ((oc4 x.toNat : Nat) : Int))
abbrev J0g (x : Int) (y : Int) (y : Int) (y : Int) (y : Int) (y : Int) : Prop := (y = ((oc5 x.toNat : Nat) : Int))
abbrev J0j (x : Int) (y : Int) (y : Int) (y : Int) (y : Int) (y : Int) (y : Int) : Prop := (y = ((oc6 x.toNat : Nat) : Int))
def J4Z (f : FuncId) (ds : List D) : Orc := .no
def J52 (x : Int) : Ann := .two (.none) (.cut (.none) (cut1 (fun (y : Int) => J0i x y) (fun (y : Int) => [(0, .d true (.int .u64 y))]) (fun (y : Int) => [])) (fun g => (fun (y : Int) => .cut (.none) (cut1 (fun (y : Int) => J0l x y y) (fun (y : Int) => [(0, .d true (.int .u64 y))]) (fun (y : Int) => [])) (fun g => (fun (y : Int) => .cut (.none) (cut1 (fun (y : Int) => J0e x y y y) (fun (y : Int) => [(0, .d true (.int .u64 y))]) (fun (y : Int) => [])) (fun g => (fun (y : Int) => .cut (.none) (cut1 (fun (y : Int) => J0k x y y y y) (fun (y : Int) => [(0, .d true (.int .u64 y))]) (fun (y : Int) => [])) (fun g => (fun (y : Int) => .cut (.none) (cut1 (fun (y : Int) => J0g x y y y y y) (fun (y : Int) => [(0, .d true (.int .u64 y))]) (fun (y : Int) => [])) (fun g => (fun (y : Int) => .cut (.none) (cut1 (fun (y : Int) => J0j x y y y y y y) (fun (y : Int) => [(0, .d true (.int .u64 y))]) (fun (y : Int) => [])) (fun _ => .none)) g)) g)) g)) g)) g))
def J3d (x : Int) : Prop :=
  ((((0 : Int) ≤ x ∧ (x : Int) ≤ 18446744073709551615) ∧ ((0 : Int) ≤ 1) ∧ ((0 : Int) ≤ (x / 2 ^ 1) ∧ ((x / 2 ^ 1) : Int) ≤ 18446744073709551615) ∧ ((0 : Int) ≤ 6148914691236517205 ∧ (6148914691236517205 : Int) ≤ 18446744073709551615) ∧ ((0 : Int) ≤ x ∧ (x : Int) ≤ 18446744073709551615) ∧ ((0 : Int) ≤ 6148914691236517205 ∧ (6148914691236517205 : Int) ≤ 18446744073709551615) ∧ (0 ≤ ((((x / 2 ^ 1).toNat &&& 6148914691236517205 : Nat) : Int) + ((x.toNat &&& 6148914691236517205 : Nat) : Int)) ∧ ((((x / 2 ^ 1).toNat &&& 6148914691236517205 : Nat) : Int) + ((x.toNat &&& 6148914691236517205 : Nat) : Int)) ≤ 18446744073709551615) ∧ (∃ y' : Int, (J0i x y') ∧ (((((x / 2 ^ 1).toNat &&& 6148914691236517205 : Nat) : Int) + ((x.toNat &&& 6148914691236517205 : Nat) : Int)) = y'))) ∧ (∀ y : Int, (J0i x y) → ((((0 : Int) ≤ y ∧ (y : Int) ≤ 18446744073709551615) ∧ ((0 : Int) ≤ 2) ∧ ((0 : Int) ≤ (y / 2 ^ 2) ∧ ((y / 2 ^ 2) : Int) ≤ 18446744073709551615) ∧ ((0 : Int) ≤ 3689348814741910323 ∧ (3689348814741910323 : Int) ≤ 18446744073709551615) ∧ ((0 : Int) ≤ y ∧ (y : Int) ≤ 18446744073709551615) ∧ ((0 : Int) ≤ 3689348814741910323 ∧ (3689348814741910323 : Int) ≤ 18446744073709551615) ∧ (0 ≤ ((((y / 2 ^ 2).toNat &&& 3689348814741910323 : Nat) : Int) + ((y.toNat &&& 3689348814741910323 : Nat) : Int)) ∧ ((((y / 2 ^ 2).toNat &&& 3689348814741910323 : Nat) : Int) + ((y.toNat &&& 3689348814741910323 : Nat) : Int)) ≤ 18446744073709551615) ∧ (∃ y' : Int, (J0l x y y') ∧ (((((y / 2 ^ 2).toNat &&& 3689348814741910323 : Nat) : Int) + ((y.toNat &&& 3689348814741910323 : Nat) : Int)) = y'))) ∧ (∀ y : Int, (J0l x y y) → ((((0 : Int) ≤ y ∧ (y : Int) ≤ 18446744073709551615) ∧ ((0 : Int) ≤ 4) ∧ (0 ≤ ((y / 2 ^ 4) + y) ∧ ((y / 2 ^ 4) + y) ≤ 18446744073709551615) ∧ ((0 : Int) ≤ ((y / 2 ^ 4) + y) ∧ (((y / 2 ^ 4) + y) : Int) ≤ 18446744073709551615) ∧ ((0 : Int) ≤ 1085102592571150095 ∧ (1085102592571150095 : Int) ≤ 18446744073709551615) ∧ (∃ y' : Int, (J0e x y y y') ∧ (((((y / 2 ^ 4) + y).toNat &&& 1085102592571150095 : Nat) : Int) = y'))) ∧ (∀ y : Int, (J0e x y y y) → ((((0 : Int) ≤ y ∧ (y : Int) ≤ 18446744073709551615) ∧ ((0 : Int) ≤ 8) ∧ (0 ≤ (y + (y / 2 ^ 8)) ∧ (y + (y / 2 ^ 8)) ≤ 18446744073709551615) ∧ (∃ y' : Int, (J0k x y y y y') ∧ ((y + (y / 2 ^ 8)) = y'))) ∧ (∀ y : Int, (J0k x y y y y) → ((((0 : Int) ≤ y ∧ (y : Int) ≤ 18446744073709551615) ∧ ((0 : Int) ≤ 16) ∧ (0 ≤ (y + (y / 2 ^ 16)) ∧ (y + (y / 2 ^ 16)) ≤ 18446744073709551615) ∧ (∃ y' : Int, (J0g x y y y y y') ∧ ((y + (y / 2 ^ 16)) = y'))) ∧ (∀ y : Int, (J0g x y y y y y) → ((((0 : Int) ≤ y ∧ (y : Int) ≤ 18446744073709551615) ∧ ((0 : Int) ≤ 32) ∧ (0 ≤ (y + (y / 2 ^ 32)) ∧ (y + (y / 2 ^ 32)) ≤ 18446744073709551615) ∧ (∃ y' : Int, (J0j x y y y y y y') ∧ ((y + (y / 2 ^ 32)) = y'))) ∧ (∀ y : Int, (J0j x y y y y y y) → (I6 y) ∧ ((0 : Int) ≤ y ∧ (y : Int) ≤ 9223372036854775807) ∧ ((0 : Int) ≤ 127 ∧ (127 : Int) ≤ 9223372036854775807) ∧ ((((y.toNat &&& 127 : Nat) : Int) = (J0E x.toNat)))))))))))))))
theorem J4M (x : Int) (hx : 0 ≤ x ∧ x < 256)  : J3d x := by
  unfold J3d
  obtain ⟨n, hn⟩ : ∃ n : Nat, x = (n : Int) := ⟨x.toNat, by omega⟩
  have ob := ocb n (by omega)
  refine ⟨?_, ?_⟩
  ·refine ⟨?_, ?_, ?_, ?_, ?_, ?_, ?_, ?_⟩
   ·subst hn
    first | rw [h6] | rw [h5] | rw [h4] | rw [h3] | rw [h2] | rw [h1] | skip
    try simp only [Int.toNat_natCast]
    omega
   ·omega
   ·subst hn
    first | rw [h6] | rw [h5] | rw [h4] | rw [h3] | rw [h2] | rw [h1] | skip
    try simp only [Int.toNat_natCast]
    have hd := fun m k => J5w m k
    (have := hd n 1; omega)
   ·omega
   ·subst hn
    first | rw [h6] | rw [h5] | rw [h4] | rw [h3] | rw [h2] | rw [h1] | skip
    try simp only [Int.toNat_natCast]
    omega
   ·omega
   ·subst hn
    first | rw [h6] | rw [h5] | rw [h4] | rw [h3] | rw [h2] | rw [h1] | skip
    rw [JaY]
    try simp only [Int.toNat_natCast]
    (show 0 ≤ ((oc1 n : Nat) : Int) ∧ ((oc1 n : Nat) : Int) ≤ _; omega)
   ·refine ⟨((((x / 2 ^ 1).toNat &&& 6148914691236517205 : Nat) : Int) + ((x.toNat &&& 6148914691236517205 : Nat) : Int)), ?_⟩
    refine ⟨?_, rfl⟩
    ·unfold J0i
     subst hn
     first | rw [h6] | rw [h5] | rw [h4] | rw [h3] | rw [h2] | rw [h1] | skip
     rw [JaY]
     try simp only [Int.toNat_natCast]
     rfl
  intro y hJ
  have h1 := hJ
  refine ⟨?_, ?_⟩
  ·refine ⟨?_, ?_, ?_, ?_, ?_, ?_, ?_, ?_⟩
   ·subst hn
    first | rw [h6] | rw [h5] | rw [h4] | rw [h3] | rw [h2] | rw [h1] | skip
    try simp only [Int.toNat_natCast]
    omega
   ·omega
   ·subst hn
    first | rw [h6] | rw [h5] | rw [h4] | rw [h3] | rw [h2] | rw [h1] | skip
    try simp only [Int.toNat_natCast]
    have hd := fun m k => J5w m k
    (have := hd n 1; omega)
   ·omega
   ·subst hn
    first | rw [h6] | rw [h5] | rw [h4] | rw [h3] | rw [h2] | rw [h1] | skip
    try simp only [Int.toNat_natCast]
    omega
   ·omega
   ·subst hn
    first | rw [h6] | rw [h5] | rw [h4] | rw [h3] | rw [h2] | rw [h1] | skip
    rw [JaY]
    try simp only [Int.toNat_natCast]
    (show 0 ≤ ((oc2 n : Nat) : Int) ∧ ((oc2 n : Nat) : Int) ≤ _; omega)
   ·refine ⟨((((y / 2 ^ 2).toNat &&& 3689348814741910323 : Nat) : Int) + ((y.toNat &&& 3689348814741910323 : Nat) : Int)), ?_⟩
    refine ⟨?_, rfl⟩
    ·unfold J0l
     subst hn
     first | rw [h6] | rw [h5] | rw [h4] | rw [h3] | rw [h2] | rw [h1] | skip
     rw [JaY]
     try simp only [Int.toNat_natCast]
     rfl
  intro y hJ
  have h2 := hJ
  refine ⟨?_, ?_⟩
  ·refine ⟨?_, ?_, ?_, ?_, ?_, ?_⟩
   ·subst hn
    first | rw [h6] | rw [h5] | rw [h4] | rw [h3] | rw [h2] | rw [h1] | skip
    try simp only [Int.toNat_natCast]
    omega
   ·omega
   ·subst hn
    first | rw [h6] | rw [h5] | rw [h4] | rw [h3] | rw [h2] | rw [h1] | skip
    try simp only [Int.toNat_natCast]
    have := J5w (oc2 n) 4
    omega
   ·subst hn
    first | rw [h6] | rw [h5] | rw [h4] | rw [h3] | rw [h2] | rw [h1] | skip
    try simp only [Int.toNat_natCast]
    have := J5w (oc2 n) 4
    omega
   ·omega
   ·refine ⟨((((y / 2 ^ 4) + y).toNat &&& 1085102592571150095 : Nat) : Int), ?_⟩
    refine ⟨?_, rfl⟩
    ·unfold J0e
     subst hn
     first | rw [h6] | rw [h5] | rw [h4] | rw [h3] | rw [h2] | rw [h1] | skip
     rw [st3]
     try simp only [Int.toNat_natCast]
     rfl
  intro y hJ
  have h3 := hJ
  refine ⟨?_, ?_⟩
  ·refine ⟨?_, ?_, ?_, ?_⟩
   ·subst hn
    first | rw [h6] | rw [h5] | rw [h4] | rw [h3] | rw [h2] | rw [h1] | skip
    try simp only [Int.toNat_natCast]
    omega
   ·omega
   ·subst hn
    first | rw [h6] | rw [h5] | rw [h4] | rw [h3] | rw [h2] | rw [h1] | skip
    rw [st4]
    try simp only [Int.toNat_natCast]
    (show 0 ≤ ((oc4 n : Nat) : Int) ∧ ((oc4 n : Nat) : Int) ≤ _; omega)
   ·refine ⟨(y + (y / 2 ^ 8)), ?_⟩
    refine ⟨?_, rfl⟩
    ·unfold J0k
     subst hn
     first | rw [h6] | rw [h5] | rw [h4] | rw [h3] | rw [h2] | rw [h1] | skip
     rw [st4]
     try simp only [Int.toNat_natCast]
     rfl
  intro y hJ
  have h4 := hJ
  refine ⟨?_, ?_⟩
  ·refine ⟨?_, ?_, ?_, ?_⟩
   ·subst hn
    first | rw [h6] | rw [h5] | rw [h4] | rw [h3] | rw [h2] | rw [h1] | skip
    try simp only [Int.toNat_natCast]
    omega
   ·omega
   ·subst hn
    first | rw [h6] | rw [h5] | rw [h4] | rw [h3] | rw [h2] | rw [h1] | skip
    rw [st4]
    try simp only [Int.toNat_natCast]
    (show 0 ≤ ((oc5 n : Nat) : Int) ∧ ((oc5 n : Nat) : Int) ≤ _; omega)
   ·refine ⟨(y + (y / 2 ^ 16)), ?_⟩
    refine ⟨?_, rfl⟩
    ·unfold J0g
     subst hn
     first | rw [h6] | rw [h5] | rw [h4] | rw [h3] | rw [h2] | rw [h1] | skip
     rw [st4]
     try simp only [Int.toNat_natCast]
     rfl
  intro y hJ
  have h5 := hJ
  refine ⟨?_, ?_⟩
  ·refine ⟨?_, ?_, ?_, ?_⟩
   ·subst hn
    first | rw [h6] | rw [h5] | rw [h4] | rw [h3] | rw [h2] | rw [h1] | skip
    try simp only [Int.toNat_natCast]
    omega
   ·omega
   ·subst hn
    first | rw [h6] | rw [h5] | rw [h4] | rw [h3] | rw [h2] | rw [h1] | skip
    rw [st4]
    try simp only [Int.toNat_natCast]
    (show 0 ≤ ((oc6 n : Nat) : Int) ∧ ((oc6 n : Nat) : Int) ≤ _; omega)
   ·refine ⟨(y + (y / 2 ^ 32)), ?_⟩
    refine ⟨?_, rfl⟩
    ·unfold J0j
     subst hn
     first | rw [h6] | rw [h5] | rw [h4] | rw [h3] | rw [h2] | rw [h1] | skip
     rw [st4]
     try simp only [Int.toNat_natCast]
     rfl
  intro y hJ
  have h6 := hJ
  refine ⟨?_, ?_, ?_, ?_⟩
  ·subst hn
   first | rw [h6] | rw [h5] | rw [h4] | rw [h3] | rw [h2] | rw [h1] | skip
   try simp only [Int.toNat_natCast]
   omega
  ·subst hn
   first | rw [h6] | rw [h5] | rw [h4] | rw [h3] | rw [h2] | rw [h1] | skip
   try simp only [Int.toNat_natCast]
   omega
  ·omega
  subst hn
  first | rw [h6] | rw [h5] | rw [h4] | rw [h3] | rw [h2] | rw [h1] | skip
  try simp only [Int.toNat_natCast]
  rw [ob.2.2.2.2.2.2]
  rfl
theorem J4K (x : Int) (hx : 0 ≤ x ∧ x < 256) : PC Tryz.prog 234 [.int .u64 x] (.one (.d (.int .i64 (J0E x.toNat)))) :=
  pc_wf @Tryz.call234 fun _ => pc_by (by kernel_rfl) Tryz.func234 @Tryz.call234 (by kernel_rfl) J4Z (J52 x) (by kernel_rfl) (J4M x hx) (by kernel_rfl)
def J4q : List D → Orc := orcN [none] fun ds => match ds with
  | [.int .u64 x] => some (.one (.d (.int .i64 (J0E x.toNat))))
  | _ => none
def J6r (f : FuncId) (ds : List D) : Orc := bif Nat.beq f 234 then J4q ds else .no
def J6o (x : Int) : Ann := .two (.none) (.two (.goF (.none)) (.none))
def J3H (x : Int) : Prop :=
  (false = false) ∧ (PC Tryz.prog 234 [.int .u64 x] (.one (.d (.int .i64 (J0E x.toNat))))) ∧ (((J0E x.toNat) = (J0E x.toNat)))
theorem J5N (x : Int) (hx : 0 ≤ x ∧ x < 256)  : J3H x := by
  unfold J3H
  refine ⟨rfl, ?_, rfl⟩
  ·refine J4K x ?_
   ·exact hx
theorem J5T (x : Int) (hx : 0 ≤ x ∧ x < 256) : PC Tryz.prog 210 [.int .u64 x] (.one (.d (.int .i64 (J0E x.toNat)))) :=
  pc_wf @Tryz.call210 fun _ => pc_by (by kernel_rfl) Tryz.func210 @Tryz.call210 (by kernel_rfl) J6r (J6o x) (by kernel_rfl) (J5N x hx) (by kernel_rfl)
def J4Y : List D → Orc := orcN [none] fun ds => match ds with
  | [.int .u64 x] => some (.one (.d (.int .i64 (J0E x.toNat))))
  | _ => none
def J9f (f : FuncId) (ds : List D) : Orc := bif Nat.beq f 210 then J4Y ds else .no
def J9H (x : Int) : Ann := .none
def J56 (x : Int) : Prop :=
  (PC Tryz.prog 210 [.int .u64 x] (.one (.d (.int .i64 (J0E x.toNat))))) ∧ (((J0E x.toNat) = (J0E x.toNat)))
theorem J93 (x : Int) (hx : 0 ≤ x ∧ x < 256)  : J56 x := by
  unfold J56
  refine ⟨?_, rfl⟩
  ·refine J5T x ?_
   ·exact hx
theorem J8T (x : Int) (hx : 0 ≤ x ∧ x < 256) : PC Tryz.prog 141 [.int .u64 x] (.one (.d (.int .i64 (J0E x.toNat)))) :=
  pc_wf @Tryz.call141 fun _ => pc_by (by kernel_rfl) Tryz.func141 @Tryz.call141 (by kernel_rfl) J9f (J9H x) (by kernel_rfl) (J93 x hx) (by kernel_rfl)
def J7T : List D → Orc := orcN [none] fun ds => match ds with
  | [.int .u64 x] => some (.one (.d (.int .i64 (J0E x.toNat))))
  | _ => none
def J1k (n : Nat) : ZI := members (fun _ => true) n
theorem J8m {n : Nat} : members (fun k => (2 ^ n - 1).testBit k) n = J1k n :=
  members_congr fun k hk => by simp [Nat.testBit_two_pow_sub_one, hk]
abbrev J1r (n : Int) (code : Int) (out : ZI) (x : Int) : Prop := (0 ≤ x) ∧ (x ≤ n) ∧ (out = members (fun k => code.toNat.testBit k) x.toNat)
abbrev J0w (n : Int) (code : Int) (out : ZI) (x : Int) : Nat := (n - x).toNat
def JaQ (f : FuncId) (ds : List D) : Orc := .no
def JaS (n : Int) (code : Int) : Ann := .two (.none) (.two (.none) (.two (.two (.none) (.loop (cut2 (fun (out : ZI) (x : Int) => J1r n code out x) (fun (out : ZI) (x : Int) => [(0, .d false (.int .i64 n)), (1, .d false (.int .i64 code)), (5, .own 1000000 out.length), (6, .d true (.int .i64 x))]) (fun (out : ZI) (x : Int) => [(1000000, .arr true 3 (.ints out))])) (fun g => J0w n code g.1 g.2) (fun _ => .none))) (.none)))
def J7h (n : Int) (code : Int) : Prop :=
  ((∃ out' : ZI, ∃ x' : Int, (J1r n code out' x') ∧ (n = n) ∧ (code = code) ∧ ((0 : Nat) = out'.length) ∧ ((0 : Int) = x') ∧ ([] = out')) ∧ (∀ out : ZI, ∀ x : Int, (J1r n code out x) → (((decide (x < n)) = true → ((0 : Int) ≤ code ∧ (code : Int) ≤ 9223372036854775807) ∧ ((0 : Int) ≤ x) ∧ ((0 : Int) ≤ (code / 2 ^ x.toNat) ∧ ((code / 2 ^ x.toNat) : Int) ≤ 9223372036854775807) ∧ ((0 : Int) ≤ 1 ∧ (1 : Int) ≤ 9223372036854775807) ∧ ((((((code / 2 ^ x.toNat).toNat &&& 1 : Nat) : Int) == 1) = true → (out.length = out.length) ∧ ((1 : Nat) = 1) ∧ ((out.length + 1) * 8 ≤ 140737488355328) ∧ (I6 (x + 1)) ∧ (∃ out' : ZI, ∃ x' : Int, (J1r n code out' x') ∧ (J0w n code out' x' < J0w n code out x) ∧ (n = n) ∧ (code = code) ∧ ((out.length + 1) = out'.length) ∧ ((x + 1) = x') ∧ ((out ++ [x]) = out'))) ∧ (((((code / 2 ^ x.toNat).toNat &&& 1 : Nat) : Int) == 1) = false → (I6 (x + 1)) ∧ (∃ out' : ZI, ∃ x' : Int, (J1r n code out' x') ∧ (J0w n code out' x' < J0w n code out x) ∧ (n = n) ∧ (code = code) ∧ (out.length = out'.length) ∧ ((x + 1) = x') ∧ (out = out'))))) ∧ ((decide (x < n)) = false → ((out.length = out.length) ∧ ((out : ZI) = (members (fun k => code.toNat.testBit k) n.toNat)))))))
theorem Jac (n : Int) (code : Int) (hn : 0 ≤ n ∧ n ≤ 62) (hc : 0 ≤ code ∧ code ≤ 4611686018427387903)  : J7h n code := by
  unfold J7h
  refine ⟨?_, ?_⟩
  ·refine ⟨([]), 0, ?_⟩
   refine ⟨?_, rfl, rfl, rfl, rfl, ?_⟩
   ·refine ⟨?_, ?_, ?_⟩
    ·omega
    ·omega
    ·rfl
   rfl
  intro out x hJ
  obtain ⟨h1, h2, h3⟩ := hJ
  refine ⟨?_, ?_⟩
  ·intro b1
   try simp only [nrmT] at b1
   refine ⟨?_, ?_, ?_, ?_, ?_, ?_⟩
   ·omega
   ·omega
   ·have h5 : 0 ≤ code / 2 ^ x.toNat := Int.ediv_nonneg hc.1 (Int.le_of_lt (Int.pow_pos (by omega)))
    have h6 : code / 2 ^ x.toNat ≤ code := Int.ediv_le_self _ hc.1
    omega
   ·omega
   ·intro b2
    try simp only [nrmT] at b2
    refine ⟨rfl, rfl, ?_, ?_, ?_⟩
    ·rw [h3]; have := members_len_le (fun k => code.toNat.testBit k) x.toNat; omega
    ·omega
    refine ⟨(out ++ [x]), (x + 1), ?_⟩
    refine ⟨?_, ?_, rfl, rfl, ?_, rfl, rfl⟩
    ·refine ⟨?_, ?_, ?_⟩
     ·omega
     ·omega
     ·have hb := shr_bit (n := code.toNat) (k := x.toNat)
      rw [show ((code.toNat : Nat) : Int) = code by omega] at hb
      have ht : code.toNat.testBit x.toNat = true := by
        cases h : code.toNat.testBit x.toNat with
        | true => rfl
        | false => rw [h] at hb; simp at hb; simp at b2; omega
      rw [h3, show (x + 1).toNat = x.toNat + 1 by omega, members_succ, if_pos ht, show ((x.toNat : Nat) : Int) = x by omega]
    ·(simp only [J0w]; omega)
    simp
   intro b3
   try simp only [nrmT] at b3
   refine ⟨?_, ?_⟩
   ·omega
   refine ⟨out, (x + 1), ?_⟩
   refine ⟨?_, ?_, rfl, rfl, rfl, rfl, rfl⟩
   ·refine ⟨?_, ?_, ?_⟩
    ·omega
    ·omega
    ·have hb := shr_bit (n := code.toNat) (k := x.toNat)
     rw [show ((code.toNat : Nat) : Int) = code by omega] at hb
     have ht : code.toNat.testBit x.toNat = false := by
       cases h : code.toNat.testBit x.toNat with
       | false => rfl
       | true => rw [h] at hb; simp at hb; simp at b3; omega
     rw [h3, show (x + 1).toNat = x.toNat + 1 by omega, members_succ, ht]; simp
   (simp only [J0w]; omega)
  intro b4
  try simp only [nrmT] at b4
  refine ⟨rfl, ?_⟩
  ·rw [h3, show x.toNat = n.toNat by omega]
theorem Ja1 (n : Int) (code : Int) (hn : 0 ≤ n ∧ n ≤ 62) (hc : 0 ≤ code ∧ code ≤ 4611686018427387903) : PC Tryz.prog 142 [.int .i64 n, .int .i64 code] (.one (.d (.sl (.ints (members (fun k => code.toNat.testBit k) n.toNat))))) :=
  pc_wf @Tryz.call142 fun _ => pc_by (by kernel_rfl) Tryz.func142 @Tryz.call142 (by kernel_rfl) JaQ (JaS n code) (by kernel_rfl) (Jac n code hn hc) (by kernel_rfl)
def J9W : List D → Orc := orcN [none, none] fun ds => match ds with
  | [.int .i64 n, .int .i64 code] => some (.one (.d (.sl (.ints (members (fun k => code.toNat.testBit k) n.toNat)))))
  | _ => none
def J6z (f : FuncId) (ds : List D) : Orc := bif Nat.beq f 111 then J3n ds else bif Nat.beq f 132 then J2a ds else .no
def J6N (U : ZI) (E : ZR) (k : Int) : Ann := .none
def J3M (U : ZI) (E : ZR) (k : Int) : Prop :=
  (PC Tryz.prog 111 [.agg [.sl (.ints U), .sl (.rows E)]] (.one (.d (.bool (J0 U E))))) ∧ ((J0 U E) = true → (J0 U E) = true) ∧ ((J0 U E) = true → (J0 U E) = true) ∧ ((J0 U E) = true → (J0 U E) = true) ∧ ((J0 U E) = true → (J0 U E) = true) ∧ ((J0 U E) = true → PC Tryz.prog 132 [.int .i64 k, .int .i64 1, .int .i64 (U.length : Int)] (.one (.d (.bool (inB k 1 (U.length : Int)))))) ∧ (true = true) ∧ (((J0 U E) = true → (J0 U E) = true)) ∧ (((J0 U E) = false → true = true)) ∧ (((cond (J0 U E) (inB k 1 (U.length : Int)) false) = (J0 U E && inB k 1 (U.length : Int))))
theorem J5P (U : ZI) (E : ZR) (k : Int)  (w_Open : (U.length : Int) ≤ 9223372036854775807) (w_Dist : (E.length : Int) ≤ 9223372036854775807) (v_Dist : ∀ x9 ∈ E, (x9.length : Int) ≤ 9223372036854775807) : J3M U E k := by
  unfold J3M
  refine ⟨J3R U E, id, id, id, id, fun _ => J2C k 1 (U.length : Int), rfl, id, fun _ => rfl, ?_⟩
  ·cases J0 U E <;> rfl
theorem J10 (U : ZI) (E : ZR) (k : Int)  : PC Tryz.prog 93 [.agg [.sl (.ints U), .sl (.rows E)], .int .i64 k] (.one (.d (.bool (J0 U E && inB k 1 (U.length : Int))))) :=
  pc_wf @Tryz.call93 fun hw => pc_by (by kernel_rfl) Tryz.func93 @Tryz.call93 (by kernel_rfl) J6z (J6N U E k) (by kernel_rfl) (J5P U E k hw.1.1 hw.1.2.1.1 hw.1.2.1.2) (by kernel_rfl)
def J0O : List D → Orc := orcN [none, none] fun ds => match ds with
  | [.agg [.sl (.ints U), .sl (.rows E)], .int .i64 k] => some (.one (.d (.bool (J0 U E && inB k 1 (U.length : Int)))))
  | _ => none
theorem JbD : ∀ (n : Nat) (out : ZI), (∀ i, i < n → (i : Int) ∈ out) → n ≤ out.length
  | 0, _, _ => Nat.zero_le _
  | n + 1, out, h => by
    have h1 := h n (Nat.lt_succ_self n)
    have h2 := JbD n (out.erase (n : Int)) fun i hi => (List.mem_erase_of_ne (by omega)).2 (h i (by omega))
    rw [List.length_erase_of_mem h1] at h2
    have := List.length_pos_of_mem h1
    omega
theorem Jb6 {out : ZI} {n : Nat} (ho : ∀ i, i < n → out.contains (i : Int) = true) : n ≤ out.length :=
  JbD n out fun i hi => List.contains_iff_mem.1 (ho i hi)
def J0D (a b : Int) : Int := if a < b then -1 else if a > b then 1 else 0
def Jj : ZI → ZI → Int
  | [], [] => 0
  | [], _ :: _ => -1
  | _ :: _, [] => 1
  | x :: r, y :: s => if x < y then -1 else if x > y then 1 else Jj r s
theorem J43 {xs ys : ZI} {i : Nat} (h : Jj xs ys = Jj (xs.drop i) (ys.drop i)) (h1 : i < xs.length) (h2 : i < ys.length) :
    Jj xs ys = if xs.getD i 0 < ys.getD i 0 then -1 else if xs.getD i 0 > ys.getD i 0 then 1 else Jj (xs.drop (i + 1)) (ys.drop (i + 1)) := by
  rw [h, List.drop_eq_getElem_cons h1, List.drop_eq_getElem_cons h2, JG h1, JG h2]
  rfl
theorem JaU {xs ys : ZI} {i : Nat} (h : Jj xs ys = Jj (xs.drop i) (ys.drop i)) (h1 : i < xs.length) (h2 : ys.length ≤ i) : Jj xs ys = 1 := by
  rw [h, List.drop_eq_getElem_cons h1, List.drop_eq_nil_of_le h2]
  rfl
theorem J6P {xs ys : ZI} {i : Nat} (h : Jj xs ys = Jj (xs.drop i) (ys.drop i)) (h1 : xs.length ≤ i) (h2 : i ≤ ys.length) (h3 : i = xs.length) : Jj xs ys = if xs.length < ys.length then -1 else 0 := by
  rw [h, List.drop_eq_nil_of_le h1]
  by_cases e : xs.length < ys.length
  · rw [if_pos e, List.drop_eq_getElem_cons (by omega)]
    rfl
  rw [if_neg e, List.drop_eq_nil_of_le (by omega)]
  rfl
def J6E (f : FuncId) (ds : List D) : Orc := .no
def J6I (x : Int) : Ann := .none
def J3G (x : Int) : Prop :=
  (((x != x) = false))
theorem J5L (x : Int)   : J3G x := by
  unfold J3G
  simp
theorem J3r (x : Int)  : PC Tryz.prog 236 [.int .i64 x] (.one (.d (.bool false))) :=
  pc_wf @Tryz.call236 fun _ => pc_by (by kernel_rfl) Tryz.func236 @Tryz.call236 (by kernel_rfl) J6E (J6I x) (by kernel_rfl) (J5L x) (by kernel_rfl)
def J5m : List D → Orc := orcN [none] fun ds => match ds with
  | [.int .i64 x] => some (.one (.d (.bool false)))
  | _ => none
def J5k (f : FuncId) (ds : List D) : Orc := bif Nat.beq f 236 then J5m ds else .no
def J55 (a : Int) (b : Int) : Ann := .two (.none) (.two (.none) (.two (.none) (.two (.two (.none) (.goF (.none))) (.two (.two (.none) (.goF (.none))) (.none)))))
def J3i (a : Int) (b : Int) : Prop :=
  (PC Tryz.prog 236 [.int .i64 a] (.one (.d (.bool false)))) ∧ (PC Tryz.prog 236 [.int .i64 b] (.one (.d (.bool false)))) ∧ (false = false) ∧ (false = false) ∧ (((decide (a < b)) = true → ((((-1) : Int) = (J0D a b)))) ∧ ((decide (a < b)) = false → (((decide (a > b)) = true → (((1 : Int) = (J0D a b)))) ∧ ((decide (a > b)) = false → (((0 : Int) = (J0D a b)))))))
theorem J4E (a : Int) (b : Int)   : J3i a b := by
  unfold J3i
  refine ⟨J3r a, J3r b, rfl, rfl, ?_, ?_⟩
  ·intro b1
   try simp only [nrmT] at b1
   unfold J0D; first | rw [if_pos (by omega)] | rw [if_neg (by omega), if_pos (by omega)] | rw [if_neg (by omega), if_neg (by omega)]
  intro b2
  try simp only [nrmT] at b2
  refine ⟨?_, ?_⟩
  ·intro b3
   try simp only [nrmT] at b3
   unfold J0D; first | rw [if_pos (by omega)] | rw [if_neg (by omega), if_pos (by omega)] | rw [if_neg (by omega), if_neg (by omega)]
  intro b4
  try simp only [nrmT] at b4
  unfold J0D; first | rw [if_pos (by omega)] | rw [if_neg (by omega), if_pos (by omega)] | rw [if_neg (by omega), if_neg (by omega)]
theorem J2V (a : Int) (b : Int)  : PC Tryz.prog 216 [.int .i64 a, .int .i64 b] (.one (.d (.int .i64 (J0D a b)))) :=
  pc_wf @Tryz.call216 fun _ => pc_by (by kernel_rfl) Tryz.func216 @Tryz.call216 (by kernel_rfl) J5k (J55 a b) (by kernel_rfl) (J4E a b) (by kernel_rfl)
def J2K : List D → Orc := orcN [none, none] fun ds => match ds with
  | [.int .i64 a, .int .i64 b] => some (.one (.d (.int .i64 (J0D a b))))
  | _ => none
abbrev JI (xs : ZI) (ys : ZI) (i : Int) : Prop := (0 ≤ i) ∧ (i ≤ (xs.length : Int)) ∧ (i ≤ (ys.length : Int)) ∧ (Jj xs ys = Jj (xs.drop i.toNat) (ys.drop i.toNat))
abbrev JJ (xs : ZI) (ys : ZI) (i : Int) : Nat := (xs.length - i).toNat
def J3x (f : FuncId) (ds : List D) : Orc := bif Nat.beq f 216 then J2K ds else .no
def J3z (xs : ZI) (ys : ZI) : Ann := .two (.none) (.two (.two (.none) (.loop (cut1 (fun (i : Int) => JI xs ys i) (fun (i : Int) => [(0, .d false (.sl (.ints xs))), (1, .d false (.sl (.ints ys))), (9, .d false (.sl (.ints xs))), (10, .d true (.int .i64 (xs.length : Int))), (11, .d true (.int .i64 i))]) (fun (i : Int) => [])) (fun g => JJ xs ys g) (fun _ => .none))) (.none))
def J1q (xs : ZI) (ys : ZI) : Prop :=
  ((∃ i' : Int, (JI xs ys i') ∧ (xs = xs) ∧ (ys = ys) ∧ (xs = xs) ∧ ((xs.length : Int) = (xs.length : Int)) ∧ ((0 : Int) = i')) ∧ (∀ i : Int, (JI xs ys i) → (((decide (i < (xs.length : Int))) = true → ((0 : Int) ≤ i) ∧ ((i : Int) < xs.length) ∧ (i.toNat < xs.length) ∧ (((decide (i ≥ (ys.length : Int))) = true → (((1 : Int) = (Jj xs ys)))) ∧ ((decide (i ≥ (ys.length : Int))) = false → ((0 : Int) ≤ i) ∧ ((i : Int) < ys.length) ∧ (i.toNat < ys.length) ∧ (PC Tryz.prog 216 [.int .i64 (xs.getD i.toNat 0), .int .i64 (ys.getD i.toNat 0)] (.one (.d (.int .i64 (J0D (xs.getD i.toNat 0) (ys.getD i.toNat 0)))))) ∧ ((((J0D (xs.getD i.toNat 0) (ys.getD i.toNat 0)) != 0) = true → (((J0D (xs.getD i.toNat 0) (ys.getD i.toNat 0)) = (Jj xs ys)))) ∧ (((J0D (xs.getD i.toNat 0) (ys.getD i.toNat 0)) != 0) = false → (I6 (i + 1)) ∧ (∃ i' : Int, (JI xs ys i') ∧ (JJ xs ys i' < JJ xs ys i) ∧ (xs = xs) ∧ (ys = ys) ∧ (xs = xs) ∧ ((xs.length : Int) = (xs.length : Int)) ∧ ((i + 1) = i'))))))) ∧ ((decide (i < (xs.length : Int))) = false → (((decide ((xs.length : Int) < (ys.length : Int))) = true → ((((-1) : Int) = (Jj xs ys)))) ∧ ((decide ((xs.length : Int) < (ys.length : Int))) = false → (((0 : Int) = (Jj xs ys)))))))))
theorem J3l (xs : ZI) (ys : ZI)  (w_xs : (xs.length : Int) ≤ 9223372036854775807) (w_ys : (ys.length : Int) ≤ 9223372036854775807) : J1q xs ys := by
  unfold J1q
  refine ⟨?_, ?_⟩
  ·refine ⟨0, ?_⟩
   refine ⟨?_, rfl, rfl, rfl, rfl, rfl⟩
   ·refine ⟨?_, ?_, ?_, ?_⟩
    ·omega
    ·omega
    ·omega
    ·rfl
  intro i hJ
  obtain ⟨h1, h2, h2y, h3⟩ := hJ
  refine ⟨?_, ?_⟩
  ·intro b1
   try simp only [nrmT] at b1
   refine ⟨?_, ?_, ?_, ?_, ?_⟩
   ·omega
   ·omega
   ·omega
   ·intro b2
    try simp only [nrmT] at b2
    exact (JaU h3 (by omega) (by omega)).symm
   intro b3
   try simp only [nrmT] at b3
   refine ⟨?_, ?_, ?_, J2V (xs.getD i.toNat 0) (ys.getD i.toNat 0), ?_, ?_⟩
   ·omega
   ·omega
   ·omega
   ·intro b4
    try simp only [nrmT] at b4
    rw [J43 h3 (by omega) (by omega)]
    unfold J0D at b4 ⊢
    by_cases h5 : xs.getD i.toNat 0 < ys.getD i.toNat 0
    · rw [if_pos h5, if_pos h5]
    rw [if_neg h5] at b4 ⊢
    by_cases h6 : xs.getD i.toNat 0 > ys.getD i.toNat 0
    · rw [if_pos h6, if_neg h5, if_pos h6]
    rw [if_neg h6] at b4; omega
   intro b5
   try simp only [nrmT] at b5
   refine ⟨?_, ?_⟩
   ·omega
   refine ⟨(i + 1), ?_⟩
   refine ⟨?_, ?_, rfl, rfl, rfl, rfl, rfl⟩
   ·refine ⟨?_, ?_, ?_, ?_⟩
    ·omega
    ·omega
    ·omega
    ·have h7 := J43 h3 (by omega) (by omega)
     unfold J0D at b5
     rw [h7, show (i + 1).toNat = i.toNat + 1 by omega]
     by_cases h5 : xs.getD i.toNat 0 < ys.getD i.toNat 0
     · rw [if_pos h5] at b5; omega
     rw [if_neg h5] at b5 ⊢
     by_cases h6 : xs.getD i.toNat 0 > ys.getD i.toNat 0
     · rw [if_pos h6] at b5; omega
     rw [if_neg h6]
   (simp only [JJ]; omega)
  intro b6
  try simp only [nrmT] at b6
  refine ⟨?_, ?_⟩
  ·intro b7
   try simp only [nrmT] at b7
   rw [J6P h3 (by omega) (by omega) (by omega), if_pos (by omega)]
  intro b8
  try simp only [nrmT] at b8
  rw [J6P h3 (by omega) (by omega) (by omega), if_neg (by omega)]
theorem J3o (xs : ZI) (ys : ZI)  : PC Tryz.prog 198 [.sl (.ints xs), .sl (.ints ys)] (.one (.d (.int .i64 (Jj xs ys)))) :=
  pc_wf @Tryz.call198 fun hw => pc_by (by kernel_rfl) Tryz.func198 @Tryz.call198 (by kernel_rfl) J3x (J3z xs ys) (by kernel_rfl) (J3l xs ys hw.1 hw.2.1) (by kernel_rfl)
def J3h : List D → Orc := orcN [some .ints, some .ints] fun ds => match ds with
  | [.sl (.ints xs), .sl (.ints ys)] => some (.one (.d (.int .i64 (Jj xs ys))))
  | _ => none
def lst (n code : Nat) : ZI := members (fun k => code.testBit k) n
theorem JcA {n code : Nat} : ∀ x ∈ lst n code, 0 ≤ x ∧ x < (n : Int) := fun x hx => by
  have := mem_members.1 hx
  omega
theorem Jcm {n code : Nat} : (lst n code).length ≤ n := members_len_le _ _
theorem J1J (n : Nat) : (1 : Int) * 2 ^ ((n : Int)).toNat = ((2 ^ n : Nat) : Int) := by
  rw [Int.toNat_natCast]; simp
theorem J9h {n k : Nat} (h : k < n) : (J1k n).getD k 0 = (k : Int) := by
  unfold J1k members
  have e : (List.range n).filter (fun _ => true) = List.range n := List.filter_eq_self.2 fun _ _ => rfl
  rw [e]
  simp [h]
theorem J1y (n : Nat) : (J1k n).length = n := by
  unfold J1k members
  have e : (List.range n).filter (fun _ => true) = List.range n := List.filter_eq_self.2 fun _ _ => rfl
  rw [e]; simp
def Jn (a b : ZI) : Int := if J0D (a.length : Int) (b.length : Int) = 0 then Jj a b else J0D (a.length : Int) (b.length : Int)
theorem J8h : ∀ x : ZI, Jj x x = 0
  | [] => rfl
  | x :: r => by unfold Jj; rw [if_neg (by omega), if_neg (by omega)]; exact J8h r
theorem J8o : ∀ {x y : ZI}, Jj x y = 0 → x = y
  | [], [], _ => rfl
  | [], _ :: _, h => by simp [Jj] at h
  | _ :: _, [], h => by simp [Jj] at h
  | x :: r, y :: s, h => by
    unfold Jj at h
    by_cases h1 : x < y
    · rw [if_pos h1] at h; omega
    rw [if_neg h1] at h
    by_cases h2 : x > y
    · rw [if_pos h2] at h; omega
    rw [if_neg h2] at h
    have : x = y := by omega
    rw [this, J8o h]
theorem J8s : ∀ {x y : ZI}, Jj x y < 0 ↔ 0 < Jj y x
  | [], [] => by simp [Jj]
  | [], _ :: _ => by simp [Jj]
  | _ :: _, [] => by simp [Jj]
  | x :: r, y :: s => by
    unfold Jj
    by_cases h1 : x < y
    · rw [if_pos h1, if_neg (by omega), if_pos (by omega)]; omega
    rw [if_neg h1]
    by_cases h2 : x > y
    · rw [if_pos h2, if_pos (by omega)]; omega
    rw [if_neg h2, if_neg (by omega), if_neg (by omega)]; exact J8s
theorem JaB : ∀ {x y z : ZI}, Jj x y < 0 → Jj y z < 0 → Jj x z < 0
  | [], _, [], h1, h2 => by
    exfalso
    rename_i y
    cases y with
    | nil => simp [Jj] at h1
    | cons y s => simp [Jj] at h2
  | [], _, _ :: _, _, _ => by simp [Jj]
  | _ :: _, [], _, h, _ => by simp [Jj] at h
  | _ :: _, _ :: _, [], _, h => by simp [Jj] at h
  | x :: r, y :: s, z :: t, h1, h2 => by
    unfold Jj at h1 h2 ⊢
    by_cases a1 : x < y
    · by_cases a2 : y < z
      · rw [if_pos (by omega)]; omega
      · rw [if_neg a2] at h2
        by_cases a3 : y > z
        · rw [if_pos a3] at h2; omega
        rw [if_pos (by omega)]; omega
    rw [if_neg a1] at h1
    by_cases a4 : x > y
    · rw [if_pos a4] at h1; omega
    rw [if_neg a4] at h1
    by_cases a2 : y < z
    · rw [if_pos (by omega)]; omega
    rw [if_neg a2] at h2
    by_cases a3 : y > z
    · rw [if_pos a3] at h2; omega
    rw [if_neg a3] at h2
    rw [if_neg (by omega), if_neg (by omega)]
    exact JaB h1 h2
theorem JY (a b : ZI) : (a.length < b.length ∧ Jn a b < 0) ∨ (b.length < a.length ∧ 0 < Jn a b) ∨ (a.length = b.length ∧ Jn a b = Jj a b) := by
  unfold Jn J0D
  by_cases h1 : (a.length : Int) < b.length
  · rw [if_pos h1]; left; exact ⟨by omega, by rw [if_neg (by omega)]; omega⟩
  rw [if_neg h1]
  by_cases h2 : (a.length : Int) > b.length
  · rw [if_pos h2]; right; left; exact ⟨by omega, by rw [if_neg (by omega)]; omega⟩
  rw [if_neg h2]; right; right; exact ⟨by omega, by rw [if_pos rfl]⟩
theorem J8e (a : ZI) : Jn a a = 0 := by
  rcases JY a a with h | h | h
  · omega
  · omega
  rw [h.2, J8h]
theorem J8w {a b : ZI} (h : Jn a b = 0) : a = b := by
  rcases JY a b with h1 | h1 | h1
  · omega
  · omega
  exact J8o (h1.2 ▸ h)
theorem J57 {a b : ZI} : Jn a b < 0 ↔ 0 < Jn b a := by
  rcases JY a b with h1 | h1 | h1 <;> rcases JY b a with h2 | h2 | h2
  · omega
  · omega
  · omega
  · omega
  · omega
  · omega
  · omega
  · omega
  rw [h1.2, h2.2]; exact J8s
theorem Jax {a b c : ZI} (h : Jn a b < 0) (k : Jn b c < 0) : Jn a c < 0 := by
  rcases JY a b with h1 | h1 | h1 <;> rcases JY b c with h2 | h2 | h2 <;> rcases JY a c with h3 | h3 | h3
  all_goals first | omega | (rw [h3.2]; exact JaB (h1.2 ▸ h) (h2.2 ▸ k))
theorem Jbq {β : Type} {c : β → β → Int} (hs : ∀ x, c x x = 0) (h0 : ∀ {x y}, c x y = 0 → x = y) (hf : ∀ {x y}, c x y < 0 ↔ 0 < c y x) (ht : ∀ {x y z}, c x y < 0 → c y z < 0 → c x z < 0) :
    Go.Sort.SWO (ltOf c) ∧ ∀ x y, ltOf c x y = false → ltOf c y x = false → x = y := by
  refine ⟨⟨fun x => ?_, fun x y z h1 h2 => ?_, fun x y z h1 h2 => ?_⟩, fun x y h1 h2 => ?_⟩
  · exact decide_eq_false (by rw [hs]; omega)
  · exact decide_eq_true (ht (of_decide_eq_true h1) (of_decide_eq_true h2))
  · have h1 := of_decide_eq_false h1
    have h2 := of_decide_eq_false h2
    refine decide_eq_false fun h3 => ?_
    by_cases e1 : c x y = 0
    · rw [h0 e1] at h3; omega
    by_cases e2 : c y z = 0
    · rw [← h0 e2] at h3; omega
    · have a1 : c y x < 0 := hf.2 (by omega)
      have a2 : c z y < 0 := hf.2 (by omega)
      have a3 := ht a2 a1
      have a4 := hf.1 h3
      omega
  have h1 := of_decide_eq_false h1
  have h2 := of_decide_eq_false h2
  refine h0 ?_
  by_cases e1 : 0 < c x y
  · have := hf.2 e1; omega
  omega
theorem Jc9 : Go.Sort.SWO (ltOf Jn) := (Jbq J8e J8w J57 Jax).1
theorem Jcy : ∀ x y, ltOf Jn x y = false → ltOf Jn y x = false → x = y := (Jbq J8e J8w J57 Jax).2
def orI : ZI → Int
  | [] => 0
  | x :: r => if x = 0 then orI r else x
theorem J9l {xs : ZI} {i : Nat} (h : orI xs = orI (xs.drop i)) (hi : i < xs.length) : orI xs = if xs.getD i 0 = 0 then orI (xs.drop (i + 1)) else xs.getD i 0 := by
  rw [h, List.drop_eq_getElem_cons hi, JG hi]; rfl
theorem Jce {xs : ZI} {i : Nat} (h : orI xs = orI (xs.drop i)) (hi : xs.length ≤ i) : orI xs = 0 := by
  rw [h, List.drop_eq_nil_of_le hi]; rfl
theorem Jcg (a b : Int) : orI [a, b] = if a = 0 then b else a := by
  unfold orI orI orI
  by_cases h : b = 0
  · rw [if_pos h, h]
  rw [if_neg h]
def J30 (n m : Nat) : ZR := (List.range m).map fun c => lst n (c + 1)
def J7 (n : Nat) : ZR := (J30 n (2 ^ n - 1)).mergeSort fun x9 y9 => !(ltOf Jn) y9 x9
theorem J0U (n m : Nat) : (J30 n m).length = m := by simp [J30]
theorem J8y (n : Nat) : (J7 n).length = 2 ^ n - 1 := by unfold J7; rw [List.length_mergeSort, J0U]
theorem J8l (n m : Nat) : J30 n (m + 1) = J30 n m ++ [lst n (m + 1)] := by simp [J30, List.range_succ]
theorem J4R {n : Nat} {s : ZI} : s ∈ J7 n ↔ ∃ c, 1 ≤ c ∧ c < 2 ^ n ∧ lst n c = s := by
  unfold J7
  rw [(List.mergeSort_perm _ _).mem_iff, J30, List.mem_map]
  constructor
  · rintro ⟨c, hc, rfl⟩
    have := List.mem_range.1 hc
    exact ⟨c + 1, by omega, by omega, rfl⟩
  rintro ⟨c, h1, h2, rfl⟩
  exact ⟨c - 1, List.mem_range.2 (by omega), by rw [show c - 1 + 1 = c by omega]⟩
theorem Jcl {n c : Nat} (h1 : 1 ≤ c) (h2 : c < 2 ^ n) : 0 < (lst n c).length := by
  rcases Nat.eq_zero_or_pos (lst n c).length with h | h
  · exfalso
    have e : lst n c = [] := List.eq_nil_of_length_eq_zero h
    have : c = 0 := by
      apply Nat.eq_of_testBit_eq
      intro i
      rw [Nat.zero_testBit]
      by_cases hi : i < n
      · cases hb : c.testBit i with
        | false => rfl
        | true =>
          have hm : (i : Int) ∈ lst n c := mem_members.2 ⟨by omega, by omega, by rw [Int.toNat_natCast]; exact hb⟩
          rw [e] at hm; cases hm
      exact Nat.testBit_lt_two_pow (Nat.lt_of_lt_of_le h2 (Nat.pow_le_pow_right (by omega) (by omega)))
    omega
  exact h
theorem Jcw {n c : Nat} (hn : n ≤ 62) (h : c < 2 ^ n) : members (fun k => c.testBit k) 62 = lst n c :=
  J1w (fun k hk => Nat.testBit_lt_two_pow (Nat.lt_of_lt_of_le h (Nat.pow_le_pow_right (by omega) hk))) 62 hn
theorem JaT {out : ZR} {s : ZI} {k : Nat} (ho : out.Pairwise fun x9 y9 => ltOf Jn y9 x9 = false) (hk : k ≤ out.length) (h1 : ∀ j, k ≤ j → j < out.length → Jn s (out.getD j []) < 0) (h2 : k = 0 ∨ ¬ Jn s (out.getD (k - 1) []) < 0) :
    ((out.take k ++ [s]) ++ out.drop k).Pairwise fun x9 y9 => ltOf Jn y9 x9 = false := by
  have hle : ∀ x ∈ out.take k, ltOf Jn s x = false := by
    intro x hx
    obtain ⟨j, hj, rfl⟩ := List.mem_iff_getElem.1 hx
    have hj' : j < k ∧ j < out.length := by rw [List.length_take] at hj; omega
    rcases h2 with h2 | h2
    · omega
    have hs : ltOf Jn s (out.getD (k - 1) []) = false := decide_eq_false h2
    by_cases e : j = k - 1
    · subst e; rw [JG (by omega)] at hs; simpa using hs
    have := List.pairwise_iff_getElem.1 ho j (k - 1) (by omega) (by omega) (by omega)
    rw [JG (by omega)] at hs
    simpa using Jc9.ntrans _ _ _ hs this
  have hgt : ∀ y ∈ out.drop k, ltOf Jn y s = false := by
    intro y hy
    obtain ⟨j, hj, rfl⟩ := List.mem_iff_getElem.1 hy
    have hj' : k + j < out.length := by rw [List.length_drop] at hj; omega
    have := h1 (k + j) (by omega) hj'
    rw [JG hj'] at this
    rw [List.getElem_drop]
    refine decide_eq_false fun h => ?_
    have := J57.1 h
    omega
  refine List.pairwise_append.2 ⟨List.pairwise_append.2 ⟨ho.sublist (List.take_sublist _ _), by simp, fun a ha b hb => ?_⟩, ho.sublist (List.drop_sublist _ _), fun a ha b hb => ?_⟩
  · have : b = s := by simpa using hb
    subst this; exact hle a ha
  rcases List.mem_append.1 ha with ha | ha
  · obtain ⟨i, hi, rfl⟩ := List.mem_iff_getElem.1 ha
    obtain ⟨j, hj, rfl⟩ := List.mem_iff_getElem.1 hb
    have hi' : i < k ∧ i < out.length := by rw [List.length_take] at hi; omega
    have hj' : k + j < out.length := by rw [List.length_drop] at hj; omega
    have := List.pairwise_iff_getElem.1 ho i (k + j) hi'.2 hj' (by omega)
    simpa using this
  · have : a = s := by simpa using ha
    subst this; exact hgt b hb
theorem JbY {out : ZR} {s : ZI} {n m k : Nat} (hp : out.Perm (J30 n m)) (hs : s = lst n (m + 1)) : ((out.take k ++ [s]) ++ out.drop k).Perm (J30 n (m + 1)) := by
  rw [J8l, ← hs, List.append_assoc]
  refine List.Perm.trans (List.perm_append_comm_assoc _ _ _) ?_
  refine List.Perm.trans ?_ (List.perm_append_comm)
  rw [List.take_append_drop]
  exact hp.append_left [s]
theorem Jbn {out : ZR} {n m : Nat} (hp : out.Perm (J30 n m)) (hm : m = 2 ^ n - 1) (ho : out.Pairwise fun x9 y9 => ltOf Jn y9 x9 = false) : out = J7 n := by
  subst hm
  exact sortedBy_unique Jc9 Jcy hp ho
abbrev J1p (xs : ZI) (i : Int) : Prop := (0 ≤ i) ∧ (i ≤ (xs.length : Int)) ∧ (orI xs = orI (xs.drop i.toNat))
abbrev J1o (xs : ZI) (i : Int) : Nat := (xs.length - i).toNat
def J90 (f : FuncId) (ds : List D) : Orc := .no
def J8W (xs : ZI) : Ann := .two (.none) (.two (.none) (.two (.two (.none) (.loop (cut1 (fun (i : Int) => J1p xs i) (fun (i : Int) => [(3, .d true (.int .i64 0)), (6, .d false (.sl (.ints xs))), (7, .d true (.int .i64 (xs.length : Int))), (8, .d true (.int .i64 i))]) (fun (i : Int) => [])) (fun g => J1o xs g) (fun _ => .none))) (.none)))
def J4y (xs : ZI) : Prop :=
  ((∃ i' : Int, (J1p xs i') ∧ ((0 : Int) = 0) ∧ (xs = xs) ∧ ((xs.length : Int) = (xs.length : Int)) ∧ ((0 : Int) = i')) ∧ (∀ i : Int, (J1p xs i) → (((decide (i < (xs.length : Int))) = true → ((0 : Int) ≤ i) ∧ ((i : Int) < xs.length) ∧ (i.toNat < xs.length) ∧ ((((xs.getD i.toNat 0) != 0) = true → (((xs.getD i.toNat 0) = (orI xs)))) ∧ (((xs.getD i.toNat 0) != 0) = false → (I6 (i + 1)) ∧ (∃ i' : Int, (J1p xs i') ∧ (J1o xs i' < J1o xs i) ∧ ((0 : Int) = 0) ∧ (xs = xs) ∧ ((xs.length : Int) = (xs.length : Int)) ∧ ((i + 1) = i'))))) ∧ ((decide (i < (xs.length : Int))) = false → (((0 : Int) = (orI xs)))))))
theorem J7J (xs : ZI)  (w_xs : (xs.length : Int) ≤ 9223372036854775807) : J4y xs := by
  unfold J4y
  refine ⟨?_, ?_⟩
  ·refine ⟨0, ?_⟩
   refine ⟨?_, rfl, rfl, rfl, rfl⟩
   ·refine ⟨?_, ?_, ?_⟩
    ·omega
    ·omega
    ·rfl
  intro i hJ
  obtain ⟨h1, h2, h3⟩ := hJ
  refine ⟨?_, ?_⟩
  ·intro b1
   try simp only [nrmT] at b1
   refine ⟨?_, ?_, ?_, ?_, ?_⟩
   ·omega
   ·omega
   ·omega
   ·intro b2
    try simp only [nrmT] at b2
    rw [J9l h3 (by omega), if_neg (by omega)]
   intro b3
   try simp only [nrmT] at b3
   refine ⟨?_, ?_⟩
   ·omega
   refine ⟨(i + 1), ?_⟩
   refine ⟨?_, ?_, rfl, rfl, rfl, rfl⟩
   ·refine ⟨?_, ?_, ?_⟩
    ·omega
    ·omega
    ·rw [J9l h3 (by omega), if_pos (by omega), show (i + 1).toNat = i.toNat + 1 by omega]
   (simp only [J1o]; omega)
  intro b4
  try simp only [nrmT] at b4
  exact (Jce h3 (by omega)).symm
theorem J7H (xs : ZI)  : PC Tryz.prog 231 [.sl (.ints xs)] (.one (.d (.int .i64 (orI xs)))) :=
  pc_wf @Tryz.call231 fun hw => pc_by (by kernel_rfl) Tryz.func231 @Tryz.call231 (by kernel_rfl) J90 (J8W xs) (by kernel_rfl) (J7J xs hw.1) (by kernel_rfl)
def J7w : List D → Orc := orcN [some .ints] fun ds => match ds with
  | [.sl (.ints xs)] => some (.one (.d (.int .i64 (orI xs))))
  | _ => none
def J76 (f : FuncId) (ds : List D) : Orc := bif Nat.beq f 216 then J2K ds else bif Nat.beq f 198 then J3h ds else bif Nat.beq f 231 then J7w ds else .no
def J7b (xs : ZI) (ys : ZI) : Ann := .none
def J3X (xs : ZI) (ys : ZI) : Prop :=
  (PC Tryz.prog 216 [.int .i64 (xs.length : Int), .int .i64 (ys.length : Int)] (.one (.d (.int .i64 (J0D (xs.length : Int) (ys.length : Int)))))) ∧ (PC Tryz.prog 198 [.sl (.ints xs), .sl (.ints ys)] (.one (.d (.int .i64 (Jj xs ys))))) ∧ ((2 : Nat) = 2) ∧ (PC Tryz.prog 231 [.sl (.ints ([(J0D (xs.length : Int) (ys.length : Int)), (Jj xs ys)]))] (.one (.d (.int .i64 (orI ([(J0D (xs.length : Int) (ys.length : Int)), (Jj xs ys)])))))) ∧ (((orI ([(J0D (xs.length : Int) (ys.length : Int)), (Jj xs ys)])) = (Jn xs ys)))
theorem J6s (xs : ZI) (ys : ZI)  (w_xs : (xs.length : Int) ≤ 9223372036854775807) (w_ys : (ys.length : Int) ≤ 9223372036854775807) : J3X xs ys := by
  unfold J3X
  refine ⟨J2V (xs.length : Int) (ys.length : Int), J3o xs ys, rfl, J7H ([(J0D (xs.length : Int) (ys.length : Int)), (Jj xs ys)]), ?_⟩
  ·rw [Jcg]; rfl
theorem J6V (xs : ZI) (ys : ZI)  : PC Tryz.prog 205 [.sl (.ints xs), .sl (.ints ys)] (.one (.d (.int .i64 (Jn xs ys)))) :=
  pc_wf @Tryz.call205 fun hw => pc_by (by kernel_rfl) Tryz.func205 @Tryz.call205 (by kernel_rfl) J76 (J7b xs ys) (by kernel_rfl) (J6s xs ys hw.1 hw.2.1) (by kernel_rfl)
abbrev J1P (xs : ZI) (ys : ZI) (i : Int) : Prop := (0 ≤ i) ∧ (i ≤ (xs.length : Int)) ∧ (xs.length = ys.length) ∧ (Jj xs ys = Jj (xs.drop i.toNat) (ys.drop i.toNat))
abbrev J1I (xs : ZI) (ys : ZI) (i : Int) : Nat := (xs.length - i).toNat
def J9n (f : FuncId) (ds : List D) : Orc := .no
def J9C (xs : ZI) (ys : ZI) : Ann := .two (.none) (.two (.none) (.two (.two (.none) (.loop (cut1 (fun (i : Int) => J1P xs ys i) (fun (i : Int) => [(0, .d false (.sl (.ints xs))), (1, .d false (.sl (.ints ys))), (5, .d true (.int .i64 i))]) (fun (i : Int) => [])) (fun g => J1I xs ys g) (fun _ => .none))) (.none)))
def J4P (xs : ZI) (ys : ZI) : Prop :=
  ((((xs.length : Int) != (ys.length : Int)) = true → (((decide ((xs.length : Int) < (ys.length : Int))) = (decide (Jn xs ys < 0))))) ∧ (((xs.length : Int) != (ys.length : Int)) = false → ((∃ i' : Int, (J1P xs ys i') ∧ (xs = xs) ∧ (ys = ys) ∧ ((0 : Int) = i')) ∧ (∀ i : Int, (J1P xs ys i) → (((decide (i < (xs.length : Int))) = true → (true = true) ∧ ((0 : Int) ≤ i) ∧ ((i : Int) < xs.length) ∧ (i.toNat < xs.length) ∧ ((0 : Int) ≤ i) ∧ ((i : Int) < ys.length) ∧ (i.toNat < ys.length) ∧ ((((xs.getD i.toNat 0) != (ys.getD i.toNat 0)) = true → (true = true) ∧ ((0 : Int) ≤ i) ∧ ((i : Int) < xs.length) ∧ (i.toNat < xs.length) ∧ ((0 : Int) ≤ i) ∧ ((i : Int) < ys.length) ∧ (i.toNat < ys.length) ∧ (((decide ((xs.getD i.toNat 0) < (ys.getD i.toNat 0))) = (decide (Jn xs ys < 0))))) ∧ (((xs.getD i.toNat 0) != (ys.getD i.toNat 0)) = false → (I6 (i + 1)) ∧ (∃ i' : Int, (J1P xs ys i') ∧ (J1I xs ys i' < J1I xs ys i) ∧ (xs = xs) ∧ (ys = ys) ∧ ((i + 1) = i'))))) ∧ ((decide (i < (xs.length : Int))) = false → ((false = (decide (Jn xs ys < 0))))))))))
theorem J8S (xs : ZI) (ys : ZI)  (w_xs : (xs.length : Int) ≤ 9223372036854775807) (w_ys : (ys.length : Int) ≤ 9223372036854775807) : J4P xs ys := by
  unfold J4P
  refine ⟨?_, ?_⟩
  ·intro b1
   try simp only [nrmT] at b1
   rcases JY xs ys with h | h | h
   · rw [decide_eq_true h.2, decide_eq_true (by omega)]
   · rw [decide_eq_false (by omega), decide_eq_false (by omega)]
   omega
  intro b2
  try simp only [nrmT] at b2
  refine ⟨?_, ?_⟩
  ·refine ⟨0, ?_⟩
   refine ⟨?_, rfl, rfl, rfl⟩
   ·refine ⟨?_, ?_, ?_, ?_⟩
    ·omega
    ·omega
    ·omega
    ·rfl
  intro i hJ
  obtain ⟨h1, h2, hl, h3⟩ := hJ
  refine ⟨?_, ?_⟩
  ·intro b3
   try simp only [nrmT] at b3
   refine ⟨rfl, ?_, ?_, ?_, ?_, ?_, ?_, ?_, ?_⟩
   ·omega
   ·omega
   ·omega
   ·omega
   ·omega
   ·omega
   ·intro b4
    try simp only [nrmT] at b4
    refine ⟨rfl, ?_, ?_, ?_, ?_, ?_, ?_, ?_⟩
    ·omega
    ·omega
    ·omega
    ·omega
    ·omega
    ·omega
    have h5 : Jn xs ys = Jj xs ys := by rcases JY xs ys with h | h | h <;> first | omega | exact h.2
    rw [h5, J43 h3 (by omega) (by omega)]
    by_cases h6 : xs.getD i.toNat 0 < ys.getD i.toNat 0
    · rw [if_pos h6, decide_eq_true h6]; rfl
    rw [if_neg h6, if_pos (by omega), decide_eq_false h6]; rfl
   intro b5
   try simp only [nrmT] at b5
   refine ⟨?_, ?_⟩
   ·omega
   refine ⟨(i + 1), ?_⟩
   refine ⟨?_, ?_, rfl, rfl, rfl⟩
   ·refine ⟨?_, ?_, ?_, ?_⟩
    ·omega
    ·omega
    ·exact hl
    ·rw [J43 h3 (by omega) (by omega), show (i + 1).toNat = i.toNat + 1 by omega, if_neg (by omega), if_neg (by omega)]
   (simp only [J1I]; omega)
  intro b6
  try simp only [nrmT] at b6
  have h5 : Jn xs ys = Jj xs ys := by rcases JY xs ys with h | h | h <;> first | omega | exact h.2
  rw [h5, J6P h3 (by omega) (by omega) (by omega), if_neg (by omega)]; rfl
theorem J8Y (xs : ZI) (ys : ZI)  : PC Tryz.prog 211 [.sl (.ints xs), .sl (.ints ys)] (.one (.d (.bool (decide (Jn xs ys < 0))))) :=
  pc_wf @Tryz.call211 fun hw => pc_by (by kernel_rfl) Tryz.func211 @Tryz.call211 (by kernel_rfl) J9n (J9C xs ys) (by kernel_rfl) (J8S xs ys hw.1 hw.2.1) (by kernel_rfl)
def J7O : List D → Orc := orcN [some .ints, some .ints] fun ds => match ds with
  | [.sl (.ints xs), .sl (.ints ys)] => some (.one (.d (.bool (decide (Jn xs ys < 0)))))
  | _ => none
theorem J2x (xss : ZR) (hz : xss.length < 4611686018427387904) : PU Tryz.prog 204 24 (.rows xss) (.rows (xss.mergeSort (fun x9 y9 => !(ltOf Jn) y9 x9))) [.fn 205 0 []] false :=
  pu_sortFunc Tryz.laySortRows 24 xss (fun x => .sl (.ints x)) Jn Jc9 Jcy 205 (fun x _ y _ => J6V x y) _ _ rfl rfl rfl (List.length_mergeSort _) (fun _ => rfl) (fun i x h => by simp [Mem.get, h]) (fun i x h => by simp [Mem.get, h]) hz @Tryz.call205
abbrev J0q (b : Int) (out : ZI) (x : Int) : Prop := (0 ≤ x) ∧ (x ≤ 62) ∧ (out = members (fun k => b.toNat.testBit k) x.toNat)
abbrev JN (b : Int) (out : ZI) (x : Int) : Nat := (62 - x).toNat
def J7L (f : FuncId) (ds : List D) : Orc := bif Nat.beq f 138 then J3j ds else .no
def J86 (b : Int) : Ann := .two (.none) (.two (.none) (.two (.two (.none) (.loop (cut2 (fun (out : ZI) (x : Int) => J0q b out x) (fun (out : ZI) (x : Int) => [(0, .d false (.int .u64 b)), (3, .own 1000000 out.length), (4, .d true (.int .i64 x))]) (fun (out : ZI) (x : Int) => [(1000000, .arr true 3 (.ints out))])) (fun g => JN b g.1 g.2) (fun _ => .none))) (.none)))
def J4h (b : Int) : Prop :=
  ((∃ out' : ZI, ∃ x' : Int, (J0q b out' x') ∧ (b = b) ∧ ((0 : Nat) = out'.length) ∧ ((0 : Int) = x') ∧ ([] = out')) ∧ (∀ out : ZI, ∀ x : Int, (J0q b out x) → ((0 : Int) ≤ b ∧ (b : Int) ≤ 18446744073709551615) ∧ ((0 : Int) ≤ x) ∧ (((decide ((b / 2 ^ x.toNat) > 0)) = true → (PC Tryz.prog 138 [.int .u64 b, .int .i64 x] (.one (.d (.bool (b.toNat.testBit x.toNat))))) ∧ (((b.toNat.testBit x.toNat) = true → (out.length = out.length) ∧ ((1 : Nat) = 1) ∧ ((out.length + 1) * 8 ≤ 140737488355328) ∧ (I6 (x + 1)) ∧ (∃ out' : ZI, ∃ x' : Int, (J0q b out' x') ∧ (JN b out' x' < JN b out x) ∧ (b = b) ∧ ((out.length + 1) = out'.length) ∧ ((x + 1) = x') ∧ ((out ++ [x]) = out'))) ∧ ((b.toNat.testBit x.toNat) = false → (I6 (x + 1)) ∧ (∃ out' : ZI, ∃ x' : Int, (J0q b out' x') ∧ (JN b out' x' < JN b out x) ∧ (b = b) ∧ (out.length = out'.length) ∧ ((x + 1) = x') ∧ (out = out'))))) ∧ ((decide ((b / 2 ^ x.toNat) > 0)) = false → ((out.length = out.length) ∧ ((out : ZI) = (members (fun k => b.toNat.testBit k) 62)))))))
theorem J7y (b : Int) (hb : 0 ≤ b ∧ b ≤ 4611686018427387903)  : J4h b := by
  unfold J4h
  refine ⟨?_, ?_⟩
  ·refine ⟨([]), 0, ?_⟩
   refine ⟨?_, rfl, rfl, rfl, ?_⟩
   ·refine ⟨?_, ?_, ?_⟩
    ·omega
    ·omega
    ·rfl
   rfl
  intro out x hJ
  obtain ⟨h1, h2, h3⟩ := hJ
  refine ⟨?_, ?_, ?_, ?_⟩
  ·omega
  ·omega
  ·intro b1
   try simp only [nrmT] at b1
   refine ⟨?_, ?_, ?_⟩
   ·refine J3V b x ?_ ?_
    ·omega
    ·omega
   ·intro b2
    try simp only [nrmT] at b2
    refine ⟨rfl, rfl, ?_, ?_, ?_⟩
    ·rw [h3]; have := members_len_le (fun k => b.toNat.testBit k) x.toNat; omega
    ·omega
    refine ⟨(out ++ [x]), (x + 1), ?_⟩
    refine ⟨?_, ?_, rfl, ?_, rfl, rfl⟩
    ·refine ⟨?_, ?_, ?_⟩
     ·omega
     ·have := J4Q hb h2 b1; omega
     ·rw [h3, show (x + 1).toNat = x.toNat + 1 by omega, members_succ, b2]; simp; try omega
    ·have := J4Q hb h2 b1
     (simp only [JN]; omega)
    (simp_all; done)
   intro b3
   try simp only [nrmT] at b3
   refine ⟨?_, ?_⟩
   ·omega
   refine ⟨out, (x + 1), ?_⟩
   refine ⟨?_, ?_, rfl, rfl, rfl, rfl⟩
   ·refine ⟨?_, ?_, ?_⟩
    ·omega
    ·have := J4Q hb h2 b1; omega
    ·rw [h3, show (x + 1).toNat = x.toNat + 1 by omega, members_succ, b3]; simp; try omega
   have := J4Q hb h2 b1
   (simp only [JN]; omega)
  intro b4
  try simp only [nrmT] at b4
  refine ⟨rfl, ?_⟩
  ·rw [h3]; refine (J1w (fun k hk => Jau hb.1 (m := x.toNat) (by omega) k hk) 62 (by omega)).symm
theorem J0H (b : Int) (hb : 0 ≤ b ∧ b ≤ 4611686018427387903) : PC Tryz.prog 139 [.int .u64 b] (.one (.d (.sl (.ints (members (fun k => b.toNat.testBit k) 62))))) :=
  pc_wf @Tryz.call139 fun _ => pc_by (by kernel_rfl) Tryz.func139 @Tryz.call139 (by kernel_rfl) J7L (J86 b) (by kernel_rfl) (J7y b hb) (by kernel_rfl)
abbrev J3y (n : Int) (out : ZR) (b : Int) : Prop := (1 ≤ b) ∧ (b ≤ ((2 ^ n.toNat : Nat) : Int)) ∧ (out = J30 n.toNat (b.toNat - 1))
abbrev J3C (n : Int) (out : ZR) (b : Int) : Nat := (((2 ^ n.toNat : Nat) : Int) - b).toNat
abbrev J3v (n : Int) (out2 : ZR) : Prop := (out2 = J30 n.toNat (2 ^ n.toNat - 1))
def JbR (f : FuncId) (ds : List D) : Orc := .no
def JbT (n : Int) : Ann := .two (.none) (.two (.none) (.cut (.two (.none) (.loop (cut2 (fun (out : ZR) (b : Int) => J3y n out b) (fun (out : ZR) (b : Int) => [(0, .d false (.int .i64 n)), (3, .own 1000000 out.length), (4, .d true (.int .u64 b))]) (fun (out : ZR) (b : Int) => [(1000000, .arr true 24 (.rows out))])) (fun g => J3C n g.1 g.2) (fun g => (fun (out : ZR) (b : Int) => .two (.none) (.two (.reg [(2, .call none (.one (.d (.sl (.ints (members (fun k => b.toNat.testBit k) 62))))))]) (.none))) (g.1) (g.2)))) (cut1 (fun (out2 : ZR) => J3v n out2) (fun (out2 : ZR) => [(3, .own 1000050 out2.length)]) (fun (out2 : ZR) => [(1000050, .arr true 24 (.rows out2))])) (fun g => (fun (out2 : ZR) => .two (.mark [] [(1, .up (.rows (out2.mergeSort (fun x9 y9 => !(ltOf Jn) y9 x9))) false)]) (.none)) g)))
def J9E (n : Int) : Prop :=
  ((((∃ out' : ZR, ∃ b' : Int, (J3y n out' b') ∧ (n = n) ∧ ((0 : Nat) = out'.length) ∧ ((1 : Int) = b') ∧ ([] = out')) ∧ (∀ out : ZR, ∀ b : Int, (J3y n out b) → ((0 : Int) ≤ 1) ∧ ((0 : Int) ≤ n) ∧ ((0 : Int) ≤ ((1 : Int) * 2 ^ n.toNat) ∧ (((1 : Int) * 2 ^ n.toNat) : Int) ≤ 18446744073709551615) ∧ (((decide (b < ((1 : Int) * 2 ^ n.toNat))) = true → (PC Tryz.prog 139 [.int .u64 b] (.one (.d (.sl (.ints (members (fun k => b.toNat.testBit k) 62)))))) ∧ (out.length = out.length) ∧ ((1 : Nat) = 1) ∧ ((out.length + 1) * 24 ≤ 140737488355328) ∧ (0 ≤ (b + 1) ∧ (b + 1) ≤ 18446744073709551615) ∧ (∃ out' : ZR, ∃ b' : Int, (J3y n out' b') ∧ (J3C n out' b' < J3C n out b) ∧ (n = n) ∧ ((out.length + 1) = out'.length) ∧ ((b + 1) = b') ∧ ((out ++ [(members (fun k => b.toNat.testBit k) 62)]) = out'))) ∧ ((decide (b < ((1 : Int) * 2 ^ n.toNat))) = false → (∃ out2' : ZR, (J3v n out2') ∧ (out.length = out2'.length) ∧ (out = out2'))))))) ∧ (∀ out2 : ZR, (J3v n out2) → (out2.length = out2.length) ∧ (PU Tryz.prog 204 24 (.rows out2) (.rows (out2.mergeSort (fun x9 y9 => !(ltOf Jn) y9 x9))) [.fn 205 0 []] false) ∧ ((out2.length = (out2.mergeSort (fun x9 y9 => !(ltOf Jn) y9 x9)).length) ∧ (((out2.mergeSort (fun x9 y9 => !(ltOf Jn) y9 x9)) : ZR) = J7 n.toNat))))
theorem JbF (n : Int) (hn : 0 ≤ n ∧ n ≤ 8)  : J9E n := by
  unfold J9E
  have p7 := Jcz (n := n.toNat) (by omega)
  have pp := Nat.two_pow_pos n.toNat
  have e0 := J1J n.toNat
  have e1 : ((2 : Int) ^ n.toNat) = ((2 ^ n.toNat : Nat) : Int) := by simp
  refine ⟨?_, ?_⟩
  ·refine ⟨?_, ?_⟩
   ·refine ⟨([]), 1, ?_⟩
    refine ⟨?_, rfl, rfl, rfl, ?_⟩
    ·refine ⟨?_, ?_, ?_⟩
     ·omega
     ·generalize 2 ^ n.toNat = M at *
      omega
     ·rfl
    rfl
   ·intro out b hJ
    obtain ⟨h1, h2, h3⟩ := hJ
    refine ⟨?_, ?_, ?_, ?_, ?_⟩
    ·omega
    ·omega
    ·rw [Int.one_mul, e1]
     generalize 2 ^ n.toNat = M at *
     omega
    ·intro b1
     try simp only [nrmT] at b1
     refine ⟨?_, rfl, rfl, ?_, ?_, ?_⟩
     ·refine J0H b ?_
      ·rw [Int.one_mul, e1] at b1
       generalize 2 ^ n.toNat = M at *
       omega
     ·rw [Int.one_mul, e1] at b1
      rw [h3, J0U]
      generalize 2 ^ n.toNat = M at *
      omega
     ·rw [Int.one_mul, e1] at b1
      generalize 2 ^ n.toNat = M at *
      omega
     refine ⟨(out ++ [(members (fun k => b.toNat.testBit k) 62)]), (b + 1), ?_⟩
     refine ⟨?_, ?_, rfl, ?_, rfl, rfl⟩
     ·refine ⟨?_, ?_, ?_⟩
      ·omega
      ·rw [Int.one_mul, e1] at b1
       generalize 2 ^ n.toNat = M at *
       omega
      ·rw [Int.one_mul, e1] at b1
       have hb : b.toNat < 2 ^ n.toNat := by
         generalize 2 ^ n.toNat = M at *
         omega
       rw [h3, show (b + 1).toNat - 1 = (b.toNat - 1) + 1 by omega, J8l, show b.toNat - 1 + 1 = b.toNat by omega, Jcw (n := n.toNat) (by omega) hb]
     ·rw [Int.one_mul, e1] at b1
      (simp only [J3C]; omega)
     first | omega | rfl | (intro hg; simp only [nrmT] at hg; omega) | (intro g1 g2; simp [g1, g2]; done) | (intro g1; simp at g1 ⊢; simp [g1]; done) | (simp only [nrmT] at *; omega) | (simp at * <;> omega) | (simp_all <;> omega) | (simp_all; done)
    intro b2
    try simp only [nrmT] at b2
    refine ⟨out, ?_⟩
    refine ⟨?_, rfl, rfl⟩
    ·unfold J3v
     rw [Int.one_mul, e1] at b2
     have hm : b.toNat - 1 = 2 ^ n.toNat - 1 := by
       generalize 2 ^ n.toNat = M at *
       omega
     rw [h3, hm]
  intro out2 hJ
  have h8 := hJ
  refine ⟨rfl, ?_, ?_, ?_⟩
  ·refine J2x out2 ?_
   ·rw [h8, J0U]
    generalize 2 ^ n.toNat = M at *
    omega
  ·simp
  rw [h8]; rfl
theorem Jbt (n : Int) (hn : 0 ≤ n ∧ n ≤ 8) : PC Tryz.prog 115 [.int .i64 n] (.one (.own 24 (.rows (J7 n.toNat)))) :=
  pc_wf @Tryz.call115 fun _ => pc_by (by kernel_rfl) Tryz.func115 @Tryz.call115 (by kernel_rfl) JbR (JbT n) (by kernel_rfl) (JbF n hn) (by kernel_rfl)
def JaP : List D → Orc := orcN [none] fun ds => match ds with
  | [.int .i64 n] => some (.one (.own 24 (.rows (J7 n.toNat))))
  | _ => none
abbrev J2B (n : Int) (out : ZR) (code : Int) : Prop := (1 ≤ code) ∧ (code ≤ ((2 ^ n.toNat : Nat) : Int)) ∧ (out.Perm (J30 n.toNat (code.toNat - 1))) ∧ (out.Pairwise (fun x9 y9 => ltOf Jn y9 x9 = false))
abbrev J2A (n : Int) (out : ZR) (code : Int) : Nat := (((2 ^ n.toNat : Nat) : Int) - code).toNat
abbrev J2G (n : Int) (out : ZR) (code : Int) (k : Int) : Prop := (0 ≤ k) ∧ (k ≤ (out.length : Int)) ∧ (∀ j, k.toNat ≤ j → j < out.length → Jn (lst n.toNat code.toNat) (out.getD j []) < 0)
abbrev J2Q (n : Int) (out : ZR) (code : Int) (k : Int) : Nat := k.toNat
def JaZ (f : FuncId) (ds : List D) : Orc := bif Nat.beq f 142 then J9W ds else bif Nat.beq f 211 then J7O ds else .no
def JaF (n : Int) : Ann := .two (.none) (.two (.reg [(0, .frz)]) (.two (.two (.none) (.loop (cut2 (fun (out : ZR) (code : Int) => J2B n out code) (fun (out : ZR) (code : Int) => [(0, .d false (.int .i64 n)), (3, .d true (.sl (.rows out))), (4, .d true (.int .i64 code))]) (fun (out : ZR) (code : Int) => [])) (fun g => J2A n g.1 g.2) (fun g => (fun (out : ZR) (code : Int) => .two (.none) (.two (.two (.none) (.two (.loop (cut1 (fun (k : Int) => J2G n out code k) (fun (k : Int) => [(0, .d false (.int .i64 n)), (3, .d true (.sl (.rows out))), (4, .d true (.int .i64 code)), (5, .d true (.sl (.ints (members (fun k => code.toNat.testBit k) n.toNat)))), (6, .d true (.int .i64 k))]) (fun (k : Int) => [])) (fun g => J2Q n out code g) (fun _ => .none)) (.none))) (.none))) (g.1) (g.2)))) (.none)))
def J72 (n : Int) : Prop :=
  ((∃ out' : ZR, ∃ code' : Int, (J2B n out' code') ∧ (n = n) ∧ ([] = out') ∧ ((1 : Int) = code')) ∧ (∀ out : ZR, ∀ code : Int, (J2B n out code) → ((0 : Int) ≤ 1) ∧ ((0 : Int) ≤ n) ∧ ((0 : Int) ≤ ((1 : Int) * 2 ^ n.toNat) ∧ (((1 : Int) * 2 ^ n.toNat) : Int) ≤ 9223372036854775807) ∧ (((decide (code < ((1 : Int) * 2 ^ n.toNat))) = true → (PC Tryz.prog 142 [.int .i64 n, .int .i64 code] (.one (.d (.sl (.ints (members (fun k => code.toNat.testBit k) n.toNat)))))) ∧ ((∃ k' : Int, (J2G n out code k') ∧ (n = n) ∧ (out = out) ∧ (code = code) ∧ ((members (fun k => code.toNat.testBit k) n.toNat) = (members (fun k => code.toNat.testBit k) n.toNat)) ∧ ((out.length : Int) = k')) ∧ (∀ k : Int, (J2G n out code k) → ((decide (k > 0)) = true → (decide (k > 0)) = true) ∧ (((decide (k > 0)) = true → I6 (k - 1))) ∧ ((decide (k > 0)) = true → (decide (k > 0)) = true) ∧ ((decide (k > 0)) = true → (decide (k > 0)) = true) ∧ (((decide (k > 0)) = true → (0 : Int) ≤ (k - 1))) ∧ (((decide (k > 0)) = true → ((k - 1) : Int) < out.length)) ∧ ((decide (k > 0)) = true → (decide (k > 0)) = true) ∧ (((decide (k > 0)) = true → (k - 1).toNat < out.length)) ∧ ((decide (k > 0)) = true → (decide (k > 0)) = true) ∧ ((decide (k > 0)) = true → (decide (k > 0)) = true) ∧ ((decide (k > 0)) = true → PC Tryz.prog 211 [.sl (.ints (members (fun k => code.toNat.testBit k) n.toNat)), .sl (.ints (out.getD ((k - 1).toNat) []))] (.one (.d (.bool (decide (Jn (members (fun k => code.toNat.testBit k) n.toNat) (out.getD ((k - 1).toNat) []) < 0)))))) ∧ (true = true) ∧ (((decide (k > 0)) = true → (decide (k > 0)) = true)) ∧ (((decide (k > 0)) = false → true = true)) ∧ (((cond (decide (k > 0)) (decide (Jn (members (fun k => code.toNat.testBit k) n.toNat) (out.getD ((k - 1).toNat) []) < 0)) false) = true → (I6 (k - 1)) ∧ (∃ k' : Int, (J2G n out code k') ∧ (J2Q n out code k' < J2Q n out code k) ∧ (n = n) ∧ (out = out) ∧ (code = code) ∧ ((members (fun k => code.toNat.testBit k) n.toNat) = (members (fun k => code.toNat.testBit k) n.toNat)) ∧ ((k - 1) = k'))) ∧ ((cond (decide (k > 0)) (decide (Jn (members (fun k => code.toNat.testBit k) n.toNat) (out.getD ((k - 1).toNat) []) < 0)) false) = false → (true = true) ∧ ((0 : Int) ≤ k) ∧ ((k : Int) ≤ out.length) ∧ ((0 : Nat) = 0) ∧ (True) ∧ ((0 + ((out.take k.toNat).drop 0).length) * 24 ≤ 140737488355328) ∧ ((0 + ((out.take k.toNat).drop 0).length) = ([] ++ ((out.take k.toNat).drop 0)).length) ∧ ((1 : Nat) = 1) ∧ ((([] ++ ((out.take k.toNat).drop 0)).length + 1) * 24 ≤ 140737488355328) ∧ ((0 : Int) ≤ k) ∧ ((k : Int) ≤ out.length) ∧ (((0 + ((out.take k.toNat).drop 0).length) + 1) = (([] ++ ((out.take k.toNat).drop 0)) ++ [(members (fun k => code.toNat.testBit k) n.toNat)]).length) ∧ (True) ∧ (((([] ++ ((out.take k.toNat).drop 0)) ++ [(members (fun k => code.toNat.testBit k) n.toNat)]).length + ((out.take out.length).drop k.toNat).length) * 24 ≤ 140737488355328) ∧ (I6 (code + 1)) ∧ (∃ out' : ZR, ∃ code' : Int, (J2B n out' code') ∧ (J2A n out' code' < J2A n out code) ∧ (n = n) ∧ ((((0 + ((out.take k.toNat).drop 0).length) + 1) + ((out.take out.length).drop k.toNat).length) = ((([] ++ ((out.take k.toNat).drop 0)) ++ [(members (fun k => code.toNat.testBit k) n.toNat)]) ++ ((out.take out.length).drop k.toNat)).length) ∧ (((([] ++ ((out.take k.toNat).drop 0)) ++ [(members (fun k => code.toNat.testBit k) n.toNat)]) ++ ((out.take out.length).drop k.toNat)) = out') ∧ ((code + 1) = code'))))))) ∧ ((decide (code < ((1 : Int) * 2 ^ n.toNat))) = false → (((out : ZR) = (J7 n.toNat)))))))
theorem Ja8 (n : Int) (hn : 0 ≤ n ∧ n ≤ 8)  : J72 n := by
  unfold J72
  have p7 := Jcz (n := n.toNat) (by omega)
  have pp := Nat.two_pow_pos n.toNat
  have e0 := J1J n.toNat
  have e1 : ((2 : Int) ^ n.toNat) = ((2 ^ n.toNat : Nat) : Int) := by simp
  refine ⟨?_, ?_⟩
  ·refine ⟨([]), 1, ?_⟩
   refine ⟨?_, rfl, ?_, rfl⟩
   ·refine ⟨?_, ?_, ?_, ?_⟩
    ·omega
    ·generalize 2 ^ n.toNat = M at *
     omega
    ·exact List.Perm.refl _
    ·exact List.Pairwise.nil
   rfl
  intro out code hJ
  obtain ⟨h1, h2, h3, h4⟩ := hJ
  refine ⟨?_, ?_, ?_, ?_, ?_⟩
  ·omega
  ·omega
  ·rw [Int.one_mul, e1]
   generalize 2 ^ n.toNat = M at *
   omega
  ·intro b1
   try simp only [nrmT] at b1
   refine ⟨?_, ?_, ?_⟩
   ·refine Ja1 n code ?_ ?_
    ·omega
    ·rw [Int.one_mul, e1] at b1
     generalize 2 ^ n.toNat = M at *
     omega
   ·refine ⟨(out.length : Int), ?_⟩
    refine ⟨?_, rfl, rfl, rfl, rfl, rfl⟩
    ·refine ⟨?_, ?_, ?_⟩
     ·omega
     ·omega
     ·intro j h8 h9; omega
   intro k hJ
   obtain ⟨h5, h6, h7⟩ := hJ
   refine ⟨id, ?_, id, id, ?_, ?_, id, ?_, id, id, fun _ => J8Y (members (fun k => code.toNat.testBit k) n.toNat) (out.getD ((k - 1).toNat) []), rfl, id, fun _ => rfl, ?_, ?_⟩
   ·have ol := h3.length_eq
    rw [J0U] at ol
    rw [Int.one_mul, e1] at b1
    intro hg2
    have := of_decide_eq_true hg2
    generalize 2 ^ n.toNat = M at *
    omega
   ·(intro hg; simp only [nrmT] at hg; omega)
   ·omega
   ·(intro hg; simp only [nrmT] at hg; omega)
   ·intro b2
    refine ⟨?_, ?_⟩
    ·have ol := h3.length_eq
     rw [J0U] at ol
     rw [Int.one_mul, e1] at b1
     have hk : 0 < k := by
       revert b2
       by_cases h : k > 0
       · intro _; exact h
       rw [decide_eq_false h]; intro g; cases g
     generalize 2 ^ n.toNat = M at *
     omega
    refine ⟨(k - 1), ?_⟩
    refine ⟨?_, ?_, rfl, rfl, rfl, rfl, rfl⟩
    ·refine ⟨?_, ?_, ?_⟩
     ·have ol := h3.length_eq
      rw [J0U] at ol
      rw [Int.one_mul, e1] at b1
      have hk : 0 < k := by
        revert b2
        by_cases h : k > 0
        · intro _; exact h
        rw [decide_eq_false h]; intro g; cases g
      generalize 2 ^ n.toNat = M at *
      omega
     ·have ol := h3.length_eq
      rw [J0U] at ol
      rw [Int.one_mul, e1] at b1
      have hk : 0 < k := by
        revert b2
        by_cases h : k > 0
        · intro _; exact h
        rw [decide_eq_false h]; intro g; cases g
      generalize 2 ^ n.toNat = M at *
      omega
     ·intro j h8 h9
      have hk : 0 < k ∧ Jn (lst n.toNat code.toNat) (out.getD (k - 1).toNat []) < 0 := by
        revert b2
        by_cases h : k > 0
        · rw [decide_eq_true h]; intro g; exact ⟨h, of_decide_eq_true g⟩
        rw [decide_eq_false h]; intro g; cases g
      by_cases e : j = (k - 1).toNat
      · rw [e]; exact hk.2
      exact h7 j (by omega) h9
    have hk : 0 < k := by
      revert b2
      by_cases h : k > 0
      · intro _; exact h
      rw [decide_eq_false h]; intro g; cases g
    (simp only [J2Q]; omega)
   intro b3
   refine ⟨rfl, ?_, ?_, rfl, trivial, ?_, ?_, rfl, ?_, ?_, ?_, ?_, trivial, ?_, ?_, ?_⟩
   ·omega
   ·omega
   ·have ol := h3.length_eq
    rw [J0U] at ol
    rw [Int.one_mul, e1] at b1
    simp only [List.length_append, List.length_drop, List.length_take, List.length_cons, List.length_nil]
    generalize 2 ^ n.toNat = M at *
    omega
   ·simp only [List.length_append, List.length_cons, List.length_nil] <;> omega
   ·have ol := h3.length_eq
    rw [J0U] at ol
    rw [Int.one_mul, e1] at b1
    simp only [List.length_append, List.length_drop, List.length_take, List.length_cons, List.length_nil]
    generalize 2 ^ n.toNat = M at *
    omega
   ·omega
   ·omega
   ·first | omega | rfl | (intro hg; simp only [nrmT] at hg; omega) | (intro g1 g2; simp [g1, g2]; done) | (intro g1; simp at g1 ⊢; simp [g1]; done) | (simp only [nrmT] at *; omega) | (simp at * <;> omega) | (simp_all <;> omega) | (simp_all; done)
   ·have ol := h3.length_eq
    rw [J0U] at ol
    rw [Int.one_mul, e1] at b1
    simp only [List.length_append, List.length_drop, List.length_take, List.length_cons, List.length_nil]
    generalize 2 ^ n.toNat = M at *
    omega
   ·rw [Int.one_mul, e1] at b1
    generalize 2 ^ n.toNat = M at *
    omega
   refine ⟨((([] ++ ((out.take k.toNat).drop 0)) ++ [(members (fun k => code.toNat.testBit k) n.toNat)]) ++ ((out.take out.length).drop k.toNat)), (code + 1), ?_⟩
   refine ⟨?_, ?_, rfl, ?_, rfl, rfl⟩
   ·refine ⟨?_, ?_, ?_, ?_⟩
    ·omega
    ·rw [Int.one_mul, e1] at b1
     generalize 2 ^ n.toNat = M at *
     omega
    ·have hq : (((([] : ZR) ++ ((out.take k.toNat).drop 0)) ++ [(members (fun k => code.toNat.testBit k) n.toNat)]) ++ ((out.take out.length).drop k.toNat)) = (out.take k.toNat ++ [lst n.toNat code.toNat]) ++ out.drop k.toNat := by
       rw [List.nil_append, List.drop_zero, List.take_length]; rfl
     rw [hq, show (code + 1).toNat - 1 = (code.toNat - 1) + 1 by omega]
     exact JbY h3 (by rw [show code.toNat - 1 + 1 = code.toNat by omega])
    ·have hq : (((([] : ZR) ++ ((out.take k.toNat).drop 0)) ++ [(members (fun k => code.toNat.testBit k) n.toNat)]) ++ ((out.take out.length).drop k.toNat)) = (out.take k.toNat ++ [lst n.toNat code.toNat]) ++ out.drop k.toNat := by
       rw [List.nil_append, List.drop_zero, List.take_length]; rfl
     rw [hq]
     refine JaT h4 (by omega) h7 ?_
     by_cases e : k.toNat = 0
     · exact .inl e
     refine .inr fun h => ?_
     rw [decide_eq_true (show k > 0 by omega), decide_eq_true (by rw [show (k - 1).toNat = k.toNat - 1 by omega]; exact h)] at b3
     cases b3
   ·rw [Int.one_mul, e1] at b1
    (simp only [J2A]; omega)
   simp only [List.length_append, List.length_cons, List.length_nil] <;> omega
  intro b4
  try simp only [nrmT] at b4
  rw [Int.one_mul, e1] at b4
  exact Jbn h3 (by
    generalize 2 ^ n.toNat = M at *
    omega) h4
theorem Jai (n : Int) (hn : 0 ≤ n ∧ n ≤ 8) : PC Tryz.prog 148 [.int .i64 n] (.one (.d (.sl (.rows (J7 n.toNat))))) :=
  pc_wf @Tryz.call148 fun _ => pc_by (by kernel_rfl) Tryz.func148 @Tryz.call148 (by kernel_rfl) JaZ (JaF n) (by kernel_rfl) (Ja8 n hn) (by kernel_rfl)
def J9I : List D → Orc := orcN [none] fun ds => match ds with
  | [.int .i64 n] => some (.one (.d (.sl (.rows (J7 n.toNat)))))
  | _ => none
theorem J3e {l : ZI} {lo hi : Int} (ha : Asc l) (hb : ∀ x ∈ l, lo ≤ x ∧ x ≤ hi) : J5 l lo hi = true :=
  allTo_iff.2 fun k hk => by
    unfold J2t
    rw [Bool.and_eq_true, Bool.or_eq_true]
    refine ⟨decide_eq_true (hb _ (getD_mem hk)), ?_⟩
    by_cases e : k = 0
    · exact .inl (decide_eq_true e)
    right
    have := List.pairwise_iff_getElem.1 ha (k - 1) k (by omega) hk (by omega)
    rw [JG hk, JG (by omega)]
    exact decide_eq_true this
theorem Jcv {n c : Nat} : Asc (lst n c) := asc_members _ _
theorem J3E {U : ZI} {E : ZR} (hg : J0 U E = true) {s : ZI} (hs : s ∈ J7 (U.length : Int).toNat) :
    (J0 U E && J5 s 0 ((U.length : Int) - 1) && decide (0 < s.length)) = true ∧ s.length ≤ 7 := by
  obtain ⟨g1, g2, g3⟩ := J2 hg
  rw [Int.toNat_natCast] at hs
  obtain ⟨c, h1, h2, rfl⟩ := J4R.1 hs
  have hl := Jcm (n := U.length) (code := c)
  refine ⟨?_, by omega⟩
  rw [hg, J3e Jcv (fun x hx => by have := JcA x hx; omega), decide_eq_true (Jcl h1 h2)]
  rfl
theorem Jc8 {n : Nat} (h : 1 ≤ n) : 0 < (J7 n).length := by
  rw [J8y]
  have := Nat.pow_le_pow_right (n := 2) (by omega) h
  omega
theorem JaN {n : Nat} (h : n ≤ 7) : (J7 n).length ≤ 127 := by
  rw [J8y]
  have := Nat.pow_le_pow_right (n := 2) (by omega) h
  have e : (2 : Nat) ^ 7 = 128 := by decide
  omega
def Jcu (f : FuncId) (ds : List D) : Orc := bif Nat.beq f 112 then J59 ds else bif Nat.beq f 129 then J4o ds else .no
def Jcf (U : ZI) (E : ZR) (k : Int) : Ann := .none
def Jav (U : ZI) (E : ZR) (k : Int) : Prop :=
  (PC Tryz.prog 112 [.agg [.sl (.ints U), .sl (.rows E)]] (.one (.d (.bool (J0 U E))))) ∧ ((J0 U E) = true → (J0 U E) = true) ∧ ((J0 U E) = true → (J0 U E) = true) ∧ ((J0 U E) = true → (J0 U E) = true) ∧ ((J0 U E) = true → (J0 U E) = true) ∧ ((J0 U E) = true → PC Tryz.prog 129 [.int .i64 k, .int .i64 1, .int .i64 (U.length : Int)] (.one (.d (.bool (inB k 1 (U.length : Int)))))) ∧ (true = true) ∧ (((J0 U E) = true → (J0 U E) = true)) ∧ (((J0 U E) = false → true = true)) ∧ (((cond (J0 U E) (inB k 1 (U.length : Int)) false) = (J0 U E && inB k 1 (U.length : Int))))
theorem JbZ (U : ZI) (E : ZR) (k : Int)  (w_Open : (U.length : Int) ≤ 9223372036854775807) (w_Dist : (E.length : Int) ≤ 9223372036854775807) (v_Dist : ∀ x9 ∈ E, (x9.length : Int) ≤ 9223372036854775807) : Jav U E k := by
  unfold Jav
  refine ⟨J6b U E, id, id, id, id, fun _ => J5p k 1 (U.length : Int), rfl, id, fun _ => rfl, ?_⟩
  ·cases J0 U E <;> rfl
theorem J4p (U : ZI) (E : ZR) (k : Int)  : PC Tryz.prog 135 [.agg [.sl (.ints U), .sl (.rows E)], .int .i64 k] (.one (.d (.bool (J0 U E && inB k 1 (U.length : Int))))) :=
  pc_wf @Tryz.call135 fun hw => pc_by (by kernel_rfl) Tryz.func135 @Tryz.call135 (by kernel_rfl) Jcu (Jcf U E k) (by kernel_rfl) (JbZ U E k hw.1.1 hw.1.2.1.1 hw.1.2.1.2) (by kernel_rfl)
def J47 : List D → Orc := orcN [none, none] fun ds => match ds with
  | [.agg [.sl (.ints U), .sl (.rows E)], .int .i64 k] => some (.one (.d (.bool (J0 U E && inB k 1 (U.length : Int)))))
  | _ => none
def lsB (v : ZI → Int) (b s : ZI) : ZI := if v s < v b then s else b
def J23 (v : ZI → Int) (l : ZR) : ZI := l.foldl (lsB v) (l.getD 0 [])
theorem JbW (v : ZI → Int) (b : ZI) : lsB v b b = b := by unfold lsB; split <;> rfl
theorem J46 {α β : Type} {f : β → α → β} {b : β} {l : List α} {i : Int} {d : α} (h0 : 0 ≤ i) (h : i < (l.length : Int)) : (l.take (i + 1).toNat).foldl f b = f ((l.take i.toNat).foldl f b) (l.getD i.toNat d) := by
  rw [take_step (d := d) h0 h, List.foldl_append]
  rfl
theorem J7n {v : ZI → Int} {l : ZR} (h : 0 < l.length) : J23 v l ∈ l := by
  have key : ∀ (r : ZR) (b : ZI), b ∈ l → (∀ x ∈ r, x ∈ l) → r.foldl (lsB v) b ∈ l := by
    intro r
    induction r with
    | nil => intro b hb _; exact hb
    | cons x r ih =>
      intro b hb hr
      refine ih _ ?_ fun y hy => hr y (List.mem_cons_of_mem _ hy)
      unfold lsB
      split
      · exact hr x List.mem_cons_self
      exact hb
  exact key l _ (getD_mem h) fun x hx => hx
def bsB (v : ZI → Int) (k : Int) (b s : ZI) : ZI := if (cond ((s.length : Int) == k) (cond ((b.length : Int) == 0) true (decide (v s < v b))) false) = true then s else b
def Jcb (v : ZI → Int) (k : Int) (l : ZR) : ZI := l.foldl (bsB v k) []
theorem Jc0 {v : ZI → Int} {k : Int} (hk : 1 ≤ k) (l : ZR) : Jcb v k l = J23 v (l.filter fun x9 => !(decide ((x9.length : Int) ≠ k))) := by
  have aux : ∀ (r : ZR) (b : ZI), (b.length : Int) = k → r.foldl (bsB v k) b = (r.filter fun x9 => !(decide ((x9.length : Int) ≠ k))).foldl (lsB v) b := by
    intro r
    induction r with
    | nil => intro b _; rfl
    | cons x r ih =>
      intro b hb
      rw [List.foldl_cons]
      by_cases e : (x.length : Int) = k
      · rw [List.filter_cons, if_pos (by simp [e]), List.foldl_cons]
        have e2 : bsB v k b x = lsB v b x := by
          unfold bsB lsB
          rw [beq_iff_eq.2 e, beq_eq_false_iff_ne.2 (show (b.length : Int) ≠ 0 by omega)]
          simp only [cond_true, cond_false]
          by_cases e3 : v x < v b
          · rw [if_pos e3, if_pos (decide_eq_true e3)]
          rw [if_neg e3, if_neg (by simp [e3])]
        rw [e2]
        refine ih _ ?_
        unfold lsB
        split
        · exact e
        exact hb
      rw [List.filter_cons, if_neg (by simp [e])]
      have e2 : bsB v k b x = b := by unfold bsB; rw [beq_eq_false_iff_ne.2 e]; rfl
      rw [e2]
      exact ih b hb
  unfold Jcb J23
  induction l with
  | nil => rfl
  | cons x r ih =>
    rw [List.foldl_cons]
    by_cases e : (x.length : Int) = k
    · rw [List.filter_cons, if_pos (by simp [e]), List.foldl_cons]
      have e2 : bsB v k [] x = x := by unfold bsB; rw [beq_iff_eq.2 e]; rfl
      rw [e2, aux r x e]
      show _ = List.foldl (lsB v) (lsB v x x) _
      rw [JbW]
    rw [List.filter_cons, if_neg (by simp [e])]
    have e2 : bsB v k [] x = [] := by unfold bsB; rw [beq_eq_false_iff_ne.2 e]; rfl
    rw [e2]
    exact ih
def J2h (xs : ZI) (k : Nat) : Int := foldTo (fun m j => m + xs.getD j 0) 0 k
theorem J3g (xs : ZI) (k : Nat) : J2h xs (k + 1) = J2h xs k + xs.getD k 0 := rfl
theorem J88 {xs : ZI} (h : ∀ x ∈ xs, 0 ≤ x ∧ x ≤ 99) : ∀ k, k ≤ xs.length → 0 ≤ J2h xs k ∧ J2h xs k ≤ 99 * k
  | 0, _ => by simp [J2h, foldTo]
  | k + 1, hk => by
    have h1 := J88 h k (by omega)
    have h2 := h _ (getD_mem (d := 0) (show k < xs.length by omega))
    rw [J3g]
    omega
def J4 (E : ZR) (set : ZI) : Int := J2h (JR E set E.length) E.length
theorem J9J {U : ZI} {E : ZR} {set : ZI} (ht : (J0 U E && J5 set 0 ((U.length : Int) - 1) && decide (0 < set.length)) = true) {j : Nat} (hj : j < E.length) : 0 ≤ J2f E set j ∧ J2f E set j ≤ 99 := by
  obtain ⟨hg, hs, hp⟩ := JZ ht
  obtain ⟨rl, rb⟩ := J3I hg hj
  have si := J1s (row := E.getD j []) (set := set) (n := (U.length : Int)) (fun k hk => by have := J1A hs k hk; omega) hp set.length (Nat.le_refl _)
  exact rb _ (by omega)
theorem J9w {U : ZI} {E : ZR} {set : ZI} (ht : (J0 U E && J5 set 0 ((U.length : Int) - 1) && decide (0 < set.length)) = true) : ∀ x ∈ JR E set E.length, 0 ≤ x ∧ x ≤ 99 := by
  intro x hx
  obtain ⟨j, hj, rfl⟩ := List.mem_map.1 hx
  exact J9J ht (List.mem_range.1 hj)
theorem Jb0 {g : Addr → Option Value} {O : Nat → Prop} {v : Value} {x : ZI} (h : R g O v (.sl (.ints x))) : ∃ (ad : Option Addr) (cap : Nat), v = .slice ad x.length cap := by
  cases h with
  | slnil _ h0 => exact ⟨none, 0, by rw [show x.length = 0 from h0]⟩
  | sl _ a n cap hn _ _ _ _ => exact ⟨some a, cap, by rw [hn]; rfl⟩
theorem Jc2 {g : Addr → Option Value} {O : Nat → Prop} {v : Value} {k : Int} (h : R g O v (.bx [.int .i64 k] 0)) : ∃ b : Addr, v = .pointer (some b) ∧ g b = some (.int .i64 k) := by
  cases h with
  | bx _ a _ f hc hr =>
    refine ⟨a.add 0, rfl, ?_⟩
    have h1 := (hc 0 (by simp)).1
    have h2 := hr 0 (.int .i64 k) rfl
    rw [h1]
    cases hf : f 0 <;> rw [hf] at h2 <;> cases h2
    rfl
theorem JbU {n k : Nat} (h : k ≤ n) : (lst n (2 ^ k - 1)).length = k := by
  unfold lst
  rw [J1w (m := k) (fun i hi => Nat.testBit_lt_two_pow (Nat.lt_of_lt_of_le (Nat.sub_lt (Nat.two_pow_pos k) (by omega)) (Nat.pow_le_pow_right (by omega) hi))) n h, J8m, J1y]
theorem Jbf {n : Nat} {k : Int} (h1 : 1 ≤ k) (h2 : k ≤ n) : ∃ s ∈ J7 n, (s.length : Int) = k := by
  refine ⟨lst n (2 ^ k.toNat - 1), J4R.2 ⟨_, ?_, ?_, rfl⟩, by rw [JbU (by omega)]; omega⟩
  · have := Nat.pow_le_pow_right (n := 2) (by omega) (show 1 ≤ k.toNat by omega)
    omega
  have h3 := Nat.pow_le_pow_right (n := 2) (by omega) (show k.toNat ≤ n by omega)
  have h4 := Nat.two_pow_pos k.toNat
  omega
theorem JaK {p : ZI → Bool} {l : ZR} (h : ∃ s ∈ l, p s = true) : 0 < (l.filter p).length := by
  obtain ⟨s, h1, h2⟩ := h
  exact List.length_pos_of_mem (List.mem_filter.2 ⟨h1, h2⟩)
def Jl (U : ZI) (E : ZR) (k : Int) : ZI := J23 (J4 E) ((J7 (U.length : Int).toNat).filter fun x9 => !(decide ((x9.length : Int) ≠ k)))
theorem J7U {U : ZI} {k : Int} (hk : 1 ≤ k ∧ k ≤ (U.length : Int)) : 0 < ((J7 (U.length : Int).toNat).filter fun x9 => !(decide ((x9.length : Int) ≠ k))).length := by
  obtain ⟨s, h1, h2⟩ := Jbf (n := (U.length : Int).toNat) hk.1 (by omega)
  exact JaK ⟨s, h1, by simp [h2]⟩
theorem J7G {U : ZI} {k : Int} {E : ZR} (hk : 1 ≤ k ∧ k ≤ (U.length : Int)) : Jl U E k ∈ J7 (U.length : Int).toNat :=
  (List.mem_filter.1 (J7n (J7U hk))).1
abbrev J4a (list : ZI) (m : Int) (i : Int) : Prop := (0 ≤ i) ∧ (i ≤ (list.length : Int)) ∧ (m = J2h list i.toNat)
abbrev J40 (list : ZI) (m : Int) (i : Int) : Nat := (list.length - i).toNat
def Jco (f : FuncId) (ds : List D) : Orc := .no
def Jcq (list : ZI) : Ann := .two (.none) (.two (.none) (.two (.two (.none) (.loop (cut2 (fun (m : Int) (i : Int) => J4a list m i) (fun (m : Int) (i : Int) => [(3, .d true (.int .i64 m)), (6, .d false (.sl (.ints list))), (7, .d true (.int .i64 (list.length : Int))), (8, .d true (.int .i64 i))]) (fun (m : Int) (i : Int) => [])) (fun g => J40 list g.1 g.2) (fun _ => .none))) (.none)))
def Jaw (list : ZI) : Prop :=
  ((∃ m' : Int, ∃ i' : Int, (J4a list m' i') ∧ ((0 : Int) = m') ∧ (list = list) ∧ ((list.length : Int) = (list.length : Int)) ∧ ((0 : Int) = i')) ∧ (∀ m : Int, ∀ i : Int, (J4a list m i) → (((decide (i < (list.length : Int))) = true → ((0 : Int) ≤ i) ∧ ((i : Int) < list.length) ∧ (i.toNat < list.length) ∧ (I6 (m + (list.getD i.toNat 0))) ∧ (I6 (i + 1)) ∧ (∃ m' : Int, ∃ i' : Int, (J4a list m' i') ∧ (J40 list m' i' < J40 list m i) ∧ ((m + (list.getD i.toNat 0)) = m') ∧ (list = list) ∧ ((list.length : Int) = (list.length : Int)) ∧ ((i + 1) = i'))) ∧ ((decide (i < (list.length : Int))) = false → ((m = (J2h list list.length)))))))
theorem JbO (list : ZI) (hx : ∀ x ∈ list, 0 ≤ x ∧ x ≤ 99) (hl : list.length ≤ 7) (w_list : (list.length : Int) ≤ 9223372036854775807) : Jaw list := by
  unfold Jaw
  refine ⟨?_, ?_⟩
  ·refine ⟨0, 0, ?_⟩
   refine ⟨?_, rfl, rfl, rfl, rfl⟩
   ·refine ⟨?_, ?_, ?_⟩
    ·omega
    ·omega
    ·rfl
  intro m i hJ
  obtain ⟨h1, h2, h3⟩ := hJ
  refine ⟨?_, ?_⟩
  ·intro b1
   try simp only [nrmT] at b1
   refine ⟨?_, ?_, ?_, ?_, ?_, ?_⟩
   ·omega
   ·omega
   ·omega
   ·have h4 := J88 hx i.toNat (by omega)
    have h5 := hx _ (getD_memI (d := 0) h1 (by omega))
    omega
   ·omega
   refine ⟨(m + (list.getD i.toNat 0)), (i + 1), ?_⟩
   refine ⟨?_, ?_, rfl, rfl, rfl, rfl⟩
   ·refine ⟨?_, ?_, ?_⟩
    ·omega
    ·omega
    ·rw [h3, show (i + 1).toNat = i.toNat + 1 by omega, J3g]
   (simp only [J40]; omega)
  intro b2
  try simp only [nrmT] at b2
  rw [h3, show i.toNat = list.length by omega]
theorem Jca (list : ZI) (hx : ∀ x ∈ list, 0 ≤ x ∧ x ≤ 99) (hl : list.length ≤ 7) : PC Tryz.prog 207 [.sl (.ints list)] (.one (.d (.int .i64 (J2h list list.length)))) :=
  pc_wf @Tryz.call207 fun hw => pc_by (by kernel_rfl) Tryz.func207 @Tryz.call207 (by kernel_rfl) Jco (Jcq list) (by kernel_rfl) (JbO list hx hl hw.1) (by kernel_rfl)
def Jbx : List D → Orc := orcN [some .ints] fun ds => match ds with
  | [.sl (.ints list)] => some (.one (.d (.int .i64 (J2h list list.length))))
  | _ => none
abbrev J26 (U : ZI) (E : ZR) (set : ZI) (m : Int) (i : Int) : Prop := (0 ≤ i) ∧ (i ≤ (E.length : Int)) ∧ (m = J2h (JR E set E.length) i.toNat)
abbrev J2c (U : ZI) (E : ZR) (set : ZI) (m : Int) (i : Int) : Nat := (E.length - i).toNat
def Jae (f : FuncId) (ds : List D) : Orc := bif Nat.beq f 150 then J7j ds else .no
def Jad (U : ZI) (E : ZR) (set : ZI) : Ann := .two (.none) (.two (.none) (.two (.two (.none) (.loop (cut2 (fun (m : Int) (i : Int) => J26 U E set m i) (fun (m : Int) (i : Int) => [(1, .d false (.sl (.ints set))), (2, .ptr 2 0), (5, .d true (.int .i64 m)), (6, .d true (.int .i64 i))]) (fun (m : Int) (i : Int) => [(2, .box 27 [.d false (.sl (.ints U)), .d false (.sl (.rows E))])])) (fun g => J2c U E set g.1 g.2) (fun _ => .none))) (.none)))
def J6a (U : ZI) (E : ZR) (set : ZI) : Prop :=
  ((∃ m' : Int, ∃ i' : Int, (J26 U E set m' i') ∧ (set = set) ∧ ((0 : Int) = m') ∧ ((0 : Int) = i') ∧ (U = U) ∧ (E = E)) ∧ (∀ m : Int, ∀ i : Int, (J26 U E set m i) → (((decide (i < (E.length : Int))) = true → (PC Tryz.prog 150 [.agg [.sl (.ints U), .sl (.rows E)], .int .i64 i, .sl (.ints set)] (.one (.d (.int .i64 ((E.getD i.toNat []).getD (Ji (E.getD i.toNat []) set set.length).toNat 0))))) ∧ (I6 (m + ((E.getD i.toNat []).getD (Ji (E.getD i.toNat []) set set.length).toNat 0))) ∧ (I6 (i + 1)) ∧ (∃ m' : Int, ∃ i' : Int, (J26 U E set m' i') ∧ (J2c U E set m' i' < J2c U E set m i) ∧ (set = set) ∧ ((m + ((E.getD i.toNat []).getD (Ji (E.getD i.toNat []) set set.length).toNat 0)) = m') ∧ ((i + 1) = i') ∧ (U = U) ∧ (E = E))) ∧ ((decide (i < (E.length : Int))) = false → ((m = (J4 E set)))))))
theorem J9d (U : ZI) (E : ZR) (set : ZI) (ht : (J0 U E && J5 set 0 ((U.length : Int) - 1) && decide (0 < set.length)) = true) (w_Open : (U.length : Int) ≤ 9223372036854775807) (w_Dist : (E.length : Int) ≤ 9223372036854775807) (v_Dist : ∀ x9 ∈ E, (x9.length : Int) ≤ 9223372036854775807) (w_set : (set.length : Int) ≤ 9223372036854775807) : J6a U E set := by
  unfold J6a
  obtain ⟨hg, hs, hp⟩ := JZ ht
  obtain ⟨g1, g2, g3⟩ := J2 hg
  refine ⟨?_, ?_⟩
  ·refine ⟨0, 0, ?_⟩
   refine ⟨?_, rfl, rfl, rfl, rfl, rfl⟩
   ·refine ⟨?_, ?_, ?_⟩
    ·omega
    ·omega
    ·rfl
  intro m i hJ
  obtain ⟨h1, h2, h3⟩ := hJ
  refine ⟨?_, ?_⟩
  ·intro b1
   try simp only [nrmT] at b1
   refine ⟨?_, ?_, ?_, ?_⟩
   ·refine J7Y U E i set ?_ ?_
    ·exact ht
    ·omega
   ·have h4 := J88 (J9w ht) i.toNat (by rw [J45]; omega)
    have h5 := J9J ht (show i.toNat < E.length by omega)
    unfold J2f at h5
    omega
   ·omega
   refine ⟨(m + ((E.getD i.toNat []).getD (Ji (E.getD i.toNat []) set set.length).toNat 0)), (i + 1), ?_⟩
   refine ⟨?_, ?_, rfl, rfl, rfl, rfl, rfl⟩
   ·refine ⟨?_, ?_, ?_⟩
    ·omega
    ·omega
    ·rw [h3, show (i + 1).toNat = i.toNat + 1 by omega, J3g, J4n _ _ _ _ (by omega)]; rfl
   (simp only [J2c]; omega)
  intro b2
  try simp only [nrmT] at b2
  rw [h3, show i.toNat = E.length by omega]; rfl
theorem J03 (U : ZI) (E : ZR) (set : ZI) (ht : (J0 U E && J5 set 0 ((U.length : Int) - 1) && decide (0 < set.length)) = true) : PC Tryz.prog 137 [.agg [.sl (.ints U), .sl (.rows E)], .sl (.ints set)] (.one (.d (.int .i64 (J4 E set)))) :=
  pc_wf @Tryz.call137 fun hw => pc_by (by kernel_rfl) Tryz.func137 @Tryz.call137 (by kernel_rfl) Jae (Jad U E set) (by kernel_rfl) (J9d U E set ht hw.1.1 hw.1.2.1.1 hw.1.2.1.2 hw.2.1) (by kernel_rfl)
def J1e : List D → Orc := orcN [none, some .ints] fun ds => match ds with
  | [.agg [.sl (.ints U), .sl (.rows E)], .sl (.ints set)] => some (.one (.d (.int .i64 (J4 E set))))
  | _ => none
def J5I (f : FuncId) (ds : List D) : Orc := bif Nat.beq f 149 then J4F ds else bif Nat.beq f 207 then Jbx ds else .no
def J67 (U : ZI) (E : ZR) (set : ZI) : Ann := .none
def J3t (U : ZI) (E : ZR) (set : ZI) : Prop :=
  (PC Tryz.prog 149 [.agg [.sl (.ints U), .sl (.rows E)], .sl (.ints set)] (.one (.own 3 (.ints (JR E set E.length))))) ∧ ((JR E set E.length).length = (JR E set E.length).length) ∧ (PC Tryz.prog 207 [.sl (.ints (JR E set E.length))] (.one (.d (.int .i64 (J2h (JR E set E.length) (JR E set E.length).length))))) ∧ (((J2h (JR E set E.length) (JR E set E.length).length) = (J4 E set)))
theorem J4S (U : ZI) (E : ZR) (set : ZI) (ht : (J0 U E && J5 set 0 ((U.length : Int) - 1) && decide (0 < set.length)) = true) (w_Open : (U.length : Int) ≤ 9223372036854775807) (w_Dist : (E.length : Int) ≤ 9223372036854775807) (v_Dist : ∀ x9 ∈ E, (x9.length : Int) ≤ 9223372036854775807) (w_set : (set.length : Int) ≤ 9223372036854775807) : J3t U E set := by
  unfold J3t
  obtain ⟨hg, hs, hp⟩ := JZ ht
  obtain ⟨g1, g2, g3⟩ := J2 hg
  refine ⟨?_, rfl, ?_, ?_⟩
  ·refine J4O U E set ?_
   ·exact ht
  ·refine Jca (JR E set E.length) ?_ ?_
   ·exact J9w ht
   ·rw [J45]; exact g3
  rw [J45]; rfl
theorem Jp (U : ZI) (E : ZR) (set : ZI) (ht : (J0 U E && J5 set 0 ((U.length : Int) - 1) && decide (0 < set.length)) = true) : PC Tryz.prog 125 [.agg [.sl (.ints U), .sl (.rows E)], .sl (.ints set)] (.one (.d (.int .i64 (J4 E set)))) :=
  pc_wf @Tryz.call125 fun hw => pc_by (by kernel_rfl) Tryz.func125 @Tryz.call125 (by kernel_rfl) J5I (J67 U E set) (by kernel_rfl) (J4S U E set ht hw.1.1 hw.1.2.1.1 hw.1.2.1.2 hw.2.1) (by kernel_rfl)
def JK : List D → Orc := orcN [none, some .ints] fun ds => match ds with
  | [.agg [.sl (.ints U), .sl (.rows E)], .sl (.ints set)] => some (.one (.d (.int .i64 (J4 E set))))
  | _ => none
abbrev J0p (xss : ZR) (U : ZI) (E : ZR) (best : ZI) (i : Int) : Prop := (0 ≤ i) ∧ (i ≤ (xss.length : Int)) ∧ (best ∈ xss) ∧ (best = (xss.take i.toNat).foldl (lsB (J4 E)) (xss.getD 0 []))
abbrev JO (xss : ZR) (U : ZI) (E : ZR) (best : ZI) (i : Int) : Nat := (xss.length - i).toNat
def J8d (f : FuncId) (ds : List D) : Orc := bif Nat.beq f 125 then JK ds else .no
def J7Z (xss : ZR) (U : ZI) (E : ZR) : Ann := .two (.none) (.two (.none) (.two (.two (.none) (.loop (cut2 (fun (best : ZI) (i : Int) => J0p xss U E best i) (fun (best : ZI) (i : Int) => [(1, .d false (.fn 125 1 [.agg [.sl (.ints U), .sl (.rows E)]])), (5, .d true (.sl (.ints best))), (11, .d true (.sl (.rows xss))), (12, .d true (.int .i64 (xss.length : Int))), (13, .d true (.int .i64 i))]) (fun (best : ZI) (i : Int) => [])) (fun g => JO xss U E g.1 g.2) (fun _ => .none))) (.none)))
def J4e (xss : ZR) (U : ZI) (E : ZR) : Prop :=
  ((0 : Int) ≤ 0) ∧ ((0 : Int) < xss.length) ∧ (0 < xss.length) ∧ ((∃ best' : ZI, ∃ i' : Int, (J0p xss U E best' i') ∧ ((.fn 125 1 [.agg [.sl (.ints U), .sl (.rows E)]] : D) = (.fn 125 1 [.agg [.sl (.ints U), .sl (.rows E)]] : D)) ∧ ((xss.getD 0 []) = best') ∧ (xss = xss) ∧ ((xss.length : Int) = (xss.length : Int)) ∧ ((0 : Int) = i')) ∧ (∀ best : ZI, ∀ i : Int, (J0p xss U E best i) → (((decide (i < (xss.length : Int))) = true → ((0 : Int) ≤ i) ∧ ((i : Int) < xss.length) ∧ (i.toNat < xss.length) ∧ (PC Tryz.prog 125 [.agg [.sl (.ints U), .sl (.rows E)], .sl (.ints (xss.getD i.toNat []))] (.one (.d (.int .i64 (J4 E (xss.getD i.toNat [])))))) ∧ (PC Tryz.prog 125 [.agg [.sl (.ints U), .sl (.rows E)], .sl (.ints best)] (.one (.d (.int .i64 (J4 E best))))) ∧ (((decide ((J4 E (xss.getD i.toNat [])) < (J4 E best))) = true → (I6 (i + 1)) ∧ (∃ best' : ZI, ∃ i' : Int, (J0p xss U E best' i') ∧ (JO xss U E best' i' < JO xss U E best i) ∧ ((.fn 125 1 [.agg [.sl (.ints U), .sl (.rows E)]] : D) = (.fn 125 1 [.agg [.sl (.ints U), .sl (.rows E)]] : D)) ∧ ((xss.getD i.toNat []) = best') ∧ (xss = xss) ∧ ((xss.length : Int) = (xss.length : Int)) ∧ ((i + 1) = i'))) ∧ ((decide ((J4 E (xss.getD i.toNat [])) < (J4 E best))) = false → (I6 (i + 1)) ∧ (∃ best' : ZI, ∃ i' : Int, (J0p xss U E best' i') ∧ (JO xss U E best' i' < JO xss U E best i) ∧ ((.fn 125 1 [.agg [.sl (.ints U), .sl (.rows E)]] : D) = (.fn 125 1 [.agg [.sl (.ints U), .sl (.rows E)]] : D)) ∧ (best = best') ∧ (xss = xss) ∧ ((xss.length : Int) = (xss.length : Int)) ∧ ((i + 1) = i'))))) ∧ ((decide (i < (xss.length : Int))) = false → (((best : ZI) = (J23 (J4 E) xss)))))))
theorem J7A (xss : ZR) (U : ZI) (E : ZR) (hp : 0 < xss.length) (hx : ∀ s ∈ xss, J0 U E && J5 s 0 ((U.length : Int) - 1) && decide (0 < s.length)) (w_xss : (xss.length : Int) ≤ 9223372036854775807) (v_xss : ∀ x9 ∈ xss, (x9.length : Int) ≤ 9223372036854775807) (w_Open : (U.length : Int) ≤ 9223372036854775807) (w_Dist : (E.length : Int) ≤ 9223372036854775807) (v_Dist : ∀ x9 ∈ E, (x9.length : Int) ≤ 9223372036854775807) : J4e xss U E := by
  unfold J4e
  refine ⟨?_, ?_, ?_, ?_, ?_⟩
  ·omega
  ·omega
  ·omega
  ·refine ⟨(xss.getD 0 []), 0, ?_⟩
   refine ⟨?_, rfl, rfl, rfl, rfl, rfl⟩
   ·refine ⟨?_, ?_, ?_, ?_⟩
    ·omega
    ·omega
    ·exact getD_mem hp
    ·rfl
  intro best i hJ
  obtain ⟨h1, h2, h3, h4⟩ := hJ
  refine ⟨?_, ?_⟩
  ·intro b1
   try simp only [nrmT] at b1
   refine ⟨?_, ?_, ?_, ?_, ?_, ?_, ?_⟩
   ·omega
   ·omega
   ·omega
   ·refine Jp U E (xss.getD i.toNat []) ?_
    ·exact hx _ (getD_memI h1 (by omega))
   ·refine Jp U E best ?_
    ·exact hx _ h3
   ·intro b2
    try simp only [nrmT] at b2
    refine ⟨?_, ?_⟩
    ·omega
    refine ⟨(xss.getD i.toNat []), (i + 1), ?_⟩
    refine ⟨?_, ?_, rfl, rfl, rfl, rfl, rfl⟩
    ·refine ⟨?_, ?_, ?_, ?_⟩
     ·omega
     ·omega
     ·exact getD_memI h1 (by omega)
     ·rw [J46 (d := []) h1 (by omega), ← h4]; unfold lsB; rw [if_pos b2]
    (simp only [JO]; omega)
   intro b3
   try simp only [nrmT] at b3
   refine ⟨?_, ?_⟩
   ·omega
   refine ⟨best, (i + 1), ?_⟩
   refine ⟨?_, ?_, rfl, rfl, rfl, rfl, rfl⟩
   ·refine ⟨?_, ?_, ?_, ?_⟩
    ·omega
    ·omega
    ·exact h3
    ·rw [J46 (d := []) h1 (by omega), ← h4]; unfold lsB; (try dsimp only); rw [if_neg (by omega)]
   (simp only [JO]; omega)
  intro b4
  try simp only [nrmT] at b4
  rw [h4, take_all (by omega)]; rfl
theorem J79 (xss : ZR) (U : ZI) (E : ZR) (hp : 0 < xss.length) (hx : ∀ s ∈ xss, J0 U E && J5 s 0 ((U.length : Int) - 1) && decide (0 < s.length)) : PCs Tryz.prog 94 [.sl (.rows xss), .fn 125 1 [.agg [.sl (.ints U), .sl (.rows E)]]] 0 (.sl (.ints (J23 (J4 E) xss))) :=
  pcs_wf @Tryz.call94 fun hw => pcs_by (by kernel_rfl) Tryz.func94 @Tryz.call94 (by kernel_rfl) J8d (J7Z xss U E) (by kernel_rfl) (J7A xss U E hp hx hw.1.1 hw.1.2 hw.2.1.1.1 hw.2.1.1.2.1.1 hw.2.1.1.2.1.2) (by kernel_rfl)
def J6q : List D → Orc := orcS 0 fun ds => match ds with
  | [.sl (.rows xss), .fn f0 1 [.agg [.sl (.ints U), .sl (.rows E)]]] => some (.sl (.ints (J23 (J4 E) xss)))
  | _ => none
theorem J8P (x : ZI) (k : Int) : PB Tryz.prog 208 [.sl (.ints x), .bx [.int .i64 k] 0] (decide ((x.length : Int) ≠ k)) := by
  refine ⟨@Tryz.call208, fun w vs hall => ?_⟩
  obtain ⟨v1, v2, rfl⟩ : ∃ v1 v2, vs = [v1, v2] := by
    match vs, hall.1 with
    | [a, b], _ => exact ⟨a, b, rfl⟩
  obtain ⟨ad, cap, rfl⟩ := Jb0 (hall.2 0 v1 _ rfl rfl)
  obtain ⟨b, rfl, hc⟩ := Jc2 (hall.2 1 v2 _ rfl rfl)
  show Calls Tryz.prog 208 #[.slice ad x.length cap, .pointer (some b)] w _
  clear hall
  go_enter Tryz.func208, Tryz.ntmps208
  go_wp2
  all_goals (go_ret; exact ⟨by first | (simp_all; done) | (simp_all; rfl), 0, rfl⟩)
theorem J2l (xss : ZR) (k : Int) (hp : 0 < xss.length) : PU Tryz.prog 189 24 (.rows xss) (.rows (xss.filter (fun x9 => !(decide ((x9.length : Int) ≠ k))))) [.fn 208 0 [.bx [.int .i64 k] 0]] true :=
  pu_deleteFunc Tryz.layDelete Tryz.zeroValue24 24 xss (fun x9 => decide ((x9.length : Int) ≠ k)) 208 [.bx [.int .i64 k] 0] (fun x => J8P x k) hp
abbrev J0J (U : ZI) (E : ZR) (k : Int) (list2 : ZR) : Prop := (list2 = (J7 (U.length : Int).toNat).filter (fun x9 => !(decide ((x9.length : Int) ≠ k))))
def J6T (f : FuncId) (ds : List D) : Orc := bif Nat.beq f 115 then JaP ds else bif Nat.beq f 94 then J6q ds else .no
def J6M (U : ZI) (E : ZR) (k : Int) : Ann := .two (.none) (.cut (.mark [] [(5, .up (.rows ((J7 (U.length : Int).toNat).filter (fun x9 => !(decide ((x9.length : Int) ≠ k))))) true)]) (cut1 (fun (list2 : ZR) => J0J U E k list2) (fun (list2 : ZR) => [(2, .ptr 2 0), (5, .d true (.sl (.rows list2)))]) (fun (list2 : ZR) => [(2, .box 27 [.d false (.sl (.ints U)), .d false (.sl (.rows E))])])) (fun _ => .none))
def J3U (U : ZI) (E : ZR) (k : Int) : Prop :=
  (((PC Tryz.prog 115 [.int .i64 (U.length : Int)] (.one (.own 24 (.rows (J7 (U.length : Int).toNat))))) ∧ ((J7 (U.length : Int).toNat).length = (J7 (U.length : Int).toNat).length) ∧ (PU Tryz.prog 189 24 (.rows (J7 (U.length : Int).toNat)) (.rows ((J7 (U.length : Int).toNat).filter (fun x9 => !(decide ((x9.length : Int) ≠ k))))) [.fn 208 0 [.bx [.int .i64 k] 0]] true) ∧ (∃ list2' : ZR, (J0J U E k list2') ∧ (((J7 (U.length : Int).toNat).filter (fun x9 => !(decide ((x9.length : Int) ≠ k)))).length = ((J7 (U.length : Int).toNat).filter (fun x9 => !(decide ((x9.length : Int) ≠ k)))).length) ∧ (((J7 (U.length : Int).toNat).filter (fun x9 => !(decide ((x9.length : Int) ≠ k)))) = list2') ∧ (U = U) ∧ (E = E))) ∧ (∀ list2 : ZR, (J0J U E k list2) → (PCs Tryz.prog 94 [.sl (.rows list2), .fn 125 1 [.agg [.sl (.ints U), .sl (.rows E)]]] 0 (.sl (.ints (J23 (J4 E) list2)))) ∧ ((((J23 (J4 E) list2) : ZI) = (Jl U E k)))))
theorem J68 (U : ZI) (E : ZR) (k : Int) (hg : J0 U E = true) (hk : 1 ≤ k ∧ k ≤ (U.length : Int)) (w_Open : (U.length : Int) ≤ 9223372036854775807) (w_Dist : (E.length : Int) ≤ 9223372036854775807) (v_Dist : ∀ x9 ∈ E, (x9.length : Int) ≤ 9223372036854775807) : J3U U E k := by
  unfold J3U
  obtain ⟨g1, g2, g3⟩ := J2 hg
  refine ⟨?_, ?_⟩
  ·refine ⟨?_, rfl, ?_, ?_⟩
   ·refine Jbt (U.length : Int) ?_
    ·omega
   ·refine J2l (J7 (U.length : Int).toNat) k ?_
    ·exact Jc8 (by omega)
   ·refine ⟨((J7 (U.length : Int).toNat).filter (fun x9 => !(decide ((x9.length : Int) ≠ k)))), ?_⟩
    refine ⟨?_, rfl, rfl, rfl, rfl⟩
    ·unfold J0J
     rfl
  intro list2 hJ
  have h8 := hJ
  refine ⟨?_, ?_⟩
  ·refine J79 list2 U E ?_ ?_
   ·rw [h8]; exact J7U hk
   ·rw [h8]
    intro s hs
    exact (J3E hg (List.mem_filter.1 hs).1).1
  rw [h8]; rfl
theorem J1T (U : ZI) (E : ZR) (k : Int) (hg : J0 U E = true) (hk : 1 ≤ k ∧ k ≤ (U.length : Int)) : PC Tryz.prog 126 [.agg [.sl (.ints U), .sl (.rows E)], .int .i64 k] (.one (.d (.sl (.ints (Jl U E k))))) :=
  pc_wf @Tryz.call126 fun hw => pc_by (by kernel_rfl) Tryz.func126 @Tryz.call126 (by kernel_rfl) J6T (J6M U E k) (by kernel_rfl) (J68 U E k hg hk hw.1.1 hw.1.2.1.1 hw.1.2.1.2) (by kernel_rfl)
def J1z : List D → Orc := orcN [none, none] fun ds => match ds with
  | [.agg [.sl (.ints U), .sl (.rows E)], .int .i64 k] => some (.one (.d (.sl (.ints (Jl U E k)))))
  | _ => none
abbrev J1u (U : ZI) (E : ZR) (k : Int) (best : ZI) (i : Int) : Prop := (0 ≤ i) ∧ (i ≤ ((J7 (U.length : Int).toNat).length : Int)) ∧ (best = ((J7 (U.length : Int).toNat).take i.toNat).foldl (bsB (J4 E) k) []) ∧ (best = [] ∨ best ∈ (J7 (U.length : Int).toNat))
abbrev J0v (U : ZI) (E : ZR) (k : Int) (best : ZI) (i : Int) : Nat := ((J7 (U.length : Int).toNat).length - i).toNat
def JaL (f : FuncId) (ds : List D) : Orc := bif Nat.beq f 148 then J9I ds else bif Nat.beq f 137 then J1e ds else .no
def Jb2 (U : ZI) (E : ZR) (k : Int) : Ann := .two (.none) (.two (.reg [(4, .frz)]) (.two (.two (.none) (.loop (cut2 (fun (best : ZI) (i : Int) => J1u U E k best i) (fun (best : ZI) (i : Int) => [(1, .d false (.int .i64 k)), (2, .ptr 2 0), (5, .d true (.sl (.rows (J7 (U.length : Int).toNat)))), (6, .d true (.sl (.ints best))), (7, .d true (.int .i64 i))]) (fun (best : ZI) (i : Int) => [(2, .box 27 [.d false (.sl (.ints U)), .d false (.sl (.rows E))])])) (fun g => J0v U E k g.1 g.2) (fun _ => .none))) (.none)))
def J4b (U : ZI) (E : ZR) (k : Int) (best : ZI) (i : Int) : Bool := (cond ((((J7 (U.length : Int).toNat).getD i.toNat []).length : Int) == k) (cond ((best.length : Int) == 0) true (decide ((J4 E ((J7 (U.length : Int).toNat).getD i.toNat [])) < (J4 E best)))) false)
def J7p (U : ZI) (E : ZR) (k : Int) : Prop :=
  (PC Tryz.prog 148 [.int .i64 (U.length : Int)] (.one (.d (.sl (.rows (J7 (U.length : Int).toNat)))))) ∧ ((∃ best' : ZI, ∃ i' : Int, (J1u U E k best' i') ∧ (k = k) ∧ ((J7 (U.length : Int).toNat) = (J7 (U.length : Int).toNat)) ∧ ([] = best') ∧ ((0 : Int) = i') ∧ (U = U) ∧ (E = E)) ∧ (∀ best : ZI, ∀ i : Int, (J1u U E k best i) → (((decide (i < (((J7 (U.length : Int).toNat).length) : Int))) = true → (true = true) ∧ ((0 : Int) ≤ i) ∧ ((i : Int) < (J7 (U.length : Int).toNat).length) ∧ (i.toNat < (J7 (U.length : Int).toNat).length) ∧ (((((J7 (U.length : Int).toNat).getD i.toNat []).length : Int) == k) = true → ((((J7 (U.length : Int).toNat).getD i.toNat []).length : Int) == k) = true) ∧ (((((J7 (U.length : Int).toNat).getD i.toNat []).length : Int) == k) = true → ((((J7 (U.length : Int).toNat).getD i.toNat []).length : Int) == k) = true) ∧ (((((J7 (U.length : Int).toNat).getD i.toNat []).length : Int) == k) = true → ((((J7 (U.length : Int).toNat).getD i.toNat []).length : Int) == k) = true) ∧ ((((((J7 (U.length : Int).toNat).getD i.toNat []).length : Int) == k) && (!((best.length : Int) == 0))) = true → (((((J7 (U.length : Int).toNat).getD i.toNat []).length : Int) == k) && (!((best.length : Int) == 0))) = true) ∧ ((((((J7 (U.length : Int).toNat).getD i.toNat []).length : Int) == k) && (!((best.length : Int) == 0))) = true → (((((J7 (U.length : Int).toNat).getD i.toNat []).length : Int) == k) && (!((best.length : Int) == 0))) = true) ∧ (((((((J7 (U.length : Int).toNat).getD i.toNat []).length : Int) == k) && (!((best.length : Int) == 0))) = true → (0 : Int) ≤ i)) ∧ (((((((J7 (U.length : Int).toNat).getD i.toNat []).length : Int) == k) && (!((best.length : Int) == 0))) = true → (i : Int) < (J7 (U.length : Int).toNat).length)) ∧ ((((((J7 (U.length : Int).toNat).getD i.toNat []).length : Int) == k) && (!((best.length : Int) == 0))) = true → (((((J7 (U.length : Int).toNat).getD i.toNat []).length : Int) == k) && (!((best.length : Int) == 0))) = true) ∧ (((((((J7 (U.length : Int).toNat).getD i.toNat []).length : Int) == k) && (!((best.length : Int) == 0))) = true → i.toNat < (J7 (U.length : Int).toNat).length)) ∧ ((((((J7 (U.length : Int).toNat).getD i.toNat []).length : Int) == k) && (!((best.length : Int) == 0))) = true → (((((J7 (U.length : Int).toNat).getD i.toNat []).length : Int) == k) && (!((best.length : Int) == 0))) = true) ∧ ((((((J7 (U.length : Int).toNat).getD i.toNat []).length : Int) == k) && (!((best.length : Int) == 0))) = true → (((((J7 (U.length : Int).toNat).getD i.toNat []).length : Int) == k) && (!((best.length : Int) == 0))) = true) ∧ ((((((J7 (U.length : Int).toNat).getD i.toNat []).length : Int) == k) && (!((best.length : Int) == 0))) = true → PC Tryz.prog 137 [.agg [.sl (.ints U), .sl (.rows E)], .sl (.ints ((J7 (U.length : Int).toNat).getD i.toNat []))] (.one (.d (.int .i64 (J4 E ((J7 (U.length : Int).toNat).getD i.toNat [])))))) ∧ ((((((J7 (U.length : Int).toNat).getD i.toNat []).length : Int) == k) && (!((best.length : Int) == 0))) = true → (((((J7 (U.length : Int).toNat).getD i.toNat []).length : Int) == k) && (!((best.length : Int) == 0))) = true) ∧ ((((((J7 (U.length : Int).toNat).getD i.toNat []).length : Int) == k) && (!((best.length : Int) == 0))) = true → (((((J7 (U.length : Int).toNat).getD i.toNat []).length : Int) == k) && (!((best.length : Int) == 0))) = true) ∧ ((((((J7 (U.length : Int).toNat).getD i.toNat []).length : Int) == k) && (!((best.length : Int) == 0))) = true → PC Tryz.prog 137 [.agg [.sl (.ints U), .sl (.rows E)], .sl (.ints best)] (.one (.d (.int .i64 (J4 E best))))) ∧ ((((((J7 (U.length : Int).toNat).getD i.toNat []).length : Int) == k) && (!((best.length : Int) == 0))) = true → (((((J7 (U.length : Int).toNat).getD i.toNat []).length : Int) == k) && (!((best.length : Int) == 0))) = true) ∧ ((((((J7 (U.length : Int).toNat).getD i.toNat []).length : Int) == k) && (!((best.length : Int) == 0))) = true → (((((J7 (U.length : Int).toNat).getD i.toNat []).length : Int) == k) && (!((best.length : Int) == 0))) = true) ∧ ((((((J7 (U.length : Int).toNat).getD i.toNat []).length : Int) == k) = true → ((((J7 (U.length : Int).toNat).getD i.toNat []).length : Int) == k) = true)) ∧ ((((((J7 (U.length : Int).toNat).getD i.toNat []).length : Int) == k) = true → ((best.length : Int) == 0) = true → true = true)) ∧ ((((((J7 (U.length : Int).toNat).getD i.toNat []).length : Int) == k) = true → ((best.length : Int) == 0) = false → (((((J7 (U.length : Int).toNat).getD i.toNat []).length : Int) == k) && (!((best.length : Int) == 0))) = true)) ∧ (true = true) ∧ ((((((J7 (U.length : Int).toNat).getD i.toNat []).length : Int) == k) = true → ((((J7 (U.length : Int).toNat).getD i.toNat []).length : Int) == k) = true)) ∧ ((((((J7 (U.length : Int).toNat).getD i.toNat []).length : Int) == k) = false → true = true)) ∧ (((J4b U E k best i) = true → ((0 : Int) ≤ i) ∧ ((i : Int) < (J7 (U.length : Int).toNat).length) ∧ (i.toNat < (J7 (U.length : Int).toNat).length) ∧ (I6 (i + 1)) ∧ (∃ best' : ZI, ∃ i' : Int, (J1u U E k best' i') ∧ (J0v U E k best' i' < J0v U E k best i) ∧ (k = k) ∧ ((J7 (U.length : Int).toNat) = (J7 (U.length : Int).toNat)) ∧ (((J7 (U.length : Int).toNat).getD i.toNat []) = best') ∧ ((i + 1) = i') ∧ (U = U) ∧ (E = E))) ∧ ((J4b U E k best i) = false → (I6 (i + 1)) ∧ (∃ best' : ZI, ∃ i' : Int, (J1u U E k best' i') ∧ (J0v U E k best' i' < J0v U E k best i) ∧ (k = k) ∧ ((J7 (U.length : Int).toNat) = (J7 (U.length : Int).toNat)) ∧ (best = best') ∧ ((i + 1) = i') ∧ (U = U) ∧ (E = E))))) ∧ ((decide (i < (((J7 (U.length : Int).toNat).length) : Int))) = false → (((best : ZI) = (Jl U E k)))))))
theorem Jap (U : ZI) (E : ZR) (k : Int) (hg : J0 U E = true) (hk : 1 ≤ k ∧ k ≤ (U.length : Int)) (w_Open : (U.length : Int) ≤ 9223372036854775807) (w_Dist : (E.length : Int) ≤ 9223372036854775807) (v_Dist : ∀ x9 ∈ E, (x9.length : Int) ≤ 9223372036854775807) : J7p U E k := by
  unfold J7p J4b
  obtain ⟨g1, g2, g3⟩ := J2 hg
  have sl := JaN (n := (U.length : Int).toNat) (by omega)
  refine ⟨?_, ?_, ?_⟩
  ·refine Jai (U.length : Int) ?_
   ·omega
  ·refine ⟨([]), 0, ?_⟩
   refine ⟨?_, rfl, rfl, ?_, rfl, rfl, rfl⟩
   ·refine ⟨?_, ?_, ?_, ?_⟩
    ·omega
    ·omega
    ·rfl
    ·exact .inl rfl
   rfl
  intro best i hJ
  obtain ⟨h1, h2, h3, h4⟩ := hJ
  refine ⟨?_, ?_⟩
  ·intro b1
   try simp only [nrmT] at b1
   refine ⟨rfl, ?_, ?_, ?_, id, id, id, id, id, ?_, ?_, id, ?_, id, id, ?_, id, id, ?_, id, id, id, fun _ _ => rfl, ?_, rfl, id, fun _ => rfl, ?_, ?_⟩
   ·omega
   ·omega
   ·omega
   ·intro _; omega
   ·intro _; omega
   ·intro _; omega
   ·intro hg
    refine J03 U E ((J7 (U.length : Int).toNat).getD i.toNat []) ?_
    ·exact (J3E (by assumption) (getD_memI (d := []) h1 (by omega : i < ((J7 (U.length : Int).toNat).length : Int)))).1
   ·intro hg
    refine J03 U E best ?_
    ·rcases h4 with h5 | h5
     · exfalso
       rw [h5] at hg
       simp at hg
     · exact (J3E (by assumption) h5).1
   ·intro q1 q2; rw [q1, q2]; rfl
   ·intro b2
    refine ⟨?_, ?_, ?_, ?_, ?_⟩
    ·omega
    ·omega
    ·omega
    ·omega
    refine ⟨((J7 (U.length : Int).toNat).getD i.toNat []), (i + 1), ?_⟩
    refine ⟨?_, ?_, rfl, rfl, rfl, rfl, rfl, rfl⟩
    ·refine ⟨?_, ?_, ?_, ?_⟩
     ·omega
     ·omega
     ·rw [J46 (d := []) h1 (by omega), ← h3]; unfold bsB; rw [if_pos b2]
     ·exact .inr (getD_memI (d := []) h1 (by omega : i < ((J7 (U.length : Int).toNat).length : Int)))
    (simp only [J0v]; omega)
   intro b3
   refine ⟨?_, ?_⟩
   ·omega
   refine ⟨best, (i + 1), ?_⟩
   refine ⟨?_, ?_, rfl, rfl, rfl, rfl, rfl, rfl⟩
   ·refine ⟨?_, ?_, ?_, ?_⟩
    ·omega
    ·omega
    ·rw [J46 (d := []) h1 (by omega), ← h3]; unfold bsB; rw [if_neg (by rw [b3]; simp)]
    ·exact h4
   (simp only [J0v]; omega)
  intro b4
  try simp only [nrmT] at b4
  rw [h3, take_all (by omega)]
  exact Jc0 hk.1 _
theorem J4d (U : ZI) (E : ZR) (k : Int) (hg : J0 U E = true) (hk : 1 ≤ k ∧ k ≤ (U.length : Int)) : PC Tryz.prog 136 [.agg [.sl (.ints U), .sl (.rows E)], .int .i64 k] (.one (.d (.sl (.ints (Jl U E k))))) :=
  pc_wf @Tryz.call136 fun hw => pc_by (by kernel_rfl) Tryz.func136 @Tryz.call136 (by kernel_rfl) JaL (Jb2 U E k) (by kernel_rfl) (Jap U E k hg hk hw.1.1 hw.1.2.1.1 hw.1.2.1.2) (by kernel_rfl)
def J3T : List D → Orc := orcN [none, none] fun ds => match ds with
  | [.agg [.sl (.ints U), .sl (.rows E)], .int .i64 k] => some (.one (.d (.sl (.ints (Jl U E k)))))
  | _ => none
def Jh (U : ZI) (E : ZR) (k : Int) : Int := if (J0 U E && inB k 1 (U.length : Int)) = true then J4 E (Jl U E k) else 0
def J7a (f : FuncId) (ds : List D) : Orc := bif Nat.beq f 135 then J47 ds else bif Nat.beq f 136 then J3T ds else bif Nat.beq f 137 then J1e ds else .no
def J7f (U : ZI) (E : ZR) (k : Int) : Ann := .none
def J3Y (U : ZI) (E : ZR) (k : Int) : Prop :=
  (PC Tryz.prog 135 [.agg [.sl (.ints U), .sl (.rows E)], .int .i64 k] (.one (.d (.bool (J0 U E && inB k 1 (U.length : Int)))))) ∧ (((!(J0 U E && inB k 1 (U.length : Int))) = true → (((0 : Int) = (Jh U E k)) ∧ (false = (J0 U E && inB k 1 (U.length : Int))))) ∧ ((!(J0 U E && inB k 1 (U.length : Int))) = false → (true = true) ∧ (PC Tryz.prog 136 [.agg [.sl (.ints U), .sl (.rows E)], .int .i64 k] (.one (.d (.sl (.ints (Jl U E k)))))) ∧ (PC Tryz.prog 137 [.agg [.sl (.ints U), .sl (.rows E)], .sl (.ints (Jl U E k))] (.one (.d (.int .i64 (J4 E (Jl U E k)))))) ∧ (((J4 E (Jl U E k)) = (Jh U E k)) ∧ (true = (J0 U E && inB k 1 (U.length : Int))))))
theorem J6w (U : ZI) (E : ZR) (k : Int)  (w_Open : (U.length : Int) ≤ 9223372036854775807) (w_Dist : (E.length : Int) ≤ 9223372036854775807) (v_Dist : ∀ x9 ∈ E, (x9.length : Int) ≤ 9223372036854775807) : J3Y U E k := by
  unfold J3Y
  refine ⟨J4p U E k, ?_, ?_⟩
  ·intro b1
   try simp only [Bool.not_eq_true', Bool.not_eq_false', Bool.not_not] at b1
   refine ⟨?_, ?_⟩
   ·have hgk : (J0 U E && inB k 1 (U.length : Int)) = false := by simpa using b1
    unfold Jh; rw [hgk]; rfl
   have hgk : (J0 U E && inB k 1 (U.length : Int)) = false := by simpa using b1
   exact hgk.symm
  intro b2
  try simp only [Bool.not_eq_true', Bool.not_eq_false', Bool.not_not] at b2
  refine ⟨rfl, ?_, ?_, ?_, ?_⟩
  ·refine J4d U E k ?_ ?_
   ·have hgk : (J0 U E && inB k 1 (U.length : Int)) = true := by simpa using b2
    obtain ⟨hg, hk⟩ := (Bool.and_eq_true _ _ ▸ hgk : _ ∧ _)
    have hk2 := J3 hk
    exact hg
   ·have hgk : (J0 U E && inB k 1 (U.length : Int)) = true := by simpa using b2
    obtain ⟨hg, hk⟩ := (Bool.and_eq_true _ _ ▸ hgk : _ ∧ _)
    have hk2 := J3 hk
    exact hk2
  ·refine J03 U E (Jl U E k) ?_
   ·have hgk : (J0 U E && inB k 1 (U.length : Int)) = true := by simpa using b2
    obtain ⟨hg, hk⟩ := (Bool.and_eq_true _ _ ▸ hgk : _ ∧ _)
    have hk2 := J3 hk
    exact (J3E hg (J7G hk2)).1
  ·have hgk : (J0 U E && inB k 1 (U.length : Int)) = true := by simpa using b2
   obtain ⟨hg, hk⟩ := (Bool.and_eq_true _ _ ▸ hgk : _ ∧ _)
   have hk2 := J3 hk
   unfold Jh; rw [if_pos hgk]
  have hgk : (J0 U E && inB k 1 (U.length : Int)) = true := by simpa using b2
  obtain ⟨hg, hk⟩ := (Bool.and_eq_true _ _ ▸ hgk : _ ∧ _)
  have hk2 := J3 hk
  exact hgk.symm
theorem J6U (U : ZI) (E : ZR) (k : Int)  : PC Tryz.prog 47 [.agg [.sl (.ints U), .sl (.rows E)], .int .i64 k] (.tup [.d (.int .i64 (Jh U E k)), .d (.bool (J0 U E && inB k 1 (U.length : Int)))]) :=
  pc_wf @Tryz.call47 fun hw => pc_by (by kernel_rfl) Tryz.func47 @Tryz.call47 (by kernel_rfl) J7a (J7f U E k) (by kernel_rfl) (J6w U E k hw.1.1 hw.1.2.1.1 hw.1.2.1.2) (by kernel_rfl)
def J61 : List D → Orc := orcN [none, none] fun ds => match ds with
  | [.agg [.sl (.ints U), .sl (.rows E)], .int .i64 k] => some (.tup [.d (.int .i64 (Jh U E k)), .d (.bool (J0 U E && inB k 1 (U.length : Int)))])
  | _ => none
def J7q (f : FuncId) (ds : List D) : Orc := bif Nat.beq f 93 then J0O ds else bif Nat.beq f 126 then J1z ds else bif Nat.beq f 125 then JK ds else .no
def J7x (U : ZI) (E : ZR) (k : Int) : Ann := .none
def J41 (U : ZI) (E : ZR) (k : Int) : Prop :=
  (PC Tryz.prog 93 [.agg [.sl (.ints U), .sl (.rows E)], .int .i64 k] (.one (.d (.bool (J0 U E && inB k 1 (U.length : Int)))))) ∧ (((!(J0 U E && inB k 1 (U.length : Int))) = true → (((0 : Int) = (Jh U E k)) ∧ (false = (J0 U E && inB k 1 (U.length : Int))))) ∧ ((!(J0 U E && inB k 1 (U.length : Int))) = false → (true = true) ∧ (PC Tryz.prog 126 [.agg [.sl (.ints U), .sl (.rows E)], .int .i64 k] (.one (.d (.sl (.ints (Jl U E k)))))) ∧ (PC Tryz.prog 125 [.agg [.sl (.ints U), .sl (.rows E)], .sl (.ints (Jl U E k))] (.one (.d (.int .i64 (J4 E (Jl U E k)))))) ∧ (((J4 E (Jl U E k)) = (Jh U E k)) ∧ (true = (J0 U E && inB k 1 (U.length : Int))))))
theorem J6K (U : ZI) (E : ZR) (k : Int)  (w_Open : (U.length : Int) ≤ 9223372036854775807) (w_Dist : (E.length : Int) ≤ 9223372036854775807) (v_Dist : ∀ x9 ∈ E, (x9.length : Int) ≤ 9223372036854775807) : J41 U E k := by
  unfold J41
  refine ⟨J10 U E k, ?_, ?_⟩
  ·intro b1
   try simp only [Bool.not_eq_true', Bool.not_eq_false', Bool.not_not] at b1
   refine ⟨?_, ?_⟩
   ·have hgk : (J0 U E && inB k 1 (U.length : Int)) = false := by simpa using b1
    unfold Jh; rw [hgk]; rfl
   have hgk : (J0 U E && inB k 1 (U.length : Int)) = false := by simpa using b1
   exact hgk.symm
  intro b2
  try simp only [Bool.not_eq_true', Bool.not_eq_false', Bool.not_not] at b2
  refine ⟨rfl, ?_, ?_, ?_, ?_⟩
  ·refine J1T U E k ?_ ?_
   ·have hgk : (J0 U E && inB k 1 (U.length : Int)) = true := by simpa using b2
    obtain ⟨hg, hk⟩ := (Bool.and_eq_true _ _ ▸ hgk : _ ∧ _)
    have hk2 := J3 hk
    exact hg
   ·have hgk : (J0 U E && inB k 1 (U.length : Int)) = true := by simpa using b2
    obtain ⟨hg, hk⟩ := (Bool.and_eq_true _ _ ▸ hgk : _ ∧ _)
    have hk2 := J3 hk
    exact hk2
  ·refine Jp U E (Jl U E k) ?_
   ·have hgk : (J0 U E && inB k 1 (U.length : Int)) = true := by simpa using b2
    obtain ⟨hg, hk⟩ := (Bool.and_eq_true _ _ ▸ hgk : _ ∧ _)
    have hk2 := J3 hk
    exact (J3E hg (J7G hk2)).1
  ·have hgk : (J0 U E && inB k 1 (U.length : Int)) = true := by simpa using b2
   obtain ⟨hg, hk⟩ := (Bool.and_eq_true _ _ ▸ hgk : _ ∧ _)
   have hk2 := J3 hk
   unfold Jh; rw [if_pos hgk]
  have hgk : (J0 U E && inB k 1 (U.length : Int)) = true := by simpa using b2
  obtain ⟨hg, hk⟩ := (Bool.and_eq_true _ _ ▸ hgk : _ ∧ _)
  have hk2 := J3 hk
  exact hgk.symm
theorem J6X (U : ZI) (E : ZR) (k : Int)  : PC Tryz.prog 39 [.agg [.sl (.ints U), .sl (.rows E)], .int .i64 k] (.tup [.d (.int .i64 (Jh U E k)), .d (.bool (J0 U E && inB k 1 (U.length : Int)))]) :=
  pc_wf @Tryz.call39 fun hw => pc_by (by kernel_rfl) Tryz.func39 @Tryz.call39 (by kernel_rfl) J7q (J7x U E k) (by kernel_rfl) (J6K U E k hw.1.1 hw.1.2.1.1 hw.1.2.1.2) (by kernel_rfl)
def J5D : List D → Orc := orcN [none, none] fun ds => match ds with
  | [.agg [.sl (.ints U), .sl (.rows E)], .int .i64 k] => some (.tup [.d (.int .i64 (Jh U E k)), .d (.bool (J0 U E && inB k 1 (U.length : Int)))])
  | _ => none
def JP (U : ZI) (E : ZR) (n : Nat) : ZI := tabTo (fun j => J4 E (Jl U E ((j : Int) + 1))) n
theorem J3f (U : ZI) (E : ZR) (n : Nat) : (JP U E n).length = n := tabTo_len _ _
theorem J4l {U : ZI} {E : ZR} (hg : J0 U E = true) {k : Int} (hk : 1 ≤ k ∧ k ≤ (U.length : Int)) : (J0 U E && J5 (Jl U E k) 0 ((U.length : Int) - 1) && decide (0 < (Jl U E k).length)) = true := (J3E hg (J7G hk)).1
def J9 (U : ZI) (E : ZR) : ZI := if J0 U E = true then JP U E U.length else []
theorem J7k {U : ZI} {E : ZR} : (J9 U E).length ≤ 7 := by
  unfold J9
  split
  · rename_i h
    have := J2 h
    rw [J3f]; omega
  simp
theorem Jbr {v : ZI → Int} {l : ZR} : ∀ x ∈ l, v (J23 v l) ≤ v x := by
  have key : ∀ (r : ZR) (b : ZI), v (r.foldl (lsB v) b) ≤ v b ∧ ∀ x ∈ r, v (r.foldl (lsB v) b) ≤ v x := by
    intro r
    induction r with
    | nil => intro b; exact ⟨Int.le_refl _, fun x hx => by cases hx⟩
    | cons y r ih =>
      intro b
      obtain ⟨h1, h2⟩ := ih (lsB v b y)
      have h3 : v (lsB v b y) ≤ v b ∧ v (lsB v b y) ≤ v y := by
        unfold lsB
        split <;> omega
      refine ⟨Int.le_trans h1 h3.1, fun x hx => ?_⟩
      rcases List.mem_cons.1 hx with rfl | hx
      · exact Int.le_trans h1 h3.2
      exact h2 x hx
  exact fun x hx => (key l _).2 x hx
theorem J9t {U : ZI} {E : ZR} {k : Int} (hk : 1 ≤ k ∧ k ≤ (U.length : Int)) : ((Jl U E k).length : Int) = k := by
  have h := (List.mem_filter.1 (J7n (v := J4 E) (J7U hk))).2
  have h : (!(decide (((Jl U E k).length : Int) ≠ k))) = true := h
  simpa using h
abbrev J0T (U : ZI) (E : ZR) (out : ZI) (i : Int) : Prop := (0 ≤ i) ∧ (i ≤ (U.length : Int)) ∧ (out = JP U E i.toNat)
abbrev J0S (U : ZI) (E : ZR) (out : ZI) (i : Int) : Nat := (U.length - i).toNat
def J6C (f : FuncId) (ds : List D) : Orc := bif Nat.beq f 126 then J1z ds else bif Nat.beq f 125 then JK ds else .no
def J6p (U : ZI) (E : ZR) : Ann := .two (.none) (.two (.none) (.two (.two (.none) (.loop (cut2 (fun (out : ZI) (i : Int) => J0T U E out i) (fun (out : ZI) (i : Int) => [(1, .ptr 1 0), (3, .own 1000000 out.length), (8, .d true (.int .i64 (U.length : Int))), (9, .d true (.int .i64 i))]) (fun (out : ZI) (i : Int) => [(1000000, .arr true 3 (.ints out)), (1, .box 27 [.d false (.sl (.ints U)), .d false (.sl (.rows E))])])) (fun g => J0S U E g.1 g.2) (fun _ => .none))) (.none)))
def J3K (U : ZI) (E : ZR) : Prop :=
  ((∃ out' : ZI, ∃ i' : Int, (J0T U E out' i') ∧ ((0 : Nat) = out'.length) ∧ ((U.length : Int) = (U.length : Int)) ∧ ((0 : Int) = i') ∧ ([] = out') ∧ (U = U) ∧ (E = E)) ∧ (∀ out : ZI, ∀ i : Int, (J0T U E out i) → (((decide (i < (U.length : Int))) = true → (true = true) ∧ (I6 (i + 1)) ∧ (PC Tryz.prog 126 [.agg [.sl (.ints U), .sl (.rows E)], .int .i64 (i + 1)] (.one (.d (.sl (.ints (Jl U E (i + 1))))))) ∧ (PC Tryz.prog 125 [.agg [.sl (.ints U), .sl (.rows E)], .sl (.ints (Jl U E (i + 1)))] (.one (.d (.int .i64 (J4 E (Jl U E (i + 1))))))) ∧ (out.length = out.length) ∧ ((1 : Nat) = 1) ∧ ((out.length + 1) * 8 ≤ 140737488355328) ∧ (I6 (i + 1)) ∧ (∃ out' : ZI, ∃ i' : Int, (J0T U E out' i') ∧ (J0S U E out' i' < J0S U E out i) ∧ ((out.length + 1) = out'.length) ∧ ((U.length : Int) = (U.length : Int)) ∧ ((i + 1) = i') ∧ ((out ++ [(J4 E (Jl U E (i + 1)))]) = out') ∧ (U = U) ∧ (E = E))) ∧ ((decide (i < (U.length : Int))) = false → ((out.length = out.length) ∧ ((out : ZI) = JP U E U.length))))))
theorem J5C (U : ZI) (E : ZR) (hg : J0 U E = true) (w_Open : (U.length : Int) ≤ 9223372036854775807) (w_Dist : (E.length : Int) ≤ 9223372036854775807) (v_Dist : ∀ x9 ∈ E, (x9.length : Int) ≤ 9223372036854775807) : J3K U E := by
  unfold J3K
  obtain ⟨g1, g2, g3⟩ := J2 hg
  refine ⟨?_, ?_⟩
  ·refine ⟨([]), 0, ?_⟩
   refine ⟨?_, rfl, rfl, rfl, ?_, rfl, rfl⟩
   ·refine ⟨?_, ?_, ?_⟩
    ·omega
    ·omega
    ·rfl
   rfl
  intro out i hJ
  obtain ⟨h1, h2, h3⟩ := hJ
  refine ⟨?_, ?_⟩
  ·intro b1
   try simp only [nrmT] at b1
   refine ⟨rfl, ?_, ?_, ?_, rfl, rfl, ?_, ?_, ?_⟩
   ·omega
   ·refine J1T U E (i + 1) ?_ ?_
    ·omega
    ·omega
   ·refine Jp U E (Jl U E (i + 1)) ?_
    ·exact J4l hg (by omega)
   ·rw [h3, J3f]; omega
   ·omega
   refine ⟨(out ++ [(J4 E (Jl U E (i + 1)))]), (i + 1), ?_⟩
   refine ⟨?_, ?_, ?_, rfl, rfl, rfl, rfl, rfl⟩
   ·refine ⟨?_, ?_, ?_⟩
    ·omega
    ·omega
    ·rw [h3, show (i + 1).toNat = i.toNat + 1 by omega]
     unfold JP
     rw [tabTo_succ, show ((i.toNat : Nat) : Int) + 1 = i + 1 by omega]
   ·(simp only [J0S]; omega)
   (simp_all; done)
  intro b2
  try simp only [nrmT] at b2
  refine ⟨rfl, ?_⟩
  ·rw [h3, show i.toNat = U.length by omega]
theorem J64 (U : ZI) (E : ZR) (hg : J0 U E = true) : PC Tryz.prog 144 [.agg [.sl (.ints U), .sl (.rows E)]] (.one (.own 3 (.ints (JP U E U.length)))) :=
  pc_wf @Tryz.call144 fun hw => pc_by (by kernel_rfl) Tryz.func144 @Tryz.call144 (by kernel_rfl) J6C (J6p U E) (by kernel_rfl) (J5C U E hg hw.1.1 hw.1.2.1.1 hw.1.2.1.2) (by kernel_rfl)
def J5s : List D → Orc := orcN [none] fun ds => match ds with
  | [.agg [.sl (.ints U), .sl (.rows E)]] => some (.one (.own 3 (.ints (JP U E U.length))))
  | _ => none
abbrev J1R (U : ZI) (E : ZR) (out : ZI) (k : Int) : Prop := (1 ≤ k) ∧ (k ≤ (U.length : Int) + 1) ∧ (out = JP U E (k.toNat - 1))
abbrev J1S (U : ZI) (E : ZR) (out : ZI) (k : Int) : Nat := (U.length + 1 - k).toNat
def J9i (f : FuncId) (ds : List D) : Orc := bif Nat.beq f 136 then J3T ds else bif Nat.beq f 137 then J1e ds else .no
def J9q (U : ZI) (E : ZR) : Ann := .two (.none) (.two (.none) (.two (.two (.none) (.loop (cut2 (fun (out : ZI) (k : Int) => J1R U E out k) (fun (out : ZI) (k : Int) => [(1, .ptr 1 0), (3, .own 1000000 out.length), (4, .d true (.int .i64 k))]) (fun (out : ZI) (k : Int) => [(1000000, .arr true 3 (.ints out)), (1, .box 27 [.d false (.sl (.ints U)), .d false (.sl (.rows E))])])) (fun g => J1S U E g.1 g.2) (fun _ => .none))) (.none)))
def J54 (U : ZI) (E : ZR) : Prop :=
  ((∃ out' : ZI, ∃ k' : Int, (J1R U E out' k') ∧ ((0 : Nat) = out'.length) ∧ ((1 : Int) = k') ∧ ([] = out') ∧ (U = U) ∧ (E = E)) ∧ (∀ out : ZI, ∀ k : Int, (J1R U E out k) → (((decide (k ≤ (U.length : Int))) = true → (true = true) ∧ (PC Tryz.prog 136 [.agg [.sl (.ints U), .sl (.rows E)], .int .i64 k] (.one (.d (.sl (.ints (Jl U E k)))))) ∧ (PC Tryz.prog 137 [.agg [.sl (.ints U), .sl (.rows E)], .sl (.ints (Jl U E k))] (.one (.d (.int .i64 (J4 E (Jl U E k)))))) ∧ (out.length = out.length) ∧ ((1 : Nat) = 1) ∧ ((out.length + 1) * 8 ≤ 140737488355328) ∧ (I6 (k + 1)) ∧ (∃ out' : ZI, ∃ k' : Int, (J1R U E out' k') ∧ (J1S U E out' k' < J1S U E out k) ∧ ((out.length + 1) = out'.length) ∧ ((k + 1) = k') ∧ ((out ++ [(J4 E (Jl U E k))]) = out') ∧ (U = U) ∧ (E = E))) ∧ ((decide (k ≤ (U.length : Int))) = false → ((out.length = out.length) ∧ ((out : ZI) = JP U E U.length))))))
theorem J94 (U : ZI) (E : ZR) (hg : J0 U E = true) (w_Open : (U.length : Int) ≤ 9223372036854775807) (w_Dist : (E.length : Int) ≤ 9223372036854775807) (v_Dist : ∀ x9 ∈ E, (x9.length : Int) ≤ 9223372036854775807) : J54 U E := by
  unfold J54
  obtain ⟨g1, g2, g3⟩ := J2 hg
  refine ⟨?_, ?_⟩
  ·refine ⟨([]), 1, ?_⟩
   refine ⟨?_, rfl, rfl, ?_, rfl, rfl⟩
   ·refine ⟨?_, ?_, ?_⟩
    ·omega
    ·omega
    ·rfl
   rfl
  intro out k hJ
  obtain ⟨h1, h2, h3⟩ := hJ
  refine ⟨?_, ?_⟩
  ·intro b1
   try simp only [nrmT] at b1
   refine ⟨rfl, ?_, ?_, rfl, rfl, ?_, ?_, ?_⟩
   ·refine J4d U E k ?_ ?_
    ·omega
    ·omega
   ·refine J03 U E (Jl U E k) ?_
    ·exact J4l hg (by omega)
   ·rw [h3, J3f]; omega
   ·omega
   refine ⟨(out ++ [(J4 E (Jl U E k))]), (k + 1), ?_⟩
   refine ⟨?_, ?_, ?_, rfl, rfl, rfl, rfl⟩
   ·refine ⟨?_, ?_, ?_⟩
    ·omega
    ·omega
    ·rw [h3, show (k + 1).toNat - 1 = (k.toNat - 1) + 1 by omega]
     unfold JP
     rw [tabTo_succ, show ((k.toNat - 1 : Nat) : Int) + 1 = k by omega]
   ·(simp only [J1S]; omega)
   (simp_all; done)
  intro b2
  try simp only [nrmT] at b2
  refine ⟨rfl, ?_⟩
  ·rw [h3, show k.toNat - 1 = U.length by omega]
theorem J8V (U : ZI) (E : ZR) (hg : J0 U E = true) : PC Tryz.prog 145 [.agg [.sl (.ints U), .sl (.rows E)]] (.one (.own 3 (.ints (JP U E U.length)))) :=
  pc_wf @Tryz.call145 fun hw => pc_by (by kernel_rfl) Tryz.func145 @Tryz.call145 (by kernel_rfl) J9i (J9q U E) (by kernel_rfl) (J94 U E hg hw.1.1 hw.1.2.1.1 hw.1.2.1.2) (by kernel_rfl)
def J7M : List D → Orc := orcN [none] fun ds => match ds with
  | [.agg [.sl (.ints U), .sl (.rows E)]] => some (.one (.own 3 (.ints (JP U E U.length))))
  | _ => none
def J7d (f : FuncId) (ds : List D) : Orc := bif Nat.beq f 112 then J59 ds else bif Nat.beq f 145 then J7M ds else .no
def J73 (U : ZI) (E : ZR) : Ann := .none
def J3Z (U : ZI) (E : ZR) : Prop :=
  (PC Tryz.prog 112 [.agg [.sl (.ints U), .sl (.rows E)]] (.one (.d (.bool (J0 U E))))) ∧ (((!(J0 U E)) = true → (((0 : Nat) = 0) ∧ (([] : ZI) = J9 U E) ∧ (false = (J0 U E)))) ∧ ((!(J0 U E)) = false → (PC Tryz.prog 145 [.agg [.sl (.ints U), .sl (.rows E)]] (.one (.own 3 (.ints (JP U E U.length))))) ∧ (((JP U E U.length).length = (JP U E U.length).length) ∧ ((JP U E U.length : ZI) = J9 U E) ∧ (true = (J0 U E)))))
theorem J6D (U : ZI) (E : ZR)  (w_Open : (U.length : Int) ≤ 9223372036854775807) (w_Dist : (E.length : Int) ≤ 9223372036854775807) (v_Dist : ∀ x9 ∈ E, (x9.length : Int) ≤ 9223372036854775807) : J3Z U E := by
  unfold J3Z
  refine ⟨J6b U E, ?_, ?_⟩
  ·intro b1
   try simp only [nrmT] at b1
   refine ⟨rfl, ?_, ?_⟩
   ·unfold J9; rw [b1]; rfl
   exact b1.symm
  intro b2
  try simp only [nrmT] at b2
  refine ⟨?_, rfl, ?_, ?_⟩
  ·refine J8V U E ?_
   ·exact b2
  ·unfold J9; rw [if_pos b2]
  exact b2.symm
theorem J6m (U : ZI) (E : ZR)  : PC Tryz.prog 53 [.agg [.sl (.ints U), .sl (.rows E)]] (.tup [.own 3 (.ints (J9 U E)), .d (.bool (J0 U E))]) :=
  pc_wf @Tryz.call53 fun hw => pc_by (by kernel_rfl) Tryz.func53 @Tryz.call53 (by kernel_rfl) J7d (J73 U E) (by kernel_rfl) (J6D U E hw.1.1 hw.1.2.1.1 hw.1.2.1.2) (by kernel_rfl)
def J62 : List D → Orc := orcN [none] fun ds => match ds with
  | [.agg [.sl (.ints U), .sl (.rows E)]] => some (.tup [.own 3 (.ints (J9 U E)), .d (.bool (J0 U E))])
  | _ => none
def J7v (f : FuncId) (ds : List D) : Orc := bif Nat.beq f 111 then J3n ds else bif Nat.beq f 144 then J5s ds else .no
def J77 (U : ZI) (E : ZR) : Ann := .none
def J49 (U : ZI) (E : ZR) : Prop :=
  (PC Tryz.prog 111 [.agg [.sl (.ints U), .sl (.rows E)]] (.one (.d (.bool (J0 U E))))) ∧ (((!(J0 U E)) = true → (((J9 U E).length = 0) ∧ (false = (J0 U E)))) ∧ ((!(J0 U E)) = false → (PC Tryz.prog 144 [.agg [.sl (.ints U), .sl (.rows E)]] (.one (.own 3 (.ints (JP U E U.length))))) ∧ (((JP U E U.length).length = (JP U E U.length).length) ∧ ((JP U E U.length : ZI) = J9 U E) ∧ (true = (J0 U E)))))
theorem J6x (U : ZI) (E : ZR)  (w_Open : (U.length : Int) ≤ 9223372036854775807) (w_Dist : (E.length : Int) ≤ 9223372036854775807) (v_Dist : ∀ x9 ∈ E, (x9.length : Int) ≤ 9223372036854775807) : J49 U E := by
  unfold J49
  refine ⟨J3R U E, ?_, ?_⟩
  ·intro b1
   try simp only [nrmT] at b1
   refine ⟨?_, ?_⟩
   ·unfold J9; rw [b1]; rfl
   exact b1.symm
  intro b2
  try simp only [nrmT] at b2
  refine ⟨?_, rfl, ?_, ?_⟩
  ·refine J64 U E ?_
   ·exact b2
  ·unfold J9; rw [if_pos b2]
  exact b2.symm
theorem J6O (U : ZI) (E : ZR)  : PC Tryz.prog 52 [.agg [.sl (.ints U), .sl (.rows E)]] (.tup [.own 3 (.ints (J9 U E)), .d (.bool (J0 U E))]) :=
  pc_wf @Tryz.call52 fun hw => pc_by (by kernel_rfl) Tryz.func52 @Tryz.call52 (by kernel_rfl) J7v (J77 U E) (by kernel_rfl) (J6x U E hw.1.1 hw.1.2.1.1 hw.1.2.1.2) (by kernel_rfl)
def J65 : List D → Orc := orcN [none] fun ds => match ds with
  | [.agg [.sl (.ints U), .sl (.rows E)]] => some (.tup [.own 3 (.ints (J9 U E)), .d (.bool (J0 U E))])
  | _ => none
def Jc (U : ZI) (E : ZR) (k : Int) : ZI := if (J0 U E && inB k 1 (U.length : Int)) = true then Jl U E k else []
def J97 (f : FuncId) (ds : List D) : Orc := bif Nat.beq f 135 then J47 ds else bif Nat.beq f 136 then J3T ds else .no
def J9R (U : ZI) (E : ZR) (k : Int) : Ann := .none
def J5a (U : ZI) (E : ZR) (k : Int) : Prop :=
  (PC Tryz.prog 135 [.agg [.sl (.ints U), .sl (.rows E)], .int .i64 k] (.one (.d (.bool (J0 U E && inB k 1 (U.length : Int)))))) ∧ (((!(J0 U E && inB k 1 (U.length : Int))) = true → (((0 : Nat) = 0) ∧ (([] : ZI) = (Jc U E k)) ∧ (false = (J0 U E && inB k 1 (U.length : Int))))) ∧ ((!(J0 U E && inB k 1 (U.length : Int))) = false → (PC Tryz.prog 136 [.agg [.sl (.ints U), .sl (.rows E)], .int .i64 k] (.one (.d (.sl (.ints (Jl U E k)))))) ∧ ((((Jl U E k) : ZI) = (Jc U E k)) ∧ (true = (J0 U E && inB k 1 (U.length : Int))))))
theorem J8N (U : ZI) (E : ZR) (k : Int)  (w_Open : (U.length : Int) ≤ 9223372036854775807) (w_Dist : (E.length : Int) ≤ 9223372036854775807) (v_Dist : ∀ x9 ∈ E, (x9.length : Int) ≤ 9223372036854775807) : J5a U E k := by
  unfold J5a
  refine ⟨J4p U E k, ?_, ?_⟩
  ·intro b1
   try simp only [Bool.not_eq_true', Bool.not_eq_false', Bool.not_not] at b1
   refine ⟨rfl, ?_, ?_⟩
   ·have hgk : (J0 U E && inB k 1 (U.length : Int)) = false := by simpa using b1
    unfold Jc; rw [hgk]; rfl
   have hgk : (J0 U E && inB k 1 (U.length : Int)) = false := by simpa using b1
   exact hgk.symm
  intro b2
  try simp only [Bool.not_eq_true', Bool.not_eq_false', Bool.not_not] at b2
  refine ⟨?_, ?_, ?_⟩
  ·refine J4d U E k ?_ ?_
   ·have hgk : (J0 U E && inB k 1 (U.length : Int)) = true := by simpa using b2
    obtain ⟨hg, hk⟩ := (Bool.and_eq_true _ _ ▸ hgk : _ ∧ _)
    have hk2 := J3 hk
    exact hg
   ·have hgk : (J0 U E && inB k 1 (U.length : Int)) = true := by simpa using b2
    obtain ⟨hg, hk⟩ := (Bool.and_eq_true _ _ ▸ hgk : _ ∧ _)
    have hk2 := J3 hk
    exact hk2
  ·have hgk : (J0 U E && inB k 1 (U.length : Int)) = true := by simpa using b2
   obtain ⟨hg, hk⟩ := (Bool.and_eq_true _ _ ▸ hgk : _ ∧ _)
   have hk2 := J3 hk
   unfold Jc; rw [if_pos hgk]
  have hgk : (J0 U E && inB k 1 (U.length : Int)) = true := by simpa using b2
  obtain ⟨hg, hk⟩ := (Bool.and_eq_true _ _ ▸ hgk : _ ∧ _)
  have hk2 := J3 hk
  exact hgk.symm
theorem J8U (U : ZI) (E : ZR) (k : Int)  : PC Tryz.prog 46 [.agg [.sl (.ints U), .sl (.rows E)], .int .i64 k] (.tup [.d (.sl (.ints (Jc U E k))), .d (.bool (J0 U E && inB k 1 (U.length : Int)))]) :=
  pc_wf @Tryz.call46 fun hw => pc_by (by kernel_rfl) Tryz.func46 @Tryz.call46 (by kernel_rfl) J97 (J9R U E k) (by kernel_rfl) (J8N U E k hw.1.1 hw.1.2.1.1 hw.1.2.1.2) (by kernel_rfl)
def J7X : List D → Orc := orcN [none, none] fun ds => match ds with
  | [.agg [.sl (.ints U), .sl (.rows E)], .int .i64 k] => some (.tup [.d (.sl (.ints (Jc U E k))), .d (.bool (J0 U E && inB k 1 (U.length : Int)))])
  | _ => none
def J9D (f : FuncId) (ds : List D) : Orc := bif Nat.beq f 93 then J0O ds else bif Nat.beq f 126 then J1z ds else .no
def J9L (U : ZI) (E : ZR) (k : Int) : Ann := .none
def J53 (U : ZI) (E : ZR) (k : Int) : Prop :=
  (PC Tryz.prog 93 [.agg [.sl (.ints U), .sl (.rows E)], .int .i64 k] (.one (.d (.bool (J0 U E && inB k 1 (U.length : Int)))))) ∧ (((!(J0 U E && inB k 1 (U.length : Int))) = true → (((Jc U E k).length = 0) ∧ (false = (J0 U E && inB k 1 (U.length : Int))))) ∧ ((!(J0 U E && inB k 1 (U.length : Int))) = false → (PC Tryz.prog 126 [.agg [.sl (.ints U), .sl (.rows E)], .int .i64 k] (.one (.d (.sl (.ints (Jl U E k)))))) ∧ ((((Jl U E k) : ZI) = (Jc U E k)) ∧ (true = (J0 U E && inB k 1 (U.length : Int))))))
theorem J8L (U : ZI) (E : ZR) (k : Int)  (w_Open : (U.length : Int) ≤ 9223372036854775807) (w_Dist : (E.length : Int) ≤ 9223372036854775807) (v_Dist : ∀ x9 ∈ E, (x9.length : Int) ≤ 9223372036854775807) : J53 U E k := by
  unfold J53
  refine ⟨J10 U E k, ?_, ?_⟩
  ·intro b1
   try simp only [Bool.not_eq_true', Bool.not_eq_false', Bool.not_not] at b1
   refine ⟨?_, ?_⟩
   ·have hgk : (J0 U E && inB k 1 (U.length : Int)) = false := by simpa using b1
    unfold Jc; rw [hgk]; rfl
   have hgk : (J0 U E && inB k 1 (U.length : Int)) = false := by simpa using b1
   exact hgk.symm
  intro b2
  try simp only [Bool.not_eq_true', Bool.not_eq_false', Bool.not_not] at b2
  refine ⟨?_, ?_, ?_⟩
  ·refine J1T U E k ?_ ?_
   ·have hgk : (J0 U E && inB k 1 (U.length : Int)) = true := by simpa using b2
    obtain ⟨hg, hk⟩ := (Bool.and_eq_true _ _ ▸ hgk : _ ∧ _)
    have hk2 := J3 hk
    exact hg
   ·have hgk : (J0 U E && inB k 1 (U.length : Int)) = true := by simpa using b2
    obtain ⟨hg, hk⟩ := (Bool.and_eq_true _ _ ▸ hgk : _ ∧ _)
    have hk2 := J3 hk
    exact hk2
  ·have hgk : (J0 U E && inB k 1 (U.length : Int)) = true := by simpa using b2
   obtain ⟨hg, hk⟩ := (Bool.and_eq_true _ _ ▸ hgk : _ ∧ _)
   have hk2 := J3 hk
   unfold Jc; rw [if_pos hgk]
  have hgk : (J0 U E && inB k 1 (U.length : Int)) = true := by simpa using b2
  obtain ⟨hg, hk⟩ := (Bool.and_eq_true _ _ ▸ hgk : _ ∧ _)
  have hk2 := J3 hk
  exact hgk.symm
theorem J8F (U : ZI) (E : ZR) (k : Int)  : PC Tryz.prog 45 [.agg [.sl (.ints U), .sl (.rows E)], .int .i64 k] (.tup [.d (.sl (.ints (Jc U E k))), .d (.bool (J0 U E && inB k 1 (U.length : Int)))]) :=
  pc_wf @Tryz.call45 fun hw => pc_by (by kernel_rfl) Tryz.func45 @Tryz.call45 (by kernel_rfl) J9D (J9L U E k) (by kernel_rfl) (J8L U E k hw.1.1 hw.1.2.1.1 hw.1.2.1.2) (by kernel_rfl)
def J80 : List D → Orc := orcN [none, none] fun ds => match ds with
  | [.agg [.sl (.ints U), .sl (.rows E)], .int .i64 k] => some (.tup [.d (.sl (.ints (Jc U E k))), .d (.bool (J0 U E && inB k 1 (U.length : Int)))])
  | _ => none
def chs (n : Nat) : ZR := [[]] ++ J7 n
theorem Jcp {n : Nat} {s : ZI} : s ∈ chs n ↔ ∃ c, c < 2 ^ n ∧ lst n c = s := by
  unfold chs
  rw [List.mem_append, J4R]
  have h0 : lst n 0 = [] := by
    cases e : lst n 0 with
    | nil => rfl
    | cons x r =>
      have hm : x ∈ lst n 0 := by rw [e]; exact List.mem_cons_self
      have := (mem_members.1 hm).2.2
      rw [Nat.zero_testBit] at this
      cases this
  constructor
  · rintro (h | ⟨c, h1, h2, h3⟩)
    · exact ⟨0, Nat.two_pow_pos n, by rw [List.mem_singleton.1 h, h0]⟩
    · exact ⟨c, h2, h3⟩
  rintro ⟨c, h1, h2⟩
  by_cases e : c = 0
  · left; rw [← h2, e, h0]; exact List.mem_singleton.2 rfl
  exact .inr ⟨c, by omega, h1, h2⟩
/-- How far a cursor has read, and its seed. -/
structure Cur where
  pos : Int
  seed : Int
abbrev J9p : Cur := ⟨0, 0⟩
def okC (c : Cur) (b : Int) : Prop := 0 ≤ c.pos ∧ c.pos ≤ b ∧ 0 ≤ c.seed ∧ c.seed ≤ 18446744073709551615
theorem J9V (g : Bool) (a b : Cur) : cond g a.pos b.pos = (cond g a b).pos := by cases g <;> rfl
theorem J8O (g : Bool) (a b : Cur) : cond g a.seed b.seed = (cond g a b).seed := by cases g <;> rfl
def nxB (code : List Nat) (c : Cur) : Int := if c.pos < (code.length : Int) then ((code.getD c.pos.toNat 0 : Nat) : Int) else 0
def Jb (code : List Nat) (c : Cur) : Cur := ⟨c.pos + 1, IntKind.u64.wrap (IntKind.u64.wrap (IntKind.u64.wrap (c.seed * 6364136223846793005) + nxB code c) + 462197)⟩
def JD (code : List Nat) (c : Cur) : Int := if c.pos + 1 ≤ (code.length : Int) then nxB code c else ((((Jb code c).seed / 2 ^ 40).toNat &&& 255 : Nat) : Int)
theorem J6n (n : Int) : 0 ≤ IntKind.u64.wrap n ∧ IntKind.u64.wrap n ≤ 18446744073709551615 := by
  have h : IntKind.u64.wrap n = n % 18446744073709551616 := rfl
  omega
theorem Jbi {code : List Nat} (hb : ∀ x9 ∈ code, x9 < 256) (c : Cur) (h0 : 0 ≤ c.pos) : 0 ≤ nxB code c ∧ nxB code c ≤ 255 := by
  unfold nxB
  split
  · have := hb _ (getD_mem (d := 0) (show c.pos.toNat < code.length by omega))
    omega
  omega
theorem Jbw (n : Nat) : n &&& 255 ≤ 255 := Nat.and_le_right
theorem J1v {code : List Nat} (hb : ∀ x9 ∈ code, x9 < 256) {c : Cur} (h0 : 0 ≤ c.pos) : 0 ≤ JD code c ∧ JD code c ≤ 255 := by
  unfold JD
  split
  · exact Jbi hb c h0
  have := Jbw ((Jb code c).seed / 2 ^ 40).toNat
  omega
theorem J0F {code : List Nat} {c : Cur} {b : Int} (h : okC c b) : okC (Jb code c) (b + 1) := by
  obtain ⟨h1, h2, _, _⟩ := h
  exact ⟨by show 0 ≤ c.pos + 1; omega, by show c.pos + 1 ≤ b + 1; omega, (J6n _).1, (J6n _).2⟩
theorem J8 {c : Cur} {b b' : Int} (h : okC c b) (hb : b ≤ b') : okC c b' := ⟨h.1, Int.le_trans h.2.1 hb, h.2.2⟩
def J8b (f : FuncId) (ds : List D) : Orc := .no
def J7F (u : Value) (code : List Nat) (c : Cur) : Ann := .two (.none) (.two (.none) (.two (.none) (.two (.none) (.two (.reg [(5, .wrap), (8, .wrap), (9, .wrap)]) (.none)))))
def J2Z (u : Value) (code : List Nat) (c : Cur) : Prop :=
  (true = true) ∧ (((decide (c.pos < (code.length : Int))) = true → (true = true) ∧ ((0 : Int) ≤ c.pos) ∧ ((c.pos : Int) < code.length) ∧ (c.pos.toNat < code.length) ∧ (I6 ((code.getD c.pos.toNat 0 : Nat) : Int)) ∧ (I6 (c.pos + 1)) ∧ (0 ≤ ((code.getD c.pos.toNat 0 : Nat) : Int) ∧ ((code.getD c.pos.toNat 0 : Nat) : Int) ≤ 18446744073709551615) ∧ (true = true) ∧ (((decide ((c.pos + 1) ≤ (code.length : Int))) = true → (((.lit u (.sl (.bytes code)) : D) = .lit u (.sl (.bytes code))) ∧ ((c.pos + 1) = (Jb code c).pos) ∧ ((IntKind.u64.wrap ((IntKind.u64.wrap ((IntKind.u64.wrap (c.seed * 6364136223846793005)) + ((code.getD c.pos.toNat 0 : Nat) : Int))) + 462197)) = (Jb code c).seed) ∧ (((code.getD c.pos.toNat 0 : Nat) : Int) = (JD code c)))) ∧ ((decide ((c.pos + 1) ≤ (code.length : Int))) = false → ((0 : Int) ≤ (IntKind.u64.wrap ((IntKind.u64.wrap ((IntKind.u64.wrap (c.seed * 6364136223846793005)) + ((code.getD c.pos.toNat 0 : Nat) : Int))) + 462197)) ∧ ((IntKind.u64.wrap ((IntKind.u64.wrap ((IntKind.u64.wrap (c.seed * 6364136223846793005)) + ((code.getD c.pos.toNat 0 : Nat) : Int))) + 462197)) : Int) ≤ 18446744073709551615) ∧ ((0 : Int) ≤ 40) ∧ ((0 : Int) ≤ ((IntKind.u64.wrap ((IntKind.u64.wrap ((IntKind.u64.wrap (c.seed * 6364136223846793005)) + ((code.getD c.pos.toNat 0 : Nat) : Int))) + 462197)) / 2 ^ 40) ∧ (((IntKind.u64.wrap ((IntKind.u64.wrap ((IntKind.u64.wrap (c.seed * 6364136223846793005)) + ((code.getD c.pos.toNat 0 : Nat) : Int))) + 462197)) / 2 ^ 40) : Int) ≤ 18446744073709551615) ∧ ((0 : Int) ≤ 255 ∧ (255 : Int) ≤ 18446744073709551615) ∧ (I6 ((((IntKind.u64.wrap ((IntKind.u64.wrap ((IntKind.u64.wrap (c.seed * 6364136223846793005)) + ((code.getD c.pos.toNat 0 : Nat) : Int))) + 462197)) / 2 ^ 40).toNat &&& 255 : Nat) : Int)) ∧ (((.lit u (.sl (.bytes code)) : D) = .lit u (.sl (.bytes code))) ∧ ((c.pos + 1) = (Jb code c).pos) ∧ ((IntKind.u64.wrap ((IntKind.u64.wrap ((IntKind.u64.wrap (c.seed * 6364136223846793005)) + ((code.getD c.pos.toNat 0 : Nat) : Int))) + 462197)) = (Jb code c).seed) ∧ (((((IntKind.u64.wrap ((IntKind.u64.wrap ((IntKind.u64.wrap (c.seed * 6364136223846793005)) + ((code.getD c.pos.toNat 0 : Nat) : Int))) + 462197)) / 2 ^ 40).toNat &&& 255 : Nat) : Int) = (JD code c)))))) ∧ ((decide (c.pos < (code.length : Int))) = false → (I6 (c.pos + 1)) ∧ (0 ≤ (0 : Int) ∧ (0 : Int) ≤ 18446744073709551615) ∧ (true = true) ∧ (((decide ((c.pos + 1) ≤ (code.length : Int))) = true → (((.lit u (.sl (.bytes code)) : D) = .lit u (.sl (.bytes code))) ∧ ((c.pos + 1) = (Jb code c).pos) ∧ ((IntKind.u64.wrap ((IntKind.u64.wrap ((IntKind.u64.wrap (c.seed * 6364136223846793005)) + 0)) + 462197)) = (Jb code c).seed) ∧ ((0 : Int) = (JD code c)))) ∧ ((decide ((c.pos + 1) ≤ (code.length : Int))) = false → ((0 : Int) ≤ (IntKind.u64.wrap ((IntKind.u64.wrap ((IntKind.u64.wrap (c.seed * 6364136223846793005)) + 0)) + 462197)) ∧ ((IntKind.u64.wrap ((IntKind.u64.wrap ((IntKind.u64.wrap (c.seed * 6364136223846793005)) + 0)) + 462197)) : Int) ≤ 18446744073709551615) ∧ ((0 : Int) ≤ 40) ∧ ((0 : Int) ≤ ((IntKind.u64.wrap ((IntKind.u64.wrap ((IntKind.u64.wrap (c.seed * 6364136223846793005)) + 0)) + 462197)) / 2 ^ 40) ∧ (((IntKind.u64.wrap ((IntKind.u64.wrap ((IntKind.u64.wrap (c.seed * 6364136223846793005)) + 0)) + 462197)) / 2 ^ 40) : Int) ≤ 18446744073709551615) ∧ ((0 : Int) ≤ 255 ∧ (255 : Int) ≤ 18446744073709551615) ∧ (I6 ((((IntKind.u64.wrap ((IntKind.u64.wrap ((IntKind.u64.wrap (c.seed * 6364136223846793005)) + 0)) + 462197)) / 2 ^ 40).toNat &&& 255 : Nat) : Int)) ∧ (((.lit u (.sl (.bytes code)) : D) = .lit u (.sl (.bytes code))) ∧ ((c.pos + 1) = (Jb code c).pos) ∧ ((IntKind.u64.wrap ((IntKind.u64.wrap ((IntKind.u64.wrap (c.seed * 6364136223846793005)) + 0)) + 462197)) = (Jb code c).seed) ∧ (((((IntKind.u64.wrap ((IntKind.u64.wrap ((IntKind.u64.wrap (c.seed * 6364136223846793005)) + 0)) + 462197)) / 2 ^ 40).toNat &&& 255 : Nat) : Int) = (JD code c)))))))
theorem J7g (u : Value) (code : List Nat) (c : Cur) (hb : ∀ x9 ∈ code, x9 < 256) (hc : okC c 1000000000000)  : J2Z u code c := by
  unfold J2Z
  obtain ⟨c1, c2, c3, c4⟩ := hc
  have nb := Jbi hb c c1
  have w64 := J6n
  refine ⟨rfl, ?_, ?_⟩
  ·intro b1
   try simp only [nrmT] at b1
   refine ⟨rfl, ?_, ?_, ?_, ?_, ?_, ?_, rfl, ?_, ?_⟩
   ·omega
   ·omega
   ·omega
   ·have := hb _ (getD_mem (d := 0) (show c.pos.toNat < code.length by omega))
    omega
   ·omega
   ·have := hb _ (getD_mem (d := 0) (show c.pos.toNat < code.length by omega))
    omega
   ·intro b2
    try simp only [nrmT] at b2
    refine ⟨rfl, ?_, ?_, ?_⟩
    ·rfl
    ·have hs : (Jb code c).seed = IntKind.u64.wrap (IntKind.u64.wrap (IntKind.u64.wrap (c.seed * 6364136223846793005) + nxB code c) + 462197) := rfl
     first | rw [show nxB code c = ((code.getD c.pos.toNat 0 : Nat) : Int) from if_pos (by omega)] at hs | rw [show nxB code c = 0 from if_neg (by omega)] at hs
     first | exact hs.symm | (exfalso; omega)
    unfold JD nxB; rw [if_pos (by omega), if_pos (by omega)]
   intro b3
   try simp only [nrmT] at b3
   refine ⟨?_, ?_, ?_, ?_, ?_, rfl, ?_, ?_, ?_⟩
   ·have := hb _ (getD_mem (d := 0) (show c.pos.toNat < code.length by omega))
    omega
   ·omega
   ·have := hb _ (getD_mem (d := 0) (show c.pos.toNat < code.length by omega))
    omega
   ·omega
   ·have := hb _ (getD_mem (d := 0) (show c.pos.toNat < code.length by omega))
    omega
   ·omega
   ·have hs : (Jb code c).seed = IntKind.u64.wrap (IntKind.u64.wrap (IntKind.u64.wrap (c.seed * 6364136223846793005) + nxB code c) + 462197) := rfl
    first | rw [show nxB code c = ((code.getD c.pos.toNat 0 : Nat) : Int) from if_pos (by omega)] at hs | rw [show nxB code c = 0 from if_neg (by omega)] at hs
    first | exact hs.symm | (exfalso; omega)
   have hs : (Jb code c).seed = IntKind.u64.wrap (IntKind.u64.wrap (IntKind.u64.wrap (c.seed * 6364136223846793005) + nxB code c) + 462197) := rfl
   first | rw [show nxB code c = ((code.getD c.pos.toNat 0 : Nat) : Int) from if_pos (by omega)] at hs | rw [show nxB code c = 0 from if_neg (by omega)] at hs
   unfold JD
   rw [if_neg (by omega), hs]
  intro b4
  try simp only [nrmT] at b4
  refine ⟨?_, ?_, rfl, ?_, ?_⟩
  ·omega
  ·omega
  ·intro b5
   try simp only [nrmT] at b5
   refine ⟨rfl, ?_, ?_, ?_⟩
   ·omega
   ·have hs : (Jb code c).seed = IntKind.u64.wrap (IntKind.u64.wrap (IntKind.u64.wrap (c.seed * 6364136223846793005) + nxB code c) + 462197) := rfl
    first | rw [show nxB code c = ((code.getD c.pos.toNat 0 : Nat) : Int) from if_pos (by omega)] at hs | rw [show nxB code c = 0 from if_neg (by omega)] at hs
    first | exact hs.symm | (exfalso; omega)
   omega
  intro b6
  try simp only [nrmT] at b6
  refine ⟨?_, ?_, ?_, ?_, ?_, rfl, ?_, ?_, ?_⟩
  ·exact w64 _
  ·omega
  ·have := w64 (IntKind.u64.wrap (IntKind.u64.wrap (c.seed * 6364136223846793005) + 0) + 462197)
   generalize IntKind.u64.wrap (IntKind.u64.wrap (IntKind.u64.wrap (c.seed * 6364136223846793005) + 0) + 462197) = z at *
   omega
  ·omega
  ·have := Jbw ((IntKind.u64.wrap (IntKind.u64.wrap (IntKind.u64.wrap (c.seed * 6364136223846793005) + 0) + 462197)) / 2 ^ 40).toNat
   omega
  ·rfl
  ·have hs : (Jb code c).seed = IntKind.u64.wrap (IntKind.u64.wrap (IntKind.u64.wrap (c.seed * 6364136223846793005) + nxB code c) + 462197) := rfl
   first | rw [show nxB code c = ((code.getD c.pos.toNat 0 : Nat) : Int) from if_pos (by omega)] at hs | rw [show nxB code c = 0 from if_neg (by omega)] at hs
   first | exact hs.symm | (exfalso; omega)
  have hs : (Jb code c).seed = IntKind.u64.wrap (IntKind.u64.wrap (IntKind.u64.wrap (c.seed * 6364136223846793005) + nxB code c) + 462197) := rfl
  first | rw [show nxB code c = ((code.getD c.pos.toNat 0 : Nat) : Int) from if_pos (by omega)] at hs | rw [show nxB code c = 0 from if_neg (by omega)] at hs
  unfold JD
  rw [if_neg (by omega), hs]
theorem J42 (code : List Nat) (c : Cur) (hb : ∀ x9 ∈ code, x9 < 256) (hc : okC c 1000000000000) : PK Tryz.prog 213 76 (.sl (.bytes code)) [.int .i64 c.pos, .int .u64 c.seed] [.int .i64 (Jb code c).pos, .int .u64 (Jb code c).seed] [] (.one (.d (.int .i64 (JD code c)))) :=
  pk_by (Q := fun u => J2Z u code c) (by kernel_rfl) Tryz.func213 @Tryz.call213 (by kernel_rfl) J8b (fun u => J7F u code c) (by kernel_rfl) (fun u => J7g u code c hb hc) (fun u => by kernel_rfl)
def J1 (code : List Nat) (c : Cur) (n : Int) : Cur := if n ≤ 1 then c else if n > 200 then Jb code (Jb code c) else Jb code c
def J6 (code : List Nat) (c : Cur) (n : Int) : Int := if n ≤ 1 then 0 else (if n > 200 then JD code c * 256 + JD code (Jb code c) else JD code c) % n
theorem Jk {code : List Nat} {c : Cur} {n b : Int} (h : okC c b) : okC (J1 code c n) (b + 2) := by
  unfold J1
  split
  · exact J8 h (by omega)
  split
  · have := J0F (code := code) (J0F (code := code) h)
    exact J8 this (by omega)
  · exact J8 (J0F h) (by omega)
theorem J0V (code : List Nat) (c : Cur) {n : Int} (hn : 1 ≤ n) : 0 ≤ J6 code c n ∧ J6 code c n < n := by
  unfold J6
  split
  · omega
  exact ⟨Int.emod_nonneg _ (by omega), Int.emod_lt_of_pos _ (by omega)⟩
def J81 (f : FuncId) (ds : List D) : Orc := .no
def J87 (u : Value) (code : List Nat) (c : Cur) (n : Int) : Ann := .two (.none) (.two (.none) (.two (.mark [] [(1, .cell [.int .i64 ((Jb code c).pos), .int .u64 ((Jb code c).seed)] (.one (.d (.int .i64 (JD code c)))))]) (.two (.two (.none) (.two (.mark [] [(3, .cell [.int .i64 ((Jb code (Jb code c)).pos), .int .u64 ((Jb code (Jb code c)).seed)] (.one (.d (.int .i64 (JD code (Jb code c))))))]) (.none))) (.none))))
def J2X (u : Value) (code : List Nat) (c : Cur) (n : Int) : Prop :=
  (((decide (n ≤ 1)) = true → (((.lit u (.sl (.bytes code)) : D) = .lit u (.sl (.bytes code))) ∧ (c.pos = (J1 code c n).pos) ∧ (c.seed = (J1 code c n).seed) ∧ ((0 : Int) = (J6 code c n)))) ∧ ((decide (n ≤ 1)) = false → (PK Tryz.prog 213 76 (.sl (.bytes code)) [.int .i64 c.pos, .int .u64 c.seed] [.int .i64 ((Jb code c).pos), .int .u64 ((Jb code c).seed)] [] (.one (.d (.int .i64 (JD code c))))) ∧ (((decide (n > 200)) = true → (I6 ((JD code c) * 256)) ∧ (PK Tryz.prog 213 76 (.sl (.bytes code)) [.int .i64 ((Jb code c).pos), .int .u64 ((Jb code c).seed)] [.int .i64 ((Jb code (Jb code c)).pos), .int .u64 ((Jb code (Jb code c)).seed)] [] (.one (.d (.int .i64 (JD code (Jb code c)))))) ∧ (I6 (((JD code c) * 256) + (JD code (Jb code c)))) ∧ ((0 : Int) ≤ (((JD code c) * 256) + (JD code (Jb code c)))) ∧ ((1 : Int) ≤ n) ∧ (((.lit u (.sl (.bytes code)) : D) = .lit u (.sl (.bytes code))) ∧ ((Jb code (Jb code c)).pos = (J1 code c n).pos) ∧ ((Jb code (Jb code c)).seed = (J1 code c n).seed) ∧ (((((JD code c) * 256) + (JD code (Jb code c))) % n) = (J6 code c n)))) ∧ ((decide (n > 200)) = false → ((0 : Int) ≤ (JD code c)) ∧ ((1 : Int) ≤ n) ∧ (((.lit u (.sl (.bytes code)) : D) = .lit u (.sl (.bytes code))) ∧ ((Jb code c).pos = (J1 code c n).pos) ∧ ((Jb code c).seed = (J1 code c n).seed) ∧ (((JD code c) % n) = (J6 code c n)))))))
theorem J7r (u : Value) (code : List Nat) (c : Cur) (n : Int) (hb : ∀ x9 ∈ code, x9 < 256) (hc : okC c 900000000000)  : J2X u code c n := by
  unfold J2X
  refine ⟨?_, ?_⟩
  ·intro b1
   try simp only [nrmT] at b1
   refine ⟨rfl, ?_, ?_, ?_⟩
   ·unfold J1; first | rw [if_pos (by omega)] | rw [if_neg (by omega), if_pos (by omega)] | rw [if_neg (by omega), if_neg (by omega)]
   ·unfold J1; first | rw [if_pos (by omega)] | rw [if_neg (by omega), if_pos (by omega)] | rw [if_neg (by omega), if_neg (by omega)]
   unfold J6; first | rw [if_pos (by omega)] | rw [if_neg (by omega), if_pos (by omega)] | rw [if_neg (by omega), if_neg (by omega)]
  intro b2
  try simp only [nrmT] at b2
  refine ⟨?_, ?_, ?_⟩
  ·refine J42 code c ?_ ?_
   ·exact hb
   ·exact J8 (by assumption) (by omega)
  ·intro b3
   try simp only [nrmT] at b3
   refine ⟨?_, ?_, ?_, ?_, ?_, rfl, ?_, ?_, ?_⟩
   ·have q0 := J1v hb (c := c) hc.1
    have q1 := J1v hb (c := Jb code c) (J0F hc).1
    omega
   ·refine J42 code (Jb code c) ?_ ?_
    ·exact hb
    ·exact J8 (J0F (by assumption)) (by omega)
   ·have q0 := J1v hb (c := c) hc.1
    have q1 := J1v hb (c := Jb code c) (J0F hc).1
    omega
   ·have q0 := J1v hb (c := c) hc.1
    have q1 := J1v hb (c := Jb code c) (J0F hc).1
    omega
   ·omega
   ·unfold J1; first | rw [if_pos (by omega)] | rw [if_neg (by omega), if_pos (by omega)] | rw [if_neg (by omega), if_neg (by omega)]
   ·unfold J1; first | rw [if_pos (by omega)] | rw [if_neg (by omega), if_pos (by omega)] | rw [if_neg (by omega), if_neg (by omega)]
   unfold J6; first | rw [if_pos (by omega)] | rw [if_neg (by omega), if_pos (by omega)] | rw [if_neg (by omega), if_neg (by omega)]
  intro b4
  try simp only [nrmT] at b4
  refine ⟨?_, ?_, rfl, ?_, ?_, ?_⟩
  ·have q0 := J1v hb (c := c) hc.1
   have q1 := J1v hb (c := Jb code c) (J0F hc).1
   omega
  ·omega
  ·unfold J1; first | rw [if_pos (by omega)] | rw [if_neg (by omega), if_pos (by omega)] | rw [if_neg (by omega), if_neg (by omega)]
  ·unfold J1; first | rw [if_pos (by omega)] | rw [if_neg (by omega), if_pos (by omega)] | rw [if_neg (by omega), if_neg (by omega)]
  unfold J6; first | rw [if_pos (by omega)] | rw [if_neg (by omega), if_pos (by omega)] | rw [if_neg (by omega), if_neg (by omega)]
theorem Jq (code : List Nat) (c : Cur) (n : Int) (hb : ∀ x9 ∈ code, x9 < 256) (hc : okC c 900000000000) : PK Tryz.prog 156 76 (.sl (.bytes code)) [.int .i64 c.pos, .int .u64 c.seed] [.int .i64 (J1 code c n).pos, .int .u64 (J1 code c n).seed] [.int .i64 n] (.one (.d (.int .i64 (J6 code c n)))) :=
  pk_by (Q := fun u => J2X u code c n) (by kernel_rfl) Tryz.func156 @Tryz.call156 (by kernel_rfl) J81 (fun u => J87 u code c n) (by kernel_rfl) (fun u => J7r u code c n hb hc) (fun u => by kernel_rfl)
def J7u (f : FuncId) (ds : List D) : Orc := .no
def J7s (u : Value) (code : List Nat) (c : Cur) (list : ZI) : Ann := .two (.none) (.two (.mark [] [(4, .cell [.int .i64 ((J1 code c (list.length : Int)).pos), .int .u64 ((J1 code c (list.length : Int)).seed)] (.one (.d (.int .i64 (J6 code c (list.length : Int))))))]) (.none))
def J2z (u : Value) (code : List Nat) (c : Cur) (list : ZI) : Prop :=
  (PK Tryz.prog 156 76 (.sl (.bytes code)) [.int .i64 c.pos, .int .u64 c.seed] [.int .i64 ((J1 code c (list.length : Int)).pos), .int .u64 ((J1 code c (list.length : Int)).seed)] [.int .i64 (list.length : Int)] (.one (.d (.int .i64 (J6 code c (list.length : Int)))))) ∧ ((0 : Int) ≤ (J6 code c (list.length : Int))) ∧ (((J6 code c (list.length : Int)) : Int) < list.length) ∧ ((J6 code c (list.length : Int)).toNat < list.length) ∧ (((.lit u (.sl (.bytes code)) : D) = .lit u (.sl (.bytes code))) ∧ ((J1 code c (list.length : Int)).pos = (J1 code c (list.length : Int)).pos) ∧ ((J1 code c (list.length : Int)).seed = (J1 code c (list.length : Int)).seed) ∧ ((list.getD ((J6 code c (list.length : Int)).toNat) 0) = (list.getD (J6 code c (list.length : Int)).toNat 0)))
theorem J6u (u : Value) (code : List Nat) (c : Cur) (list : ZI) (hb : ∀ x9 ∈ code, x9 < 256) (hc : okC c 800000000000) (hl : 0 < list.length)  : J2z u code c list := by
  unfold J2z
  refine ⟨?_, ?_, ?_, ?_, rfl, rfl, rfl, ?_⟩
  ·refine Jq code c (list.length : Int) ?_ ?_
   ·exact hb
   ·exact J8 (by assumption) (by omega)
  ·have := J0V code c (n := (list.length : Int)) (by omega)
   omega
  ·have := J0V code c (n := (list.length : Int)) (by omega)
   omega
  ·have := J0V code c (n := (list.length : Int)) (by omega)
   omega
  have := J0V code c (n := (list.length : Int)) (by omega)
  omega
theorem JX (code : List Nat) (c : Cur) (list : ZI) (hb : ∀ x9 ∈ code, x9 < 256) (hc : okC c 800000000000) (hl : 0 < list.length) : PK Tryz.prog 155 76 (.sl (.bytes code)) [.int .i64 c.pos, .int .u64 c.seed] [.int .i64 (J1 code c (list.length : Int)).pos, .int .u64 (J1 code c (list.length : Int)).seed] [.sl (.ints list)] (.one (.d (.int .i64 (list.getD (J6 code c (list.length : Int)).toNat 0)))) :=
  pk_by (Q := fun u => J2z u code c list) (by kernel_rfl) Tryz.func155 @Tryz.call155 (by kernel_rfl) J7u (fun u => J7s u code c list) (by kernel_rfl) (fun u => J6u u code c list hb hc hl) (fun u => by kernel_rfl)
def J8z (f : FuncId) (ds : List D) : Orc := .no
def J8Q (u : Value) (code : List Nat) (c : Cur) (n : Int) : Ann := .two (.none) (.two (.mark [] [(2, .cell [.int .i64 ((J1 code c n).pos), .int .u64 ((J1 code c n).seed)] (.one (.d (.int .i64 (J6 code c n)))))]) (.none))
def J3m (u : Value) (code : List Nat) (c : Cur) (n : Int) : Prop :=
  (PK Tryz.prog 156 76 (.sl (.bytes code)) [.int .i64 c.pos, .int .u64 c.seed] [.int .i64 ((J1 code c n).pos), .int .u64 ((J1 code c n).seed)] [.int .i64 n] (.one (.d (.int .i64 (J6 code c n))))) ∧ (((.lit u (.sl (.bytes code)) : D) = .lit u (.sl (.bytes code))) ∧ ((J1 code c n).pos = (J1 code c n).pos) ∧ ((J1 code c n).seed = (J1 code c n).seed) ∧ (((J6 code c n) == 0) = (J6 code c n == 0)))
theorem J7V (u : Value) (code : List Nat) (c : Cur) (n : Int) (hb : ∀ x9 ∈ code, x9 < 256) (hc : okC c 800000000000)  : J3m u code c n := by
  unfold J3m
  refine ⟨?_, rfl, rfl, rfl, ?_⟩
  ·refine Jq code c n ?_ ?_
   ·exact hb
   ·exact J8 (by assumption) (by omega)
  rfl
theorem J82 (code : List Nat) (c : Cur) (n : Int) (hb : ∀ x9 ∈ code, x9 < 256) (hc : okC c 800000000000) : PK Tryz.prog 124 76 (.sl (.bytes code)) [.int .i64 c.pos, .int .u64 c.seed] [.int .i64 (J1 code c n).pos, .int .u64 (J1 code c n).seed] [.int .i64 n] (.one (.d (.bool (J6 code c n == 0)))) :=
  pk_by (Q := fun u => J3m u code c n) (by kernel_rfl) Tryz.func124 @Tryz.call124 (by kernel_rfl) J8z (fun u => J8Q u code c n) (by kernel_rfl) (fun u => J7V u code c n hb hc) (fun u => by kernel_rfl)
theorem J9g : okC J9p 0 := by unfold okC; decide
theorem Jc1 (l : ZI) (code : List Nat) (c : Cur) (h : 0 < l.length) : l.getD (J6 code c (l.length : Int)).toNat 0 ∈ l := by
  have := J0V code c (n := (l.length : Int)) (by omega)
  exact getD_mem (by omega)
def Jc3 (f : FuncId) (ds : List D) : Orc := .no
def Jc6 (code : List Nat) : Ann := .none
def J9O (code : List Nat) : Prop :=
  (((decide ((code.length : Int) > 65536)) = (decide ((code.length : Int) > 65536))))
theorem Jbh (code : List Nat)  (w_code : (code.length : Int) ≤ 9223372036854775807) : J9O code := by
  unfold J9O
  exact rfl
theorem JbJ (code : List Nat)  : PC Tryz.prog 28 [.sl (.bytes code)] (.one (.d (.bool (decide ((code.length : Int) > 65536))))) :=
  pc_wf @Tryz.call28 fun hw => pc_by (by kernel_rfl) Tryz.func28 @Tryz.call28 (by kernel_rfl) Jc3 (Jc6 code) (by kernel_rfl) (Jbh code hw.1) (by kernel_rfl)
def JaE : List D → Orc := orcN [some .bytes] fun ds => match ds with
  | [.sl (.bytes code)] => some (.one (.d (.bool (decide ((code.length : Int) > 65536)))))
  | _ => none
abbrev J3c (xs : ZI) (ys : ZI) (i : Int) : Prop := (0 ≤ i) ∧ (i ≤ (xs.length : Int)) ∧ (allTo (fun k => xs.getD k 0 == ys.getD k 0) i.toNat = true) ∧ (xs.length = ys.length)
abbrev J34 (xs : ZI) (ys : ZI) (i : Int) : Nat := (xs.length - i).toNat
def Jbs (f : FuncId) (ds : List D) : Orc := .no
def JbM (xs : ZI) (ys : ZI) : Ann := .two (.none) (.two (.none) (.two (.two (.none) (.loop (cut1 (fun (i : Int) => J3c xs ys i) (fun (i : Int) => [(0, .d false (.sl (.ints xs))), (1, .d false (.sl (.ints ys))), (5, .d true (.int .i64 i))]) (fun (i : Int) => [])) (fun g => J34 xs ys g) (fun _ => .none))) (.none)))
def J8f (xs : ZI) (ys : ZI) : Prop :=
  ((((xs.length : Int) != (ys.length : Int)) = true → ((false = (xs == ys)))) ∧ (((xs.length : Int) != (ys.length : Int)) = false → ((∃ i' : Int, (J3c xs ys i') ∧ (xs = xs) ∧ (ys = ys) ∧ ((0 : Int) = i')) ∧ (∀ i : Int, (J3c xs ys i) → (((decide (i < (xs.length : Int))) = true → (true = true) ∧ ((0 : Int) ≤ i) ∧ ((i : Int) < xs.length) ∧ (i.toNat < xs.length) ∧ ((0 : Int) ≤ i) ∧ ((i : Int) < ys.length) ∧ (i.toNat < ys.length) ∧ ((((xs.getD i.toNat 0) != (ys.getD i.toNat 0)) = true → ((false = (xs == ys)))) ∧ (((xs.getD i.toNat 0) != (ys.getD i.toNat 0)) = false → (I6 (i + 1)) ∧ (∃ i' : Int, (J3c xs ys i') ∧ (J34 xs ys i' < J34 xs ys i) ∧ (xs = xs) ∧ (ys = ys) ∧ ((i + 1) = i'))))) ∧ ((decide (i < (xs.length : Int))) = false → ((true = (xs == ys)))))))))
theorem JaJ (xs : ZI) (ys : ZI)  (w_xs : (xs.length : Int) ≤ 9223372036854775807) (w_ys : (ys.length : Int) ≤ 9223372036854775807) : J8f xs ys := by
  unfold J8f
  refine ⟨?_, ?_⟩
  ·intro b1
   try simp only [nrmT] at b1
   exact (Jcx (by omega)).symm
  intro b2
  try simp only [nrmT] at b2
  refine ⟨?_, ?_⟩
  ·refine ⟨0, ?_⟩
   refine ⟨?_, rfl, rfl, rfl⟩
   ·refine ⟨?_, ?_, ?_, ?_⟩
    ·omega
    ·omega
    ·rfl
    ·omega
  intro i hJ
  obtain ⟨h1, h2, h3, h4⟩ := hJ
  refine ⟨?_, ?_⟩
  ·intro b3
   try simp only [nrmT] at b3
   refine ⟨rfl, ?_, ?_, ?_, ?_, ?_, ?_, ?_, ?_⟩
   ·omega
   ·omega
   ·omega
   ·omega
   ·omega
   ·omega
   ·intro b4
    try simp only [nrmT] at b4
    rw [← J7o (d := 0) h4]; exact (allTo_falseI h1 (by omega) (by simpa using b4)).symm
   intro b5
   try simp only [nrmT] at b5
   refine ⟨?_, ?_⟩
   ·omega
   refine ⟨(i + 1), ?_⟩
   refine ⟨?_, ?_, rfl, rfl, rfl⟩
   ·refine ⟨?_, ?_, ?_, ?_⟩
    ·omega
    ·omega
    ·exact allTo_step h1 h3 (by simpa using b5)
    ·omega
   (simp only [J34]; omega)
  intro b6
  try simp only [nrmT] at b6
  rw [← J7o (d := 0) h4, ← h3]; congr 1; omega
theorem J3D (xs : ZI) (ys : ZI)  : PC Tryz.prog 32 [.sl (.ints xs), .sl (.ints ys)] (.one (.d (.bool (xs == ys)))) :=
  pc_wf @Tryz.call32 fun hw => pc_by (by kernel_rfl) Tryz.func32 @Tryz.call32 (by kernel_rfl) Jbs (JbM xs ys) (by kernel_rfl) (JaJ xs ys hw.1 hw.2.1) (by kernel_rfl)
def Ja5 : List D → Orc := orcN [some .ints, some .ints] fun ds => match ds with
  | [.sl (.ints xs), .sl (.ints ys)] => some (.one (.d (.bool (xs == ys))))
  | _ => none
theorem J8u (row set : ZI) : ∀ k i, i < k → row.getD (Ji row set k).toNat 0 ≤ row.getD (set.getD i 0).toNat 0
  | 0, i, h => by omega
  | k + 1, i, h => by
    have ih := J8u row set k
    rw [J0X]
    unfold J2M
    by_cases e : i = k
    · subst e
      split
      · exact Int.le_refl _
      omega
    have := ih i (by omega)
    split <;> omega
abbrev J0u (n : Int) (code : Int) (out : ZI) (x : Int) : Prop := (0 ≤ x) ∧ (x ≤ n) ∧ (out = members (fun k => code.toNat.testBit k) x.toNat)
abbrev JM (n : Int) (code : Int) (out : ZI) (x : Int) : Nat := (n - x).toNat
def J7I (f : FuncId) (ds : List D) : Orc := .no
def J7K (n : Int) (code : Int) : Ann := .two (.none) (.two (.none) (.two (.two (.none) (.loop (cut2 (fun (out : ZI) (x : Int) => J0u n code out x) (fun (out : ZI) (x : Int) => [(0, .d false (.int .i64 n)), (1, .d false (.int .i64 code)), (5, .own 1000000 out.length), (6, .d true (.int .i64 x))]) (fun (out : ZI) (x : Int) => [(1000000, .arr true 3 (.ints out))])) (fun g => JM n code g.1 g.2) (fun _ => .none))) (.none)))
def J4j (n : Int) (code : Int) : Prop :=
  ((∃ out' : ZI, ∃ x' : Int, (J0u n code out' x') ∧ (n = n) ∧ (code = code) ∧ ((0 : Nat) = out'.length) ∧ ((0 : Int) = x') ∧ ([] = out')) ∧ (∀ out : ZI, ∀ x : Int, (J0u n code out x) → (((decide (x < n)) = true → ((0 : Int) ≤ code ∧ (code : Int) ≤ 9223372036854775807) ∧ ((0 : Int) ≤ x) ∧ ((0 : Int) ≤ (code / 2 ^ x.toNat) ∧ ((code / 2 ^ x.toNat) : Int) ≤ 9223372036854775807) ∧ ((0 : Int) ≤ 1 ∧ (1 : Int) ≤ 9223372036854775807) ∧ ((((((code / 2 ^ x.toNat).toNat &&& 1 : Nat) : Int) == 1) = true → (out.length = out.length) ∧ ((1 : Nat) = 1) ∧ ((out.length + 1) * 8 ≤ 140737488355328) ∧ (I6 (x + 1)) ∧ (∃ out' : ZI, ∃ x' : Int, (J0u n code out' x') ∧ (JM n code out' x' < JM n code out x) ∧ (n = n) ∧ (code = code) ∧ ((out.length + 1) = out'.length) ∧ ((x + 1) = x') ∧ ((out ++ [x]) = out'))) ∧ (((((code / 2 ^ x.toNat).toNat &&& 1 : Nat) : Int) == 1) = false → (I6 (x + 1)) ∧ (∃ out' : ZI, ∃ x' : Int, (J0u n code out' x') ∧ (JM n code out' x' < JM n code out x) ∧ (n = n) ∧ (code = code) ∧ (out.length = out'.length) ∧ ((x + 1) = x') ∧ (out = out'))))) ∧ ((decide (x < n)) = false → ((out.length = out.length) ∧ ((out : ZI) = members (fun k => code.toNat.testBit k) n.toNat))))))
theorem J7B (n : Int) (code : Int) (hn : 0 ≤ n ∧ n ≤ 62) (hc : 0 ≤ code ∧ code ≤ 4611686018427387903)  : J4j n code := by
  unfold J4j
  refine ⟨?_, ?_⟩
  ·refine ⟨([]), 0, ?_⟩
   refine ⟨?_, rfl, rfl, rfl, rfl, ?_⟩
   ·refine ⟨?_, ?_, ?_⟩
    ·omega
    ·omega
    ·rfl
   rfl
  intro out x hJ
  obtain ⟨h1, h2, h3⟩ := hJ
  refine ⟨?_, ?_⟩
  ·intro b1
   try simp only [nrmT] at b1
   refine ⟨?_, ?_, ?_, ?_, ?_, ?_⟩
   ·omega
   ·omega
   ·have h5 : 0 ≤ code / 2 ^ x.toNat := Int.ediv_nonneg hc.1 (Int.le_of_lt (Int.pow_pos (by omega)))
    have h6 : code / 2 ^ x.toNat ≤ code := Int.ediv_le_self _ hc.1
    omega
   ·omega
   ·intro b2
    try simp only [nrmT] at b2
    refine ⟨rfl, rfl, ?_, ?_, ?_⟩
    ·rw [h3]; have := members_len_le (fun k => code.toNat.testBit k) x.toNat; omega
    ·omega
    refine ⟨(out ++ [x]), (x + 1), ?_⟩
    refine ⟨?_, ?_, rfl, rfl, ?_, rfl, rfl⟩
    ·refine ⟨?_, ?_, ?_⟩
     ·omega
     ·omega
     ·have hb := shr_bit (n := code.toNat) (k := x.toNat)
      rw [show ((code.toNat : Nat) : Int) = code by omega] at hb
      have ht : code.toNat.testBit x.toNat = true := by
        cases h : code.toNat.testBit x.toNat with
        | true => rfl
        | false => rw [h] at hb; simp at hb; simp at b2; omega
      rw [h3, show (x + 1).toNat = x.toNat + 1 by omega, members_succ, if_pos ht, show ((x.toNat : Nat) : Int) = x by omega]
    ·(simp only [JM]; omega)
    simp
   intro b3
   try simp only [nrmT] at b3
   refine ⟨?_, ?_⟩
   ·omega
   refine ⟨out, (x + 1), ?_⟩
   refine ⟨?_, ?_, rfl, rfl, rfl, rfl, rfl⟩
   ·refine ⟨?_, ?_, ?_⟩
    ·omega
    ·omega
    ·have hb := shr_bit (n := code.toNat) (k := x.toNat)
     rw [show ((code.toNat : Nat) : Int) = code by omega] at hb
     have ht : code.toNat.testBit x.toNat = false := by
       cases h : code.toNat.testBit x.toNat with
       | false => rfl
       | true => rw [h] at hb; simp at hb; simp at b3; omega
     rw [h3, show (x + 1).toNat = x.toNat + 1 by omega, members_succ, ht]; simp
   (simp only [JM]; omega)
  intro b4
  try simp only [nrmT] at b4
  refine ⟨rfl, ?_⟩
  ·rw [h3, show x.toNat = n.toNat by omega]
theorem J78 (n : Int) (code : Int) (hn : 0 ≤ n ∧ n ≤ 62) (hc : 0 ≤ code ∧ code ≤ 4611686018427387903) : PC Tryz.prog 142 [.int .i64 n, .int .i64 code] (.one (.own 3 (.ints (members (fun k => code.toNat.testBit k) n.toNat)))) :=
  pc_wf @Tryz.call142 fun _ => pc_by (by kernel_rfl) Tryz.func142 @Tryz.call142 (by kernel_rfl) J7I (J7K n code) (by kernel_rfl) (J7B n code hn hc) (by kernel_rfl)
theorem J5x {g : Bool} {a b : Cur} {x y : Int} (ha : okC a x) (hb : okC b y) : okC (cond g a b) (max x y) := by
  cases g
  · exact J8 hb (by omega)
  exact J8 ha (by omega)
theorem J7D {p : Int → Prop} (l : ZI) (code : List Nat) (c : Cur) (h0 : 0 < l.length) (h : ∀ x ∈ l, p x) : p (l.getD (J6 code c (l.length : Int)).toNat 0) := h _ (Jc1 l code c h0)
theorem JaH {n : Nat} {s : ZI} (h : J5 s 0 ((n : Int) - 1) = true) : s ∈ chs n := by
  have ha := J3w h
  have hr := J16 h
  have hp : ∀ x ∈ s, 0 ≤ x ∧ x < (n : Int) := fun x hx => by have := hr x hx; omega
  refine Jcp.2 ⟨bagN s, bagN_lt (m := n) hp, ?_⟩
  unfold lst
  refine asc_ext (asc_members _ _) ha fun x => ?_
  rw [mem_members]
  constructor
  · rintro ⟨h1, h2, h3⟩
    rw [bagN_bit fun y hy => (hp y hy).1, List.contains_iff_mem, show ((x.toNat : Nat) : Int) = x by omega] at h3
    exact h3
  intro hx
  have h1 := hp x hx
  refine ⟨h1.1, h1.2, ?_⟩
  rw [bagN_bit fun y hy => (hp y hy).1, List.contains_iff_mem, show ((x.toNat : Nat) : Int) = x by omega]
  exact hx
abbrev J3u (list : ZI) (x : Int) (i : Int) : Prop := (0 ≤ i) ∧ (i ≤ (list.length : Int)) ∧ (∀ j, j < i.toNat → list.getD j 0 ≠ x)
abbrev J3B (list : ZI) (x : Int) (i : Int) : Nat := (list.length - i).toNat
def Jc5 (f : FuncId) (ds : List D) : Orc := .no
def JbQ (list : ZI) (x : Int) : Ann := .two (.none) (.two (.two (.none) (.loop (cut1 (fun (i : Int) => J3u list x i) (fun (i : Int) => [(0, .d false (.sl (.ints list))), (1, .d false (.int .i64 x)), (5, .d true (.int .i64 i))]) (fun (i : Int) => [])) (fun g => J3B list x g) (fun _ => .none))) (.none))
def J9T (list : ZI) (x : Int) : Prop :=
  ((∃ i' : Int, (J3u list x i') ∧ (list = list) ∧ (x = x) ∧ ((0 : Int) = i')) ∧ (∀ i : Int, (J3u list x i) → (((decide (i < (list.length : Int))) = true → ((0 : Int) ≤ i) ∧ ((i : Int) < list.length) ∧ (i.toNat < list.length) ∧ ((((list.getD i.toNat 0) == x) = true → ((true = (list.contains x)))) ∧ (((list.getD i.toNat 0) == x) = false → (I6 (i + 1)) ∧ (∃ i' : Int, (J3u list x i') ∧ (J3B list x i' < J3B list x i) ∧ (list = list) ∧ (x = x) ∧ ((i + 1) = i'))))) ∧ ((decide (i < (list.length : Int))) = false → ((false = (list.contains x)))))))
theorem Jby (list : ZI) (x : Int)  (w_list : (list.length : Int) ≤ 9223372036854775807) : J9T list x := by
  unfold J9T
  refine ⟨?_, ?_⟩
  ·refine ⟨0, ?_⟩
   refine ⟨?_, rfl, rfl, rfl⟩
   ·refine ⟨?_, ?_, ?_⟩
    ·omega
    ·omega
    ·intro j hj; exact absurd hj (by omega)
  intro i hJ
  obtain ⟨h1, h2, h3⟩ := hJ
  refine ⟨?_, ?_⟩
  ·intro b1
   try simp only [nrmT] at b1
   refine ⟨?_, ?_, ?_, ?_, ?_⟩
   ·omega
   ·omega
   ·omega
   ·intro b2
    try simp only [nrmT] at b2
    symm
    rw [List.contains_iff_mem]
    have e : list.getD i.toNat 0 = x := by simpa using b2
    rw [← e]; exact getD_memI h1 (by omega)
   intro b3
   try simp only [nrmT] at b3
   refine ⟨?_, ?_⟩
   ·omega
   refine ⟨(i + 1), ?_⟩
   refine ⟨?_, ?_, rfl, rfl, rfl⟩
   ·refine ⟨?_, ?_, ?_⟩
    ·omega
    ·omega
    ·intro j hj
     by_cases e : j = i.toNat
     · rw [e]; simpa using b3
     exact h3 j (by omega)
   (simp only [J3B]; omega)
  intro b4
  try simp only [nrmT] at b4
  symm
  rw [Bool.eq_false_iff, Ne, List.contains_iff_mem]
  intro hm
  obtain ⟨j, hj, e⟩ := List.mem_iff_getElem.1 hm
  exact h3 j (by omega) (by rw [JG hj]; exact e)
theorem Jbj (list : ZI) (x : Int)  : PC Tryz.prog 146 [.sl (.ints list), .int .i64 x] (.one (.d (.bool (list.contains x)))) :=
  pc_wf @Tryz.call146 fun hw => pc_by (by kernel_rfl) Tryz.func146 @Tryz.call146 (by kernel_rfl) Jc5 (JbQ list x) (by kernel_rfl) (Jby list x hw.1) (by kernel_rfl)
def Jb8 : List D → Orc := orcN [some .ints, none] fun ds => match ds with
  | [.sl (.ints list), .int .i64 x] => some (.one (.d (.bool (list.contains x))))
  | _ => none
def J2m (f : Int → Int) (l : ZI) : Int := (l.map f).sum
theorem J15 (f : Int → Int) (x : Int) (l : ZI) : J2m f (x :: l) = f x + J2m f l := rfl
theorem Jat {f g : Int → Int} : ∀ {l : ZI}, (∀ x ∈ l, f x ≤ g x) → J2m f l ≤ J2m g l
  | [], _ => Int.le_refl _
  | x :: r, h => by
    have h1 := h x List.mem_cons_self
    have h2 := Jat (f := f) (g := g) (l := r) fun y hy => h y (List.mem_cons_of_mem _ hy)
    rw [J15, J15]; omega
theorem J9c (c : Int) (f : Int → Int) : ∀ l : ZI, J2m (fun x => c * f x) l = c * J2m f l
  | [] => by simp [J2m]
  | x :: r => by rw [J15, J15, J9c c f r, Int.mul_add]
def JcC (list out : ZI) (i : Nat) : ZI := if list.contains ((i : Int) - 1) = true then out ++ [(i : Int) - 1] else out
def J4s (list : ZI) (k : Nat) : ZI := foldTo (JcC list) [] k
def srt (list : ZI) : ZI := J4s list 1002
theorem J2F (list : ZI) (k : Nat) : J4s list (k + 1) = if list.contains ((k : Int) - 1) = true then J4s list k ++ [(k : Int) - 1] else J4s list k := rfl
theorem J8r (list : ZI) : ∀ k, (J4s list k).length ≤ k
  | 0 => Nat.le_refl _
  | k + 1 => by
    have := J8r list k
    rw [J2F]
    split
    · rw [List.length_append, List.length_singleton]; omega
    omega
theorem J9A {list : ZI} (h : ∀ y ∈ list, 0 ≤ y) : ∀ k, J4s list (k + 1) = members (fun x => list.contains (x : Int)) k
  | 0 => by
    rw [J2F, if_neg]
    · rfl
    intro hc
    have := h _ (List.contains_iff_mem.1 hc)
    omega
  | k + 1 => by
    have e : (((k + 1 : Nat) : Int) - 1) = (k : Int) := by omega
    rw [J2F, J9A h k, members_succ, e]
    by_cases hc : list.contains (k : Int) = true
    · rw [if_pos hc, if_pos hc]
    rw [if_neg hc, if_neg hc, List.append_nil]
theorem Jcn {list : ZI} (h : ∀ y ∈ list, 0 ≤ y ∧ y ≤ 1000) (x : Int) : x ∈ srt list ↔ x ∈ list := by
  unfold srt
  rw [J9A (fun y hy => (h y hy).1), mem_members]
  constructor
  · rintro ⟨h1, h2, h3⟩
    rw [show ((x.toNat : Nat) : Int) = x by omega] at h3
    exact List.contains_iff_mem.1 h3
  intro hx
  have := h x hx
  refine ⟨this.1, by omega, ?_⟩
  rw [show ((x.toNat : Nat) : Int) = x by omega]
  exact List.contains_iff_mem.2 hx
theorem Jch {list : ZI} (h : ∀ y ∈ list, 0 ≤ y) : Asc (srt list) := by
  unfold srt
  rw [J9A h]; exact asc_members _ _
theorem Jaa {f : Int → Int} {l : ZI} (h : ∀ x ∈ l, 0 ≤ f x) : 0 ≤ J2m f l := by
  have := Jat (f := fun _ => 0) (g := f) h
  have e : J2m (fun _ => 0) l = 0 := by
    have := J9c 0 (fun _ => 0) l
    simp at this
    exact this
  omega
abbrev J1f (list : ZI) (out : ZI) (x : Int) : Prop := (-1 ≤ x) ∧ (x ≤ 1001) ∧ (out = J4s list (x + 1).toNat)
abbrev J0b (list : ZI) (out : ZI) (x : Int) : Nat := (1001 - x).toNat
def Jas (f : FuncId) (ds : List D) : Orc := bif Nat.beq f 146 then Jb8 ds else .no
def Ja9 (list : ZI) : Ann := .two (.none) (.two (.none) (.two (.two (.none) (.loop (cut2 (fun (out : ZI) (x : Int) => J1f list out x) (fun (out : ZI) (x : Int) => [(0, .d false (.sl (.ints list))), (3, .own 1000000 out.length), (4, .d true (.int .i64 x))]) (fun (out : ZI) (x : Int) => [(1000000, .arr true 3 (.ints out))])) (fun g => J0b list g.1 g.2) (fun _ => .none))) (.none)))
def J6i (list : ZI) : Prop :=
  ((∃ out' : ZI, ∃ x' : Int, (J1f list out' x') ∧ (list = list) ∧ ((0 : Nat) = out'.length) ∧ (((-1) : Int) = x') ∧ ([] = out')) ∧ (∀ out : ZI, ∀ x : Int, (J1f list out x) → (((decide (x ≤ 1000)) = true → (PC Tryz.prog 146 [.sl (.ints list), .int .i64 x] (.one (.d (.bool (list.contains x))))) ∧ (((list.contains x) = true → (out.length = out.length) ∧ ((1 : Nat) = 1) ∧ ((out.length + 1) * 8 ≤ 140737488355328) ∧ (I6 (x + 1)) ∧ (∃ out' : ZI, ∃ x' : Int, (J1f list out' x') ∧ (J0b list out' x' < J0b list out x) ∧ (list = list) ∧ ((out.length + 1) = out'.length) ∧ ((x + 1) = x') ∧ ((out ++ [x]) = out'))) ∧ ((list.contains x) = false → (I6 (x + 1)) ∧ (∃ out' : ZI, ∃ x' : Int, (J1f list out' x') ∧ (J0b list out' x' < J0b list out x) ∧ (list = list) ∧ (out.length = out'.length) ∧ ((x + 1) = x') ∧ (out = out'))))) ∧ ((decide (x ≤ 1000)) = false → ((out.length = out.length) ∧ ((out : ZI) = srt list))))))
theorem J9z (list : ZI)  (w_list : (list.length : Int) ≤ 9223372036854775807) : J6i list := by
  unfold J6i
  refine ⟨?_, ?_⟩
  ·refine ⟨([]), (-1), ?_⟩
   refine ⟨?_, rfl, rfl, rfl, ?_⟩
   ·refine ⟨?_, ?_, ?_⟩
    ·omega
    ·omega
    ·rfl
   rfl
  intro out x hJ
  obtain ⟨h1, h2, h3⟩ := hJ
  refine ⟨?_, ?_⟩
  ·intro b1
   try simp only [nrmT] at b1
   refine ⟨Jbj list x, ?_, ?_⟩
   ·intro b2
    try simp only [nrmT] at b2
    refine ⟨rfl, rfl, ?_, ?_, ?_⟩
    ·have h := J8r list (x + 1).toNat
     rw [← h3] at h
     omega
    ·omega
    refine ⟨(out ++ [x]), (x + 1), ?_⟩
    refine ⟨?_, ?_, rfl, ?_, rfl, rfl⟩
    ·refine ⟨?_, ?_, ?_⟩
     ·omega
     ·omega
     ·rw [show (x + 1 + 1).toNat = (x + 1).toNat + 1 by omega, J2F, ← h3, show (((x + 1).toNat : Nat) : Int) - 1 = x by omega, if_pos b2]
    ·(simp only [J0b]; omega)
    simp
   intro b3
   try simp only [nrmT] at b3
   refine ⟨?_, ?_⟩
   ·omega
   refine ⟨out, (x + 1), ?_⟩
   refine ⟨?_, ?_, rfl, rfl, rfl, rfl⟩
   ·refine ⟨?_, ?_, ?_⟩
    ·omega
    ·omega
    ·rw [show (x + 1 + 1).toNat = (x + 1).toNat + 1 by omega, J2F, ← h3, show (((x + 1).toNat : Nat) : Int) - 1 = x by omega, if_neg (by rw [b3]; decide)]
   (simp only [J0b]; omega)
  intro b4
  try simp only [nrmT] at b4
  refine ⟨rfl, ?_⟩
  ·rw [h3, show (x + 1).toNat = 1002 by omega]; rfl
theorem J9k (list : ZI)  : PC Tryz.prog 54 [.sl (.ints list)] (.one (.own 3 (.ints (srt list)))) :=
  pc_wf @Tryz.call54 fun hw => pc_by (by kernel_rfl) Tryz.func54 @Tryz.call54 (by kernel_rfl) Jas (Ja9 list) (by kernel_rfl) (J9z list hw.1) (by kernel_rfl)
def J8M : List D → Orc := orcN [some .ints] fun ds => match ds with
  | [.sl (.ints list)] => some (.one (.own 3 (.ints (srt list))))
  | _ => none
/-- What rawField and lineField draw. -/
def Jcd (n : Nat) (r : ZI) : Prop := r.length = n ∧ ∀ x ∈ r, 0 ≤ x ∧ x ≤ 60
def drF (O : ZI) (D : ZR) : Prop := O.length ≤ 7 ∧ D.length ≤ 7 ∧ ∀ r ∈ D, Jcd O.length r
theorem Ja {O : ZI} {D : ZR} (h : drF O D) {i a : Nat} (hi : i < D.length) (ha : a < O.length) : (D.getD i []).length = O.length ∧ 0 ≤ (D.getD i []).getD a 0 ∧ (D.getD i []).getD a 0 ≤ 60 := by
  obtain ⟨h1, h2⟩ := h.2.2 _ (getD_mem (d := []) hi)
  exact ⟨h1, h2 _ (getD_mem (by omega))⟩
theorem J6S {α : Type} {p : α → Prop} {l : List α} {x : α} (h : ∀ r ∈ l, p r) (hx : p x) : ∀ r ∈ l ++ [x], p r := by
  intro r hr
  rcases List.mem_append.1 hr with hr | hr
  · exact h r hr
  rw [List.mem_singleton.1 hr]; exact hx
theorem Jay {α : Type} {p : α → Prop} {l : List α} {x : α} {k : Nat} (h : ∀ r ∈ l, p r) (hx : p x) : ∀ r ∈ l.set k x, p r := by
  intro r hr
  rcases List.mem_or_eq_of_mem_set hr with hr | hr
  · exact h r hr
  rw [hr]; exact hx
theorem JaC {O : ZI} {D : ZR} (h : drF O D) {i a : Nat} {v : Int} (hi : i < D.length) (hv : 0 ≤ v ∧ v ≤ 60) : drF O (D.set i ((D.getD i []).set a v)) := by
  obtain ⟨h1, h2⟩ := h.2.2 _ (getD_mem (d := []) hi)
  refine ⟨h.1, by rw [List.length_set]; exact h.2.1, Jay h.2.2 ⟨by rw [List.length_set]; exact h1, Jay h2 hv⟩⟩
abbrev J0h (u : Value) (code : List Nat) (c : Cur) (most : Int) (n : Int) (m : Int) (c0 : Cur) (big : Int) (c1 : Cur) (O0 : ZI) (D0 : ZR) (a : Int) (c3 : Cur) (O1 : ZI) (D1 : ZR) : Prop := (0 ≤ a) ∧ (a ≤ 7) ∧ (O1.length = a.toNat) ∧ (D1 = []) ∧ (okC c3 (3000100 + 4 * a))
abbrev J0n (u : Value) (code : List Nat) (c : Cur) (most : Int) (n : Int) (m : Int) (c0 : Cur) (big : Int) (c1 : Cur) (O0 : ZI) (D0 : ZR) (a : Int) (c3 : Cur) (O1 : ZI) (D1 : ZR) : Nat := (7 - a).toNat
abbrev J1d (u : Value) (code : List Nat) (c : Cur) (most : Int) (n : Int) (m : Int) (c0 : Cur) (big : Int) (c1 : Cur) (O0 : ZI) (D0 : ZR) (c4 : Cur) (O2 : ZI) (D2 : ZR) : Prop := (okC c4 3000200) ∧ (O2.length ≤ 7) ∧ (D2 = [])
abbrev J0m (u : Value) (code : List Nat) (c : Cur) (most : Int) (n : Int) (m : Int) (c0 : Cur) (big : Int) (c1 : Cur) (O0 : ZI) (D0 : ZR) (c4 : Cur) (O2 : ZI) (D2 : ZR) (i : Int) (c5 : Cur) (O3 : ZI) (D3 : ZR) : Prop := (0 ≤ i) ∧ (i ≤ 7) ∧ (D3.length = i.toNat) ∧ (O3.length ≤ 7) ∧ (okC c5 (3000200 + 100 * i)) ∧ (∀ r ∈ D3, Jcd O3.length r)
abbrev J0d (u : Value) (code : List Nat) (c : Cur) (most : Int) (n : Int) (m : Int) (c0 : Cur) (big : Int) (c1 : Cur) (O0 : ZI) (D0 : ZR) (c4 : Cur) (O2 : ZI) (D2 : ZR) (i : Int) (c5 : Cur) (O3 : ZI) (D3 : ZR) : Nat := (7 - i).toNat
abbrev J0f (u : Value) (code : List Nat) (c : Cur) (most : Int) (n : Int) (m : Int) (c0 : Cur) (big : Int) (c1 : Cur) (O0 : ZI) (D0 : ZR) (c4 : Cur) (O2 : ZI) (D2 : ZR) (i : Int) (c5 : Cur) (O3 : ZI) (D3 : ZR) (row : ZI) (a2 : Int) (c6 : Cur) : Prop := (0 ≤ a2) ∧ (a2 ≤ (O3.length : Int)) ∧ (row.length = a2.toNat) ∧ (okC c6 (3000200 + 100 * i + 4 * a2)) ∧ (∀ x ∈ row, 0 ≤ x ∧ x ≤ 60)
abbrev J0o (u : Value) (code : List Nat) (c : Cur) (most : Int) (n : Int) (m : Int) (c0 : Cur) (big : Int) (c1 : Cur) (O0 : ZI) (D0 : ZR) (c4 : Cur) (O2 : ZI) (D2 : ZR) (i : Int) (c5 : Cur) (O3 : ZI) (D3 : ZR) (row : ZI) (a2 : Int) (c6 : Cur) : Nat := (O3.length - a2).toNat
abbrev J19 (u : Value) (code : List Nat) (c : Cur) (most : Int) (n : Int) (m : Int) (c0 : Cur) : Prop := (0 ≤ n ∧ n ≤ 7) ∧ (0 ≤ m ∧ m ≤ 7) ∧ (okC c0 3000050)
abbrev J1a (u : Value) (code : List Nat) (c : Cur) (most : Int) (n : Int) (m : Int) (c0 : Cur) (big : Int) (c1 : Cur) (O0 : ZI) (D0 : ZR) : Prop := (1 ≤ big ∧ big ≤ 20) ∧ (okC c1 3000100) ∧ (O0 = []) ∧ (D0 = [])
abbrev J04 (code : List Nat) (c : Cur) (most : Int) (O : ZI) (D : ZR) (cf : Cur) : Prop := (okC cf 4000000) ∧ (drF O D)
def Jz (code : List Nat) (c : Cur) (most : Int) : Ex := ex3 1 (fun (O : ZI) (D : ZR) (cf : Cur) => J04 code c most O D cf) (fun (O : ZI) (D : ZR) (cf : Cur) => [.int .i64 cf.pos, .int .u64 cf.seed]) (fun (O : ZI) (D : ZR) (cf : Cur) => .agg [.own 3 (.ints O), .mat 3 24 D])
def J4T (f : FuncId) (ds : List D) : Orc := .no
def J5u (u : Value) (code : List Nat) (c : Cur) (most : Int) : Ann := .two (.none) (.cut (.mark [] [(2, .cell [.int .i64 ((J1 code c (([3, 4, 2, 5, 1, 6, 7]).length : Int)).pos), .int .u64 ((J1 code c (([3, 4, 2, 5, 1, 6, 7]).length : Int)).seed)] (.one (.d (.int .i64 (([3, 4, 2, 5, 1, 6, 7]).getD (J6 code c (([3, 4, 2, 5, 1, 6, 7]).length : Int)).toNat 0))))), (5, .cell [.int .i64 ((J1 code (J1 code c (([3, 4, 2, 5, 1, 6, 7]).length : Int)) (([4, 3, 5, 2, 6, 7, 1, 0]).length : Int)).pos), .int .u64 ((J1 code (J1 code c (([3, 4, 2, 5, 1, 6, 7]).length : Int)) (([4, 3, 5, 2, 6, 7, 1, 0]).length : Int)).seed)] (.one (.d (.int .i64 (([4, 3, 5, 2, 6, 7, 1, 0]).getD (J6 code (J1 code c (([3, 4, 2, 5, 1, 6, 7]).length : Int)) (([4, 3, 5, 2, 6, 7, 1, 0]).length : Int)).toNat 0)))))]) (cut3 (fun (n : Int) (m : Int) (c0 : Cur) => J19 u code c most n m c0) (fun (n : Int) (m : Int) (c0 : Cur) => [(0, .ptr 0 0), (1, .d false (.int .i64 most)), (4, .ptr 4 0), (5, .d true (.int .i64 n)), (6, .d true (.int .i64 m))]) (fun (n : Int) (m : Int) (c0 : Cur) => [(0, .box 76 [.d false (.lit u (.sl (.bytes code))), .d true (.int .i64 c0.pos), .d true (.int .u64 c0.seed)]), (4, .box 27 [.d true (.nil), .d true (.nil)])])) (fun g => (fun (n : Int) (m : Int) (c0 : Cur) => .cut (.mark [] [(3, .cell [.int .i64 ((J1 code c0 (([10, 10, 20, 4]).length : Int)).pos), .int .u64 ((J1 code c0 (([10, 10, 20, 4]).length : Int)).seed)] (.one (.d (.int .i64 (([10, 10, 20, 4]).getD (J6 code c0 (([10, 10, 20, 4]).length : Int)).toNat 0)))))]) (cut4 (fun (big : Int) (c1 : Cur) (O0 : ZI) (D0 : ZR) => J1a u code c most n m c0 big c1 O0 D0) (fun (big : Int) (c1 : Cur) (O0 : ZI) (D0 : ZR) => [(0, .ptr 0 0), (1, .d false (.int .i64 most)), (4, .ptr 4 0), (5, .d true (.int .i64 n)), (6, .d true (.int .i64 m)), (7, .ptr 7 0), (8, .d true (.int .i64 big))]) (fun (big : Int) (c1 : Cur) (O0 : ZI) (D0 : ZR) => [(0, .box 76 [.d false (.lit u (.sl (.bytes code))), .d true (.int .i64 c1.pos), .d true (.int .u64 c1.seed)]), (4, .box 27 [.d true (.nil), .d true (.nil)]), (1500202, .arr true 3 (.ints O0)), (1500203, .mat 3 24 D0 none), (7, .box 27 [.own 1500202 O0.length, .own 1500203 D0.length])])) (fun g => (fun (big : Int) (c1 : Cur) (O0 : ZI) (D0 : ZR) => .cut (.two (.none) (.loop (cut4 (fun (a : Int) (c3 : Cur) (O1 : ZI) (D1 : ZR) => J0h u code c most n m c0 big c1 O0 D0 a c3 O1 D1) (fun (a : Int) (c3 : Cur) (O1 : ZI) (D1 : ZR) => [(0, .ptr 0 0), (1, .d false (.int .i64 most)), (4, .ptr 4 0), (5, .d true (.int .i64 n)), (6, .d true (.int .i64 m)), (7, .ptr 7 0), (8, .d true (.int .i64 big)), (9, .d true (.int .i64 a))]) (fun (a : Int) (c3 : Cur) (O1 : ZI) (D1 : ZR) => [(0, .box 76 [.d false (.lit u (.sl (.bytes code))), .d true (.int .i64 c3.pos), .d true (.int .u64 c3.seed)]), (4, .box 27 [.d true (.nil), .d true (.nil)]), (1000002, .arr true 3 (.ints O1)), (1000003, .mat 3 24 D1 none), (7, .box 27 [.own 1000002 O1.length, .own 1000003 D1.length])])) (fun g => J0n u code c most n m c0 big c1 O0 D0 g.1 g.2.1 g.2.2.1 g.2.2.2) (fun g => (fun (a : Int) (c3 : Cur) (O1 : ZI) (D1 : ZR) => .two (.none) (.two (.reg [(4, .cell [.int .i64 ((J1 code c3 big).pos), .int .u64 ((J1 code c3 big).seed)] (.one (.d (.int .i64 (J6 code c3 big)))))]) (.none))) (g.1) (g.2.1) (g.2.2.1) (g.2.2.2)))) (cut3 (fun (c4 : Cur) (O2 : ZI) (D2 : ZR) => J1d u code c most n m c0 big c1 O0 D0 c4 O2 D2) (fun (c4 : Cur) (O2 : ZI) (D2 : ZR) => [(0, .ptr 0 0), (1, .d false (.int .i64 most)), (4, .ptr 4 0), (6, .d true (.int .i64 m)), (7, .ptr 7 0), (8, .d true (.int .i64 big))]) (fun (c4 : Cur) (O2 : ZI) (D2 : ZR) => [(0, .box 76 [.d false (.lit u (.sl (.bytes code))), .d true (.int .i64 c4.pos), .d true (.int .u64 c4.seed)]), (4, .box 27 [.d true (.nil), .d true (.nil)]), (1000051, .arr true 3 (.ints O2)), (1000052, .mat 3 24 D2 none), (7, .box 27 [.own 1000051 O2.length, .own 1000052 D2.length])])) (fun g => (fun (c4 : Cur) (O2 : ZI) (D2 : ZR) => .two (.two (.none) (.loop (cut4 (fun (i : Int) (c5 : Cur) (O3 : ZI) (D3 : ZR) => J0m u code c most n m c0 big c1 O0 D0 c4 O2 D2 i c5 O3 D3) (fun (i : Int) (c5 : Cur) (O3 : ZI) (D3 : ZR) => [(0, .ptr 0 0), (1, .d false (.int .i64 most)), (4, .ptr 4 0), (6, .d true (.int .i64 m)), (7, .ptr 7 0), (8, .d true (.int .i64 big)), (10, .d true (.int .i64 i))]) (fun (i : Int) (c5 : Cur) (O3 : ZI) (D3 : ZR) => [(0, .box 76 [.d false (.lit u (.sl (.bytes code))), .d true (.int .i64 c5.pos), .d true (.int .u64 c5.seed)]), (4, .box 27 [.d true (.nil), .d true (.nil)]), (1000102, .arr true 3 (.ints O3)), (1000103, .mat 3 24 D3 none), (7, .box 27 [.own 1000102 O3.length, .own 1000103 D3.length])])) (fun g => J0d u code c most n m c0 big c1 O0 D0 c4 O2 D2 g.1 g.2.1 g.2.2.1 g.2.2.2) (fun g => (fun (i : Int) (c5 : Cur) (O3 : ZI) (D3 : ZR) => .two (.none) (.two (.two (.none) (.two (.two (.none) (.loop (cut3 (fun (row : ZI) (a2 : Int) (c6 : Cur) => J0f u code c most n m c0 big c1 O0 D0 c4 O2 D2 i c5 O3 D3 row a2 c6) (fun (row : ZI) (a2 : Int) (c6 : Cur) => [(0, .ptr 0 0), (1, .d false (.int .i64 most)), (4, .ptr 4 0), (6, .d true (.int .i64 m)), (7, .ptr 7 0), (8, .d true (.int .i64 big)), (10, .d true (.int .i64 i)), (11, .own 1000200 row.length), (12, .d true (.int .i64 a2))]) (fun (row : ZI) (a2 : Int) (c6 : Cur) => [(1000200, .arr true 3 (.ints row)), (0, .box 76 [.d false (.lit u (.sl (.bytes code))), .d true (.int .i64 c6.pos), .d true (.int .u64 c6.seed)]), (4, .box 27 [.d true (.nil), .d true (.nil)]), (7, .box 27 [.own 1000102 O3.length, .own 1000103 D3.length]), (1000102, .arr true 3 (.ints O3)), (1000103, .mat 3 24 D3 none)])) (fun g => J0o u code c most n m c0 big c1 O0 D0 c4 O2 D2 i c5 O3 D3 g.1 g.2.1 g.2.2) (fun g => (fun (row : ZI) (a2 : Int) (c6 : Cur) => .two (.none) (.two (.mark [] [(3, .cell [.int .i64 ((J1 code c6 big).pos), .int .u64 ((J1 code c6 big).seed)] (.one (.d (.int .i64 (J6 code c6 big)))))]) (.none))) (g.1) (g.2.1) (g.2.2)))) (.none))) (.none))) (g.1) (g.2.1) (g.2.2.1) (g.2.2.2)))) (.none)) (g.1) (g.2.1) (g.2.2))) (g.1) (g.2.1) (g.2.2.1) (g.2.2.2))) (g.1) (g.2.1) (g.2.2)))
def J1t (u : Value) (code : List Nat) (c : Cur) (most : Int) : Prop :=
  ((((7 : Nat) = 7) ∧ (PK Tryz.prog 155 76 (.sl (.bytes code)) [.int .i64 c.pos, .int .u64 c.seed] [.int .i64 ((J1 code c (([3, 4, 2, 5, 1, 6, 7]).length : Int)).pos), .int .u64 ((J1 code c (([3, 4, 2, 5, 1, 6, 7]).length : Int)).seed)] [.sl (.ints ([3, 4, 2, 5, 1, 6, 7]))] (.one (.d (.int .i64 (([3, 4, 2, 5, 1, 6, 7]).getD (J6 code c (([3, 4, 2, 5, 1, 6, 7]).length : Int)).toNat 0))))) ∧ ((8 : Nat) = 8) ∧ (PK Tryz.prog 155 76 (.sl (.bytes code)) [.int .i64 ((J1 code c (([3, 4, 2, 5, 1, 6, 7]).length : Int)).pos), .int .u64 ((J1 code c (([3, 4, 2, 5, 1, 6, 7]).length : Int)).seed)] [.int .i64 ((J1 code (J1 code c (([3, 4, 2, 5, 1, 6, 7]).length : Int)) (([4, 3, 5, 2, 6, 7, 1, 0]).length : Int)).pos), .int .u64 ((J1 code (J1 code c (([3, 4, 2, 5, 1, 6, 7]).length : Int)) (([4, 3, 5, 2, 6, 7, 1, 0]).length : Int)).seed)] [.sl (.ints ([4, 3, 5, 2, 6, 7, 1, 0]))] (.one (.d (.int .i64 (([4, 3, 5, 2, 6, 7, 1, 0]).getD (J6 code (J1 code c (([3, 4, 2, 5, 1, 6, 7]).length : Int)) (([4, 3, 5, 2, 6, 7, 1, 0]).length : Int)).toNat 0))))) ∧ (∃ n' : Int, ∃ m' : Int, ∃ c0' : Cur, (J19 u code c most n' m' c0') ∧ (most = most) ∧ ((([3, 4, 2, 5, 1, 6, 7]).getD (J6 code c (([3, 4, 2, 5, 1, 6, 7]).length : Int)).toNat 0) = n') ∧ ((([4, 3, 5, 2, 6, 7, 1, 0]).getD (J6 code (J1 code c (([3, 4, 2, 5, 1, 6, 7]).length : Int)) (([4, 3, 5, 2, 6, 7, 1, 0]).length : Int)).toNat 0) = m') ∧ ((.lit u (.sl (.bytes code)) : D) = .lit u (.sl (.bytes code))) ∧ ((J1 code (J1 code c (([3, 4, 2, 5, 1, 6, 7]).length : Int)) (([4, 3, 5, 2, 6, 7, 1, 0]).length : Int)).pos = c0'.pos) ∧ ((J1 code (J1 code c (([3, 4, 2, 5, 1, 6, 7]).length : Int)) (([4, 3, 5, 2, 6, 7, 1, 0]).length : Int)).seed = c0'.seed))) ∧ (∀ n : Int, ∀ m : Int, ∀ c0 : Cur, (J19 u code c most n m c0) → ((((4 : Nat) = 4) ∧ (PK Tryz.prog 155 76 (.sl (.bytes code)) [.int .i64 c0.pos, .int .u64 c0.seed] [.int .i64 ((J1 code c0 (([10, 10, 20, 4]).length : Int)).pos), .int .u64 ((J1 code c0 (([10, 10, 20, 4]).length : Int)).seed)] [.sl (.ints ([10, 10, 20, 4]))] (.one (.d (.int .i64 (([10, 10, 20, 4]).getD (J6 code c0 (([10, 10, 20, 4]).length : Int)).toNat 0))))) ∧ (∃ big' : Int, ∃ c1' : Cur, ∃ O0' : ZI, ∃ D0' : ZR, (J1a u code c most n m c0 big' c1' O0' D0') ∧ (most = most) ∧ (n = n) ∧ (m = m) ∧ ((([10, 10, 20, 4]).getD (J6 code c0 (([10, 10, 20, 4]).length : Int)).toNat 0) = big') ∧ ((.lit u (.sl (.bytes code)) : D) = .lit u (.sl (.bytes code))) ∧ ((J1 code c0 (([10, 10, 20, 4]).length : Int)).pos = c1'.pos) ∧ ((J1 code c0 (([10, 10, 20, 4]).length : Int)).seed = c1'.seed) ∧ ((O0').length = 0) ∧ ((D0').length = 0) ∧ ((0 : Nat) = O0'.length) ∧ ((0 : Nat) = D0'.length))) ∧ (∀ big : Int, ∀ c1 : Cur, ∀ O0 : ZI, ∀ D0 : ZR, (J1a u code c most n m c0 big c1 O0 D0) → ((((∃ a' : Int, ∃ c3' : Cur, ∃ O1' : ZI, ∃ D1' : ZR, (J0h u code c most n m c0 big c1 O0 D0 a' c3' O1' D1') ∧ (most = most) ∧ (n = n) ∧ (m = m) ∧ (big = big) ∧ ((0 : Int) = a') ∧ ((.lit u (.sl (.bytes code)) : D) = .lit u (.sl (.bytes code))) ∧ (c1.pos = c3'.pos) ∧ (c1.seed = c3'.seed) ∧ (O0 = O1') ∧ (D0 = D1') ∧ (O0.length = O1'.length) ∧ (D0.length = D1'.length)) ∧ (∀ a : Int, ∀ c3 : Cur, ∀ O1 : ZI, ∀ D1 : ZR, (J0h u code c most n m c0 big c1 O0 D0 a c3 O1 D1) → ((decide (a < n)) = true → (decide (a < n)) = true) ∧ ((decide (a < n)) = true → (decide (a < n)) = true) ∧ (true = true) ∧ (((decide (a < n)) = true → (decide (a < n)) = true)) ∧ (((decide (a < n)) = false → true = true)) ∧ (((cond (decide (a < n)) (decide (a < most)) false) = true → (true = true) ∧ (PK Tryz.prog 156 76 (.sl (.bytes code)) [.int .i64 c3.pos, .int .u64 c3.seed] [.int .i64 ((J1 code c3 big).pos), .int .u64 ((J1 code c3 big).seed)] [.int .i64 big] (.one (.d (.int .i64 (J6 code c3 big))))) ∧ (O1.length = O1.length) ∧ ((1 : Nat) = 1) ∧ ((O1.length + 1) * 8 ≤ 140737488355328) ∧ (I6 (a + 1)) ∧ (∃ a' : Int, ∃ c3' : Cur, ∃ O1' : ZI, ∃ D1' : ZR, (J0h u code c most n m c0 big c1 O0 D0 a' c3' O1' D1') ∧ (J0n u code c most n m c0 big c1 O0 D0 a' c3' O1' D1' < J0n u code c most n m c0 big c1 O0 D0 a c3 O1 D1) ∧ (most = most) ∧ (n = n) ∧ (m = m) ∧ (big = big) ∧ ((a + 1) = a') ∧ ((.lit u (.sl (.bytes code)) : D) = .lit u (.sl (.bytes code))) ∧ ((J1 code c3 big).pos = c3'.pos) ∧ ((J1 code c3 big).seed = c3'.seed) ∧ ((O1 ++ [(J6 code c3 big)]) = O1') ∧ (D1 = D1') ∧ ((O1.length + 1) = O1'.length) ∧ (D1.length = D1'.length))) ∧ ((cond (decide (a < n)) (decide (a < most)) false) = false → (∃ c4' : Cur, ∃ O2' : ZI, ∃ D2' : ZR, (J1d u code c most n m c0 big c1 O0 D0 c4' O2' D2') ∧ (most = most) ∧ (m = m) ∧ (big = big) ∧ ((.lit u (.sl (.bytes code)) : D) = .lit u (.sl (.bytes code))) ∧ (c3.pos = c4'.pos) ∧ (c3.seed = c4'.seed) ∧ (O1 = O2') ∧ (D1 = D2') ∧ (O1.length = O2'.length) ∧ (D1.length = D2'.length))))))) ∧ (∀ c4 : Cur, ∀ O2 : ZI, ∀ D2 : ZR, (J1d u code c most n m c0 big c1 O0 D0 c4 O2 D2) → ((∃ i' : Int, ∃ c5' : Cur, ∃ O3' : ZI, ∃ D3' : ZR, (J0m u code c most n m c0 big c1 O0 D0 c4 O2 D2 i' c5' O3' D3') ∧ (most = most) ∧ (m = m) ∧ (big = big) ∧ ((0 : Int) = i') ∧ ((.lit u (.sl (.bytes code)) : D) = .lit u (.sl (.bytes code))) ∧ (c4.pos = c5'.pos) ∧ (c4.seed = c5'.seed) ∧ (O2 = O3') ∧ (D2 = D3') ∧ (O2.length = O3'.length) ∧ (D2.length = D3'.length)) ∧ (∀ i : Int, ∀ c5 : Cur, ∀ O3 : ZI, ∀ D3 : ZR, (J0m u code c most n m c0 big c1 O0 D0 c4 O2 D2 i c5 O3 D3) → ((decide (i < m)) = true → (decide (i < m)) = true) ∧ ((decide (i < m)) = true → (decide (i < m)) = true) ∧ (true = true) ∧ (((decide (i < m)) = true → (decide (i < m)) = true)) ∧ (((decide (i < m)) = false → true = true)) ∧ (((cond (decide (i < m)) (decide (i < most)) false) = true → ((∃ row' : ZI, ∃ a2' : Int, ∃ c6' : Cur, (J0f u code c most n m c0 big c1 O0 D0 c4 O2 D2 i c5 O3 D3 row' a2' c6') ∧ (most = most) ∧ (m = m) ∧ (big = big) ∧ (i = i) ∧ ((0 : Nat) = row'.length) ∧ ((0 : Int) = a2') ∧ ([] = row') ∧ ((.lit u (.sl (.bytes code)) : D) = .lit u (.sl (.bytes code))) ∧ (c5.pos = c6'.pos) ∧ (c5.seed = c6'.seed) ∧ (O3.length = O3.length) ∧ (D3.length = D3.length) ∧ (O3 = O3) ∧ (D3 = D3)) ∧ (∀ row : ZI, ∀ a2 : Int, ∀ c6 : Cur, (J0f u code c most n m c0 big c1 O0 D0 c4 O2 D2 i c5 O3 D3 row a2 c6) → (((decide (a2 < (O3.length : Int))) = true → (PK Tryz.prog 156 76 (.sl (.bytes code)) [.int .i64 c6.pos, .int .u64 c6.seed] [.int .i64 ((J1 code c6 big).pos), .int .u64 ((J1 code c6 big).seed)] [.int .i64 big] (.one (.d (.int .i64 (J6 code c6 big))))) ∧ (row.length = row.length) ∧ ((1 : Nat) = 1) ∧ ((row.length + 1) * 8 ≤ 140737488355328) ∧ (I6 (a2 + 1)) ∧ (∃ row' : ZI, ∃ a2' : Int, ∃ c6' : Cur, (J0f u code c most n m c0 big c1 O0 D0 c4 O2 D2 i c5 O3 D3 row' a2' c6') ∧ (J0o u code c most n m c0 big c1 O0 D0 c4 O2 D2 i c5 O3 D3 row' a2' c6' < J0o u code c most n m c0 big c1 O0 D0 c4 O2 D2 i c5 O3 D3 row a2 c6) ∧ (most = most) ∧ (m = m) ∧ (big = big) ∧ (i = i) ∧ ((row.length + 1) = row'.length) ∧ ((a2 + 1) = a2') ∧ ((row ++ [(J6 code c6 big)]) = row') ∧ ((.lit u (.sl (.bytes code)) : D) = .lit u (.sl (.bytes code))) ∧ ((J1 code c6 big).pos = c6'.pos) ∧ ((J1 code c6 big).seed = c6'.seed) ∧ (O3.length = O3.length) ∧ (D3.length = D3.length) ∧ (O3 = O3) ∧ (D3 = D3))) ∧ ((decide (a2 < (O3.length : Int))) = false → (row.length = row.length) ∧ (D3.length = D3.length) ∧ ((1 : Nat) = 1) ∧ (0 < 1) ∧ ((D3.length + 1) * 24 ≤ 140737488355328) ∧ (I6 (i + 1)) ∧ (∃ i' : Int, ∃ c5' : Cur, ∃ O3' : ZI, ∃ D3' : ZR, (J0m u code c most n m c0 big c1 O0 D0 c4 O2 D2 i' c5' O3' D3') ∧ (J0d u code c most n m c0 big c1 O0 D0 c4 O2 D2 i' c5' O3' D3' < J0d u code c most n m c0 big c1 O0 D0 c4 O2 D2 i c5 O3 D3) ∧ (most = most) ∧ (m = m) ∧ (big = big) ∧ ((i + 1) = i') ∧ ((.lit u (.sl (.bytes code)) : D) = .lit u (.sl (.bytes code))) ∧ (c6.pos = c5'.pos) ∧ (c6.seed = c5'.seed) ∧ (O3 = O3') ∧ ((D3 ++ [row]) = D3') ∧ (O3.length = O3'.length) ∧ ((D3.length + 1) = D3'.length))))))) ∧ ((cond (decide (i < m)) (decide (i < most)) false) = false → (∃ O' : ZI, ∃ D' : ZR, ∃ cf' : Cur, (J04 code c most O' D' cf') ∧ (true = true) ∧ ((.lit u (.sl (.bytes code)) : D) = .lit u (.sl (.bytes code))) ∧ (c5.pos = cf'.pos) ∧ (c5.seed = cf'.seed) ∧ (O3.length = O3.length) ∧ ((O3 : ZI) = O') ∧ (D3.length = D3.length) ∧ ((D3 : ZR) = D'))))))))))))
end Go.Proofs.YtomnmacmlhkceaaGreat
