/- Contracts of the functions that the law reaches. -/
import Derived.Test.YtomnmacmlhkceaaGreatQw
import Derived.Test.YtomnmacmlhkceaaGreatQua
import Derived.Test.YtomnmacmlhkceaaGreatQub
import Derived.Test.YtomnmacmlhkceaaGreatQuc
import Derived.Test.YtomnmacmlhkceaaGreatSh
import Derived.Test.YtomnmacmlhkceaaGreatProg
import Derived.KernelRfl
set_option linter.unusedVariables false
set_option linter.unusedSimpArgs false
namespace Go.Proofs.YtomnmacmlhkceaaGreat
open Go

abbrev ZI := List Int
abbrev ZR := List (List Int)
abbrev I6 (x : Int) : Prop := -9223372036854775808 ≤ x ∧ x ≤ 9223372036854775807
def Jgk (f : FuncId) (ds : List D) : Orc := .no
def Jgf (x : Int) (a : Int) (b : Int) : Ann := .none
def Jdp (x : Int) (a : Int) (b : Int) : Prop :=
  ((decide (x ≥ a)) = true → (decide (x ≥ a)) = true) ∧ ((decide (x ≥ a)) = true → (decide (x ≥ a)) = true) ∧ (true = true) ∧ (((decide (x ≥ a)) = true → (decide (x ≥ a)) = true)) ∧ (((decide (x ≥ a)) = false → true = true)) ∧ (((cond (decide (x ≥ a)) (decide (x ≤ b)) false) = (inB x a b)))
theorem Jfr (x : Int) (a : Int) (b : Int)   : Jdp x a b := by
  unfold Jdp
  refine ⟨id, id, rfl, id, fun _ => rfl, ?_⟩
  ·(simp only [inB]; by_cases h : a ≤ x <;> simp_all)
theorem J7T (x : Int) (a : Int) (b : Int)  : PC Tryz.prog 129 [.int .i64 x, .int .i64 a, .int .i64 b] (.one (.d (.bool (inB x a b)))) :=
  pc_wf @Tryz.call129 fun _ => pc_by (by kernel_rfl) Tryz.func129 @Tryz.call129 (by kernel_rfl) Jgk (Jgf x a b) (by kernel_rfl) (Jfr x a b) (by kernel_rfl)
def J6U : List D → Orc := orcN [none, none, none] fun ds => match ds with
  | [.int .i64 x, .int .i64 a, .int .i64 b] => some (.one (.d (.bool (inB x a b))))
  | _ => none
def Je7 (f : FuncId) (ds : List D) : Orc := .no
def JdK (x : Int) (a : Int) (b : Int) : Ann := .none
def J8Y (x : Int) (a : Int) (b : Int) : Prop :=
  ((decide (x ≥ a)) = true → (decide (x ≥ a)) = true) ∧ ((decide (x ≥ a)) = true → (decide (x ≥ a)) = true) ∧ (true = true) ∧ (((decide (x ≥ a)) = true → (decide (x ≥ a)) = true)) ∧ (((decide (x ≥ a)) = false → true = true)) ∧ (((cond (decide (x ≥ a)) (decide (x ≤ b)) false) = (inB x a b)))
theorem Jds (x : Int) (a : Int) (b : Int)   : J8Y x a b := by
  unfold J8Y
  refine ⟨id, id, rfl, id, fun _ => rfl, ?_⟩
  ·(simp only [inB]; by_cases h : a ≤ x <;> simp_all)
theorem J3G (x : Int) (a : Int) (b : Int)  : PC Tryz.prog 132 [.int .i64 x, .int .i64 a, .int .i64 b] (.one (.d (.bool (inB x a b)))) :=
  pc_wf @Tryz.call132 fun _ => pc_by (by kernel_rfl) Tryz.func132 @Tryz.call132 (by kernel_rfl) Je7 (JdK x a b) (by kernel_rfl) (Jds x a b) (by kernel_rfl)
def J3d : List D → Orc := orcN [none, none, none] fun ds => match ds with
  | [.int .i64 x, .int .i64 a, .int .i64 b] => some (.one (.d (.bool (inB x a b))))
  | _ => none
def J2e (xs : ZI) (lo hi : Int) (k : Nat) : Bool := inB (xs.getD k 0) lo hi && (decide (k = 0) || decide (xs.getD (k - 1) 0 < xs.getD k 0))
def J2 (xs : ZI) (lo hi : Int) : Bool := allTo (J2e xs lo hi) xs.length
theorem J8X {xs : ZI} {lo hi i : Int} (h0 : 0 ≤ i) {c : Bool} (hc : (cond (!(inB (xs.getD i.toNat 0) lo hi)) true (cond (decide (i > 0)) (decide (xs.getD (i - 1).toNat 0 ≥ xs.getD i.toNat 0)) false)) = c) :
    J2e xs lo hi i.toNat = !c := by
  subst hc
  have e : (i - 1).toNat = i.toNat - 1 := by omega
  unfold J2e
  rw [e]
  cases inB (xs.getD i.toNat 0) lo hi
  · rfl
  by_cases h : i > 0
  · have h2 : ¬ i.toNat = 0 := by omega
    simp [h, h2]
    by_cases h3 : xs[i.toNat - 1]?.getD 0 < xs[i.toNat]?.getD 0
    · simp [h3]
    simp [h3]; omega
  · have h2 : i.toNat = 0 := by omega
    simp [h, h2]
abbrev J2p (xs : ZI) (below : Int) (i : Int) : Prop := (0 ≤ i) ∧ (i ≤ (xs.length : Int)) ∧ (allTo (J2e xs 0 (below - 1)) i.toNat = true)
abbrev J2r (xs : ZI) (below : Int) (i : Int) : Nat := (xs.length - i).toNat
def Jd9 (f : FuncId) (ds : List D) : Orc := bif Nat.beq f 132 then J3d ds else .no
def Jdy (xs : ZI) (below : Int) : Ann := .two (.none) (.two (.two (.none) (.loop (cut1 (fun (i : Int) => J2p xs below i) (fun (i : Int) => [(0, .d false (.sl (.ints xs))), (1, .d false (.int .i64 below)), (7, .d false (.sl (.ints xs))), (8, .d true (.int .i64 (xs.length : Int))), (9, .d true (.int .i64 i))]) (fun (i : Int) => [])) (fun g => J2r xs below g) (fun _ => .none))) (.none))
def J7Y (xs : ZI) (below : Int) : Prop :=
  ((∃ i' : Int, (J2p xs below i') ∧ (xs = xs) ∧ (below = below) ∧ (xs = xs) ∧ ((xs.length : Int) = (xs.length : Int)) ∧ ((0 : Int) = i')) ∧ (∀ i : Int, (J2p xs below i) → (((decide (i < (xs.length : Int))) = true → ((0 : Int) ≤ i) ∧ ((i : Int) < xs.length) ∧ (i.toNat < xs.length) ∧ (I6 (below - 1)) ∧ (PC Tryz.prog 132 [.int .i64 (xs.getD i.toNat 0), .int .i64 0, .int .i64 (below - 1)] (.one (.d (.bool (inB (xs.getD i.toNat 0) 0 (below - 1)))))) ∧ ((!(!(inB (xs.getD i.toNat 0) 0 (below - 1)))) = true → (!(!(inB (xs.getD i.toNat 0) 0 (below - 1)))) = true) ∧ ((!(!(inB (xs.getD i.toNat 0) 0 (below - 1)))) = true → (!(!(inB (xs.getD i.toNat 0) 0 (below - 1)))) = true) ∧ (((!(!(inB (xs.getD i.toNat 0) 0 (below - 1)))) && (decide (i > 0))) = true → ((!(!(inB (xs.getD i.toNat 0) 0 (below - 1)))) && (decide (i > 0))) = true) ∧ ((((!(!(inB (xs.getD i.toNat 0) 0 (below - 1)))) && (decide (i > 0))) = true → I6 (i - 1))) ∧ (((!(!(inB (xs.getD i.toNat 0) 0 (below - 1)))) && (decide (i > 0))) = true → ((!(!(inB (xs.getD i.toNat 0) 0 (below - 1)))) && (decide (i > 0))) = true) ∧ (((!(!(inB (xs.getD i.toNat 0) 0 (below - 1)))) && (decide (i > 0))) = true → ((!(!(inB (xs.getD i.toNat 0) 0 (below - 1)))) && (decide (i > 0))) = true) ∧ ((((!(!(inB (xs.getD i.toNat 0) 0 (below - 1)))) && (decide (i > 0))) = true → (0 : Int) ≤ (i - 1))) ∧ ((((!(!(inB (xs.getD i.toNat 0) 0 (below - 1)))) && (decide (i > 0))) = true → ((i - 1) : Int) < xs.length)) ∧ (((!(!(inB (xs.getD i.toNat 0) 0 (below - 1)))) && (decide (i > 0))) = true → ((!(!(inB (xs.getD i.toNat 0) 0 (below - 1)))) && (decide (i > 0))) = true) ∧ ((((!(!(inB (xs.getD i.toNat 0) 0 (below - 1)))) && (decide (i > 0))) = true → (i - 1).toNat < xs.length)) ∧ (((!(!(inB (xs.getD i.toNat 0) 0 (below - 1)))) && (decide (i > 0))) = true → ((!(!(inB (xs.getD i.toNat 0) 0 (below - 1)))) && (decide (i > 0))) = true) ∧ (((!(!(inB (xs.getD i.toNat 0) 0 (below - 1)))) && (decide (i > 0))) = true → ((!(!(inB (xs.getD i.toNat 0) 0 (below - 1)))) && (decide (i > 0))) = true) ∧ (((!(!(inB (xs.getD i.toNat 0) 0 (below - 1)))) = true → (!(!(inB (xs.getD i.toNat 0) 0 (below - 1)))) = true)) ∧ (((!(!(inB (xs.getD i.toNat 0) 0 (below - 1)))) = true → (decide (i > 0)) = true → ((!(!(inB (xs.getD i.toNat 0) 0 (below - 1)))) && (decide (i > 0))) = true)) ∧ (((!(!(inB (xs.getD i.toNat 0) 0 (below - 1)))) = true → (decide (i > 0)) = false → true = true)) ∧ (true = true) ∧ (((!(inB (xs.getD i.toNat 0) 0 (below - 1))) = true → true = true)) ∧ (((!(inB (xs.getD i.toNat 0) 0 (below - 1))) = false → (!(!(inB (xs.getD i.toNat 0) 0 (below - 1)))) = true)) ∧ (((cond (!(inB (xs.getD i.toNat 0) 0 (below - 1))) true (cond (decide (i > 0)) (decide ((xs.getD i.toNat 0) ≤ (xs.getD ((i - 1).toNat) 0))) false)) = true → ((false = (J2 xs 0 (below - 1))))) ∧ ((cond (!(inB (xs.getD i.toNat 0) 0 (below - 1))) true (cond (decide (i > 0)) (decide ((xs.getD i.toNat 0) ≤ (xs.getD ((i - 1).toNat) 0))) false)) = false → (I6 (i + 1)) ∧ (∃ i' : Int, (J2p xs below i') ∧ (J2r xs below i' < J2r xs below i) ∧ (xs = xs) ∧ (below = below) ∧ (xs = xs) ∧ ((xs.length : Int) = (xs.length : Int)) ∧ ((i + 1) = i'))))) ∧ ((decide (i < (xs.length : Int))) = false → ((true = (J2 xs 0 (below - 1))))))))
theorem Jcp (xs : ZI) (below : Int) (hb : -9223372036854775808 < below ∧ below ≤ 9223372036854775807) (w_xs : (xs.length : Int) ≤ 9223372036854775807) : J7Y xs below := by
  unfold J7Y
  refine ⟨?_, ?_⟩
  ·refine ⟨0, ?_⟩
   refine ⟨?_, rfl, rfl, rfl, rfl, rfl⟩
   ·refine ⟨?_, ?_, ?_⟩
    ·omega
    ·omega
    ·rfl
  intro i hJ
  obtain ⟨h1, h2, h3⟩ := hJ
  refine ⟨?_, ?_⟩
  ·intro b1
   try simp only [nrmT] at b1
   refine ⟨?_, ?_, ?_, ?_, J3G (xs.getD i.toNat 0) 0 (below - 1), id, id, id, ?_, id, id, ?_, ?_, id, ?_, id, id, id, ?_, fun _ _ => rfl, rfl, fun _ => rfl, ?_, ?_, ?_⟩
   ·omega
   ·omega
   ·omega
   ·omega
   ·omega
   ·(intro hg; simp only [nrmT] at hg; omega)
   ·omega
   ·omega
   ·(simp_all; done)
   ·(simp_all; done)
   ·intro b2
    have e := J8X h1 b2
    exact (allTo_falseI h1 (by omega) e).symm
   intro b3
   refine ⟨?_, ?_⟩
   ·omega
   refine ⟨(i + 1), ?_⟩
   refine ⟨?_, ?_, rfl, rfl, rfl, rfl, rfl⟩
   ·refine ⟨?_, ?_, ?_⟩
    ·omega
    ·omega
    ·have e := J8X h1 b3
     exact allTo_step h1 h3 e
   (simp only [J2r]; omega)
  intro b4
  try simp only [nrmT] at b4
  have e : i.toNat = xs.length := by omega
  rw [e] at h3
  exact h3.symm
theorem Jca (xs : ZI) (below : Int) (hb : -9223372036854775808 < below ∧ below ≤ 9223372036854775807) : PC Tryz.prog 162 [.sl (.ints xs), .int .i64 below] (.one (.d (.bool (J2 xs 0 (below - 1))))) :=
  pc_wf @Tryz.call162 fun hw => pc_by (by kernel_rfl) Tryz.func162 @Tryz.call162 (by kernel_rfl) Jd9 (Jdy xs below) (by kernel_rfl) (Jcp xs below hb hw.1) (by kernel_rfl)
def Jbu : List D → Orc := orcN [some .ints, none] fun ds => match ds with
  | [.sl (.ints xs), .int .i64 below] => some (.one (.d (.bool (J2 xs 0 (below - 1)))))
  | _ => none
theorem J8l (m n : Nat) : ((m : Int) == (n : Int)) = decide (m = n) := by
  rw [Bool.eq_iff_iff]; simp only [beq_iff_eq, decide_eq_true_eq]; omega
theorem JfD (m n : Nat) : decide ((m : Int) ≤ (n : Int)) = decide (m ≤ n) := by
  rw [Bool.eq_iff_iff]; simp only [decide_eq_true_eq]; omega
theorem Jbk {α : Type} {p : α → Bool} {d : α} {xs : List α} {i : Int} (h2 : (xs.length : Int) ≤ i) (h2' : i ≤ (xs.length : Int)) (h3 : allTo (fun k => p (xs.getD k d)) i.toNat = true) : xs.all p = true := by
  have e : i.toNat = xs.length := by omega
  rw [e, allTo_list] at h3; exact h3
theorem Jd4 {α : Type} {p : α → Bool} {d : α} {xs : List α} {i : Int} (h0 : 0 ≤ i) (h : i < (xs.length : Int)) (h3 : p (xs.getD i.toNat d) = false) : xs.all p = false := by
  rw [← allTo_list (d := d)]; exact allTo_falseI h0 h h3
theorem Jx {x lo hi : Int} (h : inB x lo hi = true) : lo ≤ x ∧ x ≤ hi := of_decide_eq_true h
def J9r (f : FuncId) (ds : List D) : Orc := bif Nat.beq f 132 then J3d ds else .no
def J9p (x : Int) (lo : Int) (hi : Int) : Ann := .none
def J5G (x : Int) (lo : Int) (hi : Int) : Prop :=
  (PC Tryz.prog 132 [.int .i64 x, .int .i64 lo, .int .i64 hi] (.one (.d (.bool (inB x lo hi))))) ∧ (((!(inB x lo hi)) = (!(inB x lo hi))))
theorem J8N (x : Int) (lo : Int) (hi : Int)   : J5G x lo hi := by
  unfold J5G
  refine ⟨J3G x lo hi, rfl⟩
theorem J8x (x : Int) (lo : Int) (hi : Int)  : PC Tryz.prog 220 [.int .i64 x, .bx [.int .i64 lo] 0, .bx [.int .i64 hi] 0] (.one (.d (.bool (!(inB x lo hi))))) :=
  pc_wf @Tryz.call220 fun _ => pc_by (by kernel_rfl) Tryz.func220 @Tryz.call220 (by kernel_rfl) J9r (J9p x lo hi) (by kernel_rfl) (J8N x lo hi) (by kernel_rfl)
def J7J : List D → Orc := orcN [none, none, none] fun ds => match ds with
  | [.int .i64 x, .bx [.int .i64 lo] 0, .bx [.int .i64 hi] 0] => some (.one (.d (.bool (!(inB x lo hi)))))
  | _ => none
abbrev JF (xs : ZI) (lo : Int) (hi : Int) (i : Int) : Prop := (0 ≤ i) ∧ (i ≤ (xs.length : Int)) ∧ (∀ k, k < i.toNat → (fun x => !(inB x lo hi)) (xs.getD k 0) = false)
abbrev JG (xs : ZI) (lo : Int) (hi : Int) (i : Int) : Nat := (xs.length - i).toNat
def J4e (f : FuncId) (ds : List D) : Orc := bif Nat.beq f 220 then J7J ds else .no
def J4g (xs : ZI) (lo : Int) (hi : Int) : Ann := .two (.none) (.two (.two (.none) (.loop (cut1 (fun (i : Int) => JF xs lo hi i) (fun (i : Int) => [(0, .d false (.sl (.ints xs))), (1, .d false (.fn 220 0 [.bx [.int .i64 lo] 0, .bx [.int .i64 hi] 0])), (7, .d true (.int .i64 (xs.length : Int))), (8, .d true (.int .i64 i))]) (fun (i : Int) => [])) (fun g => JG xs lo hi g) (fun _ => .none))) (.none))
def J1m (xs : ZI) (lo : Int) (hi : Int) : Prop :=
  ((∃ i' : Int, (JF xs lo hi i') ∧ (xs = xs) ∧ ((.fn 220 0 [.bx [.int .i64 lo] 0, .bx [.int .i64 hi] 0] : D) = (.fn 220 0 [.bx [.int .i64 lo] 0, .bx [.int .i64 hi] 0] : D)) ∧ ((xs.length : Int) = (xs.length : Int)) ∧ ((0 : Int) = i')) ∧ (∀ i : Int, (JF xs lo hi i) → (((decide (i < (xs.length : Int))) = true → ((0 : Int) ≤ i) ∧ ((i : Int) < xs.length) ∧ (i.toNat < xs.length) ∧ (PC Tryz.prog 220 [.int .i64 (xs.getD i.toNat 0), .bx [.int .i64 lo] 0, .bx [.int .i64 hi] 0] (.one (.d (.bool (!(inB (xs.getD i.toNat 0) lo hi)))))) ∧ (((!(inB (xs.getD i.toNat 0) lo hi)) = true → ((i = (idxI (fun x => !(inB x lo hi)) xs)))) ∧ ((!(inB (xs.getD i.toNat 0) lo hi)) = false → (I6 (i + 1)) ∧ (∃ i' : Int, (JF xs lo hi i') ∧ (JG xs lo hi i' < JG xs lo hi i) ∧ (xs = xs) ∧ ((.fn 220 0 [.bx [.int .i64 lo] 0, .bx [.int .i64 hi] 0] : D) = (.fn 220 0 [.bx [.int .i64 lo] 0, .bx [.int .i64 hi] 0] : D)) ∧ ((xs.length : Int) = (xs.length : Int)) ∧ ((i + 1) = i'))))) ∧ ((decide (i < (xs.length : Int))) = false → ((((-1) : Int) = (idxI (fun x => !(inB x lo hi)) xs)))))))
theorem J3M (xs : ZI) (lo : Int) (hi : Int)  (w_xs : (xs.length : Int) ≤ 9223372036854775807) : J1m xs lo hi := by
  unfold J1m
  refine ⟨?_, ?_⟩
  ·refine ⟨0, ?_⟩
   refine ⟨?_, rfl, rfl, rfl, rfl⟩
   ·refine ⟨?_, ?_, ?_⟩
    ·omega
    ·omega
    ·omega
  intro i hJ
  obtain ⟨h1, h2, h3⟩ := hJ
  refine ⟨?_, ?_⟩
  ·intro b1
   try simp only [nrmT] at b1
   refine ⟨?_, ?_, ?_, J8x (xs.getD i.toNat 0) lo hi, ?_, ?_⟩
   ·omega
   ·omega
   ·omega
   ·intro b2
    try simp only [nrmT] at b2
    exact idx_found (p := fun x => !(inB x lo hi)) h1 b1 h3 (by simpa using b2)
   intro b3
   try simp only [nrmT] at b3
   refine ⟨?_, ?_⟩
   ·omega
   refine ⟨(i + 1), ?_⟩
   refine ⟨?_, ?_, rfl, rfl, rfl, rfl⟩
   ·refine ⟨?_, ?_, ?_⟩
    ·omega
    ·omega
    ·exact idx_step (p := fun x => !(inB x lo hi)) h1 h3 (by simpa using b3)
   (simp only [JG]; omega)
  intro b4
  try simp only [nrmT] at b4
  exact (idx_none (by omega) h3).symm
theorem J49 (xs : ZI) (lo : Int) (hi : Int)  : PC Tryz.prog 237 [.sl (.ints xs), .fn 220 0 [.bx [.int .i64 lo] 0, .bx [.int .i64 hi] 0]] (.one (.d (.int .i64 (idxI (fun x => !(inB x lo hi)) xs)))) :=
  pc_wf @Tryz.call237 fun hw => pc_by (by kernel_rfl) Tryz.func237 @Tryz.call237 (by kernel_rfl) J4e (J4g xs lo hi) (by kernel_rfl) (J3M xs lo hi hw.1) (by kernel_rfl)
def J3z : List D → Orc := orcN [some .ints, none] fun ds => match ds with
  | [.sl (.ints xs), .fn f0 0 [.bx [.int .i64 lo] 0, .bx [.int .i64 hi] 0]] => bif Nat.beq f0 220 then some (.one (.d (.int .i64 (idxI (fun x => !(inB x lo hi)) xs)))) else none
  | _ => none
def J3k (f : FuncId) (ds : List D) : Orc := bif Nat.beq f 237 then J3z ds else .no
def J3l (xs : ZI) (lo : Int) (hi : Int) : Ann := .none
def J0T (xs : ZI) (lo : Int) (hi : Int) : Prop :=
  (PC Tryz.prog 237 [.sl (.ints xs), .fn 220 0 [.bx [.int .i64 lo] 0, .bx [.int .i64 hi] 0]] (.one (.d (.int .i64 (idxI (fun x => !(inB x lo hi)) xs))))) ∧ (((decide ((idxI (fun x => !(inB x lo hi)) xs) ≥ 0)) = (xs.any (fun x => !(inB x lo hi)))))
theorem J2S (xs : ZI) (lo : Int) (hi : Int)  (w_xs : (xs.length : Int) ≤ 9223372036854775807) : J0T xs lo hi := by
  unfold J0T
  refine ⟨J49 xs lo hi, ?_⟩
  ·exact idx_any _ _
theorem J2U (xs : ZI) (lo : Int) (hi : Int)  : PC Tryz.prog 218 [.sl (.ints xs), .fn 220 0 [.bx [.int .i64 lo] 0, .bx [.int .i64 hi] 0]] (.one (.d (.bool (xs.any (fun x => !(inB x lo hi)))))) :=
  pc_wf @Tryz.call218 fun hw => pc_by (by kernel_rfl) Tryz.func218 @Tryz.call218 (by kernel_rfl) J3k (J3l xs lo hi) (by kernel_rfl) (J2S xs lo hi hw.1) (by kernel_rfl)
def J2L : List D → Orc := orcN [some .ints, none] fun ds => match ds with
  | [.sl (.ints xs), .fn f0 0 [.bx [.int .i64 lo] 0, .bx [.int .i64 hi] 0]] => bif Nat.beq f0 220 then some (.one (.d (.bool (xs.any (fun x => !(inB x lo hi)))))) else none
  | _ => none
def Jbs (f : FuncId) (ds : List D) : Orc := bif Nat.beq f 218 then J2L ds else .no
def Jbj (xs : ZI) (lo : Int) (hi : Int) : Ann := .none
def J6E (xs : ZI) (lo : Int) (hi : Int) : Prop :=
  (PC Tryz.prog 218 [.sl (.ints xs), .fn 220 0 [.bx [.int .i64 lo] 0, .bx [.int .i64 hi] 0]] (.one (.d (.bool (xs.any (fun x => !(inB x lo hi))))))) ∧ (((!(xs.any (fun x => !(inB x lo hi)))) = (xs.all (fun x => inB x lo hi))))
theorem J9U (xs : ZI) (lo : Int) (hi : Int)  (w_xs : (xs.length : Int) ≤ 9223372036854775807) : J6E xs lo hi := by
  unfold J6E
  refine ⟨J2U xs lo hi, ?_⟩
  ·exact any_not _ _
theorem J5W (xs : ZI) (lo : Int) (hi : Int)  : PC Tryz.prog 168 [.sl (.ints xs), .int .i64 lo, .int .i64 hi] (.one (.d (.bool (xs.all (fun x => inB x lo hi))))) :=
  pc_wf @Tryz.call168 fun hw => pc_by (by kernel_rfl) Tryz.func168 @Tryz.call168 (by kernel_rfl) Jbs (Jbj xs lo hi) (by kernel_rfl) (J9U xs lo hi hw.1) (by kernel_rfl)
def J5s : List D → Orc := orcN [some .ints, none, none] fun ds => match ds with
  | [.sl (.ints xs), .int .i64 lo, .int .i64 hi] => some (.one (.d (.bool (xs.all (fun x => inB x lo hi)))))
  | _ => none
theorem J9Y {α : Type} [BEq α] [LawfulBEq α] {d : α} {xs ys : List α} (hl : xs.length = ys.length) : allTo (fun k => xs.getD k d == ys.getD k d) xs.length = (xs == ys) := by
  rw [Bool.eq_iff_iff, allTo_iff]
  simp only [beq_iff_eq]
  constructor
  · intro h
    refine List.ext_getElem hl fun k h1 h2 => ?_
    have := h k h1
    simpa [h1, h2] using this
  intro h k _
  rw [h]
theorem JgE {α : Type} [BEq α] [LawfulBEq α] {xs ys : List α} (h : ¬ xs.length = ys.length) : (xs == ys) = false := by
  rw [Bool.eq_false_iff]; intro h2; simp only [beq_iff_eq] at h2; exact h (by rw [h2])
def Jl (row : ZI) (n most : Int) : Bool := row.all (fun x => inB x 0 most) && decide ((row.length : Int) = n)
def J0 (U : ZI) (E : ZR) : Bool :=
  inB (U.length : Int) 1 7 && U.all (fun x => inB x 0 99) && decide (E.length ≤ 7) && E.all (fun l => Jl l (U.length : Int) 99)
theorem Jb {U : ZI} {E : ZR} (h : J0 U E = true) : 1 ≤ U.length ∧ U.length ≤ 7 ∧ E.length ≤ 7 := by
  simp only [J0, Bool.and_eq_true, decide_eq_true_eq] at h
  have := Jx h.1.1.1
  omega
theorem Je {U : ZI} {E : ZR} (h : J0 U E = true) {i : Nat} (hi : i < E.length) : (E.getD i []).length = U.length ∧ ∀ a, a < U.length → 0 ≤ (E.getD i []).getD a 0 ∧ (E.getD i []).getD a 0 ≤ 99 := by
  simp only [J0, Bool.and_eq_true, decide_eq_true_eq] at h
  have h2 := List.all_eq_true.1 h.2 _ (getD_mem (d := []) hi)
  simp only [Jl, Bool.and_eq_true, decide_eq_true_eq] at h2
  refine ⟨by omega, fun a ha => ?_⟩
  exact Jx (List.all_eq_true.1 h2.1 _ (getD_mem (by omega)))
abbrev J4L (row : ZI) (n : Int) (most : Int) (i : Int) : Prop := (0 ≤ i) ∧ (i ≤ (row.length : Int)) ∧ (allTo (fun k => inB (row.getD k 0) 0 most) i.toNat = true)
abbrev J4u (row : ZI) (n : Int) (most : Int) (i : Int) : Nat := (row.length - i).toNat
def Jg1 (f : FuncId) (ds : List D) : Orc := bif Nat.beq f 129 then J6U ds else .no
def JfU (row : ZI) (n : Int) (most : Int) : Ann := .two (.none) (.two (.two (.none) (.loop (cut1 (fun (i : Int) => J4L row n most i) (fun (i : Int) => [(0, .d false (.sl (.ints row))), (1, .d false (.int .i64 n)), (2, .d false (.int .i64 most)), (7, .d true (.int .i64 i))]) (fun (i : Int) => [])) (fun g => J4u row n most g) (fun _ => .none))) (.none))
def JbF (row : ZI) (n : Int) (most : Int) : Prop :=
  ((∃ i' : Int, (J4L row n most i') ∧ (row = row) ∧ (n = n) ∧ (most = most) ∧ ((0 : Int) = i')) ∧ (∀ i : Int, (J4L row n most i) → (((decide (i < (row.length : Int))) = true → ((0 : Int) ≤ i) ∧ ((i : Int) < row.length) ∧ (i.toNat < row.length) ∧ (PC Tryz.prog 129 [.int .i64 (row.getD i.toNat 0), .int .i64 0, .int .i64 most] (.one (.d (.bool (inB (row.getD i.toNat 0) 0 most))))) ∧ (((!(inB (row.getD i.toNat 0) 0 most)) = true → ((false = (Jl row n most)))) ∧ ((!(inB (row.getD i.toNat 0) 0 most)) = false → (I6 (i + 1)) ∧ (∃ i' : Int, (J4L row n most i') ∧ (J4u row n most i' < J4u row n most i) ∧ (row = row) ∧ (n = n) ∧ (most = most) ∧ ((i + 1) = i'))))) ∧ ((decide (i < (row.length : Int))) = false → ((((row.length : Int) == n) = (Jl row n most)))))))
theorem JeY (row : ZI) (n : Int) (most : Int)  (w_row : (row.length : Int) ≤ 9223372036854775807) : JbF row n most := by
  unfold JbF
  refine ⟨?_, ?_⟩
  ·refine ⟨0, ?_⟩
   refine ⟨?_, rfl, rfl, rfl, rfl⟩
   ·refine ⟨?_, ?_, ?_⟩
    ·omega
    ·omega
    ·rfl
  intro i hJ
  obtain ⟨h1, h2, h3⟩ := hJ
  refine ⟨?_, ?_⟩
  ·intro b1
   try simp only [nrmT] at b1
   refine ⟨?_, ?_, ?_, J7T (row.getD i.toNat 0) 0 most, ?_, ?_⟩
   ·omega
   ·omega
   ·omega
   ·intro b2
    try simp only [nrmT] at b2
    unfold Jl
    rw [Jd4 (p := fun x => inB x 0 most) (d := 0) h1 (by omega) b2]; rfl
   intro b3
   try simp only [nrmT] at b3
   refine ⟨?_, ?_⟩
   ·omega
   refine ⟨(i + 1), ?_⟩
   refine ⟨?_, ?_, rfl, rfl, rfl, rfl⟩
   ·refine ⟨?_, ?_, ?_⟩
    ·omega
    ·omega
    ·exact allTo_step h1 h3 b3
   (simp only [J4u]; omega)
  intro b4
  try simp only [nrmT] at b4
  unfold Jl
  rw [Jbk (p := fun x => inB x 0 most) (d := 0) (by omega) h2 h3, Bool.true_and]; rfl
theorem Ja3 (row : ZI) (n : Int) (most : Int)  : PC Tryz.prog 202 [.sl (.ints row), .int .i64 n, .int .i64 most] (.one (.d (.bool (Jl row n most)))) :=
  pc_wf @Tryz.call202 fun hw => pc_by (by kernel_rfl) Tryz.func202 @Tryz.call202 (by kernel_rfl) Jg1 (JfU row n most) (by kernel_rfl) (JeY row n most hw.1) (by kernel_rfl)
def Je6 : List D → Orc := orcN [some .ints, none, none] fun ds => match ds with
  | [.sl (.ints row), .int .i64 n, .int .i64 most] => some (.one (.d (.bool (Jl row n most))))
  | _ => none
abbrev J3Y (U : ZI) (E : ZR) (i : Int) : Prop := (0 ≤ i) ∧ (i ≤ (E.length : Int)) ∧ (allTo (fun k => Jl (E.getD k []) (U.length : Int) 99) i.toNat = true)
abbrev J4a (U : ZI) (E : ZR) (i : Int) : Nat := (E.length - i).toNat
def JeS (f : FuncId) (ds : List D) : Orc := bif Nat.beq f 202 then Je6 ds else bif Nat.beq f 129 then J6U ds else .no
def Jf3 (U : ZI) (E : ZR) : Ann := .two (.none) (.two (.none) (.two (.two (.none) (.loop (cut1 (fun (i : Int) => J3Y U E i) (fun (i : Int) => [(1, .ptr 1 0), (3, .d true (.int .i64 (U.length : Int))), (4, .d true (.int .i64 i))]) (fun (i : Int) => [(1, .box 27 [.d false (.sl (.ints U)), .d false (.sl (.rows E))])])) (fun g => J4a U E g) (fun _ => .none))) (.none)))
def JaJ (U : ZI) (E : ZR) : Prop :=
  ((∃ i' : Int, (J3Y U E i') ∧ ((U.length : Int) = (U.length : Int)) ∧ ((0 : Int) = i') ∧ (U = U) ∧ (E = E)) ∧ (∀ i : Int, (J3Y U E i) → (((decide (i < (E.length : Int))) = true → ((0 : Int) ≤ i) ∧ ((i : Int) < E.length) ∧ (i.toNat < E.length) ∧ (PC Tryz.prog 202 [.sl (.ints (E.getD i.toNat [])), .int .i64 (U.length : Int), .int .i64 99] (.one (.d (.bool (Jl (E.getD i.toNat []) (U.length : Int) 99))))) ∧ (((!(Jl (E.getD i.toNat []) (U.length : Int) 99)) = true → ((false = (J0 U E)))) ∧ ((!(Jl (E.getD i.toNat []) (U.length : Int) 99)) = false → (I6 (i + 1)) ∧ (∃ i' : Int, (J3Y U E i') ∧ (J4a U E i' < J4a U E i) ∧ ((U.length : Int) = (U.length : Int)) ∧ ((i + 1) = i') ∧ (U = U) ∧ (E = E))))) ∧ ((decide (i < (E.length : Int))) = false → (PC Tryz.prog 129 [.int .i64 (U.length : Int), .int .i64 1, .int .i64 7] (.one (.d (.bool (inB (U.length : Int) 1 7))))) ∧ ((inB (U.length : Int) 1 7) = true → (inB (U.length : Int) 1 7) = true) ∧ ((inB (U.length : Int) 1 7) = true → (inB (U.length : Int) 1 7) = true) ∧ ((inB (U.length : Int) 1 7) = true → (inB (U.length : Int) 1 7) = true) ∧ ((inB (U.length : Int) 1 7) = true → PC Tryz.prog 202 [.sl (.ints U), .int .i64 (U.length : Int), .int .i64 99] (.one (.d (.bool (Jl U (U.length : Int) 99))))) ∧ (true = true) ∧ (((inB (U.length : Int) 1 7) = true → (inB (U.length : Int) 1 7) = true)) ∧ (((inB (U.length : Int) 1 7) = false → true = true)) ∧ ((cond (inB (U.length : Int) 1 7) (Jl U (U.length : Int) 99) false) = true → (cond (inB (U.length : Int) 1 7) (Jl U (U.length : Int) 99) false) = true) ∧ ((cond (inB (U.length : Int) 1 7) (Jl U (U.length : Int) 99) false) = true → (cond (inB (U.length : Int) 1 7) (Jl U (U.length : Int) 99) false) = true) ∧ ((cond (inB (U.length : Int) 1 7) (Jl U (U.length : Int) 99) false) = true → (cond (inB (U.length : Int) 1 7) (Jl U (U.length : Int) 99) false) = true) ∧ (true = true) ∧ (((cond (inB (U.length : Int) 1 7) (Jl U (U.length : Int) 99) false) = true → (cond (inB (U.length : Int) 1 7) (Jl U (U.length : Int) 99) false) = true)) ∧ (((cond (inB (U.length : Int) 1 7) (Jl U (U.length : Int) 99) false) = false → true = true)) ∧ (((cond (cond (inB (U.length : Int) 1 7) (Jl U (U.length : Int) 99) false) (decide ((E.length : Int) ≤ 7)) false) = (J0 U E)))))))
theorem Je8 (U : ZI) (E : ZR)  (w_Open : (U.length : Int) ≤ 9223372036854775807) (w_Dist : (E.length : Int) ≤ 9223372036854775807) (v_Dist : ∀ x9 ∈ E, (x9.length : Int) ≤ 9223372036854775807) : JaJ U E := by
  unfold JaJ
  refine ⟨?_, ?_⟩
  ·refine ⟨0, ?_⟩
   refine ⟨?_, rfl, rfl, rfl, rfl⟩
   ·refine ⟨?_, ?_, ?_⟩
    ·omega
    ·omega
    ·rfl
  intro i hJ
  obtain ⟨h1, h2, h3⟩ := hJ
  refine ⟨?_, ?_⟩
  ·intro b1
   try simp only [nrmT] at b1
   refine ⟨?_, ?_, ?_, Ja3 (E.getD i.toNat []) (U.length : Int) 99, ?_, ?_⟩
   ·omega
   ·omega
   ·omega
   ·intro b2
    try simp only [nrmT] at b2
    unfold J0
    rw [Jd4 (p := fun l => Jl l (U.length : Int) 99) (d := []) h1 (by omega) b2, Bool.and_false]
   intro b3
   try simp only [nrmT] at b3
   refine ⟨?_, ?_⟩
   ·omega
   refine ⟨(i + 1), ?_⟩
   refine ⟨?_, ?_, rfl, rfl, rfl, rfl⟩
   ·refine ⟨?_, ?_, ?_⟩
    ·omega
    ·omega
    ·exact allTo_step h1 h3 b3
   (simp only [J4a]; omega)
  intro b4
  try simp only [nrmT] at b4
  refine ⟨J7T (U.length : Int) 1 7, id, id, id, fun _ => Ja3 U (U.length : Int) 99, rfl, id, fun _ => rfl, id, id, id, rfl, id, fun _ => rfl, ?_⟩
  ·unfold J0
   rw [Jbk (p := fun l => Jl l (U.length : Int) 99) (d := []) (by omega) h2 h3, show decide ((E.length : Int) ≤ 7) = decide (E.length ≤ 7) from JfD _ 7]
   unfold Jl
   cases inB (U.length : Int) 1 7 <;> cases U.all (fun x => inB x 0 99) <;> cases decide (E.length ≤ 7) <;> simp
theorem J8T (U : ZI) (E : ZR)  : PC Tryz.prog 112 [.agg [.sl (.ints U), .sl (.rows E)]] (.one (.d (.bool (J0 U E)))) :=
  pc_wf @Tryz.call112 fun hw => pc_by (by kernel_rfl) Tryz.func112 @Tryz.call112 (by kernel_rfl) JeS (Jf3 U E) (by kernel_rfl) (Je8 U E hw.1.1 hw.1.2.1.1 hw.1.2.1.2) (by kernel_rfl)
def J87 : List D → Orc := orcN [none] fun ds => match ds with
  | [.agg [.sl (.ints U), .sl (.rows E)]] => some (.one (.d (.bool (J0 U E))))
  | _ => none
def Jcm (f : FuncId) (ds : List D) : Orc := bif Nat.beq f 168 then J5s ds else .no
def Jcq (xs : ZI) (U : ZI) (E : ZR) : Ann := .none
def J7g (xs : ZI) (U : ZI) (E : ZR) : Prop :=
  ((!((xs.length : Int) != (U.length : Int))) = true → (!((xs.length : Int) != (U.length : Int))) = true) ∧ ((!((xs.length : Int) != (U.length : Int))) = true → PC Tryz.prog 168 [.sl (.ints xs), .int .i64 0, .int .i64 99] (.one (.d (.bool (xs.all (fun x => inB x 0 99)))))) ∧ ((!((xs.length : Int) != (U.length : Int))) = true → (!((xs.length : Int) != (U.length : Int))) = true) ∧ (true = true) ∧ ((((xs.length : Int) != (U.length : Int)) = true → true = true)) ∧ ((((xs.length : Int) != (U.length : Int)) = false → (!((xs.length : Int) != (U.length : Int))) = true)) ∧ (((cond ((xs.length : Int) != (U.length : Int)) true (!(xs.all (fun x => inB x 0 99)))) = (!(Jl xs (U.length : Int) 99))))
theorem Jbr (xs : ZI) (U : ZI) (E : ZR)  (w_xs : (xs.length : Int) ≤ 9223372036854775807) (w_Open : (U.length : Int) ≤ 9223372036854775807) (w_Dist : (E.length : Int) ≤ 9223372036854775807) (v_Dist : ∀ x9 ∈ E, (x9.length : Int) ≤ 9223372036854775807) : J7g xs U E := by
  unfold J7g
  refine ⟨id, fun _ => J5W xs 0 99, id, rfl, fun _ => rfl, ?_, ?_⟩
  ·(simp_all; done)
  unfold Jl
  by_cases h : (xs.length : Int) = (U.length : Int)
  · simp [h]
  simp [h]
theorem Jbo (xs : ZI) (U : ZI) (E : ZR)  : PC Tryz.prog 201 [.sl (.ints xs), .bx [.sl (.ints U), .sl (.rows E)] 0] (.one (.d (.bool (!(Jl xs (U.length : Int) 99))))) :=
  pc_wf @Tryz.call201 fun hw => pc_by (by kernel_rfl) Tryz.func201 @Tryz.call201 (by kernel_rfl) Jcm (Jcq xs U E) (by kernel_rfl) (Jbr xs U E hw.1 hw.2.1.1 hw.2.1.2.1.1 hw.2.1.2.1.2) (by kernel_rfl)
def Jax : List D → Orc := orcN [some .ints, none] fun ds => match ds with
  | [.sl (.ints xs), .bx [.sl (.ints U), .sl (.rows E)] 0] => some (.one (.d (.bool (!(Jl xs (U.length : Int) 99)))))
  | _ => none
abbrev JD (xs : ZR) (U : ZI) (E : ZR) (i : Int) : Prop := (0 ≤ i) ∧ (i ≤ (xs.length : Int)) ∧ (∀ k, k < i.toNat → (fun x => !(Jl x (U.length : Int) 99)) (xs.getD k []) = false)
abbrev JE (xs : ZR) (U : ZI) (E : ZR) (i : Int) : Nat := (xs.length - i).toNat
def J4h (f : FuncId) (ds : List D) : Orc := bif Nat.beq f 201 then Jax ds else .no
def J4f (xs : ZR) (U : ZI) (E : ZR) : Ann := .two (.none) (.two (.two (.none) (.loop (cut1 (fun (i : Int) => JD xs U E i) (fun (i : Int) => [(0, .d false (.sl (.rows xs))), (1, .d false (.fn 201 0 [.bx [.sl (.ints U), .sl (.rows E)] 0])), (7, .d true (.int .i64 (xs.length : Int))), (8, .d true (.int .i64 i))]) (fun (i : Int) => [])) (fun g => JE xs U E g) (fun _ => .none))) (.none))
def J1n (xs : ZR) (U : ZI) (E : ZR) : Prop :=
  ((∃ i' : Int, (JD xs U E i') ∧ (xs = xs) ∧ ((.fn 201 0 [.bx [.sl (.ints U), .sl (.rows E)] 0] : D) = (.fn 201 0 [.bx [.sl (.ints U), .sl (.rows E)] 0] : D)) ∧ ((xs.length : Int) = (xs.length : Int)) ∧ ((0 : Int) = i')) ∧ (∀ i : Int, (JD xs U E i) → (((decide (i < (xs.length : Int))) = true → ((0 : Int) ≤ i) ∧ ((i : Int) < xs.length) ∧ (i.toNat < xs.length) ∧ (PC Tryz.prog 201 [.sl (.ints (xs.getD i.toNat [])), .bx [.sl (.ints U), .sl (.rows E)] 0] (.one (.d (.bool (!(Jl (xs.getD i.toNat []) (U.length : Int) 99)))))) ∧ (((!(Jl (xs.getD i.toNat []) (U.length : Int) 99)) = true → ((i = (idxI (fun x => !(Jl x (U.length : Int) 99)) xs)))) ∧ ((!(Jl (xs.getD i.toNat []) (U.length : Int) 99)) = false → (I6 (i + 1)) ∧ (∃ i' : Int, (JD xs U E i') ∧ (JE xs U E i' < JE xs U E i) ∧ (xs = xs) ∧ ((.fn 201 0 [.bx [.sl (.ints U), .sl (.rows E)] 0] : D) = (.fn 201 0 [.bx [.sl (.ints U), .sl (.rows E)] 0] : D)) ∧ ((xs.length : Int) = (xs.length : Int)) ∧ ((i + 1) = i'))))) ∧ ((decide (i < (xs.length : Int))) = false → ((((-1) : Int) = (idxI (fun x => !(Jl x (U.length : Int) 99)) xs)))))))
theorem J40 (xs : ZR) (U : ZI) (E : ZR)  (w_xs : (xs.length : Int) ≤ 9223372036854775807) (v_xs : ∀ x9 ∈ xs, (x9.length : Int) ≤ 9223372036854775807) (w_Open : (U.length : Int) ≤ 9223372036854775807) (w_Dist : (E.length : Int) ≤ 9223372036854775807) (v_Dist : ∀ x9 ∈ E, (x9.length : Int) ≤ 9223372036854775807) : J1n xs U E := by
  unfold J1n
  refine ⟨?_, ?_⟩
  ·refine ⟨0, ?_⟩
   refine ⟨?_, rfl, rfl, rfl, rfl⟩
   ·refine ⟨?_, ?_, ?_⟩
    ·omega
    ·omega
    ·omega
  intro i hJ
  obtain ⟨h1, h2, h3⟩ := hJ
  refine ⟨?_, ?_⟩
  ·intro b1
   try simp only [nrmT] at b1
   refine ⟨?_, ?_, ?_, Jbo (xs.getD i.toNat []) U E, ?_, ?_⟩
   ·omega
   ·omega
   ·omega
   ·intro b2
    try simp only [nrmT] at b2
    exact idx_found (p := fun x => !(Jl x (U.length : Int) 99)) h1 b1 h3 (by simpa using b2)
   intro b3
   try simp only [nrmT] at b3
   refine ⟨?_, ?_⟩
   ·omega
   refine ⟨(i + 1), ?_⟩
   refine ⟨?_, ?_, rfl, rfl, rfl, rfl⟩
   ·refine ⟨?_, ?_, ?_⟩
    ·omega
    ·omega
    ·exact idx_step (p := fun x => !(Jl x (U.length : Int) 99)) h1 h3 (by simpa using b3)
   (simp only [JE]; omega)
  intro b4
  try simp only [nrmT] at b4
  exact (idx_none (by omega) h3).symm
theorem J3I (xs : ZR) (U : ZI) (E : ZR)  : PC Tryz.prog 226 [.sl (.rows xs), .fn 201 0 [.bx [.sl (.ints U), .sl (.rows E)] 0]] (.one (.d (.int .i64 (idxI (fun x => !(Jl x (U.length : Int) 99)) xs)))) :=
  pc_wf @Tryz.call226 fun hw => pc_by (by kernel_rfl) Tryz.func226 @Tryz.call226 (by kernel_rfl) J4h (J4f xs U E) (by kernel_rfl) (J40 xs U E hw.1.1 hw.1.2 hw.2.1.1.1 hw.2.1.1.2.1.1 hw.2.1.1.2.1.2) (by kernel_rfl)
def J3B : List D → Orc := orcN [some .rows, none] fun ds => match ds with
  | [.sl (.rows xs), .fn f0 0 [.bx [.sl (.ints U), .sl (.rows E)] 0]] => bif Nat.beq f0 201 then some (.one (.d (.int .i64 (idxI (fun x => !(Jl x (U.length : Int) 99)) xs)))) else none
  | _ => none
def J3o (f : FuncId) (ds : List D) : Orc := bif Nat.beq f 226 then J3B ds else .no
def J3i (xs : ZR) (U : ZI) (E : ZR) : Ann := .none
def J0R (xs : ZR) (U : ZI) (E : ZR) : Prop :=
  (PC Tryz.prog 226 [.sl (.rows xs), .fn 201 0 [.bx [.sl (.ints U), .sl (.rows E)] 0]] (.one (.d (.int .i64 (idxI (fun x => !(Jl x (U.length : Int) 99)) xs))))) ∧ (((decide ((idxI (fun x => !(Jl x (U.length : Int) 99)) xs) ≥ 0)) = (xs.any (fun x => !(Jl x (U.length : Int) 99)))))
theorem J30 (xs : ZR) (U : ZI) (E : ZR)  (w_xs : (xs.length : Int) ≤ 9223372036854775807) (v_xs : ∀ x9 ∈ xs, (x9.length : Int) ≤ 9223372036854775807) (w_Open : (U.length : Int) ≤ 9223372036854775807) (w_Dist : (E.length : Int) ≤ 9223372036854775807) (v_Dist : ∀ x9 ∈ E, (x9.length : Int) ≤ 9223372036854775807) : J0R xs U E := by
  unfold J0R
  refine ⟨J3I xs U E, ?_⟩
  ·exact idx_any _ _
theorem J32 (xs : ZR) (U : ZI) (E : ZR)  : PC Tryz.prog 195 [.sl (.rows xs), .fn 201 0 [.bx [.sl (.ints U), .sl (.rows E)] 0]] (.one (.d (.bool (xs.any (fun x => !(Jl x (U.length : Int) 99)))))) :=
  pc_wf @Tryz.call195 fun hw => pc_by (by kernel_rfl) Tryz.func195 @Tryz.call195 (by kernel_rfl) J3o (J3i xs U E) (by kernel_rfl) (J30 xs U E hw.1.1 hw.1.2 hw.2.1.1.1 hw.2.1.1.2.1.1 hw.2.1.1.2.1.2) (by kernel_rfl)
def J2M : List D → Orc := orcN [some .rows, none] fun ds => match ds with
  | [.sl (.rows xs), .fn f0 0 [.bx [.sl (.ints U), .sl (.rows E)] 0]] => bif Nat.beq f0 201 then some (.one (.d (.bool (xs.any (fun x => !(Jl x (U.length : Int) 99)))))) else none
  | _ => none
def JdS (f : FuncId) (ds : List D) : Orc := bif Nat.beq f 132 then J3d ds else bif Nat.beq f 168 then J5s ds else bif Nat.beq f 195 then J2M ds else .no
def Jee (U : ZI) (E : ZR) : Ann := .none
def Jw (U : ZI) (E : ZR) : Bool := (cond (cond (inB (U.length : Int) 1 7) (U.all (fun x => inB x 0 99)) false) (decide ((E.length : Int) ≤ 7)) false)
def J97 (U : ZI) (E : ZR) : Prop :=
  (PC Tryz.prog 132 [.int .i64 (U.length : Int), .int .i64 1, .int .i64 7] (.one (.d (.bool (inB (U.length : Int) 1 7))))) ∧ ((inB (U.length : Int) 1 7) = true → (inB (U.length : Int) 1 7) = true) ∧ ((inB (U.length : Int) 1 7) = true → (inB (U.length : Int) 1 7) = true) ∧ ((inB (U.length : Int) 1 7) = true → PC Tryz.prog 168 [.sl (.ints U), .int .i64 0, .int .i64 99] (.one (.d (.bool (U.all (fun x => inB x 0 99)))))) ∧ (true = true) ∧ (((inB (U.length : Int) 1 7) = true → (inB (U.length : Int) 1 7) = true)) ∧ (((inB (U.length : Int) 1 7) = false → true = true)) ∧ ((cond (inB (U.length : Int) 1 7) (U.all (fun x => inB x 0 99)) false) = true → (cond (inB (U.length : Int) 1 7) (U.all (fun x => inB x 0 99)) false) = true) ∧ ((cond (inB (U.length : Int) 1 7) (U.all (fun x => inB x 0 99)) false) = true → (cond (inB (U.length : Int) 1 7) (U.all (fun x => inB x 0 99)) false) = true) ∧ ((cond (inB (U.length : Int) 1 7) (U.all (fun x => inB x 0 99)) false) = true → (cond (inB (U.length : Int) 1 7) (U.all (fun x => inB x 0 99)) false) = true) ∧ (true = true) ∧ (((cond (inB (U.length : Int) 1 7) (U.all (fun x => inB x 0 99)) false) = true → (cond (inB (U.length : Int) 1 7) (U.all (fun x => inB x 0 99)) false) = true)) ∧ (((cond (inB (U.length : Int) 1 7) (U.all (fun x => inB x 0 99)) false) = false → true = true)) ∧ ((Jw U E) = true → (Jw U E) = true) ∧ ((Jw U E) = true → (Jw U E) = true) ∧ ((Jw U E) = true → (Jw U E) = true) ∧ ((Jw U E) = true → PC Tryz.prog 195 [.sl (.rows E), .fn 201 0 [.bx [.sl (.ints U), .sl (.rows E)] 0]] (.one (.d (.bool (E.any (fun x => !(Jl x (U.length : Int) 99))))))) ∧ ((Jw U E) = true → (Jw U E) = true) ∧ (true = true) ∧ (((Jw U E) = true → (Jw U E) = true)) ∧ (((Jw U E) = false → true = true)) ∧ (((cond (Jw U E) (!(E.any (fun x => !(Jl x (U.length : Int) 99)))) false) = (J0 U E)))
theorem Jd3 (U : ZI) (E : ZR)  (w_Open : (U.length : Int) ≤ 9223372036854775807) (w_Dist : (E.length : Int) ≤ 9223372036854775807) (v_Dist : ∀ x9 ∈ E, (x9.length : Int) ≤ 9223372036854775807) : J97 U E := by
  unfold J97 Jw
  refine ⟨J3G (U.length : Int) 1 7, id, id, fun _ => J5W U 0 99, rfl, id, fun _ => rfl, id, id, id, rfl, id, fun _ => rfl, id, id, id, fun _ => J32 E U E, id, rfl, id, fun _ => rfl, ?_⟩
  ·unfold J0
   rw [any_not, show decide ((E.length : Int) ≤ 7) = decide (E.length ≤ 7) from JfD _ 7]
   cases inB (U.length : Int) 1 7 <;> cases U.all (fun x => inB x 0 99) <;> cases decide (E.length ≤ 7) <;> simp
theorem J2a (U : ZI) (E : ZR)  : PC Tryz.prog 111 [.agg [.sl (.ints U), .sl (.rows E)]] (.one (.d (.bool (J0 U E)))) :=
  pc_wf @Tryz.call111 fun hw => pc_by (by kernel_rfl) Tryz.func111 @Tryz.call111 (by kernel_rfl) JdS (Jee U E) (by kernel_rfl) (Jd3 U E hw.1.1 hw.1.2.1.1 hw.1.2.1.2) (by kernel_rfl)
def J1E : List D → Orc := orcN [none] fun ds => match ds with
  | [.agg [.sl (.ints U), .sl (.rows E)]] => some (.one (.d (.bool (J0 U E))))
  | _ => none
def J3R (E : ZR) (i j : Nat) (b : Int) (a : Nat) : Int := min b ((E.getD i []).getD a 0 + (E.getD j []).getD a 0)
def Jr (E : ZR) (i j : Int) : Int := if i = j then 0 else foldTo (J3R E i.toNat j.toNat) 199 (E.getD i.toNat []).length
theorem Jfu {E : ZR} {i j : Nat} {n : Nat} (hi : ∀ a, a < n → 0 ≤ (E.getD i []).getD a 0) (hj : ∀ a, a < n → 0 ≤ (E.getD j []).getD a 0) : 0 ≤ foldTo (J3R E i j) 199 n ∧ foldTo (J3R E i j) 199 n ≤ 199 := by
  refine foldTo_inv (P := fun _ x => 0 ≤ x ∧ x ≤ 199) n (by omega) fun k x hk hx => ?_
  have := hi k hk
  have := hj k hk
  unfold J3R
  omega
def Jeb (f : FuncId) (ds : List D) : Orc := .no
def Je2 (a : Int) (b : Int) : Ann := .none
def J99 (a : Int) (b : Int) : Prop :=
  (((decide (a < b)) = true → ((a = (min a b)))) ∧ ((decide (a < b)) = false → ((b = (min a b)))))
theorem Jdu (a : Int) (b : Int)   : J99 a b := by
  unfold J99
  refine ⟨?_, ?_⟩
  ·intro b1
   try simp only [nrmT] at b1
   omega
  intro b2
  try simp only [nrmT] at b2
  omega
theorem J3E (a : Int) (b : Int)  : PC Tryz.prog 161 [.int .i64 a, .int .i64 b] (.one (.d (.int .i64 (min a b)))) :=
  pc_wf @Tryz.call161 fun _ => pc_by (by kernel_rfl) Tryz.func161 @Tryz.call161 (by kernel_rfl) Jeb (Je2 a b) (by kernel_rfl) (Jdu a b) (by kernel_rfl)
def J3h : List D → Orc := orcN [none, none] fun ds => match ds with
  | [.int .i64 a, .int .i64 b] => some (.one (.d (.int .i64 (min a b))))
  | _ => none
abbrev J4G (U : ZI) (E : ZR) (i : Int) (j : Int) (best : Int) (a : Int) : Prop := (1 ≤ a) ∧ (a ≤ (U.length : Int)) ∧ (best = foldTo (J3R E i.toNat j.toNat) 199 a.toNat) ∧ (i ≠ j)
abbrev J4I (U : ZI) (E : ZR) (i : Int) (j : Int) (best : Int) (a : Int) : Nat := (U.length - a).toNat
def JfE (f : FuncId) (ds : List D) : Orc := bif Nat.beq f 161 then J3h ds else .no
def Jfo (U : ZI) (E : ZR) (i : Int) (j : Int) : Ann := .two (.none) (.two (.none) (.two (.none) (.two (.two (.none) (.loop (cut2 (fun (best : Int) (a : Int) => J4G U E i j best a) (fun (best : Int) (a : Int) => [(1, .d false (.int .i64 i)), (2, .d false (.int .i64 j)), (3, .ptr 3 0), (7, .d true (.int .i64 best)), (8, .d true (.int .i64 a))]) (fun (best : Int) (a : Int) => [(3, .box 27 [.d false (.sl (.ints U)), .d false (.sl (.rows E))])])) (fun g => J4I U E i j g.1 g.2) (fun _ => .none))) (.none))))
def JbH (U : ZI) (E : ZR) (i : Int) (j : Int) : Prop :=
  (((i == j) = true → (((0 : Int) = (Jr E i j)))) ∧ ((i == j) = false → (true = true) ∧ ((0 : Int) ≤ i) ∧ ((i : Int) < E.length) ∧ (i.toNat < E.length) ∧ ((0 : Int) ≤ 0) ∧ ((0 : Int) < (E.getD i.toNat []).length) ∧ (0 < (E.getD i.toNat []).length) ∧ ((0 : Int) ≤ j) ∧ ((j : Int) < E.length) ∧ (j.toNat < E.length) ∧ ((0 : Int) ≤ 0) ∧ ((0 : Int) < (E.getD j.toNat []).length) ∧ (0 < (E.getD j.toNat []).length) ∧ (I6 (((E.getD i.toNat []).getD 0 0) + ((E.getD j.toNat []).getD 0 0))) ∧ ((∃ best' : Int, ∃ a' : Int, (J4G U E i j best' a') ∧ (i = i) ∧ (j = j) ∧ ((((E.getD i.toNat []).getD 0 0) + ((E.getD j.toNat []).getD 0 0)) = best') ∧ ((1 : Int) = a') ∧ (U = U) ∧ (E = E)) ∧ (∀ best : Int, ∀ a : Int, (J4G U E i j best a) → (((decide (a < (U.length : Int))) = true → (true = true) ∧ ((0 : Int) ≤ i) ∧ ((i : Int) < E.length) ∧ (i.toNat < E.length) ∧ ((0 : Int) ≤ a) ∧ ((a : Int) < (E.getD i.toNat []).length) ∧ (a.toNat < (E.getD i.toNat []).length) ∧ ((0 : Int) ≤ j) ∧ ((j : Int) < E.length) ∧ (j.toNat < E.length) ∧ ((0 : Int) ≤ a) ∧ ((a : Int) < (E.getD j.toNat []).length) ∧ (a.toNat < (E.getD j.toNat []).length) ∧ (I6 (((E.getD i.toNat []).getD a.toNat 0) + ((E.getD j.toNat []).getD a.toNat 0))) ∧ (PC Tryz.prog 161 [.int .i64 best, .int .i64 (((E.getD i.toNat []).getD a.toNat 0) + ((E.getD j.toNat []).getD a.toNat 0))] (.one (.d (.int .i64 (min best (((E.getD i.toNat []).getD a.toNat 0) + ((E.getD j.toNat []).getD a.toNat 0))))))) ∧ (I6 (a + 1)) ∧ (∃ best' : Int, ∃ a' : Int, (J4G U E i j best' a') ∧ (J4I U E i j best' a' < J4I U E i j best a) ∧ (i = i) ∧ (j = j) ∧ ((min best (((E.getD i.toNat []).getD a.toNat 0) + ((E.getD j.toNat []).getD a.toNat 0))) = best') ∧ ((a + 1) = a') ∧ (U = U) ∧ (E = E))) ∧ ((decide (a < (U.length : Int))) = false → ((best = (Jr E i j)))))))))
theorem JeK (U : ZI) (E : ZR) (i : Int) (j : Int) (hg : J0 U E = true) (hi : 0 ≤ i ∧ i < (E.length : Int)) (hj : 0 ≤ j ∧ j < (E.length : Int)) (w_Open : (U.length : Int) ≤ 9223372036854775807) (w_Dist : (E.length : Int) ≤ 9223372036854775807) (v_Dist : ∀ x9 ∈ E, (x9.length : Int) ≤ 9223372036854775807) : JbH U E i j := by
  unfold JbH
  obtain ⟨g1, g2, g3⟩ := Jb hg
  obtain ⟨ri, ci⟩ := Je (i := i.toNat) hg (by omega)
  obtain ⟨rj, cj⟩ := Je (i := j.toNat) hg (by omega)
  refine ⟨?_, ?_⟩
  ·intro b1
   try simp only [nrmT] at b1
   unfold Jr; rw [if_pos (by omega)]
  intro b2
  try simp only [nrmT] at b2
  refine ⟨rfl, ?_, ?_, ?_, ?_, ?_, ?_, ?_, ?_, ?_, ?_, ?_, ?_, ?_, ?_, ?_⟩
  ·omega
  ·omega
  ·omega
  ·omega
  ·omega
  ·omega
  ·omega
  ·omega
  ·omega
  ·omega
  ·omega
  ·omega
  ·have := ci 0 (by omega)
   have := cj 0 (by omega)
   omega
  ·refine ⟨(((E.getD i.toNat []).getD 0 0) + ((E.getD j.toNat []).getD 0 0)), 1, ?_⟩
   refine ⟨?_, rfl, rfl, rfl, rfl, rfl, rfl⟩
   ·refine ⟨?_, ?_, ?_, ?_⟩
    ·omega
    ·omega
    ·have := ci 0 (by omega)
     have := cj 0 (by omega)
     show _ = min 199 _
     simp only [show (0 : Int).toNat = 0 from rfl]
     omega
    ·omega
  intro best a hJ
  obtain ⟨h1, h2, h3, h4⟩ := hJ
  refine ⟨?_, ?_⟩
  ·intro b3
   try simp only [nrmT] at b3
   refine ⟨rfl, ?_, ?_, ?_, ?_, ?_, ?_, ?_, ?_, ?_, ?_, ?_, ?_, ?_, J3E best (((E.getD i.toNat []).getD a.toNat 0) + ((E.getD j.toNat []).getD a.toNat 0)), ?_, ?_⟩
   ·omega
   ·omega
   ·omega
   ·omega
   ·omega
   ·omega
   ·omega
   ·omega
   ·omega
   ·omega
   ·omega
   ·omega
   ·have := ci a.toNat (by omega)
    have := cj a.toNat (by omega)
    omega
   ·omega
   refine ⟨(min best (((E.getD i.toNat []).getD a.toNat 0) + ((E.getD j.toNat []).getD a.toNat 0))), (a + 1), ?_⟩
   refine ⟨?_, ?_, rfl, rfl, rfl, rfl, rfl, rfl⟩
   ·refine ⟨?_, ?_, ?_, ?_⟩
    ·omega
    ·omega
    ·rw [foldTo_step (by omega), ← h3]; rfl
    ·omega
   (simp only [J4I]; omega)
  intro b4
  try simp only [nrmT] at b4
  unfold Jr
  rw [if_neg h4, h3, ri]
  have : a.toNat = U.length := by omega
  rw [this]
theorem Jab (U : ZI) (E : ZR) (i : Int) (j : Int) (hg : J0 U E = true) (hi : 0 ≤ i ∧ i < (E.length : Int)) (hj : 0 ≤ j ∧ j < (E.length : Int)) : PC Tryz.prog 170 [.agg [.sl (.ints U), .sl (.rows E)], .int .i64 i, .int .i64 j] (.one (.d (.int .i64 (Jr E i j)))) :=
  pc_wf @Tryz.call170 fun hw => pc_by (by kernel_rfl) Tryz.func170 @Tryz.call170 (by kernel_rfl) JfE (Jfo U E i j) (by kernel_rfl) (JeK U E i j hg hi hj hw.1.1 hw.1.2.1.1 hw.1.2.1.2) (by kernel_rfl)
def JdC : List D → Orc := orcN [none, none, none] fun ds => match ds with
  | [.agg [.sl (.ints U), .sl (.rows E)], .int .i64 i, .int .i64 j] => some (.one (.d (.int .i64 (Jr E i j))))
  | _ => none
abbrev J1P (U : ZI) (E : ZR) (i : Int) (j : Int) (best : Int) (a : Int) : Prop := (0 ≤ a) ∧ (a ≤ (U.length : Int)) ∧ (best = foldTo (J3R E i.toNat j.toNat) 199 a.toNat) ∧ (i ≠ j)
abbrev J1Y (U : ZI) (E : ZR) (i : Int) (j : Int) (best : Int) (a : Int) : Nat := (U.length - a).toNat
def Jcy (f : FuncId) (ds : List D) : Orc := .no
def Jch (U : ZI) (E : ZR) (i : Int) (j : Int) : Ann := .two (.none) (.two (.none) (.two (.none) (.two (.two (.none) (.loop (cut2 (fun (best : Int) (a : Int) => J1P U E i j best a) (fun (best : Int) (a : Int) => [(2, .d false (.int .i64 j)), (3, .ptr 3 0), (7, .d true (.int .i64 best)), (17, .d false (.sl (.ints (E.getD i.toNat [])))), (18, .d true (.int .i64 (((E.getD i.toNat []).length) : Int))), (19, .d true (.int .i64 a))]) (fun (best : Int) (a : Int) => [(3, .box 27 [.d false (.sl (.ints U)), .d false (.sl (.rows E))])])) (fun g => J1Y U E i j g.1 g.2) (fun _ => .none))) (.none))))
def J75 (U : ZI) (E : ZR) (i : Int) (j : Int) : Prop :=
  (((i == j) = true → (((0 : Int) = (Jr E i j)))) ∧ ((i == j) = false → ((0 : Int) ≤ i) ∧ ((i : Int) < E.length) ∧ (i.toNat < E.length) ∧ ((∃ best' : Int, ∃ a' : Int, (J1P U E i j best' a') ∧ (j = j) ∧ ((199 : Int) = best') ∧ ((E.getD i.toNat []) = (E.getD i.toNat [])) ∧ ((((E.getD i.toNat []).length) : Int) = (((E.getD i.toNat []).length) : Int)) ∧ ((0 : Int) = a') ∧ (U = U) ∧ (E = E)) ∧ (∀ best : Int, ∀ a : Int, (J1P U E i j best a) → (((decide (a < (((E.getD i.toNat []).length) : Int))) = true → ((0 : Int) ≤ a) ∧ ((a : Int) < (E.getD i.toNat []).length) ∧ (a.toNat < (E.getD i.toNat []).length) ∧ ((0 : Int) ≤ j) ∧ ((j : Int) < E.length) ∧ (j.toNat < E.length) ∧ ((0 : Int) ≤ a) ∧ ((a : Int) < (E.getD j.toNat []).length) ∧ (a.toNat < (E.getD j.toNat []).length) ∧ (I6 (((E.getD i.toNat []).getD a.toNat 0) + ((E.getD j.toNat []).getD a.toNat 0))) ∧ (I6 (a + 1)) ∧ (∃ best' : Int, ∃ a' : Int, (J1P U E i j best' a') ∧ (J1Y U E i j best' a' < J1Y U E i j best a) ∧ (j = j) ∧ ((min best (((E.getD i.toNat []).getD a.toNat 0) + ((E.getD j.toNat []).getD a.toNat 0))) = best') ∧ ((E.getD i.toNat []) = (E.getD i.toNat [])) ∧ ((((E.getD i.toNat []).length) : Int) = (((E.getD i.toNat []).length) : Int)) ∧ ((a + 1) = a') ∧ (U = U) ∧ (E = E))) ∧ ((decide (a < (((E.getD i.toNat []).length) : Int))) = false → ((best = (Jr E i j)))))))))
theorem Jbp (U : ZI) (E : ZR) (i : Int) (j : Int) (hg : J0 U E = true) (hi : 0 ≤ i ∧ i < (E.length : Int)) (hj : 0 ≤ j ∧ j < (E.length : Int)) (w_Open : (U.length : Int) ≤ 9223372036854775807) (w_Dist : (E.length : Int) ≤ 9223372036854775807) (v_Dist : ∀ x9 ∈ E, (x9.length : Int) ≤ 9223372036854775807) : J75 U E i j := by
  unfold J75
  obtain ⟨g1, g2, g3⟩ := Jb hg
  obtain ⟨ri, ci⟩ := Je (i := i.toNat) hg (by omega)
  obtain ⟨rj, cj⟩ := Je (i := j.toNat) hg (by omega)
  refine ⟨?_, ?_⟩
  ·intro b1
   try simp only [nrmT] at b1
   unfold Jr; rw [if_pos (by omega)]
  intro b2
  try simp only [nrmT] at b2
  refine ⟨?_, ?_, ?_, ?_, ?_⟩
  ·omega
  ·omega
  ·omega
  ·refine ⟨199, 0, ?_⟩
   refine ⟨?_, rfl, rfl, rfl, rfl, rfl, rfl, rfl⟩
   ·refine ⟨?_, ?_, ?_, ?_⟩
    ·omega
    ·omega
    ·rfl
    ·omega
  intro best a hJ
  obtain ⟨h1, h2, h3, h4⟩ := hJ
  refine ⟨?_, ?_⟩
  ·intro b3
   try simp only [nrmT] at b3
   refine ⟨?_, ?_, ?_, ?_, ?_, ?_, ?_, ?_, ?_, ?_, ?_, ?_⟩
   ·omega
   ·omega
   ·omega
   ·omega
   ·omega
   ·omega
   ·omega
   ·omega
   ·omega
   ·have := ci a.toNat (by omega)
    have := cj a.toNat (by omega)
    omega
   ·omega
   refine ⟨(min best (((E.getD i.toNat []).getD a.toNat 0) + ((E.getD j.toNat []).getD a.toNat 0))), (a + 1), ?_⟩
   refine ⟨?_, ?_, rfl, rfl, rfl, rfl, rfl, rfl, rfl⟩
   ·refine ⟨?_, ?_, ?_, ?_⟩
    ·omega
    ·omega
    ·rw [foldTo_step (by omega), ← h3]; rfl
    ·omega
   (simp only [J1Y]; omega)
  intro b4
  try simp only [nrmT] at b4
  unfold Jr
  rw [if_neg h4, h3, ri]
  have : a.toNat = U.length := by omega
  rw [this]
theorem JaR (U : ZI) (E : ZR) (i : Int) (j : Int) (hg : J0 U E = true) (hi : 0 ≤ i ∧ i < (E.length : Int)) (hj : 0 ≤ j ∧ j < (E.length : Int)) : PC Tryz.prog 169 [.agg [.sl (.ints U), .sl (.rows E)], .int .i64 i, .int .i64 j] (.one (.d (.int .i64 (Jr E i j)))) :=
  pc_wf @Tryz.call169 fun hw => pc_by (by kernel_rfl) Tryz.func169 @Tryz.call169 (by kernel_rfl) Jcy (Jch U E i j) (by kernel_rfl) (Jbp U E i j hg hi hj hw.1.1 hw.1.2.1.1 hw.1.2.1.2) (by kernel_rfl)
def Ja0 : List D → Orc := orcN [none, none, none] fun ds => match ds with
  | [.agg [.sl (.ints U), .sl (.rows E)], .int .i64 i, .int .i64 j] => some (.one (.d (.int .i64 (Jr E i j))))
  | _ => none
def J65 (f : Nat → Int) (n : Nat) : Int := foldTo (fun s k => s + f k) 0 n
theorem JdQ {f : Nat → Int} {m : Int} (n : Nat) (h : ∀ k, k < n → 0 ≤ f k ∧ f k ≤ m) : 0 ≤ J65 f n ∧ J65 f n ≤ m * n := by
  induction n with
  | zero => simp [J65, foldTo]
  | succ n ih =>
    have h1 := ih fun k hk => h k (Nat.lt_succ_of_lt hk)
    have h2 := h n (Nat.lt_succ_self n)
    have e : J65 f (n + 1) = J65 f n + f n := rfl
    rw [e]
    have e2 : m * ((n + 1 : Nat) : Int) = m * (n : Int) + m := by rw [Int.natCast_succ, Int.mul_add, Int.mul_one]
    rw [e2]
    omega
theorem J2d {xs : ZI} {lo hi : Int} (h : J2 xs lo hi = true) : ∀ k, k < xs.length → lo + k ≤ xs.getD k 0 ∧ xs.getD k 0 ≤ hi := by
  intro k
  induction k with
  | zero =>
    intro hk
    have h1 := allTo_iff.1 h 0 hk
    simp only [J2e, Bool.and_eq_true] at h1
    have := Jx h1.1
    omega
  | succ k ih =>
    intro hk
    have h0 := ih (by omega)
    have h1 := allTo_iff.1 h (k + 1) hk
    simp only [J2e, Bool.and_eq_true, Bool.or_eq_true, decide_eq_true_eq, Nat.add_sub_cancel] at h1
    have := Jx h1.1
    have h2 := h1.2
    omega
def J2z (E : ZR) (r : Int) (i j a : Nat) : Bool := decide ((E.getD i []).getD a 0 ≤ r) && decide ((E.getD j []).getD a 0 ≤ r)
def J0q (n : Nat) (E : ZR) (i j r : Int) : Bool := allTo (fun a => !(J2z E r i.toNat j.toNat a)) n
def J0w (n : Nat) (E : ZR) (clients : ZI) (r : Int) : Bool := allTo (fun i => allTo (fun k => J0q n E (clients.getD i 0) (clients.getD k 0) r) i) clients.length
def J0k (E : ZR) (clients : ZI) (r : Int) (a k : Nat) : Int := if (E.getD (clients.getD k 0).toNat []).getD a 0 ≤ r then 1 else 0
def J1R (E : ZR) (clients : ZI) (r : Int) (a k : Nat) : Int := J65 (J0k E clients r a) k
def Jgi (n : Nat) (E : ZR) (clients : ZI) (r : Int) : Bool := allTo (fun a => decide (J1R E clients r a clients.length ≤ 1)) n
theorem J8W {E : ZR} {clients : ZI} {r : Int} {a k : Nat} : 0 ≤ J1R E clients r a k ∧ J1R E clients r a k ≤ 1 * k :=
  JdQ k fun j _ => by unfold J0k; split <;> omega
theorem J1a {E : ZR} {clients : ZI} {r : Int} {a k : Nat} : J1R E clients r a (k + 1) = J1R E clients r a k + J0k E clients r a k := rfl
theorem J6V {E : ZR} {clients : ZI} {r : Int} {a : Nat} : ∀ n k, k ≤ n → J1R E clients r a k ≤ J1R E clients r a n
  | 0, k, h => by have : k = 0 := by omega
                  rw [this]; exact Int.le_refl _
  | n + 1, k, h => by
    by_cases e : k = n + 1
    · rw [e]; exact Int.le_refl _
    have h2 := J6V (E := E) (clients := clients) (r := r) (a := a) n k (by omega)
    rw [J1a]
    unfold J0k
    split <;> omega
/-- A first near one, if there are any. -/
theorem JbI {E : ZR} {clients : ZI} {r : Int} {a : Nat} : ∀ n, 0 < J1R E clients r a n → ∃ k, k < n ∧ J0k E clients r a k = 1
  | 0, h => by simp [J1R, J65, foldTo] at h
  | n + 1, h => by
    by_cases e : J0k E clients r a n = 1
    · exact ⟨n, Nat.lt_succ_self n, e⟩
    rw [J1a] at h
    have e2 : J0k E clients r a n = 0 := by
      unfold J0k at e ⊢
      split at e
      · omega
      rename_i h3; rw [if_neg h3]
    obtain ⟨k, hk, h4⟩ := JbI (E := E) (clients := clients) (r := r) (a := a) n (by omega)
    exact ⟨k, by omega, h4⟩
theorem JbK {E : ZR} {clients : ZI} {r : Int} {a : Nat} : ∀ n, 1 < J1R E clients r a n → ∃ i k, i < n ∧ k < i ∧ J0k E clients r a i = 1 ∧ J0k E clients r a k = 1
  | 0, h => by simp [J1R, J65, foldTo] at h
  | n + 1, h => by
    by_cases e : J0k E clients r a n = 1
    · rw [J1a, e] at h
      obtain ⟨k, hk, h4⟩ := JbI (E := E) (clients := clients) (r := r) (a := a) n (by omega)
      exact ⟨n, k, Nat.lt_succ_self n, hk, e, h4⟩
    rw [J1a] at h
    have e2 : J0k E clients r a n = 0 := by
      unfold J0k at e ⊢
      split at e
      · omega
      rename_i h3; rw [if_neg h3]
    obtain ⟨i, k, h3, h4⟩ := JbK (E := E) (clients := clients) (r := r) (a := a) n (by omega)
    exact ⟨i, k, by omega, h4⟩
theorem J5l {E : ZR} {clients : ZI} {r : Int} {a k : Nat} : J0k E clients r a k = 1 ↔ (E.getD (clients.getD k 0).toNat []).getD a 0 ≤ r := by
  unfold J0k
  split <;> simp_all
theorem JfS (n : Nat) (E : ZR) (clients : ZI) (r : Int) : Jgi n E clients r = J0w n E clients r := by
  rw [Bool.eq_iff_iff]
  unfold Jgi J0w
  simp only [allTo_iff, decide_eq_true_eq, J0q]
  constructor
  · intro h i hi k hk a ha
    have h1 := h a ha
    simp only [J2z, Bool.not_eq_true', Bool.and_eq_false_iff, decide_eq_false_iff_not]
    by_cases e1 : (E.getD (clients.getD i 0).toNat []).getD a 0 ≤ r
    · by_cases e2 : (E.getD (clients.getD k 0).toNat []).getD a 0 ≤ r
      · exfalso
        have m1 := J6V (E := E) (clients := clients) (r := r) (a := a) clients.length (i + 1) (by omega)
        have m2 := J6V (E := E) (clients := clients) (r := r) (a := a) i (k + 1) (by omega)
        have b := (J8W (E := E) (clients := clients) (r := r) (a := a) (k := k)).1
        rw [J1a, J5l.2 e1] at m1
        rw [J1a, J5l.2 e2] at m2
        omega
      · exact .inr e2
    exact .inl e1
  intro h a ha
  by_cases e : J1R E clients r a clients.length ≤ 1
  · exact e
  obtain ⟨i, k, h1, h2, h3, h4⟩ := JbK (E := E) (clients := clients) (r := r) (a := a) clients.length (by omega)
  have h5 := h i h1 k h2 a ha
  rw [J5l] at h3 h4
  simp only [J2z, Bool.not_eq_true', Bool.and_eq_false_iff, decide_eq_false_iff_not] at h5
  rcases h5 with h5 | h5
  · exact absurd h3 h5
  exact absurd h4 h5
abbrev J34 (U : ZI) (E : ZR) (i : Int) (j : Int) (r : Int) (a : Int) : Prop := (0 ≤ a) ∧ (a ≤ (U.length : Int)) ∧ (allTo (fun c => !(J2z E r i.toNat j.toNat c)) a.toNat = true)
abbrev J39 (U : ZI) (E : ZR) (i : Int) (j : Int) (r : Int) (a : Int) : Nat := (U.length - a).toNat
def JdI (f : FuncId) (ds : List D) : Orc := .no
def Je0 (U : ZI) (E : ZR) (i : Int) (j : Int) (r : Int) : Ann := .two (.none) (.two (.two (.none) (.loop (cut1 (fun (a : Int) => J34 U E i j r a) (fun (a : Int) => [(1, .d false (.int .i64 i)), (2, .d false (.int .i64 j)), (3, .d false (.int .i64 r)), (4, .ptr 4 0), (9, .d true (.int .i64 a))]) (fun (a : Int) => [(4, .box 27 [.d false (.sl (.ints U)), .d false (.sl (.rows E))])])) (fun g => J39 U E i j r g) (fun _ => .none))) (.none))
def J94 (U : ZI) (E : ZR) (i : Int) (j : Int) (r : Int) : Prop :=
  ((∃ a' : Int, (J34 U E i j r a') ∧ (i = i) ∧ (j = j) ∧ (r = r) ∧ ((0 : Int) = a') ∧ (U = U) ∧ (E = E)) ∧ (∀ a : Int, (J34 U E i j r a) → (((decide (a < (U.length : Int))) = true → ((0 : Int) ≤ i) ∧ ((i : Int) < E.length) ∧ (i.toNat < E.length) ∧ ((0 : Int) ≤ a) ∧ ((a : Int) < (E.getD i.toNat []).length) ∧ (a.toNat < (E.getD i.toNat []).length) ∧ ((decide (((E.getD i.toNat []).getD a.toNat 0) ≤ r)) = true → (decide (((E.getD i.toNat []).getD a.toNat 0) ≤ r)) = true) ∧ ((decide (((E.getD i.toNat []).getD a.toNat 0) ≤ r)) = true → (decide (((E.getD i.toNat []).getD a.toNat 0) ≤ r)) = true) ∧ ((decide (((E.getD i.toNat []).getD a.toNat 0) ≤ r)) = true → (decide (((E.getD i.toNat []).getD a.toNat 0) ≤ r)) = true) ∧ (((decide (((E.getD i.toNat []).getD a.toNat 0) ≤ r)) = true → (0 : Int) ≤ j)) ∧ (((decide (((E.getD i.toNat []).getD a.toNat 0) ≤ r)) = true → (j : Int) < E.length)) ∧ ((decide (((E.getD i.toNat []).getD a.toNat 0) ≤ r)) = true → (decide (((E.getD i.toNat []).getD a.toNat 0) ≤ r)) = true) ∧ (((decide (((E.getD i.toNat []).getD a.toNat 0) ≤ r)) = true → j.toNat < E.length)) ∧ ((decide (((E.getD i.toNat []).getD a.toNat 0) ≤ r)) = true → (decide (((E.getD i.toNat []).getD a.toNat 0) ≤ r)) = true) ∧ ((decide (((E.getD i.toNat []).getD a.toNat 0) ≤ r)) = true → (decide (((E.getD i.toNat []).getD a.toNat 0) ≤ r)) = true) ∧ (((decide (((E.getD i.toNat []).getD a.toNat 0) ≤ r)) = true → (0 : Int) ≤ a)) ∧ (((decide (((E.getD i.toNat []).getD a.toNat 0) ≤ r)) = true → (a : Int) < (E.getD j.toNat []).length)) ∧ ((decide (((E.getD i.toNat []).getD a.toNat 0) ≤ r)) = true → (decide (((E.getD i.toNat []).getD a.toNat 0) ≤ r)) = true) ∧ (((decide (((E.getD i.toNat []).getD a.toNat 0) ≤ r)) = true → a.toNat < (E.getD j.toNat []).length)) ∧ ((decide (((E.getD i.toNat []).getD a.toNat 0) ≤ r)) = true → (decide (((E.getD i.toNat []).getD a.toNat 0) ≤ r)) = true) ∧ ((decide (((E.getD i.toNat []).getD a.toNat 0) ≤ r)) = true → (decide (((E.getD i.toNat []).getD a.toNat 0) ≤ r)) = true) ∧ (true = true) ∧ (((decide (((E.getD i.toNat []).getD a.toNat 0) ≤ r)) = true → (decide (((E.getD i.toNat []).getD a.toNat 0) ≤ r)) = true)) ∧ (((decide (((E.getD i.toNat []).getD a.toNat 0) ≤ r)) = false → true = true)) ∧ (((cond (decide (((E.getD i.toNat []).getD a.toNat 0) ≤ r)) (decide (((E.getD j.toNat []).getD a.toNat 0) ≤ r)) false) = true → ((false = (J0q U.length E i j r)))) ∧ ((cond (decide (((E.getD i.toNat []).getD a.toNat 0) ≤ r)) (decide (((E.getD j.toNat []).getD a.toNat 0) ≤ r)) false) = false → (I6 (a + 1)) ∧ (∃ a' : Int, (J34 U E i j r a') ∧ (J39 U E i j r a' < J39 U E i j r a) ∧ (i = i) ∧ (j = j) ∧ (r = r) ∧ ((a + 1) = a') ∧ (U = U) ∧ (E = E))))) ∧ ((decide (a < (U.length : Int))) = false → ((true = (J0q U.length E i j r)))))))
theorem JcI (U : ZI) (E : ZR) (i : Int) (j : Int) (r : Int) (hg : J0 U E = true) (hi : 0 ≤ i ∧ i < (E.length : Int)) (hj : 0 ≤ j ∧ j < (E.length : Int)) (w_Open : (U.length : Int) ≤ 9223372036854775807) (w_Dist : (E.length : Int) ≤ 9223372036854775807) (v_Dist : ∀ x9 ∈ E, (x9.length : Int) ≤ 9223372036854775807) : J94 U E i j r := by
  unfold J94
  obtain ⟨g1, g2, g3⟩ := Jb hg
  obtain ⟨ri, ci⟩ := Je (i := i.toNat) hg (by omega)
  obtain ⟨rj, cj⟩ := Je (i := j.toNat) hg (by omega)
  refine ⟨?_, ?_⟩
  ·refine ⟨0, ?_⟩
   refine ⟨?_, rfl, rfl, rfl, rfl, rfl, rfl⟩
   ·refine ⟨?_, ?_, ?_⟩
    ·omega
    ·omega
    ·rfl
  intro a hJ
  obtain ⟨h1, h2, h3⟩ := hJ
  refine ⟨?_, ?_⟩
  ·intro b1
   try simp only [nrmT] at b1
   refine ⟨?_, ?_, ?_, ?_, ?_, ?_, id, id, id, ?_, ?_, id, ?_, id, id, ?_, ?_, id, ?_, id, id, rfl, id, fun _ => rfl, ?_, ?_⟩
   ·omega
   ·omega
   ·omega
   ·omega
   ·omega
   ·omega
   ·omega
   ·omega
   ·omega
   ·omega
   ·intro _; omega
   ·intro _; omega
   ·intro b2
    exact (allTo_falseI h1 (by omega) (by rw [Bool.not_eq_false']; unfold J2z; rw [← b2]; cases decide ((E.getD i.toNat []).getD a.toNat 0 ≤ r) <;> rfl)).symm
   intro b3
   refine ⟨?_, ?_⟩
   ·omega
   refine ⟨(a + 1), ?_⟩
   refine ⟨?_, ?_, rfl, rfl, rfl, rfl, rfl, rfl⟩
   ·refine ⟨?_, ?_, ?_⟩
    ·omega
    ·omega
    ·refine allTo_step h1 h3 ?_
     rw [Bool.not_eq_true']; unfold J2z; rw [← b3]; cases decide ((E.getD i.toNat []).getD a.toNat 0 ≤ r) <;> rfl
   (simp only [J39]; omega)
  intro b4
  try simp only [nrmT] at b4
  unfold J0q
  rw [← h3]; congr 1; omega
theorem JcJ (U : ZI) (E : ZR) (i : Int) (j : Int) (r : Int) (hg : J0 U E = true) (hi : 0 ≤ i ∧ i < (E.length : Int)) (hj : 0 ≤ j ∧ j < (E.length : Int)) : PC Tryz.prog 217 [.agg [.sl (.ints U), .sl (.rows E)], .int .i64 i, .int .i64 j, .int .i64 r] (.one (.d (.bool (J0q U.length E i j r)))) :=
  pc_wf @Tryz.call217 fun hw => pc_by (by kernel_rfl) Tryz.func217 @Tryz.call217 (by kernel_rfl) JdI (Je0 U E i j r) (by kernel_rfl) (JcI U E i j r hg hi hj hw.1.1 hw.1.2.1.1 hw.1.2.1.2) (by kernel_rfl)
def Jcx : List D → Orc := orcN [none, none, none, none] fun ds => match ds with
  | [.agg [.sl (.ints U), .sl (.rows E)], .int .i64 i, .int .i64 j, .int .i64 r] => some (.one (.d (.bool (J0q U.length E i j r))))
  | _ => none
abbrev J4H (U : ZI) (E : ZR) (clients : ZI) (r : Int) (i : Int) : Prop := (0 ≤ i) ∧ (i ≤ (clients.length : Int)) ∧ (allTo (fun i => allTo (fun k => J0q U.length E (clients.getD i 0) (clients.getD k 0) r) i) i.toNat = true)
abbrev J4y (U : ZI) (E : ZR) (clients : ZI) (r : Int) (i : Int) : Nat := (clients.length - i).toNat
abbrev J4K (U : ZI) (E : ZR) (clients : ZI) (r : Int) (i : Int) (k : Int) : Prop := (0 ≤ k) ∧ (k ≤ i) ∧ (allTo (fun c => J0q U.length E (clients.getD i.toNat 0) (clients.getD c 0) r) k.toNat = true)
abbrev J4D (U : ZI) (E : ZR) (clients : ZI) (r : Int) (i : Int) (k : Int) : Nat := (i - k).toNat
def Jfs (f : FuncId) (ds : List D) : Orc := bif Nat.beq f 217 then Jcx ds else .no
def JfV (U : ZI) (E : ZR) (clients : ZI) (r : Int) : Ann := .two (.none) (.two (.two (.none) (.loop (cut1 (fun (i : Int) => J4H U E clients r i) (fun (i : Int) => [(1, .d false (.sl (.ints clients))), (2, .d false (.int .i64 r)), (3, .ptr 3 0), (7, .d true (.int .i64 i))]) (fun (i : Int) => [(3, .box 27 [.d false (.sl (.ints U)), .d false (.sl (.rows E))])])) (fun g => J4y U E clients r g) (fun g => (fun (i : Int) => .two (.none) (.two (.two (.none) (.loop (cut1 (fun (k : Int) => J4K U E clients r i k) (fun (k : Int) => [(1, .d false (.sl (.ints clients))), (2, .d false (.int .i64 r)), (3, .ptr 3 0), (7, .d true (.int .i64 i)), (8, .d true (.int .i64 k))]) (fun (k : Int) => [(3, .box 27 [.d false (.sl (.ints U)), .d false (.sl (.rows E))])])) (fun g => J4D U E clients r i g) (fun _ => .none))) (.none))) g))) (.none))
def JbQ (U : ZI) (E : ZR) (clients : ZI) (r : Int) : Prop :=
  ((∃ i' : Int, (J4H U E clients r i') ∧ (clients = clients) ∧ (r = r) ∧ ((0 : Int) = i') ∧ (U = U) ∧ (E = E)) ∧ (∀ i : Int, (J4H U E clients r i) → (((decide (i < (clients.length : Int))) = true → ((∃ k' : Int, (J4K U E clients r i k') ∧ (clients = clients) ∧ (r = r) ∧ (i = i) ∧ ((0 : Int) = k') ∧ (U = U) ∧ (E = E)) ∧ (∀ k : Int, (J4K U E clients r i k) → (((decide (k < i)) = true → (true = true) ∧ ((0 : Int) ≤ i) ∧ ((i : Int) < clients.length) ∧ (i.toNat < clients.length) ∧ ((0 : Int) ≤ k) ∧ ((k : Int) < clients.length) ∧ (k.toNat < clients.length) ∧ (PC Tryz.prog 217 [.agg [.sl (.ints U), .sl (.rows E)], .int .i64 (clients.getD i.toNat 0), .int .i64 (clients.getD k.toNat 0), .int .i64 r] (.one (.d (.bool (J0q U.length E (clients.getD i.toNat 0) (clients.getD k.toNat 0) r))))) ∧ (((!(J0q U.length E (clients.getD i.toNat 0) (clients.getD k.toNat 0) r)) = true → ((false = (J0w U.length E clients r)))) ∧ ((!(J0q U.length E (clients.getD i.toNat 0) (clients.getD k.toNat 0) r)) = false → (I6 (k + 1)) ∧ (∃ k' : Int, (J4K U E clients r i k') ∧ (J4D U E clients r i k' < J4D U E clients r i k) ∧ (clients = clients) ∧ (r = r) ∧ (i = i) ∧ ((k + 1) = k') ∧ (U = U) ∧ (E = E))))) ∧ ((decide (k < i)) = false → (I6 (i + 1)) ∧ (∃ i' : Int, (J4H U E clients r i') ∧ (J4y U E clients r i' < J4y U E clients r i) ∧ (clients = clients) ∧ (r = r) ∧ ((i + 1) = i') ∧ (U = U) ∧ (E = E))))))) ∧ ((decide (i < (clients.length : Int))) = false → ((true = (J0w U.length E clients r)))))))
theorem JeX (U : ZI) (E : ZR) (clients : ZI) (r : Int) (hg : J0 U E = true) (hc : ∀ c ∈ clients, 0 ≤ c ∧ c < (E.length : Int)) (w_Open : (U.length : Int) ≤ 9223372036854775807) (w_Dist : (E.length : Int) ≤ 9223372036854775807) (v_Dist : ∀ x9 ∈ E, (x9.length : Int) ≤ 9223372036854775807) (w_clients : (clients.length : Int) ≤ 9223372036854775807) : JbQ U E clients r := by
  unfold JbQ
  obtain ⟨g1, g2, g3⟩ := Jb hg
  have ca := fun (k : Nat) (hk : k < clients.length) => hc _ (getD_mem (d := 0) hk)
  refine ⟨?_, ?_⟩
  ·refine ⟨0, ?_⟩
   refine ⟨?_, rfl, rfl, rfl, rfl, rfl⟩
   ·refine ⟨?_, ?_, ?_⟩
    ·omega
    ·omega
    ·rfl
  intro i hJ
  obtain ⟨h1, h2, h3⟩ := hJ
  refine ⟨?_, ?_⟩
  ·intro b1
   try simp only [nrmT] at b1
   refine ⟨?_, ?_⟩
   ·refine ⟨0, ?_⟩
    refine ⟨?_, rfl, rfl, rfl, rfl, rfl, rfl⟩
    ·refine ⟨?_, ?_, ?_⟩
     ·omega
     ·omega
     ·rfl
   intro k hJ
   obtain ⟨h4, h5, h6⟩ := hJ
   refine ⟨?_, ?_⟩
   ·intro b2
    try simp only [nrmT] at b2
    refine ⟨rfl, ?_, ?_, ?_, ?_, ?_, ?_, ?_, ?_, ?_⟩
    ·omega
    ·omega
    ·omega
    ·omega
    ·omega
    ·omega
    ·refine JcJ U E (clients.getD i.toNat 0) (clients.getD k.toNat 0) r ?_ ?_ ?_
     ·omega
     ·have := ca i.toNat (by omega)
      omega
     ·have := ca k.toNat (by omega)
      omega
    ·intro b3
     try simp only [nrmT] at b3
     refine (allTo_falseI h1 (by omega) ?_).symm
     exact allTo_falseI h4 (by omega) b3
    intro b4
    try simp only [nrmT] at b4
    refine ⟨?_, ?_⟩
    ·omega
    refine ⟨(k + 1), ?_⟩
    refine ⟨?_, ?_, rfl, rfl, rfl, rfl, rfl, rfl⟩
    ·refine ⟨?_, ?_, ?_⟩
     ·omega
     ·omega
     ·exact allTo_step h4 h6 b4
    (simp only [J4D]; omega)
   intro b5
   try simp only [nrmT] at b5
   refine ⟨?_, ?_⟩
   ·omega
   refine ⟨(i + 1), ?_⟩
   refine ⟨?_, ?_, rfl, rfl, rfl, rfl, rfl⟩
   ·refine ⟨?_, ?_, ?_⟩
    ·omega
    ·omega
    ·have e : k.toNat = i.toNat := by omega
     rw [e] at h6
     exact allTo_step h1 h3 h6
   (simp only [J4y]; omega)
  intro b6
  try simp only [nrmT] at b6
  unfold J0w
  rw [← h3]; congr 1; omega
theorem JeR (U : ZI) (E : ZR) (clients : ZI) (r : Int) (hg : J0 U E = true) (hc : ∀ c ∈ clients, 0 ≤ c ∧ c < (E.length : Int)) : PC Tryz.prog 165 [.agg [.sl (.ints U), .sl (.rows E)], .sl (.ints clients), .int .i64 r] (.one (.d (.bool (J0w U.length E clients r)))) :=
  pc_wf @Tryz.call165 fun hw => pc_by (by kernel_rfl) Tryz.func165 @Tryz.call165 (by kernel_rfl) Jfs (JfV U E clients r) (by kernel_rfl) (JeX U E clients r hg hc hw.1.1 hw.1.2.1.1 hw.1.2.1.2 hw.2.1) (by kernel_rfl)
def JdH : List D → Orc := orcN [none, some .ints, none] fun ds => match ds with
  | [.agg [.sl (.ints U), .sl (.rows E)], .sl (.ints clients), .int .i64 r] => some (.one (.d (.bool (J0w U.length E clients r))))
  | _ => none
abbrev J1b (U : ZI) (E : ZR) (clients : ZI) (r : Int) (a : Int) : Prop := (0 ≤ a) ∧ (a ≤ (U.length : Int)) ∧ (allTo (fun c => decide (J1R E clients r c clients.length ≤ 1)) a.toNat = true)
abbrev J1c (U : ZI) (E : ZR) (clients : ZI) (r : Int) (a : Int) : Nat := (U.length - a).toNat
abbrev J0m (U : ZI) (E : ZR) (clients : ZI) (r : Int) (a : Int) (near : Int) (k : Int) : Prop := (0 ≤ k) ∧ (k ≤ (clients.length : Int)) ∧ (near = J1R E clients r a.toNat k.toNat)
abbrev JM (U : ZI) (E : ZR) (clients : ZI) (r : Int) (a : Int) (near : Int) (k : Int) : Nat := (clients.length - k).toNat
def J9h (f : FuncId) (ds : List D) : Orc := .no
def J9M (U : ZI) (E : ZR) (clients : ZI) (r : Int) : Ann := .two (.none) (.two (.two (.none) (.loop (cut1 (fun (a : Int) => J1b U E clients r a) (fun (a : Int) => [(1, .d false (.sl (.ints clients))), (2, .d false (.int .i64 r)), (3, .ptr 3 0), (13, .d true (.int .i64 (U.length : Int))), (14, .d true (.int .i64 a))]) (fun (a : Int) => [(3, .box 27 [.d false (.sl (.ints U)), .d false (.sl (.rows E))])])) (fun g => J1c U E clients r g) (fun g => (fun (a : Int) => .two (.none) (.two (.none) (.two (.two (.none) (.two (.none) (.two (.two (.none) (.loop (cut2 (fun (near : Int) (k : Int) => J0m U E clients r a near k) (fun (near : Int) (k : Int) => [(1, .d false (.sl (.ints clients))), (2, .d false (.int .i64 r)), (3, .ptr 3 0), (7, .d true (.int .i64 a)), (8, .d true (.int .i64 near)), (13, .d true (.int .i64 (U.length : Int))), (14, .d true (.int .i64 a)), (17, .d false (.sl (.ints clients))), (18, .d true (.int .i64 (clients.length : Int))), (19, .d true (.int .i64 k))]) (fun (near : Int) (k : Int) => [(3, .box 27 [.d false (.sl (.ints U)), .d false (.sl (.rows E))])])) (fun g => JM U E clients r a g.1 g.2) (fun _ => .none))) (.none)))) (.none)))) g))) (.none))
def J5B (U : ZI) (E : ZR) (clients : ZI) (r : Int) : Prop :=
  ((∃ a' : Int, (J1b U E clients r a') ∧ (clients = clients) ∧ (r = r) ∧ ((U.length : Int) = (U.length : Int)) ∧ ((0 : Int) = a') ∧ (U = U) ∧ (E = E)) ∧ (∀ a : Int, (J1b U E clients r a) → (((decide (a < (U.length : Int))) = true → ((∃ near' : Int, ∃ k' : Int, (J0m U E clients r a near' k') ∧ (clients = clients) ∧ (r = r) ∧ (a = a) ∧ ((0 : Int) = near') ∧ ((U.length : Int) = (U.length : Int)) ∧ (a = a) ∧ (clients = clients) ∧ ((clients.length : Int) = (clients.length : Int)) ∧ ((0 : Int) = k') ∧ (U = U) ∧ (E = E)) ∧ (∀ near : Int, ∀ k : Int, (J0m U E clients r a near k) → (((decide (k < (clients.length : Int))) = true → ((0 : Int) ≤ k) ∧ ((k : Int) < clients.length) ∧ (k.toNat < clients.length) ∧ ((0 : Int) ≤ (clients.getD k.toNat 0)) ∧ (((clients.getD k.toNat 0) : Int) < E.length) ∧ ((clients.getD k.toNat 0).toNat < E.length) ∧ ((0 : Int) ≤ a) ∧ ((a : Int) < (E.getD ((clients.getD k.toNat 0).toNat) []).length) ∧ (a.toNat < (E.getD ((clients.getD k.toNat 0).toNat) []).length) ∧ (((decide (((E.getD ((clients.getD k.toNat 0).toNat) []).getD a.toNat 0) ≤ r)) = true → (I6 (near + 1)) ∧ (I6 (k + 1)) ∧ (∃ near' : Int, ∃ k' : Int, (J0m U E clients r a near' k') ∧ (JM U E clients r a near' k' < JM U E clients r a near k) ∧ (clients = clients) ∧ (r = r) ∧ (a = a) ∧ ((near + 1) = near') ∧ ((U.length : Int) = (U.length : Int)) ∧ (a = a) ∧ (clients = clients) ∧ ((clients.length : Int) = (clients.length : Int)) ∧ ((k + 1) = k') ∧ (U = U) ∧ (E = E))) ∧ ((decide (((E.getD ((clients.getD k.toNat 0).toNat) []).getD a.toNat 0) ≤ r)) = false → (I6 (k + 1)) ∧ (∃ near' : Int, ∃ k' : Int, (J0m U E clients r a near' k') ∧ (JM U E clients r a near' k' < JM U E clients r a near k) ∧ (clients = clients) ∧ (r = r) ∧ (a = a) ∧ (near = near') ∧ ((U.length : Int) = (U.length : Int)) ∧ (a = a) ∧ (clients = clients) ∧ ((clients.length : Int) = (clients.length : Int)) ∧ ((k + 1) = k') ∧ (U = U) ∧ (E = E))))) ∧ ((decide (k < (clients.length : Int))) = false → (((decide (near > 1)) = true → ((false = (J0w U.length E clients r)))) ∧ ((decide (near > 1)) = false → (I6 (a + 1)) ∧ (∃ a' : Int, (J1b U E clients r a') ∧ (J1c U E clients r a' < J1c U E clients r a) ∧ (clients = clients) ∧ (r = r) ∧ ((U.length : Int) = (U.length : Int)) ∧ ((a + 1) = a') ∧ (U = U) ∧ (E = E))))))))) ∧ ((decide (a < (U.length : Int))) = false → ((true = (J0w U.length E clients r)))))))
theorem J8z (U : ZI) (E : ZR) (clients : ZI) (r : Int) (hg : J0 U E = true) (hc : ∀ c ∈ clients, 0 ≤ c ∧ c < (E.length : Int)) (w_Open : (U.length : Int) ≤ 9223372036854775807) (w_Dist : (E.length : Int) ≤ 9223372036854775807) (v_Dist : ∀ x9 ∈ E, (x9.length : Int) ≤ 9223372036854775807) (w_clients : (clients.length : Int) ≤ 9223372036854775807) : J5B U E clients r := by
  unfold J5B
  obtain ⟨g1, g2, g3⟩ := Jb hg
  have ca := fun (k : Nat) (hk : k < clients.length) => hc _ (getD_mem (d := 0) hk)
  refine ⟨?_, ?_⟩
  ·refine ⟨0, ?_⟩
   refine ⟨?_, rfl, rfl, rfl, rfl, rfl, rfl⟩
   ·refine ⟨?_, ?_, ?_⟩
    ·omega
    ·omega
    ·rfl
  intro a hJ
  obtain ⟨h1, h2, h3⟩ := hJ
  refine ⟨?_, ?_⟩
  ·intro b1
   try simp only [nrmT] at b1
   refine ⟨?_, ?_⟩
   ·refine ⟨0, 0, ?_⟩
    refine ⟨?_, rfl, rfl, rfl, rfl, rfl, rfl, rfl, rfl, rfl, rfl, rfl⟩
    ·refine ⟨?_, ?_, ?_⟩
     ·omega
     ·omega
     ·rfl
   intro near k hJ
   obtain ⟨h4, h5, h6⟩ := hJ
   refine ⟨?_, ?_⟩
   ·intro b2
    try simp only [nrmT] at b2
    refine ⟨?_, ?_, ?_, ?_, ?_, ?_, ?_, ?_, ?_, ?_, ?_⟩
    ·omega
    ·omega
    ·omega
    ·have := ca k.toNat (by omega)
     omega
    ·have := ca k.toNat (by omega)
     omega
    ·have := ca k.toNat (by omega)
     omega
    ·omega
    ·have := ca k.toNat (by omega)
     obtain ⟨rr, _⟩ := Je (i := (clients.getD k.toNat 0).toNat) hg (by omega)
     omega
    ·have := ca k.toNat (by omega)
     obtain ⟨rr, _⟩ := Je (i := (clients.getD k.toNat 0).toNat) hg (by omega)
     omega
    ·intro b3
     try simp only [nrmT] at b3
     refine ⟨?_, ?_, ?_⟩
     ·have := J8W (E := E) (clients := clients) (r := r) (a := a.toNat) (k := k.toNat)
      omega
     ·omega
     refine ⟨(near + 1), (k + 1), ?_⟩
     refine ⟨?_, ?_, rfl, rfl, rfl, rfl, rfl, rfl, rfl, rfl, rfl, rfl, rfl⟩
     ·refine ⟨?_, ?_, ?_⟩
      ·omega
      ·omega
      ·rw [h6, show (k + 1).toNat = k.toNat + 1 by omega, J1a, J5l.2 b3]
     (simp only [JM]; omega)
    intro b4
    try simp only [nrmT] at b4
    refine ⟨?_, ?_⟩
    ·omega
    refine ⟨near, (k + 1), ?_⟩
    refine ⟨?_, ?_, rfl, rfl, rfl, rfl, rfl, rfl, rfl, rfl, rfl, rfl, rfl⟩
    ·refine ⟨?_, ?_, ?_⟩
     ·omega
     ·omega
     ·rw [h6, show (k + 1).toNat = k.toNat + 1 by omega, J1a]
      have : J0k E clients r a.toNat k.toNat = 0 := by unfold J0k; rw [if_neg (by omega)]
      omega
    (simp only [JM]; omega)
   intro b5
   try simp only [nrmT] at b5
   refine ⟨?_, ?_⟩
   ·intro b6
    try simp only [nrmT] at b6
    rw [← JfS]
    refine (allTo_falseI h1 (by omega) ?_).symm
    rw [h6, show k.toNat = clients.length by omega] at b6
    simp only [decide_eq_false_iff_not]
    omega
   intro b7
   try simp only [nrmT] at b7
   refine ⟨?_, ?_⟩
   ·omega
   refine ⟨(a + 1), ?_⟩
   refine ⟨?_, ?_, rfl, rfl, rfl, rfl, rfl, rfl⟩
   ·refine ⟨?_, ?_, ?_⟩
    ·omega
    ·omega
    ·rw [h6, show k.toNat = clients.length by omega] at b7
     exact allTo_step h1 h3 (by simp only [decide_eq_true_eq]; omega)
   (simp only [J1c]; omega)
  intro b8
  try simp only [nrmT] at b8
  rw [← JfS]
  unfold Jgi
  rw [← h3]; congr 1; omega
theorem J8P (U : ZI) (E : ZR) (clients : ZI) (r : Int) (hg : J0 U E = true) (hc : ∀ c ∈ clients, 0 ≤ c ∧ c < (E.length : Int)) : PC Tryz.prog 163 [.agg [.sl (.ints U), .sl (.rows E)], .sl (.ints clients), .int .i64 r] (.one (.d (.bool (J0w U.length E clients r)))) :=
  pc_wf @Tryz.call163 fun hw => pc_by (by kernel_rfl) Tryz.func163 @Tryz.call163 (by kernel_rfl) J9h (J9M U E clients r) (by kernel_rfl) (J8z U E clients r hg hc hw.1.1 hw.1.2.1.1 hw.1.2.1.2 hw.2.1) (by kernel_rfl)
def J7M : List D → Orc := orcN [none, some .ints, none] fun ds => match ds with
  | [.agg [.sl (.ints U), .sl (.rows E)], .sl (.ints clients), .int .i64 r] => some (.one (.d (.bool (J0w U.length E clients r))))
  | _ => none
def JcU (f : FuncId) (ds : List D) : Orc := bif Nat.beq f 111 then J1E ds else .no
def Jdi (U : ZI) (E : ZR) (r : Int) : Ann := .none
def J8e (U : ZI) (E : ZR) (r : Int) : Prop :=
  (PC Tryz.prog 111 [.agg [.sl (.ints U), .sl (.rows E)]] (.one (.d (.bool (J0 U E))))) ∧ ((J0 U E) = true → (J0 U E) = true) ∧ (true = true) ∧ (((J0 U E) = true → (J0 U E) = true)) ∧ (((J0 U E) = false → true = true)) ∧ (((cond (J0 U E) (decide (r ≥ 0)) false) = (J0 U E && decide (0 ≤ r))))
theorem Jcf (U : ZI) (E : ZR) (r : Int)  (w_Open : (U.length : Int) ≤ 9223372036854775807) (w_Dist : (E.length : Int) ≤ 9223372036854775807) (v_Dist : ∀ x9 ∈ E, (x9.length : Int) ≤ 9223372036854775807) : J8e U E r := by
  unfold J8e
  refine ⟨J2a U E, id, rfl, id, fun _ => rfl, ?_⟩
  ·cases J0 U E <;> rfl
theorem Jc2 (U : ZI) (E : ZR) (r : Int)  : PC Tryz.prog 114 [.agg [.sl (.ints U), .sl (.rows E)], .int .i64 r] (.one (.d (.bool (J0 U E && decide (0 ≤ r))))) :=
  pc_wf @Tryz.call114 fun hw => pc_by (by kernel_rfl) Tryz.func114 @Tryz.call114 (by kernel_rfl) JcU (Jdi U E r) (by kernel_rfl) (Jcf U E r hw.1.1 hw.1.2.1.1 hw.1.2.1.2) (by kernel_rfl)
def Jbf : List D → Orc := orcN [none, none] fun ds => match ds with
  | [.agg [.sl (.ints U), .sl (.rows E)], .int .i64 r] => some (.one (.d (.bool (J0 U E && decide (0 ≤ r)))))
  | _ => none
def JdO (f : FuncId) (ds : List D) : Orc := .no
def Jec (b : Int) (x : Int) : Ann := .none
def J8Z (b : Int) (x : Int) : Prop :=
  ((0 : Int) ≤ b ∧ (b : Int) ≤ 18446744073709551615) ∧ ((0 : Int) ≤ x) ∧ ((0 : Int) ≤ (b / 2 ^ x.toNat) ∧ ((b / 2 ^ x.toNat) : Int) ≤ 18446744073709551615) ∧ ((0 : Int) ≤ 1 ∧ (1 : Int) ≤ 18446744073709551615) ∧ ((((((b / 2 ^ x.toNat).toNat &&& 1 : Nat) : Int) == 1) = (b.toNat.testBit x.toNat)))
theorem Jdm (b : Int) (x : Int) (hb : 0 ≤ b ∧ b ≤ 4611686018427387903) (hx : 0 ≤ x)  : J8Z b x := by
  unfold J8Z
  refine ⟨?_, ?_, ?_, ?_, ?_⟩
  ·omega
  ·omega
  ·have h1 : 0 ≤ b / 2 ^ x.toNat := Int.ediv_nonneg hb.1 (Int.le_of_lt (Int.pow_pos (by omega)))
   have h2 : b / 2 ^ x.toNat ≤ b := Int.ediv_le_self _ hb.1
   omega
  ·omega
  have e : b = ((b.toNat : Nat) : Int) := by omega
  have h := shr_bit (n := b.toNat) (k := x.toNat)
  rw [← e] at h
  rw [h]
  cases b.toNat.testBit x.toNat <;> rfl
theorem J7F (b : Int) (x : Int) (hb : 0 ≤ b ∧ b ≤ 4611686018427387903) (hx : 0 ≤ x) : PC Tryz.prog 138 [.int .u64 b, .int .i64 x] (.one (.d (.bool (b.toNat.testBit x.toNat)))) :=
  pc_wf @Tryz.call138 fun _ => pc_by (by kernel_rfl) Tryz.func138 @Tryz.call138 (by kernel_rfl) JdO (Jec b x) (by kernel_rfl) (Jdm b x hb hx) (by kernel_rfl)
def J7d : List D → Orc := orcN [none, none] fun ds => match ds with
  | [.int .u64 b, .int .i64 x] => some (.one (.d (.bool (b.toNat.testBit x.toNat))))
  | _ => none
theorem J4d {xs : ZI} {lo hi : Int} (h : J2 xs lo hi = true) : ∀ x ∈ xs, lo ≤ x ∧ x ≤ hi := by
  intro x hx
  obtain ⟨k, hk, rfl⟩ := List.mem_iff_getElem.1 hx
  have := J2d h k hk
  simp [hk] at this
  omega
theorem JaU {n : Nat} (h : n ≤ 8) : (2 : Nat) ^ n ≤ 256 := Nat.le_trans (Nat.pow_le_pow_right (by omega) h) (by decide)
abbrev J4v (l : ZI) (n : Int) (k : Int) : Prop := (0 ≤ k) ∧ (k ≤ (l.length : Int)) ∧ (∀ j, j < k.toNat → l.getD j 0 < n)
abbrev J4x (l : ZI) (n : Int) (k : Int) : Nat := (l.length - k).toNat
def Jft (f : FuncId) (ds : List D) : Orc := .no
def JfO (l : ZI) (n : Int) : Ann := .two (.none) (.two (.none) (.two (.loop (cut1 (fun (k : Int) => J4v l n k) (fun (k : Int) => [(0, .d true (.sl (.ints l))), (1, .d false (.int .i64 n)), (5, .d true (.int .i64 k))]) (fun (k : Int) => [])) (fun g => J4x l n g) (fun _ => .none)) (.two (.none) (.two (.reg [(6, .frz)]) (.none)))))
def JbW (l : ZI) (n : Int) : Prop :=
  ((∃ k' : Int, (J4v l n k') ∧ (l = l) ∧ (n = n) ∧ ((0 : Int) = k')) ∧ (∀ k : Int, (J4v l n k) → ((decide (k < (l.length : Int))) = true → (decide (k < (l.length : Int))) = true) ∧ ((decide (k < (l.length : Int))) = true → (decide (k < (l.length : Int))) = true) ∧ (((decide (k < (l.length : Int))) = true → (0 : Int) ≤ k)) ∧ (((decide (k < (l.length : Int))) = true → (k : Int) < l.length)) ∧ ((decide (k < (l.length : Int))) = true → (decide (k < (l.length : Int))) = true) ∧ (((decide (k < (l.length : Int))) = true → k.toNat < l.length)) ∧ ((decide (k < (l.length : Int))) = true → (decide (k < (l.length : Int))) = true) ∧ ((decide (k < (l.length : Int))) = true → (decide (k < (l.length : Int))) = true) ∧ (true = true) ∧ (((decide (k < (l.length : Int))) = true → (decide (k < (l.length : Int))) = true)) ∧ (((decide (k < (l.length : Int))) = false → true = true)) ∧ (((cond (decide (k < (l.length : Int))) (decide ((l.getD k.toNat 0) < n)) false) = true → (I6 (k + 1)) ∧ (∃ k' : Int, (J4v l n k') ∧ (J4x l n k' < J4x l n k) ∧ (l = l) ∧ (n = n) ∧ ((k + 1) = k'))) ∧ ((cond (decide (k < (l.length : Int))) (decide ((l.getD k.toNat 0) < n)) false) = false → ((decide (k < (l.length : Int))) = true → (decide (k < (l.length : Int))) = true) ∧ ((decide (k < (l.length : Int))) = true → (decide (k < (l.length : Int))) = true) ∧ (((decide (k < (l.length : Int))) = true → (0 : Int) ≤ k)) ∧ (((decide (k < (l.length : Int))) = true → (k : Int) < l.length)) ∧ ((decide (k < (l.length : Int))) = true → (decide (k < (l.length : Int))) = true) ∧ (((decide (k < (l.length : Int))) = true → k.toNat < l.length)) ∧ ((decide (k < (l.length : Int))) = true → (decide (k < (l.length : Int))) = true) ∧ ((decide (k < (l.length : Int))) = true → (decide (k < (l.length : Int))) = true) ∧ (true = true) ∧ (((decide (k < (l.length : Int))) = true → (decide (k < (l.length : Int))) = true)) ∧ (((decide (k < (l.length : Int))) = false → true = true)) ∧ (((cond (decide (k < (l.length : Int))) ((l.getD k.toNat 0) == n) false) = true → (((l : ZI) = (putL l n)))) ∧ ((cond (decide (k < (l.length : Int))) ((l.getD k.toNat 0) == n) false) = false → (true = true) ∧ ((0 : Int) ≤ k) ∧ ((k : Int) ≤ l.length) ∧ ((0 : Nat) = 0) ∧ (True) ∧ ((0 + ((l.take k.toNat).drop 0).length) * 8 ≤ 140737488355328) ∧ ((0 + ((l.take k.toNat).drop 0).length) = ([] ++ ((l.take k.toNat).drop 0)).length) ∧ (True) ∧ ((([] ++ ((l.take k.toNat).drop 0)).length + 1) * 8 ≤ 140737488355328) ∧ ((0 : Int) ≤ k) ∧ ((k : Int) ≤ l.length) ∧ (((0 + ((l.take k.toNat).drop 0).length) + 1) = (([] ++ ((l.take k.toNat).drop 0)) ++ [n]).length) ∧ (True) ∧ (((([] ++ ((l.take k.toNat).drop 0)) ++ [n]).length + ((l.take l.length).drop k.toNat).length) * 8 ≤ 140737488355328) ∧ (((((0 + ((l.take k.toNat).drop 0).length) + 1) + ((l.take l.length).drop k.toNat).length) = ((([] ++ ((l.take k.toNat).drop 0)) ++ [n]) ++ ((l.take l.length).drop k.toNat)).length) ∧ ((((([] ++ ((l.take k.toNat).drop 0)) ++ [n]) ++ ((l.take l.length).drop k.toNat)) : ZI) = (putL l n)))))))))
theorem Jf1 (l : ZI) (n : Int) (hl : l.length ≤ 1048576) (w_l : (l.length : Int) ≤ 9223372036854775807) : JbW l n := by
  unfold JbW
  refine ⟨?_, ?_⟩
  ·refine ⟨0, ?_⟩
   refine ⟨?_, rfl, rfl, rfl⟩
   ·refine ⟨?_, ?_, ?_⟩
    ·omega
    ·omega
    ·omega
  intro k hJ
  obtain ⟨h1, h2, h3⟩ := hJ
  refine ⟨id, id, ?_, ?_, id, ?_, id, id, rfl, id, fun _ => rfl, ?_, ?_⟩
  ·omega
  ·(intro hg; simp only [nrmT] at hg; omega)
  ·(intro hg; simp only [nrmT] at hg; omega)
  ·intro b1
   refine ⟨?_, ?_⟩
   ·have h5 : k < (l.length : Int) ∧ l.getD k.toNat 0 < n := by
      revert b1; by_cases h : k < (l.length : Int)
      · rw [decide_eq_true h]; intro g; exact ⟨h, by simpa using g⟩
      rw [decide_eq_false h]; intro g; cases g
    omega
   refine ⟨(k + 1), ?_⟩
   refine ⟨?_, ?_, rfl, rfl, rfl⟩
   ·refine ⟨?_, ?_, ?_⟩
    ·omega
    ·have h5 : k < (l.length : Int) ∧ l.getD k.toNat 0 < n := by
       revert b1; by_cases h : k < (l.length : Int)
       · rw [decide_eq_true h]; intro g; exact ⟨h, by simpa using g⟩
       rw [decide_eq_false h]; intro g; cases g
     omega
    ·have h5 : k < (l.length : Int) ∧ l.getD k.toNat 0 < n := by
       revert b1; by_cases h : k < (l.length : Int)
       · rw [decide_eq_true h]; intro g; exact ⟨h, by simpa using g⟩
       rw [decide_eq_false h]; intro g; cases g
     intro j hj
     by_cases e : j = k.toNat
     · rw [e]; exact h5.2
     exact h3 j (by omega)
   have h5 : k < (l.length : Int) ∧ l.getD k.toNat 0 < n := by
     revert b1; by_cases h : k < (l.length : Int)
     · rw [decide_eq_true h]; intro g; exact ⟨h, by simpa using g⟩
     rw [decide_eq_false h]; intro g; cases g
   (simp only [J4x]; omega)
  intro b2
  refine ⟨id, id, ?_, ?_, id, ?_, id, id, rfl, id, fun _ => rfl, ?_, ?_⟩
  ·omega
  ·(intro hg; simp only [nrmT] at hg; omega)
  ·(intro hg; simp only [nrmT] at hg; omega)
  ·intro b3
   have h6 : k.toNat < l.length → ¬ l.getD k.toNat 0 < n := by
     intro g1 g2
     rw [decide_eq_true (show k < (l.length : Int) by omega), decide_eq_true g2] at b2
     cases b2
   have h7 : k < (l.length : Int) ∧ l.getD k.toNat 0 = n := by
     revert b3; by_cases h : k < (l.length : Int)
     · rw [decide_eq_true h]; intro g; exact ⟨h, by simpa using g⟩
     rw [decide_eq_false h]; intro g; cases g
   rw [putL_at l n k.toNat (by omega) h3 h6, if_pos ⟨by omega, h7.2⟩]
  intro b4
  refine ⟨rfl, ?_, ?_, rfl, trivial, ?_, ?_, trivial, ?_, ?_, ?_, ?_, trivial, ?_, ?_, ?_⟩
  ·omega
  ·omega
  ·(simp only [List.length_append, List.length_take, List.length_drop, List.length_cons, List.length_nil]; omega)
  ·(simp only [List.length_append, List.length_take, List.length_drop, List.length_cons, List.length_nil]; done)
  ·(simp only [List.length_append, List.length_take, List.length_drop, List.length_cons, List.length_nil]; omega)
  ·omega
  ·omega
  ·(simp only [List.length_append, List.length_take, List.length_drop, List.length_cons, List.length_nil]; done)
  ·(simp only [List.length_append, List.length_take, List.length_drop, List.length_cons, List.length_nil]; omega)
  ·(simp only [List.length_append, List.length_take, List.length_drop, List.length_cons, List.length_nil]; done)
  have h6 : k.toNat < l.length → ¬ l.getD k.toNat 0 < n := by
    intro g1 g2
    rw [decide_eq_true (show k < (l.length : Int) by omega), decide_eq_true g2] at b2
    cases b2
  have h7 : ¬ (k.toNat < l.length ∧ l.getD k.toNat 0 = n) := by
    rintro ⟨g1, g2⟩
    rw [decide_eq_true (show k < (l.length : Int) by omega), g2] at b4
    simp at b4
  rw [putL_at l n k.toNat (by omega) h3 h6, if_neg h7]
  simp
theorem Jau (l : ZI) (n : Int) (hl : l.length ≤ 1048576) : PCs Tryz.prog 140 [.sl (.ints l), .int .i64 n] 0 (.sl (.ints (putL l n))) :=
  pcs_wf @Tryz.call140 fun hw => pcs_by (by kernel_rfl) Tryz.func140 @Tryz.call140 (by kernel_rfl) Jft (JfO l n) (by kernel_rfl) (Jf1 l n hl hw.1) (by kernel_rfl)
def J95 : List D → Orc := orcS 0 fun ds => match ds with
  | [.sl (.ints l), .int .i64 n] => some (.sl (.ints (putL l n)))
  | _ => none
theorem Ja {α : Type} {xs : List α} {k : Nat} {d : α} (h : k < xs.length) : xs.getD k d = xs[k] := by simp [h]
abbrev J07 (xs : ZI) (x : Int) (i : Int) : Prop := (0 ≤ i) ∧ (i ≤ (xs.length : Int)) ∧ (∀ k, k < i.toNat → (fun y => x == y) (xs.getD k 0) = false)
abbrev J06 (xs : ZI) (x : Int) (i : Int) : Nat := (xs.length - i).toNat
def J5N (f : FuncId) (ds : List D) : Orc := .no
def J5T (xs : ZI) (x : Int) : Ann := .two (.none) (.two (.two (.none) (.loop (cut1 (fun (i : Int) => J07 xs x i) (fun (i : Int) => [(0, .d false (.sl (.ints xs))), (1, .d false (.int .i64 x)), (7, .d true (.int .i64 (xs.length : Int))), (8, .d true (.int .i64 i))]) (fun (i : Int) => [])) (fun g => J06 xs x g) (fun _ => .none))) (.none))
def J2G (xs : ZI) (x : Int) : Prop :=
  ((∃ i' : Int, (J07 xs x i') ∧ (xs = xs) ∧ (x = x) ∧ ((xs.length : Int) = (xs.length : Int)) ∧ ((0 : Int) = i')) ∧ (∀ i : Int, (J07 xs x i) → (((decide (i < (xs.length : Int))) = true → ((0 : Int) ≤ i) ∧ ((i : Int) < xs.length) ∧ (i.toNat < xs.length) ∧ (((x == (xs.getD i.toNat 0)) = true → ((i = (idxI (fun y => x == y) xs)))) ∧ ((x == (xs.getD i.toNat 0)) = false → (I6 (i + 1)) ∧ (∃ i' : Int, (J07 xs x i') ∧ (J06 xs x i' < J06 xs x i) ∧ (xs = xs) ∧ (x = x) ∧ ((xs.length : Int) = (xs.length : Int)) ∧ ((i + 1) = i'))))) ∧ ((decide (i < (xs.length : Int))) = false → ((((-1) : Int) = (idxI (fun y => x == y) xs)))))))
theorem J5u (xs : ZI) (x : Int)  (w_xs : (xs.length : Int) ≤ 9223372036854775807) : J2G xs x := by
  unfold J2G
  refine ⟨?_, ?_⟩
  ·refine ⟨0, ?_⟩
   refine ⟨?_, rfl, rfl, rfl, rfl⟩
   ·refine ⟨?_, ?_, ?_⟩
    ·omega
    ·omega
    ·omega
  intro i hJ
  obtain ⟨h1, h2, h3⟩ := hJ
  refine ⟨?_, ?_⟩
  ·intro b1
   try simp only [nrmT] at b1
   refine ⟨?_, ?_, ?_, ?_, ?_⟩
   ·omega
   ·omega
   ·omega
   ·intro b2
    try simp only [nrmT] at b2
    exact idx_found (p := fun y => x == y) h1 b1 h3 (by simpa using b2)
   intro b3
   try simp only [nrmT] at b3
   refine ⟨?_, ?_⟩
   ·omega
   refine ⟨(i + 1), ?_⟩
   refine ⟨?_, ?_, rfl, rfl, rfl, rfl⟩
   ·refine ⟨?_, ?_, ?_⟩
    ·omega
    ·omega
    ·exact idx_step (p := fun y => x == y) h1 h3 (by simpa using b3)
   (simp only [J06]; omega)
  intro b4
  try simp only [nrmT] at b4
  exact (idx_none (by omega) h3).symm
theorem J22 (xs : ZI) (x : Int)  : PC Tryz.prog 152 [.sl (.ints xs), .int .i64 x] (.one (.d (.int .i64 (idxI (fun y => x == y) xs)))) :=
  pc_wf @Tryz.call152 fun hw => pc_by (by kernel_rfl) Tryz.func152 @Tryz.call152 (by kernel_rfl) J5N (J5T xs x) (by kernel_rfl) (J5u xs x hw.1) (by kernel_rfl)
def J1T : List D → Orc := orcN [some .ints, none] fun ds => match ds with
  | [.sl (.ints xs), .int .i64 x] => some (.one (.d (.int .i64 (idxI (fun y => x == y) xs))))
  | _ => none
def J54 (f : FuncId) (ds : List D) : Orc := bif Nat.beq f 152 then J1T ds else .no
def J4Z (xs : ZI) (x : Int) : Ann := .none
def J1G (xs : ZI) (x : Int) : Prop :=
  (PC Tryz.prog 152 [.sl (.ints xs), .int .i64 x] (.one (.d (.int .i64 (idxI (fun y => x == y) xs))))) ∧ (((decide ((idxI (fun y => x == y) xs) ≥ 0)) = (xs.contains x)))
theorem J4Q (xs : ZI) (x : Int)  (w_xs : (xs.length : Int) ≤ 9223372036854775807) : J1G xs x := by
  unfold J1G
  refine ⟨J22 xs x, ?_⟩
  ·rw [idx_any, List.contains_eq_any_beq]
theorem J4O (xs : ZI) (x : Int)  : PC Tryz.prog 131 [.sl (.ints xs), .int .i64 x] (.one (.d (.bool (xs.contains x)))) :=
  pc_wf @Tryz.call131 fun hw => pc_by (by kernel_rfl) Tryz.func131 @Tryz.call131 (by kernel_rfl) J54 (J4Z xs x) (by kernel_rfl) (J4Q xs x hw.1) (by kernel_rfl)
def J4r : List D → Orc := orcN [some .ints, none] fun ds => match ds with
  | [.sl (.ints xs), .int .i64 x] => some (.one (.d (.bool (xs.contains x))))
  | _ => none
theorem Jeg {xs : ZI} {x i : Int} (h2 : (xs.length : Int) ≤ i) (h3 : ∀ k, k < i.toNat → (fun y => x == y) (xs.getD k 0) = false) : xs.contains x = false := by
  rw [List.contains_eq_any_beq, List.any_eq_false]
  intro y hy
  obtain ⟨k, hk, rfl⟩ := List.mem_iff_getElem.1 hy
  have := h3 k (by omega)
  simp [hk] at this
  simpa using this
theorem JbJ {xs : ZI} {x i : Int} (h1 : 0 ≤ i) (h2 : i < (xs.length : Int)) (h : xs.getD i.toNat 0 = x) : xs.contains x = true := by
  rw [List.contains_iff_mem, ← h]; exact getD_memI h1 h2
abbrev J4N (xs : ZI) (x : Int) (i : Int) : Prop := (0 ≤ i) ∧ (i ≤ (xs.length : Int)) ∧ (∀ k, k < i.toNat → (fun y => x == y) (xs.getD k 0) = false)
abbrev J4E (xs : ZI) (x : Int) (i : Int) : Nat := (xs.length - i).toNat
def JfA (f : FuncId) (ds : List D) : Orc := .no
def Jg2 (xs : ZI) (x : Int) : Ann := .two (.none) (.two (.two (.none) (.loop (cut1 (fun (i : Int) => J4N xs x i) (fun (i : Int) => [(0, .d false (.sl (.ints xs))), (1, .d false (.int .i64 x)), (5, .d true (.int .i64 i))]) (fun (i : Int) => [])) (fun g => J4E xs x g) (fun _ => .none))) (.none))
def JbZ (xs : ZI) (x : Int) : Prop :=
  ((∃ i' : Int, (J4N xs x i') ∧ (xs = xs) ∧ (x = x) ∧ ((0 : Int) = i')) ∧ (∀ i : Int, (J4N xs x i) → (((decide (i < (xs.length : Int))) = true → ((0 : Int) ≤ i) ∧ ((i : Int) < xs.length) ∧ (i.toNat < xs.length) ∧ ((((xs.getD i.toNat 0) == x) = true → ((true = (xs.contains x)))) ∧ (((xs.getD i.toNat 0) == x) = false → (I6 (i + 1)) ∧ (∃ i' : Int, (J4N xs x i') ∧ (J4E xs x i' < J4E xs x i) ∧ (xs = xs) ∧ (x = x) ∧ ((i + 1) = i'))))) ∧ ((decide (i < (xs.length : Int))) = false → ((false = (xs.contains x)))))))
theorem Jet (xs : ZI) (x : Int)  (w_xs : (xs.length : Int) ≤ 9223372036854775807) : JbZ xs x := by
  unfold JbZ
  refine ⟨?_, ?_⟩
  ·refine ⟨0, ?_⟩
   refine ⟨?_, rfl, rfl, rfl⟩
   ·refine ⟨?_, ?_, ?_⟩
    ·omega
    ·omega
    ·omega
  intro i hJ
  obtain ⟨h1, h2, h3⟩ := hJ
  refine ⟨?_, ?_⟩
  ·intro b1
   try simp only [nrmT] at b1
   refine ⟨?_, ?_, ?_, ?_, ?_⟩
   ·omega
   ·omega
   ·omega
   ·intro b2
    try simp only [nrmT] at b2
    exact (JbJ h1 b1 b2).symm
   intro b3
   try simp only [nrmT] at b3
   refine ⟨?_, ?_⟩
   ·omega
   refine ⟨(i + 1), ?_⟩
   refine ⟨?_, ?_, rfl, rfl, rfl⟩
   ·refine ⟨?_, ?_, ?_⟩
    ·omega
    ·omega
    ·exact idx_step (p := fun y => x == y) h1 h3 (by simp only [beq_eq_false_iff_ne]; exact fun h => b3 h.symm)
   (simp only [J4E]; omega)
  intro b4
  try simp only [nrmT] at b4
  exact (Jeg (by omega) h3).symm
theorem Jf2 (xs : ZI) (x : Int)  : PC Tryz.prog 128 [.sl (.ints xs), .int .i64 x] (.one (.d (.bool (xs.contains x)))) :=
  pc_wf @Tryz.call128 fun hw => pc_by (by kernel_rfl) Tryz.func128 @Tryz.call128 (by kernel_rfl) JfA (Jg2 xs x) (by kernel_rfl) (Jet xs x hw.1) (by kernel_rfl)
def JdP : List D → Orc := orcN [some .ints, none] fun ds => match ds with
  | [.sl (.ints xs), .int .i64 x] => some (.one (.d (.bool (xs.contains x))))
  | _ => none
theorem Jff {l : ZI} {lo hi : Int} (h : Asc l) (hb : ∀ x ∈ l, lo ≤ x ∧ x ≤ hi) : J2 l lo hi = true := by
  unfold J2
  rw [allTo_iff]
  intro k hk
  unfold J2e
  simp only [Bool.and_eq_true, Bool.or_eq_true, decide_eq_true_eq]
  have h1 := hb _ (getD_mem (d := 0) hk)
  refine ⟨decide_eq_true h1, ?_⟩
  by_cases e : k = 0
  · exact .inl e
  refine .inr ?_
  have h2 := List.pairwise_iff_getElem.1 h (k - 1) k (by omega) hk (by omega)
  rw [Ja hk, Ja (show k - 1 < l.length by omega)]
  exact h2
def Ja2 (f : FuncId) (ds : List D) : Orc := bif Nat.beq f 162 then Jbu ds else .no
def Jam (U : ZI) (E : ZR) (set : ZI) : Ann := .none
def J5V (U : ZI) (E : ZR) (set : ZI) : Prop :=
  ((decide ((set.length : Int) > 0)) = true → (decide ((set.length : Int) > 0)) = true) ∧ ((decide ((set.length : Int) > 0)) = true → (decide ((set.length : Int) > 0)) = true) ∧ ((decide ((set.length : Int) > 0)) = true → (decide ((set.length : Int) > 0)) = true) ∧ ((decide ((set.length : Int) > 0)) = true → (decide ((set.length : Int) > 0)) = true) ∧ ((decide ((set.length : Int) > 0)) = true → PC Tryz.prog 162 [.sl (.ints set), .int .i64 (U.length : Int)] (.one (.d (.bool (J2 set 0 ((U.length : Int) - 1)))))) ∧ (true = true) ∧ (((decide ((set.length : Int) > 0)) = true → (decide ((set.length : Int) > 0)) = true)) ∧ (((decide ((set.length : Int) > 0)) = false → true = true)) ∧ (((cond (decide ((set.length : Int) > 0)) (J2 set 0 ((U.length : Int) - 1)) false) = (J2 set 0 ((U.length : Int) - 1) && decide (0 < set.length))))
theorem J9e (U : ZI) (E : ZR) (set : ZI)  (w_Open : (U.length : Int) ≤ 9223372036854775807) (w_Dist : (E.length : Int) ≤ 9223372036854775807) (v_Dist : ∀ x9 ∈ E, (x9.length : Int) ≤ 9223372036854775807) (w_set : (set.length : Int) ≤ 9223372036854775807) : J5V U E set := by
  unfold J5V
  refine ⟨id, id, id, id, ?_, rfl, id, fun _ => rfl, ?_⟩
  ·intro hg
   refine Jca set (U.length : Int) ?_
   ·omega
  rw [(show decide ((set.length : Int) > 0) = decide (0 < set.length) by rw [Bool.eq_iff_iff]; simp only [decide_eq_true_eq]; omega)]
  cases J2 set 0 ((U.length : Int) - 1) <;> cases decide (0 < set.length) <;> rfl
theorem J9G (U : ZI) (E : ZR) (set : ZI)  : PC Tryz.prog 203 [.agg [.sl (.ints U), .sl (.rows E)], .sl (.ints set)] (.one (.d (.bool (J2 set 0 ((U.length : Int) - 1) && decide (0 < set.length))))) :=
  pc_wf @Tryz.call203 fun hw => pc_by (by kernel_rfl) Tryz.func203 @Tryz.call203 (by kernel_rfl) Ja2 (Jam U E set) (by kernel_rfl) (J9e U E set hw.1.1 hw.1.2.1.1 hw.1.2.1.2 hw.2.1) (by kernel_rfl)
def J8S : List D → Orc := orcN [none, some .ints] fun ds => match ds with
  | [.agg [.sl (.ints U), .sl (.rows E)], .sl (.ints set)] => some (.one (.d (.bool (J2 set 0 ((U.length : Int) - 1) && decide (0 < set.length)))))
  | _ => none
def JcK (f : FuncId) (ds : List D) : Orc := bif Nat.beq f 111 then J1E ds else bif Nat.beq f 203 then J8S ds else .no
def JcF (U : ZI) (E : ZR) (set : ZI) : Ann := .none
def J81 (U : ZI) (E : ZR) (set : ZI) : Prop :=
  (PC Tryz.prog 111 [.agg [.sl (.ints U), .sl (.rows E)]] (.one (.d (.bool (J0 U E))))) ∧ ((J0 U E) = true → (J0 U E) = true) ∧ ((J0 U E) = true → (J0 U E) = true) ∧ ((J0 U E) = true → PC Tryz.prog 203 [.agg [.sl (.ints U), .sl (.rows E)], .sl (.ints set)] (.one (.d (.bool (J2 set 0 ((U.length : Int) - 1) && decide (0 < set.length)))))) ∧ (true = true) ∧ (((J0 U E) = true → (J0 U E) = true)) ∧ (((J0 U E) = false → true = true)) ∧ (((cond (J0 U E) (J2 set 0 ((U.length : Int) - 1) && decide (0 < set.length)) false) = (J0 U E && J2 set 0 ((U.length : Int) - 1) && decide (0 < set.length))))
theorem Jc6 (U : ZI) (E : ZR) (set : ZI)  (w_Open : (U.length : Int) ≤ 9223372036854775807) (w_Dist : (E.length : Int) ≤ 9223372036854775807) (v_Dist : ∀ x9 ∈ E, (x9.length : Int) ≤ 9223372036854775807) (w_set : (set.length : Int) ≤ 9223372036854775807) : J81 U E set := by
  unfold J81
  refine ⟨J2a U E, id, id, fun _ => J9G U E set, rfl, id, fun _ => rfl, ?_⟩
  ·cases J0 U E <;> cases J2 set 0 ((U.length : Int) - 1) <;> cases decide (0 < set.length) <;> rfl
theorem Jcc (U : ZI) (E : ZR) (set : ZI)  : PC Tryz.prog 113 [.agg [.sl (.ints U), .sl (.rows E)], .sl (.ints set)] (.one (.d (.bool (J0 U E && J2 set 0 ((U.length : Int) - 1) && decide (0 < set.length))))) :=
  pc_wf @Tryz.call113 fun hw => pc_by (by kernel_rfl) Tryz.func113 @Tryz.call113 (by kernel_rfl) JcK (JcF U E set) (by kernel_rfl) (Jc6 U E set hw.1.1 hw.1.2.1.1 hw.1.2.1.2 hw.2.1) (by kernel_rfl)
def Jby : List D → Orc := orcN [none, some .ints] fun ds => match ds with
  | [.agg [.sl (.ints U), .sl (.rows E)], .sl (.ints set)] => some (.one (.d (.bool (J0 U E && J2 set 0 ((U.length : Int) - 1) && decide (0 < set.length)))))
  | _ => none
theorem J1h {U set : ZI} {E : ZR} (h : (J0 U E && J2 set 0 ((U.length : Int) - 1) && decide (0 < set.length)) = true) :
    J0 U E = true ∧ J2 set 0 ((U.length : Int) - 1) = true ∧ 0 < set.length := by
  simp only [Bool.and_eq_true, decide_eq_true_eq] at h
  exact ⟨h.1.1, h.1.2, h.2⟩
theorem J7E {b x : Int} (hb : 0 ≤ b ∧ b ≤ 4611686018427387903) (h2 : x ≤ 62) (h : 0 < b / 2 ^ x.toNat) : x < 62 := by
  by_cases e : x = 62
  · subst e
    have e2 : (2 : Int) ^ (62 : Int).toNat = 4611686018427387904 := by decide
    rw [e2] at h
    omega
  omega
theorem Jei {b : Int} {m : Nat} (hb : 0 ≤ b) (h : ¬ 0 < b / 2 ^ m) (k : Nat) (hk : m ≤ k) : b.toNat.testBit k = false := by
  have h1 : b.toNat / 2 ^ m = 0 := by
    have h2 : ((b.toNat / 2 ^ m : Nat) : Int) = b / 2 ^ m := by
      rw [Int.natCast_ediv, Int.toNat_of_nonneg hb]; simp
    have h3 : (0 : Int) ≤ ((b.toNat / 2 ^ m : Nat) : Int) := Int.natCast_nonneg _
    omega
  have h4 : b.toNat < 2 ^ m := (Nat.div_eq_zero_iff_lt (Nat.two_pow_pos m)).1 h1
  exact Nat.testBit_lt_two_pow (Nat.lt_of_lt_of_le h4 (Nat.pow_le_pow_right (by omega) hk))
theorem J1v {p : Nat → Bool} {m : Nat} (h : ∀ k, m ≤ k → p k = false) : ∀ n, m ≤ n → members p n = members p m
  | 0, hn => by have : m = 0 := by omega
                rw [this]
  | n + 1, hn => by
    by_cases e : m = n + 1
    · rw [e]
    rw [members_succ, J1v h n (by omega), h n (by omega)]; simp
abbrev J1s (b : Int) (out : ZI) (x : Int) : Prop := (0 ≤ x) ∧ (x ≤ 62) ∧ (out = members (fun k => b.toNat.testBit k) x.toNat)
abbrev J0j (b : Int) (out : ZI) (x : Int) : Nat := (62 - x).toNat
def JcR (f : FuncId) (ds : List D) : Orc := bif Nat.beq f 138 then J7d ds else .no
def Jdg (b : Int) : Ann := .two (.none) (.two (.none) (.two (.two (.none) (.loop (cut2 (fun (out : ZI) (x : Int) => J1s b out x) (fun (out : ZI) (x : Int) => [(0, .d false (.int .u64 b)), (3, .own 1000000 out.length), (4, .d true (.int .i64 x))]) (fun (out : ZI) (x : Int) => [(1000000, .arr true 3 (.ints out))])) (fun g => J0j b g.1 g.2) (fun _ => .none))) (.none)))
def J8j (b : Int) : Prop :=
  ((∃ out' : ZI, ∃ x' : Int, (J1s b out' x') ∧ (b = b) ∧ ((0 : Nat) = out'.length) ∧ ((0 : Int) = x') ∧ ([] = out')) ∧ (∀ out : ZI, ∀ x : Int, (J1s b out x) → ((0 : Int) ≤ b ∧ (b : Int) ≤ 18446744073709551615) ∧ ((0 : Int) ≤ x) ∧ (((decide ((b / 2 ^ x.toNat) > 0)) = true → (PC Tryz.prog 138 [.int .u64 b, .int .i64 x] (.one (.d (.bool (b.toNat.testBit x.toNat))))) ∧ (((b.toNat.testBit x.toNat) = true → (out.length = out.length) ∧ ((1 : Nat) = 1) ∧ ((out.length + 1) * 8 ≤ 140737488355328) ∧ (I6 (x + 1)) ∧ (∃ out' : ZI, ∃ x' : Int, (J1s b out' x') ∧ (J0j b out' x' < J0j b out x) ∧ (b = b) ∧ ((out.length + 1) = out'.length) ∧ ((x + 1) = x') ∧ ((out ++ [x]) = out'))) ∧ ((b.toNat.testBit x.toNat) = false → (I6 (x + 1)) ∧ (∃ out' : ZI, ∃ x' : Int, (J1s b out' x') ∧ (J0j b out' x' < J0j b out x) ∧ (b = b) ∧ (out.length = out'.length) ∧ ((x + 1) = x') ∧ (out = out'))))) ∧ ((decide ((b / 2 ^ x.toNat) > 0)) = false → ((out.length = out.length) ∧ ((out : ZI) = members (fun k => b.toNat.testBit k) 62))))))
theorem Jcz (b : Int) (hb : 0 ≤ b ∧ b ≤ 4611686018427387903)  : J8j b := by
  unfold J8j
  refine ⟨?_, ?_⟩
  ·refine ⟨([]), 0, ?_⟩
   refine ⟨?_, rfl, rfl, rfl, ?_⟩
   ·refine ⟨?_, ?_, ?_⟩
    ·omega
    ·omega
    ·rfl
   rfl
  intro out x hJ
  obtain ⟨h1, h2, h3⟩ := hJ
  refine ⟨?_, ?_, ?_, ?_⟩
  ·omega
  ·omega
  ·intro b1
   try simp only [nrmT] at b1
   refine ⟨?_, ?_, ?_⟩
   ·refine J7F b x ?_ ?_
    ·omega
    ·omega
   ·intro b2
    try simp only [nrmT] at b2
    refine ⟨rfl, rfl, ?_, ?_, ?_⟩
    ·rw [h3]; have := members_len_le (fun k => b.toNat.testBit k) x.toNat; omega
    ·omega
    refine ⟨(out ++ [x]), (x + 1), ?_⟩
    refine ⟨?_, ?_, rfl, ?_, rfl, rfl⟩
    ·refine ⟨?_, ?_, ?_⟩
     ·omega
     ·have := J7E hb h2 b1; omega
     ·rw [h3, show (x + 1).toNat = x.toNat + 1 by omega, members_succ, b2]; simp; try omega
    ·have := J7E hb h2 b1
     (simp only [J0j]; omega)
    (simp_all; done)
   intro b3
   try simp only [nrmT] at b3
   refine ⟨?_, ?_⟩
   ·omega
   refine ⟨out, (x + 1), ?_⟩
   refine ⟨?_, ?_, rfl, rfl, rfl, rfl⟩
   ·refine ⟨?_, ?_, ?_⟩
    ·omega
    ·have := J7E hb h2 b1; omega
    ·rw [h3, show (x + 1).toNat = x.toNat + 1 by omega, members_succ, b3]; simp; try omega
   have := J7E hb h2 b1
   (simp only [J0j]; omega)
  intro b4
  try simp only [nrmT] at b4
  refine ⟨rfl, ?_⟩
  ·rw [h3]; refine (J1v (fun k hk => Jei hb.1 (m := x.toNat) (by omega) k hk) 62 (by omega)).symm
theorem J53 (b : Int) (hb : 0 ≤ b ∧ b ≤ 4611686018427387903) : PC Tryz.prog 139 [.int .u64 b] (.one (.own 3 (.ints (members (fun k => b.toNat.testBit k) 62)))) :=
  pc_wf @Tryz.call139 fun _ => pc_by (by kernel_rfl) Tryz.func139 @Tryz.call139 (by kernel_rfl) JcR (Jdg b) (by kernel_rfl) (Jcz b hb) (by kernel_rfl)
def J6s : List D → Orc := orcN [none] fun ds => match ds with
  | [.int .u64 b] => some (.one (.own 3 (.ints (members (fun k => b.toNat.testBit k) 62))))
  | _ => none
def J3c (row set : ZI) (b : Int) (k : Nat) : Int := if row.getD (set.getD k 0).toNat 0 < row.getD b.toNat 0 then set.getD k 0 else b
def Jh (row set : ZI) (k : Nat) : Int := foldTo (J3c row set) (set.getD 0 0) k
theorem JeM (row set : ZI) : Jh row set 1 = set.getD 0 0 := by
  show J3c row set (set.getD 0 0) 0 = _
  unfold J3c; split <;> rfl
theorem J0M (row set : ZI) (k : Nat) : Jh row set (k + 1) = J3c row set (Jh row set k) k := rfl
theorem J26 {row set : ZI} {n : Int} (h : ∀ k, k < set.length → 0 ≤ set.getD k 0 ∧ set.getD k 0 < n) (hp : 0 < set.length) : ∀ k, k ≤ set.length → 0 ≤ Jh row set k ∧ Jh row set k < n
  | 0, _ => h 0 hp
  | k + 1, hk => by
    rw [J0M]
    unfold J3c
    split
    · exact h k (by omega)
    exact J26 h hp k (by omega)
abbrev J28 (U : ZI) (E : ZR) (client : Int) (set : ZI) (best : Int) (k : Int) : Prop := (1 ≤ k) ∧ (k ≤ (set.length : Int)) ∧ (best = Jh (E.getD client.toNat []) set k.toNat)
abbrev J0P (U : ZI) (E : ZR) (client : Int) (set : ZI) (best : Int) (k : Int) : Nat := (set.length - k).toNat
def JeF (f : FuncId) (ds : List D) : Orc := .no
def Jfj (U : ZI) (E : ZR) (client : Int) (set : ZI) : Ann := .two (.none) (.two (.none) (.two (.two (.none) (.loop (cut2 (fun (best : Int) (k : Int) => J28 U E client set best k) (fun (best : Int) (k : Int) => [(1, .d false (.int .i64 client)), (2, .d false (.sl (.ints set))), (3, .ptr 3 0), (7, .d true (.int .i64 best)), (8, .d true (.int .i64 k))]) (fun (best : Int) (k : Int) => [(3, .box 27 [.d false (.sl (.ints U)), .d false (.sl (.rows E))])])) (fun g => J0P U E client set g.1 g.2) (fun _ => .none))) (.none)))
def JaA (U : ZI) (E : ZR) (client : Int) (set : ZI) : Prop :=
  ((0 : Int) ≤ 0) ∧ ((0 : Int) < set.length) ∧ (0 < set.length) ∧ ((∃ best' : Int, ∃ k' : Int, (J28 U E client set best' k') ∧ (client = client) ∧ (set = set) ∧ ((set.getD 0 0) = best') ∧ ((1 : Int) = k') ∧ (U = U) ∧ (E = E)) ∧ (∀ best : Int, ∀ k : Int, (J28 U E client set best k) → (((decide (k < (set.length : Int))) = true → (true = true) ∧ ((0 : Int) ≤ client) ∧ ((client : Int) < E.length) ∧ (client.toNat < E.length) ∧ ((0 : Int) ≤ k) ∧ ((k : Int) < set.length) ∧ (k.toNat < set.length) ∧ ((0 : Int) ≤ (set.getD k.toNat 0)) ∧ (((set.getD k.toNat 0) : Int) < (E.getD client.toNat []).length) ∧ ((set.getD k.toNat 0).toNat < (E.getD client.toNat []).length) ∧ ((0 : Int) ≤ client) ∧ ((client : Int) < E.length) ∧ (client.toNat < E.length) ∧ ((0 : Int) ≤ best) ∧ ((best : Int) < (E.getD client.toNat []).length) ∧ (best.toNat < (E.getD client.toNat []).length) ∧ (((decide (((E.getD client.toNat []).getD ((set.getD k.toNat 0).toNat) 0) < ((E.getD client.toNat []).getD best.toNat 0))) = true → ((0 : Int) ≤ k) ∧ ((k : Int) < set.length) ∧ (k.toNat < set.length) ∧ (I6 (k + 1)) ∧ (∃ best' : Int, ∃ k' : Int, (J28 U E client set best' k') ∧ (J0P U E client set best' k' < J0P U E client set best k) ∧ (client = client) ∧ (set = set) ∧ ((set.getD k.toNat 0) = best') ∧ ((k + 1) = k') ∧ (U = U) ∧ (E = E))) ∧ ((decide (((E.getD client.toNat []).getD ((set.getD k.toNat 0).toNat) 0) < ((E.getD client.toNat []).getD best.toNat 0))) = false → (I6 (k + 1)) ∧ (∃ best' : Int, ∃ k' : Int, (J28 U E client set best' k') ∧ (J0P U E client set best' k' < J0P U E client set best k) ∧ (client = client) ∧ (set = set) ∧ (best = best') ∧ ((k + 1) = k') ∧ (U = U) ∧ (E = E))))) ∧ ((decide (k < (set.length : Int))) = false → ((best = (Jh (E.getD client.toNat []) set set.length)))))))
theorem JdV (U : ZI) (E : ZR) (client : Int) (set : ZI) (ht : (J0 U E && J2 set 0 ((U.length : Int) - 1) && decide (0 < set.length)) = true) (hc : 0 ≤ client ∧ client < (E.length : Int)) (w_Open : (U.length : Int) ≤ 9223372036854775807) (w_Dist : (E.length : Int) ≤ 9223372036854775807) (v_Dist : ∀ x9 ∈ E, (x9.length : Int) ≤ 9223372036854775807) (w_set : (set.length : Int) ≤ 9223372036854775807) : JaA U E client set := by
  unfold JaA
  obtain ⟨hg, hs, hp⟩ := J1h ht
  obtain ⟨g1, g2, g3⟩ := Jb hg
  have cs := fun k => J2d hs k
  obtain ⟨rl, rb⟩ := Je (i := client.toNat) hg (by omega)
  have si := J26 (row := E.getD client.toNat []) (set := set) (n := (U.length : Int)) (fun k hk => by have := cs k hk; omega) hp
  refine ⟨?_, ?_, ?_, ?_, ?_⟩
  ·omega
  ·omega
  ·omega
  ·refine ⟨(set.getD 0 0), 1, ?_⟩
   refine ⟨?_, rfl, rfl, rfl, rfl, rfl, rfl⟩
   ·refine ⟨?_, ?_, ?_⟩
    ·omega
    ·omega
    ·exact (JeM _ _).symm
  intro best k hJ
  obtain ⟨h1, h2, h3⟩ := hJ
  refine ⟨?_, ?_⟩
  ·intro b1
   try simp only [nrmT] at b1
   refine ⟨rfl, ?_, ?_, ?_, ?_, ?_, ?_, ?_, ?_, ?_, ?_, ?_, ?_, ?_, ?_, ?_, ?_, ?_⟩
   ·omega
   ·omega
   ·omega
   ·omega
   ·omega
   ·omega
   ·have := cs k.toNat (by omega)
    omega
   ·have := cs k.toNat (by omega)
    omega
   ·have := cs k.toNat (by omega)
    omega
   ·omega
   ·omega
   ·omega
   ·have := si k.toNat (by omega)
    omega
   ·have := si k.toNat (by omega)
    omega
   ·have := si k.toNat (by omega)
    omega
   ·intro b2
    try simp only [nrmT] at b2
    refine ⟨?_, ?_, ?_, ?_, ?_⟩
    ·omega
    ·omega
    ·omega
    ·omega
    refine ⟨(set.getD k.toNat 0), (k + 1), ?_⟩
    refine ⟨?_, ?_, rfl, rfl, rfl, rfl, rfl, rfl⟩
    ·refine ⟨?_, ?_, ?_⟩
     ·omega
     ·omega
     ·rw [show (k + 1).toNat = k.toNat + 1 by omega, J0M, ← h3]; unfold J3c; rw [if_pos b2]
    (simp only [J0P]; omega)
   intro b3
   try simp only [nrmT] at b3
   refine ⟨?_, ?_⟩
   ·omega
   refine ⟨best, (k + 1), ?_⟩
   refine ⟨?_, ?_, rfl, rfl, rfl, rfl, rfl, rfl⟩
   ·refine ⟨?_, ?_, ?_⟩
    ·omega
    ·omega
    ·rw [show (k + 1).toNat = k.toNat + 1 by omega, J0M, ← h3]; unfold J3c; rw [if_neg (by omega)]
   (simp only [J0P]; omega)
  intro b4
  try simp only [nrmT] at b4
  rw [h3, show k.toNat = set.length by omega]
theorem J91 (U : ZI) (E : ZR) (client : Int) (set : ZI) (ht : (J0 U E && J2 set 0 ((U.length : Int) - 1) && decide (0 < set.length)) = true) (hc : 0 ≤ client ∧ client < (E.length : Int)) : PC Tryz.prog 153 [.agg [.sl (.ints U), .sl (.rows E)], .int .i64 client, .sl (.ints set)] (.one (.d (.int .i64 (Jh (E.getD client.toNat []) set set.length)))) :=
  pc_wf @Tryz.call153 fun hw => pc_by (by kernel_rfl) Tryz.func153 @Tryz.call153 (by kernel_rfl) JeF (Jfj U E client set) (by kernel_rfl) (JdV U E client set ht hc hw.1.1 hw.1.2.1.1 hw.1.2.1.2 hw.2.2.1) (by kernel_rfl)
def J82 : List D → Orc := orcN [none, none, some .ints] fun ds => match ds with
  | [.agg [.sl (.ints U), .sl (.rows E)], .int .i64 client, .sl (.ints set)] => some (.one (.d (.int .i64 (Jh (E.getD client.toNat []) set set.length))))
  | _ => none
abbrev J0n (U : ZI) (E : ZR) (client : Int) (set : ZI) (best : Int) (k : Int) : Prop := (0 ≤ k) ∧ (k ≤ (set.length : Int)) ∧ (best = Jh (E.getD client.toNat []) set k.toNat)
abbrev JN (U : ZI) (E : ZR) (client : Int) (set : ZI) (best : Int) (k : Int) : Nat := (set.length - k).toNat
def J9v (f : FuncId) (ds : List D) : Orc := .no
def J9q (U : ZI) (E : ZR) (client : Int) (set : ZI) : Ann := .two (.none) (.two (.none) (.two (.two (.none) (.loop (cut2 (fun (best : Int) (k : Int) => J0n U E client set best k) (fun (best : Int) (k : Int) => [(1, .d false (.int .i64 client)), (3, .ptr 3 0), (7, .d true (.int .i64 best)), (13, .d false (.sl (.ints set))), (14, .d true (.int .i64 (set.length : Int))), (15, .d true (.int .i64 k))]) (fun (best : Int) (k : Int) => [(3, .box 27 [.d false (.sl (.ints U)), .d false (.sl (.rows E))])])) (fun g => JN U E client set g.1 g.2) (fun _ => .none))) (.none)))
def J5L (U : ZI) (E : ZR) (client : Int) (set : ZI) : Prop :=
  ((0 : Int) ≤ 0) ∧ ((0 : Int) < set.length) ∧ (0 < set.length) ∧ ((∃ best' : Int, ∃ k' : Int, (J0n U E client set best' k') ∧ (client = client) ∧ ((set.getD 0 0) = best') ∧ (set = set) ∧ ((set.length : Int) = (set.length : Int)) ∧ ((0 : Int) = k') ∧ (U = U) ∧ (E = E)) ∧ (∀ best : Int, ∀ k : Int, (J0n U E client set best k) → (((decide (k < (set.length : Int))) = true → ((0 : Int) ≤ k) ∧ ((k : Int) < set.length) ∧ (k.toNat < set.length) ∧ (true = true) ∧ ((0 : Int) ≤ client) ∧ ((client : Int) < E.length) ∧ (client.toNat < E.length) ∧ ((0 : Int) ≤ (set.getD k.toNat 0)) ∧ (((set.getD k.toNat 0) : Int) < (E.getD client.toNat []).length) ∧ ((set.getD k.toNat 0).toNat < (E.getD client.toNat []).length) ∧ ((0 : Int) ≤ client) ∧ ((client : Int) < E.length) ∧ (client.toNat < E.length) ∧ ((0 : Int) ≤ best) ∧ ((best : Int) < (E.getD client.toNat []).length) ∧ (best.toNat < (E.getD client.toNat []).length) ∧ (((decide (((E.getD client.toNat []).getD ((set.getD k.toNat 0).toNat) 0) < ((E.getD client.toNat []).getD best.toNat 0))) = true → (I6 (k + 1)) ∧ (∃ best' : Int, ∃ k' : Int, (J0n U E client set best' k') ∧ (JN U E client set best' k' < JN U E client set best k) ∧ (client = client) ∧ ((set.getD k.toNat 0) = best') ∧ (set = set) ∧ ((set.length : Int) = (set.length : Int)) ∧ ((k + 1) = k') ∧ (U = U) ∧ (E = E))) ∧ ((decide (((E.getD client.toNat []).getD ((set.getD k.toNat 0).toNat) 0) < ((E.getD client.toNat []).getD best.toNat 0))) = false → (I6 (k + 1)) ∧ (∃ best' : Int, ∃ k' : Int, (J0n U E client set best' k') ∧ (JN U E client set best' k' < JN U E client set best k) ∧ (client = client) ∧ (best = best') ∧ (set = set) ∧ ((set.length : Int) = (set.length : Int)) ∧ ((k + 1) = k') ∧ (U = U) ∧ (E = E))))) ∧ ((decide (k < (set.length : Int))) = false → ((best = (Jh (E.getD client.toNat []) set set.length)))))))
theorem J8p (U : ZI) (E : ZR) (client : Int) (set : ZI) (ht : (J0 U E && J2 set 0 ((U.length : Int) - 1) && decide (0 < set.length)) = true) (hc : 0 ≤ client ∧ client < (E.length : Int)) (w_Open : (U.length : Int) ≤ 9223372036854775807) (w_Dist : (E.length : Int) ≤ 9223372036854775807) (v_Dist : ∀ x9 ∈ E, (x9.length : Int) ≤ 9223372036854775807) (w_set : (set.length : Int) ≤ 9223372036854775807) : J5L U E client set := by
  unfold J5L
  obtain ⟨hg, hs, hp⟩ := J1h ht
  obtain ⟨g1, g2, g3⟩ := Jb hg
  have cs := fun k => J2d hs k
  obtain ⟨rl, rb⟩ := Je (i := client.toNat) hg (by omega)
  have si := J26 (row := E.getD client.toNat []) (set := set) (n := (U.length : Int)) (fun k hk => by have := cs k hk; omega) hp
  refine ⟨?_, ?_, ?_, ?_, ?_⟩
  ·omega
  ·omega
  ·omega
  ·refine ⟨(set.getD 0 0), 0, ?_⟩
   refine ⟨?_, rfl, rfl, rfl, rfl, rfl, rfl, rfl⟩
   ·refine ⟨?_, ?_, ?_⟩
    ·omega
    ·omega
    ·rfl
  intro best k hJ
  obtain ⟨h1, h2, h3⟩ := hJ
  refine ⟨?_, ?_⟩
  ·intro b1
   try simp only [nrmT] at b1
   refine ⟨?_, ?_, ?_, rfl, ?_, ?_, ?_, ?_, ?_, ?_, ?_, ?_, ?_, ?_, ?_, ?_, ?_, ?_⟩
   ·omega
   ·omega
   ·omega
   ·omega
   ·omega
   ·omega
   ·have := cs k.toNat (by omega)
    omega
   ·have := cs k.toNat (by omega)
    omega
   ·have := cs k.toNat (by omega)
    omega
   ·omega
   ·omega
   ·omega
   ·have := si k.toNat (by omega)
    omega
   ·have := si k.toNat (by omega)
    omega
   ·have := si k.toNat (by omega)
    omega
   ·intro b2
    try simp only [nrmT] at b2
    refine ⟨?_, ?_⟩
    ·omega
    refine ⟨(set.getD k.toNat 0), (k + 1), ?_⟩
    refine ⟨?_, ?_, rfl, rfl, rfl, rfl, rfl, rfl, rfl⟩
    ·refine ⟨?_, ?_, ?_⟩
     ·omega
     ·omega
     ·rw [show (k + 1).toNat = k.toNat + 1 by omega, J0M, ← h3]; unfold J3c; rw [if_pos b2]
    (simp only [JN]; omega)
   intro b3
   try simp only [nrmT] at b3
   refine ⟨?_, ?_⟩
   ·omega
   refine ⟨best, (k + 1), ?_⟩
   refine ⟨?_, ?_, rfl, rfl, rfl, rfl, rfl, rfl, rfl⟩
   ·refine ⟨?_, ?_, ?_⟩
    ·omega
    ·omega
    ·rw [show (k + 1).toNat = k.toNat + 1 by omega, J0M, ← h3]; unfold J3c; rw [if_neg (by omega)]
   (simp only [JN]; omega)
  intro b4
  try simp only [nrmT] at b4
  rw [h3, show k.toNat = set.length by omega]
theorem J8t (U : ZI) (E : ZR) (client : Int) (set : ZI) (ht : (J0 U E && J2 set 0 ((U.length : Int) - 1) && decide (0 < set.length)) = true) (hc : 0 ≤ client ∧ client < (E.length : Int)) : PC Tryz.prog 212 [.agg [.sl (.ints U), .sl (.rows E)], .int .i64 client, .sl (.ints set)] (.one (.d (.int .i64 (Jh (E.getD client.toNat []) set set.length)))) :=
  pc_wf @Tryz.call212 fun hw => pc_by (by kernel_rfl) Tryz.func212 @Tryz.call212 (by kernel_rfl) J9v (J9q U E client set) (by kernel_rfl) (J8p U E client set ht hc hw.1.1 hw.1.2.1.1 hw.1.2.1.2 hw.2.2.1) (by kernel_rfl)
def J7N : List D → Orc := orcN [none, none, some .ints] fun ds => match ds with
  | [.agg [.sl (.ints U), .sl (.rows E)], .int .i64 client, .sl (.ints set)] => some (.one (.d (.int .i64 (Jh (E.getD client.toNat []) set set.length))))
  | _ => none
def Jck (f : FuncId) (ds : List D) : Orc := bif Nat.beq f 153 then J82 ds else .no
def Jcw (U : ZI) (E : ZR) (client : Int) (set : ZI) : Ann := .none
def J7f (U : ZI) (E : ZR) (client : Int) (set : ZI) : Prop :=
  (true = true) ∧ ((0 : Int) ≤ client) ∧ ((client : Int) < E.length) ∧ (client.toNat < E.length) ∧ (PC Tryz.prog 153 [.agg [.sl (.ints U), .sl (.rows E)], .int .i64 client, .sl (.ints set)] (.one (.d (.int .i64 (Jh (E.getD client.toNat []) set set.length))))) ∧ ((0 : Int) ≤ (Jh (E.getD client.toNat []) set set.length)) ∧ (((Jh (E.getD client.toNat []) set set.length) : Int) < (E.getD client.toNat []).length) ∧ ((Jh (E.getD client.toNat []) set set.length).toNat < (E.getD client.toNat []).length) ∧ ((((E.getD client.toNat []).getD ((Jh (E.getD client.toNat []) set set.length).toNat) 0) = ((E.getD client.toNat []).getD (Jh (E.getD client.toNat []) set set.length).toNat 0)))
theorem Jbq (U : ZI) (E : ZR) (client : Int) (set : ZI) (ht : (J0 U E && J2 set 0 ((U.length : Int) - 1) && decide (0 < set.length)) = true) (hc : 0 ≤ client ∧ client < (E.length : Int)) (w_Open : (U.length : Int) ≤ 9223372036854775807) (w_Dist : (E.length : Int) ≤ 9223372036854775807) (v_Dist : ∀ x9 ∈ E, (x9.length : Int) ≤ 9223372036854775807) (w_set : (set.length : Int) ≤ 9223372036854775807) : J7f U E client set := by
  unfold J7f
  obtain ⟨hg, hs, hp⟩ := J1h ht
  obtain ⟨g1, g2, g3⟩ := Jb hg
  have cs := fun k => J2d hs k
  obtain ⟨rl, rb⟩ := Je (i := client.toNat) hg (by omega)
  have si := J26 (row := E.getD client.toNat []) (set := set) (n := (U.length : Int)) (fun k hk => by have := cs k hk; omega) hp
  have sl := si set.length (Nat.le_refl _)
  refine ⟨rfl, ?_, ?_, ?_, ?_, ?_, ?_, ?_, ?_⟩
  ·omega
  ·omega
  ·omega
  ·refine J91 U E client set ?_ ?_
   ·omega
   ·omega
  ·omega
  ·omega
  ·omega
  omega
theorem JaZ (U : ZI) (E : ZR) (client : Int) (set : ZI) (ht : (J0 U E && J2 set 0 ((U.length : Int) - 1) && decide (0 < set.length)) = true) (hc : 0 ≤ client ∧ client < (E.length : Int)) : PC Tryz.prog 150 [.agg [.sl (.ints U), .sl (.rows E)], .int .i64 client, .sl (.ints set)] (.one (.d (.int .i64 ((E.getD client.toNat []).getD (Jh (E.getD client.toNat []) set set.length).toNat 0)))) :=
  pc_wf @Tryz.call150 fun hw => pc_by (by kernel_rfl) Tryz.func150 @Tryz.call150 (by kernel_rfl) Jck (Jcw U E client set) (by kernel_rfl) (Jbq U E client set ht hc hw.1.1 hw.1.2.1.1 hw.1.2.1.2 hw.2.2.1) (by kernel_rfl)
def Jak : List D → Orc := orcN [none, none, some .ints] fun ds => match ds with
  | [.agg [.sl (.ints U), .sl (.rows E)], .int .i64 client, .sl (.ints set)] => some (.one (.d (.int .i64 ((E.getD client.toNat []).getD (Jh (E.getD client.toNat []) set set.length).toNat 0))))
  | _ => none
def Ju (E : ZR) (set : ZI) (n : Nat) : ZI := (List.range n).map fun i => Jh (E.getD i []) set set.length
def J0D (E : ZR) (set : ZI) (i : Nat) : Int := (E.getD i []).getD (Jh (E.getD i []) set set.length).toNat 0
def JJ (E : ZR) (set : ZI) (n : Nat) : ZI := (List.range n).map (J0D E set)
theorem JbR (E : ZR) (set : ZI) (n : Nat) : (Ju E set n).length = n := by simp [Ju]
theorem J3v (E : ZR) (set : ZI) (n : Nat) : (JJ E set n).length = n := by simp [JJ]
theorem J5f (E : ZR) (set : ZI) (n i : Nat) (h : i < n) : (Ju E set n).getD i 0 = Jh (E.getD i []) set set.length := by simp [Ju, h]
theorem JeI (E : ZR) (set : ZI) (n i : Nat) (h : i < n) : (JJ E set n).getD i 0 = J0D E set i := by simp [JJ, h]
theorem Jfn (E : ZR) (set : ZI) (n : Nat) : Ju E set (n + 1) = Ju E set n ++ [Jh (E.getD n []) set set.length] := by simp [Ju, List.range_succ]
theorem Jey (E : ZR) (set : ZI) (n : Nat) : JJ E set (n + 1) = JJ E set n ++ [J0D E set n] := by simp [JJ, List.range_succ]
abbrev J1i (U : ZI) (E : ZR) (set : ZI) (out : ZI) (i : Int) : Prop := (0 ≤ i) ∧ (i ≤ (E.length : Int)) ∧ (out = Ju E set i.toNat)
abbrev J1e (U : ZI) (E : ZR) (set : ZI) (out : ZI) (i : Int) : Nat := (E.length - i).toNat
def J9y (f : FuncId) (ds : List D) : Orc := bif Nat.beq f 212 then J7N ds else .no
def J9J (U : ZI) (E : ZR) (set : ZI) : Ann := .two (.none) (.two (.none) (.two (.two (.none) (.loop (cut2 (fun (out : ZI) (i : Int) => J1i U E set out i) (fun (out : ZI) (i : Int) => [(1, .d false (.sl (.ints set))), (2, .ptr 2 0), (5, .own 1000000 out.length), (10, .d true (.int .i64 (E.length : Int))), (11, .d true (.int .i64 i))]) (fun (out : ZI) (i : Int) => [(1000000, .arr true 3 (.ints out)), (2, .box 27 [.d false (.sl (.ints U)), .d false (.sl (.rows E))])])) (fun g => J1e U E set g.1 g.2) (fun _ => .none))) (.none)))
def J5z (U : ZI) (E : ZR) (set : ZI) : Prop :=
  ((∃ out' : ZI, ∃ i' : Int, (J1i U E set out' i') ∧ (set = set) ∧ ((0 : Nat) = out'.length) ∧ ((E.length : Int) = (E.length : Int)) ∧ ((0 : Int) = i') ∧ ([] = out') ∧ (U = U) ∧ (E = E)) ∧ (∀ out : ZI, ∀ i : Int, (J1i U E set out i) → (((decide (i < (E.length : Int))) = true → (PC Tryz.prog 212 [.agg [.sl (.ints U), .sl (.rows E)], .int .i64 i, .sl (.ints set)] (.one (.d (.int .i64 (Jh (E.getD i.toNat []) set set.length))))) ∧ (out.length = out.length) ∧ ((1 : Nat) = 1) ∧ ((out.length + 1) * 8 ≤ 140737488355328) ∧ (I6 (i + 1)) ∧ (∃ out' : ZI, ∃ i' : Int, (J1i U E set out' i') ∧ (J1e U E set out' i' < J1e U E set out i) ∧ (set = set) ∧ ((out.length + 1) = out'.length) ∧ ((E.length : Int) = (E.length : Int)) ∧ ((i + 1) = i') ∧ ((out ++ [(Jh (E.getD i.toNat []) set set.length)]) = out') ∧ (U = U) ∧ (E = E))) ∧ ((decide (i < (E.length : Int))) = false → ((out.length = out.length) ∧ ((out : ZI) = Ju E set E.length))))))
theorem J8s (U : ZI) (E : ZR) (set : ZI) (ht : (J0 U E && J2 set 0 ((U.length : Int) - 1) && decide (0 < set.length)) = true) (w_Open : (U.length : Int) ≤ 9223372036854775807) (w_Dist : (E.length : Int) ≤ 9223372036854775807) (v_Dist : ∀ x9 ∈ E, (x9.length : Int) ≤ 9223372036854775807) (w_set : (set.length : Int) ≤ 9223372036854775807) : J5z U E set := by
  unfold J5z
  obtain ⟨hg, hs, hp⟩ := J1h ht
  obtain ⟨g1, g2, g3⟩ := Jb hg
  have cs := fun k => J2d hs k
  have si := fun (i : Nat) (hi : i < E.length) => J26 (row := E.getD i []) (set := set) (n := (U.length : Int)) (fun k hk => by have := cs k hk; omega) hp set.length (Nat.le_refl _)
  refine ⟨?_, ?_⟩
  ·refine ⟨([]), 0, ?_⟩
   refine ⟨?_, rfl, rfl, rfl, rfl, ?_, rfl, rfl⟩
   ·refine ⟨?_, ?_, ?_⟩
    ·omega
    ·omega
    ·rfl
   rfl
  intro out i hJ
  obtain ⟨h1, h2, h3⟩ := hJ
  refine ⟨?_, ?_⟩
  ·intro b1
   try simp only [nrmT] at b1
   refine ⟨?_, rfl, rfl, ?_, ?_, ?_⟩
   ·refine J8t U E i set ?_ ?_
    ·omega
    ·omega
   ·rw [h3, JbR]; omega
   ·omega
   refine ⟨(out ++ [(Jh (E.getD i.toNat []) set set.length)]), (i + 1), ?_⟩
   refine ⟨?_, ?_, rfl, ?_, rfl, rfl, rfl, rfl, rfl⟩
   ·refine ⟨?_, ?_, ?_⟩
    ·omega
    ·omega
    ·rw [h3, show (i + 1).toNat = i.toNat + 1 by omega, Jfn]
   ·(simp only [J1e]; omega)
   (simp_all; done)
  intro b2
  try simp only [nrmT] at b2
  refine ⟨rfl, ?_⟩
  ·rw [h3, show i.toNat = E.length by omega]
theorem J8n (U : ZI) (E : ZR) (set : ZI) (ht : (J0 U E && J2 set 0 ((U.length : Int) - 1) && decide (0 < set.length)) = true) : PC Tryz.prog 151 [.agg [.sl (.ints U), .sl (.rows E)], .sl (.ints set)] (.one (.own 3 (.ints (Ju E set E.length)))) :=
  pc_wf @Tryz.call151 fun hw => pc_by (by kernel_rfl) Tryz.func151 @Tryz.call151 (by kernel_rfl) J9y (J9J U E set) (by kernel_rfl) (J8s U E set ht hw.1.1 hw.1.2.1.1 hw.1.2.1.2 hw.2.1) (by kernel_rfl)
def J7K : List D → Orc := orcN [none, some .ints] fun ds => match ds with
  | [.agg [.sl (.ints U), .sl (.rows E)], .sl (.ints set)] => some (.one (.own 3 (.ints (Ju E set E.length))))
  | _ => none
abbrev J11 (U : ZI) (E : ZR) (set : ZI) (out : ZI) (i : Int) : Prop := (0 ≤ i) ∧ (i ≤ (E.length : Int)) ∧ (out = JJ E set i.toNat)
abbrev J13 (U : ZI) (E : ZR) (set : ZI) (out : ZI) (i : Int) : Nat := (E.length - i).toNat
def J8I (f : FuncId) (ds : List D) : Orc := bif Nat.beq f 151 then J7K ds else .no
def J8q (U : ZI) (E : ZR) (set : ZI) : Ann := .two (.none) (.two (.none) (.two (.two (.none) (.loop (cut2 (fun (out : ZI) (i : Int) => J11 U E set out i) (fun (out : ZI) (i : Int) => [(2, .ptr 2 0), (5, .own 1000000 out.length), (11, .own 11 ((Ju E set E.length).length)), (12, .d true (.int .i64 (((Ju E set E.length).length) : Int))), (13, .d true (.int .i64 i))]) (fun (out : ZI) (i : Int) => [(1000000, .arr true 3 (.ints out)), (2, .box 27 [.d false (.sl (.ints U)), .d false (.sl (.rows E))]), (11, .arr true 3 (.ints (Ju E set E.length)))])) (fun g => J13 U E set g.1 g.2) (fun _ => .none))) (.none)))
def J59 (U : ZI) (E : ZR) (set : ZI) : Prop :=
  (PC Tryz.prog 151 [.agg [.sl (.ints U), .sl (.rows E)], .sl (.ints set)] (.one (.own 3 (.ints (Ju E set E.length))))) ∧ ((∃ out' : ZI, ∃ i' : Int, (J11 U E set out' i') ∧ ((0 : Nat) = out'.length) ∧ ((Ju E set E.length).length = (Ju E set E.length).length) ∧ ((((Ju E set E.length).length) : Int) = (((Ju E set E.length).length) : Int)) ∧ ((0 : Int) = i') ∧ ([] = out') ∧ (U = U) ∧ (E = E) ∧ (Ju E set E.length = Ju E set E.length)) ∧ (∀ out : ZI, ∀ i : Int, (J11 U E set out i) → (((decide (i < (((Ju E set E.length).length) : Int))) = true → ((0 : Int) ≤ i) ∧ ((i : Int) < (((Ju E set E.length).length) : Int)) ∧ (i.toNat < (Ju E set E.length).length) ∧ ((0 : Int) ≤ i) ∧ ((i : Int) < E.length) ∧ (i.toNat < E.length) ∧ ((0 : Int) ≤ ((Ju E set E.length).getD i.toNat 0)) ∧ ((((Ju E set E.length).getD i.toNat 0) : Int) < (E.getD i.toNat []).length) ∧ (((Ju E set E.length).getD i.toNat 0).toNat < (E.getD i.toNat []).length) ∧ (out.length = out.length) ∧ ((1 : Nat) = 1) ∧ ((out.length + 1) * 8 ≤ 140737488355328) ∧ (I6 (i + 1)) ∧ (∃ out' : ZI, ∃ i' : Int, (J11 U E set out' i') ∧ (J13 U E set out' i' < J13 U E set out i) ∧ ((out.length + 1) = out'.length) ∧ ((Ju E set E.length).length = (Ju E set E.length).length) ∧ ((((Ju E set E.length).length) : Int) = (((Ju E set E.length).length) : Int)) ∧ ((i + 1) = i') ∧ ((out ++ [((E.getD i.toNat []).getD (((Ju E set E.length).getD i.toNat 0).toNat) 0)]) = out') ∧ (U = U) ∧ (E = E) ∧ (Ju E set E.length = Ju E set E.length))) ∧ ((decide (i < (((Ju E set E.length).length) : Int))) = false → ((out.length = out.length) ∧ ((out : ZI) = JJ E set E.length))))))
theorem J7B (U : ZI) (E : ZR) (set : ZI) (ht : (J0 U E && J2 set 0 ((U.length : Int) - 1) && decide (0 < set.length)) = true) (w_Open : (U.length : Int) ≤ 9223372036854775807) (w_Dist : (E.length : Int) ≤ 9223372036854775807) (v_Dist : ∀ x9 ∈ E, (x9.length : Int) ≤ 9223372036854775807) (w_set : (set.length : Int) ≤ 9223372036854775807) : J59 U E set := by
  unfold J59
  obtain ⟨hg, hs, hp⟩ := J1h ht
  obtain ⟨g1, g2, g3⟩ := Jb hg
  have cs := fun k => J2d hs k
  have si := fun (i : Nat) (hi : i < E.length) => J26 (row := E.getD i []) (set := set) (n := (U.length : Int)) (fun k hk => by have := cs k hk; omega) hp set.length (Nat.le_refl _)
  have e0 := JbR E set E.length
  refine ⟨?_, ?_, ?_⟩
  ·refine J8n U E set ?_
   ·omega
  ·refine ⟨([]), 0, ?_⟩
   refine ⟨?_, rfl, rfl, rfl, rfl, ?_, rfl, rfl, rfl⟩
   ·refine ⟨?_, ?_, ?_⟩
    ·omega
    ·omega
    ·rfl
   rfl
  intro out i hJ
  obtain ⟨h1, h2, h3⟩ := hJ
  refine ⟨?_, ?_⟩
  ·intro b1
   try simp only [nrmT] at b1
   refine ⟨?_, ?_, ?_, ?_, ?_, ?_, ?_, ?_, ?_, rfl, rfl, ?_, ?_, ?_⟩
   ·omega
   ·omega
   ·omega
   ·omega
   ·omega
   ·omega
   ·rw [J5f _ _ _ _ (by omega)]; obtain ⟨rl, rb⟩ := Je (i := i.toNat) hg (by omega); have := si i.toNat (by omega); omega
   ·rw [J5f _ _ _ _ (by omega)]; obtain ⟨rl, rb⟩ := Je (i := i.toNat) hg (by omega); have := si i.toNat (by omega); omega
   ·rw [J5f _ _ _ _ (by omega)]; obtain ⟨rl, rb⟩ := Je (i := i.toNat) hg (by omega); have := si i.toNat (by omega); omega
   ·rw [h3, J3v]; omega
   ·omega
   refine ⟨(out ++ [((E.getD i.toNat []).getD (((Ju E set E.length).getD i.toNat 0).toNat) 0)]), (i + 1), ?_⟩
   refine ⟨?_, ?_, ?_, rfl, rfl, rfl, rfl, rfl, rfl, rfl⟩
   ·refine ⟨?_, ?_, ?_⟩
    ·omega
    ·omega
    ·rw [h3, show (i + 1).toNat = i.toNat + 1 by omega, Jey, J5f _ _ _ _ (by omega)]; rfl
   ·(simp only [J13]; omega)
   (simp_all; done)
  intro b2
  try simp only [nrmT] at b2
  refine ⟨rfl, ?_⟩
  ·rw [h3, show i.toNat = E.length by omega]
theorem J7Z (U : ZI) (E : ZR) (set : ZI) (ht : (J0 U E && J2 set 0 ((U.length : Int) - 1) && decide (0 < set.length)) = true) : PC Tryz.prog 149 [.agg [.sl (.ints U), .sl (.rows E)], .sl (.ints set)] (.one (.own 3 (.ints (JJ E set E.length)))) :=
  pc_wf @Tryz.call149 fun hw => pc_by (by kernel_rfl) Tryz.func149 @Tryz.call149 (by kernel_rfl) J8I (J8q U E set) (by kernel_rfl) (J7B U E set ht hw.1.1 hw.1.2.1.1 hw.1.2.1.2 hw.2.1) (by kernel_rfl)
def J7w : List D → Orc := orcN [none, some .ints] fun ds => match ds with
  | [.agg [.sl (.ints U), .sl (.rows E)], .sl (.ints set)] => some (.one (.own 3 (.ints (JJ E set E.length))))
  | _ => none
theorem J8V : ∀ a b c : Bool, cond a (cond b true c) false = (a && (b || c)) := by decide
theorem J6K {row set : ZI} (hp : 0 < set.length) : ∀ k, k ≤ set.length → Jh row set k ∈ set
  | 0, _ => getD_mem hp
  | k + 1, hk => by
    rw [J0M]
    unfold J3c
    split
    · exact getD_mem (by omega)
    exact J6K hp k (by omega)
theorem Jc0 {xs : ZI} {lo hi : Int} (h : J2 xs lo hi = true) {i : Nat} : ∀ {j : Nat}, i < j → j < xs.length → xs.getD i 0 < xs.getD j 0
  | 0, hi, _ => by omega
  | j + 1, hi, hj => by
    have h1 := allTo_iff.1 h (j + 1) hj
    simp only [J2e, Bool.and_eq_true, Bool.or_eq_true, decide_eq_true_eq, Nat.add_sub_cancel] at h1
    have h2 := h1.2
    by_cases e : i = j
    · subst e; omega
    have := Jc0 h (i := i) (j := j) (by omega) (by omega)
    omega
def Jf4 (f : FuncId) (ds : List D) : Orc := .no
def JeA (a : Int) (b : Int) : Ann := .none
def Ja7 (a : Int) (b : Int) : Prop :=
  (((decide (a > b)) = true → ((a = (max a b)))) ∧ ((decide (a > b)) = false → ((b = (max a b)))))
theorem JdR (a : Int) (b : Int)   : Ja7 a b := by
  unfold Ja7
  refine ⟨?_, ?_⟩
  ·intro b1
   try simp only [nrmT] at b1
   omega
  intro b2
  try simp only [nrmT] at b2
  omega
theorem J6k (a : Int) (b : Int)  : PC Tryz.prog 154 [.int .i64 a, .int .i64 b] (.one (.d (.int .i64 (max a b)))) :=
  pc_wf @Tryz.call154 fun _ => pc_by (by kernel_rfl) Tryz.func154 @Tryz.call154 (by kernel_rfl) Jf4 (JeA a b) (by kernel_rfl) (JdR a b) (by kernel_rfl)
def J5D : List D → Orc := orcN [none, none] fun ds => match ds with
  | [.int .i64 a, .int .i64 b] => some (.one (.d (.int .i64 (max a b))))
  | _ => none
theorem Jap (n : Nat) (E : ZR) (i j r : Int) : J0q n E i j r = J0q n E j i r := by
  unfold J0q
  refine allTo_congr fun k _ => ?_
  unfold J2z
  rw [Bool.and_comm]
def JfZ (f : FuncId) (ds : List D) : Orc := .no
def Jfz (l : ZI) : Ann := .none
def JbG (l : ZI) : Prop :=
  ((0 : Nat) = 0) ∧ (True) ∧ ((0 + l.length) * 8 ≤ 140737488355328) ∧ (((0 + l.length) = ([] ++ l).length) ∧ ((([] ++ l) : ZI) = l))
theorem Jf9 (l : ZI) (hl : l.length ≤ 1048576) (w_l : (l.length : Int) ≤ 9223372036854775807) : JbG l := by
  unfold JbG
  refine ⟨rfl, trivial, ?_, ?_, ?_⟩
  ·omega
  ·(simp_all; done)
  rfl
theorem J5n (l : ZI) (hl : l.length ≤ 1048576) : PC Tryz.prog 98 [.sl (.ints l)] (.one (.own 3 (.ints l))) :=
  pc_wf @Tryz.call98 fun hw => pc_by (by kernel_rfl) Tryz.func98 @Tryz.call98 (by kernel_rfl) JfZ (Jfz l) (by kernel_rfl) (Jf9 l hl hw.1) (by kernel_rfl)
def J6e : List D → Orc := orcN [some .ints] fun ds => match ds with
  | [.sl (.ints l)] => some (.one (.own 3 (.ints l)))
  | _ => none
theorem Jfe {xs : ZI} {lo hi : Int} (h : J2 xs lo hi = true) : Asc xs := by
  refine List.pairwise_iff_getElem.2 fun i j hi hj hij => ?_
  have := Jc0 h hij hj
  rwa [Ja hi, Ja hj] at this
def J51 (n : Nat) : ZI := members (fun _ => true) n
theorem Jc1 {n : Nat} : members (fun k => (2 ^ n - 1).testBit k) n = J51 n :=
  members_congr fun k hk => by simp [Nat.testBit_two_pow_sub_one, hk]
theorem JeZ (n : Nat) : J2 (J51 n) 0 ((n : Int) - 1) = true :=
  Jff (asc_members _ _) fun x hx => by have := mem_members.1 hx; omega
abbrev J2c (n : Int) (code : Int) (out : ZI) (x : Int) : Prop := (0 ≤ x) ∧ (x ≤ n) ∧ (out = members (fun k => code.toNat.testBit k) x.toNat)
abbrev J0O (n : Int) (code : Int) (out : ZI) (x : Int) : Nat := (n - x).toNat
def JeD (f : FuncId) (ds : List D) : Orc := .no
def JeV (n : Int) (code : Int) : Ann := .two (.none) (.two (.none) (.two (.two (.none) (.loop (cut2 (fun (out : ZI) (x : Int) => J2c n code out x) (fun (out : ZI) (x : Int) => [(0, .d false (.int .i64 n)), (1, .d false (.int .i64 code)), (5, .own 1000000 out.length), (6, .d true (.int .i64 x))]) (fun (out : ZI) (x : Int) => [(1000000, .arr true 3 (.ints out))])) (fun g => J0O n code g.1 g.2) (fun _ => .none))) (.none)))
def Jaw (n : Int) (code : Int) : Prop :=
  ((∃ out' : ZI, ∃ x' : Int, (J2c n code out' x') ∧ (n = n) ∧ (code = code) ∧ ((0 : Nat) = out'.length) ∧ ((0 : Int) = x') ∧ ([] = out')) ∧ (∀ out : ZI, ∀ x : Int, (J2c n code out x) → (((decide (x < n)) = true → ((0 : Int) ≤ code ∧ (code : Int) ≤ 9223372036854775807) ∧ ((0 : Int) ≤ x) ∧ ((0 : Int) ≤ (code / 2 ^ x.toNat) ∧ ((code / 2 ^ x.toNat) : Int) ≤ 9223372036854775807) ∧ ((0 : Int) ≤ 1 ∧ (1 : Int) ≤ 9223372036854775807) ∧ ((((((code / 2 ^ x.toNat).toNat &&& 1 : Nat) : Int) == 1) = true → (out.length = out.length) ∧ ((1 : Nat) = 1) ∧ ((out.length + 1) * 8 ≤ 140737488355328) ∧ (I6 (x + 1)) ∧ (∃ out' : ZI, ∃ x' : Int, (J2c n code out' x') ∧ (J0O n code out' x' < J0O n code out x) ∧ (n = n) ∧ (code = code) ∧ ((out.length + 1) = out'.length) ∧ ((x + 1) = x') ∧ ((out ++ [x]) = out'))) ∧ (((((code / 2 ^ x.toNat).toNat &&& 1 : Nat) : Int) == 1) = false → (I6 (x + 1)) ∧ (∃ out' : ZI, ∃ x' : Int, (J2c n code out' x') ∧ (J0O n code out' x' < J0O n code out x) ∧ (n = n) ∧ (code = code) ∧ (out.length = out'.length) ∧ ((x + 1) = x') ∧ (out = out'))))) ∧ ((decide (x < n)) = false → ((out.length = out.length) ∧ ((out : ZI) = (members (fun k => code.toNat.testBit k) n.toNat)))))))
theorem JdB (n : Int) (code : Int) (hn : 0 ≤ n ∧ n ≤ 62) (hc : 0 ≤ code ∧ code ≤ 4611686018427387903)  : Jaw n code := by
  unfold Jaw
  refine ⟨?_, ?_⟩
  ·refine ⟨([]), 0, ?_⟩
   refine ⟨?_, rfl, rfl, rfl, rfl, ?_⟩
   ·refine ⟨?_, ?_, ?_⟩
    ·omega
    ·omega
    ·rfl
   rfl
  intro out x hJ
  obtain ⟨h1, h2, h3⟩ := hJ
  refine ⟨?_, ?_⟩
  ·intro b1
   try simp only [nrmT] at b1
   refine ⟨?_, ?_, ?_, ?_, ?_, ?_⟩
   ·omega
   ·omega
   ·have h5 : 0 ≤ code / 2 ^ x.toNat := Int.ediv_nonneg hc.1 (Int.le_of_lt (Int.pow_pos (by omega)))
    have h6 : code / 2 ^ x.toNat ≤ code := Int.ediv_le_self _ hc.1
    omega
   ·omega
   ·intro b2
    try simp only [nrmT] at b2
    refine ⟨rfl, rfl, ?_, ?_, ?_⟩
    ·rw [h3]; have := members_len_le (fun k => code.toNat.testBit k) x.toNat; omega
    ·omega
    refine ⟨(out ++ [x]), (x + 1), ?_⟩
    refine ⟨?_, ?_, rfl, rfl, ?_, rfl, rfl⟩
    ·refine ⟨?_, ?_, ?_⟩
     ·omega
     ·omega
     ·have hb := shr_bit (n := code.toNat) (k := x.toNat)
      rw [show ((code.toNat : Nat) : Int) = code by omega] at hb
      have ht : code.toNat.testBit x.toNat = true := by
        cases h : code.toNat.testBit x.toNat with
        | true => rfl
        | false => rw [h] at hb; simp at hb; simp at b2; omega
      rw [h3, show (x + 1).toNat = x.toNat + 1 by omega, members_succ, if_pos ht, show ((x.toNat : Nat) : Int) = x by omega]
    ·(simp only [J0O]; omega)
    simp
   intro b3
   try simp only [nrmT] at b3
   refine ⟨?_, ?_⟩
   ·omega
   refine ⟨out, (x + 1), ?_⟩
   refine ⟨?_, ?_, rfl, rfl, rfl, rfl, rfl⟩
   ·refine ⟨?_, ?_, ?_⟩
    ·omega
    ·omega
    ·have hb := shr_bit (n := code.toNat) (k := x.toNat)
     rw [show ((code.toNat : Nat) : Int) = code by omega] at hb
     have ht : code.toNat.testBit x.toNat = false := by
       cases h : code.toNat.testBit x.toNat with
       | false => rfl
       | true => rw [h] at hb; simp at hb; simp at b3; omega
     rw [h3, show (x + 1).toNat = x.toNat + 1 by omega, members_succ, ht]; simp
   (simp only [J0O]; omega)
  intro b4
  try simp only [nrmT] at b4
  refine ⟨rfl, ?_⟩
  ·rw [h3, show x.toNat = n.toNat by omega]
theorem J6j (n : Int) (code : Int) (hn : 0 ≤ n ∧ n ≤ 62) (hc : 0 ≤ code ∧ code ≤ 4611686018427387903) : PC Tryz.prog 142 [.int .i64 n, .int .i64 code] (.one (.d (.sl (.ints (members (fun k => code.toNat.testBit k) n.toNat))))) :=
  pc_wf @Tryz.call142 fun _ => pc_by (by kernel_rfl) Tryz.func142 @Tryz.call142 (by kernel_rfl) JeD (JeV n code) (by kernel_rfl) (JdB n code hn hc) (by kernel_rfl)
def J5C : List D → Orc := orcN [none, none] fun ds => match ds with
  | [.int .i64 n, .int .i64 code] => some (.one (.d (.sl (.ints (members (fun k => code.toNat.testBit k) n.toNat)))))
  | _ => none
def J9A (f : FuncId) (ds : List D) : Orc := bif Nat.beq f 111 then J1E ds else bif Nat.beq f 132 then J3d ds else .no
def J9k (U : ZI) (E : ZR) (k : Int) : Ann := .none
def J5J (U : ZI) (E : ZR) (k : Int) : Prop :=
  (PC Tryz.prog 111 [.agg [.sl (.ints U), .sl (.rows E)]] (.one (.d (.bool (J0 U E))))) ∧ ((J0 U E) = true → (J0 U E) = true) ∧ ((J0 U E) = true → (J0 U E) = true) ∧ ((J0 U E) = true → (J0 U E) = true) ∧ ((J0 U E) = true → (J0 U E) = true) ∧ ((J0 U E) = true → PC Tryz.prog 132 [.int .i64 k, .int .i64 1, .int .i64 (U.length : Int)] (.one (.d (.bool (inB k 1 (U.length : Int)))))) ∧ (true = true) ∧ (((J0 U E) = true → (J0 U E) = true)) ∧ (((J0 U E) = false → true = true)) ∧ (((cond (J0 U E) (inB k 1 (U.length : Int)) false) = (J0 U E && inB k 1 (U.length : Int))))
theorem J8Q (U : ZI) (E : ZR) (k : Int)  (w_Open : (U.length : Int) ≤ 9223372036854775807) (w_Dist : (E.length : Int) ≤ 9223372036854775807) (v_Dist : ∀ x9 ∈ E, (x9.length : Int) ≤ 9223372036854775807) : J5J U E k := by
  unfold J5J
  refine ⟨J2a U E, id, id, id, id, fun _ => J3G k 1 (U.length : Int), rfl, id, fun _ => rfl, ?_⟩
  ·cases J0 U E <;> rfl
theorem J1p (U : ZI) (E : ZR) (k : Int)  : PC Tryz.prog 93 [.agg [.sl (.ints U), .sl (.rows E)], .int .i64 k] (.one (.d (.bool (J0 U E && inB k 1 (U.length : Int))))) :=
  pc_wf @Tryz.call93 fun hw => pc_by (by kernel_rfl) Tryz.func93 @Tryz.call93 (by kernel_rfl) J9A (J9k U E k) (by kernel_rfl) (J8Q U E k hw.1.1 hw.1.2.1.1 hw.1.2.1.2) (by kernel_rfl)
def J1f : List D → Orc := orcN [none, none] fun ds => match ds with
  | [.agg [.sl (.ints U), .sl (.rows E)], .int .i64 k] => some (.one (.d (.bool (J0 U E && inB k 1 (U.length : Int)))))
  | _ => none
def JfW (f : FuncId) (ds : List D) : Orc := bif Nat.beq f 112 then J87 ds else bif Nat.beq f 129 then J6U ds else .no
def JfF (U : ZI) (E : ZR) (k : Int) : Ann := .none
def JbC (U : ZI) (E : ZR) (k : Int) : Prop :=
  (PC Tryz.prog 112 [.agg [.sl (.ints U), .sl (.rows E)]] (.one (.d (.bool (J0 U E))))) ∧ ((J0 U E) = true → (J0 U E) = true) ∧ ((J0 U E) = true → (J0 U E) = true) ∧ ((J0 U E) = true → (J0 U E) = true) ∧ ((J0 U E) = true → (J0 U E) = true) ∧ ((J0 U E) = true → PC Tryz.prog 129 [.int .i64 k, .int .i64 1, .int .i64 (U.length : Int)] (.one (.d (.bool (inB k 1 (U.length : Int)))))) ∧ (true = true) ∧ (((J0 U E) = true → (J0 U E) = true)) ∧ (((J0 U E) = false → true = true)) ∧ (((cond (J0 U E) (inB k 1 (U.length : Int)) false) = (J0 U E && inB k 1 (U.length : Int))))
theorem Jfd (U : ZI) (E : ZR) (k : Int)  (w_Open : (U.length : Int) ≤ 9223372036854775807) (w_Dist : (E.length : Int) ≤ 9223372036854775807) (v_Dist : ∀ x9 ∈ E, (x9.length : Int) ≤ 9223372036854775807) : JbC U E k := by
  unfold JbC
  refine ⟨J8T U E, id, id, id, id, fun _ => J7T k 1 (U.length : Int), rfl, id, fun _ => rfl, ?_⟩
  ·cases J0 U E <;> rfl
theorem J3T (U : ZI) (E : ZR) (k : Int)  : PC Tryz.prog 97 [.agg [.sl (.ints U), .sl (.rows E)], .int .i64 k] (.one (.d (.bool (J0 U E && inB k 1 (U.length : Int))))) :=
  pc_wf @Tryz.call97 fun hw => pc_by (by kernel_rfl) Tryz.func97 @Tryz.call97 (by kernel_rfl) JfW (JfF U E k) (by kernel_rfl) (Jfd U E k hw.1.1 hw.1.2.1.1 hw.1.2.1.2) (by kernel_rfl)
def J2T : List D → Orc := orcN [none, none] fun ds => match ds with
  | [.agg [.sl (.ints U), .sl (.rows E)], .int .i64 k] => some (.one (.d (.bool (J0 U E && inB k 1 (U.length : Int)))))
  | _ => none
def JgL (E : ZR) (c : Int) (out : ZI) (b : Int) (j : Nat) : Int := min b (Jr E c (out.getD j 0))
def J0x (E : ZR) (c : Int) (out : ZI) (k : Nat) : Int := foldTo (JgL E c out) 199 k
def JA (E : ZR) (c : Int) (out : ZI) : Int := J0x E c out out.length
theorem J4A (E : ZR) (c : Int) (out : ZI) (k : Nat) : J0x E c out (k + 1) = min (J0x E c out k) (Jr E c (out.getD k 0)) := rfl
theorem J9b {U : ZI} {E : ZR} (hg : J0 U E = true) {i j : Int} (hi : 0 ≤ i ∧ i < (E.length : Int)) (hj : 0 ≤ j ∧ j < (E.length : Int)) : 0 ≤ Jr E i j ∧ Jr E i j ≤ 198 := by
  obtain ⟨g1, g2, g3⟩ := Jb hg
  obtain ⟨ri, ci⟩ := Je (i := i.toNat) hg (by omega)
  obtain ⟨rj, cj⟩ := Je (i := j.toNat) hg (by omega)
  unfold Jr
  split
  · omega
  have h1 := Jfu (E := E) (i := i.toNat) (j := j.toNat) (n := (E.getD i.toNat []).length) (fun a ha => (ci a (by omega)).1) (fun a ha => (cj a (by omega)).1)
  refine ⟨h1.1, ?_⟩
  have h2 : ∀ n, 1 ≤ n → foldTo (J3R E i.toNat j.toNat) 199 n ≤ 198 := by
    intro n hn
    induction n with
    | zero => omega
    | succ n ih =>
      show min _ _ ≤ _
      by_cases e : n = 0
      · subst e
        have := ci 0 (by omega)
        have := cj 0 (by omega)
        omega
      have := ih (by omega)
      omega
  exact h2 _ (by omega)
theorem J5t {U : ZI} {E : ZR} (hg : J0 U E = true) {c : Int} (hc : 0 ≤ c ∧ c < (E.length : Int)) {out : ZI} (ho : ∀ x ∈ out, 0 ≤ x ∧ x < (E.length : Int)) : ∀ k, k ≤ out.length → 0 ≤ J0x E c out k ∧ J0x E c out k ≤ 199 ∧ (1 ≤ k → J0x E c out k ≤ 198)
  | 0, _ => ⟨by simp [J0x, foldTo], by simp [J0x, foldTo], fun h => by omega⟩
  | k + 1, hk => by
    obtain ⟨h1, h2, h3⟩ := J5t hg hc ho k (by omega)
    have h4 := J9b hg hc (ho _ (getD_mem (d := 0) (show k < out.length by omega)))
    rw [J4A]
    omega
/-- The next client: the first one, not taken, with the greatest least gap. -/
def J3X (E : ZR) (out : ZI) (b : Int) (i : Nat) : Int :=
  if (!(out.contains (i : Int)) && (decide (b < 0) || decide (JA E (i : Int) out > JA E b out))) = true then (i : Int) else b
def Jk (E : ZR) (out : ZI) (k : Nat) : Int := foldTo (J3X E out) (-1) k
theorem J00 (E : ZR) (out : ZI) (k : Nat) : Jk E out (k + 1) = J3X E out (Jk E out k) k := rfl
theorem J9n (E : ZR) (out : ZI) : ∀ k, -1 ≤ Jk E out k ∧ Jk E out k < k
  | 0 => by simp [Jk, foldTo]
  | k + 1 => by
    have := J9n E out k
    rw [J00]
    unfold J3X
    split <;> omega
theorem JcW {E : ZR} {out : ZI} : ∀ k, Jk E out k < 0 → ∀ i, i < k → out.contains (i : Int) = true
  | 0, _, i, hi => by omega
  | k + 1, h, i, hi => by
    rw [J00] at h
    unfold J3X at h
    split at h
    · omega
    rename_i hn
    by_cases e : i = k
    · subst e
      rw [decide_eq_true h] at hn
      cases hc : out.contains (i : Int) with
      | true => rfl
      | false => rw [hc] at hn; simp at hn
    exact JcW k h i (by omega)
theorem JfX : ∀ (n : Nat) (out : ZI), (∀ i, i < n → (i : Int) ∈ out) → n ≤ out.length
  | 0, _, _ => Nat.zero_le _
  | n + 1, out, h => by
    have h1 := h n (Nat.lt_succ_self n)
    have h2 := JfX n (out.erase (n : Int)) fun i hi => (List.mem_erase_of_ne (by omega)).2 (h i (by omega))
    rw [List.length_erase_of_mem h1] at h2
    have := List.length_pos_of_mem h1
    omega
theorem Jes {out : ZI} {n : Nat} (ho : ∀ i, i < n → out.contains (i : Int) = true) : n ≤ out.length :=
  JfX n out fun i hi => List.contains_iff_mem.1 (ho i hi)
def Jm (E : ZR) : Nat → ZI → ZI
  | 0, out => out
  | n + 1, out => Jm E n (out ++ [Jk E out E.length])
structure FcOk (E : ZR) (out : ZI) : Prop where
  inR : ∀ x ∈ out, 0 ≤ x ∧ x < (E.length : Int)
theorem Jb0 {E : ZR} {out : ZI} (h : FcOk E out) (hl : out.length < E.length) : 0 ≤ Jk E out E.length := by
  by_cases e : Jk E out E.length < 0
  · have := Jes (JcW E.length e); omega
  omega
theorem J9m {E : ZR} {out : ZI} (h : FcOk E out) (hl : out.length < E.length) : FcOk E (out ++ [Jk E out E.length]) := by
  have h1 := Jb0 h hl
  have h2 := J9n E out E.length
  refine ⟨fun x hx => ?_⟩
  rcases List.mem_append.1 hx with hx | hx
  · exact h.inR x hx
  rw [List.mem_singleton] at hx; omega
theorem J6H (E : ZR) : FcOk E [] := ⟨fun x hx => (by cases hx)⟩
def fcL (U : ZI) (E : ZR) (k : Int) : ZI := if (J0 U E && inB k 1 (U.length : Int)) = true then Jm E (min k.toNat E.length) [] else []
theorem J6b (E : ZR) : ∀ n out, (Jm E n out).length = out.length + n
  | 0, _ => rfl
  | n + 1, out => by
    show (Jm E n _).length = _
    rw [J6b, List.length_append, List.length_cons, List.length_nil]; omega
theorem JfY (E : ZR) (h : 0 < E.length) : Jk E [] E.length = 0 := by
  have key : ∀ k, 1 ≤ k → Jk E [] k = 0 := by
    intro k hk
    induction k with
    | zero => omega
    | succ k ih =>
      rw [J00]
      by_cases e : k = 0
      · subst e; rfl
      rw [ih (by omega)]
      unfold J3X
      have e2 : ∀ c, JA E c [] = 199 := fun c => rfl
      rw [e2, e2]
      simp
  exact key _ h
abbrev J43 (U : ZI) (E : ZR) (client : Int) (taken : ZI) (best : Int) (i : Int) : Prop := (1 ≤ i) ∧ (i ≤ (taken.length : Int)) ∧ (best = J0x E client taken i.toNat)
abbrev J3K (U : ZI) (E : ZR) (client : Int) (taken : ZI) (best : Int) (i : Int) : Nat := (taken.length - i).toNat
def JeE (f : FuncId) (ds : List D) : Orc := bif Nat.beq f 170 then JdC ds else bif Nat.beq f 161 then J3h ds else .no
def JeB (U : ZI) (E : ZR) (client : Int) (taken : ZI) : Ann := .two (.none) (.two (.none) (.two (.two (.none) (.loop (cut2 (fun (best : Int) (i : Int) => J43 U E client taken best i) (fun (best : Int) (i : Int) => [(1, .d false (.int .i64 client)), (2, .d false (.sl (.ints taken))), (3, .ptr 3 0), (7, .d true (.int .i64 best)), (8, .d true (.int .i64 i))]) (fun (best : Int) (i : Int) => [(3, .box 27 [.d false (.sl (.ints U)), .d false (.sl (.rows E))])])) (fun g => J3K U E client taken g.1 g.2) (fun _ => .none))) (.none)))
def Jaa (U : ZI) (E : ZR) (client : Int) (taken : ZI) : Prop :=
  (true = true) ∧ ((0 : Int) ≤ 0) ∧ ((0 : Int) < taken.length) ∧ (0 < taken.length) ∧ (PC Tryz.prog 170 [.agg [.sl (.ints U), .sl (.rows E)], .int .i64 client, .int .i64 (taken.getD 0 0)] (.one (.d (.int .i64 (Jr E client (taken.getD 0 0)))))) ∧ ((∃ best' : Int, ∃ i' : Int, (J43 U E client taken best' i') ∧ (client = client) ∧ (taken = taken) ∧ ((Jr E client (taken.getD 0 0)) = best') ∧ ((1 : Int) = i') ∧ (U = U) ∧ (E = E)) ∧ (∀ best : Int, ∀ i : Int, (J43 U E client taken best i) → (((decide (i < (taken.length : Int))) = true → (true = true) ∧ ((0 : Int) ≤ i) ∧ ((i : Int) < taken.length) ∧ (i.toNat < taken.length) ∧ (PC Tryz.prog 170 [.agg [.sl (.ints U), .sl (.rows E)], .int .i64 client, .int .i64 (taken.getD i.toNat 0)] (.one (.d (.int .i64 (Jr E client (taken.getD i.toNat 0)))))) ∧ (PC Tryz.prog 161 [.int .i64 best, .int .i64 (Jr E client (taken.getD i.toNat 0))] (.one (.d (.int .i64 (min best (Jr E client (taken.getD i.toNat 0))))))) ∧ (I6 (i + 1)) ∧ (∃ best' : Int, ∃ i' : Int, (J43 U E client taken best' i') ∧ (J3K U E client taken best' i' < J3K U E client taken best i) ∧ (client = client) ∧ (taken = taken) ∧ ((min best (Jr E client (taken.getD i.toNat 0))) = best') ∧ ((i + 1) = i') ∧ (U = U) ∧ (E = E))) ∧ ((decide (i < (taken.length : Int))) = false → ((best = (JA E client taken)))))))
theorem Je1 (U : ZI) (E : ZR) (client : Int) (taken : ZI) (hf : J0 U E = true) (hc : 0 ≤ client ∧ client < (E.length : Int)) (ht : ∀ x ∈ taken, 0 ≤ x ∧ x < (E.length : Int)) (hp : 0 < taken.length) (w_Open : (U.length : Int) ≤ 9223372036854775807) (w_Dist : (E.length : Int) ≤ 9223372036854775807) (v_Dist : ∀ x9 ∈ E, (x9.length : Int) ≤ 9223372036854775807) (w_taken : (taken.length : Int) ≤ 9223372036854775807) : Jaa U E client taken := by
  unfold Jaa
  refine ⟨rfl, ?_, ?_, ?_, ?_, ?_, ?_⟩
  ·omega
  ·omega
  ·omega
  ·refine Jab U E client (taken.getD 0 0) ?_ ?_ ?_
   ·omega
   ·omega
   ·exact ht _ (getD_mem (d := 0) hp)
  ·refine ⟨(Jr E client (taken.getD 0 0)), 1, ?_⟩
   refine ⟨?_, rfl, rfl, rfl, rfl, rfl, rfl⟩
   ·refine ⟨?_, ?_, ?_⟩
    ·omega
    ·omega
    ·have := J9b hf hc (ht _ (getD_mem (d := 0) hp))
     show _ = min (199 : Int) (Jr E client (taken.getD 0 0))
     omega
  intro best i hJ
  obtain ⟨h1, h2, h3⟩ := hJ
  refine ⟨?_, ?_⟩
  ·intro b1
   try simp only [nrmT] at b1
   refine ⟨rfl, ?_, ?_, ?_, ?_, J3E best (Jr E client (taken.getD i.toNat 0)), ?_, ?_⟩
   ·omega
   ·omega
   ·omega
   ·refine Jab U E client (taken.getD i.toNat 0) ?_ ?_ ?_
    ·omega
    ·omega
    ·exact ht _ (getD_mem (d := 0) (by omega))
   ·omega
   refine ⟨(min best (Jr E client (taken.getD i.toNat 0))), (i + 1), ?_⟩
   refine ⟨?_, ?_, rfl, rfl, rfl, rfl, rfl, rfl⟩
   ·refine ⟨?_, ?_, ?_⟩
    ·omega
    ·omega
    ·rw [h3, show (i + 1).toNat = i.toNat + 1 by omega, J4A]
   (simp only [J3K]; omega)
  intro b2
  try simp only [nrmT] at b2
  unfold JA; rw [h3, show i.toNat = taken.length by omega]
theorem J90 (U : ZI) (E : ZR) (client : Int) (taken : ZI) (hf : J0 U E = true) (hc : 0 ≤ client ∧ client < (E.length : Int)) (ht : ∀ x ∈ taken, 0 ≤ x ∧ x < (E.length : Int)) (hp : 0 < taken.length) : PC Tryz.prog 200 [.agg [.sl (.ints U), .sl (.rows E)], .int .i64 client, .sl (.ints taken)] (.one (.d (.int .i64 (JA E client taken)))) :=
  pc_wf @Tryz.call200 fun hw => pc_by (by kernel_rfl) Tryz.func200 @Tryz.call200 (by kernel_rfl) JeE (JeB U E client taken) (by kernel_rfl) (Je1 U E client taken hf hc ht hp hw.1.1 hw.1.2.1.1 hw.1.2.1.2 hw.2.2.1) (by kernel_rfl)
def Jdd : List D → Orc := orcN [none, none, some .ints] fun ds => match ds with
  | [.agg [.sl (.ints U), .sl (.rows E)], .int .i64 client, .sl (.ints taken)] => some (.one (.d (.int .i64 (JA E client taken))))
  | _ => none
abbrev J1B (U : ZI) (E : ZR) (k : Int) (out : ZI) : Prop := (FcOk E out) ∧ (out.length ≤ min k.toNat E.length) ∧ (Jm E (min k.toNat E.length - out.length) out = Jm E (min k.toNat E.length) []) ∧ (0 < out.length) ∧ (0 < E.length)
abbrev J3r (U : ZI) (E : ZR) (k : Int) (out : ZI) : Nat := (min k.toNat E.length - out.length)
abbrev J0W (U : ZI) (E : ZR) (k : Int) (out : ZI) (best : Int) (j : Int) : Prop := (0 ≤ j) ∧ (j ≤ (E.length : Int)) ∧ (best = Jk E out j.toNat)
abbrev J02 (U : ZI) (E : ZR) (k : Int) (out : ZI) (best : Int) (j : Int) : Nat := (E.length - j).toNat
def Jb9 (f : FuncId) (ds : List D) : Orc := bif Nat.beq f 128 then JdP ds else bif Nat.beq f 200 then Jdd ds else .no
def JaT (U : ZI) (E : ZR) (k : Int) : Ann := .two (.none) (.two (.none) (.two (.none) (.two (.loop (cut1 (fun (out : ZI) => J1B U E k out) (fun (out : ZI) => [(1, .d false (.int .i64 k)), (2, .ptr 2 0), (5, .own 1000000 out.length)]) (fun (out : ZI) => [(1000000, .arr true 3 (.ints out)), (2, .box 27 [.d false (.sl (.ints U)), .d false (.sl (.rows E))])])) (fun g => J3r U E k g) (fun g => (fun (out : ZI) => .two (.none) (.two (.none) (.two (.two (.none) (.loop (cut2 (fun (best : Int) (j : Int) => J0W U E k out best j) (fun (best : Int) (j : Int) => [(1, .d false (.int .i64 k)), (2, .ptr 2 0), (5, .own 1000000 out.length), (6, .d true (.int .i64 best)), (7, .d true (.int .i64 j))]) (fun (best : Int) (j : Int) => [(2, .box 27 [.d false (.sl (.ints U)), .d false (.sl (.rows E))]), (1000000, .arr true 3 (.ints out))])) (fun g => J02 U E k out g.1 g.2) (fun _ => .none))) (.none)))) g)) (.none))))
def J6v (U : ZI) (E : ZR) (k : Int) : Prop :=
  ((((E.length : Int) == 0) = true → (((0 : Nat) = 0) ∧ (([] : ZI) = (Jm E (min k.toNat E.length) [])))) ∧ (((E.length : Int) == 0) = false → ((∃ out' : ZI, (J1B U E k out') ∧ (k = k) ∧ ((1 : Nat) = out'.length) ∧ ([0] = out') ∧ (U = U) ∧ (E = E)) ∧ (∀ out : ZI, (J1B U E k out) → ((decide ((out.length : Int) < k)) = true → (decide ((out.length : Int) < k)) = true) ∧ ((decide ((out.length : Int) < k)) = true → (decide ((out.length : Int) < k)) = true) ∧ ((decide ((out.length : Int) < k)) = true → (decide ((out.length : Int) < k)) = true) ∧ ((decide ((out.length : Int) < k)) = true → (decide ((out.length : Int) < k)) = true) ∧ ((decide ((out.length : Int) < k)) = true → (decide ((out.length : Int) < k)) = true) ∧ (true = true) ∧ (((decide ((out.length : Int) < k)) = true → (decide ((out.length : Int) < k)) = true)) ∧ (((decide ((out.length : Int) < k)) = false → true = true)) ∧ (((cond (decide ((out.length : Int) < k)) (decide ((out.length : Int) < (E.length : Int))) false) = true → ((∃ best' : Int, ∃ j' : Int, (J0W U E k out best' j') ∧ (k = k) ∧ (out.length = out.length) ∧ (((-1) : Int) = best') ∧ ((0 : Int) = j') ∧ (U = U) ∧ (E = E) ∧ (out = out)) ∧ (∀ best : Int, ∀ j : Int, (J0W U E k out best j) → (((decide (j < (E.length : Int))) = true → (true = true) ∧ (out.length = out.length) ∧ (PC Tryz.prog 128 [.sl (.ints out), .int .i64 j] (.one (.d (.bool (out.contains j))))) ∧ ((!(out.contains j)) = true → (!(out.contains j)) = true) ∧ ((!(out.contains j)) = true → (!(out.contains j)) = true) ∧ (((!(out.contains j)) && (!(decide (best < 0)))) = true → ((!(out.contains j)) && (!(decide (best < 0)))) = true) ∧ (((!(out.contains j)) && (!(decide (best < 0)))) = true → ((!(out.contains j)) && (!(decide (best < 0)))) = true) ∧ (((!(out.contains j)) && (!(decide (best < 0)))) = true → ((!(out.contains j)) && (!(decide (best < 0)))) = true) ∧ ((((!(out.contains j)) && (!(decide (best < 0)))) = true → out.length = out.length)) ∧ (((!(out.contains j)) && (!(decide (best < 0)))) = true → PC Tryz.prog 200 [.agg [.sl (.ints U), .sl (.rows E)], .int .i64 j, .sl (.ints out)] (.one (.d (.int .i64 (JA E j out))))) ∧ (((!(out.contains j)) && (!(decide (best < 0)))) = true → ((!(out.contains j)) && (!(decide (best < 0)))) = true) ∧ (((!(out.contains j)) && (!(decide (best < 0)))) = true → ((!(out.contains j)) && (!(decide (best < 0)))) = true) ∧ (((!(out.contains j)) && (!(decide (best < 0)))) = true → ((!(out.contains j)) && (!(decide (best < 0)))) = true) ∧ ((((!(out.contains j)) && (!(decide (best < 0)))) = true → out.length = out.length)) ∧ (((!(out.contains j)) && (!(decide (best < 0)))) = true → PC Tryz.prog 200 [.agg [.sl (.ints U), .sl (.rows E)], .int .i64 best, .sl (.ints out)] (.one (.d (.int .i64 (JA E best out))))) ∧ (((!(out.contains j)) && (!(decide (best < 0)))) = true → ((!(out.contains j)) && (!(decide (best < 0)))) = true) ∧ (((!(out.contains j)) && (!(decide (best < 0)))) = true → ((!(out.contains j)) && (!(decide (best < 0)))) = true) ∧ (((!(out.contains j)) = true → (!(out.contains j)) = true)) ∧ (((!(out.contains j)) = true → (decide (best < 0)) = true → true = true)) ∧ (((!(out.contains j)) = true → (decide (best < 0)) = false → ((!(out.contains j)) && (!(decide (best < 0)))) = true)) ∧ (true = true) ∧ (((!(out.contains j)) = true → (!(out.contains j)) = true)) ∧ (((!(out.contains j)) = false → true = true)) ∧ (((cond (!(out.contains j)) (cond (decide (best < 0)) true (decide ((JA E j out) > (JA E best out)))) false) = true → (I6 (j + 1)) ∧ (∃ best' : Int, ∃ j' : Int, (J0W U E k out best' j') ∧ (J02 U E k out best' j' < J02 U E k out best j) ∧ (k = k) ∧ (out.length = out.length) ∧ (j = best') ∧ ((j + 1) = j') ∧ (U = U) ∧ (E = E) ∧ (out = out))) ∧ ((cond (!(out.contains j)) (cond (decide (best < 0)) true (decide ((JA E j out) > (JA E best out)))) false) = false → (I6 (j + 1)) ∧ (∃ best' : Int, ∃ j' : Int, (J0W U E k out best' j') ∧ (J02 U E k out best' j' < J02 U E k out best j) ∧ (k = k) ∧ (out.length = out.length) ∧ (best = best') ∧ ((j + 1) = j') ∧ (U = U) ∧ (E = E) ∧ (out = out))))) ∧ ((decide (j < (E.length : Int))) = false → (out.length = out.length) ∧ ((1 : Nat) = 1) ∧ ((out.length + 1) * 8 ≤ 140737488355328) ∧ (∃ out' : ZI, (J1B U E k out') ∧ (J3r U E k out' < J3r U E k out) ∧ (k = k) ∧ ((out.length + 1) = out'.length) ∧ ((out ++ [best]) = out') ∧ (U = U) ∧ (E = E))))))) ∧ ((cond (decide ((out.length : Int) < k)) (decide ((out.length : Int) < (E.length : Int))) false) = false → ((out.length = out.length) ∧ ((out : ZI) = (Jm E (min k.toNat E.length) [])))))))))
theorem Jal (U : ZI) (E : ZR) (k : Int) (hf : J0 U E = true) (hk : 1 ≤ k ∧ k ≤ (U.length : Int)) (w_Open : (U.length : Int) ≤ 9223372036854775807) (w_Dist : (E.length : Int) ≤ 9223372036854775807) (v_Dist : ∀ x9 ∈ E, (x9.length : Int) ≤ 9223372036854775807) : J6v U E k := by
  unfold J6v
  obtain ⟨g1, g2, g3⟩ := Jb hf
  refine ⟨?_, ?_⟩
  ·intro b1
   try simp only [nrmT] at b1
   refine ⟨rfl, ?_⟩
   ·rw [show min k.toNat E.length = 0 by omega]; rfl
  intro b2
  try simp only [nrmT] at b2
  refine ⟨?_, ?_⟩
  ·refine ⟨([0]), ?_⟩
   refine ⟨?_, rfl, ?_, ?_, rfl, rfl⟩
   ·refine ⟨?_, ?_, ?_, ?_, ?_⟩
    ·refine ⟨fun x hx => ?_⟩
     simp at hx
     omega
    ·show 1 ≤ _; omega
    ·obtain ⟨m, hm⟩ : ∃ m, min k.toNat E.length = m + 1 := ⟨min k.toNat E.length - 1, by omega⟩
     rw [hm]
     show Jm E (m + 1 - 1) [0] = Jm E m ([] ++ [Jk E [] E.length])
     rw [JfY E (by omega), Nat.add_sub_cancel]; rfl
    ·decide
    ·omega
   ·rfl
   rfl
  intro out hJ
  obtain ⟨h1, h2, h3, h4, h5⟩ := hJ
  refine ⟨id, id, id, id, id, rfl, id, fun _ => rfl, ?_, ?_⟩
  ·intro b3
   refine ⟨?_, ?_⟩
   ·refine ⟨(-1), 0, ?_⟩
    refine ⟨?_, rfl, rfl, rfl, rfl, rfl, rfl, rfl⟩
    ·refine ⟨?_, ?_, ?_⟩
     ·omega
     ·omega
     ·rfl
   intro best j hJ
   obtain ⟨k1, k2, k3⟩ := hJ
   refine ⟨?_, ?_⟩
   ·intro b4
    try simp only [nrmT] at b4
    refine ⟨rfl, rfl, Jf2 out j, id, id, id, id, id, fun _ => rfl, ?_, id, id, id, fun _ => rfl, ?_, id, id, id, fun _ _ => rfl, ?_, rfl, id, fun _ => rfl, ?_, ?_⟩
    ·intro hg
     refine J90 U E j out ?_ ?_ ?_ ?_
     ·omega
     ·omega
     ·exact h1.inR
     omega
    ·intro hg
     refine J90 U E best out ?_ ?_ ?_ ?_
     ·omega
     ·have gi := J9n E out j.toNat
      rw [← k3] at gi
      simp at hg; omega
     ·exact h1.inR
     omega
    ·intro g1 g2; rw [g1, g2]; rfl
    ·intro b5
     refine ⟨?_, ?_⟩
     ·omega
     refine ⟨j, (j + 1), ?_⟩
     refine ⟨?_, ?_, rfl, rfl, rfl, rfl, rfl, rfl, rfl⟩
     ·refine ⟨?_, ?_, ?_⟩
      ·omega
      ·omega
      ·rw [J8V] at b5
       rw [show (j + 1).toNat = j.toNat + 1 by omega, J00, ← k3]
       unfold J3X
       rw [show ((j.toNat : Nat) : Int) = j by omega, if_pos b5]
     (simp only [J02]; omega)
    intro b6
    refine ⟨?_, ?_⟩
    ·omega
    refine ⟨best, (j + 1), ?_⟩
    refine ⟨?_, ?_, rfl, rfl, rfl, rfl, rfl, rfl, rfl⟩
    ·refine ⟨?_, ?_, ?_⟩
     ·omega
     ·omega
     ·rw [J8V] at b6
      rw [show (j + 1).toNat = j.toNat + 1 by omega, J00, ← k3]
      unfold J3X
      rw [show ((j.toNat : Nat) : Int) = j by omega, if_neg (by rw [b6]; decide)]
    (simp only [J02]; omega)
   intro b7
   try simp only [nrmT] at b7
   refine ⟨rfl, rfl, ?_, ?_⟩
   ·omega
   refine ⟨(out ++ [best]), ?_⟩
   refine ⟨?_, ?_, rfl, ?_, rfl, rfl, rfl⟩
   ·refine ⟨?_, ?_, ?_, ?_, ?_⟩
    ·have hb : (out.length : Int) < k ∧ (out.length : Int) < (E.length : Int) := by
       revert b3; by_cases x1 : (out.length : Int) < k <;> by_cases x2 : (out.length : Int) < (E.length : Int) <;> simp [x1, x2]
     have eb : best = Jk E out E.length := by rw [k3, show j.toNat = E.length by omega]
     rw [eb]; exact J9m h1 (by omega)
    ·have hb : (out.length : Int) < k ∧ (out.length : Int) < (E.length : Int) := by
       revert b3; by_cases x1 : (out.length : Int) < k <;> by_cases x2 : (out.length : Int) < (E.length : Int) <;> simp [x1, x2]
     rw [List.length_append]; simp only [List.length_cons, List.length_nil]; omega
    ·have hb : (out.length : Int) < k ∧ (out.length : Int) < (E.length : Int) := by
       revert b3; by_cases x1 : (out.length : Int) < k <;> by_cases x2 : (out.length : Int) < (E.length : Int) <;> simp [x1, x2]
     have eb : best = Jk E out E.length := by rw [k3, show j.toNat = E.length by omega]
     rw [← h3]
     have e : min k.toNat E.length - out.length = (min k.toNat E.length - (out ++ [best]).length) + 1 := by
       rw [List.length_append]; simp only [List.length_cons, List.length_nil]; omega
     rw [e]
     show _ = Jm E _ (out ++ [Jk E out E.length])
     rw [← eb]
    ·simp
    ·omega
   ·have hb : (out.length : Int) < k ∧ (out.length : Int) < (E.length : Int) := by
      revert b3; by_cases x1 : (out.length : Int) < k <;> by_cases x2 : (out.length : Int) < (E.length : Int) <;> simp [x1, x2]
    show min k.toNat E.length - (out ++ [best]).length < min k.toNat E.length - out.length
    rw [List.length_append]; simp only [List.length_cons, List.length_nil]; omega
   simp
  intro b8
  refine ⟨rfl, ?_⟩
  ·have hb : ¬ ((out.length : Int) < k ∧ (out.length : Int) < (E.length : Int)) := by
     revert b8; by_cases x1 : (out.length : Int) < k <;> by_cases x2 : (out.length : Int) < (E.length : Int) <;> simp [x1, x2]
   rw [← h3, show min k.toNat E.length - out.length = 0 by omega]; rfl
theorem J64 (U : ZI) (E : ZR) (k : Int) (hf : J0 U E = true) (hk : 1 ≤ k ∧ k ≤ (U.length : Int)) : PC Tryz.prog 108 [.agg [.sl (.ints U), .sl (.rows E)], .int .i64 k] (.one (.d (.sl (.ints (Jm E (min k.toNat E.length) []))))) :=
  pc_wf @Tryz.call108 fun hw => pc_by (by kernel_rfl) Tryz.func108 @Tryz.call108 (by kernel_rfl) Jb9 (JaT U E k) (by kernel_rfl) (Jal U E k hf hk hw.1.1 hw.1.2.1.1 hw.1.2.1.2) (by kernel_rfl)
def J5x : List D → Orc := orcN [none, none] fun ds => match ds with
  | [.agg [.sl (.ints U), .sl (.rows E)], .int .i64 k] => some (.one (.d (.sl (.ints (Jm E (min k.toNat E.length) [])))))
  | _ => none
abbrev J0G (U : ZI) (E : ZR) (k : Int) (out : ZI) : Prop := (FcOk E out) ∧ (out.length ≤ min k.toNat E.length) ∧ (Jm E (min k.toNat E.length - out.length) out = Jm E (min k.toNat E.length) [])
abbrev J1C (U : ZI) (E : ZR) (k : Int) (out : ZI) : Nat := (min k.toNat E.length - out.length)
abbrev JQ (U : ZI) (E : ZR) (k : Int) (out : ZI) (best : Int) (most : Int) (i : Int) : Prop := (0 ≤ i) ∧ (i ≤ (E.length : Int)) ∧ (best = max 0 (Jk E out i.toNat)) ∧ (most = if Jk E out i.toNat < 0 then -1 else JA E (Jk E out i.toNat) out)
abbrev Jp (U : ZI) (E : ZR) (k : Int) (out : ZI) (best : Int) (most : Int) (i : Int) : Nat := (E.length - i).toNat
abbrev J0z (U : ZI) (E : ZR) (k : Int) (out : ZI) (best : Int) : Prop := (best = max 0 (Jk E out E.length))
abbrev J0A (U : ZI) (E : ZR) (k : Int) (out : ZI) (best : Int) (most : Int) (i : Int) (own : Int) (j : Int) : Prop := (0 ≤ j) ∧ (j ≤ (out.length : Int)) ∧ (own = J0x E i out j.toNat)
abbrev J0I (U : ZI) (E : ZR) (k : Int) (out : ZI) (best : Int) (most : Int) (i : Int) (own : Int) (j : Int) : Nat := (out.length - j).toNat
def J7L (f : FuncId) (ds : List D) : Orc := bif Nat.beq f 131 then J4r ds else bif Nat.beq f 169 then Ja0 ds else .no
def J8h (U : ZI) (E : ZR) (k : Int) : Ann := .two (.none) (.two (.none) (.two (.loop (cut1 (fun (out : ZI) => J0G U E k out) (fun (out : ZI) => [(1, .d false (.int .i64 k)), (2, .ptr 2 0), (5, .own 1000000 out.length)]) (fun (out : ZI) => [(1000000, .arr true 3 (.ints out)), (2, .box 27 [.d false (.sl (.ints U)), .d false (.sl (.rows E))])])) (fun g => J1C U E k g) (fun g => (fun (out : ZI) => .two (.none) (.two (.none) (.cut (.two (.none) (.loop (cut3 (fun (best : Int) (most : Int) (i : Int) => JQ U E k out best most i) (fun (best : Int) (most : Int) (i : Int) => [(1, .d false (.int .i64 k)), (2, .ptr 2 0), (5, .own 1000000 out.length), (6, .d true (.int .i64 best)), (7, .d true (.int .i64 most)), (23, .d true (.int .i64 (E.length : Int))), (24, .d true (.int .i64 i))]) (fun (best : Int) (most : Int) (i : Int) => [(2, .box 27 [.d false (.sl (.ints U)), .d false (.sl (.rows E))]), (1000000, .arr true 3 (.ints out))])) (fun g => Jp U E k out g.1 g.2.1 g.2.2) (fun g => (fun (best : Int) (most : Int) (i : Int) => .two (.none) (.two (.none) (.two (.two (.none) (.two (.none) (.two (.none) (.two (.two (.none) (.loop (cut2 (fun (own : Int) (j : Int) => J0A U E k out best most i own j) (fun (own : Int) (j : Int) => [(1, .d false (.int .i64 k)), (2, .ptr 2 0), (5, .own 1000000 out.length), (6, .d true (.int .i64 best)), (7, .d true (.int .i64 most)), (8, .d true (.int .i64 i)), (9, .d true (.int .i64 own)), (23, .d true (.int .i64 (E.length : Int))), (24, .d true (.int .i64 i)), (30, .own 1000000 out.length), (31, .d true (.int .i64 (out.length : Int))), (32, .d true (.int .i64 j))]) (fun (own : Int) (j : Int) => [(2, .box 27 [.d false (.sl (.ints U)), .d false (.sl (.rows E))]), (1000000, .arr true 3 (.ints out))])) (fun g => J0I U E k out best most i g.1 g.2) (fun _ => .none))) (.none))))) (.none)))) (g.1) (g.2.1) (g.2.2)))) (cut1 (fun (best : Int) => J0z U E k out best) (fun (best : Int) => [(1, .d false (.int .i64 k)), (2, .ptr 2 0), (5, .own 1000000 out.length), (6, .d true (.int .i64 best))]) (fun (best : Int) => [(2, .box 27 [.d false (.sl (.ints U)), .d false (.sl (.rows E))]), (1000000, .arr true 3 (.ints out))])) (fun _ => .none)))) g)) (.none)))
def J4T (U : ZI) (E : ZR) (k : Int) : Prop :=
  ((∃ out' : ZI, (J0G U E k out') ∧ (k = k) ∧ ((0 : Nat) = out'.length) ∧ ([] = out') ∧ (U = U) ∧ (E = E)) ∧ (∀ out : ZI, (J0G U E k out) → (((decide ((out.length : Int) < (min k (E.length : Int)))) = true → ((((∃ best' : Int, ∃ most' : Int, ∃ i' : Int, (JQ U E k out best' most' i') ∧ (k = k) ∧ (out.length = out.length) ∧ ((0 : Int) = best') ∧ (((-1) : Int) = most') ∧ ((E.length : Int) = (E.length : Int)) ∧ ((0 : Int) = i') ∧ (U = U) ∧ (E = E) ∧ (out = out)) ∧ (∀ best : Int, ∀ most : Int, ∀ i : Int, (JQ U E k out best most i) → (((decide (i < (E.length : Int))) = true → (out.length = out.length) ∧ (PC Tryz.prog 131 [.sl (.ints out), .int .i64 i] (.one (.d (.bool (out.contains i))))) ∧ (((out.contains i) = true → (I6 (i + 1)) ∧ (∃ best' : Int, ∃ most' : Int, ∃ i' : Int, (JQ U E k out best' most' i') ∧ (Jp U E k out best' most' i' < Jp U E k out best most i) ∧ (k = k) ∧ (out.length = out.length) ∧ (best = best') ∧ (most = most') ∧ ((E.length : Int) = (E.length : Int)) ∧ ((i + 1) = i') ∧ (U = U) ∧ (E = E) ∧ (out = out))) ∧ ((out.contains i) = false → ((∃ own' : Int, ∃ j' : Int, (J0A U E k out best most i own' j') ∧ (k = k) ∧ (out.length = out.length) ∧ (best = best) ∧ (most = most) ∧ (i = i) ∧ ((199 : Int) = own') ∧ ((E.length : Int) = (E.length : Int)) ∧ (i = i) ∧ (out.length = out.length) ∧ ((out.length : Int) = (out.length : Int)) ∧ ((0 : Int) = j') ∧ (U = U) ∧ (E = E) ∧ (out = out)) ∧ (∀ own : Int, ∀ j : Int, (J0A U E k out best most i own j) → (((decide (j < (out.length : Int))) = true → ((0 : Int) ≤ j) ∧ ((j : Int) < (out.length : Int)) ∧ (j.toNat < out.length) ∧ (PC Tryz.prog 169 [.agg [.sl (.ints U), .sl (.rows E)], .int .i64 i, .int .i64 (out.getD j.toNat 0)] (.one (.d (.int .i64 (Jr E i (out.getD j.toNat 0)))))) ∧ (I6 (j + 1)) ∧ (∃ own' : Int, ∃ j' : Int, (J0A U E k out best most i own' j') ∧ (J0I U E k out best most i own' j' < J0I U E k out best most i own j) ∧ (k = k) ∧ (out.length = out.length) ∧ (best = best) ∧ (most = most) ∧ (i = i) ∧ ((min own (Jr E i (out.getD j.toNat 0))) = own') ∧ ((E.length : Int) = (E.length : Int)) ∧ (i = i) ∧ (out.length = out.length) ∧ ((out.length : Int) = (out.length : Int)) ∧ ((j + 1) = j') ∧ (U = U) ∧ (E = E) ∧ (out = out))) ∧ ((decide (j < (out.length : Int))) = false → (((decide (own > most)) = true → (I6 (i + 1)) ∧ (∃ best' : Int, ∃ most' : Int, ∃ i' : Int, (JQ U E k out best' most' i') ∧ (Jp U E k out best' most' i' < Jp U E k out best most i) ∧ (k = k) ∧ (out.length = out.length) ∧ (i = best') ∧ (own = most') ∧ ((E.length : Int) = (E.length : Int)) ∧ ((i + 1) = i') ∧ (U = U) ∧ (E = E) ∧ (out = out))) ∧ ((decide (own > most)) = false → (I6 (i + 1)) ∧ (∃ best' : Int, ∃ most' : Int, ∃ i' : Int, (JQ U E k out best' most' i') ∧ (Jp U E k out best' most' i' < Jp U E k out best most i) ∧ (k = k) ∧ (out.length = out.length) ∧ (best = best') ∧ (most = most') ∧ ((E.length : Int) = (E.length : Int)) ∧ ((i + 1) = i') ∧ (U = U) ∧ (E = E) ∧ (out = out))))))))))) ∧ ((decide (i < (E.length : Int))) = false → (∃ best' : Int, (J0z U E k out best') ∧ (k = k) ∧ (out.length = out.length) ∧ (best = best') ∧ (U = U) ∧ (E = E) ∧ (out = out))))))) ∧ (∀ best : Int, (J0z U E k out best) → (out.length = out.length) ∧ ((1 : Nat) = 1) ∧ ((out.length + 1) * 8 ≤ 140737488355328) ∧ (∃ out' : ZI, (J0G U E k out') ∧ (J1C U E k out' < J1C U E k out) ∧ (k = k) ∧ ((out.length + 1) = out'.length) ∧ ((out ++ [best]) = out') ∧ (U = U) ∧ (E = E))))) ∧ ((decide ((out.length : Int) < (min k (E.length : Int)))) = false → ((out.length = out.length) ∧ ((out : ZI) = Jm E (min k.toNat E.length) []))))))
theorem J7p (U : ZI) (E : ZR) (k : Int) (hf : J0 U E = true) (hk : 1 ≤ k ∧ k ≤ (U.length : Int)) (w_Open : (U.length : Int) ≤ 9223372036854775807) (w_Dist : (E.length : Int) ≤ 9223372036854775807) (v_Dist : ∀ x9 ∈ E, (x9.length : Int) ≤ 9223372036854775807) : J4T U E k := by
  unfold J4T
  obtain ⟨g1, g2, g3⟩ := Jb hf
  refine ⟨?_, ?_⟩
  ·refine ⟨([]), ?_⟩
   refine ⟨?_, rfl, rfl, ?_, rfl, rfl⟩
   ·refine ⟨?_, ?_, ?_⟩
    ·exact J6H E
    ·exact Nat.zero_le _
    ·rfl
   rfl
  intro out hJ
  obtain ⟨h1, h2, h3⟩ := hJ
  refine ⟨?_, ?_⟩
  ·intro b1
   try simp only [nrmT] at b1
   refine ⟨?_, ?_⟩
   ·refine ⟨?_, ?_⟩
    ·refine ⟨0, (-1), 0, ?_⟩
     refine ⟨?_, rfl, rfl, rfl, rfl, rfl, rfl, rfl, rfl, rfl⟩
     ·refine ⟨?_, ?_, ?_, ?_⟩
      ·omega
      ·omega
      ·rfl
      ·rfl
    ·intro best most i hJ
     obtain ⟨k1, k2, k3, k4⟩ := hJ
     refine ⟨?_, ?_⟩
     ·intro b2
      try simp only [nrmT] at b2
      refine ⟨rfl, J4O out i, ?_, ?_⟩
      ·intro b3
       try simp only [nrmT] at b3
       refine ⟨?_, ?_⟩
       ·omega
       refine ⟨best, most, (i + 1), ?_⟩
       refine ⟨?_, ?_, rfl, rfl, rfl, rfl, rfl, rfl, rfl, rfl, rfl⟩
       ·refine ⟨?_, ?_, ?_, ?_⟩
        ·omega
        ·omega
        ·have e : Jk E out (i + 1).toNat = Jk E out i.toNat := by
           rw [show (i + 1).toNat = i.toNat + 1 by omega, J00]
           unfold J3X
           rw [show ((i.toNat : Nat) : Int) = i by omega, b3]
           simp
         rw [e]; exact k3
        ·have e : Jk E out (i + 1).toNat = Jk E out i.toNat := by
           rw [show (i + 1).toNat = i.toNat + 1 by omega, J00]
           unfold J3X
           rw [show ((i.toNat : Nat) : Int) = i by omega, b3]
           simp
         rw [e]; exact k4
       (simp only [Jp]; omega)
      intro b4
      try simp only [nrmT] at b4
      refine ⟨?_, ?_⟩
      ·refine ⟨199, 0, ?_⟩
       refine ⟨?_, rfl, rfl, rfl, rfl, rfl, rfl, rfl, rfl, rfl, rfl, rfl, rfl, rfl, rfl⟩
       ·refine ⟨?_, ?_, ?_⟩
        ·omega
        ·omega
        ·rfl
      intro own j hJ
      obtain ⟨m1, m2, m3⟩ := hJ
      refine ⟨?_, ?_⟩
      ·intro b5
       try simp only [nrmT] at b5
       refine ⟨?_, ?_, ?_, ?_, ?_, ?_⟩
       ·omega
       ·omega
       ·omega
       ·refine JaR U E i (out.getD j.toNat 0) ?_ ?_ ?_
        ·omega
        ·omega
        ·exact h1.inR _ (getD_mem (d := 0) (by omega))
       ·omega
       refine ⟨(min own (Jr E i (out.getD j.toNat 0))), (j + 1), ?_⟩
       refine ⟨?_, ?_, rfl, rfl, rfl, rfl, rfl, rfl, rfl, rfl, rfl, rfl, rfl, rfl, rfl, rfl⟩
       ·refine ⟨?_, ?_, ?_⟩
        ·omega
        ·omega
        ·rw [m3, show (j + 1).toNat = j.toNat + 1 by omega, J4A]
       (simp only [J0I]; omega)
      intro b6
      try simp only [nrmT] at b6
      refine ⟨?_, ?_⟩
      ·intro b7
       try simp only [nrmT] at b7
       refine ⟨?_, ?_⟩
       ·omega
       refine ⟨i, own, (i + 1), ?_⟩
       refine ⟨?_, ?_, rfl, rfl, rfl, rfl, rfl, rfl, rfl, rfl, rfl⟩
       ·refine ⟨?_, ?_, ?_, ?_⟩
        ·omega
        ·omega
        ·have ow : own = JA E i out := by unfold JA; rw [m3, show j.toNat = out.length by omega]
         have hnc : out.contains i = false := by assumption
         have e : Jk E out (i + 1).toNat = i := by
           rw [show (i + 1).toNat = i.toNat + 1 by omega, J00]
           unfold J3X
           rw [show ((i.toNat : Nat) : Int) = i by omega, hnc]
           by_cases hlt : Jk E out i.toNat < 0
           · rw [decide_eq_true hlt]; simp
           rw [if_neg hlt] at k4
           rw [decide_eq_true (show JA E i out > JA E (Jk E out i.toNat) out by omega)]
           simp
         rw [e]; omega
        ·have ow : own = JA E i out := by unfold JA; rw [m3, show j.toNat = out.length by omega]
         have hnc : out.contains i = false := by assumption
         have e : Jk E out (i + 1).toNat = i := by
           rw [show (i + 1).toNat = i.toNat + 1 by omega, J00]
           unfold J3X
           rw [show ((i.toNat : Nat) : Int) = i by omega, hnc]
           by_cases hlt : Jk E out i.toNat < 0
           · rw [decide_eq_true hlt]; simp
           rw [if_neg hlt] at k4
           rw [decide_eq_true (show JA E i out > JA E (Jk E out i.toNat) out by omega)]
           simp
         rw [e, if_neg (by omega), ow]
       (simp only [Jp]; omega)
      intro b8
      try simp only [nrmT] at b8
      refine ⟨?_, ?_⟩
      ·omega
      refine ⟨best, most, (i + 1), ?_⟩
      refine ⟨?_, ?_, rfl, rfl, rfl, rfl, rfl, rfl, rfl, rfl, rfl⟩
      ·refine ⟨?_, ?_, ?_, ?_⟩
       ·omega
       ·omega
       ·have ow : own = JA E i out := by unfold JA; rw [m3, show j.toNat = out.length by omega]
        have hnc : out.contains i = false := by assumption
        have hbd := (J5t hf (c := i) (by omega) h1.inR out.length (Nat.le_refl _)).1
        have e : Jk E out (i + 1).toNat = Jk E out i.toNat := by
          rw [show (i + 1).toNat = i.toNat + 1 by omega, J00]
          unfold J3X
          rw [show ((i.toNat : Nat) : Int) = i by omega, hnc]
          by_cases hlt : Jk E out i.toNat < 0
          · rw [if_pos hlt] at k4
            unfold JA at ow
            omega
          rw [if_neg hlt] at k4
          rw [decide_eq_false hlt, decide_eq_false (show ¬ JA E i out > JA E (Jk E out i.toNat) out by omega)]
          simp
        rw [e]; exact k3
       ·have ow : own = JA E i out := by unfold JA; rw [m3, show j.toNat = out.length by omega]
        have hnc : out.contains i = false := by assumption
        have hbd := (J5t hf (c := i) (by omega) h1.inR out.length (Nat.le_refl _)).1
        have e : Jk E out (i + 1).toNat = Jk E out i.toNat := by
          rw [show (i + 1).toNat = i.toNat + 1 by omega, J00]
          unfold J3X
          rw [show ((i.toNat : Nat) : Int) = i by omega, hnc]
          by_cases hlt : Jk E out i.toNat < 0
          · rw [if_pos hlt] at k4
            unfold JA at ow
            omega
          rw [if_neg hlt] at k4
          rw [decide_eq_false hlt, decide_eq_false (show ¬ JA E i out > JA E (Jk E out i.toNat) out by omega)]
          simp
        rw [e]; exact k4
      (simp only [Jp]; omega)
     intro b9
     try simp only [nrmT] at b9
     refine ⟨best, ?_⟩
     refine ⟨?_, rfl, rfl, rfl, rfl, rfl, rfl⟩
     ·unfold J0z
      rw [k3, show i.toNat = E.length by omega]
   intro best hJ
   have k5 := hJ
   refine ⟨rfl, rfl, ?_, ?_⟩
   ·omega
   refine ⟨(out ++ [best]), ?_⟩
   refine ⟨?_, ?_, rfl, ?_, rfl, rfl, rfl⟩
   ·refine ⟨?_, ?_, ?_⟩
    ·have eb : best = Jk E out E.length := by have := Jb0 h1 (by omega); omega
     rw [eb]; exact J9m h1 (by omega)
    ·rw [List.length_append]; simp only [List.length_cons, List.length_nil]; omega
    ·have eb : best = Jk E out E.length := by have := Jb0 h1 (by omega); omega
     rw [← h3]
     have e : min k.toNat E.length - out.length = (min k.toNat E.length - (out ++ [best]).length) + 1 := by
       rw [List.length_append]; simp only [List.length_cons, List.length_nil]; omega
     rw [e]
     show _ = Jm E _ (out ++ [Jk E out E.length])
     rw [← eb]
   ·show min k.toNat E.length - (out ++ [best]).length < min k.toNat E.length - out.length
    rw [List.length_append]; simp only [List.length_cons, List.length_nil]; omega
   simp
  intro b10
  try simp only [nrmT] at b10
  refine ⟨rfl, ?_⟩
  ·rw [← h3, show min k.toNat E.length - out.length = 0 by omega]; rfl
theorem J4j (U : ZI) (E : ZR) (k : Int) (hf : J0 U E = true) (hk : 1 ≤ k ∧ k ≤ (U.length : Int)) : PC Tryz.prog 107 [.agg [.sl (.ints U), .sl (.rows E)], .int .i64 k] (.one (.own 3 (.ints (Jm E (min k.toNat E.length) [])))) :=
  pc_wf @Tryz.call107 fun hw => pc_by (by kernel_rfl) Tryz.func107 @Tryz.call107 (by kernel_rfl) J7L (J8h U E k) (by kernel_rfl) (J7p U E k hf hk hw.1.1 hw.1.2.1.1 hw.1.2.1.2) (by kernel_rfl)
def J3W : List D → Orc := orcN [none, none] fun ds => match ds with
  | [.agg [.sl (.ints U), .sl (.rows E)], .int .i64 k] => some (.one (.own 3 (.ints (Jm E (min k.toNat E.length) []))))
  | _ => none
def J7k (f : FuncId) (ds : List D) : Orc := bif Nat.beq f 97 then J2T ds else bif Nat.beq f 108 then J5x ds else .no
def J7o (U : ZI) (E : ZR) (k : Int) : Ann := .none
def J4l (U : ZI) (E : ZR) (k : Int) : Prop :=
  (PC Tryz.prog 97 [.agg [.sl (.ints U), .sl (.rows E)], .int .i64 k] (.one (.d (.bool (J0 U E && inB k 1 (U.length : Int)))))) ∧ (((!(J0 U E && inB k 1 (U.length : Int))) = true → (((0 : Nat) = 0) ∧ (([] : ZI) = (fcL U E k)) ∧ (false = (J0 U E && inB k 1 (U.length : Int))))) ∧ ((!(J0 U E && inB k 1 (U.length : Int))) = false → (PC Tryz.prog 108 [.agg [.sl (.ints U), .sl (.rows E)], .int .i64 k] (.one (.d (.sl (.ints (Jm E (min k.toNat E.length) [])))))) ∧ ((((Jm E (min k.toNat E.length) []) : ZI) = (fcL U E k)) ∧ (true = (J0 U E && inB k 1 (U.length : Int))))))
theorem J72 (U : ZI) (E : ZR) (k : Int)  (w_Open : (U.length : Int) ≤ 9223372036854775807) (w_Dist : (E.length : Int) ≤ 9223372036854775807) (v_Dist : ∀ x9 ∈ E, (x9.length : Int) ≤ 9223372036854775807) : J4l U E k := by
  unfold J4l
  refine ⟨J3T U E k, ?_, ?_⟩
  ·intro b1
   try simp only [Bool.not_eq_true', Bool.not_eq_false', Bool.not_not] at b1
   refine ⟨rfl, ?_, ?_⟩
   ·unfold fcL; rw [b1]; rfl
   exact b1.symm
  intro b2
  try simp only [Bool.not_eq_true', Bool.not_eq_false', Bool.not_not] at b2
  refine ⟨?_, ?_, ?_⟩
  ·refine J64 U E k ?_ ?_
   ·exact (Bool.and_eq_true _ _ ▸ b2 : _ ∧ _).1
   ·exact Jx (Bool.and_eq_true _ _ ▸ b2 : _ ∧ _).2
  ·unfold fcL; rw [if_pos b2]
  exact b2.symm
theorem J6Z (U : ZI) (E : ZR) (k : Int)  : PC Tryz.prog 18 [.agg [.sl (.ints U), .sl (.rows E)], .int .i64 k] (.tup [.d (.sl (.ints (fcL U E k))), .d (.bool (J0 U E && inB k 1 (U.length : Int)))]) :=
  pc_wf @Tryz.call18 fun hw => pc_by (by kernel_rfl) Tryz.func18 @Tryz.call18 (by kernel_rfl) J7k (J7o U E k) (by kernel_rfl) (J72 U E k hw.1.1 hw.1.2.1.1 hw.1.2.1.2) (by kernel_rfl)
def J6D : List D → Orc := orcN [none, none] fun ds => match ds with
  | [.agg [.sl (.ints U), .sl (.rows E)], .int .i64 k] => some (.tup [.d (.sl (.ints (fcL U E k))), .d (.bool (J0 U E && inB k 1 (U.length : Int)))])
  | _ => none
def J7m (f : FuncId) (ds : List D) : Orc := bif Nat.beq f 93 then J1f ds else bif Nat.beq f 107 then J3W ds else .no
def J7i (U : ZI) (E : ZR) (k : Int) : Ann := .none
def J4m (U : ZI) (E : ZR) (k : Int) : Prop :=
  (PC Tryz.prog 93 [.agg [.sl (.ints U), .sl (.rows E)], .int .i64 k] (.one (.d (.bool (J0 U E && inB k 1 (U.length : Int)))))) ∧ (((!(J0 U E && inB k 1 (U.length : Int))) = true → (((fcL U E k).length = 0) ∧ (false = (J0 U E && inB k 1 (U.length : Int))))) ∧ ((!(J0 U E && inB k 1 (U.length : Int))) = false → (PC Tryz.prog 107 [.agg [.sl (.ints U), .sl (.rows E)], .int .i64 k] (.one (.own 3 (.ints (Jm E (min k.toNat E.length) []))))) ∧ (((Jm E (min k.toNat E.length) []).length = (Jm E (min k.toNat E.length) []).length) ∧ ((Jm E (min k.toNat E.length) [] : ZI) = fcL U E k) ∧ (true = (J0 U E && inB k 1 (U.length : Int))))))
theorem J6J (U : ZI) (E : ZR) (k : Int)  (w_Open : (U.length : Int) ≤ 9223372036854775807) (w_Dist : (E.length : Int) ≤ 9223372036854775807) (v_Dist : ∀ x9 ∈ E, (x9.length : Int) ≤ 9223372036854775807) : J4m U E k := by
  unfold J4m
  refine ⟨J1p U E k, ?_, ?_⟩
  ·intro b1
   try simp only [Bool.not_eq_true', Bool.not_eq_false', Bool.not_not] at b1
   refine ⟨?_, ?_⟩
   ·unfold fcL; rw [b1]; rfl
   exact b1.symm
  intro b2
  try simp only [Bool.not_eq_true', Bool.not_eq_false', Bool.not_not] at b2
  refine ⟨?_, rfl, ?_, ?_⟩
  ·refine J4j U E k ?_ ?_
   ·exact (Bool.and_eq_true _ _ ▸ b2 : _ ∧ _).1
   ·exact Jx (Bool.and_eq_true _ _ ▸ b2 : _ ∧ _).2
  ·unfold fcL; rw [if_pos b2]
  exact b2.symm
theorem J73 (U : ZI) (E : ZR) (k : Int)  : PC Tryz.prog 17 [.agg [.sl (.ints U), .sl (.rows E)], .int .i64 k] (.tup [.own 3 (.ints (fcL U E k)), .d (.bool (J0 U E && inB k 1 (U.length : Int)))]) :=
  pc_wf @Tryz.call17 fun hw => pc_by (by kernel_rfl) Tryz.func17 @Tryz.call17 (by kernel_rfl) J7m (J7i U E k) (by kernel_rfl) (J6J U E k hw.1.1 hw.1.2.1.1 hw.1.2.1.2) (by kernel_rfl)
def J6A : List D → Orc := orcN [none, none] fun ds => match ds with
  | [.agg [.sl (.ints U), .sl (.rows E)], .int .i64 k] => some (.tup [.own 3 (.ints (fcL U E k)), .d (.bool (J0 U E && inB k 1 (U.length : Int)))])
  | _ => none
def J18 (a b : Int) : Int := if a < b then -1 else if a > b then 1 else 0
def Jj : ZI → ZI → Int
  | [], [] => 0
  | [], _ :: _ => -1
  | _ :: _, [] => 1
  | x :: r, y :: s => if x < y then -1 else if x > y then 1 else Jj r s
theorem J3t {xs ys : ZI} {i : Nat} (h : Jj xs ys = Jj (xs.drop i) (ys.drop i)) (h1 : i < xs.length) (h2 : i < ys.length) :
    Jj xs ys = if xs.getD i 0 < ys.getD i 0 then -1 else if xs.getD i 0 > ys.getD i 0 then 1 else Jj (xs.drop (i + 1)) (ys.drop (i + 1)) := by
  rw [h, List.drop_eq_getElem_cons h1, List.drop_eq_getElem_cons h2, Ja h1, Ja h2]
  rfl
theorem Jfa {xs ys : ZI} {i : Nat} (h : Jj xs ys = Jj (xs.drop i) (ys.drop i)) (h1 : i < xs.length) (h2 : ys.length ≤ i) : Jj xs ys = 1 := by
  rw [h, List.drop_eq_getElem_cons h1, List.drop_eq_nil_of_le h2]
  rfl
theorem J6L {xs ys : ZI} {i : Nat} (h : Jj xs ys = Jj (xs.drop i) (ys.drop i)) (h1 : xs.length ≤ i) (h2 : i ≤ ys.length) (h3 : i = xs.length) : Jj xs ys = if xs.length < ys.length then -1 else 0 := by
  rw [h, List.drop_eq_nil_of_le h1]
  by_cases e : xs.length < ys.length
  · rw [if_pos e, List.drop_eq_getElem_cons (by omega)]
    rfl
  rw [if_neg e, List.drop_eq_nil_of_le (by omega)]
  rfl
def J9P (f : FuncId) (ds : List D) : Orc := .no
def J9d (x : Int) : Ann := .none
def J5H (x : Int) : Prop :=
  (((x != x) = false))
theorem J8K (x : Int)   : J5H x := by
  unfold J5H
  simp
theorem J5a (x : Int)  : PC Tryz.prog 236 [.int .i64 x] (.one (.d (.bool false))) :=
  pc_wf @Tryz.call236 fun _ => pc_by (by kernel_rfl) Tryz.func236 @Tryz.call236 (by kernel_rfl) J9P (J9d x) (by kernel_rfl) (J8K x) (by kernel_rfl)
def J7Q : List D → Orc := orcN [none] fun ds => match ds with
  | [.int .i64 x] => some (.one (.d (.bool false)))
  | _ => none
def J8g (f : FuncId) (ds : List D) : Orc := bif Nat.beq f 236 then J7Q ds else .no
def J7C (a : Int) (b : Int) : Ann := .two (.none) (.two (.none) (.two (.none) (.two (.two (.none) (.goF (.none))) (.two (.two (.none) (.goF (.none))) (.none)))))
def J4S (a : Int) (b : Int) : Prop :=
  (PC Tryz.prog 236 [.int .i64 a] (.one (.d (.bool false)))) ∧ (PC Tryz.prog 236 [.int .i64 b] (.one (.d (.bool false)))) ∧ (false = false) ∧ (false = false) ∧ (((decide (a < b)) = true → ((((-1) : Int) = (J18 a b)))) ∧ ((decide (a < b)) = false → (((decide (a > b)) = true → (((1 : Int) = (J18 a b)))) ∧ ((decide (a > b)) = false → (((0 : Int) = (J18 a b)))))))
theorem J7t (a : Int) (b : Int)   : J4S a b := by
  unfold J4S
  refine ⟨J5a a, J5a b, rfl, rfl, ?_, ?_⟩
  ·intro b1
   try simp only [nrmT] at b1
   unfold J18; first | rw [if_pos (by omega)] | rw [if_neg (by omega), if_pos (by omega)] | rw [if_neg (by omega), if_neg (by omega)]
  intro b2
  try simp only [nrmT] at b2
  refine ⟨?_, ?_⟩
  ·intro b3
   try simp only [nrmT] at b3
   unfold J18; first | rw [if_pos (by omega)] | rw [if_neg (by omega), if_pos (by omega)] | rw [if_neg (by omega), if_neg (by omega)]
  intro b4
  try simp only [nrmT] at b4
  unfold J18; first | rw [if_pos (by omega)] | rw [if_neg (by omega), if_pos (by omega)] | rw [if_neg (by omega), if_neg (by omega)]
theorem J4k (a : Int) (b : Int)  : PC Tryz.prog 216 [.int .i64 a, .int .i64 b] (.one (.d (.int .i64 (J18 a b)))) :=
  pc_wf @Tryz.call216 fun _ => pc_by (by kernel_rfl) Tryz.func216 @Tryz.call216 (by kernel_rfl) J8g (J7C a b) (by kernel_rfl) (J7t a b) (by kernel_rfl)
def J3O : List D → Orc := orcN [none, none] fun ds => match ds with
  | [.int .i64 a, .int .i64 b] => some (.one (.d (.int .i64 (J18 a b))))
  | _ => none
abbrev JU (xs : ZI) (ys : ZI) (i : Int) : Prop := (0 ≤ i) ∧ (i ≤ (xs.length : Int)) ∧ (i ≤ (ys.length : Int)) ∧ (Jj xs ys = Jj (xs.drop i.toNat) (ys.drop i.toNat))
abbrev JT (xs : ZI) (ys : ZI) (i : Int) : Nat := (xs.length - i).toNat
def J5i (f : FuncId) (ds : List D) : Orc := bif Nat.beq f 216 then J3O ds else .no
def J5m (xs : ZI) (ys : ZI) : Ann := .two (.none) (.two (.two (.none) (.loop (cut1 (fun (i : Int) => JU xs ys i) (fun (i : Int) => [(0, .d false (.sl (.ints xs))), (1, .d false (.sl (.ints ys))), (9, .d false (.sl (.ints xs))), (10, .d true (.int .i64 (xs.length : Int))), (11, .d true (.int .i64 i))]) (fun (i : Int) => [])) (fun g => JT xs ys g) (fun _ => .none))) (.none))
def J1U (xs : ZI) (ys : ZI) : Prop :=
  ((∃ i' : Int, (JU xs ys i') ∧ (xs = xs) ∧ (ys = ys) ∧ (xs = xs) ∧ ((xs.length : Int) = (xs.length : Int)) ∧ ((0 : Int) = i')) ∧ (∀ i : Int, (JU xs ys i) → (((decide (i < (xs.length : Int))) = true → ((0 : Int) ≤ i) ∧ ((i : Int) < xs.length) ∧ (i.toNat < xs.length) ∧ (((decide (i ≥ (ys.length : Int))) = true → (((1 : Int) = (Jj xs ys)))) ∧ ((decide (i ≥ (ys.length : Int))) = false → ((0 : Int) ≤ i) ∧ ((i : Int) < ys.length) ∧ (i.toNat < ys.length) ∧ (PC Tryz.prog 216 [.int .i64 (xs.getD i.toNat 0), .int .i64 (ys.getD i.toNat 0)] (.one (.d (.int .i64 (J18 (xs.getD i.toNat 0) (ys.getD i.toNat 0)))))) ∧ ((((J18 (xs.getD i.toNat 0) (ys.getD i.toNat 0)) != 0) = true → (((J18 (xs.getD i.toNat 0) (ys.getD i.toNat 0)) = (Jj xs ys)))) ∧ (((J18 (xs.getD i.toNat 0) (ys.getD i.toNat 0)) != 0) = false → (I6 (i + 1)) ∧ (∃ i' : Int, (JU xs ys i') ∧ (JT xs ys i' < JT xs ys i) ∧ (xs = xs) ∧ (ys = ys) ∧ (xs = xs) ∧ ((xs.length : Int) = (xs.length : Int)) ∧ ((i + 1) = i'))))))) ∧ ((decide (i < (xs.length : Int))) = false → (((decide ((xs.length : Int) < (ys.length : Int))) = true → ((((-1) : Int) = (Jj xs ys)))) ∧ ((decide ((xs.length : Int) < (ys.length : Int))) = false → (((0 : Int) = (Jj xs ys)))))))))
theorem J4Y (xs : ZI) (ys : ZI)  (w_xs : (xs.length : Int) ≤ 9223372036854775807) (w_ys : (ys.length : Int) ≤ 9223372036854775807) : J1U xs ys := by
  unfold J1U
  refine ⟨?_, ?_⟩
  ·refine ⟨0, ?_⟩
   refine ⟨?_, rfl, rfl, rfl, rfl, rfl⟩
   ·refine ⟨?_, ?_, ?_, ?_⟩
    ·omega
    ·omega
    ·omega
    ·rfl
  intro i hJ
  obtain ⟨h1, h2, h2y, h3⟩ := hJ
  refine ⟨?_, ?_⟩
  ·intro b1
   try simp only [nrmT] at b1
   refine ⟨?_, ?_, ?_, ?_, ?_⟩
   ·omega
   ·omega
   ·omega
   ·intro b2
    try simp only [nrmT] at b2
    exact (Jfa h3 (by omega) (by omega)).symm
   intro b3
   try simp only [nrmT] at b3
   refine ⟨?_, ?_, ?_, J4k (xs.getD i.toNat 0) (ys.getD i.toNat 0), ?_, ?_⟩
   ·omega
   ·omega
   ·omega
   ·intro b4
    try simp only [nrmT] at b4
    rw [J3t h3 (by omega) (by omega)]
    unfold J18 at b4 ⊢
    by_cases h5 : xs.getD i.toNat 0 < ys.getD i.toNat 0
    · rw [if_pos h5, if_pos h5]
    rw [if_neg h5] at b4 ⊢
    by_cases h6 : xs.getD i.toNat 0 > ys.getD i.toNat 0
    · rw [if_pos h6, if_neg h5, if_pos h6]
    rw [if_neg h6] at b4; omega
   intro b5
   try simp only [nrmT] at b5
   refine ⟨?_, ?_⟩
   ·omega
   refine ⟨(i + 1), ?_⟩
   refine ⟨?_, ?_, rfl, rfl, rfl, rfl, rfl⟩
   ·refine ⟨?_, ?_, ?_, ?_⟩
    ·omega
    ·omega
    ·omega
    ·have h7 := J3t h3 (by omega) (by omega)
     unfold J18 at b5
     rw [h7, show (i + 1).toNat = i.toNat + 1 by omega]
     by_cases h5 : xs.getD i.toNat 0 < ys.getD i.toNat 0
     · rw [if_pos h5] at b5; omega
     rw [if_neg h5] at b5 ⊢
     by_cases h6 : xs.getD i.toNat 0 > ys.getD i.toNat 0
     · rw [if_pos h6] at b5; omega
     rw [if_neg h6]
   (simp only [JT]; omega)
  intro b6
  try simp only [nrmT] at b6
  refine ⟨?_, ?_⟩
  ·intro b7
   try simp only [nrmT] at b7
   rw [J6L h3 (by omega) (by omega) (by omega), if_pos (by omega)]
  intro b8
  try simp only [nrmT] at b8
  rw [J6L h3 (by omega) (by omega) (by omega), if_neg (by omega)]
theorem J1F (xs : ZI) (ys : ZI)  : PC Tryz.prog 198 [.sl (.ints xs), .sl (.ints ys)] (.one (.d (.int .i64 (Jj xs ys)))) :=
  pc_wf @Tryz.call198 fun hw => pc_by (by kernel_rfl) Tryz.func198 @Tryz.call198 (by kernel_rfl) J5i (J5m xs ys) (by kernel_rfl) (J4Y xs ys hw.1 hw.2.1) (by kernel_rfl)
def J1x : List D → Orc := orcN [some .ints, some .ints] fun ds => match ds with
  | [.sl (.ints xs), .sl (.ints ys)] => some (.one (.d (.int .i64 (Jj xs ys))))
  | _ => none
abbrev J41 (xs : ZI) (ys : ZI) (i : Int) : Prop := (0 ≤ i) ∧ (i ≤ (xs.length : Int)) ∧ (Jj xs ys = Jj (xs.drop i.toNat) (ys.drop i.toNat))
abbrev J3N (xs : ZI) (ys : ZI) (i : Int) : Nat := (xs.length - i).toNat
def Jf5 (f : FuncId) (ds : List D) : Orc := .no
def Jf6 (xs : ZI) (ys : ZI) : Ann := .two (.none) (.two (.two (.none) (.loop (cut1 (fun (i : Int) => J41 xs ys i) (fun (i : Int) => [(0, .d false (.sl (.ints xs))), (1, .d false (.sl (.ints ys))), (5, .d true (.int .i64 i))]) (fun (i : Int) => [])) (fun g => J3N xs ys g) (fun _ => .none))) (.none))
def JaK (xs : ZI) (ys : ZI) : Prop :=
  ((∃ i' : Int, (J41 xs ys i') ∧ (xs = xs) ∧ (ys = ys) ∧ ((0 : Int) = i')) ∧ (∀ i : Int, (J41 xs ys i) → (((decide (i < (xs.length : Int))) = true → (true = true) ∧ ((0 : Int) ≤ i) ∧ ((i : Int) < xs.length) ∧ (i.toNat < xs.length) ∧ ((0 : Int) ≤ i) ∧ ((i : Int) < ys.length) ∧ (i.toNat < ys.length) ∧ ((((xs.getD i.toNat 0) != (ys.getD i.toNat 0)) = true → (true = true) ∧ ((0 : Int) ≤ i) ∧ ((i : Int) < xs.length) ∧ (i.toNat < xs.length) ∧ ((0 : Int) ≤ i) ∧ ((i : Int) < ys.length) ∧ (i.toNat < ys.length) ∧ (((decide ((xs.getD i.toNat 0) < (ys.getD i.toNat 0))) = (decide (Jj xs ys < 0))))) ∧ (((xs.getD i.toNat 0) != (ys.getD i.toNat 0)) = false → (I6 (i + 1)) ∧ (∃ i' : Int, (J41 xs ys i') ∧ (J3N xs ys i' < J3N xs ys i) ∧ (xs = xs) ∧ (ys = ys) ∧ ((i + 1) = i'))))) ∧ ((decide (i < (xs.length : Int))) = false → ((false = (decide (Jj xs ys < 0))))))))
theorem JdN (xs : ZI) (ys : ZI) (hl : xs.length = ys.length) (w_xs : (xs.length : Int) ≤ 9223372036854775807) (w_ys : (ys.length : Int) ≤ 9223372036854775807) : JaK xs ys := by
  unfold JaK
  refine ⟨?_, ?_⟩
  ·refine ⟨0, ?_⟩
   refine ⟨?_, rfl, rfl, rfl⟩
   ·refine ⟨?_, ?_, ?_⟩
    ·omega
    ·omega
    ·rfl
  intro i hJ
  obtain ⟨h1, h2, h3⟩ := hJ
  refine ⟨?_, ?_⟩
  ·intro b1
   try simp only [nrmT] at b1
   refine ⟨rfl, ?_, ?_, ?_, ?_, ?_, ?_, ?_, ?_⟩
   ·omega
   ·omega
   ·omega
   ·omega
   ·omega
   ·omega
   ·intro b2
    try simp only [nrmT] at b2
    refine ⟨rfl, ?_, ?_, ?_, ?_, ?_, ?_, ?_⟩
    ·omega
    ·omega
    ·omega
    ·omega
    ·omega
    ·omega
    rw [J3t h3 (by omega) (by omega)]
    by_cases h5 : xs.getD i.toNat 0 < ys.getD i.toNat 0
    · rw [if_pos h5, decide_eq_true h5]; rfl
    rw [if_neg h5, if_pos (by omega), decide_eq_false h5]; rfl
   intro b3
   try simp only [nrmT] at b3
   refine ⟨?_, ?_⟩
   ·omega
   refine ⟨(i + 1), ?_⟩
   refine ⟨?_, ?_, rfl, rfl, rfl⟩
   ·refine ⟨?_, ?_, ?_⟩
    ·omega
    ·omega
    ·rw [J3t h3 (by omega) (by omega), show (i + 1).toNat = i.toNat + 1 by omega, if_neg (by omega), if_neg (by omega)]
   (simp only [J3N]; omega)
  intro b4
  try simp only [nrmT] at b4
  rw [J6L h3 (by omega) (by omega) (by omega), if_neg (by omega)]; rfl
theorem JdF (xs : ZI) (ys : ZI) (hl : xs.length = ys.length) : PC Tryz.prog 199 [.sl (.ints xs), .sl (.ints ys)] (.one (.d (.bool (decide (Jj xs ys < 0))))) :=
  pc_wf @Tryz.call199 fun hw => pc_by (by kernel_rfl) Tryz.func199 @Tryz.call199 (by kernel_rfl) Jf5 (Jf6 xs ys) (by kernel_rfl) (JdN xs ys hl hw.1 hw.2.1) (by kernel_rfl)
def JcX : List D → Orc := orcN [some .ints, some .ints] fun ds => match ds with
  | [.sl (.ints xs), .sl (.ints ys)] => some (.one (.d (.bool (decide (Jj xs ys < 0)))))
  | _ => none
def lst (n code : Nat) : ZI := members (fun k => code.testBit k) n
def lfF (n : Nat) (E : ZR) (r : Int) (best : ZI) (code : Nat) : ZI :=
  if ((decide ((lst E.length code).length > best.length) || (decide ((lst E.length code).length = best.length) && decide (Jj (lst E.length code) best < 0))) && J0w n E (lst E.length code) r) = true then lst E.length code else best
def J0i (n : Nat) (E : ZR) (r : Int) (k : Nat) : ZI := foldTo (lfF n E r) [] k
theorem J4R (n : Nat) (E : ZR) (r : Int) (k : Nat) : J0i n E r (k + 1) = lfF n E r (J0i n E r k) k := rfl
theorem Ja6 {n code : Nat} : ∀ x ∈ lst n code, 0 ≤ x ∧ x < (n : Int) := fun x hx => by
  have := mem_members.1 hx
  omega
theorem Jgv {n code : Nat} : (lst n code).length ≤ n := members_len_le _ _
theorem JcZ (n : Nat) : lst n 0 = [] := by
  unfold lst members
  rw [List.filter_eq_nil_iff.2 (by simp)]
  rfl
theorem Jge (n : Nat) (E : ZR) (r : Int) : J0i n E r 1 = [] := by
  show lfF n E r [] 0 = []
  unfold lfF
  rw [JcZ]
  simp
theorem JcG {n code : Nat} (hn : n ≤ 62) (h : code < 2 ^ n) : members (fun k => code.testBit k) 62 = lst n code :=
  J1v (fun k hk => Nat.testBit_lt_two_pow (Nat.lt_of_lt_of_le h (Nat.pow_le_pow_right (by omega) hk))) 62 hn
theorem Jez : ∀ a b c d : Bool, cond (cond a true (cond b c false)) d false = ((a || (b && c)) && d) := by decide
theorem JaP (m n : Nat) : decide ((m : Int) > (n : Int)) = decide (m > n) := by
  rw [Bool.eq_iff_iff]; simp only [decide_eq_true_eq]; omega
theorem J4p (n : Nat) : (1 : Int) * 2 ^ ((n : Int)).toNat = ((2 ^ n : Nat) : Int) := by
  rw [Int.toNat_natCast]; simp
abbrev J27 (U : ZI) (E : ZR) (r : Int) (best : ZI) (code : Int) : Prop := (0 ≤ code) ∧ (code ≤ ((2 ^ E.length : Nat) : Int)) ∧ (best = J0i U.length E r code.toNat)
abbrev J21 (U : ZI) (E : ZR) (r : Int) (best : ZI) (code : Int) : Nat := (2 ^ E.length - code.toNat)
def Jev (f : FuncId) (ds : List D) : Orc := bif Nat.beq f 142 then J5C ds else bif Nat.beq f 199 then JcX ds else bif Nat.beq f 165 then JdH ds else .no
def Jfb (U : ZI) (E : ZR) (r : Int) : Ann := .two (.none) (.two (.reg [(0, .frz)]) (.two (.two (.none) (.loop (cut2 (fun (best : ZI) (code : Int) => J27 U E r best code) (fun (best : ZI) (code : Int) => [(1, .d false (.int .i64 r)), (2, .ptr 2 0), (5, .d true (.sl (.ints best))), (6, .d true (.int .i64 code))]) (fun (best : ZI) (code : Int) => [(2, .box 27 [.d false (.sl (.ints U)), .d false (.sl (.rows E))])])) (fun g => J21 U E r g.1 g.2) (fun _ => .none))) (.none)))
def JH (E : ZR) (best : ZI) (code : Int) : Bool := (cond (decide ((((members (fun k => code.toNat.testBit k) (E.length : Int).toNat).length) : Int) > (best.length : Int))) true (cond ((((members (fun k => code.toNat.testBit k) (E.length : Int).toNat).length) : Int) == (best.length : Int)) (decide (Jj (members (fun k => code.toNat.testBit k) (E.length : Int).toNat) best < 0)) false))
def JaH (U : ZI) (E : ZR) (r : Int) : Prop :=
  ((∃ best' : ZI, ∃ code' : Int, (J27 U E r best' code') ∧ (r = r) ∧ ([] = best') ∧ ((0 : Int) = code') ∧ (U = U) ∧ (E = E)) ∧ (∀ best : ZI, ∀ code : Int, (J27 U E r best code) → ((0 : Int) ≤ 1) ∧ ((0 : Int) ≤ (E.length : Int)) ∧ ((0 : Int) ≤ ((1 : Int) * 2 ^ ((E.length : Int).toNat)) ∧ (((1 : Int) * 2 ^ ((E.length : Int).toNat)) : Int) ≤ 9223372036854775807) ∧ (((decide (code < ((1 : Int) * 2 ^ ((E.length : Int).toNat)))) = true → (PC Tryz.prog 142 [.int .i64 (E.length : Int), .int .i64 code] (.one (.d (.sl (.ints (members (fun k => code.toNat.testBit k) (E.length : Int).toNat)))))) ∧ ((!(decide ((((members (fun k => code.toNat.testBit k) (E.length : Int).toNat).length) : Int) > (best.length : Int)))) = true → (!(decide ((((members (fun k => code.toNat.testBit k) (E.length : Int).toNat).length) : Int) > (best.length : Int)))) = true) ∧ ((!(decide ((((members (fun k => code.toNat.testBit k) (E.length : Int).toNat).length) : Int) > (best.length : Int)))) = true → (!(decide ((((members (fun k => code.toNat.testBit k) (E.length : Int).toNat).length) : Int) > (best.length : Int)))) = true) ∧ ((!(decide ((((members (fun k => code.toNat.testBit k) (E.length : Int).toNat).length) : Int) > (best.length : Int)))) = true → (!(decide ((((members (fun k => code.toNat.testBit k) (E.length : Int).toNat).length) : Int) > (best.length : Int)))) = true) ∧ ((!(decide ((((members (fun k => code.toNat.testBit k) (E.length : Int).toNat).length) : Int) > (best.length : Int)))) = true → (!(decide ((((members (fun k => code.toNat.testBit k) (E.length : Int).toNat).length) : Int) > (best.length : Int)))) = true) ∧ ((!(decide ((((members (fun k => code.toNat.testBit k) (E.length : Int).toNat).length) : Int) > (best.length : Int)))) = true → (!(decide ((((members (fun k => code.toNat.testBit k) (E.length : Int).toNat).length) : Int) > (best.length : Int)))) = true) ∧ (((!(decide ((((members (fun k => code.toNat.testBit k) (E.length : Int).toNat).length) : Int) > (best.length : Int)))) && ((((members (fun k => code.toNat.testBit k) (E.length : Int).toNat).length) : Int) == (best.length : Int))) = true → ((!(decide ((((members (fun k => code.toNat.testBit k) (E.length : Int).toNat).length) : Int) > (best.length : Int)))) && ((((members (fun k => code.toNat.testBit k) (E.length : Int).toNat).length) : Int) == (best.length : Int))) = true) ∧ (((!(decide ((((members (fun k => code.toNat.testBit k) (E.length : Int).toNat).length) : Int) > (best.length : Int)))) && ((((members (fun k => code.toNat.testBit k) (E.length : Int).toNat).length) : Int) == (best.length : Int))) = true → ((!(decide ((((members (fun k => code.toNat.testBit k) (E.length : Int).toNat).length) : Int) > (best.length : Int)))) && ((((members (fun k => code.toNat.testBit k) (E.length : Int).toNat).length) : Int) == (best.length : Int))) = true) ∧ (((!(decide ((((members (fun k => code.toNat.testBit k) (E.length : Int).toNat).length) : Int) > (best.length : Int)))) && ((((members (fun k => code.toNat.testBit k) (E.length : Int).toNat).length) : Int) == (best.length : Int))) = true → PC Tryz.prog 199 [.sl (.ints (members (fun k => code.toNat.testBit k) (E.length : Int).toNat)), .sl (.ints best)] (.one (.d (.bool (decide (Jj (members (fun k => code.toNat.testBit k) (E.length : Int).toNat) best < 0)))))) ∧ (((!(decide ((((members (fun k => code.toNat.testBit k) (E.length : Int).toNat).length) : Int) > (best.length : Int)))) = true → (!(decide ((((members (fun k => code.toNat.testBit k) (E.length : Int).toNat).length) : Int) > (best.length : Int)))) = true)) ∧ (((!(decide ((((members (fun k => code.toNat.testBit k) (E.length : Int).toNat).length) : Int) > (best.length : Int)))) = true → ((((members (fun k => code.toNat.testBit k) (E.length : Int).toNat).length) : Int) == (best.length : Int)) = true → ((!(decide ((((members (fun k => code.toNat.testBit k) (E.length : Int).toNat).length) : Int) > (best.length : Int)))) && ((((members (fun k => code.toNat.testBit k) (E.length : Int).toNat).length) : Int) == (best.length : Int))) = true)) ∧ (((!(decide ((((members (fun k => code.toNat.testBit k) (E.length : Int).toNat).length) : Int) > (best.length : Int)))) = true → ((((members (fun k => code.toNat.testBit k) (E.length : Int).toNat).length) : Int) == (best.length : Int)) = false → true = true)) ∧ (true = true) ∧ (((decide ((((members (fun k => code.toNat.testBit k) (E.length : Int).toNat).length) : Int) > (best.length : Int))) = true → true = true)) ∧ (((decide ((((members (fun k => code.toNat.testBit k) (E.length : Int).toNat).length) : Int) > (best.length : Int))) = false → (!(decide ((((members (fun k => code.toNat.testBit k) (E.length : Int).toNat).length) : Int) > (best.length : Int)))) = true)) ∧ ((JH E best code) = true → (JH E best code) = true) ∧ ((JH E best code) = true → (JH E best code) = true) ∧ ((JH E best code) = true → (JH E best code) = true) ∧ ((JH E best code) = true → PC Tryz.prog 165 [.agg [.sl (.ints U), .sl (.rows E)], .sl (.ints (members (fun k => code.toNat.testBit k) (E.length : Int).toNat)), .int .i64 r] (.one (.d (.bool (J0w U.length E (members (fun k => code.toNat.testBit k) (E.length : Int).toNat) r))))) ∧ (true = true) ∧ (((JH E best code) = true → (JH E best code) = true)) ∧ (((JH E best code) = false → true = true)) ∧ (((cond (JH E best code) (J0w U.length E (members (fun k => code.toNat.testBit k) (E.length : Int).toNat) r) false) = true → (I6 (code + 1)) ∧ (∃ best' : ZI, ∃ code' : Int, (J27 U E r best' code') ∧ (J21 U E r best' code' < J21 U E r best code) ∧ (r = r) ∧ ((members (fun k => code.toNat.testBit k) (E.length : Int).toNat) = best') ∧ ((code + 1) = code') ∧ (U = U) ∧ (E = E))) ∧ ((cond (JH E best code) (J0w U.length E (members (fun k => code.toNat.testBit k) (E.length : Int).toNat) r) false) = false → (I6 (code + 1)) ∧ (∃ best' : ZI, ∃ code' : Int, (J27 U E r best' code') ∧ (J21 U E r best' code' < J21 U E r best code) ∧ (r = r) ∧ (best = best') ∧ ((code + 1) = code') ∧ (U = U) ∧ (E = E))))) ∧ ((decide (code < ((1 : Int) * 2 ^ ((E.length : Int).toNat)))) = false → (((best : ZI) = (J0i U.length E r (2 ^ E.length))))))))
theorem Je9 (U : ZI) (E : ZR) (r : Int) (hf : J0 U E = true) (w_Open : (U.length : Int) ≤ 9223372036854775807) (w_Dist : (E.length : Int) ≤ 9223372036854775807) (v_Dist : ∀ x9 ∈ E, (x9.length : Int) ≤ 9223372036854775807) : JaH U E r := by
  unfold JaH JH
  obtain ⟨g1, g2, g3⟩ := Jb hf
  have p7 := JaU (n := E.length) (by omega)
  have pp := Nat.two_pow_pos E.length
  have e0 := J4p E.length
  refine ⟨?_, ?_⟩
  ·refine ⟨([]), 0, ?_⟩
   refine ⟨?_, rfl, ?_, rfl, rfl, rfl⟩
   ·refine ⟨?_, ?_, ?_⟩
    ·omega
    ·omega
    ·rfl
   rfl
  intro best code hJ
  obtain ⟨h1, h2, h3⟩ := hJ
  refine ⟨?_, ?_, ?_, ?_, ?_⟩
  ·omega
  ·omega
  ·rw [e0]
   generalize 2 ^ E.length = M at *
   omega
  ·intro b1
   try simp only [nrmT] at b1
   refine ⟨?_, id, id, id, id, id, id, id, ?_, id, ?_, fun _ _ => rfl, rfl, fun _ => rfl, ?_, id, id, id, ?_, rfl, id, fun _ => rfl, ?_, ?_⟩
   ·refine J6j (E.length : Int) code ?_ ?_
    ·omega
    ·rw [e0] at b1
     generalize 2 ^ E.length = M at *
     omega
   ·intro hg
    refine JdF (members (fun k => code.toNat.testBit k) (E.length : Int).toNat) best ?_
    ·simp only [Bool.and_eq_true, beq_iff_eq] at hg; omega
   ·intro g1 g2; rw [g1, g2]; rfl
   ·intro h; rw [h]; rfl
   ·intro hg
    refine JeR U E (members (fun k => code.toNat.testBit k) (E.length : Int).toNat) r ?_ ?_
    ·exact hf
    have el : members (fun k => code.toNat.testBit k) (E.length : Int).toNat = lst E.length code.toNat := by rw [Int.toNat_natCast]; rfl
    rw [el]; exact Ja6
   ·intro b2
    refine ⟨?_, ?_⟩
    ·rw [e0] at b1
     generalize 2 ^ E.length = M at *
     omega
    refine ⟨(members (fun k => code.toNat.testBit k) (E.length : Int).toNat), (code + 1), ?_⟩
    refine ⟨?_, ?_, rfl, rfl, rfl, rfl, rfl⟩
    ·refine ⟨?_, ?_, ?_⟩
     ·omega
     ·rw [e0] at b1
      generalize 2 ^ E.length = M at *
      omega
     ·have el : members (fun k => code.toNat.testBit k) (E.length : Int).toNat = lst E.length code.toNat := by rw [Int.toNat_natCast]; rfl
      rw [el] at b2 ⊢
      rw [Jez, JaP, J8l] at b2
      rw [show (code + 1).toNat = code.toNat + 1 by omega, J4R, ← h3]
      unfold lfF
      rw [if_pos b2]
    rw [e0] at b1
    show 2 ^ E.length - (code + 1).toNat < 2 ^ E.length - code.toNat
    generalize 2 ^ E.length = M at *
    omega
   intro b3
   refine ⟨?_, ?_⟩
   ·rw [e0] at b1
    generalize 2 ^ E.length = M at *
    omega
   refine ⟨best, (code + 1), ?_⟩
   refine ⟨?_, ?_, rfl, rfl, rfl, rfl, rfl⟩
   ·refine ⟨?_, ?_, ?_⟩
    ·omega
    ·rw [e0] at b1
     generalize 2 ^ E.length = M at *
     omega
    ·have el : members (fun k => code.toNat.testBit k) (E.length : Int).toNat = lst E.length code.toNat := by rw [Int.toNat_natCast]; rfl
     rw [el] at b3
     rw [Jez, JaP, J8l] at b3
     rw [show (code + 1).toNat = code.toNat + 1 by omega, J4R, ← h3]
     unfold lfF
     rw [if_neg (by rw [b3]; decide)]
   rw [e0] at b1
   show 2 ^ E.length - (code + 1).toNat < 2 ^ E.length - code.toNat
   generalize 2 ^ E.length = M at *
   omega
  intro b4
  try simp only [nrmT] at b4
  have ec : code.toNat = 2 ^ E.length := by rw [e0] at b4; omega
  rw [h3, ec]
theorem JdJ (U : ZI) (E : ZR) (r : Int) (hf : J0 U E = true) : PC Tryz.prog 106 [.agg [.sl (.ints U), .sl (.rows E)], .int .i64 r] (.one (.d (.sl (.ints (J0i U.length E r (2 ^ E.length)))))) :=
  pc_wf @Tryz.call106 fun hw => pc_by (by kernel_rfl) Tryz.func106 @Tryz.call106 (by kernel_rfl) Jev (Jfb U E r) (by kernel_rfl) (Je9 U E r hf hw.1.1 hw.1.2.1.1 hw.1.2.1.2) (by kernel_rfl)
def JcQ : List D → Orc := orcN [none, none] fun ds => match ds with
  | [.agg [.sl (.ints U), .sl (.rows E)], .int .i64 r] => some (.one (.d (.sl (.ints (J0i U.length E r (2 ^ E.length))))))
  | _ => none
abbrev JO (U : ZI) (E : ZR) (r : Int) (best : ZI) (b : Int) : Prop := (1 ≤ b) ∧ (b ≤ ((2 ^ E.length : Nat) : Int)) ∧ (best = J0i U.length E r b.toNat)
abbrev JL (U : ZI) (E : ZR) (r : Int) (best : ZI) (b : Int) : Nat := (2 ^ E.length - b.toNat)
def J6g (f : FuncId) (ds : List D) : Orc := bif Nat.beq f 139 then J6s ds else bif Nat.beq f 198 then J1x ds else bif Nat.beq f 163 then J7M ds else .no
def J6l (U : ZI) (E : ZR) (r : Int) : Ann := .two (.none) (.two (.none) (.two (.two (.none) (.loop (cut2 (fun (best : ZI) (b : Int) => JO U E r best b) (fun (best : ZI) (b : Int) => [(1, .d false (.int .i64 r)), (2, .ptr 2 0), (5, .own 1000000 best.length), (6, .d true (.int .u64 b))]) (fun (best : ZI) (b : Int) => [(1000000, .arr true 3 (.ints best)), (2, .box 27 [.d false (.sl (.ints U)), .d false (.sl (.rows E))])])) (fun g => JL U E r g.1 g.2) (fun _ => .none))) (.none)))
def Jd (best : ZI) (b : Int) : Bool := (cond (decide ((((members (fun k => b.toNat.testBit k) 62).length) : Int) > (best.length : Int))) true (cond ((((members (fun k => b.toNat.testBit k) 62).length) : Int) == (best.length : Int)) (decide ((Jj (members (fun k => b.toNat.testBit k) 62) best) < 0)) false))
def J2Y (U : ZI) (E : ZR) (r : Int) : Prop :=
  ((∃ best' : ZI, ∃ b' : Int, (JO U E r best' b') ∧ (r = r) ∧ ((0 : Nat) = best'.length) ∧ ((1 : Int) = b') ∧ ([] = best') ∧ (U = U) ∧ (E = E)) ∧ (∀ best : ZI, ∀ b : Int, (JO U E r best b) → ((0 : Int) ≤ 1) ∧ ((0 : Int) ≤ (E.length : Int)) ∧ ((0 : Int) ≤ ((1 : Int) * 2 ^ ((E.length : Int).toNat)) ∧ (((1 : Int) * 2 ^ ((E.length : Int).toNat)) : Int) ≤ 18446744073709551615) ∧ (((decide (b < ((1 : Int) * 2 ^ ((E.length : Int).toNat)))) = true → (PC Tryz.prog 139 [.int .u64 b] (.one (.own 3 (.ints (members (fun k => b.toNat.testBit k) 62))))) ∧ ((!(decide ((((members (fun k => b.toNat.testBit k) 62).length) : Int) > (best.length : Int)))) = true → (!(decide ((((members (fun k => b.toNat.testBit k) 62).length) : Int) > (best.length : Int)))) = true) ∧ ((!(decide ((((members (fun k => b.toNat.testBit k) 62).length) : Int) > (best.length : Int)))) = true → (!(decide ((((members (fun k => b.toNat.testBit k) 62).length) : Int) > (best.length : Int)))) = true) ∧ ((!(decide ((((members (fun k => b.toNat.testBit k) 62).length) : Int) > (best.length : Int)))) = true → (!(decide ((((members (fun k => b.toNat.testBit k) 62).length) : Int) > (best.length : Int)))) = true) ∧ ((!(decide ((((members (fun k => b.toNat.testBit k) 62).length) : Int) > (best.length : Int)))) = true → (!(decide ((((members (fun k => b.toNat.testBit k) 62).length) : Int) > (best.length : Int)))) = true) ∧ ((!(decide ((((members (fun k => b.toNat.testBit k) 62).length) : Int) > (best.length : Int)))) = true → (!(decide ((((members (fun k => b.toNat.testBit k) 62).length) : Int) > (best.length : Int)))) = true) ∧ (((!(decide ((((members (fun k => b.toNat.testBit k) 62).length) : Int) > (best.length : Int)))) && ((((members (fun k => b.toNat.testBit k) 62).length) : Int) == (best.length : Int))) = true → ((!(decide ((((members (fun k => b.toNat.testBit k) 62).length) : Int) > (best.length : Int)))) && ((((members (fun k => b.toNat.testBit k) 62).length) : Int) == (best.length : Int))) = true) ∧ (((!(decide ((((members (fun k => b.toNat.testBit k) 62).length) : Int) > (best.length : Int)))) && ((((members (fun k => b.toNat.testBit k) 62).length) : Int) == (best.length : Int))) = true → ((!(decide ((((members (fun k => b.toNat.testBit k) 62).length) : Int) > (best.length : Int)))) && ((((members (fun k => b.toNat.testBit k) 62).length) : Int) == (best.length : Int))) = true) ∧ ((((!(decide ((((members (fun k => b.toNat.testBit k) 62).length) : Int) > (best.length : Int)))) && ((((members (fun k => b.toNat.testBit k) 62).length) : Int) == (best.length : Int))) = true → (members (fun k => b.toNat.testBit k) 62).length = (members (fun k => b.toNat.testBit k) 62).length)) ∧ ((((!(decide ((((members (fun k => b.toNat.testBit k) 62).length) : Int) > (best.length : Int)))) && ((((members (fun k => b.toNat.testBit k) 62).length) : Int) == (best.length : Int))) = true → best.length = best.length)) ∧ (((!(decide ((((members (fun k => b.toNat.testBit k) 62).length) : Int) > (best.length : Int)))) && ((((members (fun k => b.toNat.testBit k) 62).length) : Int) == (best.length : Int))) = true → PC Tryz.prog 198 [.sl (.ints (members (fun k => b.toNat.testBit k) 62)), .sl (.ints best)] (.one (.d (.int .i64 (Jj (members (fun k => b.toNat.testBit k) 62) best))))) ∧ (((!(decide ((((members (fun k => b.toNat.testBit k) 62).length) : Int) > (best.length : Int)))) && ((((members (fun k => b.toNat.testBit k) 62).length) : Int) == (best.length : Int))) = true → ((!(decide ((((members (fun k => b.toNat.testBit k) 62).length) : Int) > (best.length : Int)))) && ((((members (fun k => b.toNat.testBit k) 62).length) : Int) == (best.length : Int))) = true) ∧ (((!(decide ((((members (fun k => b.toNat.testBit k) 62).length) : Int) > (best.length : Int)))) = true → (!(decide ((((members (fun k => b.toNat.testBit k) 62).length) : Int) > (best.length : Int)))) = true)) ∧ (((!(decide ((((members (fun k => b.toNat.testBit k) 62).length) : Int) > (best.length : Int)))) = true → ((((members (fun k => b.toNat.testBit k) 62).length) : Int) == (best.length : Int)) = true → ((!(decide ((((members (fun k => b.toNat.testBit k) 62).length) : Int) > (best.length : Int)))) && ((((members (fun k => b.toNat.testBit k) 62).length) : Int) == (best.length : Int))) = true)) ∧ (((!(decide ((((members (fun k => b.toNat.testBit k) 62).length) : Int) > (best.length : Int)))) = true → ((((members (fun k => b.toNat.testBit k) 62).length) : Int) == (best.length : Int)) = false → true = true)) ∧ (true = true) ∧ (((decide ((((members (fun k => b.toNat.testBit k) 62).length) : Int) > (best.length : Int))) = true → true = true)) ∧ (((decide ((((members (fun k => b.toNat.testBit k) 62).length) : Int) > (best.length : Int))) = false → (!(decide ((((members (fun k => b.toNat.testBit k) 62).length) : Int) > (best.length : Int)))) = true)) ∧ ((Jd best b) = true → (Jd best b) = true) ∧ ((Jd best b) = true → (Jd best b) = true) ∧ ((Jd best b) = true → (Jd best b) = true) ∧ (((Jd best b) = true → (members (fun k => b.toNat.testBit k) 62).length = (members (fun k => b.toNat.testBit k) 62).length)) ∧ ((Jd best b) = true → PC Tryz.prog 163 [.agg [.sl (.ints U), .sl (.rows E)], .sl (.ints (members (fun k => b.toNat.testBit k) 62)), .int .i64 r] (.one (.d (.bool (J0w U.length E (members (fun k => b.toNat.testBit k) 62) r))))) ∧ (true = true) ∧ (((Jd best b) = true → (Jd best b) = true)) ∧ (((Jd best b) = false → true = true)) ∧ (((cond (Jd best b) (J0w U.length E (members (fun k => b.toNat.testBit k) 62) r) false) = true → (0 ≤ (b + 1) ∧ (b + 1) ≤ 18446744073709551615) ∧ (∃ best' : ZI, ∃ b' : Int, (JO U E r best' b') ∧ (JL U E r best' b' < JL U E r best b) ∧ (r = r) ∧ ((members (fun k => b.toNat.testBit k) 62).length = best'.length) ∧ ((b + 1) = b') ∧ (members (fun k => b.toNat.testBit k) 62 = best') ∧ (U = U) ∧ (E = E))) ∧ ((cond (Jd best b) (J0w U.length E (members (fun k => b.toNat.testBit k) 62) r) false) = false → (0 ≤ (b + 1) ∧ (b + 1) ≤ 18446744073709551615) ∧ (∃ best' : ZI, ∃ b' : Int, (JO U E r best' b') ∧ (JL U E r best' b' < JL U E r best b) ∧ (r = r) ∧ (best.length = best'.length) ∧ ((b + 1) = b') ∧ (best = best') ∧ (U = U) ∧ (E = E))))) ∧ ((decide (b < ((1 : Int) * 2 ^ ((E.length : Int).toNat)))) = false → ((best.length = best.length) ∧ ((best : ZI) = (J0i U.length E r (2 ^ E.length))))))))
theorem J5S (U : ZI) (E : ZR) (r : Int) (hf : J0 U E = true) (w_Open : (U.length : Int) ≤ 9223372036854775807) (w_Dist : (E.length : Int) ≤ 9223372036854775807) (v_Dist : ∀ x9 ∈ E, (x9.length : Int) ≤ 9223372036854775807) : J2Y U E r := by
  unfold J2Y Jd
  obtain ⟨g1, g2, g3⟩ := Jb hf
  have p7 := JaU (n := E.length) (by omega)
  have pp := Nat.two_pow_pos E.length
  have e0 := J4p E.length
  refine ⟨?_, ?_⟩
  ·refine ⟨([]), 1, ?_⟩
   refine ⟨?_, rfl, rfl, rfl, ?_, rfl, rfl⟩
   ·refine ⟨?_, ?_, ?_⟩
    ·omega
    ·omega
    ·exact (Jge _ _ _).symm
   rfl
  intro best b hJ
  obtain ⟨h1, h2, h3⟩ := hJ
  refine ⟨?_, ?_, ?_, ?_, ?_⟩
  ·omega
  ·omega
  ·rw [e0]
   generalize 2 ^ E.length = M at *
   omega
  ·intro b1
   try simp only [nrmT] at b1
   refine ⟨?_, id, id, id, id, id, id, id, fun _ => rfl, fun _ => rfl, fun _ => J1F (members (fun k => b.toNat.testBit k) 62) best, id, id, ?_, fun _ _ => rfl, rfl, fun _ => rfl, ?_, id, id, id, fun _ => rfl, ?_, rfl, id, fun _ => rfl, ?_, ?_⟩
   ·refine J53 b ?_
    ·rw [e0] at b1
     generalize 2 ^ E.length = M at *
     omega
   ·intro g1 g2; rw [g1, g2]; rfl
   ·intro h; rw [h]; rfl
   ·intro hg
    refine J8P U E (members (fun k => b.toNat.testBit k) 62) r ?_ ?_
    ·exact hf
    have el : members (fun k => b.toNat.testBit k) 62 = lst E.length b.toNat := JcG (by omega) (by rw [e0] at b1; omega)
    rw [el]; exact Ja6
   ·intro b2
    refine ⟨?_, ?_⟩
    ·rw [e0] at b1
     generalize 2 ^ E.length = M at *
     omega
    refine ⟨(members (fun k => b.toNat.testBit k) 62), (b + 1), ?_⟩
    refine ⟨?_, ?_, rfl, rfl, rfl, ?_, rfl, rfl⟩
    ·refine ⟨?_, ?_, ?_⟩
     ·omega
     ·rw [e0] at b1
      generalize 2 ^ E.length = M at *
      omega
     ·have el : members (fun k => b.toNat.testBit k) 62 = lst E.length b.toNat := JcG (by omega) (by rw [e0] at b1; omega)
      rw [el] at b2 ⊢
      rw [Jez, JaP, J8l] at b2
      rw [show (b + 1).toNat = b.toNat + 1 by omega, J4R, ← h3]
      unfold lfF
      rw [if_pos b2]
    ·rw [e0] at b1
     show 2 ^ E.length - (b + 1).toNat < 2 ^ E.length - b.toNat
     generalize 2 ^ E.length = M at *
     omega
    rfl
   intro b3
   refine ⟨?_, ?_⟩
   ·rw [e0] at b1
    generalize 2 ^ E.length = M at *
    omega
   refine ⟨best, (b + 1), ?_⟩
   refine ⟨?_, ?_, rfl, rfl, rfl, rfl, rfl, rfl⟩
   ·refine ⟨?_, ?_, ?_⟩
    ·omega
    ·rw [e0] at b1
     generalize 2 ^ E.length = M at *
     omega
    ·have el : members (fun k => b.toNat.testBit k) 62 = lst E.length b.toNat := JcG (by omega) (by rw [e0] at b1; omega)
     rw [el] at b3
     rw [Jez, JaP, J8l] at b3
     rw [show (b + 1).toNat = b.toNat + 1 by omega, J4R, ← h3]
     unfold lfF
     rw [if_neg (by rw [b3]; decide)]
   rw [e0] at b1
   show 2 ^ E.length - (b + 1).toNat < 2 ^ E.length - b.toNat
   generalize 2 ^ E.length = M at *
   omega
  intro b4
  try simp only [nrmT] at b4
  refine ⟨rfl, ?_⟩
  ·have ec : b.toNat = 2 ^ E.length := by rw [e0] at b4; omega
   rw [h3, ec]
theorem J5Q (U : ZI) (E : ZR) (r : Int) (hf : J0 U E = true) : PC Tryz.prog 103 [.agg [.sl (.ints U), .sl (.rows E)], .int .i64 r] (.one (.d (.sl (.ints (J0i U.length E r (2 ^ E.length)))))) :=
  pc_wf @Tryz.call103 fun hw => pc_by (by kernel_rfl) Tryz.func103 @Tryz.call103 (by kernel_rfl) J6g (J6l U E r) (by kernel_rfl) (J5S U E r hf hw.1.1 hw.1.2.1.1 hw.1.2.1.2) (by kernel_rfl)
def JgM (xs : ZI) (b : Int) (k : Nat) : Int := min b (xs.getD k 0)
def J5Y (xs : ZI) (k : Nat) : Int := foldTo (JgM xs) (xs.getD 0 0) k
def Jq (xs : ZI) : Int := J5Y xs xs.length
theorem Jag (xs : ZI) (k : Nat) : J5Y xs (k + 1) = min (J5Y xs k) (xs.getD k 0) := rfl
theorem J6P (xs : ZI) : ∀ k, 0 < k → (∀ j, j < k → J5Y xs k ≤ xs.getD j 0) ∧ ∃ j, j < k ∧ J5Y xs k = xs.getD j 0
  | 0, h => by omega
  | k + 1, _ => by
    rw [Jag]
    by_cases hk : 0 < k
    · obtain ⟨h1, j, h2, h3⟩ := J6P xs k hk
      refine ⟨fun i hi => ?_, ?_⟩
      · by_cases e : i = k
        · subst e; omega
        · have := h1 i (by omega); omega
      by_cases e : J5Y xs k ≤ xs.getD k 0
      · exact ⟨j, by omega, by omega⟩
      · exact ⟨k, by omega, by omega⟩
    have : k = 0 := by omega
    subst this
    have e : J5Y xs 0 = xs.getD 0 0 := rfl
    refine ⟨fun i hi => ?_, 0, by omega, by omega⟩
    have : i = 0 := by omega
    subst this; omega
/-- The first place with the least number. -/
def J9u (row : ZI) (b : Int) (k : Nat) : Int := if row.getD k 0 < row.getD b.toNat 0 then (k : Int) else b
def J3a (row : ZI) (k : Nat) : Int := foldTo (J9u row) 0 k
theorem Ja4 (row : ZI) (k : Nat) : J3a row (k + 1) = J9u row (J3a row k) k := rfl
theorem J6M (row : ZI) : ∀ k, 0 < k → 0 ≤ J3a row k ∧ J3a row k < k ∧ (∀ j, j < k → row.getD (J3a row k).toNat 0 ≤ row.getD j 0) ∧ ∀ j, j < (J3a row k).toNat → row.getD (J3a row k).toNat 0 < row.getD j 0
  | 0, h => by omega
  | k + 1, _ => by
    rw [Ja4]
    by_cases hk : 0 < k
    · obtain ⟨h1, h2, h3, h4⟩ := J6M row k hk
      unfold J9u
      by_cases e : row.getD k 0 < row.getD (J3a row k).toNat 0
      · rw [if_pos e, Int.toNat_natCast]
        refine ⟨by omega, by omega, fun j hj => ?_, fun j hj => ?_⟩
        · by_cases ej : j = k
          · subst ej; omega
          · have := h3 j (by omega); omega
        have := h3 j (by omega); omega
      rw [if_neg e]
      refine ⟨h1, by omega, fun j hj => ?_, h4⟩
      by_cases ej : j = k
      · subst ej; omega
      exact h3 j (by omega)
    have : k = 0 := by omega
    subst this
    have e : J9u row (J3a row 0) 0 = 0 := by
      show J9u row 0 0 = 0
      unfold J9u; split <;> rfl
    rw [e]
    refine ⟨by omega, by omega, fun j hj => ?_, fun j hj => by simp at hj⟩
    have : j = 0 := by omega
    subst this; exact Int.le_refl _
def J0l (row : ZI) : Int := J3a row row.length
theorem J0N {row : ZI} (h : 0 < row.length) : idxI (fun y => Jq row == y) row = J0l row := by
  obtain ⟨h1, h2, h3, h4⟩ := J6M row row.length h
  obtain ⟨m1, j, m2, m3⟩ := J6P row row.length h
  have e : Jq row = row.getD (J0l row).toNat 0 := by
    have a1 := m1 (J0l row).toNat (by unfold J0l; omega)
    have a2 := h3 j m2
    unfold Jq J0l at *
    omega
  refine (idx_found (d := 0) h1 h2 (fun k hk => ?_) ?_).symm
  · have := h4 k hk
    rw [e]
    unfold J0l
    simp only [beq_eq_false_iff_ne]
    omega
  rw [e]
  unfold J0l
  simp
theorem J9t {n k : Nat} (h : k < n) : (J51 n).getD k 0 = (k : Int) := by
  unfold J51 members
  have e : (List.range n).filter (fun _ => true) = List.range n := List.filter_eq_self.2 fun _ _ => rfl
  rw [e]
  simp [h]
theorem J5v (n : Nat) : (J51 n).length = n := by
  unfold J51 members
  have e : (List.range n).filter (fun _ => true) = List.range n := List.filter_eq_self.2 fun _ _ => rfl
  rw [e]; simp
theorem Jg8 {row : ZI} {n : Nat} (hn : 0 < n) : Jh row (J51 n) n = J3a row n := by
  have key : ∀ k, k ≤ n → Jh row (J51 n) k = J3a row k := by
    intro k hk
    induction k with
    | zero => exact J9t hn
    | succ k ih =>
      rw [J0M, Ja4, ih (by omega)]
      unfold J3c J9u
      rw [J9t (by omega), Int.toNat_natCast]
  exact key n (Nat.le_refl _)
def J56 (E : ZR) (clients : ZI) (k : Nat) : Nat := foldTo (fun s j => s ||| 2 ^ (J0l (E.getD (clients.getD j 0).toNat [])).toNat) 0 k
def J2b (E : ZR) (clients : ZI) (k : Nat) : ZI := foldTo (fun l j => putL l (J0l (E.getD (clients.getD j 0).toNat []))) [] k
def Jn (E : ZR) (clients : ZI) : ZI := if clients.length = 0 then [0] else J2b E clients clients.length
theorem J5K {E : ZR} {clients : ZI} {y : Int} : ∀ k, y ∈ J2b E clients k ↔ ∃ j, j < k ∧ J0l (E.getD (clients.getD j 0).toNat []) = y
  | 0 => by simp [J2b, foldTo]
  | k + 1 => by
    have e : J2b E clients (k + 1) = putL (J2b E clients k) (J0l (E.getD (clients.getD k 0).toNat [])) := rfl
    rw [e, mem_putL, J5K k]
    constructor
    · rintro (h | ⟨j, h1, h2⟩)
      · exact ⟨k, by omega, h.symm⟩
      · exact ⟨j, by omega, h2⟩
    rintro ⟨j, h1, h2⟩
    by_cases e : j = k
    · subst e; exact .inl h2.symm
    exact .inr ⟨j, by omega, h2⟩
theorem J9K {E : ZR} {clients : ZI} : ∀ k, Asc (J2b E clients k)
  | 0 => List.Pairwise.nil
  | k + 1 => asc_putL (J9K k)
theorem J9j {E : ZR} {clients : ZI} : ∀ k, (J2b E clients k).length ≤ k
  | 0 => Nat.le_refl _
  | k + 1 => by
    have e : J2b E clients (k + 1) = putL (J2b E clients k) (J0l (E.getD (clients.getD k 0).toNat [])) := rfl
    have := putL_len (J2b E clients k) (J0l (E.getD (clients.getD k 0).toNat []))
    have := J9j (E := E) (clients := clients) k
    rw [e]; omega
theorem J9f {E : ZR} {clients : ZI} {x : Nat} : ∀ k, (J56 E clients k).testBit x = true ↔ ∃ j, j < k ∧ (J0l (E.getD (clients.getD j 0).toNat [])).toNat = x
  | 0 => by simp [J56, foldTo]
  | k + 1 => by
    have e : J56 E clients (k + 1) = J56 E clients k ||| 2 ^ (J0l (E.getD (clients.getD k 0).toNat [])).toNat := rfl
    rw [e, Nat.testBit_or, Bool.or_eq_true, J9f k, Nat.testBit_two_pow]
    simp only [decide_eq_true_eq]
    constructor
    · rintro (⟨j, h1, h2⟩ | h)
      · exact ⟨j, by omega, h2⟩
      · exact ⟨k, by omega, h⟩
    rintro ⟨j, h1, h2⟩
    by_cases e : j = k
    · subst e; exact .inr h2
    exact .inl ⟨j, by omega, h2⟩
theorem JV {U : ZI} {E : ZR} (hf : J0 U E = true) {c : Int} (hc : 0 ≤ c ∧ c < (E.length : Int)) : 0 ≤ J0l (E.getD c.toNat []) ∧ J0l (E.getD c.toNat []) < (U.length : Int) ∧ (E.getD c.toNat []).length = U.length := by
  obtain ⟨g1, g2, g3⟩ := Jb hf
  obtain ⟨rl, _⟩ := Je (i := c.toNat) hf (by omega)
  obtain ⟨h1, h2, _⟩ := J6M (E.getD c.toNat []) (E.getD c.toNat []).length (by omega)
  unfold J0l
  omega
theorem Jbl {U : ZI} {E : ZR} (hf : J0 U E = true) {clients : ZI} (hc : ∀ c ∈ clients, 0 ≤ c ∧ c < (E.length : Int)) : ∀ k, k ≤ clients.length → J56 E clients k < 256
  | 0, _ => (by decide : (0 : Nat) < 256)
  | k + 1, hk => by
    have e : J56 E clients (k + 1) = J56 E clients k ||| 2 ^ (J0l (E.getD (clients.getD k 0).toNat [])).toNat := rfl
    have h1 := JV hf (hc _ (getD_mem (d := 0) (show k < clients.length by omega)))
    have h2 := Jb hf
    rw [e]
    exact Nat.or_lt_two_pow (n := 8) (Jbl hf hc k (by omega)) (Nat.pow_lt_pow_right (by omega) (by omega))
theorem Jg6 {U : ZI} {E : ZR} (hf : J0 U E = true) {clients : ZI} (hc : ∀ c ∈ clients, 0 ≤ c ∧ c < (E.length : Int)) : members (fun k => (J56 E clients clients.length).testBit k) 62 = J2b E clients clients.length := by
  refine asc_ext (asc_members _ _) (J9K _) fun x => ?_
  rw [mem_members, J5K, J9f]
  constructor
  · rintro ⟨h1, h2, j, h3, h4⟩
    have h5 := JV hf (hc _ (getD_mem (d := 0) h3))
    exact ⟨j, h3, by omega⟩
  rintro ⟨j, h3, h4⟩
  have h5 := JV hf (hc _ (getD_mem (d := 0) h3))
  have h6 := Jb hf
  exact ⟨by omega, by omega, j, h3, by omega⟩
theorem JbV {E : ZR} {clients : ZI} : J56 E clients clients.length = 0 ↔ clients.length = 0 := by
  constructor
  · intro h
    by_cases e : clients.length = 0
    · exact e
    exfalso
    have h1 := (J9f (E := E) (clients := clients) (x := (J0l (E.getD (clients.getD 0 0).toNat [])).toNat) clients.length).2 ⟨0, by omega, rfl⟩
    rw [h, Nat.zero_testBit] at h1
    cases h1
  intro h; rw [h]; rfl
theorem JbL {E : ZR} {clients : ZI} : (J2b E clients clients.length).length = 0 ↔ clients.length = 0 := by
  constructor
  · intro h
    by_cases e : clients.length = 0
    · exact e
    have h1 := (J5K (E := E) (clients := clients) (y := J0l (E.getD (clients.getD 0 0).toNat [])) clients.length).2 ⟨0, by omega, rfl⟩
    rw [List.eq_nil_of_length_eq_zero h] at h1
    cases h1
  intro h; rw [h]; rfl
theorem JfT (n : Nat) : members (fun k => (((1 : Int) * 2 ^ ((n : Int).toNat)) - 1).toNat.testBit k) (n : Int).toNat = J51 n := by
  rw [J4p, Int.toNat_natCast, ← Jc1]
  refine members_congr fun k _ => ?_
  congr 1
  have := Nat.two_pow_pos n
  omega
theorem Jdl {row : ZI} {r : Int} (h : 0 < row.length) : (!(allTo (fun c => !(decide (row.getD c 0 ≤ r))) row.length)) = decide (Jq row ≤ r) := by
  obtain ⟨m1, j, m2, m3⟩ := J6P row row.length h
  by_cases e : Jq row ≤ r
  · rw [decide_eq_true e, allTo_false m2 (by rw [decide_eq_true (by unfold Jq at e; omega)]; rfl)]; rfl
  rw [decide_eq_false e, allTo_iff.2 fun k hk => by
    have := m1 k hk
    rw [decide_eq_false (by unfold Jq at e; omega)]; rfl]
  rfl
theorem Jf7 {p : Nat → Bool} {i : Int} (h : 0 ≤ i) : allTo p (i + 1).toNat = (allTo p i.toNat && p i.toNat) := by
  rw [show (i + 1).toNat = i.toNat + 1 by omega]; rfl
abbrev J0b (xs : ZI) (m : Int) (i : Int) : Prop := (1 ≤ i) ∧ (i ≤ (xs.length : Int)) ∧ (m = J5Y xs i.toNat)
abbrev J0d (xs : ZI) (m : Int) (i : Int) : Nat := (xs.length - i).toNat
def J6t (f : FuncId) (ds : List D) : Orc := .no
def J6w (xs : ZI) : Ann := .two (.none) (.two (.two (.none) (.goF (.none))) (.two (.none) (.two (.two (.none) (.loop (cut2 (fun (m : Int) (i : Int) => J0b xs m i) (fun (m : Int) (i : Int) => [(0, .d false (.sl (.ints xs))), (3, .d true (.int .i64 m)), (4, .d true (.int .i64 i))]) (fun (m : Int) (i : Int) => [])) (fun g => J0d xs g.1 g.2) (fun _ => .none))) (.none))))
def J3w (xs : ZI) : Prop :=
  ((decide ((xs.length : Int) < 1)) = false) ∧ ((0 : Int) ≤ 0) ∧ ((0 : Int) < xs.length) ∧ (0 < xs.length) ∧ ((∃ m' : Int, ∃ i' : Int, (J0b xs m' i') ∧ (xs = xs) ∧ ((xs.getD 0 0) = m') ∧ ((1 : Int) = i')) ∧ (∀ m : Int, ∀ i : Int, (J0b xs m i) → (((decide (i < (xs.length : Int))) = true → ((0 : Int) ≤ i) ∧ ((i : Int) < xs.length) ∧ (i.toNat < xs.length) ∧ (I6 (i + 1)) ∧ (∃ m' : Int, ∃ i' : Int, (J0b xs m' i') ∧ (J0d xs m' i' < J0d xs m i) ∧ (xs = xs) ∧ ((min m (xs.getD i.toNat 0)) = m') ∧ ((i + 1) = i'))) ∧ ((decide (i < (xs.length : Int))) = false → ((m = (Jq xs)))))))
theorem J6m (xs : ZI) (hp : 0 < xs.length) (w_xs : (xs.length : Int) ≤ 9223372036854775807) : J3w xs := by
  unfold J3w
  refine ⟨?_, ?_, ?_, ?_, ?_, ?_⟩
  ·exact decide_eq_false (by omega)
  ·omega
  ·omega
  ·omega
  ·refine ⟨(xs.getD 0 0), 1, ?_⟩
   refine ⟨?_, rfl, rfl, rfl⟩
   ·refine ⟨?_, ?_, ?_⟩
    ·omega
    ·omega
    ·show _ = min (xs.getD 0 0) (xs.getD 0 0)
     omega
  intro m i hJ
  obtain ⟨h1, h2, h3⟩ := hJ
  refine ⟨?_, ?_⟩
  ·intro b1
   try simp only [nrmT] at b1
   refine ⟨?_, ?_, ?_, ?_, ?_⟩
   ·omega
   ·omega
   ·omega
   ·omega
   refine ⟨(min m (xs.getD i.toNat 0)), (i + 1), ?_⟩
   refine ⟨?_, ?_, rfl, rfl, rfl⟩
   ·refine ⟨?_, ?_, ?_⟩
    ·omega
    ·omega
    ·rw [h3, show (i + 1).toNat = i.toNat + 1 by omega, Jag]
   (simp only [J0d]; omega)
  intro b2
  try simp only [nrmT] at b2
  unfold Jq; rw [h3, show i.toNat = xs.length by omega]
theorem J31 (xs : ZI) (hp : 0 < xs.length) : PC Tryz.prog 197 [.sl (.ints xs)] (.one (.d (.int .i64 (Jq xs)))) :=
  pc_wf @Tryz.call197 fun hw => pc_by (by kernel_rfl) Tryz.func197 @Tryz.call197 (by kernel_rfl) J6t (J6w xs) (by kernel_rfl) (J6m xs hp hw.1) (by kernel_rfl)
def J2F : List D → Orc := orcN [some .ints] fun ds => match ds with
  | [.sl (.ints xs)] => some (.one (.d (.int .i64 (Jq xs))))
  | _ => none
abbrev J1W (U : ZI) (E : ZR) (clients : ZI) (out : ZI) (i : Int) : Prop := (0 ≤ i) ∧ (i ≤ (clients.length : Int)) ∧ (out = J2b E clients i.toNat)
abbrev J1Q (U : ZI) (E : ZR) (clients : ZI) (out : ZI) (i : Int) : Nat := (clients.length - i).toNat
def Jco (f : FuncId) (ds : List D) : Orc := bif Nat.beq f 142 then J5C ds else bif Nat.beq f 153 then J82 ds else bif Nat.beq f 140 then J95 ds else .no
def Jcb (U : ZI) (E : ZR) (clients : ZI) : Ann := .two (.none) (.two (.reg [(0, .frz)]) (.two (.none) (.two (.two (.none) (.loop (cut2 (fun (out : ZI) (i : Int) => J1W U E clients out i) (fun (out : ZI) (i : Int) => [(1, .d false (.sl (.ints clients))), (2, .ptr 2 0), (5, .d true (.sl (.ints out))), (6, .d true (.sl (.ints (members (fun k => (((1 : Int) * 2 ^ ((U.length : Int).toNat)) - 1).toNat.testBit k) (U.length : Int).toNat)))), (7, .d true (.int .i64 i))]) (fun (out : ZI) (i : Int) => [(2, .box 27 [.d false (.sl (.ints U)), .d false (.sl (.rows E))])])) (fun g => J1Q U E clients g.1 g.2) (fun _ => .none))) (.none))))
def J78 (U : ZI) (E : ZR) (clients : ZI) : Prop :=
  (true = true) ∧ ((0 : Int) ≤ 1) ∧ ((0 : Int) ≤ (U.length : Int)) ∧ ((0 : Int) ≤ ((1 : Int) * 2 ^ ((U.length : Int).toNat)) ∧ (((1 : Int) * 2 ^ ((U.length : Int).toNat)) : Int) ≤ 9223372036854775807) ∧ (I6 (((1 : Int) * 2 ^ ((U.length : Int).toNat)) - 1)) ∧ (PC Tryz.prog 142 [.int .i64 (U.length : Int), .int .i64 (((1 : Int) * 2 ^ ((U.length : Int).toNat)) - 1)] (.one (.d (.sl (.ints (members (fun k => (((1 : Int) * 2 ^ ((U.length : Int).toNat)) - 1).toNat.testBit k) (U.length : Int).toNat)))))) ∧ ((∃ out' : ZI, ∃ i' : Int, (J1W U E clients out' i') ∧ (clients = clients) ∧ ([] = out') ∧ ((members (fun k => (((1 : Int) * 2 ^ ((U.length : Int).toNat)) - 1).toNat.testBit k) (U.length : Int).toNat) = (members (fun k => (((1 : Int) * 2 ^ ((U.length : Int).toNat)) - 1).toNat.testBit k) (U.length : Int).toNat)) ∧ ((0 : Int) = i') ∧ (U = U) ∧ (E = E)) ∧ (∀ out : ZI, ∀ i : Int, (J1W U E clients out i) → (((decide (i < (clients.length : Int))) = true → (true = true) ∧ ((0 : Int) ≤ i) ∧ ((i : Int) < clients.length) ∧ (i.toNat < clients.length) ∧ (PC Tryz.prog 153 [.agg [.sl (.ints U), .sl (.rows E)], .int .i64 (clients.getD i.toNat 0), .sl (.ints (members (fun k => (((1 : Int) * 2 ^ ((U.length : Int).toNat)) - 1).toNat.testBit k) (U.length : Int).toNat))] (.one (.d (.int .i64 (Jh (E.getD (clients.getD i.toNat 0).toNat []) (members (fun k => (((1 : Int) * 2 ^ ((U.length : Int).toNat)) - 1).toNat.testBit k) (U.length : Int).toNat) (members (fun k => (((1 : Int) * 2 ^ ((U.length : Int).toNat)) - 1).toNat.testBit k) (U.length : Int).toNat).length))))) ∧ (PCs Tryz.prog 140 [.sl (.ints out), .int .i64 (Jh (E.getD (clients.getD i.toNat 0).toNat []) (members (fun k => (((1 : Int) * 2 ^ ((U.length : Int).toNat)) - 1).toNat.testBit k) (U.length : Int).toNat) (members (fun k => (((1 : Int) * 2 ^ ((U.length : Int).toNat)) - 1).toNat.testBit k) (U.length : Int).toNat).length)] 0 (.sl (.ints (putL out (Jh (E.getD (clients.getD i.toNat 0).toNat []) (members (fun k => (((1 : Int) * 2 ^ ((U.length : Int).toNat)) - 1).toNat.testBit k) (U.length : Int).toNat) (members (fun k => (((1 : Int) * 2 ^ ((U.length : Int).toNat)) - 1).toNat.testBit k) (U.length : Int).toNat).length))))) ∧ (I6 (i + 1)) ∧ (∃ out' : ZI, ∃ i' : Int, (J1W U E clients out' i') ∧ (J1Q U E clients out' i' < J1Q U E clients out i) ∧ (clients = clients) ∧ ((putL out (Jh (E.getD (clients.getD i.toNat 0).toNat []) (members (fun k => (((1 : Int) * 2 ^ ((U.length : Int).toNat)) - 1).toNat.testBit k) (U.length : Int).toNat) (members (fun k => (((1 : Int) * 2 ^ ((U.length : Int).toNat)) - 1).toNat.testBit k) (U.length : Int).toNat).length)) = out') ∧ ((members (fun k => (((1 : Int) * 2 ^ ((U.length : Int).toNat)) - 1).toNat.testBit k) (U.length : Int).toNat) = (members (fun k => (((1 : Int) * 2 ^ ((U.length : Int).toNat)) - 1).toNat.testBit k) (U.length : Int).toNat)) ∧ ((i + 1) = i') ∧ (U = U) ∧ (E = E))) ∧ ((decide (i < (clients.length : Int))) = false → ((((out.length : Int) == 0) = true → (((1 : Nat) = 1) ∧ (([0] : ZI) = (Jn E clients)))) ∧ (((out.length : Int) == 0) = false → (((out : ZI) = (Jn E clients)))))))))
theorem JaY (U : ZI) (E : ZR) (clients : ZI) (hf : J0 U E = true) (hc : ∀ c ∈ clients, 0 ≤ c ∧ c < (E.length : Int)) (hl : clients.length ≤ 7) (w_Open : (U.length : Int) ≤ 9223372036854775807) (w_Dist : (E.length : Int) ≤ 9223372036854775807) (v_Dist : ∀ x9 ∈ E, (x9.length : Int) ≤ 9223372036854775807) (w_clients : (clients.length : Int) ≤ 9223372036854775807) : J78 U E clients := by
  unfold J78
  obtain ⟨g1, g2, g3⟩ := Jb hf
  have p7 := JaU (n := U.length) (by omega)
  have pp := Nat.two_pow_pos U.length
  have e0 := J4p U.length
  refine ⟨rfl, ?_, ?_, ?_, ?_, ?_, ?_, ?_⟩
  ·omega
  ·omega
  ·rw [e0]
   generalize 2 ^ U.length = M at *
   omega
  ·rw [e0]
   generalize 2 ^ U.length = M at *
   omega
  ·refine J6j (U.length : Int) (((1 : Int) * 2 ^ ((U.length : Int).toNat)) - 1) ?_ ?_
   ·omega
   ·rw [e0]
    generalize 2 ^ U.length = M at *
    omega
  ·refine ⟨([]), 0, ?_⟩
   refine ⟨?_, rfl, ?_, rfl, rfl, rfl, rfl⟩
   ·refine ⟨?_, ?_, ?_⟩
    ·omega
    ·omega
    ·rfl
   rfl
  intro out i hJ
  obtain ⟨h1, h2, h3⟩ := hJ
  refine ⟨?_, ?_⟩
  ·intro b1
   try simp only [nrmT] at b1
   refine ⟨rfl, ?_, ?_, ?_, ?_, ?_, ?_, ?_⟩
   ·omega
   ·omega
   ·omega
   ·refine J91 U E (clients.getD i.toNat 0) (members (fun k => (((1 : Int) * 2 ^ ((U.length : Int).toNat)) - 1).toNat.testBit k) (U.length : Int).toNat) ?_ ?_
    ·rw [JfT, hf, JeZ, J5v, decide_eq_true (by omega)]; rfl
    ·have hcc := hc _ (getD_mem (d := 0) (show i.toNat < clients.length by omega))
     have ai := JV hf hcc
     have ix := J0N (row := E.getD (clients.getD i.toNat 0).toNat []) (by omega)
     exact hcc
   ·refine Jau out (Jh (E.getD (clients.getD i.toNat 0).toNat []) (members (fun k => (((1 : Int) * 2 ^ ((U.length : Int).toNat)) - 1).toNat.testBit k) (U.length : Int).toNat) (members (fun k => (((1 : Int) * 2 ^ ((U.length : Int).toNat)) - 1).toNat.testBit k) (U.length : Int).toNat).length) ?_
    ·rw [h3]; have := J9j (E := E) (clients := clients) i.toNat; omega
   ·omega
   refine ⟨(putL out (Jh (E.getD (clients.getD i.toNat 0).toNat []) (members (fun k => (((1 : Int) * 2 ^ ((U.length : Int).toNat)) - 1).toNat.testBit k) (U.length : Int).toNat) (members (fun k => (((1 : Int) * 2 ^ ((U.length : Int).toNat)) - 1).toNat.testBit k) (U.length : Int).toNat).length)), (i + 1), ?_⟩
   refine ⟨?_, ?_, rfl, rfl, rfl, rfl, rfl, rfl⟩
   ·refine ⟨?_, ?_, ?_⟩
    ·omega
    ·omega
    ·have hcc := hc _ (getD_mem (d := 0) (show i.toNat < clients.length by omega))
     have ai := JV hf hcc
     have ix := J0N (row := E.getD (clients.getD i.toNat 0).toNat []) (by omega)
     have e : J2b E clients (i.toNat + 1) = putL (J2b E clients i.toNat) (J0l (E.getD (clients.getD i.toNat 0).toNat [])) := rfl
     rw [JfT, J5v, Jg8 (by omega), show (i + 1).toNat = i.toNat + 1 by omega, e, h3]
     unfold J0l
     rw [ai.2.2]
   (simp only [J1Q]; omega)
  intro b2
  try simp only [nrmT] at b2
  refine ⟨?_, ?_⟩
  ·intro b3
   try simp only [nrmT] at b3
   refine ⟨rfl, ?_⟩
   ·rw [h3, show i.toNat = clients.length by omega] at b3
    unfold Jn
    rw [if_pos ((JbL (E := E)).1 (by omega))]
  intro b4
  try simp only [nrmT] at b4
  have e : out = J2b E clients clients.length := by rw [h3, show i.toNat = clients.length by omega]
  rw [e] at b4 ⊢
  unfold Jn
  rw [if_neg (fun h => b4 (by rw [JbL.2 h]; rfl))]
theorem Jb1 (U : ZI) (E : ZR) (clients : ZI) (hf : J0 U E = true) (hc : ∀ c ∈ clients, 0 ≤ c ∧ c < (E.length : Int)) (hl : clients.length ≤ 7) : PC Tryz.prog 110 [.agg [.sl (.ints U), .sl (.rows E)], .sl (.ints clients)] (.one (.d (.sl (.ints (Jn E clients))))) :=
  pc_wf @Tryz.call110 fun hw => pc_by (by kernel_rfl) Tryz.func110 @Tryz.call110 (by kernel_rfl) Jco (Jcb U E clients) (by kernel_rfl) (JaY U E clients hf hc hl hw.1.1 hw.1.2.1.1 hw.1.2.1.2 hw.2.1) (by kernel_rfl)
def J9W : List D → Orc := orcN [none, some .ints] fun ds => match ds with
  | [.agg [.sl (.ints U), .sl (.rows E)], .sl (.ints clients)] => some (.one (.d (.sl (.ints (Jn E clients)))))
  | _ => none
abbrev J0Z (U : ZI) (E : ZR) (clients : ZI) (out : Int) (i : Int) : Prop := (0 ≤ i) ∧ (i ≤ (clients.length : Int)) ∧ (out = ((J56 E clients i.toNat : Nat) : Int))
abbrev J10 (U : ZI) (E : ZR) (clients : ZI) (out : Int) (i : Int) : Nat := (clients.length - i).toNat
def J8w (f : FuncId) (ds : List D) : Orc := bif Nat.beq f 197 then J2F ds else bif Nat.beq f 152 then J1T ds else bif Nat.beq f 139 then J6s ds else .no
def J8A (U : ZI) (E : ZR) (clients : ZI) : Ann := .two (.none) (.two (.none) (.two (.two (.none) (.loop (cut2 (fun (out : Int) (i : Int) => J0Z U E clients out i) (fun (out : Int) (i : Int) => [(2, .ptr 2 0), (5, .d true (.int .u64 out)), (8, .d false (.sl (.ints clients))), (9, .d true (.int .i64 (clients.length : Int))), (10, .d true (.int .i64 i))]) (fun (out : Int) (i : Int) => [(2, .box 27 [.d false (.sl (.ints U)), .d false (.sl (.rows E))])])) (fun g => J10 U E clients g.1 g.2) (fun _ => .none))) (.none)))
def J5c (U : ZI) (E : ZR) (clients : ZI) : Prop :=
  ((∃ out' : Int, ∃ i' : Int, (J0Z U E clients out' i') ∧ ((0 : Int) = out') ∧ (clients = clients) ∧ ((clients.length : Int) = (clients.length : Int)) ∧ ((0 : Int) = i') ∧ (U = U) ∧ (E = E)) ∧ (∀ out : Int, ∀ i : Int, (J0Z U E clients out i) → (((decide (i < (clients.length : Int))) = true → ((0 : Int) ≤ i) ∧ ((i : Int) < clients.length) ∧ (i.toNat < clients.length) ∧ (true = true) ∧ ((0 : Int) ≤ (clients.getD i.toNat 0)) ∧ (((clients.getD i.toNat 0) : Int) < E.length) ∧ ((clients.getD i.toNat 0).toNat < E.length) ∧ ((0 : Int) ≤ (clients.getD i.toNat 0)) ∧ (((clients.getD i.toNat 0) : Int) < E.length) ∧ ((clients.getD i.toNat 0).toNat < E.length) ∧ (PC Tryz.prog 197 [.sl (.ints (E.getD ((clients.getD i.toNat 0).toNat) []))] (.one (.d (.int .i64 (Jq (E.getD ((clients.getD i.toNat 0).toNat) [])))))) ∧ (PC Tryz.prog 152 [.sl (.ints (E.getD ((clients.getD i.toNat 0).toNat) [])), .int .i64 (Jq (E.getD ((clients.getD i.toNat 0).toNat) []))] (.one (.d (.int .i64 (idxI (fun y => (Jq (E.getD ((clients.getD i.toNat 0).toNat) [])) == y) (E.getD ((clients.getD i.toNat 0).toNat) [])))))) ∧ ((0 : Int) ≤ 1) ∧ ((0 : Int) ≤ (idxI (fun y => (Jq (E.getD ((clients.getD i.toNat 0).toNat) [])) == y) (E.getD ((clients.getD i.toNat 0).toNat) []))) ∧ ((0 : Int) ≤ ((1 : Int) * 2 ^ ((idxI (fun y => (Jq (E.getD ((clients.getD i.toNat 0).toNat) [])) == y) (E.getD ((clients.getD i.toNat 0).toNat) [])).toNat)) ∧ (((1 : Int) * 2 ^ ((idxI (fun y => (Jq (E.getD ((clients.getD i.toNat 0).toNat) [])) == y) (E.getD ((clients.getD i.toNat 0).toNat) [])).toNat)) : Int) ≤ 18446744073709551615) ∧ ((0 : Int) ≤ out ∧ (out : Int) ≤ 18446744073709551615) ∧ ((0 : Int) ≤ ((1 : Int) * 2 ^ ((idxI (fun y => (Jq (E.getD ((clients.getD i.toNat 0).toNat) [])) == y) (E.getD ((clients.getD i.toNat 0).toNat) [])).toNat)) ∧ (((1 : Int) * 2 ^ ((idxI (fun y => (Jq (E.getD ((clients.getD i.toNat 0).toNat) [])) == y) (E.getD ((clients.getD i.toNat 0).toNat) [])).toNat)) : Int) ≤ 18446744073709551615) ∧ (I6 (i + 1)) ∧ (∃ out' : Int, ∃ i' : Int, (J0Z U E clients out' i') ∧ (J10 U E clients out' i' < J10 U E clients out i) ∧ (((out.toNat ||| ((1 : Int) * 2 ^ ((idxI (fun y => (Jq (E.getD ((clients.getD i.toNat 0).toNat) [])) == y) (E.getD ((clients.getD i.toNat 0).toNat) [])).toNat)).toNat : Nat) : Int) = out') ∧ (clients = clients) ∧ ((clients.length : Int) = (clients.length : Int)) ∧ ((i + 1) = i') ∧ (U = U) ∧ (E = E))) ∧ ((decide (i < (clients.length : Int))) = false → (((out == 0) = true → (PC Tryz.prog 139 [.int .u64 1] (.one (.own 3 (.ints (members (fun k => (1 : Int).toNat.testBit k) 62))))) ∧ (((members (fun k => (1 : Int).toNat.testBit k) 62).length = (members (fun k => (1 : Int).toNat.testBit k) 62).length) ∧ ((members (fun k => (1 : Int).toNat.testBit k) 62 : ZI) = Jn E clients))) ∧ ((out == 0) = false → (PC Tryz.prog 139 [.int .u64 out] (.one (.own 3 (.ints (members (fun k => out.toNat.testBit k) 62))))) ∧ (((members (fun k => out.toNat.testBit k) 62).length = (members (fun k => out.toNat.testBit k) 62).length) ∧ ((members (fun k => out.toNat.testBit k) 62 : ZI) = Jn E clients))))))))
theorem J7I (U : ZI) (E : ZR) (clients : ZI) (hf : J0 U E = true) (hc : ∀ c ∈ clients, 0 ≤ c ∧ c < (E.length : Int)) (hl : clients.length ≤ 7) (w_Open : (U.length : Int) ≤ 9223372036854775807) (w_Dist : (E.length : Int) ≤ 9223372036854775807) (v_Dist : ∀ x9 ∈ E, (x9.length : Int) ≤ 9223372036854775807) (w_clients : (clients.length : Int) ≤ 9223372036854775807) : J5c U E clients := by
  unfold J5c
  obtain ⟨g1, g2, g3⟩ := Jb hf
  have p7 := JaU (n := U.length) (by omega)
  have pp := Nat.two_pow_pos U.length
  have e0 := J4p U.length
  refine ⟨?_, ?_⟩
  ·refine ⟨0, 0, ?_⟩
   refine ⟨?_, rfl, rfl, rfl, rfl, rfl, rfl⟩
   ·refine ⟨?_, ?_, ?_⟩
    ·omega
    ·omega
    ·rfl
  intro out i hJ
  obtain ⟨h1, h2, h3⟩ := hJ
  refine ⟨?_, ?_⟩
  ·intro b1
   try simp only [nrmT] at b1
   refine ⟨?_, ?_, ?_, rfl, ?_, ?_, ?_, ?_, ?_, ?_, ?_, J22 (E.getD ((clients.getD i.toNat 0).toNat) []) (Jq (E.getD ((clients.getD i.toNat 0).toNat) [])), ?_, ?_, ?_, ?_, ?_, ?_, ?_⟩
   ·omega
   ·omega
   ·omega
   ·have hcc := hc _ (getD_mem (d := 0) (show i.toNat < clients.length by omega))
    have ai := JV hf hcc
    have ix := J0N (row := E.getD (clients.getD i.toNat 0).toNat []) (by omega)
    omega
   ·have hcc := hc _ (getD_mem (d := 0) (show i.toNat < clients.length by omega))
    have ai := JV hf hcc
    have ix := J0N (row := E.getD (clients.getD i.toNat 0).toNat []) (by omega)
    omega
   ·have hcc := hc _ (getD_mem (d := 0) (show i.toNat < clients.length by omega))
    have ai := JV hf hcc
    have ix := J0N (row := E.getD (clients.getD i.toNat 0).toNat []) (by omega)
    omega
   ·have hcc := hc _ (getD_mem (d := 0) (show i.toNat < clients.length by omega))
    have ai := JV hf hcc
    have ix := J0N (row := E.getD (clients.getD i.toNat 0).toNat []) (by omega)
    omega
   ·have hcc := hc _ (getD_mem (d := 0) (show i.toNat < clients.length by omega))
    have ai := JV hf hcc
    have ix := J0N (row := E.getD (clients.getD i.toNat 0).toNat []) (by omega)
    omega
   ·have hcc := hc _ (getD_mem (d := 0) (show i.toNat < clients.length by omega))
    have ai := JV hf hcc
    have ix := J0N (row := E.getD (clients.getD i.toNat 0).toNat []) (by omega)
    omega
   ·refine J31 (E.getD ((clients.getD i.toNat 0).toNat) []) ?_
    ·have hcc := hc _ (getD_mem (d := 0) (show i.toNat < clients.length by omega))
     have ai := JV hf hcc
     have ix := J0N (row := E.getD (clients.getD i.toNat 0).toNat []) (by omega)
     omega
   ·omega
   ·have hcc := hc _ (getD_mem (d := 0) (show i.toNat < clients.length by omega))
    have ai := JV hf hcc
    have ix := J0N (row := E.getD (clients.getD i.toNat 0).toNat []) (by omega)
    rw [ix]; omega
   ·have hcc := hc _ (getD_mem (d := 0) (show i.toNat < clients.length by omega))
    have ai := JV hf hcc
    have ix := J0N (row := E.getD (clients.getD i.toNat 0).toNat []) (by omega)
    rw [ix]
    have h7 := pow_le (x := J0l (E.getD (clients.getD i.toNat 0).toNat [])) (m := 8) (by omega)
    have he : (2 : Nat) ^ 8 = 256 := by decide
    omega
   ·have := Jbl hf hc i.toNat (by omega)
    omega
   ·have hcc := hc _ (getD_mem (d := 0) (show i.toNat < clients.length by omega))
    have ai := JV hf hcc
    have ix := J0N (row := E.getD (clients.getD i.toNat 0).toNat []) (by omega)
    rw [ix]
    have h7 := pow_le (x := J0l (E.getD (clients.getD i.toNat 0).toNat [])) (m := 8) (by omega)
    have he : (2 : Nat) ^ 8 = 256 := by decide
    omega
   ·omega
   refine ⟨((out.toNat ||| ((1 : Int) * 2 ^ ((idxI (fun y => (Jq (E.getD ((clients.getD i.toNat 0).toNat) [])) == y) (E.getD ((clients.getD i.toNat 0).toNat) [])).toNat)).toNat : Nat) : Int), (i + 1), ?_⟩
   refine ⟨?_, ?_, rfl, rfl, rfl, rfl, rfl, rfl⟩
   ·refine ⟨?_, ?_, ?_⟩
    ·omega
    ·omega
    ·have hcc := hc _ (getD_mem (d := 0) (show i.toNat < clients.length by omega))
     have ai := JV hf hcc
     have ix := J0N (row := E.getD (clients.getD i.toNat 0).toNat []) (by omega)
     rw [ix, one_pow, show (i + 1).toNat = i.toNat + 1 by omega, h3, Int.toNat_natCast]; rfl
   (simp only [J10]; omega)
  intro b2
  try simp only [nrmT] at b2
  refine ⟨?_, ?_⟩
  ·intro b3
   try simp only [nrmT] at b3
   refine ⟨?_, rfl, ?_⟩
   ·refine J53 1 ?_
    ·omega
   have e : J56 E clients clients.length = 0 := by rw [show i.toNat = clients.length by omega] at h3; omega
   unfold Jn; rw [if_pos (JbV.1 e)]; rfl
  intro b4
  try simp only [nrmT] at b4
  refine ⟨?_, rfl, ?_⟩
  ·refine J53 out ?_
   ·have := Jbl hf hc i.toNat (by omega)
    omega
  have e : out.toNat = J56 E clients clients.length := by rw [h3, show i.toNat = clients.length by omega, Int.toNat_natCast]
  rw [e, Jg6 hf hc]
  unfold Jn
  rw [if_neg (fun h => b4 (by have := (JbV (E := E)).2 h; omega))]
theorem J89 (U : ZI) (E : ZR) (clients : ZI) (hf : J0 U E = true) (hc : ∀ c ∈ clients, 0 ≤ c ∧ c < (E.length : Int)) (hl : clients.length ≤ 7) : PC Tryz.prog 109 [.agg [.sl (.ints U), .sl (.rows E)], .sl (.ints clients)] (.one (.own 3 (.ints (Jn E clients)))) :=
  pc_wf @Tryz.call109 fun hw => pc_by (by kernel_rfl) Tryz.func109 @Tryz.call109 (by kernel_rfl) J8w (J8A U E clients) (by kernel_rfl) (J7I U E clients hf hc hl hw.1.1 hw.1.2.1.1 hw.1.2.1.2 hw.2.1) (by kernel_rfl)
def J7x : List D → Orc := orcN [none, some .ints] fun ds => match ds with
  | [.agg [.sl (.ints U), .sl (.rows E)], .sl (.ints clients)] => some (.one (.own 3 (.ints (Jn E clients))))
  | _ => none
def fsL (U : ZI) (E : ZR) (k : Int) : ZI := if (J0 U E && inB k 1 (U.length : Int)) = true then Jn E (Jm E (min k.toNat E.length) []) else []
theorem J6N {E : ZR} : ∀ n out, FcOk E out → out.length + n ≤ E.length → FcOk E (Jm E n out)
  | 0, _, h, _ => h
  | n + 1, out, h, hl => J6N n _ (J9m h (by omega)) (by rw [List.length_append, List.length_cons, List.length_nil]; omega)
def J8M (f : FuncId) (ds : List D) : Orc := bif Nat.beq f 97 then J2T ds else bif Nat.beq f 108 then J5x ds else bif Nat.beq f 110 then J9W ds else .no
def J8F (U : ZI) (E : ZR) (k : Int) : Ann := .none
def J58 (U : ZI) (E : ZR) (k : Int) : Prop :=
  (PC Tryz.prog 97 [.agg [.sl (.ints U), .sl (.rows E)], .int .i64 k] (.one (.d (.bool (J0 U E && inB k 1 (U.length : Int)))))) ∧ (((!(J0 U E && inB k 1 (U.length : Int))) = true → (((0 : Nat) = 0) ∧ (([] : ZI) = (fsL U E k)) ∧ (false = (J0 U E && inB k 1 (U.length : Int))))) ∧ ((!(J0 U E && inB k 1 (U.length : Int))) = false → (true = true) ∧ (PC Tryz.prog 108 [.agg [.sl (.ints U), .sl (.rows E)], .int .i64 k] (.one (.d (.sl (.ints (Jm E (min k.toNat E.length) [])))))) ∧ (PC Tryz.prog 110 [.agg [.sl (.ints U), .sl (.rows E)], .sl (.ints (Jm E (min k.toNat E.length) []))] (.one (.d (.sl (.ints (Jn E (Jm E (min k.toNat E.length) []))))))) ∧ ((((Jn E (Jm E (min k.toNat E.length) [])) : ZI) = (fsL U E k)) ∧ (true = (J0 U E && inB k 1 (U.length : Int))))))
theorem J7A (U : ZI) (E : ZR) (k : Int)  (w_Open : (U.length : Int) ≤ 9223372036854775807) (w_Dist : (E.length : Int) ≤ 9223372036854775807) (v_Dist : ∀ x9 ∈ E, (x9.length : Int) ≤ 9223372036854775807) : J58 U E k := by
  unfold J58
  refine ⟨J3T U E k, ?_, ?_⟩
  ·intro b1
   try simp only [Bool.not_eq_true', Bool.not_eq_false', Bool.not_not] at b1
   refine ⟨rfl, ?_, ?_⟩
   ·unfold fsL; rw [b1]; rfl
   exact b1.symm
  intro b2
  try simp only [Bool.not_eq_true', Bool.not_eq_false', Bool.not_not] at b2
  refine ⟨rfl, ?_, ?_, ?_, ?_⟩
  ·refine J64 U E k ?_ ?_
   ·exact (Bool.and_eq_true _ _ ▸ b2 : _ ∧ _).1
   ·exact Jx (Bool.and_eq_true _ _ ▸ b2 : _ ∧ _).2
  ·refine Jb1 U E (Jm E (min k.toNat E.length) []) ?_ ?_ ?_
   ·exact (Bool.and_eq_true _ _ ▸ b2 : _ ∧ _).1
   ·exact (J6N _ [] (J6H _) (by simp only [List.length_nil]; omega)).inR
   ·obtain ⟨g1, g2, g3⟩ := Jb (Bool.and_eq_true _ _ ▸ b2 : _ ∧ _).1
    rw [J6b]
    simp only [List.length_nil]
    omega
  ·unfold fsL; rw [if_pos b2]
  exact b2.symm
theorem J88 (U : ZI) (E : ZR) (k : Int)  : PC Tryz.prog 20 [.agg [.sl (.ints U), .sl (.rows E)], .int .i64 k] (.tup [.d (.sl (.ints (fsL U E k))), .d (.bool (J0 U E && inB k 1 (U.length : Int)))]) :=
  pc_wf @Tryz.call20 fun hw => pc_by (by kernel_rfl) Tryz.func20 @Tryz.call20 (by kernel_rfl) J8M (J8F U E k) (by kernel_rfl) (J7A U E k hw.1.1 hw.1.2.1.1 hw.1.2.1.2) (by kernel_rfl)
def J7q : List D → Orc := orcN [none, none] fun ds => match ds with
  | [.agg [.sl (.ints U), .sl (.rows E)], .int .i64 k] => some (.tup [.d (.sl (.ints (fsL U E k))), .d (.bool (J0 U E && inB k 1 (U.length : Int)))])
  | _ => none
def J8o (f : FuncId) (ds : List D) : Orc := bif Nat.beq f 93 then J1f ds else bif Nat.beq f 107 then J3W ds else bif Nat.beq f 109 then J7x ds else .no
def J8C (U : ZI) (E : ZR) (k : Int) : Ann := .none
def J5d (U : ZI) (E : ZR) (k : Int) : Prop :=
  (PC Tryz.prog 93 [.agg [.sl (.ints U), .sl (.rows E)], .int .i64 k] (.one (.d (.bool (J0 U E && inB k 1 (U.length : Int)))))) ∧ (((!(J0 U E && inB k 1 (U.length : Int))) = true → (((fsL U E k).length = 0) ∧ (false = (J0 U E && inB k 1 (U.length : Int))))) ∧ ((!(J0 U E && inB k 1 (U.length : Int))) = false → (true = true) ∧ (PC Tryz.prog 107 [.agg [.sl (.ints U), .sl (.rows E)], .int .i64 k] (.one (.own 3 (.ints (Jm E (min k.toNat E.length) []))))) ∧ ((Jm E (min k.toNat E.length) []).length = (Jm E (min k.toNat E.length) []).length) ∧ (PC Tryz.prog 109 [.agg [.sl (.ints U), .sl (.rows E)], .sl (.ints (Jm E (min k.toNat E.length) []))] (.one (.own 3 (.ints (Jn E (Jm E (min k.toNat E.length) [])))))) ∧ (((Jn E (Jm E (min k.toNat E.length) [])).length = (Jn E (Jm E (min k.toNat E.length) [])).length) ∧ ((Jn E (Jm E (min k.toNat E.length) []) : ZI) = fsL U E k) ∧ (true = (J0 U E && inB k 1 (U.length : Int))))))
theorem J7D (U : ZI) (E : ZR) (k : Int)  (w_Open : (U.length : Int) ≤ 9223372036854775807) (w_Dist : (E.length : Int) ≤ 9223372036854775807) (v_Dist : ∀ x9 ∈ E, (x9.length : Int) ≤ 9223372036854775807) : J5d U E k := by
  unfold J5d
  refine ⟨J1p U E k, ?_, ?_⟩
  ·intro b1
   try simp only [Bool.not_eq_true', Bool.not_eq_false', Bool.not_not] at b1
   refine ⟨?_, ?_⟩
   ·unfold fsL; rw [b1]; rfl
   exact b1.symm
  intro b2
  try simp only [Bool.not_eq_true', Bool.not_eq_false', Bool.not_not] at b2
  refine ⟨rfl, ?_, rfl, ?_, rfl, ?_, ?_⟩
  ·refine J4j U E k ?_ ?_
   ·exact (Bool.and_eq_true _ _ ▸ b2 : _ ∧ _).1
   ·exact Jx (Bool.and_eq_true _ _ ▸ b2 : _ ∧ _).2
  ·refine J89 U E (Jm E (min k.toNat E.length) []) ?_ ?_ ?_
   ·exact (Bool.and_eq_true _ _ ▸ b2 : _ ∧ _).1
   ·exact (J6N _ [] (J6H _) (by simp only [List.length_nil]; omega)).inR
   ·obtain ⟨g1, g2, g3⟩ := Jb (Bool.and_eq_true _ _ ▸ b2 : _ ∧ _).1
    rw [J6b]
    simp only [List.length_nil]
    omega
  ·unfold fsL; rw [if_pos b2]
  exact b2.symm
theorem J7O (U : ZI) (E : ZR) (k : Int)  : PC Tryz.prog 19 [.agg [.sl (.ints U), .sl (.rows E)], .int .i64 k] (.tup [.own 3 (.ints (fsL U E k)), .d (.bool (J0 U E && inB k 1 (U.length : Int)))]) :=
  pc_wf @Tryz.call19 fun hw => pc_by (by kernel_rfl) Tryz.func19 @Tryz.call19 (by kernel_rfl) J8o (J8C U E k) (by kernel_rfl) (J7D U E k hw.1.1 hw.1.2.1.1 hw.1.2.1.2) (by kernel_rfl)
def J7n : List D → Orc := orcN [none, none] fun ds => match ds with
  | [.agg [.sl (.ints U), .sl (.rows E)], .int .i64 k] => some (.tup [.own 3 (.ints (fsL U E k)), .d (.bool (J0 U E && inB k 1 (U.length : Int)))])
  | _ => none
def J8 (E : ZR) (r : Int) : Bool := E.all (fun row => decide (Jq row ≤ r))
def J6n (f : FuncId) (ds : List D) : Orc := bif Nat.beq f 197 then J2F ds else .no
def J6f (list : ZI) (r : Int) : Ann := .none
def J2W (list : ZI) (r : Int) : Prop :=
  (true = true) ∧ (PC Tryz.prog 197 [.sl (.ints list)] (.one (.d (.int .i64 (Jq list))))) ∧ (((decide ((Jq list) > r)) = (!(decide (Jq list ≤ r)))))
theorem J5O (list : ZI) (r : Int) (hp : 0 < list.length) (w_list : (list.length : Int) ≤ 9223372036854775807) : J2W list r := by
  unfold J2W
  refine ⟨rfl, ?_, ?_⟩
  ·refine J31 list ?_
   ·exact hp
  by_cases h : Jq list ≤ r
  · rw [decide_eq_true h, decide_eq_false (by omega)]; rfl
  · rw [decide_eq_false h, decide_eq_true (by omega)]; rfl
theorem J5P (list : ZI) (r : Int) (hp : 0 < list.length) : PC Tryz.prog 196 [.sl (.ints list), .bx [.int .i64 r] 0] (.one (.d (.bool (!(decide (Jq list ≤ r)))))) :=
  pc_wf @Tryz.call196 fun hw => pc_by (by kernel_rfl) Tryz.func196 @Tryz.call196 (by kernel_rfl) J6n (J6f list r) (by kernel_rfl) (J5O list r hp hw.1) (by kernel_rfl)
def J5E : List D → Orc := orcN [some .ints, none] fun ds => match ds with
  | [.sl (.ints list), .bx [.int .i64 r] 0] => some (.one (.d (.bool (!(decide (Jq list ≤ r))))))
  | _ => none
abbrev JB (xs : ZR) (r : Int) (i : Int) : Prop := (0 ≤ i) ∧ (i ≤ (xs.length : Int)) ∧ (∀ k, k < i.toNat → (fun row => !(decide (Jq row ≤ r))) (xs.getD k []) = false)
abbrev JC (xs : ZR) (r : Int) (i : Int) : Nat := (xs.length - i).toNat
def J3H (f : FuncId) (ds : List D) : Orc := bif Nat.beq f 196 then J5E ds else .no
def J3Q (xs : ZR) (r : Int) : Ann := .two (.none) (.two (.two (.none) (.loop (cut1 (fun (i : Int) => JB xs r i) (fun (i : Int) => [(0, .d false (.sl (.rows xs))), (1, .d false (.fn 196 0 [.bx [.int .i64 r] 0])), (7, .d true (.int .i64 (xs.length : Int))), (8, .d true (.int .i64 i))]) (fun (i : Int) => [])) (fun g => JC xs r g) (fun _ => .none))) (.none))
def J1g (xs : ZR) (r : Int) : Prop :=
  ((∃ i' : Int, (JB xs r i') ∧ (xs = xs) ∧ ((.fn 196 0 [.bx [.int .i64 r] 0] : D) = (.fn 196 0 [.bx [.int .i64 r] 0] : D)) ∧ ((xs.length : Int) = (xs.length : Int)) ∧ ((0 : Int) = i')) ∧ (∀ i : Int, (JB xs r i) → (((decide (i < (xs.length : Int))) = true → ((0 : Int) ≤ i) ∧ ((i : Int) < xs.length) ∧ (i.toNat < xs.length) ∧ (PC Tryz.prog 196 [.sl (.ints (xs.getD i.toNat [])), .bx [.int .i64 r] 0] (.one (.d (.bool (!(decide (Jq (xs.getD i.toNat []) ≤ r))))))) ∧ (((!(decide (Jq (xs.getD i.toNat []) ≤ r))) = true → ((i = (idxI (fun row => !(decide (Jq row ≤ r))) xs)))) ∧ ((!(decide (Jq (xs.getD i.toNat []) ≤ r))) = false → (I6 (i + 1)) ∧ (∃ i' : Int, (JB xs r i') ∧ (JC xs r i' < JC xs r i) ∧ (xs = xs) ∧ ((.fn 196 0 [.bx [.int .i64 r] 0] : D) = (.fn 196 0 [.bx [.int .i64 r] 0] : D)) ∧ ((xs.length : Int) = (xs.length : Int)) ∧ ((i + 1) = i'))))) ∧ ((decide (i < (xs.length : Int))) = false → ((((-1) : Int) = (idxI (fun row => !(decide (Jq row ≤ r))) xs)))))))
theorem J3A (xs : ZR) (r : Int) (hx : ∀ l ∈ xs, 0 < l.length) (w_xs : (xs.length : Int) ≤ 9223372036854775807) (v_xs : ∀ x9 ∈ xs, (x9.length : Int) ≤ 9223372036854775807) : J1g xs r := by
  unfold J1g
  refine ⟨?_, ?_⟩
  ·refine ⟨0, ?_⟩
   refine ⟨?_, rfl, rfl, rfl, rfl⟩
   ·refine ⟨?_, ?_, ?_⟩
    ·omega
    ·omega
    ·omega
  intro i hJ
  obtain ⟨h1, h2, h3⟩ := hJ
  refine ⟨?_, ?_⟩
  ·intro b1
   try simp only [nrmT] at b1
   refine ⟨?_, ?_, ?_, ?_, ?_, ?_⟩
   ·omega
   ·omega
   ·omega
   ·refine J5P (xs.getD i.toNat []) r ?_
    ·exact hx _ (getD_memI h1 b1)
   ·intro b2
    try simp only [nrmT] at b2
    exact idx_found (p := fun row => !(decide (Jq row ≤ r))) h1 b1 h3 (by simpa using b2)
   intro b3
   try simp only [nrmT] at b3
   refine ⟨?_, ?_⟩
   ·omega
   refine ⟨(i + 1), ?_⟩
   refine ⟨?_, ?_, rfl, rfl, rfl, rfl⟩
   ·refine ⟨?_, ?_, ?_⟩
    ·omega
    ·omega
    ·exact idx_step (p := fun row => !(decide (Jq row ≤ r))) h1 h3 (by simpa using b3)
   (simp only [JC]; omega)
  intro b4
  try simp only [nrmT] at b4
  exact (idx_none (by omega) h3).symm
theorem J3D (xs : ZR) (r : Int) (hx : ∀ l ∈ xs, 0 < l.length) : PC Tryz.prog 226 [.sl (.rows xs), .fn 196 0 [.bx [.int .i64 r] 0]] (.one (.d (.int .i64 (idxI (fun row => !(decide (Jq row ≤ r))) xs)))) :=
  pc_wf @Tryz.call226 fun hw => pc_by (by kernel_rfl) Tryz.func226 @Tryz.call226 (by kernel_rfl) J3H (J3Q xs r) (by kernel_rfl) (J3A xs r hx hw.1.1 hw.1.2) (by kernel_rfl)
def J3j : List D → Orc := orcN [some .rows, none] fun ds => match ds with
  | [.sl (.rows xs), .fn f0 0 [.bx [.int .i64 r] 0]] => bif Nat.beq f0 196 then some (.one (.d (.int .i64 (idxI (fun row => !(decide (Jq row ≤ r))) xs)))) else none
  | _ => none
def J2R (f : FuncId) (ds : List D) : Orc := bif Nat.beq f 226 then J3j ds else .no
def J2X (xs : ZR) (r : Int) : Ann := .none
def J0L (xs : ZR) (r : Int) : Prop :=
  (PC Tryz.prog 226 [.sl (.rows xs), .fn 196 0 [.bx [.int .i64 r] 0]] (.one (.d (.int .i64 (idxI (fun row => !(decide (Jq row ≤ r))) xs))))) ∧ (((decide ((idxI (fun row => !(decide (Jq row ≤ r))) xs) ≥ 0)) = (xs.any (fun row => !(decide (Jq row ≤ r))))))
theorem J2O (xs : ZR) (r : Int) (hx : ∀ l ∈ xs, 0 < l.length) (w_xs : (xs.length : Int) ≤ 9223372036854775807) (v_xs : ∀ x9 ∈ xs, (x9.length : Int) ≤ 9223372036854775807) : J0L xs r := by
  unfold J0L
  refine ⟨?_, ?_⟩
  ·refine J3D xs r ?_
   ·exact hx
  exact idx_any _ _
theorem J2J (xs : ZR) (r : Int) (hx : ∀ l ∈ xs, 0 < l.length) : PC Tryz.prog 195 [.sl (.rows xs), .fn 196 0 [.bx [.int .i64 r] 0]] (.one (.d (.bool (xs.any (fun row => !(decide (Jq row ≤ r))))))) :=
  pc_wf @Tryz.call195 fun hw => pc_by (by kernel_rfl) Tryz.func195 @Tryz.call195 (by kernel_rfl) J2R (J2X xs r) (by kernel_rfl) (J2O xs r hx hw.1.1 hw.1.2) (by kernel_rfl)
def J2E : List D → Orc := orcN [some .rows, none] fun ds => match ds with
  | [.sl (.rows xs), .fn f0 0 [.bx [.int .i64 r] 0]] => bif Nat.beq f0 196 then some (.one (.d (.bool (xs.any (fun row => !(decide (Jq row ≤ r))))))) else none
  | _ => none
def J6G (f : FuncId) (ds : List D) : Orc := bif Nat.beq f 195 then J2E ds else .no
def J6O (U : ZI) (E : ZR) (r : Int) : Ann := .none
def J4c (U : ZI) (E : ZR) (r : Int) : Prop :=
  (PC Tryz.prog 195 [.sl (.rows E), .fn 196 0 [.bx [.int .i64 r] 0]] (.one (.d (.bool (E.any (fun row => !(decide (Jq row ≤ r)))))))) ∧ (((!(E.any (fun row => !(decide (Jq row ≤ r))))) = (J8 E r)))
theorem J6u (U : ZI) (E : ZR) (r : Int) (hf : J0 U E = true) (w_Open : (U.length : Int) ≤ 9223372036854775807) (w_Dist : (E.length : Int) ≤ 9223372036854775807) (v_Dist : ∀ x9 ∈ E, (x9.length : Int) ≤ 9223372036854775807) : J4c U E r := by
  unfold J4c
  refine ⟨?_, ?_⟩
  ·refine J2J E r ?_
   ·intro l hl
    obtain ⟨k, hk, rfl⟩ := List.mem_iff_getElem.1 hl
    have h1 := (Je hf hk).1
    rw [Ja hk] at h1
    have := Jb hf
    omega
  exact any_not _ _
theorem J6x (U : ZI) (E : ZR) (r : Int) (hf : J0 U E = true) : PC Tryz.prog 102 [.agg [.sl (.ints U), .sl (.rows E)], .int .i64 r] (.one (.d (.bool (J8 E r)))) :=
  pc_wf @Tryz.call102 fun hw => pc_by (by kernel_rfl) Tryz.func102 @Tryz.call102 (by kernel_rfl) J6G (J6O U E r) (by kernel_rfl) (J6u U E r hf hw.1.1 hw.1.2.1.1 hw.1.2.1.2) (by kernel_rfl)
def J6p : List D → Orc := orcN [none, none] fun ds => match ds with
  | [.agg [.sl (.ints U), .sl (.rows E)], .int .i64 r] => some (.one (.d (.bool (J8 E r))))
  | _ => none
abbrev J48 (U : ZI) (E : ZR) (r : Int) (j : Int) : Prop := (0 ≤ j) ∧ (j ≤ (E.length : Int)) ∧ (allTo (fun k => decide (Jq (E.getD k []) ≤ r)) j.toNat = true)
abbrev J3P (U : ZI) (E : ZR) (r : Int) (j : Int) : Nat := (E.length - j).toNat
abbrev J42 (U : ZI) (E : ZR) (r : Int) (j : Int) (near : Bool) (a : Int) : Prop := (0 ≤ a) ∧ (a ≤ (U.length : Int)) ∧ (near = !(allTo (fun c => !(decide ((E.getD j.toNat []).getD c 0 ≤ r))) a.toNat))
abbrev J3S (U : ZI) (E : ZR) (r : Int) (j : Int) (near : Bool) (a : Int) : Nat := (U.length - a).toNat
def Jf8 (f : FuncId) (ds : List D) : Orc := .no
def JeW (U : ZI) (E : ZR) (r : Int) : Ann := .two (.none) (.two (.two (.none) (.loop (cut1 (fun (j : Int) => J48 U E r j) (fun (j : Int) => [(1, .d false (.int .i64 r)), (2, .ptr 2 0), (5, .d true (.int .i64 j))]) (fun (j : Int) => [(2, .box 27 [.d false (.sl (.ints U)), .d false (.sl (.rows E))])])) (fun g => J3P U E r g) (fun g => (fun (j : Int) => .two (.none) (.two (.two (.none) (.two (.two (.none) (.loop (cut2 (fun (near : Bool) (a : Int) => J42 U E r j near a) (fun (near : Bool) (a : Int) => [(1, .d false (.int .i64 r)), (2, .ptr 2 0), (5, .d true (.int .i64 j)), (6, .d true (.bool near)), (7, .d true (.int .i64 a))]) (fun (near : Bool) (a : Int) => [(2, .box 27 [.d false (.sl (.ints U)), .d false (.sl (.rows E))])])) (fun g => J3S U E r j g.1 g.2) (fun _ => .none))) (.none))) (.none))) g))) (.none))
def Jan (U : ZI) (E : ZR) (r : Int) : Prop :=
  ((∃ j' : Int, (J48 U E r j') ∧ (r = r) ∧ ((0 : Int) = j') ∧ (U = U) ∧ (E = E)) ∧ (∀ j : Int, (J48 U E r j) → (((decide (j < (E.length : Int))) = true → ((∃ near' : Bool, ∃ a' : Int, (J42 U E r j near' a') ∧ (r = r) ∧ (j = j) ∧ (false = near') ∧ ((0 : Int) = a') ∧ (U = U) ∧ (E = E)) ∧ (∀ near : Bool, ∀ a : Int, (J42 U E r j near a) → (((decide (a < (U.length : Int))) = true → ((!near) = true → (!near) = true) ∧ ((!near) = true → (!near) = true) ∧ ((!near) = true → (!near) = true) ∧ (((!near) = true → (0 : Int) ≤ j)) ∧ (((!near) = true → (j : Int) < E.length)) ∧ ((!near) = true → (!near) = true) ∧ (((!near) = true → j.toNat < E.length)) ∧ ((!near) = true → (!near) = true) ∧ ((!near) = true → (!near) = true) ∧ (((!near) = true → (0 : Int) ≤ a)) ∧ (((!near) = true → (a : Int) < (E.getD j.toNat []).length)) ∧ ((!near) = true → (!near) = true) ∧ (((!near) = true → a.toNat < (E.getD j.toNat []).length)) ∧ ((!near) = true → (!near) = true) ∧ ((!near) = true → (!near) = true) ∧ (true = true) ∧ ((near = true → true = true)) ∧ ((near = false → (!near) = true)) ∧ (I6 (a + 1)) ∧ (∃ near' : Bool, ∃ a' : Int, (J42 U E r j near' a') ∧ (J3S U E r j near' a' < J3S U E r j near a) ∧ (r = r) ∧ (j = j) ∧ ((cond near true (decide (((E.getD j.toNat []).getD a.toNat 0) ≤ r))) = near') ∧ ((a + 1) = a') ∧ (U = U) ∧ (E = E))) ∧ ((decide (a < (U.length : Int))) = false → (((!near) = true → ((false = (J8 E r)))) ∧ ((!near) = false → (I6 (j + 1)) ∧ (∃ j' : Int, (J48 U E r j') ∧ (J3P U E r j' < J3P U E r j) ∧ (r = r) ∧ ((j + 1) = j') ∧ (U = U) ∧ (E = E))))))))) ∧ ((decide (j < (E.length : Int))) = false → ((true = (J8 E r)))))))
theorem JdX (U : ZI) (E : ZR) (r : Int) (hf : J0 U E = true) (w_Open : (U.length : Int) ≤ 9223372036854775807) (w_Dist : (E.length : Int) ≤ 9223372036854775807) (v_Dist : ∀ x9 ∈ E, (x9.length : Int) ≤ 9223372036854775807) : Jan U E r := by
  unfold Jan
  obtain ⟨g1, g2, g3⟩ := Jb hf
  refine ⟨?_, ?_⟩
  ·refine ⟨0, ?_⟩
   refine ⟨?_, rfl, rfl, rfl, rfl⟩
   ·refine ⟨?_, ?_, ?_⟩
    ·omega
    ·omega
    ·rfl
  intro j hJ
  obtain ⟨h1, h2, h3⟩ := hJ
  refine ⟨?_, ?_⟩
  ·intro b1
   try simp only [nrmT] at b1
   refine ⟨?_, ?_⟩
   ·refine ⟨false, 0, ?_⟩
    refine ⟨?_, rfl, rfl, rfl, rfl, rfl, rfl⟩
    ·refine ⟨?_, ?_, ?_⟩
     ·omega
     ·omega
     ·rfl
   intro near a hJ
   obtain ⟨h4, h5, h6⟩ := hJ
   refine ⟨?_, ?_⟩
   ·intro b2
    try simp only [nrmT] at b2
    refine ⟨id, id, id, ?_, ?_, id, ?_, id, id, ?_, ?_, id, ?_, id, id, rfl, fun _ => rfl, ?_, ?_, ?_⟩
    ·obtain ⟨rl, _⟩ := Je (i := j.toNat) hf (by omega)
     intro _; omega
    ·obtain ⟨rl, _⟩ := Je (i := j.toNat) hf (by omega)
     intro _; omega
    ·obtain ⟨rl, _⟩ := Je (i := j.toNat) hf (by omega)
     intro _; omega
    ·obtain ⟨rl, _⟩ := Je (i := j.toNat) hf (by omega)
     intro _; omega
    ·obtain ⟨rl, _⟩ := Je (i := j.toNat) hf (by omega)
     intro _; omega
    ·obtain ⟨rl, _⟩ := Je (i := j.toNat) hf (by omega)
     intro _; omega
    ·intro h; rw [h]; rfl
    ·omega
    refine ⟨(cond near true (decide (((E.getD j.toNat []).getD a.toNat 0) ≤ r))), (a + 1), ?_⟩
    refine ⟨?_, ?_, rfl, rfl, rfl, rfl, rfl, rfl⟩
    ·refine ⟨?_, ?_, ?_⟩
     ·omega
     ·omega
     ·rw [h6, Jf7 h4]
      cases allTo (fun c => !(decide ((E.getD j.toNat []).getD c 0 ≤ r))) a.toNat <;> cases decide ((E.getD j.toNat []).getD a.toNat 0 ≤ r) <;> rfl
    (simp only [J3S]; omega)
   intro b3
   try simp only [nrmT] at b3
   refine ⟨?_, ?_⟩
   ·intro b4
    try simp only [nrmT] at b4
    obtain ⟨rl, _⟩ := Je (i := j.toNat) hf (by omega)
    have hn := Jdl (row := E.getD j.toNat []) (r := r) (by omega)
    rw [rl] at hn
    rw [show a.toNat = U.length by omega, hn] at h6
    unfold J8
    rw [Jd4 (p := fun row => decide (Jq row ≤ r)) (d := []) h1 (by omega) (by rw [← h6]; exact b4)]
   intro b5
   try simp only [nrmT] at b5
   refine ⟨?_, ?_⟩
   ·omega
   refine ⟨(j + 1), ?_⟩
   refine ⟨?_, ?_, rfl, rfl, rfl, rfl⟩
   ·refine ⟨?_, ?_, ?_⟩
    ·omega
    ·omega
    ·obtain ⟨rl, _⟩ := Je (i := j.toNat) hf (by omega)
     have hn := Jdl (row := E.getD j.toNat []) (r := r) (by omega)
     rw [rl] at hn
     rw [show a.toNat = U.length by omega, hn] at h6
     exact allTo_step h1 h3 (by rw [← h6]; exact b5)
   (simp only [J3P]; omega)
  intro b6
  try simp only [nrmT] at b6
  unfold J8
  exact (Jbk (p := fun row => decide (Jq row ≤ r)) (d := []) (by omega) h2 h3).symm
theorem Je4 (U : ZI) (E : ZR) (r : Int) (hf : J0 U E = true) : PC Tryz.prog 105 [.agg [.sl (.ints U), .sl (.rows E)], .int .i64 r] (.one (.d (.bool (J8 E r)))) :=
  pc_wf @Tryz.call105 fun hw => pc_by (by kernel_rfl) Tryz.func105 @Tryz.call105 (by kernel_rfl) Jf8 (JeW U E r) (by kernel_rfl) (JdX U E r hf hw.1.1 hw.1.2.1.1 hw.1.2.1.2) (by kernel_rfl)
def Jda : List D → Orc := orcN [none, none] fun ds => match ds with
  | [.agg [.sl (.ints U), .sl (.rows E)], .int .i64 r] => some (.one (.d (.bool (J8 E r))))
  | _ => none
def Js (a b : ZI) : Int := if J18 (a.length : Int) (b.length : Int) = 0 then Jj a b else J18 (a.length : Int) (b.length : Int)
theorem JbS : ∀ x : ZI, Jj x x = 0
  | [] => rfl
  | x :: r => by unfold Jj; rw [if_neg (by omega), if_neg (by omega)]; exact JbS r
theorem JbB : ∀ {x y : ZI}, Jj x y = 0 → x = y
  | [], [], _ => rfl
  | [], _ :: _, h => by simp [Jj] at h
  | _ :: _, [], h => by simp [Jj] at h
  | x :: r, y :: s, h => by
    unfold Jj at h
    by_cases h1 : x < y
    · rw [if_pos h1] at h; omega
    rw [if_neg h1] at h
    by_cases h2 : x > y
    · rw [if_pos h2] at h; omega
    rw [if_neg h2] at h
    have : x = y := by omega
    rw [this, JbB h]
theorem JbA : ∀ {x y : ZI}, Jj x y < 0 ↔ 0 < Jj y x
  | [], [] => by simp [Jj]
  | [], _ :: _ => by simp [Jj]
  | _ :: _, [] => by simp [Jj]
  | x :: r, y :: s => by
    unfold Jj
    by_cases h1 : x < y
    · rw [if_pos h1, if_neg (by omega), if_pos (by omega)]; omega
    rw [if_neg h1]
    by_cases h2 : x > y
    · rw [if_pos h2, if_pos (by omega)]; omega
    rw [if_neg h2, if_neg (by omega), if_neg (by omega)]; exact JbA
theorem Jek : ∀ {x y z : ZI}, Jj x y < 0 → Jj y z < 0 → Jj x z < 0
  | [], _, [], h1, h2 => by
    exfalso
    rename_i y
    cases y with
    | nil => simp [Jj] at h1
    | cons y s => simp [Jj] at h2
  | [], _, _ :: _, _, _ => by simp [Jj]
  | _ :: _, [], _, h, _ => by simp [Jj] at h
  | _ :: _, _ :: _, [], _, h => by simp [Jj] at h
  | x :: r, y :: s, z :: t, h1, h2 => by
    unfold Jj at h1 h2 ⊢
    by_cases a1 : x < y
    · by_cases a2 : y < z
      · rw [if_pos (by omega)]; omega
      · rw [if_neg a2] at h2
        by_cases a3 : y > z
        · rw [if_pos a3] at h2; omega
        rw [if_pos (by omega)]; omega
    rw [if_neg a1] at h1
    by_cases a4 : x > y
    · rw [if_pos a4] at h1; omega
    rw [if_neg a4] at h1
    by_cases a2 : y < z
    · rw [if_pos (by omega)]; omega
    rw [if_neg a2] at h2
    by_cases a3 : y > z
    · rw [if_pos a3] at h2; omega
    rw [if_neg a3] at h2
    rw [if_neg (by omega), if_neg (by omega)]
    exact Jek h1 h2
theorem J09 (a b : ZI) : (a.length < b.length ∧ Js a b < 0) ∨ (b.length < a.length ∧ 0 < Js a b) ∨ (a.length = b.length ∧ Js a b = Jj a b) := by
  unfold Js J18
  by_cases h1 : (a.length : Int) < b.length
  · rw [if_pos h1]; left; exact ⟨by omega, by rw [if_neg (by omega)]; omega⟩
  rw [if_neg h1]
  by_cases h2 : (a.length : Int) > b.length
  · rw [if_pos h2]; right; left; exact ⟨by omega, by rw [if_neg (by omega)]; omega⟩
  rw [if_neg h2]; right; right; exact ⟨by omega, by rw [if_pos rfl]⟩
theorem JbP (a : ZI) : Js a a = 0 := by
  rcases J09 a a with h | h | h
  · omega
  · omega
  rw [h.2, JbS]
theorem JbM {a b : ZI} (h : Js a b = 0) : a = b := by
  rcases J09 a b with h1 | h1 | h1
  · omega
  · omega
  exact JbB (h1.2 ▸ h)
theorem J63 {a b : ZI} : Js a b < 0 ↔ 0 < Js b a := by
  rcases J09 a b with h1 | h1 | h1 <;> rcases J09 b a with h2 | h2 | h2
  · omega
  · omega
  · omega
  · omega
  · omega
  · omega
  · omega
  · omega
  rw [h1.2, h2.2]; exact JbA
theorem Jeo {a b c : ZI} (h : Js a b < 0) (k : Js b c < 0) : Js a c < 0 := by
  rcases J09 a b with h1 | h1 | h1 <;> rcases J09 b c with h2 | h2 | h2 <;> rcases J09 a c with h3 | h3 | h3
  all_goals first | omega | (rw [h3.2]; exact Jek (h1.2 ▸ h) (h2.2 ▸ k))
theorem Jfw {β : Type} {c : β → β → Int} (hs : ∀ x, c x x = 0) (h0 : ∀ {x y}, c x y = 0 → x = y) (hf : ∀ {x y}, c x y < 0 ↔ 0 < c y x) (ht : ∀ {x y z}, c x y < 0 → c y z < 0 → c x z < 0) :
    Go.Sort.SWO (ltOf c) ∧ ∀ x y, ltOf c x y = false → ltOf c y x = false → x = y := by
  refine ⟨⟨fun x => ?_, fun x y z h1 h2 => ?_, fun x y z h1 h2 => ?_⟩, fun x y h1 h2 => ?_⟩
  · exact decide_eq_false (by rw [hs]; omega)
  · exact decide_eq_true (ht (of_decide_eq_true h1) (of_decide_eq_true h2))
  · have h1 := of_decide_eq_false h1
    have h2 := of_decide_eq_false h2
    refine decide_eq_false fun h3 => ?_
    by_cases e1 : c x y = 0
    · rw [h0 e1] at h3; omega
    by_cases e2 : c y z = 0
    · rw [← h0 e2] at h3; omega
    · have a1 : c y x < 0 := hf.2 (by omega)
      have a2 : c z y < 0 := hf.2 (by omega)
      have a3 := ht a2 a1
      have a4 := hf.1 h3
      omega
  have h1 := of_decide_eq_false h1
  have h2 := of_decide_eq_false h2
  refine h0 ?_
  by_cases e1 : 0 < c x y
  · have := hf.2 e1; omega
  omega
theorem Jeu : Go.Sort.SWO (ltOf Js) := (Jfw JbP JbM J63 Jeo).1
theorem JgI : ∀ x y, ltOf Js x y = false → ltOf Js y x = false → x = y := (Jfw JbP JbM J63 Jeo).2
def orI : ZI → Int
  | [] => 0
  | x :: r => if x = 0 then orI r else x
theorem Jdv {xs : ZI} {i : Nat} (h : orI xs = orI (xs.drop i)) (hi : i < xs.length) : orI xs = if xs.getD i 0 = 0 then orI (xs.drop (i + 1)) else xs.getD i 0 := by
  rw [h, List.drop_eq_getElem_cons hi, Ja hi]; rfl
theorem Jgw {xs : ZI} {i : Nat} (h : orI xs = orI (xs.drop i)) (hi : xs.length ≤ i) : orI xs = 0 := by
  rw [h, List.drop_eq_nil_of_le hi]; rfl
theorem Jgu (a b : Int) : orI [a, b] = if a = 0 then b else a := by
  unfold orI orI orI
  by_cases h : b = 0
  · rw [if_pos h, h]
  rw [if_neg h]
def J3Z (n m : Nat) : ZR := (List.range m).map fun c => lst n (c + 1)
def J6 (n : Nat) : ZR := (J3Z n (2 ^ n - 1)).mergeSort fun x9 y9 => !(ltOf Js) y9 x9
theorem J1l (n m : Nat) : (J3Z n m).length = m := by simp [J3Z]
theorem JbO (n : Nat) : (J6 n).length = 2 ^ n - 1 := by unfold J6; rw [List.length_mergeSort, J1l]
theorem JbN (n m : Nat) : J3Z n (m + 1) = J3Z n m ++ [lst n (m + 1)] := by simp [J3Z, List.range_succ]
theorem J7U {n : Nat} {s : ZI} : s ∈ J6 n ↔ ∃ c, 1 ≤ c ∧ c < 2 ^ n ∧ lst n c = s := by
  unfold J6
  rw [(List.mergeSort_perm _ _).mem_iff, J3Z, List.mem_map]
  constructor
  · rintro ⟨c, hc, rfl⟩
    have := List.mem_range.1 hc
    exact ⟨c + 1, by omega, by omega, rfl⟩
  rintro ⟨c, h1, h2, rfl⟩
  exact ⟨c - 1, List.mem_range.2 (by omega), by rw [show c - 1 + 1 = c by omega]⟩
theorem Jgx {n c : Nat} (h1 : 1 ≤ c) (h2 : c < 2 ^ n) : 0 < (lst n c).length := by
  rcases Nat.eq_zero_or_pos (lst n c).length with h | h
  · exfalso
    have e : lst n c = [] := List.eq_nil_of_length_eq_zero h
    have : c = 0 := by
      apply Nat.eq_of_testBit_eq
      intro i
      rw [Nat.zero_testBit]
      by_cases hi : i < n
      · cases hb : c.testBit i with
        | false => rfl
        | true =>
          have hm : (i : Int) ∈ lst n c := mem_members.2 ⟨by omega, by omega, by rw [Int.toNat_natCast]; exact hb⟩
          rw [e] at hm; cases hm
      exact Nat.testBit_lt_two_pow (Nat.lt_of_lt_of_le h2 (Nat.pow_le_pow_right (by omega) (by omega)))
    omega
  exact h
theorem JgG {n c : Nat} (hn : n ≤ 62) (h : c < 2 ^ n) : members (fun k => c.testBit k) 62 = lst n c :=
  J1v (fun k hk => Nat.testBit_lt_two_pow (Nat.lt_of_lt_of_le h (Nat.pow_le_pow_right (by omega) hk))) 62 hn
theorem Jew {out : ZR} {s : ZI} {k : Nat} (ho : out.Pairwise fun x9 y9 => ltOf Js y9 x9 = false) (hk : k ≤ out.length) (h1 : ∀ j, k ≤ j → j < out.length → Js s (out.getD j []) < 0) (h2 : k = 0 ∨ ¬ Js s (out.getD (k - 1) []) < 0) :
    ((out.take k ++ [s]) ++ out.drop k).Pairwise fun x9 y9 => ltOf Js y9 x9 = false := by
  have hle : ∀ x ∈ out.take k, ltOf Js s x = false := by
    intro x hx
    obtain ⟨j, hj, rfl⟩ := List.mem_iff_getElem.1 hx
    have hj' : j < k ∧ j < out.length := by rw [List.length_take] at hj; omega
    rcases h2 with h2 | h2
    · omega
    have hs : ltOf Js s (out.getD (k - 1) []) = false := decide_eq_false h2
    by_cases e : j = k - 1
    · subst e; rw [Ja (by omega)] at hs; simpa using hs
    have := List.pairwise_iff_getElem.1 ho j (k - 1) (by omega) (by omega) (by omega)
    rw [Ja (by omega)] at hs
    simpa using Jeu.ntrans _ _ _ hs this
  have hgt : ∀ y ∈ out.drop k, ltOf Js y s = false := by
    intro y hy
    obtain ⟨j, hj, rfl⟩ := List.mem_iff_getElem.1 hy
    have hj' : k + j < out.length := by rw [List.length_drop] at hj; omega
    have := h1 (k + j) (by omega) hj'
    rw [Ja hj'] at this
    rw [List.getElem_drop]
    refine decide_eq_false fun h => ?_
    have := J63.1 h
    omega
  refine List.pairwise_append.2 ⟨List.pairwise_append.2 ⟨ho.sublist (List.take_sublist _ _), by simp, fun a ha b hb => ?_⟩, ho.sublist (List.drop_sublist _ _), fun a ha b hb => ?_⟩
  · have : b = s := by simpa using hb
    subst this; exact hle a ha
  rcases List.mem_append.1 ha with ha | ha
  · obtain ⟨i, hi, rfl⟩ := List.mem_iff_getElem.1 ha
    obtain ⟨j, hj, rfl⟩ := List.mem_iff_getElem.1 hb
    have hi' : i < k ∧ i < out.length := by rw [List.length_take] at hi; omega
    have hj' : k + j < out.length := by rw [List.length_drop] at hj; omega
    have := List.pairwise_iff_getElem.1 ho i (k + j) hi'.2 hj' (by omega)
    simpa using this
  · have : a = s := by simpa using ha
    subst this; exact hgt b hb
theorem Jg5 {out : ZR} {s : ZI} {n m k : Nat} (hp : out.Perm (J3Z n m)) (hs : s = lst n (m + 1)) : ((out.take k ++ [s]) ++ out.drop k).Perm (J3Z n (m + 1)) := by
  rw [JbN, ← hs, List.append_assoc]
  refine List.Perm.trans (List.perm_append_comm_assoc _ _ _) ?_
  refine List.Perm.trans ?_ (List.perm_append_comm)
  rw [List.take_append_drop]
  exact hp.append_left [s]
theorem Jfp {out : ZR} {n m : Nat} (hp : out.Perm (J3Z n m)) (hm : m = 2 ^ n - 1) (ho : out.Pairwise fun x9 y9 => ltOf Js y9 x9 = false) : out = J6 n := by
  subst hm
  exact sortedBy_unique Jeu JgI hp ho
abbrev J1N (xs : ZI) (i : Int) : Prop := (0 ≤ i) ∧ (i ≤ (xs.length : Int)) ∧ (orI xs = orI (xs.drop i.toNat))
abbrev J1S (xs : ZI) (i : Int) : Nat := (xs.length - i).toNat
def Jcv (f : FuncId) (ds : List D) : Orc := .no
def Jc8 (xs : ZI) : Ann := .two (.none) (.two (.none) (.two (.two (.none) (.loop (cut1 (fun (i : Int) => J1N xs i) (fun (i : Int) => [(3, .d true (.int .i64 0)), (6, .d false (.sl (.ints xs))), (7, .d true (.int .i64 (xs.length : Int))), (8, .d true (.int .i64 i))]) (fun (i : Int) => [])) (fun g => J1S xs g) (fun _ => .none))) (.none)))
def J77 (xs : ZI) : Prop :=
  ((∃ i' : Int, (J1N xs i') ∧ ((0 : Int) = 0) ∧ (xs = xs) ∧ ((xs.length : Int) = (xs.length : Int)) ∧ ((0 : Int) = i')) ∧ (∀ i : Int, (J1N xs i) → (((decide (i < (xs.length : Int))) = true → ((0 : Int) ≤ i) ∧ ((i : Int) < xs.length) ∧ (i.toNat < xs.length) ∧ ((((xs.getD i.toNat 0) != 0) = true → (((xs.getD i.toNat 0) = (orI xs)))) ∧ (((xs.getD i.toNat 0) != 0) = false → (I6 (i + 1)) ∧ (∃ i' : Int, (J1N xs i') ∧ (J1S xs i' < J1S xs i) ∧ ((0 : Int) = 0) ∧ (xs = xs) ∧ ((xs.length : Int) = (xs.length : Int)) ∧ ((i + 1) = i'))))) ∧ ((decide (i < (xs.length : Int))) = false → (((0 : Int) = (orI xs)))))))
end Go.Proofs.YtomnmacmlhkceaaGreat
