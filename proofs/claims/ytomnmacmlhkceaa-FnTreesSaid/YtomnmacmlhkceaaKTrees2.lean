/- Contracts of the functions that the law reaches. -/
import Derived.Test.YtomnmacmlhkceaaKTrees1
import Derived.KernelRfl
set_option linter.unusedVariables false
set_option linter.unusedSimpArgs false
namespace Go.Proofs.Ytomnmacmlhkceaa
open Go

def J6r : List D → Orc := orcN [some .ints, some .ints, none, none] fun ds => match ds with
  | [.sl (.ints parents), .sl (.ints lengths), .int .i64 x, .int .i64 y] => some (.one (.d (.int .i64 (tdL parents lengths x.toNat y.toNat))))
  | _ => none
abbrev J0T (parents : ZI) (i : Int) : Prop := (0 ≤ i) ∧ (i + 1 ≤ (parents.length : Int)) ∧ (allTo (J0D parents) (i.toNat + 1) = true)
abbrev J0g (parents : ZI) (i : Int) : Nat := (parents.length - i).toNat
def J5I (f : FuncId) (ds : List D) : Orc := bif Nat.beq f 120 then J0X ds else .no
def J5G (parents : ZI) : Ann := .two (.none) (.two (.none) (.two (.two (.none) (.loop (cut1 (fun (i : Int) => J0T parents i) (fun (i : Int) => [(16, .d false (.sl (.ints ((parents.take parents.length).drop 1)))), (17, .d true (.int .i64 (((parents.take parents.length).drop 1).length : Int))), (18, .d true (.int .i64 i))]) (fun (i : Int) => [])) (fun g => J0g parents g) (fun _ => .none))) (.none)))
def J30 (parents : ZI) : Prop :=
  (PC Try.prog 120 [.int .i64 (parents.length : Int), .int .i64 1, .int .i64 7] (.one (.d (.bool (inB (parents.length : Int) 1 7))))) ∧ ((!(!(inB (parents.length : Int) 1 7))) = true → (!(!(inB (parents.length : Int) 1 7))) = true) ∧ (((!(!(inB (parents.length : Int) 1 7))) = true → (0 : Int) ≤ 0)) ∧ (((!(!(inB (parents.length : Int) 1 7))) = true → (0 : Int) < parents.length)) ∧ ((!(!(inB (parents.length : Int) 1 7))) = true → (!(!(inB (parents.length : Int) 1 7))) = true) ∧ (((!(!(inB (parents.length : Int) 1 7))) = true → 0 < parents.length)) ∧ ((!(!(inB (parents.length : Int) 1 7))) = true → (!(!(inB (parents.length : Int) 1 7))) = true) ∧ (true = true) ∧ (((!(inB (parents.length : Int) 1 7)) = true → true = true)) ∧ (((!(inB (parents.length : Int) 1 7)) = false → (!(!(inB (parents.length : Int) 1 7))) = true)) ∧ (((cond (!(inB (parents.length : Int) 1 7)) true ((parents.getD 0 0) != (-1))) = true → ((false = (J2 parents)))) ∧ ((cond (!(inB (parents.length : Int) 1 7)) true ((parents.getD 0 0) != (-1))) = false → ((0 : Int) ≤ 1) ∧ ((1 : Int) ≤ parents.length) ∧ ((∃ i' : Int, (J0T parents i') ∧ (((parents.take parents.length).drop 1) = ((parents.take parents.length).drop 1)) ∧ ((((parents.take parents.length).drop 1).length : Int) = (((parents.take parents.length).drop 1).length : Int)) ∧ ((0 : Int) = i')) ∧ (∀ i : Int, (J0T parents i) → (((decide (i < (((parents.take parents.length).drop 1).length : Int))) = true → ((0 : Int) ≤ i) ∧ ((i : Int) < ((parents.take parents.length).drop 1).length) ∧ (i.toNat < ((parents.take parents.length).drop 1).length) ∧ (PC Try.prog 120 [.int .i64 (((parents.take parents.length).drop 1).getD i.toNat 0), .int .i64 0, .int .i64 i] (.one (.d (.bool (inB (((parents.take parents.length).drop 1).getD i.toNat 0) 0 i))))) ∧ (((!(inB (((parents.take parents.length).drop 1).getD i.toNat 0) 0 i)) = true → ((false = (J2 parents)))) ∧ ((!(inB (((parents.take parents.length).drop 1).getD i.toNat 0) 0 i)) = false → (I6 (i + 1)) ∧ (∃ i' : Int, (J0T parents i') ∧ (J0g parents i' < J0g parents i) ∧ (((parents.take parents.length).drop 1) = ((parents.take parents.length).drop 1)) ∧ ((((parents.take parents.length).drop 1).length : Int) = (((parents.take parents.length).drop 1).length : Int)) ∧ ((i + 1) = i'))))) ∧ ((decide (i < (((parents.take parents.length).drop 1).length : Int))) = false → ((true = (J2 parents)))))))))
theorem J5c (parents : ZI)  (w_parents : (parents.length : Int) ≤ 9223372036854775807) : J30 parents := by
  unfold J30
  refine ⟨J0E (parents.length : Int) 1 7, id, ?_, ?_, id, ?_, id, rfl, fun _ => rfl, ?_, ?_, ?_⟩
  ·first | (intro h; rw [h]; rfl) | (intro h; have hI : inB (parents.length : Int) 1 7 = true := (by revert h; cases inB (parents.length : Int) 1 7 <;> simp); have := JJ hI; omega)
  ·first | (intro h; rw [h]; rfl) | (intro h; have hI : inB (parents.length : Int) 1 7 = true := (by revert h; cases inB (parents.length : Int) 1 7 <;> simp); have := JJ hI; omega)
  ·first | (intro h; rw [h]; rfl) | (intro h; have hI : inB (parents.length : Int) 1 7 = true := (by revert h; cases inB (parents.length : Int) 1 7 <;> simp); have := JJ hI; omega)
  ·first | (intro h; rw [h]; rfl) | (intro h; have hI : inB (parents.length : Int) 1 7 = true := (by revert h; cases inB (parents.length : Int) 1 7 <;> simp); have := JJ hI; omega)
  ·intro b1
   cases q : J2 parents with
   | false => rfl
   | true =>
     exfalso
     obtain ⟨t1, t2, t3, _⟩ := J4 q
     have hI : inB (parents.length : Int) 1 7 = true := by unfold J2 at q; rw [Bool.and_eq_true] at q; exact q.1
     rw [hI, t3] at b1
     simp at b1
  intro b2
  refine ⟨?_, ?_, ?_, ?_⟩
  ·first | omega | rfl | (intro hg; simp only [nrmT] at hg; omega) | (intro g1 g2; simp [g1, g2]; done) | (intro g1; simp at g1 ⊢; simp [g1]; done) | (simp only [nrmT] at *; omega) | (simp at * <;> omega) | (simp_all <;> omega) | (simp_all; done)
  ·have hI : inB (parents.length : Int) 1 7 = true := by revert b2; cases inB (parents.length : Int) 1 7 <;> simp
   have hI2 := JJ hI
   have ln : ((parents.take parents.length).drop 1).length = parents.length - 1 := by rw [List.take_length]; exact List.length_drop
   first | omega | (simp; omega)
  ·refine ⟨0, ?_⟩
   refine ⟨?_, rfl, rfl, rfl⟩
   ·refine ⟨?_, ?_, ?_⟩
    ·first | omega | rfl | (intro hg; simp only [nrmT] at hg; omega) | (intro g1 g2; simp [g1, g2]; done) | (intro g1; simp at g1 ⊢; simp [g1]; done) | (simp only [nrmT] at *; omega) | (simp at * <;> omega) | (simp_all <;> omega) | (simp_all; done)
    ·have hI : inB (parents.length : Int) 1 7 = true := by revert b2; cases inB (parents.length : Int) 1 7 <;> simp
     have hI2 := JJ hI
     have ln : ((parents.take parents.length).drop 1).length = parents.length - 1 := by rw [List.take_length]; exact List.length_drop
     first | omega | (simp; omega)
    ·have hp : (parents.getD 0 0 != -1) = false := by revert b2; cases inB (parents.length : Int) 1 7 <;> cases (parents.getD 0 0 != -1) <;> simp
     refine allTo_iff.2 fun k hk => ?_
     have hk0 : k = 0 := by have : (0 : Int).toNat = 0 := rfl; omega
     subst hk0
     unfold J0D
     rw [if_pos rfl]
     exact decide_eq_true (by simpa using hp)
  intro i hJ
  obtain ⟨h1, h2, h3⟩ := hJ
  refine ⟨?_, ?_⟩
  ·intro b3
   try simp only [nrmT] at b3
   refine ⟨?_, ?_, ?_, J0E (((parents.take parents.length).drop 1).getD i.toNat 0) 0 i, ?_, ?_⟩
   ·first | omega | rfl | (intro hg; simp only [nrmT] at hg; omega) | (intro g1 g2; simp [g1, g2]; done) | (intro g1; simp at g1 ⊢; simp [g1]; done) | (simp only [nrmT] at *; omega) | (simp at * <;> omega) | (simp_all <;> omega) | (simp_all; done)
   ·first | omega | rfl | (intro hg; simp only [nrmT] at hg; omega) | (intro g1 g2; simp [g1, g2]; done) | (intro g1; simp at g1 ⊢; simp [g1]; done) | (simp only [nrmT] at *; omega) | (simp at * <;> omega) | (simp_all <;> omega) | (simp_all; done)
   ·first | omega | rfl | (intro hg; simp only [nrmT] at hg; omega) | (intro g1 g2; simp [g1, g2]; done) | (intro g1; simp at g1 ⊢; simp [g1]; done) | (simp only [nrmT] at *; omega) | (simp at * <;> omega) | (simp_all <;> omega) | (simp_all; done)
   ·intro b4
    try simp only [nrmT] at b4
    have hI : inB (parents.length : Int) 1 7 = true := by revert b2; cases inB (parents.length : Int) 1 7 <;> simp
    have hI2 := JJ hI
    have e0 : ((parents.take parents.length).drop 1).getD i.toNat 0 = parents.getD (i.toNat + 1) 0 := by
      rw [List.take_length]
      show (parents.drop 1).getD i.toNat 0 = _
      simp [List.getD_eq_getElem?_getD, List.getElem?_drop, Nat.add_comm]
    have pa : J0D parents (i.toNat + 1) = inB (parents.getD (i.toNat + 1) 0) 0 i := by
      unfold J0D
      rw [if_neg (by omega), show (((i.toNat + 1 : Nat) : Int)) - 1 = i by omega]
    have ln : ((parents.take parents.length).drop 1).length = parents.length - 1 := by rw [List.take_length]; exact List.length_drop
    cases q : J2 parents with
    | false => rfl
    | true =>
      exfalso
      unfold J2 at q
      rw [Bool.and_eq_true] at q
      have q2 := allTo_iff.1 q.2 (i.toNat + 1) (by omega)
      rw [pa] at q2
      rw [e0, q2] at b4
      simp at b4
   intro b5
   try simp only [nrmT] at b5
   refine ⟨?_, ?_⟩
   ·first | omega | rfl | (intro hg; simp only [nrmT] at hg; omega) | (intro g1 g2; simp [g1, g2]; done) | (intro g1; simp at g1 ⊢; simp [g1]; done) | (simp only [nrmT] at *; omega) | (simp at * <;> omega) | (simp_all <;> omega) | (simp_all; done)
   refine ⟨(i + 1), ?_⟩
   refine ⟨?_, ?_, rfl, rfl, rfl⟩
   ·refine ⟨?_, ?_, ?_⟩
    ·first | omega | rfl | (intro hg; simp only [nrmT] at hg; omega) | (intro g1 g2; simp [g1, g2]; done) | (intro g1; simp at g1 ⊢; simp [g1]; done) | (simp only [nrmT] at *; omega) | (simp at * <;> omega) | (simp_all <;> omega) | (simp_all; done)
    ·first | omega | rfl | (intro hg; simp only [nrmT] at hg; omega) | (intro g1 g2; simp [g1, g2]; done) | (intro g1; simp at g1 ⊢; simp [g1]; done) | (simp only [nrmT] at *; omega) | (simp at * <;> omega) | (simp_all <;> omega) | (simp_all; done)
    ·have hI : inB (parents.length : Int) 1 7 = true := by revert b2; cases inB (parents.length : Int) 1 7 <;> simp
     have hI2 := JJ hI
     have e0 : ((parents.take parents.length).drop 1).getD i.toNat 0 = parents.getD (i.toNat + 1) 0 := by
       rw [List.take_length]
       show (parents.drop 1).getD i.toNat 0 = _
       simp [List.getD_eq_getElem?_getD, List.getElem?_drop, Nat.add_comm]
     have pa : J0D parents (i.toNat + 1) = inB (parents.getD (i.toNat + 1) 0) 0 i := by
       unfold J0D
       rw [if_neg (by omega), show (((i.toNat + 1 : Nat) : Int)) - 1 = i by omega]
     rw [e0] at b5
     rw [show (i + 1).toNat + 1 = (i.toNat + 1) + 1 by omega]
     show (allTo (J0D parents) (i.toNat + 1) && J0D parents (i.toNat + 1)) = true
     rw [h3, Bool.true_and, pa]
     simpa using b5
   first | (show _ < _; omega) | (simp only [J0g]; omega) | (simp only [J0g] at *; simp at *; omega)
  intro b6
  try simp only [nrmT] at b6
  have hI : inB (parents.length : Int) 1 7 = true := by revert b2; cases inB (parents.length : Int) 1 7 <;> simp
  have hI2 := JJ hI
  have ln : ((parents.take parents.length).drop 1).length = parents.length - 1 := by rw [List.take_length]; exact List.length_drop
  unfold J2
  rw [hI, Bool.true_and, show parents.length = i.toNat + 1 by omega]; exact h3.symm
theorem J2V (parents : ZI)  : PC Try.prog 145 [.sl (.ints parents)] (.one (.d (.bool (J2 parents)))) :=
  pc_wf @Try.call145 fun hw => pc_by (by kernel_rfl) Try.func145 @Try.call145 (by kernel_rfl) J5I (J5G parents) (by kernel_rfl) (J5c parents hw.1) (by kernel_rfl)
def J2J : List D → Orc := orcN [some .ints] fun ds => match ds with
  | [.sl (.ints parents)] => some (.one (.d (.bool (J2 parents))))
  | _ => none
theorem J8S {ps ws : ZI} (ht : JN ps) {x : Nat} (hx : x ≤ ps.length) : Jb (J0R ps ws x) x = 0 := by
  rw [← J06 x]
  refine Jg fun y hy => ?_
  unfold J0R
  rw [if_neg]
  intro h
  have := J2D ht y (by omega) h
  omega
abbrev J0G (parents : ZI) (weights : ZI) (x : Int) (sum : Int) (y : Int) : Prop := (x ≤ y ∧ y ≤ (parents.length : Int)) ∧ (sum = Jb (J0R parents weights x.toNat) y.toNat)
abbrev JH (parents : ZI) (weights : ZI) (x : Int) (sum : Int) (y : Int) : Nat := (parents.length - y).toNat
abbrev J1j (parents : ZI) (weights : ZI) (x : Int) (sum : Int) (y : Int) (z : Int) : Prop := (0 ≤ z ∧ z ≤ y) ∧ (anc parents x.toNat z.toNat = anc parents x.toNat y.toNat)
abbrev J23 (parents : ZI) (weights : ZI) (x : Int) (sum : Int) (y : Int) (z : Int) : Nat := z.toNat
def J6L (f : FuncId) (ds : List D) : Orc := .no
def J6N (parents : ZI) (weights : ZI) (x : Int) : Ann := .two (.none) (.two (.none) (.two (.two (.none) (.loop (cut2 (fun (sum : Int) (y : Int) => J0G parents weights x sum y) (fun (sum : Int) (y : Int) => [(0, .d false (.sl (.ints parents))), (1, .d false (.sl (.ints weights))), (2, .d false (.int .i64 x)), (7, .d true (.int .i64 sum)), (8, .d true (.int .i64 y))]) (fun (sum : Int) (y : Int) => [])) (fun g => JH parents weights x g.1 g.2) (fun g => (fun (sum : Int) (y : Int) => .two (.none) (.two (.two (.none) (.two (.loop (cut1 (fun (z : Int) => J1j parents weights x sum y z) (fun (z : Int) => [(0, .d false (.sl (.ints parents))), (1, .d false (.sl (.ints weights))), (2, .d false (.int .i64 x)), (7, .d true (.int .i64 sum)), (8, .d true (.int .i64 y)), (9, .d true (.int .i64 z))]) (fun (z : Int) => [])) (fun g => J23 parents weights x sum y g) (fun _ => .none)) (.none))) (.none))) (g.1) (g.2)))) (.none)))
def J3D (parents : ZI) (weights : ZI) (x : Int) : Prop :=
  ((∃ sum' : Int, ∃ y' : Int, (J0G parents weights x sum' y') ∧ (parents = parents) ∧ (weights = weights) ∧ (x = x) ∧ ((0 : Int) = sum') ∧ (x = y')) ∧ (∀ sum : Int, ∀ y : Int, (J0G parents weights x sum y) → (((decide (y < (parents.length : Int))) = true → ((∃ z' : Int, (J1j parents weights x sum y z') ∧ (parents = parents) ∧ (weights = weights) ∧ (x = x) ∧ (sum = sum) ∧ (y = y) ∧ (y = z')) ∧ (∀ z : Int, (J1j parents weights x sum y z) → (((decide (z > x)) = true → ((0 : Int) ≤ z) ∧ ((z : Int) < parents.length) ∧ (z.toNat < parents.length) ∧ (∃ z' : Int, (J1j parents weights x sum y z') ∧ (J23 parents weights x sum y z' < J23 parents weights x sum y z) ∧ (parents = parents) ∧ (weights = weights) ∧ (x = x) ∧ (sum = sum) ∧ (y = y) ∧ ((parents.getD z.toNat 0) = z'))) ∧ ((decide (z > x)) = false → (((z == x) = true → ((0 : Int) ≤ y) ∧ ((y : Int) < weights.length) ∧ (y.toNat < weights.length) ∧ (I6 (sum + (weights.getD y.toNat 0))) ∧ (I6 (y + 1)) ∧ (∃ sum' : Int, ∃ y' : Int, (J0G parents weights x sum' y') ∧ (JH parents weights x sum' y' < JH parents weights x sum y) ∧ (parents = parents) ∧ (weights = weights) ∧ (x = x) ∧ ((sum + (weights.getD y.toNat 0)) = sum') ∧ ((y + 1) = y'))) ∧ ((z == x) = false → (I6 (y + 1)) ∧ (∃ sum' : Int, ∃ y' : Int, (J0G parents weights x sum' y') ∧ (JH parents weights x sum' y' < JH parents weights x sum y) ∧ (parents = parents) ∧ (weights = weights) ∧ (x = x) ∧ (sum = sum') ∧ ((y + 1) = y'))))))))) ∧ ((decide (y < (parents.length : Int))) = false → ((sum = (bel parents weights x.toNat)))))))
theorem J6q (parents : ZI) (weights : ZI) (x : Int) (ht : J2 parents = true) (hl : weights.length = parents.length) (hr : ∀ z, z < parents.length → 0 ≤ weights.getD z 0 ∧ weights.getD z 0 ≤ 99) (hx : 0 ≤ x ∧ x < (parents.length : Int)) (w_parents : (parents.length : Int) ≤ 9223372036854775807) (w_weights : (weights.length : Int) ≤ 9223372036854775807) : J3D parents weights x := by
  unfold J3D
  obtain ⟨t1, t2, t3, t4⟩ := J4 ht
  have hs : ∀ k, k ≤ parents.length → 0 ≤ Jb (J0R parents weights x.toNat) k ∧ Jb (J0R parents weights x.toNat) k ≤ 99 * (k : Int) := fun k hk => J1p k fun z hz => by
    have := hr z (by omega)
    unfold J0R
    split <;> omega
  refine ⟨?_, ?_⟩
  ·refine ⟨0, x, ?_⟩
   refine ⟨?_, rfl, rfl, rfl, rfl, rfl⟩
   ·refine ⟨?_, ?_⟩
    ·first | omega | rfl | (intro hg; simp only [nrmT] at hg; omega) | (intro g1 g2; simp [g1, g2]; done) | (intro g1; simp at g1 ⊢; simp [g1]; done) | (simp only [nrmT] at *; omega) | (simp at * <;> omega) | (simp_all <;> omega) | (simp_all; done)
    ·exact (J8S t4 (by omega)).symm
  intro sum y hJ
  obtain ⟨h1, h2⟩ := hJ
  refine ⟨?_, ?_⟩
  ·intro b1
   try simp only [nrmT] at b1
   refine ⟨?_, ?_⟩
   ·refine ⟨y, ?_⟩
    refine ⟨?_, rfl, rfl, rfl, rfl, rfl, rfl⟩
    ·refine ⟨?_, ?_⟩
     ·first | omega | rfl | (intro hg; simp only [nrmT] at hg; omega) | (intro g1 g2; simp [g1, g2]; done) | (intro g1; simp at g1 ⊢; simp [g1]; done) | (simp only [nrmT] at *; omega) | (simp at * <;> omega) | (simp_all <;> omega) | (simp_all; done)
     ·first | omega | rfl | (intro hg; simp only [nrmT] at hg; omega) | (intro g1 g2; simp [g1, g2]; done) | (intro g1; simp at g1 ⊢; simp [g1]; done) | (simp only [nrmT] at *; omega) | (simp at * <;> omega) | (simp_all <;> omega) | (simp_all; done)
   intro z hJ
   obtain ⟨h3, h4⟩ := hJ
   refine ⟨?_, ?_⟩
   ·intro b2
    try simp only [nrmT] at b2
    refine ⟨?_, ?_, ?_, ?_⟩
    ·first | omega | rfl | (intro hg; simp only [nrmT] at hg; omega) | (intro g1 g2; simp [g1, g2]; done) | (intro g1; simp at g1 ⊢; simp [g1]; done) | (simp only [nrmT] at *; omega) | (simp at * <;> omega) | (simp_all <;> omega) | (simp_all; done)
    ·first | omega | rfl | (intro hg; simp only [nrmT] at hg; omega) | (intro g1 g2; simp [g1, g2]; done) | (intro g1; simp at g1 ⊢; simp [g1]; done) | (simp only [nrmT] at *; omega) | (simp at * <;> omega) | (simp_all <;> omega) | (simp_all; done)
    ·first | omega | rfl | (intro hg; simp only [nrmT] at hg; omega) | (intro g1 g2; simp [g1, g2]; done) | (intro g1; simp at g1 ⊢; simp [g1]; done) | (simp only [nrmT] at *; omega) | (simp at * <;> omega) | (simp_all <;> omega) | (simp_all; done)
    refine ⟨(parents.getD z.toNat 0), ?_⟩
    refine ⟨?_, ?_, rfl, rfl, rfl, rfl, rfl, rfl⟩
    ·refine ⟨?_, ?_⟩
     ·have hu := t4 z.toNat (by omega) (by omega)
      unfold upN at hu
      omega
     ·have hs9 := J03 t4 (z := x.toNat) (x := z.toNat) (by omega) (by omega)
      rw [decide_eq_false (by omega), Bool.false_or] at hs9
      unfold upN at hs9
      rw [← hs9]; exact h4
    have hu := t4 z.toNat (by omega) (by omega)
    unfold upN at hu
    show (parents.getD z.toNat 0).toNat < z.toNat
    omega
   intro b3
   try simp only [nrmT] at b3
   refine ⟨?_, ?_⟩
   ·intro b4
    try simp only [nrmT] at b4
    refine ⟨?_, ?_, ?_, ?_, ?_, ?_⟩
    ·first | omega | rfl | (intro hg; simp only [nrmT] at hg; omega) | (intro g1 g2; simp [g1, g2]; done) | (intro g1; simp at g1 ⊢; simp [g1]; done) | (simp only [nrmT] at *; omega) | (simp at * <;> omega) | (simp_all <;> omega) | (simp_all; done)
    ·first | omega | rfl | (intro hg; simp only [nrmT] at hg; omega) | (intro g1 g2; simp [g1, g2]; done) | (intro g1; simp at g1 ⊢; simp [g1]; done) | (simp only [nrmT] at *; omega) | (simp at * <;> omega) | (simp_all <;> omega) | (simp_all; done)
    ·first | omega | rfl | (intro hg; simp only [nrmT] at hg; omega) | (intro g1 g2; simp [g1, g2]; done) | (intro g1; simp at g1 ⊢; simp [g1]; done) | (simp only [nrmT] at *; omega) | (simp at * <;> omega) | (simp_all <;> omega) | (simp_all; done)
    ·have hs1 := hs y.toNat (by omega)
     have hr1 := hr y.toNat (by omega)
     omega
    ·first | omega | rfl | (intro hg; simp only [nrmT] at hg; omega) | (intro g1 g2; simp [g1, g2]; done) | (intro g1; simp at g1 ⊢; simp [g1]; done) | (simp only [nrmT] at *; omega) | (simp at * <;> omega) | (simp_all <;> omega) | (simp_all; done)
    refine ⟨(sum + (weights.getD y.toNat 0)), (y + 1), ?_⟩
    refine ⟨?_, ?_, rfl, rfl, rfl, rfl, rfl⟩
    ·refine ⟨?_, ?_⟩
     ·first | omega | rfl | (intro hg; simp only [nrmT] at hg; omega) | (intro g1 g2; simp [g1, g2]; done) | (intro g1; simp at g1 ⊢; simp [g1]; done) | (simp only [nrmT] at *; omega) | (simp at * <;> omega) | (simp_all <;> omega) | (simp_all; done)
     ·have hs1 := hs y.toNat (by omega)
      have hr1 := hr y.toNat (by omega)
      rw [show (y + 1).toNat = y.toNat + 1 by omega, JI, ← h2]
      unfold J0R
      rw [← h4, show z = x by omega, J26, if_pos rfl]
    first | (show _ < _; omega) | (simp only [JH]; omega) | (simp only [JH] at *; simp at *; omega)
   intro b5
   try simp only [nrmT] at b5
   refine ⟨?_, ?_⟩
   ·first | omega | rfl | (intro hg; simp only [nrmT] at hg; omega) | (intro g1 g2; simp [g1, g2]; done) | (intro g1; simp at g1 ⊢; simp [g1]; done) | (simp only [nrmT] at *; omega) | (simp at * <;> omega) | (simp_all <;> omega) | (simp_all; done)
   refine ⟨sum, (y + 1), ?_⟩
   refine ⟨?_, ?_, rfl, rfl, rfl, rfl, rfl⟩
   ·refine ⟨?_, ?_⟩
    ·first | omega | rfl | (intro hg; simp only [nrmT] at hg; omega) | (intro g1 g2; simp [g1, g2]; done) | (intro g1; simp at g1 ⊢; simp [g1]; done) | (simp only [nrmT] at *; omega) | (simp at * <;> omega) | (simp_all <;> omega) | (simp_all; done)
    ·rw [show (y + 1).toNat = y.toNat + 1 by omega, JI, ← h2]
     unfold J0R
     rw [← h4, if_neg]
     · omega
     intro h
     have := J2D t4 z.toNat (by omega) h
     omega
   first | (show _ < _; omega) | (simp only [JH]; omega) | (simp only [JH] at *; simp at *; omega)
  intro b6
  try simp only [nrmT] at b6
  rw [h2, show y.toNat = parents.length by omega]; rfl
theorem J2j (parents : ZI) (weights : ZI) (x : Int) (ht : J2 parents = true) (hl : weights.length = parents.length) (hr : ∀ z, z < parents.length → 0 ≤ weights.getD z 0 ∧ weights.getD z 0 ≤ 99) (hx : 0 ≤ x ∧ x < (parents.length : Int)) : PC Try.prog 151 [.sl (.ints parents), .sl (.ints weights), .int .i64 x] (.one (.d (.int .i64 (bel parents weights x.toNat)))) :=
  pc_wf @Try.call151 fun hw => pc_by (by kernel_rfl) Try.func151 @Try.call151 (by kernel_rfl) J6L (J6N parents weights x) (by kernel_rfl) (J6q parents weights x ht hl hr hx hw.1 hw.2.1) (by kernel_rfl)
def J5O : List D → Orc := orcN [some .ints, some .ints, none] fun ds => match ds with
  | [.sl (.ints parents), .sl (.ints weights), .int .i64 x] => some (.one (.d (.int .i64 (bel parents weights x.toNat))))
  | _ => none
def chB (ps ws : ZI) (x c : Nat) : Bool := !(decide (0 < c ∧ upN ps c = x)) || decide (2 * bel ps ws c ≤ Jn ps ws)
def Jv (ps ws : ZI) (x : Nat) : Bool := decide (2 * (Jn ps ws - bel ps ws x) ≤ Jn ps ws) && allTo (chB ps ws x) ps.length
def mjI (ps ws : ZI) : Int := idxI (fun x : Int => Jv ps ws x.toNat) (J39 ps.length)
def mjR (ps ws : ZI) : Bool := J2 ps && J3 ws (ps.length : Int) 99
def mjN (ps ws : ZI) : Int := if mjR ps ws = true then (if mjI ps ws < 0 then 0 else mjI ps ws) else 0
def mjB (ps ws : ZI) : Bool := mjR ps ws && decide (0 ≤ mjI ps ws)
theorem JD {ps ws : ZI} (ht : JN ps) : bel ps ws 0 = Jn ps ws := by
  unfold bel Jn
  refine Jg fun y hy => ?_
  have key : ∀ y, y < ps.length → anc ps 0 y = true := by
    intro y
    induction y using Nat.strongRecOn with
    | _ y ih =>
      intro hy
      by_cases e : y = 0
      · subst e; exact J26 ps 0
      have hu := (ht y (by omega) hy).2
      rw [J03 ht (by omega) hy, ih _ hu (by omega), Bool.or_true]
  unfold J0R
  rw [if_pos (key y hy)]
theorem J8y {ps ws : ZI} {m : Nat} (h : Jv ps ws m = true) (hm : m < ps.length) : J6v ps ws m := by
  unfold Jv at h
  rw [Bool.and_eq_true, decide_eq_true_eq] at h
  refine ⟨hm, h.1, fun c c1 c2 c3 => ?_⟩
  have := allTo_iff.1 h.2 c c2
  unfold chB at this
  rw [decide_eq_true (show 0 < c ∧ upN ps c = m from ⟨c1, c3⟩)] at this
  simpa using this
theorem J7S {ps ws : ZI} (ht : JN ps) {x : Nat} (hx : x < ps.length) : allTo (chB ps ws x) (x + 1) = true := by
  refine allTo_iff.2 fun c hc => ?_
  unfold chB
  by_cases e : c = 0
  · rw [decide_eq_false (by omega)]; rfl
  have := (ht c (by omega) (by omega)).2
  rw [decide_eq_false (by omega)]; rfl
theorem J5 {ps ws : ZI} (h : mjR ps ws = true) : J2 ps = true ∧ ws.length = ps.length ∧ (∀ z, z < ps.length → 0 ≤ ws.getD z 0 ∧ ws.getD z 0 ≤ 99) ∧ (∀ x, 0 ≤ bel ps ws x ∧ bel ps ws x ≤ 693) ∧ (0 ≤ Jn ps ws ∧ Jn ps ws ≤ 693) ∧ (∀ x, bel ps ws x ≤ Jn ps ws) := by
  unfold mjR at h
  rw [Bool.and_eq_true] at h
  obtain ⟨t1, t2, t3, t4⟩ := J4 h.1
  have h2 := h.2
  unfold J3 at h2
  rw [Bool.and_eq_true, decide_eq_true_eq, List.all_eq_true] at h2
  have hl : ws.length = ps.length := by omega
  have hr : ∀ z, z < ps.length → 0 ≤ ws.getD z 0 ∧ ws.getD z 0 ≤ 99 := fun z hz => JJ (h2.1 _ (getD_mem (by omega)))
  have hb : ∀ x, 0 ≤ bel ps ws x ∧ bel ps ws x ≤ 693 := fun x => by
    have := J1p (f := J0R ps ws x) (m := 99) ps.length fun z hz => by
      have := hr z hz
      unfold J0R
      split <;> omega
    unfold bel
    omega
  refine ⟨h.1, hl, hr, hb, by rw [← JD t4]; exact hb 0, fun x => J0W _ fun z hz => ?_⟩
  have := hr z hz
  unfold J0R
  split <;> omega
abbrev J0v (parents : ZI) (weights : ZI) (x : Int) : Prop := (0 ≤ x ∧ x ≤ (parents.length : Int)) ∧ (∀ k, k < x.toNat → Jv parents weights k = false)
abbrev JW (parents : ZI) (weights : ZI) (x : Int) : Nat := (parents.length - x).toNat
abbrev J00 (parents : ZI) (weights : ZI) (x : Int) (most : Int) (y : Int) : Prop := (x + 1 ≤ y ∧ y ≤ (parents.length : Int)) ∧ (0 ≤ most ∧ most ≤ 693) ∧ (decide (2 * most ≤ Jn parents weights) = (decide (2 * (Jn parents weights - bel parents weights x.toNat) ≤ Jn parents weights) && allTo (chB parents weights x.toNat) y.toNat))
abbrev Jr (parents : ZI) (weights : ZI) (x : Int) (most : Int) (y : Int) : Nat := (parents.length - y).toNat
def J4p (f : FuncId) (ds : List D) : Orc := bif Nat.beq f 146 then J3B ds else bif Nat.beq f 150 then J2Y ds else bif Nat.beq f 151 then J5O ds else bif Nat.beq f 152 then J6S ds else .no
def J4I (parents : ZI) (weights : ZI) : Ann := .two (.none) (.two (.none) (.two (.none) (.two (.two (.none) (.loop (cut1 (fun (x : Int) => J0v parents weights x) (fun (x : Int) => [(0, .d false (.sl (.ints parents))), (1, .d false (.sl (.ints weights))), (6, .d true (.int .i64 (bel parents weights (0 : Int).toNat))), (7, .d true (.int .i64 x))]) (fun (x : Int) => [])) (fun g => JW parents weights g) (fun g => (fun (x : Int) => .two (.none) (.two (.two (.none) (.two (.two (.none) (.loop (cut2 (fun (most : Int) (y : Int) => J00 parents weights x most y) (fun (most : Int) (y : Int) => [(0, .d false (.sl (.ints parents))), (1, .d false (.sl (.ints weights))), (6, .d true (.int .i64 (bel parents weights (0 : Int).toNat))), (7, .d true (.int .i64 x)), (8, .d true (.int .i64 most)), (9, .d true (.int .i64 y))]) (fun (most : Int) (y : Int) => [])) (fun g => Jr parents weights x g.1 g.2) (fun _ => .none))) (.none))) (.none))) g))) (.none))))
def J2I (parents : ZI) (weights : ZI) : Prop :=
  (PC Try.prog 146 [.sl (.ints parents)] (.one (.d (.bool (J2 parents))))) ∧ ((!(!(J2 parents))) = true → (!(!(J2 parents))) = true) ∧ ((!(!(J2 parents))) = true → (!(!(J2 parents))) = true) ∧ ((!(!(J2 parents))) = true → (!(!(J2 parents))) = true) ∧ ((!(!(J2 parents))) = true → PC Try.prog 150 [.sl (.ints weights), .int .i64 (parents.length : Int), .int .i64 99] (.one (.d (.bool (J3 weights (parents.length : Int) 99))))) ∧ ((!(!(J2 parents))) = true → (!(!(J2 parents))) = true) ∧ (true = true) ∧ (((!(J2 parents)) = true → true = true)) ∧ (((!(J2 parents)) = false → (!(!(J2 parents))) = true)) ∧ (((cond (!(J2 parents)) true (!(J3 weights (parents.length : Int) 99))) = true → (((0 : Int) = (mjN parents weights)) ∧ (false = (mjB parents weights)))) ∧ ((cond (!(J2 parents)) true (!(J3 weights (parents.length : Int) 99))) = false → (PC Try.prog 151 [.sl (.ints parents), .sl (.ints weights), .int .i64 0] (.one (.d (.int .i64 (bel parents weights (0 : Int).toNat))))) ∧ ((∃ x' : Int, (J0v parents weights x') ∧ (parents = parents) ∧ (weights = weights) ∧ ((bel parents weights (0 : Int).toNat) = (bel parents weights (0 : Int).toNat)) ∧ ((0 : Int) = x')) ∧ (∀ x : Int, (J0v parents weights x) → (((decide (x < (parents.length : Int))) = true → (PC Try.prog 151 [.sl (.ints parents), .sl (.ints weights), .int .i64 x] (.one (.d (.int .i64 (bel parents weights x.toNat))))) ∧ (I6 ((bel parents weights (0 : Int).toNat) - (bel parents weights x.toNat))) ∧ (I6 (x + 1)) ∧ ((∃ most' : Int, ∃ y' : Int, (J00 parents weights x most' y') ∧ (parents = parents) ∧ (weights = weights) ∧ ((bel parents weights (0 : Int).toNat) = (bel parents weights (0 : Int).toNat)) ∧ (x = x) ∧ (((bel parents weights (0 : Int).toNat) - (bel parents weights x.toNat)) = most') ∧ ((x + 1) = y')) ∧ (∀ most : Int, ∀ y : Int, (J00 parents weights x most y) → (((decide (y < (parents.length : Int))) = true → ((0 : Int) ≤ y) ∧ ((y : Int) < parents.length) ∧ (y.toNat < parents.length) ∧ ((((parents.getD y.toNat 0) == x) = true → (PC Try.prog 151 [.sl (.ints parents), .sl (.ints weights), .int .i64 y] (.one (.d (.int .i64 (bel parents weights y.toNat))))) ∧ (PC Try.prog 152 [.int .i64 most, .int .i64 (bel parents weights y.toNat)] (.one (.d (.int .i64 (max most (bel parents weights y.toNat)))))) ∧ (I6 (y + 1)) ∧ (∃ most' : Int, ∃ y' : Int, (J00 parents weights x most' y') ∧ (Jr parents weights x most' y' < Jr parents weights x most y) ∧ (parents = parents) ∧ (weights = weights) ∧ ((bel parents weights (0 : Int).toNat) = (bel parents weights (0 : Int).toNat)) ∧ (x = x) ∧ ((max most (bel parents weights y.toNat)) = most') ∧ ((y + 1) = y'))) ∧ (((parents.getD y.toNat 0) == x) = false → (I6 (y + 1)) ∧ (∃ most' : Int, ∃ y' : Int, (J00 parents weights x most' y') ∧ (Jr parents weights x most' y' < Jr parents weights x most y) ∧ (parents = parents) ∧ (weights = weights) ∧ ((bel parents weights (0 : Int).toNat) = (bel parents weights (0 : Int).toNat)) ∧ (x = x) ∧ (most = most') ∧ ((y + 1) = y'))))) ∧ ((decide (y < (parents.length : Int))) = false → (I6 (2 * most)) ∧ (((decide ((2 * most) ≤ (bel parents weights (0 : Int).toNat))) = true → ((x = (mjN parents weights)) ∧ (true = (mjB parents weights)))) ∧ ((decide ((2 * most) ≤ (bel parents weights (0 : Int).toNat))) = false → (I6 (x + 1)) ∧ (∃ x' : Int, (J0v parents weights x') ∧ (JW parents weights x' < JW parents weights x) ∧ (parents = parents) ∧ (weights = weights) ∧ ((bel parents weights (0 : Int).toNat) = (bel parents weights (0 : Int).toNat)) ∧ ((x + 1) = x'))))))))) ∧ ((decide (x < (parents.length : Int))) = false → (((0 : Int) = (mjN parents weights)) ∧ (false = (mjB parents weights)))))))))
theorem J3Y (parents : ZI) (weights : ZI)  (w_parents : (parents.length : Int) ≤ 9223372036854775807) (w_weights : (weights.length : Int) ≤ 9223372036854775807) : J2I parents weights := by
  unfold J2I
  refine ⟨J4k parents, id, id, id, fun _ => J2x weights (parents.length : Int) 99, id, rfl, fun _ => rfl, ?_, ?_, ?_⟩
  ·first | omega | rfl | (intro hg; simp only [nrmT] at hg; omega) | (intro g1 g2; simp [g1, g2]; done) | (intro g1; simp at g1 ⊢; simp [g1]; done) | (simp only [nrmT] at *; omega) | (simp at * <;> omega) | (simp_all <;> omega) | (simp_all; done)
  ·intro b1
   refine ⟨?_, ?_⟩
   ·have hq : mjR parents weights = false := by
      unfold mjR
      revert b1; cases J2 parents <;> cases J3 weights (parents.length : Int) 99 <;> simp
    unfold mjN; rw [hq]; rfl
   have hq : mjR parents weights = false := by
     unfold mjR
     revert b1; cases J2 parents <;> cases J3 weights (parents.length : Int) 99 <;> simp
   unfold mjB; rw [hq]; rfl
  intro b2
  refine ⟨?_, ?_, ?_⟩
  ·refine J2j parents weights 0 ?_ ?_ ?_ ?_
   ·have hq : mjR parents weights = true := by
      unfold mjR
      revert b2; cases J2 parents <;> cases J3 weights (parents.length : Int) 99 <;> simp
    obtain ⟨q1, q2, q3, q4, q5, q6⟩ := J5 hq
    obtain ⟨t1, t2, t3, t4⟩ := J4 q1
    exact q1
   ·have hq : mjR parents weights = true := by
      unfold mjR
      revert b2; cases J2 parents <;> cases J3 weights (parents.length : Int) 99 <;> simp
    obtain ⟨q1, q2, q3, q4, q5, q6⟩ := J5 hq
    obtain ⟨t1, t2, t3, t4⟩ := J4 q1
    exact q2
   ·have hq : mjR parents weights = true := by
      unfold mjR
      revert b2; cases J2 parents <;> cases J3 weights (parents.length : Int) 99 <;> simp
    obtain ⟨q1, q2, q3, q4, q5, q6⟩ := J5 hq
    obtain ⟨t1, t2, t3, t4⟩ := J4 q1
    exact q3
   ·have hq : mjR parents weights = true := by
      unfold mjR
      revert b2; cases J2 parents <;> cases J3 weights (parents.length : Int) 99 <;> simp
    obtain ⟨q1, q2, q3, q4, q5, q6⟩ := J5 hq
    obtain ⟨t1, t2, t3, t4⟩ := J4 q1
    omega
  ·refine ⟨0, ?_⟩
   refine ⟨?_, rfl, rfl, rfl, rfl⟩
   ·refine ⟨?_, ?_⟩
    ·first | omega | rfl | (intro hg; simp only [nrmT] at hg; omega) | (intro g1 g2; simp [g1, g2]; done) | (intro g1; simp at g1 ⊢; simp [g1]; done) | (simp only [nrmT] at *; omega) | (simp at * <;> omega) | (simp_all <;> omega) | (simp_all; done)
    ·intro k hk; exact absurd hk (by simp)
  intro x hJ
  obtain ⟨h1, h2⟩ := hJ
  refine ⟨?_, ?_⟩
  ·intro b3
   try simp only [nrmT] at b3
   refine ⟨?_, ?_, ?_, ?_, ?_⟩
   ·refine J2j parents weights x ?_ ?_ ?_ ?_
    ·have hq : mjR parents weights = true := by
       unfold mjR
       revert b2; cases J2 parents <;> cases J3 weights (parents.length : Int) 99 <;> simp
     obtain ⟨q1, q2, q3, q4, q5, q6⟩ := J5 hq
     obtain ⟨t1, t2, t3, t4⟩ := J4 q1
     exact q1
    ·have hq : mjR parents weights = true := by
       unfold mjR
       revert b2; cases J2 parents <;> cases J3 weights (parents.length : Int) 99 <;> simp
     obtain ⟨q1, q2, q3, q4, q5, q6⟩ := J5 hq
     obtain ⟨t1, t2, t3, t4⟩ := J4 q1
     exact q2
    ·have hq : mjR parents weights = true := by
       unfold mjR
       revert b2; cases J2 parents <;> cases J3 weights (parents.length : Int) 99 <;> simp
     obtain ⟨q1, q2, q3, q4, q5, q6⟩ := J5 hq
     obtain ⟨t1, t2, t3, t4⟩ := J4 q1
     exact q3
    ·first | omega | rfl | (intro hg; simp only [nrmT] at hg; omega) | (intro g1 g2; simp [g1, g2]; done) | (intro g1; simp at g1 ⊢; simp [g1]; done) | (simp only [nrmT] at *; omega) | (simp at * <;> omega) | (simp_all <;> omega) | (simp_all; done)
   ·have hq : mjR parents weights = true := by
      unfold mjR
      revert b2; cases J2 parents <;> cases J3 weights (parents.length : Int) 99 <;> simp
    obtain ⟨q1, q2, q3, q4, q5, q6⟩ := J5 hq
    obtain ⟨t1, t2, t3, t4⟩ := J4 q1
    have bx := q4 x.toNat
    have bz := q6 x.toNat
    have b0 : bel parents weights (0 : Int).toNat = Jn parents weights := JD t4
    omega
   ·first | omega | rfl | (intro hg; simp only [nrmT] at hg; omega) | (intro g1 g2; simp [g1, g2]; done) | (intro g1; simp at g1 ⊢; simp [g1]; done) | (simp only [nrmT] at *; omega) | (simp at * <;> omega) | (simp_all <;> omega) | (simp_all; done)
   ·refine ⟨((bel parents weights (0 : Int).toNat) - (bel parents weights x.toNat)), (x + 1), ?_⟩
    refine ⟨?_, rfl, rfl, rfl, rfl, rfl, rfl⟩
    ·refine ⟨?_, ?_, ?_⟩
     ·first | omega | rfl | (intro hg; simp only [nrmT] at hg; omega) | (intro g1 g2; simp [g1, g2]; done) | (intro g1; simp at g1 ⊢; simp [g1]; done) | (simp only [nrmT] at *; omega) | (simp at * <;> omega) | (simp_all <;> omega) | (simp_all; done)
     ·have hq : mjR parents weights = true := by
        unfold mjR
        revert b2; cases J2 parents <;> cases J3 weights (parents.length : Int) 99 <;> simp
      obtain ⟨q1, q2, q3, q4, q5, q6⟩ := J5 hq
      obtain ⟨t1, t2, t3, t4⟩ := J4 q1
      have bx := q4 x.toNat
      have bz := q6 x.toNat
      have b0 : bel parents weights (0 : Int).toNat = Jn parents weights := JD t4
      omega
     ·have hq : mjR parents weights = true := by
        unfold mjR
        revert b2; cases J2 parents <;> cases J3 weights (parents.length : Int) 99 <;> simp
      obtain ⟨q1, q2, q3, q4, q5, q6⟩ := J5 hq
      obtain ⟨t1, t2, t3, t4⟩ := J4 q1
      rw [show (0 : Int).toNat = 0 from rfl, JD t4, show (x + 1).toNat = x.toNat + 1 by omega, J7S t4 (by omega), Bool.and_true]
   intro most y hJ
   obtain ⟨h3, h4, h5⟩ := hJ
   refine ⟨?_, ?_⟩
   ·intro b4
    try simp only [nrmT] at b4
    refine ⟨?_, ?_, ?_, ?_, ?_⟩
    ·first | omega | rfl | (intro hg; simp only [nrmT] at hg; omega) | (intro g1 g2; simp [g1, g2]; done) | (intro g1; simp at g1 ⊢; simp [g1]; done) | (simp only [nrmT] at *; omega) | (simp at * <;> omega) | (simp_all <;> omega) | (simp_all; done)
    ·first | omega | rfl | (intro hg; simp only [nrmT] at hg; omega) | (intro g1 g2; simp [g1, g2]; done) | (intro g1; simp at g1 ⊢; simp [g1]; done) | (simp only [nrmT] at *; omega) | (simp at * <;> omega) | (simp_all <;> omega) | (simp_all; done)
    ·first | omega | rfl | (intro hg; simp only [nrmT] at hg; omega) | (intro g1 g2; simp [g1, g2]; done) | (intro g1; simp at g1 ⊢; simp [g1]; done) | (simp only [nrmT] at *; omega) | (simp at * <;> omega) | (simp_all <;> omega) | (simp_all; done)
    ·intro b5
     try simp only [nrmT] at b5
     refine ⟨?_, J72 most (bel parents weights y.toNat), ?_, ?_⟩
     ·refine J2j parents weights y ?_ ?_ ?_ ?_
      ·have hq : mjR parents weights = true := by
         unfold mjR
         revert b2; cases J2 parents <;> cases J3 weights (parents.length : Int) 99 <;> simp
       obtain ⟨q1, q2, q3, q4, q5, q6⟩ := J5 hq
       obtain ⟨t1, t2, t3, t4⟩ := J4 q1
       exact q1
      ·have hq : mjR parents weights = true := by
         unfold mjR
         revert b2; cases J2 parents <;> cases J3 weights (parents.length : Int) 99 <;> simp
       obtain ⟨q1, q2, q3, q4, q5, q6⟩ := J5 hq
       obtain ⟨t1, t2, t3, t4⟩ := J4 q1
       exact q2
      ·have hq : mjR parents weights = true := by
         unfold mjR
         revert b2; cases J2 parents <;> cases J3 weights (parents.length : Int) 99 <;> simp
       obtain ⟨q1, q2, q3, q4, q5, q6⟩ := J5 hq
       obtain ⟨t1, t2, t3, t4⟩ := J4 q1
       exact q3
      ·first | omega | rfl | (intro hg; simp only [nrmT] at hg; omega) | (intro g1 g2; simp [g1, g2]; done) | (intro g1; simp at g1 ⊢; simp [g1]; done) | (simp only [nrmT] at *; omega) | (simp at * <;> omega) | (simp_all <;> omega) | (simp_all; done)
     ·first | omega | rfl | (intro hg; simp only [nrmT] at hg; omega) | (intro g1 g2; simp [g1, g2]; done) | (intro g1; simp at g1 ⊢; simp [g1]; done) | (simp only [nrmT] at *; omega) | (simp at * <;> omega) | (simp_all <;> omega) | (simp_all; done)
     refine ⟨(max most (bel parents weights y.toNat)), (y + 1), ?_⟩
     refine ⟨?_, ?_, rfl, rfl, rfl, rfl, rfl, rfl⟩
     ·refine ⟨?_, ?_, ?_⟩
      ·first | omega | rfl | (intro hg; simp only [nrmT] at hg; omega) | (intro g1 g2; simp [g1, g2]; done) | (intro g1; simp at g1 ⊢; simp [g1]; done) | (simp only [nrmT] at *; omega) | (simp at * <;> omega) | (simp_all <;> omega) | (simp_all; done)
      ·have hq : mjR parents weights = true := by
         unfold mjR
         revert b2; cases J2 parents <;> cases J3 weights (parents.length : Int) 99 <;> simp
       obtain ⟨q1, q2, q3, q4, q5, q6⟩ := J5 hq
       obtain ⟨t1, t2, t3, t4⟩ := J4 q1
       have bY := q4 y.toNat
       omega
      ·have hq : mjR parents weights = true := by
         unfold mjR
         revert b2; cases J2 parents <;> cases J3 weights (parents.length : Int) 99 <;> simp
       obtain ⟨q1, q2, q3, q4, q5, q6⟩ := J5 hq
       obtain ⟨t1, t2, t3, t4⟩ := J4 q1
       rw [show (y + 1).toNat = y.toNat + 1 by omega]
       show _ = (_ && (allTo (chB parents weights x.toNat) y.toNat && chB parents weights x.toNat y.toNat))
       have hc : chB parents weights x.toNat y.toNat = decide (2 * bel parents weights y.toNat ≤ Jn parents weights) := by
         unfold chB
         rw [decide_eq_true (show 0 < y.toNat ∧ upN parents y.toNat = x.toNat from ⟨by omega, by unfold upN; rw [b5]⟩)]; rfl
       rw [hc, ← Bool.and_assoc, ← h5, Bool.eq_iff_iff, Bool.and_eq_true, decide_eq_true_eq, decide_eq_true_eq, decide_eq_true_eq]
       omega
     first | (show _ < _; omega) | (simp only [Jr]; omega) | (simp only [Jr] at *; simp at *; omega)
    intro b6
    try simp only [nrmT] at b6
    refine ⟨?_, ?_⟩
    ·first | omega | rfl | (intro hg; simp only [nrmT] at hg; omega) | (intro g1 g2; simp [g1, g2]; done) | (intro g1; simp at g1 ⊢; simp [g1]; done) | (simp only [nrmT] at *; omega) | (simp at * <;> omega) | (simp_all <;> omega) | (simp_all; done)
    refine ⟨most, (y + 1), ?_⟩
    refine ⟨?_, ?_, rfl, rfl, rfl, rfl, rfl, rfl⟩
    ·refine ⟨?_, ?_, ?_⟩
     ·first | omega | rfl | (intro hg; simp only [nrmT] at hg; omega) | (intro g1 g2; simp [g1, g2]; done) | (intro g1; simp at g1 ⊢; simp [g1]; done) | (simp only [nrmT] at *; omega) | (simp at * <;> omega) | (simp_all <;> omega) | (simp_all; done)
     ·first | omega | rfl | (intro hg; simp only [nrmT] at hg; omega) | (intro g1 g2; simp [g1, g2]; done) | (intro g1; simp at g1 ⊢; simp [g1]; done) | (simp only [nrmT] at *; omega) | (simp at * <;> omega) | (simp_all <;> omega) | (simp_all; done)
     ·have hq : mjR parents weights = true := by
        unfold mjR
        revert b2; cases J2 parents <;> cases J3 weights (parents.length : Int) 99 <;> simp
      obtain ⟨q1, q2, q3, q4, q5, q6⟩ := J5 hq
      obtain ⟨t1, t2, t3, t4⟩ := J4 q1
      rw [show (y + 1).toNat = y.toNat + 1 by omega]
      show _ = (_ && (allTo (chB parents weights x.toNat) y.toNat && chB parents weights x.toNat y.toNat))
      have hu := t4 y.toNat (by omega) (by omega)
      have hc : chB parents weights x.toNat y.toNat = true := by
        unfold chB
        rw [decide_eq_false]
        · rfl
        rintro ⟨_, h⟩
        unfold upN at h
        omega
      rw [hc, Bool.and_true]
      exact h5
    first | (show _ < _; omega) | (simp only [Jr]; omega) | (simp only [Jr] at *; simp at *; omega)
   intro b7
   try simp only [nrmT] at b7
   refine ⟨?_, ?_, ?_⟩
   ·first | omega | rfl | (intro hg; simp only [nrmT] at hg; omega) | (intro g1 g2; simp [g1, g2]; done) | (intro g1; simp at g1 ⊢; simp [g1]; done) | (simp only [nrmT] at *; omega) | (simp at * <;> omega) | (simp_all <;> omega) | (simp_all; done)
   ·intro b8
    try simp only [nrmT] at b8
    refine ⟨?_, ?_⟩
    ·have hq : mjR parents weights = true := by
       unfold mjR
       revert b2; cases J2 parents <;> cases J3 weights (parents.length : Int) 99 <;> simp
     obtain ⟨q1, q2, q3, q4, q5, q6⟩ := J5 hq
     obtain ⟨t1, t2, t3, t4⟩ := J4 q1
     have hm : Jv parents weights x.toNat = decide (2 * most ≤ Jn parents weights) := by
       unfold Jv
       rw [h5, show y.toNat = parents.length by omega]
     rw [decide_eq_true (show 2 * most ≤ Jn parents weights by rw [← JD (ws := weights) t4]; exact b8)] at hm
     have hi : x = mjI parents weights := idx_found (p := fun x : Int => Jv parents weights x.toNat) (d := 0) h1.1 (by rw [J0x]; omega) (fun k hk => by rw [JR (by omega), Int.toNat_natCast]; exact h2 k hk) (by rw [JR (by omega), Int.toNat_natCast]; exact hm)
     unfold mjN; rw [if_pos hq, ← hi, if_neg (by omega)]
    have hq : mjR parents weights = true := by
      unfold mjR
      revert b2; cases J2 parents <;> cases J3 weights (parents.length : Int) 99 <;> simp
    obtain ⟨q1, q2, q3, q4, q5, q6⟩ := J5 hq
    obtain ⟨t1, t2, t3, t4⟩ := J4 q1
    have hm : Jv parents weights x.toNat = decide (2 * most ≤ Jn parents weights) := by
      unfold Jv
      rw [h5, show y.toNat = parents.length by omega]
    rw [decide_eq_true (show 2 * most ≤ Jn parents weights by rw [← JD (ws := weights) t4]; exact b8)] at hm
    have hi : x = mjI parents weights := idx_found (p := fun x : Int => Jv parents weights x.toNat) (d := 0) h1.1 (by rw [J0x]; omega) (fun k hk => by rw [JR (by omega), Int.toNat_natCast]; exact h2 k hk) (by rw [JR (by omega), Int.toNat_natCast]; exact hm)
    unfold mjB; rw [hq, ← hi, decide_eq_true h1.1]; rfl
   intro b9
   try simp only [nrmT] at b9
   refine ⟨?_, ?_⟩
   ·first | omega | rfl | (intro hg; simp only [nrmT] at hg; omega) | (intro g1 g2; simp [g1, g2]; done) | (intro g1; simp at g1 ⊢; simp [g1]; done) | (simp only [nrmT] at *; omega) | (simp at * <;> omega) | (simp_all <;> omega) | (simp_all; done)
   refine ⟨(x + 1), ?_⟩
   refine ⟨?_, ?_, rfl, rfl, rfl, rfl⟩
   ·refine ⟨?_, ?_⟩
    ·first | omega | rfl | (intro hg; simp only [nrmT] at hg; omega) | (intro g1 g2; simp [g1, g2]; done) | (intro g1; simp at g1 ⊢; simp [g1]; done) | (simp only [nrmT] at *; omega) | (simp at * <;> omega) | (simp_all <;> omega) | (simp_all; done)
    ·have hq : mjR parents weights = true := by
       unfold mjR
       revert b2; cases J2 parents <;> cases J3 weights (parents.length : Int) 99 <;> simp
     obtain ⟨q1, q2, q3, q4, q5, q6⟩ := J5 hq
     obtain ⟨t1, t2, t3, t4⟩ := J4 q1
     have hm : Jv parents weights x.toNat = decide (2 * most ≤ Jn parents weights) := by
       unfold Jv
       rw [h5, show y.toNat = parents.length by omega]
     rw [decide_eq_false (show ¬ 2 * most ≤ Jn parents weights by have b0 : bel parents weights (0 : Int).toNat = Jn parents weights := JD t4; omega)] at hm
     intro k hk
     by_cases e : k = x.toNat
     · rw [e]; exact hm
     exact h2 k (by omega)
   first | (show _ < _; omega) | (simp only [JW]; omega) | (simp only [JW] at *; simp at *; omega)
  intro b10
  try simp only [nrmT] at b10
  refine ⟨?_, ?_⟩
  ·have hq : mjR parents weights = true := by
     unfold mjR
     revert b2; cases J2 parents <;> cases J3 weights (parents.length : Int) 99 <;> simp
   obtain ⟨q1, q2, q3, q4, q5, q6⟩ := J5 hq
   obtain ⟨t1, t2, t3, t4⟩ := J4 q1
   have hi : mjI parents weights = -1 := idx_none (p := fun x : Int => Jv parents weights x.toNat) (d := 0) (i := x) (by rw [J0x]; omega) (fun k hk => by rw [JR (by omega), Int.toNat_natCast]; exact h2 k hk)
   unfold mjN; rw [if_pos hq, hi]; rfl
  have hq : mjR parents weights = true := by
    unfold mjR
    revert b2; cases J2 parents <;> cases J3 weights (parents.length : Int) 99 <;> simp
  obtain ⟨q1, q2, q3, q4, q5, q6⟩ := J5 hq
  obtain ⟨t1, t2, t3, t4⟩ := J4 q1
  have hi : mjI parents weights = -1 := idx_none (p := fun x : Int => Jv parents weights x.toNat) (d := 0) (i := x) (by rw [J0x]; omega) (fun k hk => by rw [JR (by omega), Int.toNat_natCast]; exact h2 k hk)
  unfold mjB; rw [hq, hi]; rfl
theorem J4g (parents : ZI) (weights : ZI)  : PC Try.prog 57 [.sl (.ints parents), .sl (.ints weights)] (.tup [.d (.int .i64 (mjN parents weights)), .d (.bool (mjB parents weights))]) :=
  pc_wf @Try.call57 fun hw => pc_by (by kernel_rfl) Try.func57 @Try.call57 (by kernel_rfl) J4p (J4I parents weights) (by kernel_rfl) (J3Y parents weights hw.1 hw.2.1) (by kernel_rfl)
def J3z : List D → Orc := orcN [some .ints, some .ints] fun ds => match ds with
  | [.sl (.ints parents), .sl (.ints weights)] => some (.tup [.d (.int .i64 (mjN parents weights)), .d (.bool (mjB parents weights))])
  | _ => none
/-- The weight of a node is its own and that of the nodes next below it. -/
def chF (ps ws : ZI) (v c : Nat) : Int := if 0 < c ∧ upN ps c = v then bel ps ws c else 0
theorem J8J {n : Nat} (f : Nat → Int) {j : Nat} (hj : j < n) (h : ∀ k, k < n → k ≠ j → f k = 0) : Jb f n = f j := by
  have e : Jb f n = Jb (fun x => if x = j then f x else 0) n := Jg fun k hk => by
    by_cases q : k = j
    · rw [if_pos q]
    rw [if_neg q, h k hk q]
  rw [e, J31 n hj]
theorem J3Q {ps ws : ZI} (ht : JN ps) {v : Nat} (hv : v < ps.length) : bel ps ws v = ws.getD v 0 + Jb (chF ps ws v) ps.length := by
  have e1 : Jb (chF ps ws v) ps.length = Jb (fun c => Jb (fun y => if (0 < c ∧ upN ps c = v) ∧ anc ps c y = true then ws.getD y 0 else 0) ps.length) ps.length := Jg fun c _ => by
    unfold chF bel
    by_cases q : 0 < c ∧ upN ps c = v
    · rw [if_pos q]
      refine Jg fun y _ => ?_
      unfold J0R
      by_cases q2 : anc ps c y = true
      · rw [if_pos q2, if_pos ⟨q, q2⟩]
      rw [if_neg q2, if_neg fun h => q2 h.2]
    rw [if_neg q]
    exact (Eq.trans (Jg fun y _ => by rw [if_neg fun h => q h.1]) (J06 ps.length)).symm
  have e2 : ws.getD v 0 = Jb (fun y => if y = v then ws.getD y 0 else 0) ps.length := (J31 (f := fun y => ws.getD y 0) ps.length hv).symm
  rw [e1, J38, e2, ← J0N]
  unfold bel
  refine Jg fun y hy => ?_
  unfold J0R
  by_cases q : y = v
  · subst q
    rw [if_pos (J26 ps y), if_pos rfl]
    have : Jb (fun c => if (0 < c ∧ upN ps c = y) ∧ anc ps c y = true then ws.getD y 0 else 0) ps.length = 0 := by
      refine Eq.trans (Jg fun c hc => ?_) (J06 ps.length)
      rw [if_neg]
      rintro ⟨⟨h1, h2⟩, h3⟩
      have h4 := (ht c h1 hc).2
      have h5 := J2D ht y hy h3
      omega
    omega
  rw [if_neg q, Int.zero_add]
  by_cases q2 : anc ps v y = true
  · rw [if_pos q2]
    obtain ⟨c, c1, c2, c3, c4⟩ := J3M ht y hy q q2
    rw [J8J (fun c => if (0 < c ∧ upN ps c = v) ∧ anc ps c y = true then ws.getD y 0 else 0) c2 fun k hk hne => ?_]
    · rw [if_pos ⟨⟨c1, c3⟩, c4⟩]
    rw [if_neg]
    rintro ⟨⟨k1, k2⟩, k3⟩
    have no : ∀ a b : Nat, 0 < a → a < ps.length → upN ps a = v → 0 < b → b < ps.length → upN ps b = v → a ≠ b → anc ps a b = true → False := fun a b a1 a2 a3 b1 b2 b3 hab h => by
      rw [J03 ht b1 b2, decide_eq_false (fun e => hab e.symm), Bool.false_or, b3] at h
      have h6 := J2D ht v hv h
      have h7 := (ht a a1 a2).2
      omega
    rcases J3A ht y hy k3 c4 with h | h
    · exact no k c k1 hk k2 c1 c2 c3 hne h
    exact no c k c1 c2 c3 k1 hk k2 (fun e => hne e.symm) h
  rw [if_neg q2]
  refine (Eq.trans (Jg fun c hc => ?_) (J06 ps.length)).symm
  rw [if_neg]
  rintro ⟨⟨h1, h2⟩, h3⟩
  refine q2 (J3R ht (b := c) ?_ y hy h3)
  rw [J03 ht h1 hc, h2, J26, Bool.or_true]
theorem J8U {ps ws : ZI} {x v : Nat} (hx : 0 < x) (hn : x < ps.length) : Jb (fun c => if x - 1 < c then chF ps ws v c else 0) ps.length = Jb (fun c => if x < c then chF ps ws v c else 0) ps.length + chF ps ws v x := by
  rw [← J31 (f := chF ps ws v) ps.length hn, ← J0N]
  refine Jg fun c _ => ?_
  by_cases e : c = x
  · subst e
    rw [if_pos (by omega), if_neg (by omega), if_pos rfl, Int.zero_add]
  rw [if_neg e, Int.add_zero]
  by_cases e2 : x < c
  · rw [if_pos (by omega), if_pos e2]
  rw [if_neg (by omega), if_neg e2]
theorem J8Z {ps ws : ZI} (ht : JN ps) {x : Nat} (hx : x < ps.length) : ws.getD x 0 + Jb (fun c => if x < c then chF ps ws x c else 0) ps.length = bel ps ws x := by
  rw [J3Q ht hx]
  congr 1
  refine Jg fun c hc => ?_
  by_cases e : x < c
  · rw [if_pos e]
  rw [if_neg e]
  unfold chF
  rw [if_neg]
  rintro ⟨h1, h2⟩
  have := (ht c h1 hc).2
  omega
theorem J6w {ps ws : ZI} (ht : JN ps) (hw : ∀ z, z < ps.length → 0 ≤ ws.getD z 0 ∧ ws.getD z 0 ≤ 99) (hb : ∀ x, 0 ≤ bel ps ws x ∧ bel ps ws x ≤ 693) (x : Nat) {v : Nat} (hv : v < ps.length) : 0 ≤ ws.getD v 0 + Jb (fun c => if x < c then chF ps ws v c else 0) ps.length ∧ ws.getD v 0 + Jb (fun c => if x < c then chF ps ws v c else 0) ps.length ≤ 693 := by
  have h0 : ∀ c, 0 ≤ chF ps ws v c ∧ chF ps ws v c ≤ 693 := fun c => by
    unfold chF
    have := hb c
    split <;> omega
  have h1 := (J1p (f := fun c => if x < c then chF ps ws v c else 0) (m := 693) ps.length fun c _ => by
    have := h0 c
    split <;> omega).1
  have h2 : Jb (fun c => if x < c then chF ps ws v c else 0) ps.length ≤ Jb (chF ps ws v) ps.length := J0W _ fun c _ => by
    have := h0 c
    split <;> omega
  have h3 := J3Q ht hv (ws := ws)
  have h4 := hb v
  have h5 := hw v hv
  omega
theorem J8I {l : ZI} {i k : Nat} {v : Int} (h : k ≠ i) : (l.set i v).getD k 0 = l.getD k 0 := by
  simp only [List.getD_eq_getElem?_getD, List.getElem?_set_ne (Ne.symm h)]
theorem J8L {l : ZI} {i : Nat} {v : Int} (h : i < l.length) : (l.set i v).getD i 0 = v := by
  simp only [List.getD_eq_getElem?_getD, List.getElem?_set_self h, Option.getD_some]
abbrev J0p (parents : ZI) (weights : ZI) (below : ZI) (x : Int) : Prop := (0 ≤ x ∧ x < (parents.length : Int)) ∧ (below.length = parents.length) ∧ (∀ v, v < parents.length → below.getD v 0 = weights.getD v 0 + Jb (fun c => if x.toNat < c then chF parents weights v c else 0) parents.length)
abbrev J02 (parents : ZI) (weights : ZI) (below : ZI) (x : Int) : Nat := x.toNat
abbrev J1b (parents : ZI) (weights : ZI) (below2 : ZI) : Prop := (∀ v, v < parents.length → below2.getD v 0 = bel parents weights v) ∧ (below2.length = parents.length)
abbrev J0o (parents : ZI) (weights : ZI) (below2 : ZI) (x3 : Int) : Prop := (0 ≤ x3 ∧ x3 ≤ (parents.length : Int)) ∧ (∀ k, k < x3.toNat → Jv parents weights k = false)
abbrev JZ (parents : ZI) (weights : ZI) (below2 : ZI) (x3 : Int) : Nat := (parents.length - x3).toNat
abbrev JY (parents : ZI) (weights : ZI) (below2 : ZI) (x3 : Int) (most : Int) (y : Int) : Prop := (0 ≤ y ∧ y ≤ (parents.length : Int)) ∧ (0 ≤ most ∧ most ≤ 693) ∧ (decide (2 * most ≤ Jn parents weights) = (decide (2 * (Jn parents weights - bel parents weights x3.toNat) ≤ Jn parents weights) && allTo (chB parents weights x3.toNat) y.toNat))
abbrev Js (parents : ZI) (weights : ZI) (below2 : ZI) (x3 : Int) (most : Int) (y : Int) : Nat := (parents.length - y).toNat
def J4F (f : FuncId) (ds : List D) : Orc := bif Nat.beq f 145 then J2J ds else bif Nat.beq f 131 then J0O ds else bif Nat.beq f 149 then J2u ds else .no
def J4s (parents : ZI) (weights : ZI) : Ann := .two (.none) (.two (.none) (.two (.none) (.cut (.two (.none) (.loop (cut2 (fun (below : ZI) (x : Int) => J0p parents weights below x) (fun (below : ZI) (x : Int) => [(0, .d false (.sl (.ints parents))), (6, .own 28 below.length), (7, .d true (.int .i64 x))]) (fun (below : ZI) (x : Int) => [(28, .arr true 3 (.ints below))])) (fun g => J02 parents weights g.1 g.2) (fun _ => .none))) (cut1 (fun (below2 : ZI) => J1b parents weights below2) (fun (below2 : ZI) => [(0, .d false (.sl (.ints parents))), (6, .own 1000050 below2.length)]) (fun (below2 : ZI) => [(1000050, .arr true 3 (.ints below2))])) (fun g => (fun (below2 : ZI) => .two (.two (.none) (.loop (cut1 (fun (x3 : Int) => J0o parents weights below2 x3) (fun (x3 : Int) => [(0, .d false (.sl (.ints parents))), (6, .own 1000050 below2.length), (50, .d true (.int .i64 (parents.length : Int))), (51, .d true (.int .i64 x3))]) (fun (x3 : Int) => [(1000050, .arr true 3 (.ints below2))])) (fun g => JZ parents weights below2 g) (fun g => (fun (x3 : Int) => .two (.none) (.two (.none) (.two (.two (.none) (.two (.none) (.two (.two (.none) (.loop (cut2 (fun (most : Int) (y : Int) => JY parents weights below2 x3 most y) (fun (most : Int) (y : Int) => [(0, .d false (.sl (.ints parents))), (6, .own 1000050 below2.length), (8, .d true (.int .i64 x3)), (9, .d true (.int .i64 most)), (50, .d true (.int .i64 (parents.length : Int))), (51, .d true (.int .i64 x3)), (62, .d false (.sl (.ints parents))), (63, .d true (.int .i64 (parents.length : Int))), (64, .d true (.int .i64 y))]) (fun (most : Int) (y : Int) => [(1000050, .arr true 3 (.ints below2))])) (fun g => Js parents weights below2 x3 g.1 g.2) (fun _ => .none))) (.none)))) (.none)))) g))) (.none)) g))))
def Jl (parents : ZI) (weights : ZI) : Bool := (cond (!(J2 parents)) true ((weights.length : Int) != (parents.length : Int)))
def J2z (parents : ZI) (weights : ZI) : Prop :=
  (PC Try.prog 145 [.sl (.ints parents)] (.one (.d (.bool (J2 parents))))) ∧ ((!(!(J2 parents))) = true → (!(!(J2 parents))) = true) ∧ ((!(!(J2 parents))) = true → (!(!(J2 parents))) = true) ∧ ((!(!(J2 parents))) = true → (!(!(J2 parents))) = true) ∧ ((!(!(J2 parents))) = true → (!(!(J2 parents))) = true) ∧ (true = true) ∧ (((!(J2 parents)) = true → true = true)) ∧ (((!(J2 parents)) = false → (!(!(J2 parents))) = true)) ∧ ((!(Jl parents weights)) = true → (!(Jl parents weights)) = true) ∧ ((!(Jl parents weights)) = true → PC Try.prog 131 [.sl (.ints weights), .int .i64 0, .int .i64 99] (.one (.d (.bool (weights.all (fun x => inB x 0 99)))))) ∧ ((!(Jl parents weights)) = true → (!(Jl parents weights)) = true) ∧ (true = true) ∧ (((Jl parents weights) = true → true = true)) ∧ (((Jl parents weights) = false → (!(Jl parents weights)) = true)) ∧ (((cond (Jl parents weights) true (!(weights.all (fun x => inB x 0 99)))) = true → (((0 : Int) = (mjN parents weights)) ∧ (false = (mjB parents weights)))) ∧ ((cond (Jl parents weights) true (!(weights.all (fun x => inB x 0 99)))) = false → (PC Try.prog 149 [.sl (.ints weights)] (.one (.own 3 (.ints weights)))) ∧ (((I6 ((parents.length : Int) - 1)) ∧ ((∃ below' : ZI, ∃ x' : Int, (J0p parents weights below' x') ∧ (parents = parents) ∧ (weights.length = below'.length) ∧ (((parents.length : Int) - 1) = x') ∧ (weights = below')) ∧ (∀ below : ZI, ∀ x : Int, (J0p parents weights below x) → (((decide (x > 0)) = true → (true = true) ∧ ((0 : Int) ≤ x) ∧ ((x : Int) < parents.length) ∧ (x.toNat < parents.length) ∧ ((0 : Int) ≤ (parents.getD x.toNat 0)) ∧ (((parents.getD x.toNat 0) : Int) < (below.length : Int)) ∧ ((parents.getD x.toNat 0).toNat < below.length) ∧ ((0 : Int) ≤ x) ∧ ((x : Int) < (below.length : Int)) ∧ (x.toNat < below.length) ∧ (I6 ((below.getD ((parents.getD x.toNat 0).toNat) 0) + (below.getD x.toNat 0))) ∧ ((0 : Int) ≤ (parents.getD x.toNat 0)) ∧ (((parents.getD x.toNat 0) : Int) < (below.length : Int)) ∧ ((parents.getD x.toNat 0).toNat < below.length) ∧ (I6 (x - 1)) ∧ (∃ below' : ZI, ∃ x' : Int, (J0p parents weights below' x') ∧ (J02 parents weights below' x' < J02 parents weights below x) ∧ (parents = parents) ∧ (below.length = below'.length) ∧ ((x - 1) = x') ∧ ((below.set ((parents.getD x.toNat 0).toNat) ((below.getD ((parents.getD x.toNat 0).toNat) 0) + (below.getD x.toNat 0))) = below'))) ∧ ((decide (x > 0)) = false → (∃ below2' : ZI, (J1b parents weights below2') ∧ (parents = parents) ∧ (below.length = below2'.length) ∧ (below = below2'))))))) ∧ (∀ below2 : ZI, (J1b parents weights below2) → ((∃ x3' : Int, (J0o parents weights below2 x3') ∧ (parents = parents) ∧ (below2.length = below2.length) ∧ ((parents.length : Int) = (parents.length : Int)) ∧ ((0 : Int) = x3') ∧ (below2 = below2)) ∧ (∀ x3 : Int, (J0o parents weights below2 x3) → (((decide (x3 < (parents.length : Int))) = true → (true = true) ∧ ((0 : Int) ≤ 0) ∧ ((0 : Int) < (below2.length : Int)) ∧ (0 < below2.length) ∧ ((0 : Int) ≤ x3) ∧ ((x3 : Int) < (below2.length : Int)) ∧ (x3.toNat < below2.length) ∧ (I6 ((below2.getD 0 0) - (below2.getD x3.toNat 0))) ∧ ((∃ most' : Int, ∃ y' : Int, (JY parents weights below2 x3 most' y') ∧ (parents = parents) ∧ (below2.length = below2.length) ∧ (x3 = x3) ∧ (((below2.getD 0 0) - (below2.getD x3.toNat 0)) = most') ∧ ((parents.length : Int) = (parents.length : Int)) ∧ (x3 = x3) ∧ (parents = parents) ∧ ((parents.length : Int) = (parents.length : Int)) ∧ ((0 : Int) = y') ∧ (below2 = below2)) ∧ (∀ most : Int, ∀ y : Int, (JY parents weights below2 x3 most y) → (((decide (y < (parents.length : Int))) = true → ((0 : Int) ≤ y) ∧ ((y : Int) < parents.length) ∧ (y.toNat < parents.length) ∧ ((((parents.getD y.toNat 0) == x3) = true → ((0 : Int) ≤ y) ∧ ((y : Int) < (below2.length : Int)) ∧ (y.toNat < below2.length) ∧ (I6 (y + 1)) ∧ (∃ most' : Int, ∃ y' : Int, (JY parents weights below2 x3 most' y') ∧ (Js parents weights below2 x3 most' y' < Js parents weights below2 x3 most y) ∧ (parents = parents) ∧ (below2.length = below2.length) ∧ (x3 = x3) ∧ ((max most (below2.getD y.toNat 0)) = most') ∧ ((parents.length : Int) = (parents.length : Int)) ∧ (x3 = x3) ∧ (parents = parents) ∧ ((parents.length : Int) = (parents.length : Int)) ∧ ((y + 1) = y') ∧ (below2 = below2))) ∧ (((parents.getD y.toNat 0) == x3) = false → (I6 (y + 1)) ∧ (∃ most' : Int, ∃ y' : Int, (JY parents weights below2 x3 most' y') ∧ (Js parents weights below2 x3 most' y' < Js parents weights below2 x3 most y) ∧ (parents = parents) ∧ (below2.length = below2.length) ∧ (x3 = x3) ∧ (most = most') ∧ ((parents.length : Int) = (parents.length : Int)) ∧ (x3 = x3) ∧ (parents = parents) ∧ ((parents.length : Int) = (parents.length : Int)) ∧ ((y + 1) = y') ∧ (below2 = below2))))) ∧ ((decide (y < (parents.length : Int))) = false → (I6 (2 * most)) ∧ ((0 : Int) ≤ 0) ∧ ((0 : Int) < (below2.length : Int)) ∧ (0 < below2.length) ∧ (((decide ((2 * most) ≤ (below2.getD 0 0))) = true → ((x3 = (mjN parents weights)) ∧ (true = (mjB parents weights)))) ∧ ((decide ((2 * most) ≤ (below2.getD 0 0))) = false → (I6 (x3 + 1)) ∧ (∃ x3' : Int, (J0o parents weights below2 x3') ∧ (JZ parents weights below2 x3' < JZ parents weights below2 x3) ∧ (parents = parents) ∧ (below2.length = below2.length) ∧ ((parents.length : Int) = (parents.length : Int)) ∧ ((x3 + 1) = x3') ∧ (below2 = below2))))))))) ∧ ((decide (x3 < (parents.length : Int))) = false → (((0 : Int) = (mjN parents weights)) ∧ (false = (mjB parents weights)))))))))))
theorem J3W (parents : ZI) (weights : ZI)  (w_parents : (parents.length : Int) ≤ 9223372036854775807) (w_weights : (weights.length : Int) ≤ 9223372036854775807) : J2z parents weights := by
  unfold J2z Jl
  refine ⟨J2V parents, id, id, id, id, rfl, fun _ => rfl, ?_, id, fun _ => J12 weights 0 99, id, rfl, fun _ => rfl, ?_, ?_, ?_⟩
  ·intro h; rw [h]; rfl
  ·intro h; rw [h]; rfl
  ·intro b1
   refine ⟨?_, ?_⟩
   ·have hq : mjR parents weights = false := by
      unfold mjR J3
      revert b1; cases J2 parents <;> cases (weights.all fun x => inB x 0 99) <;> by_cases e : (weights.length : Int) = (parents.length : Int) <;> simp [e]
    unfold mjN; rw [hq]; rfl
   have hq : mjR parents weights = false := by
     unfold mjR J3
     revert b1; cases J2 parents <;> cases (weights.all fun x => inB x 0 99) <;> by_cases e : (weights.length : Int) = (parents.length : Int) <;> simp [e]
   unfold mjB; rw [hq]; rfl
  intro b2
  refine ⟨?_, ?_, ?_⟩
  ·refine J2B weights ?_
   ·have hq : mjR parents weights = true := by
      unfold mjR J3
      revert b2; cases J2 parents <;> cases (weights.all fun x => inB x 0 99) <;> by_cases e : (weights.length : Int) = (parents.length : Int) <;> simp [e]
    obtain ⟨q1, q2, q3, q4, q5, q6⟩ := J5 hq
    obtain ⟨t1, t2, t3, t4⟩ := J4 q1
    omega
  ·refine ⟨?_, ?_, ?_⟩
   ·first | omega | rfl | (intro hg; simp only [nrmT] at hg; omega) | (intro g1 g2; simp [g1, g2]; done) | (intro g1; simp at g1 ⊢; simp [g1]; done) | (simp only [nrmT] at *; omega) | (simp at * <;> omega) | (simp_all <;> omega) | (simp_all; done)
   ·refine ⟨weights, ((parents.length : Int) - 1), ?_⟩
    refine ⟨?_, rfl, rfl, rfl, rfl⟩
    ·refine ⟨?_, ?_, ?_⟩
     ·have hq : mjR parents weights = true := by
        unfold mjR J3
        revert b2; cases J2 parents <;> cases (weights.all fun x => inB x 0 99) <;> by_cases e : (weights.length : Int) = (parents.length : Int) <;> simp [e]
      obtain ⟨q1, q2, q3, q4, q5, q6⟩ := J5 hq
      obtain ⟨t1, t2, t3, t4⟩ := J4 q1
      omega
     ·have hq : mjR parents weights = true := by
        unfold mjR J3
        revert b2; cases J2 parents <;> cases (weights.all fun x => inB x 0 99) <;> by_cases e : (weights.length : Int) = (parents.length : Int) <;> simp [e]
      obtain ⟨q1, q2, q3, q4, q5, q6⟩ := J5 hq
      obtain ⟨t1, t2, t3, t4⟩ := J4 q1
      exact q2
     ·intro v hv
      have : Jb (fun c => if ((parents.length : Int) - 1).toNat < c then chF parents weights v c else 0) parents.length = 0 := (Jg fun c hc => if_neg (by omega)).trans (J06 _)
      omega
   ·intro below x hJ
    obtain ⟨h1, h2, h3⟩ := hJ
    refine ⟨?_, ?_⟩
    ·intro b3
     try simp only [nrmT] at b3
     refine ⟨rfl, ?_, ?_, ?_, ?_, ?_, ?_, ?_, ?_, ?_, ?_, ?_, ?_, ?_, ?_, ?_⟩
     ·first | omega | rfl | (intro hg; simp only [nrmT] at hg; omega) | (intro g1 g2; simp [g1, g2]; done) | (intro g1; simp at g1 ⊢; simp [g1]; done) | (simp only [nrmT] at *; omega) | (simp at * <;> omega) | (simp_all <;> omega) | (simp_all; done)
     ·first | omega | rfl | (intro hg; simp only [nrmT] at hg; omega) | (intro g1 g2; simp [g1, g2]; done) | (intro g1; simp at g1 ⊢; simp [g1]; done) | (simp only [nrmT] at *; omega) | (simp at * <;> omega) | (simp_all <;> omega) | (simp_all; done)
     ·first | omega | rfl | (intro hg; simp only [nrmT] at hg; omega) | (intro g1 g2; simp [g1, g2]; done) | (intro g1; simp at g1 ⊢; simp [g1]; done) | (simp only [nrmT] at *; omega) | (simp at * <;> omega) | (simp_all <;> omega) | (simp_all; done)
     ·have hq : mjR parents weights = true := by
        unfold mjR J3
        revert b2; cases J2 parents <;> cases (weights.all fun x => inB x 0 99) <;> by_cases e : (weights.length : Int) = (parents.length : Int) <;> simp [e]
      obtain ⟨q1, q2, q3, q4, q5, q6⟩ := J5 hq
      obtain ⟨t1, t2, t3, t4⟩ := J4 q1
      have hu := t4 x.toNat (by omega) (by omega)
      unfold upN at hu
      omega
     ·have hq : mjR parents weights = true := by
        unfold mjR J3
        revert b2; cases J2 parents <;> cases (weights.all fun x => inB x 0 99) <;> by_cases e : (weights.length : Int) = (parents.length : Int) <;> simp [e]
      obtain ⟨q1, q2, q3, q4, q5, q6⟩ := J5 hq
      obtain ⟨t1, t2, t3, t4⟩ := J4 q1
      have hu := t4 x.toNat (by omega) (by omega)
      unfold upN at hu
      omega
     ·have hq : mjR parents weights = true := by
        unfold mjR J3
        revert b2; cases J2 parents <;> cases (weights.all fun x => inB x 0 99) <;> by_cases e : (weights.length : Int) = (parents.length : Int) <;> simp [e]
      obtain ⟨q1, q2, q3, q4, q5, q6⟩ := J5 hq
      obtain ⟨t1, t2, t3, t4⟩ := J4 q1
      have hu := t4 x.toNat (by omega) (by omega)
      unfold upN at hu
      omega
     ·first | omega | rfl | (intro hg; simp only [nrmT] at hg; omega) | (intro g1 g2; simp [g1, g2]; done) | (intro g1; simp at g1 ⊢; simp [g1]; done) | (simp only [nrmT] at *; omega) | (simp at * <;> omega) | (simp_all <;> omega) | (simp_all; done)
     ·have hq : mjR parents weights = true := by
        unfold mjR J3
        revert b2; cases J2 parents <;> cases (weights.all fun x => inB x 0 99) <;> by_cases e : (weights.length : Int) = (parents.length : Int) <;> simp [e]
      obtain ⟨q1, q2, q3, q4, q5, q6⟩ := J5 hq
      obtain ⟨t1, t2, t3, t4⟩ := J4 q1
      omega
     ·have hq : mjR parents weights = true := by
        unfold mjR J3
        revert b2; cases J2 parents <;> cases (weights.all fun x => inB x 0 99) <;> by_cases e : (weights.length : Int) = (parents.length : Int) <;> simp [e]
      obtain ⟨q1, q2, q3, q4, q5, q6⟩ := J5 hq
      obtain ⟨t1, t2, t3, t4⟩ := J4 q1
      omega
     ·have hq : mjR parents weights = true := by
        unfold mjR J3
        revert b2; cases J2 parents <;> cases (weights.all fun x => inB x 0 99) <;> by_cases e : (weights.length : Int) = (parents.length : Int) <;> simp [e]
      obtain ⟨q1, q2, q3, q4, q5, q6⟩ := J5 hq
      obtain ⟨t1, t2, t3, t4⟩ := J4 q1
      have hu := t4 x.toNat (by omega) (by omega)
      unfold upN at hu
      have px := J6w t4 q3 q4 x.toNat (v := x.toNat) (by omega)
      have pp := J6w t4 q3 q4 x.toNat (v := (parents.getD x.toNat 0).toNat) (by omega)
      rw [← h3 _ (by omega)] at px pp
      omega
     ·have hq : mjR parents weights = true := by
        unfold mjR J3
        revert b2; cases J2 parents <;> cases (weights.all fun x => inB x 0 99) <;> by_cases e : (weights.length : Int) = (parents.length : Int) <;> simp [e]
      obtain ⟨q1, q2, q3, q4, q5, q6⟩ := J5 hq
      obtain ⟨t1, t2, t3, t4⟩ := J4 q1
      have hu := t4 x.toNat (by omega) (by omega)
      unfold upN at hu
      omega
     ·have hq : mjR parents weights = true := by
        unfold mjR J3
        revert b2; cases J2 parents <;> cases (weights.all fun x => inB x 0 99) <;> by_cases e : (weights.length : Int) = (parents.length : Int) <;> simp [e]
      obtain ⟨q1, q2, q3, q4, q5, q6⟩ := J5 hq
      obtain ⟨t1, t2, t3, t4⟩ := J4 q1
      have hu := t4 x.toNat (by omega) (by omega)
      unfold upN at hu
      omega
     ·have hq : mjR parents weights = true := by
        unfold mjR J3
        revert b2; cases J2 parents <;> cases (weights.all fun x => inB x 0 99) <;> by_cases e : (weights.length : Int) = (parents.length : Int) <;> simp [e]
      obtain ⟨q1, q2, q3, q4, q5, q6⟩ := J5 hq
      obtain ⟨t1, t2, t3, t4⟩ := J4 q1
      have hu := t4 x.toNat (by omega) (by omega)
      unfold upN at hu
      omega
     ·first | omega | rfl | (intro hg; simp only [nrmT] at hg; omega) | (intro g1 g2; simp [g1, g2]; done) | (intro g1; simp at g1 ⊢; simp [g1]; done) | (simp only [nrmT] at *; omega) | (simp at * <;> omega) | (simp_all <;> omega) | (simp_all; done)
     refine ⟨(below.set ((parents.getD x.toNat 0).toNat) ((below.getD ((parents.getD x.toNat 0).toNat) 0) + (below.getD x.toNat 0))), (x - 1), ?_⟩
     refine ⟨?_, ?_, rfl, ?_, rfl, rfl⟩
     ·refine ⟨?_, ?_, ?_⟩
      ·first | omega | rfl | (intro hg; simp only [nrmT] at hg; omega) | (intro g1 g2; simp [g1, g2]; done) | (intro g1; simp at g1 ⊢; simp [g1]; done) | (simp only [nrmT] at *; omega) | (simp at * <;> omega) | (simp_all <;> omega) | (simp_all; done)
      ·rw [List.length_set]; exact h2
      ·have hq : mjR parents weights = true := by
         unfold mjR J3
         revert b2; cases J2 parents <;> cases (weights.all fun x => inB x 0 99) <;> by_cases e : (weights.length : Int) = (parents.length : Int) <;> simp [e]
       obtain ⟨q1, q2, q3, q4, q5, q6⟩ := J5 hq
       obtain ⟨t1, t2, t3, t4⟩ := J4 q1
       have hu := t4 x.toNat (by omega) (by omega)
       unfold upN at hu
       have px := J6w t4 q3 q4 x.toNat (v := x.toNat) (by omega)
       have pp := J6w t4 q3 q4 x.toNat (v := (parents.getD x.toNat 0).toNat) (by omega)
       rw [← h3 _ (by omega)] at px pp
       intro v hv
       have hn := J8U (ps := parents) (ws := weights) (x := x.toNat) (v := v) (by omega) (by omega)
       rw [show (x - 1).toNat = x.toNat - 1 by omega, hn]
       have ho := J8Z t4 (ws := weights) (x := x.toNat) (by omega)
       rw [← h3 _ (by omega)] at ho
       by_cases e : v = (parents.getD x.toNat 0).toNat
       · subst e
         rw [J8L (by omega), h3 _ (by omega), ho]
         have : chF parents weights (parents.getD x.toNat 0).toNat x.toNat = bel parents weights x.toNat := by
           unfold chF upN
           rw [if_pos ⟨by omega, rfl⟩]
         omega
       rw [J8I e, h3 v hv]
       have : chF parents weights v x.toNat = 0 := by
         unfold chF upN
         rw [if_neg fun h => e h.2.symm]
       omega
     ·first | (show _ < _; omega) | (simp only [J02]; omega) | (simp only [J02] at *; simp at *; omega)
     simp
    intro b4
    try simp only [nrmT] at b4
    refine ⟨below, ?_⟩
    refine ⟨?_, rfl, rfl, rfl⟩
    ·refine ⟨?_, ?_⟩
     ·have hq : mjR parents weights = true := by
        unfold mjR J3
        revert b2; cases J2 parents <;> cases (weights.all fun x => inB x 0 99) <;> by_cases e : (weights.length : Int) = (parents.length : Int) <;> simp [e]
      obtain ⟨q1, q2, q3, q4, q5, q6⟩ := J5 hq
      obtain ⟨t1, t2, t3, t4⟩ := J4 q1
      intro v hv
      rw [h3 v hv, J3Q t4 hv, show x.toNat = 0 by omega]
      congr 1
      refine Jg fun c _ => ?_
      by_cases e : 0 < c
      · rw [if_pos e]
      rw [if_neg e]
      unfold chF
      rw [if_neg fun h => e h.1]
     ·exact h2
  intro below2 hJ
  obtain ⟨k1, k2⟩ := hJ
  refine ⟨?_, ?_⟩
  ·refine ⟨0, ?_⟩
   refine ⟨?_, rfl, rfl, rfl, rfl, rfl⟩
   ·refine ⟨?_, ?_⟩
    ·have hq : mjR parents weights = true := by
       unfold mjR J3
       revert b2; cases J2 parents <;> cases (weights.all fun x => inB x 0 99) <;> by_cases e : (weights.length : Int) = (parents.length : Int) <;> simp [e]
     obtain ⟨q1, q2, q3, q4, q5, q6⟩ := J5 hq
     obtain ⟨t1, t2, t3, t4⟩ := J4 q1
     omega
    ·intro k hk; exact absurd hk (by simp)
  intro x3 hJ
  obtain ⟨h4, h5⟩ := hJ
  refine ⟨?_, ?_⟩
  ·intro b5
   try simp only [nrmT] at b5
   refine ⟨rfl, ?_, ?_, ?_, ?_, ?_, ?_, ?_, ?_, ?_⟩
   ·first | omega | rfl | (intro hg; simp only [nrmT] at hg; omega) | (intro g1 g2; simp [g1, g2]; done) | (intro g1; simp at g1 ⊢; simp [g1]; done) | (simp only [nrmT] at *; omega) | (simp at * <;> omega) | (simp_all <;> omega) | (simp_all; done)
   ·have hq : mjR parents weights = true := by
      unfold mjR J3
      revert b2; cases J2 parents <;> cases (weights.all fun x => inB x 0 99) <;> by_cases e : (weights.length : Int) = (parents.length : Int) <;> simp [e]
    obtain ⟨q1, q2, q3, q4, q5, q6⟩ := J5 hq
    obtain ⟨t1, t2, t3, t4⟩ := J4 q1
    omega
   ·have hq : mjR parents weights = true := by
      unfold mjR J3
      revert b2; cases J2 parents <;> cases (weights.all fun x => inB x 0 99) <;> by_cases e : (weights.length : Int) = (parents.length : Int) <;> simp [e]
    obtain ⟨q1, q2, q3, q4, q5, q6⟩ := J5 hq
    obtain ⟨t1, t2, t3, t4⟩ := J4 q1
    omega
   ·first | omega | rfl | (intro hg; simp only [nrmT] at hg; omega) | (intro g1 g2; simp [g1, g2]; done) | (intro g1; simp at g1 ⊢; simp [g1]; done) | (simp only [nrmT] at *; omega) | (simp at * <;> omega) | (simp_all <;> omega) | (simp_all; done)
   ·have hq : mjR parents weights = true := by
      unfold mjR J3
      revert b2; cases J2 parents <;> cases (weights.all fun x => inB x 0 99) <;> by_cases e : (weights.length : Int) = (parents.length : Int) <;> simp [e]
    obtain ⟨q1, q2, q3, q4, q5, q6⟩ := J5 hq
    obtain ⟨t1, t2, t3, t4⟩ := J4 q1
    omega
   ·have hq : mjR parents weights = true := by
      unfold mjR J3
      revert b2; cases J2 parents <;> cases (weights.all fun x => inB x 0 99) <;> by_cases e : (weights.length : Int) = (parents.length : Int) <;> simp [e]
    obtain ⟨q1, q2, q3, q4, q5, q6⟩ := J5 hq
    obtain ⟨t1, t2, t3, t4⟩ := J4 q1
    omega
   ·have hq : mjR parents weights = true := by
      unfold mjR J3
      revert b2; cases J2 parents <;> cases (weights.all fun x => inB x 0 99) <;> by_cases e : (weights.length : Int) = (parents.length : Int) <;> simp [e]
    obtain ⟨q1, q2, q3, q4, q5, q6⟩ := J5 hq
    obtain ⟨t1, t2, t3, t4⟩ := J4 q1
    have e0 := k1 0 (by omega)
    have ex := k1 x3.toNat (by omega)
    rw [JD t4] at e0
    have bx := q4 x3.toNat
    have bz := q6 x3.toNat
    omega
   ·refine ⟨((below2.getD 0 0) - (below2.getD x3.toNat 0)), 0, ?_⟩
    refine ⟨?_, rfl, rfl, rfl, rfl, rfl, rfl, rfl, rfl, rfl, rfl⟩
    ·refine ⟨?_, ?_, ?_⟩
     ·have hq : mjR parents weights = true := by
        unfold mjR J3
        revert b2; cases J2 parents <;> cases (weights.all fun x => inB x 0 99) <;> by_cases e : (weights.length : Int) = (parents.length : Int) <;> simp [e]
      obtain ⟨q1, q2, q3, q4, q5, q6⟩ := J5 hq
      obtain ⟨t1, t2, t3, t4⟩ := J4 q1
      omega
     ·have hq : mjR parents weights = true := by
        unfold mjR J3
        revert b2; cases J2 parents <;> cases (weights.all fun x => inB x 0 99) <;> by_cases e : (weights.length : Int) = (parents.length : Int) <;> simp [e]
      obtain ⟨q1, q2, q3, q4, q5, q6⟩ := J5 hq
      obtain ⟨t1, t2, t3, t4⟩ := J4 q1
      have e0 := k1 0 (by omega)
      have ex := k1 x3.toNat (by omega)
      rw [JD t4] at e0
      have bx := q4 x3.toNat
      have bz := q6 x3.toNat
      omega
     ·have hq : mjR parents weights = true := by
        unfold mjR J3
        revert b2; cases J2 parents <;> cases (weights.all fun x => inB x 0 99) <;> by_cases e : (weights.length : Int) = (parents.length : Int) <;> simp [e]
      obtain ⟨q1, q2, q3, q4, q5, q6⟩ := J5 hq
      obtain ⟨t1, t2, t3, t4⟩ := J4 q1
      have e0 := k1 0 (by omega)
      have ex := k1 x3.toNat (by omega)
      rw [JD t4] at e0
      have hl := J7S (ws := weights) t4 (x := x3.toNat) (by omega)
      rw [e0, ex]
      show _ = (_ && true)
      rw [Bool.and_true]
   intro most y hJ
   obtain ⟨h6, h7, h8⟩ := hJ
   refine ⟨?_, ?_⟩
   ·intro b6
    try simp only [nrmT] at b6
    refine ⟨?_, ?_, ?_, ?_, ?_⟩
    ·first | omega | rfl | (intro hg; simp only [nrmT] at hg; omega) | (intro g1 g2; simp [g1, g2]; done) | (intro g1; simp at g1 ⊢; simp [g1]; done) | (simp only [nrmT] at *; omega) | (simp at * <;> omega) | (simp_all <;> omega) | (simp_all; done)
    ·first | omega | rfl | (intro hg; simp only [nrmT] at hg; omega) | (intro g1 g2; simp [g1, g2]; done) | (intro g1; simp at g1 ⊢; simp [g1]; done) | (simp only [nrmT] at *; omega) | (simp at * <;> omega) | (simp_all <;> omega) | (simp_all; done)
    ·first | omega | rfl | (intro hg; simp only [nrmT] at hg; omega) | (intro g1 g2; simp [g1, g2]; done) | (intro g1; simp at g1 ⊢; simp [g1]; done) | (simp only [nrmT] at *; omega) | (simp at * <;> omega) | (simp_all <;> omega) | (simp_all; done)
    ·intro b7
     try simp only [nrmT] at b7
     refine ⟨?_, ?_, ?_, ?_, ?_⟩
     ·first | omega | rfl | (intro hg; simp only [nrmT] at hg; omega) | (intro g1 g2; simp [g1, g2]; done) | (intro g1; simp at g1 ⊢; simp [g1]; done) | (simp only [nrmT] at *; omega) | (simp at * <;> omega) | (simp_all <;> omega) | (simp_all; done)
     ·have hq : mjR parents weights = true := by
        unfold mjR J3
        revert b2; cases J2 parents <;> cases (weights.all fun x => inB x 0 99) <;> by_cases e : (weights.length : Int) = (parents.length : Int) <;> simp [e]
      obtain ⟨q1, q2, q3, q4, q5, q6⟩ := J5 hq
      obtain ⟨t1, t2, t3, t4⟩ := J4 q1
      omega
     ·have hq : mjR parents weights = true := by
        unfold mjR J3
        revert b2; cases J2 parents <;> cases (weights.all fun x => inB x 0 99) <;> by_cases e : (weights.length : Int) = (parents.length : Int) <;> simp [e]
      obtain ⟨q1, q2, q3, q4, q5, q6⟩ := J5 hq
      obtain ⟨t1, t2, t3, t4⟩ := J4 q1
      omega
     ·first | omega | rfl | (intro hg; simp only [nrmT] at hg; omega) | (intro g1 g2; simp [g1, g2]; done) | (intro g1; simp at g1 ⊢; simp [g1]; done) | (simp only [nrmT] at *; omega) | (simp at * <;> omega) | (simp_all <;> omega) | (simp_all; done)
     refine ⟨(max most (below2.getD y.toNat 0)), (y + 1), ?_⟩
     refine ⟨?_, ?_, rfl, rfl, rfl, rfl, rfl, rfl, rfl, rfl, rfl, rfl⟩
     ·refine ⟨?_, ?_, ?_⟩
      ·first | omega | rfl | (intro hg; simp only [nrmT] at hg; omega) | (intro g1 g2; simp [g1, g2]; done) | (intro g1; simp at g1 ⊢; simp [g1]; done) | (simp only [nrmT] at *; omega) | (simp at * <;> omega) | (simp_all <;> omega) | (simp_all; done)
      ·have hq : mjR parents weights = true := by
         unfold mjR J3
         revert b2; cases J2 parents <;> cases (weights.all fun x => inB x 0 99) <;> by_cases e : (weights.length : Int) = (parents.length : Int) <;> simp [e]
       obtain ⟨q1, q2, q3, q4, q5, q6⟩ := J5 hq
       obtain ⟨t1, t2, t3, t4⟩ := J4 q1
       have e0 := k1 0 (by omega)
       have ex := k1 x3.toNat (by omega)
       rw [JD t4] at e0
       have ey := k1 y.toNat (by omega)
       have by9 := q4 y.toNat
       omega
      ·have hq : mjR parents weights = true := by
         unfold mjR J3
         revert b2; cases J2 parents <;> cases (weights.all fun x => inB x 0 99) <;> by_cases e : (weights.length : Int) = (parents.length : Int) <;> simp [e]
       obtain ⟨q1, q2, q3, q4, q5, q6⟩ := J5 hq
       obtain ⟨t1, t2, t3, t4⟩ := J4 q1
       have e0 := k1 0 (by omega)
       have ex := k1 x3.toNat (by omega)
       rw [JD t4] at e0
       have ey := k1 y.toNat (by omega)
       have by9 := q4 y.toNat
       rw [show (y + 1).toNat = y.toNat + 1 by omega]
       show _ = (_ && (allTo (chB parents weights x3.toNat) y.toNat && chB parents weights x3.toNat y.toNat))
       have hc : chB parents weights x3.toNat y.toNat = decide (2 * bel parents weights y.toNat ≤ Jn parents weights) := by
         unfold chB
         have h0 : 0 < y.toNat := by
           apply Classical.byContradiction
           intro hn
           rw [show y.toNat = 0 by omega] at b7
           omega
         rw [decide_eq_true (show 0 < y.toNat ∧ upN parents y.toNat = x3.toNat from ⟨h0, by unfold upN; rw [b7]⟩)]; rfl
       rw [hc, ← Bool.and_assoc, ← h8, Bool.eq_iff_iff, Bool.and_eq_true, decide_eq_true_eq, decide_eq_true_eq, decide_eq_true_eq]
       omega
     first | (show _ < _; omega) | (simp only [Js]; omega) | (simp only [Js] at *; simp at *; omega)
    intro b8
    try simp only [nrmT] at b8
    refine ⟨?_, ?_⟩
    ·first | omega | rfl | (intro hg; simp only [nrmT] at hg; omega) | (intro g1 g2; simp [g1, g2]; done) | (intro g1; simp at g1 ⊢; simp [g1]; done) | (simp only [nrmT] at *; omega) | (simp at * <;> omega) | (simp_all <;> omega) | (simp_all; done)
    refine ⟨most, (y + 1), ?_⟩
    refine ⟨?_, ?_, rfl, rfl, rfl, rfl, rfl, rfl, rfl, rfl, rfl, rfl⟩
    ·refine ⟨?_, ?_, ?_⟩
     ·first | omega | rfl | (intro hg; simp only [nrmT] at hg; omega) | (intro g1 g2; simp [g1, g2]; done) | (intro g1; simp at g1 ⊢; simp [g1]; done) | (simp only [nrmT] at *; omega) | (simp at * <;> omega) | (simp_all <;> omega) | (simp_all; done)
     ·first | omega | rfl | (intro hg; simp only [nrmT] at hg; omega) | (intro g1 g2; simp [g1, g2]; done) | (intro g1; simp at g1 ⊢; simp [g1]; done) | (simp only [nrmT] at *; omega) | (simp at * <;> omega) | (simp_all <;> omega) | (simp_all; done)
     ·have hq : mjR parents weights = true := by
        unfold mjR J3
        revert b2; cases J2 parents <;> cases (weights.all fun x => inB x 0 99) <;> by_cases e : (weights.length : Int) = (parents.length : Int) <;> simp [e]
      obtain ⟨q1, q2, q3, q4, q5, q6⟩ := J5 hq
      obtain ⟨t1, t2, t3, t4⟩ := J4 q1
      rw [show (y + 1).toNat = y.toNat + 1 by omega]
      show _ = (_ && (allTo (chB parents weights x3.toNat) y.toNat && chB parents weights x3.toNat y.toNat))
      have hc : chB parents weights x3.toNat y.toNat = true := by
        unfold chB
        rw [decide_eq_false]
        · rfl
        rintro ⟨h0, h⟩
        have hu := t4 y.toNat h0 (by omega)
        unfold upN at h hu
        omega
      rw [hc, Bool.and_true]
      exact h8
    first | (show _ < _; omega) | (simp only [Js]; omega) | (simp only [Js] at *; simp at *; omega)
   intro b9
   try simp only [nrmT] at b9
   refine ⟨?_, ?_, ?_, ?_, ?_, ?_⟩
   ·first | omega | rfl | (intro hg; simp only [nrmT] at hg; omega) | (intro g1 g2; simp [g1, g2]; done) | (intro g1; simp at g1 ⊢; simp [g1]; done) | (simp only [nrmT] at *; omega) | (simp at * <;> omega) | (simp_all <;> omega) | (simp_all; done)
   ·first | omega | rfl | (intro hg; simp only [nrmT] at hg; omega) | (intro g1 g2; simp [g1, g2]; done) | (intro g1; simp at g1 ⊢; simp [g1]; done) | (simp only [nrmT] at *; omega) | (simp at * <;> omega) | (simp_all <;> omega) | (simp_all; done)
   ·have hq : mjR parents weights = true := by
      unfold mjR J3
      revert b2; cases J2 parents <;> cases (weights.all fun x => inB x 0 99) <;> by_cases e : (weights.length : Int) = (parents.length : Int) <;> simp [e]
    obtain ⟨q1, q2, q3, q4, q5, q6⟩ := J5 hq
    obtain ⟨t1, t2, t3, t4⟩ := J4 q1
    omega
   ·have hq : mjR parents weights = true := by
      unfold mjR J3
      revert b2; cases J2 parents <;> cases (weights.all fun x => inB x 0 99) <;> by_cases e : (weights.length : Int) = (parents.length : Int) <;> simp [e]
    obtain ⟨q1, q2, q3, q4, q5, q6⟩ := J5 hq
    obtain ⟨t1, t2, t3, t4⟩ := J4 q1
    omega
   ·intro b10
    try simp only [nrmT] at b10
    refine ⟨?_, ?_⟩
    ·have hq : mjR parents weights = true := by
       unfold mjR J3
       revert b2; cases J2 parents <;> cases (weights.all fun x => inB x 0 99) <;> by_cases e : (weights.length : Int) = (parents.length : Int) <;> simp [e]
     obtain ⟨q1, q2, q3, q4, q5, q6⟩ := J5 hq
     obtain ⟨t1, t2, t3, t4⟩ := J4 q1
     have e0 := k1 0 (by omega)
     have ex := k1 x3.toNat (by omega)
     rw [JD t4] at e0
     have hm : Jv parents weights x3.toNat = decide (2 * most ≤ Jn parents weights) := by
       unfold Jv
       rw [h8, show y.toNat = parents.length by omega]
     rw [decide_eq_true (show 2 * most ≤ Jn parents weights by omega)] at hm
     have hi : x3 = mjI parents weights := idx_found (p := fun x : Int => Jv parents weights x.toNat) (d := 0) h4.1 (by rw [J0x]; omega) (fun k hk => by rw [JR (by omega), Int.toNat_natCast]; exact h5 k hk) (by rw [JR (by omega), Int.toNat_natCast]; exact hm)
     unfold mjN; rw [if_pos hq, ← hi, if_neg (by omega)]
    have hq : mjR parents weights = true := by
      unfold mjR J3
      revert b2; cases J2 parents <;> cases (weights.all fun x => inB x 0 99) <;> by_cases e : (weights.length : Int) = (parents.length : Int) <;> simp [e]
    obtain ⟨q1, q2, q3, q4, q5, q6⟩ := J5 hq
    obtain ⟨t1, t2, t3, t4⟩ := J4 q1
    have e0 := k1 0 (by omega)
    have ex := k1 x3.toNat (by omega)
    rw [JD t4] at e0
    have hm : Jv parents weights x3.toNat = decide (2 * most ≤ Jn parents weights) := by
      unfold Jv
      rw [h8, show y.toNat = parents.length by omega]
    rw [decide_eq_true (show 2 * most ≤ Jn parents weights by omega)] at hm
    have hi : x3 = mjI parents weights := idx_found (p := fun x : Int => Jv parents weights x.toNat) (d := 0) h4.1 (by rw [J0x]; omega) (fun k hk => by rw [JR (by omega), Int.toNat_natCast]; exact h5 k hk) (by rw [JR (by omega), Int.toNat_natCast]; exact hm)
    unfold mjB; rw [hq, ← hi, decide_eq_true h4.1]; rfl
   intro b11
   try simp only [nrmT] at b11
   refine ⟨?_, ?_⟩
   ·first | omega | rfl | (intro hg; simp only [nrmT] at hg; omega) | (intro g1 g2; simp [g1, g2]; done) | (intro g1; simp at g1 ⊢; simp [g1]; done) | (simp only [nrmT] at *; omega) | (simp at * <;> omega) | (simp_all <;> omega) | (simp_all; done)
   refine ⟨(x3 + 1), ?_⟩
   refine ⟨?_, ?_, rfl, rfl, rfl, rfl, rfl⟩
   ·refine ⟨?_, ?_⟩
    ·first | omega | rfl | (intro hg; simp only [nrmT] at hg; omega) | (intro g1 g2; simp [g1, g2]; done) | (intro g1; simp at g1 ⊢; simp [g1]; done) | (simp only [nrmT] at *; omega) | (simp at * <;> omega) | (simp_all <;> omega) | (simp_all; done)
    ·have hq : mjR parents weights = true := by
       unfold mjR J3
       revert b2; cases J2 parents <;> cases (weights.all fun x => inB x 0 99) <;> by_cases e : (weights.length : Int) = (parents.length : Int) <;> simp [e]
     obtain ⟨q1, q2, q3, q4, q5, q6⟩ := J5 hq
     obtain ⟨t1, t2, t3, t4⟩ := J4 q1
     have e0 := k1 0 (by omega)
     have ex := k1 x3.toNat (by omega)
     rw [JD t4] at e0
     have hm : Jv parents weights x3.toNat = decide (2 * most ≤ Jn parents weights) := by
       unfold Jv
       rw [h8, show y.toNat = parents.length by omega]
     rw [decide_eq_false (show ¬ 2 * most ≤ Jn parents weights by omega)] at hm
     intro k hk
     by_cases e : k = x3.toNat
     · rw [e]; exact hm
     exact h5 k (by omega)
   first | (show _ < _; omega) | (simp only [JZ]; omega) | (simp only [JZ] at *; simp at *; omega)
  intro b12
  try simp only [nrmT] at b12
  refine ⟨?_, ?_⟩
  ·have hq : mjR parents weights = true := by
     unfold mjR J3
     revert b2; cases J2 parents <;> cases (weights.all fun x => inB x 0 99) <;> by_cases e : (weights.length : Int) = (parents.length : Int) <;> simp [e]
   obtain ⟨q1, q2, q3, q4, q5, q6⟩ := J5 hq
   obtain ⟨t1, t2, t3, t4⟩ := J4 q1
   have hi : mjI parents weights = -1 := idx_none (p := fun x : Int => Jv parents weights x.toNat) (d := 0) (i := x3) (by rw [J0x]; omega) (fun k hk => by rw [JR (by omega), Int.toNat_natCast]; exact h5 k hk)
   unfold mjN; rw [if_pos hq, hi]; rfl
  have hq : mjR parents weights = true := by
    unfold mjR J3
    revert b2; cases J2 parents <;> cases (weights.all fun x => inB x 0 99) <;> by_cases e : (weights.length : Int) = (parents.length : Int) <;> simp [e]
  obtain ⟨q1, q2, q3, q4, q5, q6⟩ := J5 hq
  obtain ⟨t1, t2, t3, t4⟩ := J4 q1
  have hi : mjI parents weights = -1 := idx_none (p := fun x : Int => Jv parents weights x.toNat) (d := 0) (i := x3) (by rw [J0x]; omega) (fun k hk => by rw [JR (by omega), Int.toNat_natCast]; exact h5 k hk)
  unfold mjB; rw [hq, hi]; rfl
theorem J2q (parents : ZI) (weights : ZI)  : PC Try.prog 56 [.sl (.ints parents), .sl (.ints weights)] (.tup [.d (.int .i64 (mjN parents weights)), .d (.bool (mjB parents weights))]) :=
  pc_wf @Try.call56 fun hw => pc_by (by kernel_rfl) Try.func56 @Try.call56 (by kernel_rfl) J4F (J4s parents weights) (by kernel_rfl) (J3W parents weights hw.1 hw.2.1) (by kernel_rfl)
def J3x : List D → Orc := orcN [some .ints, some .ints] fun ds => match ds with
  | [.sl (.ints parents), .sl (.ints weights)] => some (.tup [.d (.int .i64 (mjN parents weights)), .d (.bool (mjB parents weights))])
  | _ => none
def tfM (ps ls : ZI) : ZR := tabTo (fun x => tabTo (fun y => tdL ps ls x y) ps.length) ps.length
def tfQ (ps ls : ZI) : Bool := J2 ps && (J3 ls (ps.length : Int) 99 && (ls.getD 0 0 == 0))
def tfB (ps ls : ZI) : Bool := tfQ ps ls && J0 (List.replicate ps.length 0) (tfM ps ls)
def tfO (ps ls : ZI) : ZI := if tfB ps ls = true then List.replicate ps.length 0 else []
def tfD (ps ls : ZI) : ZR := if tfB ps ls = true then tfM ps ls else []
theorem J8N (ps ls : ZI) : (tfM ps ls).length = ps.length := tabTo_len _ _
theorem J7k {ps ls : ZI} {x : Nat} (h : x < ps.length) : (tfM ps ls).getD x [] = tabTo (fun y => tdL ps ls x y) ps.length := tabTo_get h
theorem J8X {ps ls : ZI} {x y : Nat} (hx : x < ps.length) (hy : y < ps.length) : ((tfM ps ls).getD x []).getD y 0 = tdL ps ls x y := by
  rw [J7k hx, tabTo_get hy]
theorem Jc {ps ls : ZI} (h : tfQ ps ls = true) : J2 ps = true ∧ (1 ≤ ps.length ∧ ps.length ≤ 7) ∧ JN ps ∧ ls.length = ps.length ∧ (∀ z, z < ps.length → 0 ≤ ls.getD z 0 ∧ ls.getD z 0 ≤ 99) ∧ ls.getD 0 0 = 0 ∧ ∀ x y, 0 ≤ tdL ps ls x y ∧ tdL ps ls x y ≤ 693 := by
  unfold tfQ at h
  rw [Bool.and_eq_true, Bool.and_eq_true] at h
  obtain ⟨h1, h2, h3⟩ := h
  obtain ⟨t1, t2, t3, t4⟩ := J4 h1
  unfold J3 at h2
  rw [Bool.and_eq_true, decide_eq_true_eq, List.all_eq_true] at h2
  have hl : ls.length = ps.length := by omega
  have hr : ∀ z, z < ps.length → 0 ≤ ls.getD z 0 ∧ ls.getD z 0 ≤ 99 := fun z hz => JJ (h2.1 _ (getD_mem (by omega)))
  refine ⟨h1, ⟨t1, t2⟩, t4, hl, hr, by simpa using h3, fun x y => ?_⟩
  have := J8b hr x y
  omega
theorem J6O {ps ls : ZI} (h : tfB ps ls = true) : tfO ps ls = List.replicate ps.length 0 ∧ tfD ps ls = tfM ps ls ∧ tfQ ps ls = true ∧ J0 (tfO ps ls) (tfD ps ls) = true := by
  have e1 : tfO ps ls = List.replicate ps.length 0 := by unfold tfO; rw [if_pos h]
  have e2 : tfD ps ls = tfM ps ls := by unfold tfD; rw [if_pos h]
  rw [e1, e2]
  have h2 := (Bool.and_eq_true _ _ ▸ (show (tfQ ps ls && J0 (List.replicate ps.length 0) (tfM ps ls)) = true from h) : _ ∧ _)
  exact ⟨rfl, rfl, h2.1, h2.2⟩
theorem J2R {ps ls : ZI} (h : tfB ps ls = false) : tfO ps ls = [] ∧ tfD ps ls = [] := by
  unfold tfO tfD
  rw [h]
  exact ⟨rfl, rfl⟩
theorem J7i {l : ZI} {i k : Nat} {v : Int} (h : k ≠ i) : (l.set i v).getD k 0 = l.getD k 0 := by
  simp only [List.getD_eq_getElem?_getD, List.getElem?_set_ne (Ne.symm h)]
theorem J3U {l : ZI} {i : Nat} {v : Int} (h : i < l.length) : (l.set i v).getD i 0 = v := by
  simp only [List.getD_eq_getElem?_getD, List.getElem?_set_self h, Option.getD_some]
theorem J8P (n k : Nat) : (List.replicate n (0 : Int)).getD k 0 = 0 := by
  simp only [List.getD_eq_getElem?_getD, List.getElem?_replicate]
  split <;> rfl
def J6a (f : FuncId) (ds : List D) : Orc := bif Nat.beq f 150 then J2Y ds else .no
def J6o (parents : ZI) (lengths : ZI) : Ann := .none
def J3j (parents : ZI) (lengths : ZI) : Prop :=
  (PC Try.prog 150 [.sl (.ints lengths), .int .i64 (parents.length : Int), .int .i64 99] (.one (.d (.bool (J3 lengths (parents.length : Int) 99))))) ∧ ((J3 lengths (parents.length : Int) 99) = true → (J3 lengths (parents.length : Int) 99) = true) ∧ (((J3 lengths (parents.length : Int) 99) = true → (0 : Int) ≤ 0)) ∧ (((J3 lengths (parents.length : Int) 99) = true → (0 : Int) < lengths.length)) ∧ ((J3 lengths (parents.length : Int) 99) = true → (J3 lengths (parents.length : Int) 99) = true) ∧ (((J3 lengths (parents.length : Int) 99) = true → 0 < lengths.length)) ∧ ((J3 lengths (parents.length : Int) 99) = true → (J3 lengths (parents.length : Int) 99) = true) ∧ (true = true) ∧ (((J3 lengths (parents.length : Int) 99) = true → (J3 lengths (parents.length : Int) 99) = true)) ∧ (((J3 lengths (parents.length : Int) 99) = false → true = true)) ∧ (((cond (J3 lengths (parents.length : Int) 99) ((lengths.getD 0 0) == 0) false) = (J3 lengths (parents.length : Int) 99 && (lengths.getD 0 0 == 0))))
theorem J5B (parents : ZI) (lengths : ZI) (hp : 0 < parents.length) (w_parents : (parents.length : Int) ≤ 9223372036854775807) (w_lengths : (lengths.length : Int) ≤ 9223372036854775807) : J3j parents lengths := by
  unfold J3j
  refine ⟨J2x lengths (parents.length : Int) 99, id, ?_, ?_, id, ?_, id, rfl, id, fun _ => rfl, ?_⟩
  ·intro hq
   have : lengths.length = parents.length := by
     unfold J3 at hq
     rw [Bool.and_eq_true, decide_eq_true_eq] at hq
     omega
   omega
  ·intro hq
   have : lengths.length = parents.length := by
     unfold J3 at hq
     rw [Bool.and_eq_true, decide_eq_true_eq] at hq
     omega
   omega
  ·intro hq
   have : lengths.length = parents.length := by
     unfold J3 at hq
     rw [Bool.and_eq_true, decide_eq_true_eq] at hq
     omega
   omega
  cases (J3 lengths (parents.length : Int) 99) <;> rfl
theorem J5o (parents : ZI) (lengths : ZI) (hp : 0 < parents.length) : PC Try.prog 147 [.sl (.ints parents), .sl (.ints lengths)] (.one (.d (.bool (J3 lengths (parents.length : Int) 99 && (lengths.getD 0 0 == 0))))) :=
  pc_wf @Try.call147 fun hw => pc_by (by kernel_rfl) Try.func147 @Try.call147 (by kernel_rfl) J6a (J6o parents lengths) (by kernel_rfl) (J5B parents lengths hp hw.1 hw.2.1) (by kernel_rfl)
def J53 : List D → Orc := orcN [some .ints, some .ints] fun ds => match ds with
  | [.sl (.ints parents), .sl (.ints lengths)] => some (.one (.d (.bool (J3 lengths (parents.length : Int) 99 && (lengths.getD 0 0 == 0)))))
  | _ => none
abbrev J16 (parents : ZI) (lengths : ZI) (x : Int) (op : ZI) (out : ZR) : Prop := (0 ≤ x ∧ x ≤ (parents.length : Int)) ∧ (op = List.replicate parents.length 0) ∧ (out = tabTo (fun k => tabTo (fun y9 => tdL parents lengths k y9) parents.length) x.toNat)
abbrev J0r (parents : ZI) (lengths : ZI) (x : Int) (op : ZI) (out : ZR) : Nat := (parents.length - x).toNat
abbrev J14 (parents : ZI) (lengths : ZI) (x : Int) (op : ZI) (out : ZR) (row : ZI) (y : Int) : Prop := (0 ≤ y ∧ y ≤ (parents.length : Int)) ∧ (row = tabTo (fun k => tdL parents lengths x.toNat k) y.toNat)
abbrev J0m (parents : ZI) (lengths : ZI) (x : Int) (op : ZI) (out : ZR) (row : ZI) (y : Int) : Nat := (parents.length - y).toNat
def J6u (f : FuncId) (ds : List D) : Orc := bif Nat.beq f 146 then J3B ds else bif Nat.beq f 147 then J53 ds else bif Nat.beq f 148 then J6r ds else bif Nat.beq f 115 then J6D ds else .no
def J6m (parents : ZI) (lengths : ZI) : Ann := .two (.none) (.two (.none) (.two (.none) (.two (.two (.none) (.loop (cut3 (fun (x : Int) (op : ZI) (out : ZR) => J16 parents lengths x op out) (fun (x : Int) (op : ZI) (out : ZR) => [(0, .d false (.sl (.ints parents))), (1, .d false (.sl (.ints lengths))), (4, .ptr 4 0), (6, .ptr 6 0), (7, .d true (.int .i64 x))]) (fun (x : Int) (op : ZI) (out : ZR) => [(4, .box 39 [.d true (.nil), .d true (.nil)]), (1000001, .arr true 3 (.ints op)), (1000002, .mat 3 26 out none), (6, .box 39 [.own 1000001 op.length, .own 1000002 out.length])])) (fun g => J0r parents lengths g.1 g.2.1 g.2.2) (fun g => (fun (x : Int) (op : ZI) (out : ZR) => .two (.none) (.two (.two (.none) (.two (.two (.none) (.loop (cut2 (fun (row : ZI) (y : Int) => J14 parents lengths x op out row y) (fun (row : ZI) (y : Int) => [(0, .d false (.sl (.ints parents))), (1, .d false (.sl (.ints lengths))), (4, .ptr 4 0), (6, .ptr 6 0), (7, .d true (.int .i64 x)), (8, .own 1000100 row.length), (9, .d true (.int .i64 y))]) (fun (row : ZI) (y : Int) => [(1000100, .arr true 3 (.ints row)), (4, .box 39 [.d true (.nil), .d true (.nil)]), (6, .box 39 [.own 1000001 op.length, .own 1000002 out.length]), (1000001, .arr true 3 (.ints op)), (1000002, .mat 3 26 out none)])) (fun g => J0m parents lengths x op out g.1 g.2) (fun _ => .none))) (.none))) (.none))) (g.1) (g.2.1) (g.2.2)))) (.none))))
def J3k (parents : ZI) (lengths : ZI) : Prop :=
  (PC Try.prog 146 [.sl (.ints parents)] (.one (.d (.bool (J2 parents))))) ∧ ((!(!(J2 parents))) = true → (!(!(J2 parents))) = true) ∧ ((!(!(J2 parents))) = true → (!(!(J2 parents))) = true) ∧ ((!(!(J2 parents))) = true → PC Try.prog 147 [.sl (.ints parents), .sl (.ints lengths)] (.one (.d (.bool (J3 lengths (parents.length : Int) 99 && (lengths.getD 0 0 == 0)))))) ∧ ((!(!(J2 parents))) = true → (!(!(J2 parents))) = true) ∧ (true = true) ∧ (((!(J2 parents)) = true → true = true)) ∧ (((!(J2 parents)) = false → (!(!(J2 parents))) = true)) ∧ (((cond (!(J2 parents)) true (!(J3 lengths (parents.length : Int) 99 && (lengths.getD 0 0 == 0)))) = true → (((tfO parents lengths).length = 0) ∧ ((tfD parents lengths).length = 0) ∧ (false = (tfB parents lengths)))) ∧ ((cond (!(J2 parents)) true (!(J3 lengths (parents.length : Int) 99 && (lengths.getD 0 0 == 0)))) = false → ((parents.length : Int) = (parents.length : Int)) ∧ ((0 : Int) ≤ (parents.length : Int)) ∧ (((parents.length : Int) : Int) * ((8 : Nat) : Int) ≤ 140737488355328) ∧ ((∃ x' : Int, ∃ op' : ZI, ∃ out' : ZR, (J16 parents lengths x' op' out') ∧ (parents = parents) ∧ (lengths = lengths) ∧ ((0 : Int) = x') ∧ ((List.replicate ((parents.length : Int).toNat) (0 : Int)) = op') ∧ ((0 : Nat) = 0) ∧ ((out').length = 0) ∧ ((parents.length : Int).toNat = op'.length) ∧ ((0 : Nat) = out'.length)) ∧ (∀ x : Int, ∀ op : ZI, ∀ out : ZR, (J16 parents lengths x op out) → (((decide (x < (parents.length : Int))) = true → ((∃ row' : ZI, ∃ y' : Int, (J14 parents lengths x op out row' y') ∧ (parents = parents) ∧ (lengths = lengths) ∧ (x = x) ∧ ((0 : Nat) = row'.length) ∧ ((0 : Int) = y') ∧ ([] = row') ∧ (op.length = op.length) ∧ (out.length = out.length) ∧ (op = op) ∧ (out = out)) ∧ (∀ row : ZI, ∀ y : Int, (J14 parents lengths x op out row y) → (((decide (y < (parents.length : Int))) = true → (PC Try.prog 148 [.sl (.ints parents), .sl (.ints lengths), .int .i64 x, .int .i64 y] (.one (.d (.int .i64 (tdL parents lengths x.toNat y.toNat))))) ∧ (row.length = row.length) ∧ ((1 : Nat) = 1) ∧ ((row.length + 1) * 8 ≤ 140737488355328) ∧ (I6 (y + 1)) ∧ (∃ row' : ZI, ∃ y' : Int, (J14 parents lengths x op out row' y') ∧ (J0m parents lengths x op out row' y' < J0m parents lengths x op out row y) ∧ (parents = parents) ∧ (lengths = lengths) ∧ (x = x) ∧ ((row.length + 1) = row'.length) ∧ ((y + 1) = y') ∧ ((row ++ [(tdL parents lengths x.toNat y.toNat)]) = row') ∧ (op.length = op.length) ∧ (out.length = out.length) ∧ (op = op) ∧ (out = out))) ∧ ((decide (y < (parents.length : Int))) = false → (row.length = row.length) ∧ (out.length = out.length) ∧ ((1 : Nat) = 1) ∧ (0 < 1) ∧ ((out.length + 1) * 24 ≤ 140737488355328) ∧ (I6 (x + 1)) ∧ (∃ x' : Int, ∃ op' : ZI, ∃ out' : ZR, (J16 parents lengths x' op' out') ∧ (J0r parents lengths x' op' out' < J0r parents lengths x op out) ∧ (parents = parents) ∧ (lengths = lengths) ∧ ((x + 1) = x') ∧ (op = op') ∧ ((out ++ [row]) = out') ∧ (op.length = op'.length) ∧ ((out.length + 1) = out'.length))))))) ∧ ((decide (x < (parents.length : Int))) = false → (op.length = op.length) ∧ (out.length = out.length) ∧ (PC Try.prog 115 [.agg [.sl (.ints op), .sl (.rows out)]] (.one (.d (.bool (J0 op out))))) ∧ (((!(J0 op out)) = true → (((tfO parents lengths).length = 0) ∧ ((tfD parents lengths).length = 0) ∧ (false = (tfB parents lengths)))) ∧ ((!(J0 op out)) = false → ((op.length = op.length) ∧ (out.length = out.length) ∧ ((.agg [.sl (.ints op), .sl (.rows out)] : D) = .agg [.sl (.ints (tfO parents lengths)), .sl (.rows (tfD parents lengths))]) ∧ (true = (tfB parents lengths)))))))))))
theorem J5n (parents : ZI) (lengths : ZI)  (w_parents : (parents.length : Int) ≤ 9223372036854775807) (w_lengths : (lengths.length : Int) ≤ 9223372036854775807) : J3k parents lengths := by
  unfold J3k
  refine ⟨J4k parents, id, id, ?_, id, rfl, fun _ => rfl, ?_, ?_, ?_⟩
  ·intro hg
   refine J5o parents lengths ?_
   ·have ht9 : J2 parents = true := by simpa using hg
    obtain ⟨t1, _⟩ := J4 ht9; omega
  ·intro h; rw [h]; rfl
  ·intro b1
   refine ⟨?_, ?_, ?_⟩
   ·have hq : tfQ parents lengths = false := by
      unfold tfQ
      revert b1; generalize lengths.getD 0 0 = v; cases J2 parents <;> cases (J3 lengths (parents.length : Int) 99) <;> by_cases e2 : v = 0 <;> simp [e2]
    have hB : tfB parents lengths = false := by unfold tfB; rw [hq]; rfl
    rw [(J2R hB).1]; rfl
   ·have hq : tfQ parents lengths = false := by
      unfold tfQ
      revert b1; generalize lengths.getD 0 0 = v; cases J2 parents <;> cases (J3 lengths (parents.length : Int) 99) <;> by_cases e2 : v = 0 <;> simp [e2]
    have hB : tfB parents lengths = false := by unfold tfB; rw [hq]; rfl
    rw [(J2R hB).2]; rfl
   have hq : tfQ parents lengths = false := by
     unfold tfQ
     revert b1; generalize lengths.getD 0 0 = v; cases J2 parents <;> cases (J3 lengths (parents.length : Int) 99) <;> by_cases e2 : v = 0 <;> simp [e2]
   have hB : tfB parents lengths = false := by unfold tfB; rw [hq]; rfl
   exact hB.symm
  intro b2
  refine ⟨rfl, ?_, ?_, ?_, ?_⟩
  ·first | omega | rfl | (intro hg; simp only [nrmT] at hg; omega) | (intro g1 g2; simp [g1, g2]; done) | (intro g1; simp at g1 ⊢; simp [g1]; done) | (simp only [nrmT] at *; omega) | (simp at * <;> omega) | (simp_all <;> omega) | (simp_all; done)
  ·have hq : tfQ parents lengths = true := by
     unfold tfQ
     revert b2; generalize lengths.getD 0 0 = v; cases J2 parents <;> cases (J3 lengths (parents.length : Int) 99) <;> by_cases e2 : v = 0 <;> simp [e2]
   obtain ⟨q1, q2, t4, q3, hr, q5, hb⟩ := Jc hq
   omega
  ·refine ⟨0, (List.replicate ((parents.length : Int).toNat) (0 : Int)), ([]), ?_⟩
   refine ⟨?_, rfl, rfl, rfl, rfl, rfl, ?_, ?_, rfl⟩
   ·refine ⟨?_, ?_, ?_⟩
    ·first | omega | rfl | (intro hg; simp only [nrmT] at hg; omega) | (intro g1 g2; simp [g1, g2]; done) | (intro g1; simp at g1 ⊢; simp [g1]; done) | (simp only [nrmT] at *; omega) | (simp at * <;> omega) | (simp_all <;> omega) | (simp_all; done)
    ·rw [Int.toNat_natCast]
    ·rfl
   ·first | omega | rfl | (intro hg; simp only [nrmT] at hg; omega) | (intro g1 g2; simp [g1, g2]; done) | (intro g1; simp at g1 ⊢; simp [g1]; done) | (simp only [nrmT] at *; omega) | (simp at * <;> omega) | (simp_all <;> omega) | (simp_all; done)
   first | omega | rfl | (intro hg; simp only [nrmT] at hg; omega) | (intro g1 g2; simp [g1, g2]; done) | (intro g1; simp at g1 ⊢; simp [g1]; done) | (simp only [nrmT] at *; omega) | (simp at * <;> omega) | (simp_all <;> omega) | (simp_all; done)
  intro x op out hJ
  obtain ⟨h1, h2, h3⟩ := hJ
  refine ⟨?_, ?_⟩
  ·intro b3
   try simp only [nrmT] at b3
   refine ⟨?_, ?_⟩
   ·refine ⟨([]), 0, ?_⟩
    refine ⟨?_, rfl, rfl, rfl, rfl, rfl, ?_, rfl, rfl, rfl, rfl⟩
    ·refine ⟨?_, ?_⟩
     ·first | omega | rfl | (intro hg; simp only [nrmT] at hg; omega) | (intro g1 g2; simp [g1, g2]; done) | (intro g1; simp at g1 ⊢; simp [g1]; done) | (simp only [nrmT] at *; omega) | (simp at * <;> omega) | (simp_all <;> omega) | (simp_all; done)
     ·rfl
    first | omega | rfl | (intro hg; simp only [nrmT] at hg; omega) | (intro g1 g2; simp [g1, g2]; done) | (intro g1; simp at g1 ⊢; simp [g1]; done) | (simp only [nrmT] at *; omega) | (simp at * <;> omega) | (simp_all <;> omega) | (simp_all; done)
   intro row y hJ
   obtain ⟨h4, h5⟩ := hJ
   refine ⟨?_, ?_⟩
   ·intro b4
    try simp only [nrmT] at b4
    refine ⟨?_, rfl, rfl, ?_, ?_, ?_⟩
    ·refine J6J parents lengths x y ?_ ?_ ?_ ?_ ?_
     ·have hq : tfQ parents lengths = true := by
        unfold tfQ
        revert b2; generalize lengths.getD 0 0 = v; cases J2 parents <;> cases (J3 lengths (parents.length : Int) 99) <;> by_cases e2 : v = 0 <;> simp [e2]
      obtain ⟨q1, q2, t4, q3, hr, q5, hb⟩ := Jc hq
      exact q1
     ·have hq : tfQ parents lengths = true := by
        unfold tfQ
        revert b2; generalize lengths.getD 0 0 = v; cases J2 parents <;> cases (J3 lengths (parents.length : Int) 99) <;> by_cases e2 : v = 0 <;> simp [e2]
      obtain ⟨q1, q2, t4, q3, hr, q5, hb⟩ := Jc hq
      exact q3
     ·have hq : tfQ parents lengths = true := by
        unfold tfQ
        revert b2; generalize lengths.getD 0 0 = v; cases J2 parents <;> cases (J3 lengths (parents.length : Int) 99) <;> by_cases e2 : v = 0 <;> simp [e2]
      obtain ⟨q1, q2, t4, q3, hr, q5, hb⟩ := Jc hq
      exact hr
     ·first | omega | rfl | (intro hg; simp only [nrmT] at hg; omega) | (intro g1 g2; simp [g1, g2]; done) | (intro g1; simp at g1 ⊢; simp [g1]; done) | (simp only [nrmT] at *; omega) | (simp at * <;> omega) | (simp_all <;> omega) | (simp_all; done)
     ·first | omega | rfl | (intro hg; simp only [nrmT] at hg; omega) | (intro g1 g2; simp [g1, g2]; done) | (intro g1; simp at g1 ⊢; simp [g1]; done) | (simp only [nrmT] at *; omega) | (simp at * <;> omega) | (simp_all <;> omega) | (simp_all; done)
    ·have hq : tfQ parents lengths = true := by
       unfold tfQ
       revert b2; generalize lengths.getD 0 0 = v; cases J2 parents <;> cases (J3 lengths (parents.length : Int) 99) <;> by_cases e2 : v = 0 <;> simp [e2]
     obtain ⟨q1, q2, t4, q3, hr, q5, hb⟩ := Jc hq
     rw [h5, tabTo_len]; omega
    ·first | omega | rfl | (intro hg; simp only [nrmT] at hg; omega) | (intro g1 g2; simp [g1, g2]; done) | (intro g1; simp at g1 ⊢; simp [g1]; done) | (simp only [nrmT] at *; omega) | (simp at * <;> omega) | (simp_all <;> omega) | (simp_all; done)
    refine ⟨(row ++ [(tdL parents lengths x.toNat y.toNat)]), (y + 1), ?_⟩
    refine ⟨?_, ?_, rfl, rfl, rfl, ?_, rfl, rfl, rfl, rfl, rfl, rfl⟩
    ·refine ⟨?_, ?_⟩
     ·first | omega | rfl | (intro hg; simp only [nrmT] at hg; omega) | (intro g1 g2; simp [g1, g2]; done) | (intro g1; simp at g1 ⊢; simp [g1]; done) | (simp only [nrmT] at *; omega) | (simp at * <;> omega) | (simp_all <;> omega) | (simp_all; done)
     ·rw [show (y + 1).toNat = y.toNat + 1 by omega, tabTo_succ, ← h5]
    ·first | (show _ < _; omega) | (simp only [J0m]; omega) | (simp only [J0m] at *; simp at *; omega)
    simp
   intro b5
   try simp only [nrmT] at b5
   refine ⟨rfl, rfl, rfl, by decide, ?_, ?_, ?_⟩
   ·have hq : tfQ parents lengths = true := by
      unfold tfQ
      revert b2; generalize lengths.getD 0 0 = v; cases J2 parents <;> cases (J3 lengths (parents.length : Int) 99) <;> by_cases e2 : v = 0 <;> simp [e2]
    obtain ⟨q1, q2, t4, q3, hr, q5, hb⟩ := Jc hq
    rw [h3, tabTo_len]; omega
   ·first | omega | rfl | (intro hg; simp only [nrmT] at hg; omega) | (intro g1 g2; simp [g1, g2]; done) | (intro g1; simp at g1 ⊢; simp [g1]; done) | (simp only [nrmT] at *; omega) | (simp at * <;> omega) | (simp_all <;> omega) | (simp_all; done)
   refine ⟨(x + 1), op, (out ++ [row]), ?_⟩
   refine ⟨?_, ?_, rfl, rfl, rfl, rfl, rfl, rfl, ?_⟩
   ·refine ⟨?_, ?_, ?_⟩
    ·first | omega | rfl | (intro hg; simp only [nrmT] at hg; omega) | (intro g1 g2; simp [g1, g2]; done) | (intro g1; simp at g1 ⊢; simp [g1]; done) | (simp only [nrmT] at *; omega) | (simp at * <;> omega) | (simp_all <;> omega) | (simp_all; done)
    ·first | omega | rfl | (intro hg; simp only [nrmT] at hg; omega) | (intro g1 g2; simp [g1, g2]; done) | (intro g1; simp at g1 ⊢; simp [g1]; done) | (simp only [nrmT] at *; omega) | (simp at * <;> omega) | (simp_all <;> omega) | (simp_all; done)
    ·rw [show (x + 1).toNat = x.toNat + 1 by omega, tabTo_succ, ← h3, h5, show y.toNat = parents.length by omega]
   ·first | (show _ < _; omega) | (simp only [J0r]; omega) | (simp only [J0r] at *; simp at *; omega)
   simp
  intro b6
  try simp only [nrmT] at b6
  refine ⟨rfl, rfl, J78 op out, ?_, ?_⟩
  ·intro b7
   try simp only [nrmT] at b7
   refine ⟨?_, ?_, ?_⟩
   ·have hq : tfQ parents lengths = true := by
      unfold tfQ
      revert b2; generalize lengths.getD 0 0 = v; cases J2 parents <;> cases (J3 lengths (parents.length : Int) 99) <;> by_cases e2 : v = 0 <;> simp [e2]
    obtain ⟨q1, q2, t4, q3, hr, q5, hb⟩ := Jc hq
    have eO : out = tfM parents lengths := by rw [h3, show x.toNat = parents.length by omega]; rfl
    have hB0 : tfB parents lengths = J0 op out := by unfold tfB; rw [hq, Bool.true_and, h2, eO]
    have hB : tfB parents lengths = false := by rw [hB0]; simpa using b7
    rw [(J2R hB).1]; rfl
   ·have hq : tfQ parents lengths = true := by
      unfold tfQ
      revert b2; generalize lengths.getD 0 0 = v; cases J2 parents <;> cases (J3 lengths (parents.length : Int) 99) <;> by_cases e2 : v = 0 <;> simp [e2]
    obtain ⟨q1, q2, t4, q3, hr, q5, hb⟩ := Jc hq
    have eO : out = tfM parents lengths := by rw [h3, show x.toNat = parents.length by omega]; rfl
    have hB0 : tfB parents lengths = J0 op out := by unfold tfB; rw [hq, Bool.true_and, h2, eO]
    have hB : tfB parents lengths = false := by rw [hB0]; simpa using b7
    rw [(J2R hB).2]; rfl
   have hq : tfQ parents lengths = true := by
     unfold tfQ
     revert b2; generalize lengths.getD 0 0 = v; cases J2 parents <;> cases (J3 lengths (parents.length : Int) 99) <;> by_cases e2 : v = 0 <;> simp [e2]
   obtain ⟨q1, q2, t4, q3, hr, q5, hb⟩ := Jc hq
   have eO : out = tfM parents lengths := by rw [h3, show x.toNat = parents.length by omega]; rfl
   have hB0 : tfB parents lengths = J0 op out := by unfold tfB; rw [hq, Bool.true_and, h2, eO]
   have hB : tfB parents lengths = false := by rw [hB0]; simpa using b7
   exact hB.symm
  intro b8
  try simp only [nrmT] at b8
  refine ⟨rfl, rfl, ?_, ?_⟩
  ·have hq : tfQ parents lengths = true := by
     unfold tfQ
     revert b2; generalize lengths.getD 0 0 = v; cases J2 parents <;> cases (J3 lengths (parents.length : Int) 99) <;> by_cases e2 : v = 0 <;> simp [e2]
   obtain ⟨q1, q2, t4, q3, hr, q5, hb⟩ := Jc hq
   have eO : out = tfM parents lengths := by rw [h3, show x.toNat = parents.length by omega]; rfl
   have hB0 : tfB parents lengths = J0 op out := by unfold tfB; rw [hq, Bool.true_and, h2, eO]
   have hB : tfB parents lengths = true := by rw [hB0]; simpa using b8
   obtain ⟨y1, y2, _⟩ := J6O hB
   rw [y1, y2, h2, eO]
  have hq : tfQ parents lengths = true := by
    unfold tfQ
    revert b2; generalize lengths.getD 0 0 = v; cases J2 parents <;> cases (J3 lengths (parents.length : Int) 99) <;> by_cases e2 : v = 0 <;> simp [e2]
  obtain ⟨q1, q2, t4, q3, hr, q5, hb⟩ := Jc hq
  have eO : out = tfM parents lengths := by rw [h3, show x.toNat = parents.length by omega]; rfl
  have hB0 : tfB parents lengths = J0 op out := by unfold tfB; rw [hq, Bool.true_and, h2, eO]
  have hB : tfB parents lengths = true := by rw [hB0]; simpa using b8
  exact hB.symm
theorem J5C (parents : ZI) (lengths : ZI)  : PC Try.prog 53 [.sl (.ints parents), .sl (.ints lengths)] (.tup [.d (.agg [.sl (.ints (tfO parents lengths)), .sl (.rows (tfD parents lengths))]), .d (.bool (tfB parents lengths))]) :=
  pc_wf @Try.call53 fun hw => pc_by (by kernel_rfl) Try.func53 @Try.call53 (by kernel_rfl) J6u (J6m parents lengths) (by kernel_rfl) (J5n parents lengths hw.1 hw.2.1) (by kernel_rfl)
def J59 : List D → Orc := orcN [some .ints, some .ints] fun ds => match ds with
  | [.sl (.ints parents), .sl (.ints lengths)] => some (.tup [.d (.agg [.sl (.ints (tfO parents lengths)), .sl (.rows (tfD parents lengths))]), .d (.bool (tfB parents lengths))])
  | _ => none
abbrev J11 (parents : ZI) (lengths : ZI) (i : Int) (op : ZI) (out : ZR) : Prop := (0 ≤ i ∧ i ≤ (parents.length : Int)) ∧ (op = List.replicate parents.length 0) ∧ (out = tabTo (fun k => tabTo (fun y9 => tdL parents lengths k y9) parents.length) i.toNat)
abbrev J0u (parents : ZI) (lengths : ZI) (i : Int) (op : ZI) (out : ZR) : Nat := (parents.length - i).toNat
abbrev J13 (parents : ZI) (lengths : ZI) (i : Int) (op : ZI) (out : ZR) (list : ZI) (a : Int) : Prop := (0 ≤ a ∧ a ≤ (parents.length : Int)) ∧ (list.length = parents.length) ∧ (∀ k, k < parents.length → list.getD k 0 = if k < a.toNat then tdL parents lengths i.toNat k else 0)
abbrev J0t (parents : ZI) (lengths : ZI) (i : Int) (op : ZI) (out : ZR) (list : ZI) (a : Int) : Nat := (parents.length - a).toNat
abbrev J0q (parents : ZI) (lengths : ZI) (i : Int) (op : ZI) (out : ZR) (list : ZI) (a : Int) (list2 : ZI) (u : Int) (v : Int) : Prop := (0 ≤ u ∧ u < (parents.length : Int)) ∧ (0 ≤ v ∧ v < (parents.length : Int)) ∧ (list2.length = parents.length) ∧ (∀ k, k < parents.length → k ≠ a.toNat → list2.getD k 0 = list.getD k 0) ∧ (0 ≤ list2.getD a.toNat 0) ∧ (list2.getD a.toNat 0 + tdL parents lengths u.toNat v.toNat = tdL parents lengths i.toNat a.toNat)
abbrev J0w (parents : ZI) (lengths : ZI) (i : Int) (op : ZI) (out : ZR) (list : ZI) (a : Int) (list2 : ZI) (u : Int) (v : Int) : Nat := (u + v).toNat
def J6f (f : FuncId) (ds : List D) : Orc := bif Nat.beq f 145 then J2J ds else bif Nat.beq f 131 then J0O ds else bif Nat.beq f 119 then J1w ds else .no
def J6i (parents : ZI) (lengths : ZI) : Ann := .two (.none) (.two (.none) (.two (.none) (.two (.none) (.two (.two (.none) (.loop (cut3 (fun (i : Int) (op : ZI) (out : ZR) => J11 parents lengths i op out) (fun (i : Int) (op : ZI) (out : ZR) => [(0, .d false (.sl (.ints parents))), (1, .d false (.sl (.ints lengths))), (4, .ptr 4 0), (6, .d true (.int .i64 (parents.length : Int))), (7, .ptr 7 0), (39, .d true (.int .i64 (parents.length : Int))), (40, .d true (.int .i64 i))]) (fun (i : Int) (op : ZI) (out : ZR) => [(4, .box 39 [.d true (.nil), .d true (.nil)]), (1000001, .arr true 3 (.ints op)), (1000002, .mat 3 26 out none), (7, .box 39 [.own 1000001 op.length, .own 1000002 out.length])])) (fun g => J0u parents lengths g.1 g.2.1 g.2.2) (fun g => (fun (i : Int) (op : ZI) (out : ZR) => .two (.none) (.two (.none) (.two (.two (.none) (.two (.none) (.two (.two (.none) (.loop (cut2 (fun (list : ZI) (a : Int) => J13 parents lengths i op out list a) (fun (list : ZI) (a : Int) => [(0, .d false (.sl (.ints parents))), (1, .d false (.sl (.ints lengths))), (4, .ptr 4 0), (6, .d true (.int .i64 (parents.length : Int))), (7, .ptr 7 0), (8, .d true (.int .i64 i)), (9, .own 44 list.length), (39, .d true (.int .i64 (parents.length : Int))), (40, .d true (.int .i64 i)), (45, .d true (.int .i64 (parents.length : Int))), (46, .d true (.int .i64 a))]) (fun (list : ZI) (a : Int) => [(44, .arr true 3 (.ints list)), (4, .box 39 [.d true (.nil), .d true (.nil)]), (7, .box 39 [.own 1000001 op.length, .own 1000002 out.length]), (1000001, .arr true 3 (.ints op)), (1000002, .mat 3 26 out none)])) (fun g => J0t parents lengths i op out g.1 g.2) (fun g => (fun (list : ZI) (a : Int) => .two (.none) (.two (.none) (.two (.two (.none) (.two (.none) (.loop (cut3 (fun (list2 : ZI) (u : Int) (v : Int) => J0q parents lengths i op out list a list2 u v) (fun (list2 : ZI) (u : Int) (v : Int) => [(0, .d false (.sl (.ints parents))), (1, .d false (.sl (.ints lengths))), (4, .ptr 4 0), (6, .d true (.int .i64 (parents.length : Int))), (7, .ptr 7 0), (8, .d true (.int .i64 i)), (9, .own 44 list2.length), (10, .d true (.int .i64 a)), (11, .d true (.int .i64 u)), (12, .d true (.int .i64 v)), (39, .d true (.int .i64 (parents.length : Int))), (40, .d true (.int .i64 i)), (45, .d true (.int .i64 (parents.length : Int))), (46, .d true (.int .i64 a))]) (fun (list2 : ZI) (u : Int) (v : Int) => [(44, .arr true 3 (.ints list2)), (4, .box 39 [.d true (.nil), .d true (.nil)]), (7, .box 39 [.own 1000001 op.length, .own 1000002 out.length]), (1000001, .arr true 3 (.ints op)), (1000002, .mat 3 26 out none)])) (fun g => J0w parents lengths i op out list a g.1 g.2.1 g.2.2) (fun _ => .none)))) (.none)))) (g.1) (g.2)))) (.none)))) (.none)))) (g.1) (g.2.1) (g.2.2)))) (.none)))))
def JC (parents : ZI) (lengths : ZI) : Bool := (cond (!(J2 parents)) true ((lengths.length : Int) != (parents.length : Int)))
def Jj (parents : ZI) (lengths : ZI) : Bool := (cond (JC parents lengths) true (!(lengths.all (fun x => inB x 0 99))))
def J3l (parents : ZI) (lengths : ZI) : Prop :=
  (PC Try.prog 145 [.sl (.ints parents)] (.one (.d (.bool (J2 parents))))) ∧ ((!(!(J2 parents))) = true → (!(!(J2 parents))) = true) ∧ ((!(!(J2 parents))) = true → (!(!(J2 parents))) = true) ∧ ((!(!(J2 parents))) = true → (!(!(J2 parents))) = true) ∧ (true = true) ∧ (((!(J2 parents)) = true → true = true)) ∧ (((!(J2 parents)) = false → (!(!(J2 parents))) = true)) ∧ ((!(JC parents lengths)) = true → (!(JC parents lengths)) = true) ∧ ((!(JC parents lengths)) = true → PC Try.prog 131 [.sl (.ints lengths), .int .i64 0, .int .i64 99] (.one (.d (.bool (lengths.all (fun x => inB x 0 99)))))) ∧ ((!(JC parents lengths)) = true → (!(JC parents lengths)) = true) ∧ (true = true) ∧ (((JC parents lengths) = true → true = true)) ∧ (((JC parents lengths) = false → (!(JC parents lengths)) = true)) ∧ ((!(Jj parents lengths)) = true → (!(Jj parents lengths)) = true) ∧ (((!(Jj parents lengths)) = true → (0 : Int) ≤ 0)) ∧ (((!(Jj parents lengths)) = true → (0 : Int) < lengths.length)) ∧ ((!(Jj parents lengths)) = true → (!(Jj parents lengths)) = true) ∧ (((!(Jj parents lengths)) = true → 0 < lengths.length)) ∧ ((!(Jj parents lengths)) = true → (!(Jj parents lengths)) = true) ∧ (true = true) ∧ (((Jj parents lengths) = true → true = true)) ∧ (((Jj parents lengths) = false → (!(Jj parents lengths)) = true)) ∧ (((cond (Jj parents lengths) true ((lengths.getD 0 0) != 0)) = true → (((tfO parents lengths).length = 0) ∧ ((tfD parents lengths).length = 0) ∧ (false = (tfB parents lengths)))) ∧ ((cond (Jj parents lengths) true ((lengths.getD 0 0) != 0)) = false → ((parents.length : Int) = (parents.length : Int)) ∧ ((0 : Int) ≤ (parents.length : Int)) ∧ (((parents.length : Int) : Int) * ((8 : Nat) : Int) ≤ 140737488355328) ∧ ((∃ i' : Int, ∃ op' : ZI, ∃ out' : ZR, (J11 parents lengths i' op' out') ∧ (parents = parents) ∧ (lengths = lengths) ∧ ((parents.length : Int) = (parents.length : Int)) ∧ ((parents.length : Int) = (parents.length : Int)) ∧ ((0 : Int) = i') ∧ ((List.replicate ((parents.length : Int).toNat) (0 : Int)) = op') ∧ ((out').length = 0) ∧ ((parents.length : Int).toNat = op'.length) ∧ ((0 : Nat) = out'.length)) ∧ (∀ i : Int, ∀ op : ZI, ∀ out : ZR, (J11 parents lengths i op out) → (((decide (i < (parents.length : Int))) = true → ((parents.length : Int) = (parents.length : Int)) ∧ ((0 : Int) ≤ (parents.length : Int)) ∧ (((parents.length : Int) : Int) * ((8 : Nat) : Int) ≤ 140737488355328) ∧ ((∃ list' : ZI, ∃ a' : Int, (J13 parents lengths i op out list' a') ∧ (parents = parents) ∧ (lengths = lengths) ∧ ((parents.length : Int) = (parents.length : Int)) ∧ (i = i) ∧ ((parents.length : Int).toNat = list'.length) ∧ ((parents.length : Int) = (parents.length : Int)) ∧ (i = i) ∧ ((parents.length : Int) = (parents.length : Int)) ∧ ((0 : Int) = a') ∧ ((List.replicate ((parents.length : Int).toNat) (0 : Int)) = list') ∧ (op.length = op.length) ∧ (out.length = out.length) ∧ (op = op) ∧ (out = out)) ∧ (∀ list : ZI, ∀ a : Int, (J13 parents lengths i op out list a) → (((decide (a < (parents.length : Int))) = true → ((∃ list2' : ZI, ∃ u' : Int, ∃ v' : Int, (J0q parents lengths i op out list a list2' u' v') ∧ (parents = parents) ∧ (lengths = lengths) ∧ ((parents.length : Int) = (parents.length : Int)) ∧ (i = i) ∧ (list.length = list2'.length) ∧ (a = a) ∧ (i = u') ∧ (a = v') ∧ ((parents.length : Int) = (parents.length : Int)) ∧ (i = i) ∧ ((parents.length : Int) = (parents.length : Int)) ∧ (a = a) ∧ (list = list2') ∧ (op.length = op.length) ∧ (out.length = out.length) ∧ (op = op) ∧ (out = out)) ∧ (∀ list2 : ZI, ∀ u : Int, ∀ v : Int, (J0q parents lengths i op out list a list2 u v) → (((u != v) = true → (((decide (u > v)) = true → (true = true) ∧ ((0 : Int) ≤ a) ∧ ((a : Int) < (list2.length : Int)) ∧ (a.toNat < list2.length) ∧ ((0 : Int) ≤ u) ∧ ((u : Int) < lengths.length) ∧ (u.toNat < lengths.length) ∧ (I6 ((list2.getD a.toNat 0) + (lengths.getD u.toNat 0))) ∧ ((0 : Int) ≤ a) ∧ ((a : Int) < (list2.length : Int)) ∧ (a.toNat < list2.length) ∧ ((0 : Int) ≤ u) ∧ ((u : Int) < parents.length) ∧ (u.toNat < parents.length) ∧ (∃ list2' : ZI, ∃ u' : Int, ∃ v' : Int, (J0q parents lengths i op out list a list2' u' v') ∧ (J0w parents lengths i op out list a list2' u' v' < J0w parents lengths i op out list a list2 u v) ∧ (parents = parents) ∧ (lengths = lengths) ∧ ((parents.length : Int) = (parents.length : Int)) ∧ (i = i) ∧ (list2.length = list2'.length) ∧ (a = a) ∧ ((parents.getD u.toNat 0) = u') ∧ (v = v') ∧ ((parents.length : Int) = (parents.length : Int)) ∧ (i = i) ∧ ((parents.length : Int) = (parents.length : Int)) ∧ (a = a) ∧ ((list2.set a.toNat ((list2.getD a.toNat 0) + (lengths.getD u.toNat 0))) = list2') ∧ (op.length = op.length) ∧ (out.length = out.length) ∧ (op = op) ∧ (out = out))) ∧ ((decide (u > v)) = false → (true = true) ∧ ((0 : Int) ≤ a) ∧ ((a : Int) < (list2.length : Int)) ∧ (a.toNat < list2.length) ∧ ((0 : Int) ≤ v) ∧ ((v : Int) < lengths.length) ∧ (v.toNat < lengths.length) ∧ (I6 ((list2.getD a.toNat 0) + (lengths.getD v.toNat 0))) ∧ ((0 : Int) ≤ a) ∧ ((a : Int) < (list2.length : Int)) ∧ (a.toNat < list2.length) ∧ ((0 : Int) ≤ v) ∧ ((v : Int) < parents.length) ∧ (v.toNat < parents.length) ∧ (∃ list2' : ZI, ∃ u' : Int, ∃ v' : Int, (J0q parents lengths i op out list a list2' u' v') ∧ (J0w parents lengths i op out list a list2' u' v' < J0w parents lengths i op out list a list2 u v) ∧ (parents = parents) ∧ (lengths = lengths) ∧ ((parents.length : Int) = (parents.length : Int)) ∧ (i = i) ∧ (list2.length = list2'.length) ∧ (a = a) ∧ (u = u') ∧ ((parents.getD v.toNat 0) = v') ∧ ((parents.length : Int) = (parents.length : Int)) ∧ (i = i) ∧ ((parents.length : Int) = (parents.length : Int)) ∧ (a = a) ∧ ((list2.set a.toNat ((list2.getD a.toNat 0) + (lengths.getD v.toNat 0))) = list2') ∧ (op.length = op.length) ∧ (out.length = out.length) ∧ (op = op) ∧ (out = out))))) ∧ ((u != v) = false → (I6 (a + 1)) ∧ (∃ list' : ZI, ∃ a' : Int, (J13 parents lengths i op out list' a') ∧ (J0t parents lengths i op out list' a' < J0t parents lengths i op out list a) ∧ (parents = parents) ∧ (lengths = lengths) ∧ ((parents.length : Int) = (parents.length : Int)) ∧ (i = i) ∧ (list2.length = list'.length) ∧ ((parents.length : Int) = (parents.length : Int)) ∧ (i = i) ∧ ((parents.length : Int) = (parents.length : Int)) ∧ ((a + 1) = a') ∧ (list2 = list') ∧ (op.length = op.length) ∧ (out.length = out.length) ∧ (op = op) ∧ (out = out))))))) ∧ ((decide (a < (parents.length : Int))) = false → (list.length = list.length) ∧ (out.length = out.length) ∧ ((1 : Nat) = 1) ∧ (0 < 1) ∧ ((out.length + 1) * 24 ≤ 140737488355328) ∧ (I6 (i + 1)) ∧ (∃ i' : Int, ∃ op' : ZI, ∃ out' : ZR, (J11 parents lengths i' op' out') ∧ (J0u parents lengths i' op' out' < J0u parents lengths i op out) ∧ (parents = parents) ∧ (lengths = lengths) ∧ ((parents.length : Int) = (parents.length : Int)) ∧ ((parents.length : Int) = (parents.length : Int)) ∧ ((i + 1) = i') ∧ (op = op') ∧ ((out ++ [list]) = out') ∧ (op.length = op'.length) ∧ ((out.length + 1) = out'.length))))))) ∧ ((decide (i < (parents.length : Int))) = false → (op.length = op.length) ∧ (out.length = out.length) ∧ (PC Try.prog 119 [.agg [.sl (.ints op), .sl (.rows out)]] (.one (.d (.bool (J0 op out))))) ∧ (((!(J0 op out)) = true → (((tfO parents lengths).length = 0) ∧ ((tfD parents lengths).length = 0) ∧ (false = (tfB parents lengths)))) ∧ ((!(J0 op out)) = false → ((op.length = op.length) ∧ (out.length = out.length) ∧ ((.agg [.sl (.ints op), .sl (.rows out)] : D) = .agg [.sl (.ints (tfO parents lengths)), .sl (.rows (tfD parents lengths))]) ∧ (true = (tfB parents lengths)))))))))))
theorem J5y (parents : ZI) (lengths : ZI)  (w_parents : (parents.length : Int) ≤ 9223372036854775807) (w_lengths : (lengths.length : Int) ≤ 9223372036854775807) : J3l parents lengths := by
  unfold J3l Jj JC
  refine ⟨J2V parents, id, id, id, rfl, fun _ => rfl, ?_, id, fun _ => J12 lengths 0 99, id, rfl, fun _ => rfl, ?_, id, ?_, ?_, id, ?_, id, rfl, fun _ => rfl, ?_, ?_, ?_⟩
  ·intro h; rw [h]; rfl
  ·intro h; rw [h]; rfl
  ·intro hg9
   have hx : J2 parents = true ∧ (lengths.length : Int) = (parents.length : Int) := by
     revert hg9; cases J2 parents <;> cases (lengths.all fun x => inB x 0 99) <;> by_cases e : (lengths.length : Int) = (parents.length : Int) <;> simp [e]
   obtain ⟨t1, _⟩ := J4 hx.1
   omega
  ·intro hg9
   have hx : J2 parents = true ∧ (lengths.length : Int) = (parents.length : Int) := by
     revert hg9; cases J2 parents <;> cases (lengths.all fun x => inB x 0 99) <;> by_cases e : (lengths.length : Int) = (parents.length : Int) <;> simp [e]
   obtain ⟨t1, _⟩ := J4 hx.1
   omega
  ·intro hg9
   have hx : J2 parents = true ∧ (lengths.length : Int) = (parents.length : Int) := by
     revert hg9; cases J2 parents <;> cases (lengths.all fun x => inB x 0 99) <;> by_cases e : (lengths.length : Int) = (parents.length : Int) <;> simp [e]
   obtain ⟨t1, _⟩ := J4 hx.1
   omega
  ·intro h; rw [h]; rfl
  ·intro b1
   refine ⟨?_, ?_, ?_⟩
   ·have hq : tfQ parents lengths = false := by
      unfold tfQ J3
      revert b1; generalize lengths.getD 0 0 = v; cases J2 parents <;> cases (lengths.all fun x => inB x 0 99) <;> by_cases e : (lengths.length : Int) = (parents.length : Int) <;> by_cases e2 : v = 0 <;> simp [e, e2]
    have hB : tfB parents lengths = false := by unfold tfB; rw [hq]; rfl
    rw [(J2R hB).1]; rfl
   ·have hq : tfQ parents lengths = false := by
      unfold tfQ J3
      revert b1; generalize lengths.getD 0 0 = v; cases J2 parents <;> cases (lengths.all fun x => inB x 0 99) <;> by_cases e : (lengths.length : Int) = (parents.length : Int) <;> by_cases e2 : v = 0 <;> simp [e, e2]
    have hB : tfB parents lengths = false := by unfold tfB; rw [hq]; rfl
    rw [(J2R hB).2]; rfl
   have hq : tfQ parents lengths = false := by
     unfold tfQ J3
     revert b1; generalize lengths.getD 0 0 = v; cases J2 parents <;> cases (lengths.all fun x => inB x 0 99) <;> by_cases e : (lengths.length : Int) = (parents.length : Int) <;> by_cases e2 : v = 0 <;> simp [e, e2]
   have hB : tfB parents lengths = false := by unfold tfB; rw [hq]; rfl
   exact hB.symm
  intro b2
  refine ⟨rfl, ?_, ?_, ?_, ?_⟩
  ·first | omega | rfl | (intro hg; simp only [nrmT] at hg; omega) | (intro g1 g2; simp [g1, g2]; done) | (intro g1; simp at g1 ⊢; simp [g1]; done) | (simp only [nrmT] at *; omega) | (simp at * <;> omega) | (simp_all <;> omega) | (simp_all; done)
  ·have hq : tfQ parents lengths = true := by
     unfold tfQ J3
     revert b2; generalize lengths.getD 0 0 = v; cases J2 parents <;> cases (lengths.all fun x => inB x 0 99) <;> by_cases e : (lengths.length : Int) = (parents.length : Int) <;> by_cases e2 : v = 0 <;> simp [e, e2]
   obtain ⟨q1, q2, t4, q3, hr, q5, hb⟩ := Jc hq
   omega
  ·refine ⟨0, (List.replicate ((parents.length : Int).toNat) (0 : Int)), ([]), ?_⟩
   refine ⟨?_, rfl, rfl, rfl, rfl, rfl, rfl, ?_, ?_, rfl⟩
   ·refine ⟨?_, ?_, ?_⟩
    ·first | omega | rfl | (intro hg; simp only [nrmT] at hg; omega) | (intro g1 g2; simp [g1, g2]; done) | (intro g1; simp at g1 ⊢; simp [g1]; done) | (simp only [nrmT] at *; omega) | (simp at * <;> omega) | (simp_all <;> omega) | (simp_all; done)
    ·rw [Int.toNat_natCast]
    ·rfl
   ·first | omega | rfl | (intro hg; simp only [nrmT] at hg; omega) | (intro g1 g2; simp [g1, g2]; done) | (intro g1; simp at g1 ⊢; simp [g1]; done) | (simp only [nrmT] at *; omega) | (simp at * <;> omega) | (simp_all <;> omega) | (simp_all; done)
   first | omega | rfl | (intro hg; simp only [nrmT] at hg; omega) | (intro g1 g2; simp [g1, g2]; done) | (intro g1; simp at g1 ⊢; simp [g1]; done) | (simp only [nrmT] at *; omega) | (simp at * <;> omega) | (simp_all <;> omega) | (simp_all; done)
  intro i op out hJ
  obtain ⟨h1, h2, h3⟩ := hJ
  refine ⟨?_, ?_⟩
  ·intro b3
   try simp only [nrmT] at b3
   refine ⟨rfl, ?_, ?_, ?_, ?_⟩
   ·first | omega | rfl | (intro hg; simp only [nrmT] at hg; omega) | (intro g1 g2; simp [g1, g2]; done) | (intro g1; simp at g1 ⊢; simp [g1]; done) | (simp only [nrmT] at *; omega) | (simp at * <;> omega) | (simp_all <;> omega) | (simp_all; done)
   ·have hq : tfQ parents lengths = true := by
      unfold tfQ J3
      revert b2; generalize lengths.getD 0 0 = v; cases J2 parents <;> cases (lengths.all fun x => inB x 0 99) <;> by_cases e : (lengths.length : Int) = (parents.length : Int) <;> by_cases e2 : v = 0 <;> simp [e, e2]
    obtain ⟨q1, q2, t4, q3, hr, q5, hb⟩ := Jc hq
    omega
   ·refine ⟨(List.replicate ((parents.length : Int).toNat) (0 : Int)), 0, ?_⟩
    refine ⟨?_, rfl, rfl, rfl, rfl, ?_, rfl, rfl, rfl, rfl, rfl, rfl, rfl, rfl, rfl⟩
    ·refine ⟨?_, ?_, ?_⟩
     ·first | omega | rfl | (intro hg; simp only [nrmT] at hg; omega) | (intro g1 g2; simp [g1, g2]; done) | (intro g1; simp at g1 ⊢; simp [g1]; done) | (simp only [nrmT] at *; omega) | (simp at * <;> omega) | (simp_all <;> omega) | (simp_all; done)
     ·rw [List.length_replicate]; omega
     ·intro k hk
      rw [J8P, if_neg (by omega)]
    first | omega | rfl | (intro hg; simp only [nrmT] at hg; omega) | (intro g1 g2; simp [g1, g2]; done) | (intro g1; simp at g1 ⊢; simp [g1]; done) | (simp only [nrmT] at *; omega) | (simp at * <;> omega) | (simp_all <;> omega) | (simp_all; done)
   intro list a hJ
   obtain ⟨h4, h5, h6⟩ := hJ
   refine ⟨?_, ?_⟩
   ·intro b4
    try simp only [nrmT] at b4
    refine ⟨?_, ?_⟩
    ·refine ⟨list, i, a, ?_⟩
     refine ⟨?_, rfl, rfl, rfl, rfl, rfl, rfl, rfl, rfl, rfl, rfl, rfl, rfl, rfl, rfl, rfl, rfl, rfl⟩
     ·refine ⟨?_, ?_, ?_, ?_, ?_, ?_⟩
      ·first | omega | rfl | (intro hg; simp only [nrmT] at hg; omega) | (intro g1 g2; simp [g1, g2]; done) | (intro g1; simp at g1 ⊢; simp [g1]; done) | (simp only [nrmT] at *; omega) | (simp at * <;> omega) | (simp_all <;> omega) | (simp_all; done)
      ·first | omega | rfl | (intro hg; simp only [nrmT] at hg; omega) | (intro g1 g2; simp [g1, g2]; done) | (intro g1; simp at g1 ⊢; simp [g1]; done) | (simp only [nrmT] at *; omega) | (simp at * <;> omega) | (simp_all <;> omega) | (simp_all; done)
      ·first | omega | rfl | (intro hg; simp only [nrmT] at hg; omega) | (intro g1 g2; simp [g1, g2]; done) | (intro g1; simp at g1 ⊢; simp [g1]; done) | (simp only [nrmT] at *; omega) | (simp at * <;> omega) | (simp_all <;> omega) | (simp_all; done)
      ·intro k _ _; rfl
      ·rw [h6 a.toNat (by omega), if_neg (Nat.lt_irrefl _)]; exact Int.le_refl _
      ·rw [h6 a.toNat (by omega), if_neg (Nat.lt_irrefl _), Int.zero_add]
    intro list2 u v hJ
    obtain ⟨h7, h8, h9, h10, h11, h12⟩ := hJ
    refine ⟨?_, ?_⟩
    ·intro b5
     try simp only [nrmT] at b5
     refine ⟨?_, ?_⟩
     ·intro b6
      try simp only [nrmT] at b6
      refine ⟨rfl, ?_, ?_, ?_, ?_, ?_, ?_, ?_, ?_, ?_, ?_, ?_, ?_, ?_, ?_⟩
      ·first | omega | rfl | (intro hg; simp only [nrmT] at hg; omega) | (intro g1 g2; simp [g1, g2]; done) | (intro g1; simp at g1 ⊢; simp [g1]; done) | (simp only [nrmT] at *; omega) | (simp at * <;> omega) | (simp_all <;> omega) | (simp_all; done)
      ·first | omega | rfl | (intro hg; simp only [nrmT] at hg; omega) | (intro g1 g2; simp [g1, g2]; done) | (intro g1; simp at g1 ⊢; simp [g1]; done) | (simp only [nrmT] at *; omega) | (simp at * <;> omega) | (simp_all <;> omega) | (simp_all; done)
      ·first | omega | rfl | (intro hg; simp only [nrmT] at hg; omega) | (intro g1 g2; simp [g1, g2]; done) | (intro g1; simp at g1 ⊢; simp [g1]; done) | (simp only [nrmT] at *; omega) | (simp at * <;> omega) | (simp_all <;> omega) | (simp_all; done)
      ·first | omega | rfl | (intro hg; simp only [nrmT] at hg; omega) | (intro g1 g2; simp [g1, g2]; done) | (intro g1; simp at g1 ⊢; simp [g1]; done) | (simp only [nrmT] at *; omega) | (simp at * <;> omega) | (simp_all <;> omega) | (simp_all; done)
      ·have hq : tfQ parents lengths = true := by
         unfold tfQ J3
         revert b2; generalize lengths.getD 0 0 = v; cases J2 parents <;> cases (lengths.all fun x => inB x 0 99) <;> by_cases e : (lengths.length : Int) = (parents.length : Int) <;> by_cases e2 : v = 0 <;> simp [e, e2]
       obtain ⟨q1, q2, t4, q3, hr, q5, hb⟩ := Jc hq
       omega
      ·have hq : tfQ parents lengths = true := by
         unfold tfQ J3
         revert b2; generalize lengths.getD 0 0 = v; cases J2 parents <;> cases (lengths.all fun x => inB x 0 99) <;> by_cases e : (lengths.length : Int) = (parents.length : Int) <;> by_cases e2 : v = 0 <;> simp [e, e2]
       obtain ⟨q1, q2, t4, q3, hr, q5, hb⟩ := Jc hq
       omega
      ·have hq : tfQ parents lengths = true := by
         unfold tfQ J3
         revert b2; generalize lengths.getD 0 0 = v; cases J2 parents <;> cases (lengths.all fun x => inB x 0 99) <;> by_cases e : (lengths.length : Int) = (parents.length : Int) <;> by_cases e2 : v = 0 <;> simp [e, e2]
       obtain ⟨q1, q2, t4, q3, hr, q5, hb⟩ := Jc hq
       first | (have hu := t4 u.toNat (by omega) (by omega); have he := J8 t4 (ls := lengths) (x := u.toNat) (y := v.toNat) (by omega) (by omega); have hv := hr u.toNat (by omega); have hb1 := hb (upN parents u.toNat) v.toNat; have hb2 := hb i.toNat a.toNat; unfold upN at hu he hb1; omega) | (have hu := t4 v.toNat (by omega) (by omega); have he := J8 t4 (ls := lengths) (x := v.toNat) (y := u.toNat) (by omega) (by omega); have hs := J7 parents lengths v.toNat u.toNat; have hs2 := J7 parents lengths (parents.getD v.toNat 0).toNat u.toNat; have hv := hr v.toNat (by omega); have hb1 := hb (upN parents v.toNat) u.toNat; have hb2 := hb i.toNat a.toNat; unfold upN at hu he hb1; omega)
      ·first | omega | rfl | (intro hg; simp only [nrmT] at hg; omega) | (intro g1 g2; simp [g1, g2]; done) | (intro g1; simp at g1 ⊢; simp [g1]; done) | (simp only [nrmT] at *; omega) | (simp at * <;> omega) | (simp_all <;> omega) | (simp_all; done)
      ·first | omega | rfl | (intro hg; simp only [nrmT] at hg; omega) | (intro g1 g2; simp [g1, g2]; done) | (intro g1; simp at g1 ⊢; simp [g1]; done) | (simp only [nrmT] at *; omega) | (simp at * <;> omega) | (simp_all <;> omega) | (simp_all; done)
      ·first | omega | rfl | (intro hg; simp only [nrmT] at hg; omega) | (intro g1 g2; simp [g1, g2]; done) | (intro g1; simp at g1 ⊢; simp [g1]; done) | (simp only [nrmT] at *; omega) | (simp at * <;> omega) | (simp_all <;> omega) | (simp_all; done)
      ·first | omega | rfl | (intro hg; simp only [nrmT] at hg; omega) | (intro g1 g2; simp [g1, g2]; done) | (intro g1; simp at g1 ⊢; simp [g1]; done) | (simp only [nrmT] at *; omega) | (simp at * <;> omega) | (simp_all <;> omega) | (simp_all; done)
      ·first | omega | rfl | (intro hg; simp only [nrmT] at hg; omega) | (intro g1 g2; simp [g1, g2]; done) | (intro g1; simp at g1 ⊢; simp [g1]; done) | (simp only [nrmT] at *; omega) | (simp at * <;> omega) | (simp_all <;> omega) | (simp_all; done)
      ·first | omega | rfl | (intro hg; simp only [nrmT] at hg; omega) | (intro g1 g2; simp [g1, g2]; done) | (intro g1; simp at g1 ⊢; simp [g1]; done) | (simp only [nrmT] at *; omega) | (simp at * <;> omega) | (simp_all <;> omega) | (simp_all; done)
      refine ⟨(list2.set a.toNat ((list2.getD a.toNat 0) + (lengths.getD u.toNat 0))), (parents.getD u.toNat 0), v, ?_⟩
      refine ⟨?_, ?_, rfl, rfl, rfl, rfl, ?_, rfl, rfl, rfl, rfl, rfl, rfl, rfl, rfl, rfl, rfl, rfl, rfl⟩
      ·refine ⟨?_, ?_, ?_, ?_, ?_, ?_⟩
       ·have hq : tfQ parents lengths = true := by
          unfold tfQ J3
          revert b2; generalize lengths.getD 0 0 = v; cases J2 parents <;> cases (lengths.all fun x => inB x 0 99) <;> by_cases e : (lengths.length : Int) = (parents.length : Int) <;> by_cases e2 : v = 0 <;> simp [e, e2]
        obtain ⟨q1, q2, t4, q3, hr, q5, hb⟩ := Jc hq
        first | (have hu := t4 u.toNat (by omega) (by omega); have he := J8 t4 (ls := lengths) (x := u.toNat) (y := v.toNat) (by omega) (by omega); have hv := hr u.toNat (by omega); have hb1 := hb (upN parents u.toNat) v.toNat; have hb2 := hb i.toNat a.toNat; unfold upN at hu he hb1; omega) | (have hu := t4 v.toNat (by omega) (by omega); have he := J8 t4 (ls := lengths) (x := v.toNat) (y := u.toNat) (by omega) (by omega); have hs := J7 parents lengths v.toNat u.toNat; have hs2 := J7 parents lengths (parents.getD v.toNat 0).toNat u.toNat; have hv := hr v.toNat (by omega); have hb1 := hb (upN parents v.toNat) u.toNat; have hb2 := hb i.toNat a.toNat; unfold upN at hu he hb1; omega)
       ·first | omega | rfl | (intro hg; simp only [nrmT] at hg; omega) | (intro g1 g2; simp [g1, g2]; done) | (intro g1; simp at g1 ⊢; simp [g1]; done) | (simp only [nrmT] at *; omega) | (simp at * <;> omega) | (simp_all <;> omega) | (simp_all; done)
       ·rw [List.length_set]; exact h9
       ·intro k hk hne
        rw [J7i hne]; exact h10 k hk hne
       ·have hq : tfQ parents lengths = true := by
          unfold tfQ J3
          revert b2; generalize lengths.getD 0 0 = v; cases J2 parents <;> cases (lengths.all fun x => inB x 0 99) <;> by_cases e : (lengths.length : Int) = (parents.length : Int) <;> by_cases e2 : v = 0 <;> simp [e, e2]
        obtain ⟨q1, q2, t4, q3, hr, q5, hb⟩ := Jc hq
        rw [J3U (by omega)]
        first | (have hu := t4 u.toNat (by omega) (by omega); have he := J8 t4 (ls := lengths) (x := u.toNat) (y := v.toNat) (by omega) (by omega); have hv := hr u.toNat (by omega); have hb1 := hb (upN parents u.toNat) v.toNat; have hb2 := hb i.toNat a.toNat; unfold upN at hu he hb1; omega) | (have hu := t4 v.toNat (by omega) (by omega); have he := J8 t4 (ls := lengths) (x := v.toNat) (y := u.toNat) (by omega) (by omega); have hs := J7 parents lengths v.toNat u.toNat; have hs2 := J7 parents lengths (parents.getD v.toNat 0).toNat u.toNat; have hv := hr v.toNat (by omega); have hb1 := hb (upN parents v.toNat) u.toNat; have hb2 := hb i.toNat a.toNat; unfold upN at hu he hb1; omega)
       ·have hq : tfQ parents lengths = true := by
          unfold tfQ J3
          revert b2; generalize lengths.getD 0 0 = v; cases J2 parents <;> cases (lengths.all fun x => inB x 0 99) <;> by_cases e : (lengths.length : Int) = (parents.length : Int) <;> by_cases e2 : v = 0 <;> simp [e, e2]
        obtain ⟨q1, q2, t4, q3, hr, q5, hb⟩ := Jc hq
        rw [J3U (by omega)]
        first | (have hu := t4 u.toNat (by omega) (by omega); have he := J8 t4 (ls := lengths) (x := u.toNat) (y := v.toNat) (by omega) (by omega); have hv := hr u.toNat (by omega); have hb1 := hb (upN parents u.toNat) v.toNat; have hb2 := hb i.toNat a.toNat; unfold upN at hu he hb1; omega) | (have hu := t4 v.toNat (by omega) (by omega); have he := J8 t4 (ls := lengths) (x := v.toNat) (y := u.toNat) (by omega) (by omega); have hs := J7 parents lengths v.toNat u.toNat; have hs2 := J7 parents lengths (parents.getD v.toNat 0).toNat u.toNat; have hv := hr v.toNat (by omega); have hb1 := hb (upN parents v.toNat) u.toNat; have hb2 := hb i.toNat a.toNat; unfold upN at hu he hb1; omega)
      ·have hq : tfQ parents lengths = true := by
         unfold tfQ J3
         revert b2; generalize lengths.getD 0 0 = v; cases J2 parents <;> cases (lengths.all fun x => inB x 0 99) <;> by_cases e : (lengths.length : Int) = (parents.length : Int) <;> by_cases e2 : v = 0 <;> simp [e, e2]
       obtain ⟨q1, q2, t4, q3, hr, q5, hb⟩ := Jc hq
       first | (have hu := t4 u.toNat (by omega) (by omega); have he := J8 t4 (ls := lengths) (x := u.toNat) (y := v.toNat) (by omega) (by omega); have hv := hr u.toNat (by omega); have hb1 := hb (upN parents u.toNat) v.toNat; have hb2 := hb i.toNat a.toNat; unfold upN at hu he hb1; show (parents.getD u.toNat 0 + v).toNat < (u + v).toNat; omega) | (have hu := t4 v.toNat (by omega) (by omega); have he := J8 t4 (ls := lengths) (x := v.toNat) (y := u.toNat) (by omega) (by omega); have hs := J7 parents lengths v.toNat u.toNat; have hs2 := J7 parents lengths (parents.getD v.toNat 0).toNat u.toNat; have hv := hr v.toNat (by omega); have hb1 := hb (upN parents v.toNat) u.toNat; have hb2 := hb i.toNat a.toNat; unfold upN at hu he hb1; show (u + parents.getD v.toNat 0).toNat < (u + v).toNat; omega)
      rw [List.length_set]
     intro b7
     try simp only [nrmT] at b7
     refine ⟨rfl, ?_, ?_, ?_, ?_, ?_, ?_, ?_, ?_, ?_, ?_, ?_, ?_, ?_, ?_⟩
     ·first | omega | rfl | (intro hg; simp only [nrmT] at hg; omega) | (intro g1 g2; simp [g1, g2]; done) | (intro g1; simp at g1 ⊢; simp [g1]; done) | (simp only [nrmT] at *; omega) | (simp at * <;> omega) | (simp_all <;> omega) | (simp_all; done)
     ·first | omega | rfl | (intro hg; simp only [nrmT] at hg; omega) | (intro g1 g2; simp [g1, g2]; done) | (intro g1; simp at g1 ⊢; simp [g1]; done) | (simp only [nrmT] at *; omega) | (simp at * <;> omega) | (simp_all <;> omega) | (simp_all; done)
     ·first | omega | rfl | (intro hg; simp only [nrmT] at hg; omega) | (intro g1 g2; simp [g1, g2]; done) | (intro g1; simp at g1 ⊢; simp [g1]; done) | (simp only [nrmT] at *; omega) | (simp at * <;> omega) | (simp_all <;> omega) | (simp_all; done)
     ·first | omega | rfl | (intro hg; simp only [nrmT] at hg; omega) | (intro g1 g2; simp [g1, g2]; done) | (intro g1; simp at g1 ⊢; simp [g1]; done) | (simp only [nrmT] at *; omega) | (simp at * <;> omega) | (simp_all <;> omega) | (simp_all; done)
     ·have hq : tfQ parents lengths = true := by
        unfold tfQ J3
        revert b2; generalize lengths.getD 0 0 = v; cases J2 parents <;> cases (lengths.all fun x => inB x 0 99) <;> by_cases e : (lengths.length : Int) = (parents.length : Int) <;> by_cases e2 : v = 0 <;> simp [e, e2]
      obtain ⟨q1, q2, t4, q3, hr, q5, hb⟩ := Jc hq
      omega
     ·have hq : tfQ parents lengths = true := by
        unfold tfQ J3
        revert b2; generalize lengths.getD 0 0 = v; cases J2 parents <;> cases (lengths.all fun x => inB x 0 99) <;> by_cases e : (lengths.length : Int) = (parents.length : Int) <;> by_cases e2 : v = 0 <;> simp [e, e2]
      obtain ⟨q1, q2, t4, q3, hr, q5, hb⟩ := Jc hq
      omega
     ·have hq : tfQ parents lengths = true := by
        unfold tfQ J3
        revert b2; generalize lengths.getD 0 0 = v; cases J2 parents <;> cases (lengths.all fun x => inB x 0 99) <;> by_cases e : (lengths.length : Int) = (parents.length : Int) <;> by_cases e2 : v = 0 <;> simp [e, e2]
      obtain ⟨q1, q2, t4, q3, hr, q5, hb⟩ := Jc hq
      first | (have hu := t4 u.toNat (by omega) (by omega); have he := J8 t4 (ls := lengths) (x := u.toNat) (y := v.toNat) (by omega) (by omega); have hv := hr u.toNat (by omega); have hb1 := hb (upN parents u.toNat) v.toNat; have hb2 := hb i.toNat a.toNat; unfold upN at hu he hb1; omega) | (have hu := t4 v.toNat (by omega) (by omega); have he := J8 t4 (ls := lengths) (x := v.toNat) (y := u.toNat) (by omega) (by omega); have hs := J7 parents lengths v.toNat u.toNat; have hs2 := J7 parents lengths (parents.getD v.toNat 0).toNat u.toNat; have hv := hr v.toNat (by omega); have hb1 := hb (upN parents v.toNat) u.toNat; have hb2 := hb i.toNat a.toNat; unfold upN at hu he hb1; omega)
     ·first | omega | rfl | (intro hg; simp only [nrmT] at hg; omega) | (intro g1 g2; simp [g1, g2]; done) | (intro g1; simp at g1 ⊢; simp [g1]; done) | (simp only [nrmT] at *; omega) | (simp at * <;> omega) | (simp_all <;> omega) | (simp_all; done)
     ·first | omega | rfl | (intro hg; simp only [nrmT] at hg; omega) | (intro g1 g2; simp [g1, g2]; done) | (intro g1; simp at g1 ⊢; simp [g1]; done) | (simp only [nrmT] at *; omega) | (simp at * <;> omega) | (simp_all <;> omega) | (simp_all; done)
     ·first | omega | rfl | (intro hg; simp only [nrmT] at hg; omega) | (intro g1 g2; simp [g1, g2]; done) | (intro g1; simp at g1 ⊢; simp [g1]; done) | (simp only [nrmT] at *; omega) | (simp at * <;> omega) | (simp_all <;> omega) | (simp_all; done)
     ·first | omega | rfl | (intro hg; simp only [nrmT] at hg; omega) | (intro g1 g2; simp [g1, g2]; done) | (intro g1; simp at g1 ⊢; simp [g1]; done) | (simp only [nrmT] at *; omega) | (simp at * <;> omega) | (simp_all <;> omega) | (simp_all; done)
     ·first | omega | rfl | (intro hg; simp only [nrmT] at hg; omega) | (intro g1 g2; simp [g1, g2]; done) | (intro g1; simp at g1 ⊢; simp [g1]; done) | (simp only [nrmT] at *; omega) | (simp at * <;> omega) | (simp_all <;> omega) | (simp_all; done)
     ·first | omega | rfl | (intro hg; simp only [nrmT] at hg; omega) | (intro g1 g2; simp [g1, g2]; done) | (intro g1; simp at g1 ⊢; simp [g1]; done) | (simp only [nrmT] at *; omega) | (simp at * <;> omega) | (simp_all <;> omega) | (simp_all; done)
     refine ⟨(list2.set a.toNat ((list2.getD a.toNat 0) + (lengths.getD v.toNat 0))), u, (parents.getD v.toNat 0), ?_⟩
     refine ⟨?_, ?_, rfl, rfl, rfl, rfl, ?_, rfl, rfl, rfl, rfl, rfl, rfl, rfl, rfl, rfl, rfl, rfl, rfl⟩
     ·refine ⟨?_, ?_, ?_, ?_, ?_, ?_⟩
      ·first | omega | rfl | (intro hg; simp only [nrmT] at hg; omega) | (intro g1 g2; simp [g1, g2]; done) | (intro g1; simp at g1 ⊢; simp [g1]; done) | (simp only [nrmT] at *; omega) | (simp at * <;> omega) | (simp_all <;> omega) | (simp_all; done)
      ·have hq : tfQ parents lengths = true := by
         unfold tfQ J3
         revert b2; generalize lengths.getD 0 0 = v; cases J2 parents <;> cases (lengths.all fun x => inB x 0 99) <;> by_cases e : (lengths.length : Int) = (parents.length : Int) <;> by_cases e2 : v = 0 <;> simp [e, e2]
       obtain ⟨q1, q2, t4, q3, hr, q5, hb⟩ := Jc hq
       first | (have hu := t4 u.toNat (by omega) (by omega); have he := J8 t4 (ls := lengths) (x := u.toNat) (y := v.toNat) (by omega) (by omega); have hv := hr u.toNat (by omega); have hb1 := hb (upN parents u.toNat) v.toNat; have hb2 := hb i.toNat a.toNat; unfold upN at hu he hb1; omega) | (have hu := t4 v.toNat (by omega) (by omega); have he := J8 t4 (ls := lengths) (x := v.toNat) (y := u.toNat) (by omega) (by omega); have hs := J7 parents lengths v.toNat u.toNat; have hs2 := J7 parents lengths (parents.getD v.toNat 0).toNat u.toNat; have hv := hr v.toNat (by omega); have hb1 := hb (upN parents v.toNat) u.toNat; have hb2 := hb i.toNat a.toNat; unfold upN at hu he hb1; omega)
      ·rw [List.length_set]; exact h9
      ·intro k hk hne
       rw [J7i hne]; exact h10 k hk hne
      ·have hq : tfQ parents lengths = true := by
         unfold tfQ J3
         revert b2; generalize lengths.getD 0 0 = v; cases J2 parents <;> cases (lengths.all fun x => inB x 0 99) <;> by_cases e : (lengths.length : Int) = (parents.length : Int) <;> by_cases e2 : v = 0 <;> simp [e, e2]
       obtain ⟨q1, q2, t4, q3, hr, q5, hb⟩ := Jc hq
       rw [J3U (by omega)]
       first | (have hu := t4 u.toNat (by omega) (by omega); have he := J8 t4 (ls := lengths) (x := u.toNat) (y := v.toNat) (by omega) (by omega); have hv := hr u.toNat (by omega); have hb1 := hb (upN parents u.toNat) v.toNat; have hb2 := hb i.toNat a.toNat; unfold upN at hu he hb1; omega) | (have hu := t4 v.toNat (by omega) (by omega); have he := J8 t4 (ls := lengths) (x := v.toNat) (y := u.toNat) (by omega) (by omega); have hs := J7 parents lengths v.toNat u.toNat; have hs2 := J7 parents lengths (parents.getD v.toNat 0).toNat u.toNat; have hv := hr v.toNat (by omega); have hb1 := hb (upN parents v.toNat) u.toNat; have hb2 := hb i.toNat a.toNat; unfold upN at hu he hb1; omega)
      ·have hq : tfQ parents lengths = true := by
         unfold tfQ J3
         revert b2; generalize lengths.getD 0 0 = v; cases J2 parents <;> cases (lengths.all fun x => inB x 0 99) <;> by_cases e : (lengths.length : Int) = (parents.length : Int) <;> by_cases e2 : v = 0 <;> simp [e, e2]
       obtain ⟨q1, q2, t4, q3, hr, q5, hb⟩ := Jc hq
       rw [J3U (by omega)]
       first | (have hu := t4 u.toNat (by omega) (by omega); have he := J8 t4 (ls := lengths) (x := u.toNat) (y := v.toNat) (by omega) (by omega); have hv := hr u.toNat (by omega); have hb1 := hb (upN parents u.toNat) v.toNat; have hb2 := hb i.toNat a.toNat; unfold upN at hu he hb1; omega) | (have hu := t4 v.toNat (by omega) (by omega); have he := J8 t4 (ls := lengths) (x := v.toNat) (y := u.toNat) (by omega) (by omega); have hs := J7 parents lengths v.toNat u.toNat; have hs2 := J7 parents lengths (parents.getD v.toNat 0).toNat u.toNat; have hv := hr v.toNat (by omega); have hb1 := hb (upN parents v.toNat) u.toNat; have hb2 := hb i.toNat a.toNat; unfold upN at hu he hb1; omega)
     ·have hq : tfQ parents lengths = true := by
        unfold tfQ J3
        revert b2; generalize lengths.getD 0 0 = v; cases J2 parents <;> cases (lengths.all fun x => inB x 0 99) <;> by_cases e : (lengths.length : Int) = (parents.length : Int) <;> by_cases e2 : v = 0 <;> simp [e, e2]
      obtain ⟨q1, q2, t4, q3, hr, q5, hb⟩ := Jc hq
      first | (have hu := t4 u.toNat (by omega) (by omega); have he := J8 t4 (ls := lengths) (x := u.toNat) (y := v.toNat) (by omega) (by omega); have hv := hr u.toNat (by omega); have hb1 := hb (upN parents u.toNat) v.toNat; have hb2 := hb i.toNat a.toNat; unfold upN at hu he hb1; show (parents.getD u.toNat 0 + v).toNat < (u + v).toNat; omega) | (have hu := t4 v.toNat (by omega) (by omega); have he := J8 t4 (ls := lengths) (x := v.toNat) (y := u.toNat) (by omega) (by omega); have hs := J7 parents lengths v.toNat u.toNat; have hs2 := J7 parents lengths (parents.getD v.toNat 0).toNat u.toNat; have hv := hr v.toNat (by omega); have hb1 := hb (upN parents v.toNat) u.toNat; have hb2 := hb i.toNat a.toNat; unfold upN at hu he hb1; show (u + parents.getD v.toNat 0).toNat < (u + v).toNat; omega)
     rw [List.length_set]
    intro b8
    try simp only [nrmT] at b8
    refine ⟨?_, ?_⟩
    ·first | omega | rfl | (intro hg; simp only [nrmT] at hg; omega) | (intro g1 g2; simp [g1, g2]; done) | (intro g1; simp at g1 ⊢; simp [g1]; done) | (simp only [nrmT] at *; omega) | (simp at * <;> omega) | (simp_all <;> omega) | (simp_all; done)
    refine ⟨list2, (a + 1), ?_⟩
    refine ⟨?_, ?_, rfl, rfl, rfl, rfl, rfl, rfl, rfl, rfl, rfl, rfl, rfl, rfl, rfl, rfl⟩
    ·refine ⟨?_, ?_, ?_⟩
     ·first | omega | rfl | (intro hg; simp only [nrmT] at hg; omega) | (intro g1 g2; simp [g1, g2]; done) | (intro g1; simp at g1 ⊢; simp [g1]; done) | (simp only [nrmT] at *; omega) | (simp at * <;> omega) | (simp_all <;> omega) | (simp_all; done)
     ·exact h9
     ·have hxy : u = v := by first | omega | simpa using b8
      rw [hxy, J3f] at h12
      intro k hk
      by_cases e : k = a.toNat
      · rw [e, if_pos (by omega)]; omega
      rw [h10 k hk e, h6 k hk]
      by_cases e2 : k < a.toNat
      · rw [if_pos e2, if_pos (by omega)]
      rw [if_neg e2, if_neg (by omega)]
    first | (show _ < _; omega) | (simp only [J0t]; omega) | (simp only [J0t] at *; simp at *; omega)
   intro b9
   try simp only [nrmT] at b9
   refine ⟨rfl, rfl, rfl, by decide, ?_, ?_, ?_⟩
   ·have hq : tfQ parents lengths = true := by
      unfold tfQ J3
      revert b2; generalize lengths.getD 0 0 = v; cases J2 parents <;> cases (lengths.all fun x => inB x 0 99) <;> by_cases e : (lengths.length : Int) = (parents.length : Int) <;> by_cases e2 : v = 0 <;> simp [e, e2]
    obtain ⟨q1, q2, t4, q3, hr, q5, hb⟩ := Jc hq
    rw [h3, tabTo_len]; omega
   ·first | omega | rfl | (intro hg; simp only [nrmT] at hg; omega) | (intro g1 g2; simp [g1, g2]; done) | (intro g1; simp at g1 ⊢; simp [g1]; done) | (simp only [nrmT] at *; omega) | (simp at * <;> omega) | (simp_all <;> omega) | (simp_all; done)
   refine ⟨(i + 1), op, (out ++ [list]), ?_⟩
   refine ⟨?_, ?_, rfl, rfl, rfl, rfl, rfl, rfl, rfl, rfl, ?_⟩
   ·refine ⟨?_, ?_, ?_⟩
    ·first | omega | rfl | (intro hg; simp only [nrmT] at hg; omega) | (intro g1 g2; simp [g1, g2]; done) | (intro g1; simp at g1 ⊢; simp [g1]; done) | (simp only [nrmT] at *; omega) | (simp at * <;> omega) | (simp_all <;> omega) | (simp_all; done)
    ·first | omega | rfl | (intro hg; simp only [nrmT] at hg; omega) | (intro g1 g2; simp [g1, g2]; done) | (intro g1; simp at g1 ⊢; simp [g1]; done) | (simp only [nrmT] at *; omega) | (simp at * <;> omega) | (simp_all <;> omega) | (simp_all; done)
    ·have hq : tfQ parents lengths = true := by
       unfold tfQ J3
       revert b2; generalize lengths.getD 0 0 = v; cases J2 parents <;> cases (lengths.all fun x => inB x 0 99) <;> by_cases e : (lengths.length : Int) = (parents.length : Int) <;> by_cases e2 : v = 0 <;> simp [e, e2]
     obtain ⟨q1, q2, t4, q3, hr, q5, hb⟩ := Jc hq
     rw [show (i + 1).toNat = i.toNat + 1 by omega, tabTo_succ, ← h3]
     have el : list = tabTo (fun y9 => tdL parents lengths i.toNat y9) parents.length := by
       refine List.ext_getElem (by rw [h5, tabTo_len]) fun k hk1 hk2 => ?_
       rw [← J08 (d := 0) hk1, ← J08 (d := 0) hk2, h6 k (by omega), if_pos (by omega), tabTo_get (by omega)]
     rw [el]
   ·first | (show _ < _; omega) | (simp only [J0u]; omega) | (simp only [J0u] at *; simp at *; omega)
   simp
  intro b10
  try simp only [nrmT] at b10
  refine ⟨rfl, rfl, J1U op out, ?_, ?_⟩
  ·intro b11
   try simp only [nrmT] at b11
   refine ⟨?_, ?_, ?_⟩
   ·have hq : tfQ parents lengths = true := by
      unfold tfQ J3
      revert b2; generalize lengths.getD 0 0 = v; cases J2 parents <;> cases (lengths.all fun x => inB x 0 99) <;> by_cases e : (lengths.length : Int) = (parents.length : Int) <;> by_cases e2 : v = 0 <;> simp [e, e2]
    obtain ⟨q1, q2, t4, q3, hr, q5, hb⟩ := Jc hq
    have eO : out = tfM parents lengths := by rw [h3, show i.toNat = parents.length by omega]; rfl
    have hB0 : tfB parents lengths = J0 op out := by unfold tfB; rw [hq, Bool.true_and, h2, eO]
    have hB : tfB parents lengths = false := by rw [hB0]; simpa using b11
    rw [(J2R hB).1]; rfl
   ·have hq : tfQ parents lengths = true := by
      unfold tfQ J3
      revert b2; generalize lengths.getD 0 0 = v; cases J2 parents <;> cases (lengths.all fun x => inB x 0 99) <;> by_cases e : (lengths.length : Int) = (parents.length : Int) <;> by_cases e2 : v = 0 <;> simp [e, e2]
    obtain ⟨q1, q2, t4, q3, hr, q5, hb⟩ := Jc hq
    have eO : out = tfM parents lengths := by rw [h3, show i.toNat = parents.length by omega]; rfl
    have hB0 : tfB parents lengths = J0 op out := by unfold tfB; rw [hq, Bool.true_and, h2, eO]
    have hB : tfB parents lengths = false := by rw [hB0]; simpa using b11
    rw [(J2R hB).2]; rfl
   have hq : tfQ parents lengths = true := by
     unfold tfQ J3
     revert b2; generalize lengths.getD 0 0 = v; cases J2 parents <;> cases (lengths.all fun x => inB x 0 99) <;> by_cases e : (lengths.length : Int) = (parents.length : Int) <;> by_cases e2 : v = 0 <;> simp [e, e2]
   obtain ⟨q1, q2, t4, q3, hr, q5, hb⟩ := Jc hq
   have eO : out = tfM parents lengths := by rw [h3, show i.toNat = parents.length by omega]; rfl
   have hB0 : tfB parents lengths = J0 op out := by unfold tfB; rw [hq, Bool.true_and, h2, eO]
   have hB : tfB parents lengths = false := by rw [hB0]; simpa using b11
   exact hB.symm
  intro b12
  try simp only [nrmT] at b12
  refine ⟨rfl, rfl, ?_, ?_⟩
  ·have hq : tfQ parents lengths = true := by
     unfold tfQ J3
     revert b2; generalize lengths.getD 0 0 = v; cases J2 parents <;> cases (lengths.all fun x => inB x 0 99) <;> by_cases e : (lengths.length : Int) = (parents.length : Int) <;> by_cases e2 : v = 0 <;> simp [e, e2]
   obtain ⟨q1, q2, t4, q3, hr, q5, hb⟩ := Jc hq
   have eO : out = tfM parents lengths := by rw [h3, show i.toNat = parents.length by omega]; rfl
   have hB0 : tfB parents lengths = J0 op out := by unfold tfB; rw [hq, Bool.true_and, h2, eO]
   have hB : tfB parents lengths = true := by rw [hB0]; simpa using b12
   obtain ⟨y1, y2, _⟩ := J6O hB
   rw [y1, y2, h2, eO]
  have hq : tfQ parents lengths = true := by
    unfold tfQ J3
    revert b2; generalize lengths.getD 0 0 = v; cases J2 parents <;> cases (lengths.all fun x => inB x 0 99) <;> by_cases e : (lengths.length : Int) = (parents.length : Int) <;> by_cases e2 : v = 0 <;> simp [e, e2]
  obtain ⟨q1, q2, t4, q3, hr, q5, hb⟩ := Jc hq
  have eO : out = tfM parents lengths := by rw [h3, show i.toNat = parents.length by omega]; rfl
  have hB0 : tfB parents lengths = J0 op out := by unfold tfB; rw [hq, Bool.true_and, h2, eO]
  have hB : tfB parents lengths = true := by rw [hB0]; simpa using b12
  exact hB.symm
theorem J5x (parents : ZI) (lengths : ZI)  : PC Try.prog 52 [.sl (.ints parents), .sl (.ints lengths)] (.tup [.d (.agg [.sl (.ints (tfO parents lengths)), .sl (.rows (tfD parents lengths))]), .d (.bool (tfB parents lengths))]) :=
  pc_wf @Try.call52 fun hw => pc_by (by kernel_rfl) Try.func52 @Try.call52 (by kernel_rfl) J6f (J6i parents lengths) (by kernel_rfl) (J5y parents lengths hw.1 hw.2.1) (by kernel_rfl)
def J4S : List D → Orc := orcN [some .ints, some .ints] fun ds => match ds with
  | [.sl (.ints parents), .sl (.ints lengths)] => some (.tup [.d (.agg [.sl (.ints (tfO parents lengths)), .sl (.rows (tfD parents lengths))]), .d (.bool (tfB parents lengths))])
  | _ => none
abbrev J0V (u : Value) (code : List Nat) (c : Cur) (n : Int) (c0 : Cur) (ps : ZI) (ls : ZI) (n1 : Int) (c1 : Cur) : Prop := (0 ≤ n1 ∧ n1 ≤ 6) ∧ (ps.length + n1.toNat ≤ 7 ∧ 1 ≤ ps.length) ∧ (ls.length = ps.length) ∧ (okC c1 (1000040 - 4 * n1))
abbrev J0a (u : Value) (code : List Nat) (c : Cur) (n : Int) (c0 : Cur) (ps : ZI) (ls : ZI) (n1 : Int) (c1 : Cur) : Nat := n1.toNat
abbrev J1x (u : Value) (code : List Nat) (c : Cur) (psa : ZI) (lsa : ZI) (c2 : Cur) : Prop := (psa.length ≤ 7 ∧ 1 ≤ psa.length) ∧ (lsa.length = psa.length) ∧ (okC c2 1000050)
abbrev J0P (u : Value) (code : List Nat) (c : Cur) (psa : ZI) (lsa : ZI) (c2 : Cur) (ps2 : ZI) (ls2 : ZI) : Prop := (ps2.length ≤ 8) ∧ (ls2.length = ps2.length)
abbrev J0f (u : Value) (code : List Nat) (c : Cur) (psa : ZI) (lsa : ZI) (c2 : Cur) (ps2 : ZI) (ls2 : ZI) : Nat := 8 - ps2.length
abbrev J1B (u : Value) (code : List Nat) (c : Cur) (n : Int) (c0 : Cur) : Prop := (0 ≤ n ∧ n ≤ 6) ∧ (okC c0 1000010)
abbrev JO (code : List Nat) (c : Cur) (P : ZI) (L : ZI) (cf : Cur) : Prop := (okC cf 1000100) ∧ (P.length ≤ 8) ∧ (L.length ≤ 8)
def J0K (code : List Nat) (c : Cur) : Ex := ex3 1 (fun (P : ZI) (L : ZI) (cf : Cur) => JO code c P L cf) (fun (P : ZI) (L : ZI) (cf : Cur) => [.int .i64 cf.pos, .int .u64 cf.seed]) (fun (P : ZI) (L : ZI) (cf : Cur) => .tup [.d (.sl (.ints P)), .d (.sl (.ints L))])
def J5K (f : FuncId) (ds : List D) : Orc := .no
def J5H (u : Value) (code : List Nat) (c : Cur) : Ann := .two (.none) (.two (.none) (.cut (.cut (.mark [] [(1, .cell [.int .i64 ((J1 code c 7).pos), .int .u64 ((J1 code c 7).seed)] (.one (.d (.int .i64 (J6 code c 7)))))]) (cut2 (fun (n : Int) (c0 : Cur) => J1B u code c n c0) (fun (n : Int) (c0 : Cur) => [(0, .ptr 0 0), (4, .own 8 1), (5, .own 9 1), (6, .d true (.int .i64 n))]) (fun (n : Int) (c0 : Cur) => [(0, .box 98 [.d false (.lit u (.sl (.bytes code))), .d true (.int .i64 c0.pos), .d true (.int .u64 c0.seed)]), (8, .arr true 3 (.ints ([(-1)]))), (9, .arr true 3 (.ints ([0])))])) (fun g => (fun (n : Int) (c0 : Cur) => .loop (cut4 (fun (ps : ZI) (ls : ZI) (n1 : Int) (c1 : Cur) => J0V u code c n c0 ps ls n1 c1) (fun (ps : ZI) (ls : ZI) (n1 : Int) (c1 : Cur) => [(0, .ptr 0 0), (4, .own 1000000 ps.length), (5, .own 1000001 ls.length), (6, .d true (.int .i64 n1))]) (fun (ps : ZI) (ls : ZI) (n1 : Int) (c1 : Cur) => [(1000000, .arr true 3 (.ints ps)), (1000001, .arr true 3 (.ints ls)), (0, .box 98 [.d false (.lit u (.sl (.bytes code))), .d true (.int .i64 c1.pos), .d true (.int .u64 c1.seed)])])) (fun g => J0a u code c n c0 g.1 g.2.1 g.2.2.1 g.2.2.2) (fun g => (fun (ps : ZI) (ls : ZI) (n1 : Int) (c1 : Cur) => .two (.none) (.two (.two (.mark [] [(4, .cell [.int .i64 ((J1 code c1 (ps.length : Int)).pos), .int .u64 ((J1 code c1 (ps.length : Int)).seed)] (.one (.d (.int .i64 (J6 code c1 (ps.length : Int))))))]) (.mark [] [(3, .cell [.int .i64 ((J1 code (J1 code c1 (ps.length : Int)) (([1, 2, 3, 5, 0, 9]).length : Int)).pos), .int .u64 ((J1 code (J1 code c1 (ps.length : Int)) (([1, 2, 3, 5, 0, 9]).length : Int)).seed)] (.one (.d (.int .i64 (([1, 2, 3, 5, 0, 9]).getD (J6 code (J1 code c1 (ps.length : Int)) (([1, 2, 3, 5, 0, 9]).length : Int)).toNat 0)))))])) (.none))) (g.1) (g.2.1) (g.2.2.1) (g.2.2.2))) (g.1) (g.2))) (cut3 (fun (psa : ZI) (lsa : ZI) (c2 : Cur) => J1x u code c psa lsa c2) (fun (psa : ZI) (lsa : ZI) (c2 : Cur) => [(0, .ptr 0 0), (4, .own 1000050 psa.length), (5, .own 1000051 lsa.length)]) (fun (psa : ZI) (lsa : ZI) (c2 : Cur) => [(1000050, .arr true 3 (.ints psa)), (1000051, .arr true 3 (.ints lsa)), (0, .box 98 [.d false (.lit u (.sl (.bytes code))), .d true (.int .i64 c2.pos), .d true (.int .u64 c2.seed)])])) (fun g => (fun (psa : ZI) (lsa : ZI) (c2 : Cur) => .two (.mark [] [(3, .cell [.int .i64 ((J1 code c2 (psa.length : Int)).pos), .int .u64 ((J1 code c2 (psa.length : Int)).seed)] (.one (.d (.int .i64 (J6 code c2 (psa.length : Int))))))]) (.two (.two (.mark [] [(1, .cell [.int .i64 ((J1 code (J1 code c2 (psa.length : Int)) 24).pos), .int .u64 ((J1 code (J1 code c2 (psa.length : Int)) 24).seed)] (.one (.d (.int .i64 (J6 code (J1 code c2 (psa.length : Int)) 24)))))]) (.two (.none) (.two (.mark [] [(5, .cell [.int .i64 ((J1 code (J1 code (J1 code c2 (psa.length : Int)) 24) (([(-1), (J6 code c2 (psa.length : Int)), (-2), 4611686018427387904]).length : Int)).pos), .int .u64 ((J1 code (J1 code (J1 code c2 (psa.length : Int)) 24) (([(-1), (J6 code c2 (psa.length : Int)), (-2), 4611686018427387904]).length : Int)).seed)] (.one (.d (.int .i64 (([(-1), (J6 code c2 (psa.length : Int)), (-2), 4611686018427387904]).getD (J6 code (J1 code (J1 code c2 (psa.length : Int)) 24) (([(-1), (J6 code c2 (psa.length : Int)), (-2), 4611686018427387904]).length : Int)).toNat 0)))))]) (.two (.none) (.two (.mark [] [(4, .cell [.int .i64 ((J1 code (J1 code (J1 code c2 (psa.length : Int)) 24) (([99, 100, (-1)]).length : Int)).pos), .int .u64 ((J1 code (J1 code (J1 code c2 (psa.length : Int)) 24) (([99, 100, (-1)]).length : Int)).seed)] (.one (.d (.int .i64 (([99, 100, (-1)]).getD (J6 code (J1 code (J1 code c2 (psa.length : Int)) 24) (([99, 100, (-1)]).length : Int)).toNat 0)))))]) (.two (.none) (.two (.loop (cut2 (fun (ps2 : ZI) (ls2 : ZI) => J0P u code c psa lsa c2 ps2 ls2) (fun (ps2 : ZI) (ls2 : ZI) => [(0, .ptr 0 0), (4, .own 1000100 ps2.length), (5, .own 1000101 ls2.length)]) (fun (ps2 : ZI) (ls2 : ZI) => [(1000100, .arr true 3 (.ints ps2)), (1000101, .arr true 3 (.ints ls2)), (0, .box 98 [.d false (.lit u (.sl (.bytes code))), .d true (.int .i64 ((J1 code (J1 code c2 (psa.length : Int)) 24).pos)), .d true (.int .u64 ((J1 code (J1 code c2 (psa.length : Int)) 24).seed))])])) (fun g => J0f u code c psa lsa c2 g.1 g.2) (fun _ => .none)) (.none)))))))) (.none))) (g.1) (g.2.1) (g.2.2))))
def J22 (u : Value) (code : List Nat) (c : Cur) : Prop :=
  ((((PK Try.prog 107 98 (.sl (.bytes code)) [.int .i64 c.pos, .int .u64 c.seed] [.int .i64 ((J1 code c 7).pos), .int .u64 ((J1 code c 7).seed)] [.int .i64 7] (.one (.d (.int .i64 (J6 code c 7))))) ∧ (∃ n' : Int, ∃ c0' : Cur, (J1B u code c n' c0') ∧ ((1 : Nat) = 1) ∧ ((1 : Nat) = 1) ∧ ((J6 code c 7) = n') ∧ ((.lit u (.sl (.bytes code)) : D) = .lit u (.sl (.bytes code))) ∧ ((J1 code c 7).pos = c0'.pos) ∧ ((J1 code c 7).seed = c0'.seed) ∧ (([(-1)] : ZI) = [(-1)]) ∧ (([0] : ZI) = [0]))) ∧ (∀ n : Int, ∀ c0 : Cur, (J1B u code c n c0) → ((∃ ps' : ZI, ∃ ls' : ZI, ∃ n1' : Int, ∃ c1' : Cur, (J0V u code c n c0 ps' ls' n1' c1') ∧ ((1 : Nat) = ps'.length) ∧ ((1 : Nat) = ls'.length) ∧ (n = n1') ∧ ([(-1)] = ps') ∧ ([0] = ls') ∧ ((.lit u (.sl (.bytes code)) : D) = .lit u (.sl (.bytes code))) ∧ (c0.pos = c1'.pos) ∧ (c0.seed = c1'.seed)) ∧ (∀ ps : ZI, ∀ ls : ZI, ∀ n1 : Int, ∀ c1 : Cur, (J0V u code c n c0 ps ls n1 c1) → (((decide (n1 > 0)) = true → (PK Try.prog 107 98 (.sl (.bytes code)) [.int .i64 c1.pos, .int .u64 c1.seed] [.int .i64 ((J1 code c1 (ps.length : Int)).pos), .int .u64 ((J1 code c1 (ps.length : Int)).seed)] [.int .i64 (ps.length : Int)] (.one (.d (.int .i64 (J6 code c1 (ps.length : Int)))))) ∧ (ps.length = ps.length) ∧ ((1 : Nat) = 1) ∧ ((ps.length + 1) * 8 ≤ 140737488355328) ∧ ((6 : Nat) = 6) ∧ (PK Try.prog 106 98 (.sl (.bytes code)) [.int .i64 ((J1 code c1 (ps.length : Int)).pos), .int .u64 ((J1 code c1 (ps.length : Int)).seed)] [.int .i64 ((J1 code (J1 code c1 (ps.length : Int)) (([1, 2, 3, 5, 0, 9]).length : Int)).pos), .int .u64 ((J1 code (J1 code c1 (ps.length : Int)) (([1, 2, 3, 5, 0, 9]).length : Int)).seed)] [.sl (.ints ([1, 2, 3, 5, 0, 9]))] (.one (.d (.int .i64 (([1, 2, 3, 5, 0, 9]).getD (J6 code (J1 code c1 (ps.length : Int)) (([1, 2, 3, 5, 0, 9]).length : Int)).toNat 0))))) ∧ (ls.length = ls.length) ∧ ((1 : Nat) = 1) ∧ ((ls.length + 1) * 8 ≤ 140737488355328) ∧ (I6 (n1 - 1)) ∧ (∃ ps' : ZI, ∃ ls' : ZI, ∃ n1' : Int, ∃ c1' : Cur, (J0V u code c n c0 ps' ls' n1' c1') ∧ (J0a u code c n c0 ps' ls' n1' c1' < J0a u code c n c0 ps ls n1 c1) ∧ ((ps.length + 1) = ps'.length) ∧ ((ls.length + 1) = ls'.length) ∧ ((n1 - 1) = n1') ∧ ((ps ++ [(J6 code c1 (ps.length : Int))]) = ps') ∧ ((ls ++ [(([1, 2, 3, 5, 0, 9]).getD (J6 code (J1 code c1 (ps.length : Int)) (([1, 2, 3, 5, 0, 9]).length : Int)).toNat 0)]) = ls') ∧ ((.lit u (.sl (.bytes code)) : D) = .lit u (.sl (.bytes code))) ∧ ((J1 code (J1 code c1 (ps.length : Int)) (([1, 2, 3, 5, 0, 9]).length : Int)).pos = c1'.pos) ∧ ((J1 code (J1 code c1 (ps.length : Int)) (([1, 2, 3, 5, 0, 9]).length : Int)).seed = c1'.seed))) ∧ ((decide (n1 > 0)) = false → (∃ psa' : ZI, ∃ lsa' : ZI, ∃ c2' : Cur, (J1x u code c psa' lsa' c2') ∧ (ps.length = psa'.length) ∧ (ls.length = lsa'.length) ∧ (ps = psa') ∧ (ls = lsa') ∧ ((.lit u (.sl (.bytes code)) : D) = .lit u (.sl (.bytes code))) ∧ (c1.pos = c2'.pos) ∧ (c1.seed = c2'.seed)))))))) ∧ (∀ psa : ZI, ∀ lsa : ZI, ∀ c2 : Cur, (J1x u code c psa lsa c2) → (PK Try.prog 107 98 (.sl (.bytes code)) [.int .i64 c2.pos, .int .u64 c2.seed] [.int .i64 ((J1 code c2 (psa.length : Int)).pos), .int .u64 ((J1 code c2 (psa.length : Int)).seed)] [.int .i64 (psa.length : Int)] (.one (.d (.int .i64 (J6 code c2 (psa.length : Int)))))) ∧ (PK Try.prog 107 98 (.sl (.bytes code)) [.int .i64 ((J1 code c2 (psa.length : Int)).pos), .int .u64 ((J1 code c2 (psa.length : Int)).seed)] [.int .i64 ((J1 code (J1 code c2 (psa.length : Int)) 24).pos), .int .u64 ((J1 code (J1 code c2 (psa.length : Int)) 24).seed)] [.int .i64 24] (.one (.d (.int .i64 (J6 code (J1 code c2 (psa.length : Int)) 24))))) ∧ ((((J6 code (J1 code c2 (psa.length : Int)) 24) == 0) = true → ((4 : Nat) = 4) ∧ (PK Try.prog 106 98 (.sl (.bytes code)) [.int .i64 ((J1 code (J1 code c2 (psa.length : Int)) 24).pos), .int .u64 ((J1 code (J1 code c2 (psa.length : Int)) 24).seed)] [.int .i64 ((J1 code (J1 code (J1 code c2 (psa.length : Int)) 24) (([(-1), (J6 code c2 (psa.length : Int)), (-2), 4611686018427387904]).length : Int)).pos), .int .u64 ((J1 code (J1 code (J1 code c2 (psa.length : Int)) 24) (([(-1), (J6 code c2 (psa.length : Int)), (-2), 4611686018427387904]).length : Int)).seed)] [.sl (.ints ([(-1), (J6 code c2 (psa.length : Int)), (-2), 4611686018427387904]))] (.one (.d (.int .i64 (([(-1), (J6 code c2 (psa.length : Int)), (-2), 4611686018427387904]).getD (J6 code (J1 code (J1 code c2 (psa.length : Int)) 24) (([(-1), (J6 code c2 (psa.length : Int)), (-2), 4611686018427387904]).length : Int)).toNat 0))))) ∧ ((0 : Int) ≤ (J6 code c2 (psa.length : Int))) ∧ (((J6 code c2 (psa.length : Int)) : Int) < (psa.length : Int)) ∧ ((J6 code c2 (psa.length : Int)).toNat < psa.length) ∧ (∃ P' : ZI, ∃ L' : ZI, ∃ cf' : Cur, (JO code c P' L' cf') ∧ (true = true) ∧ ((.lit u (.sl (.bytes code)) : D) = .lit u (.sl (.bytes code))) ∧ ((J1 code (J1 code (J1 code c2 (psa.length : Int)) 24) (([(-1), (J6 code c2 (psa.length : Int)), (-2), 4611686018427387904]).length : Int)).pos = cf'.pos) ∧ ((J1 code (J1 code (J1 code c2 (psa.length : Int)) 24) (([(-1), (J6 code c2 (psa.length : Int)), (-2), 4611686018427387904]).length : Int)).seed = cf'.seed) ∧ (psa.length = (psa.set ((J6 code c2 (psa.length : Int)).toNat) (([(-1), (J6 code c2 (psa.length : Int)), (-2), 4611686018427387904]).getD (J6 code (J1 code (J1 code c2 (psa.length : Int)) 24) (([(-1), (J6 code c2 (psa.length : Int)), (-2), 4611686018427387904]).length : Int)).toNat 0)).length) ∧ (((psa.set ((J6 code c2 (psa.length : Int)).toNat) (([(-1), (J6 code c2 (psa.length : Int)), (-2), 4611686018427387904]).getD (J6 code (J1 code (J1 code c2 (psa.length : Int)) 24) (([(-1), (J6 code c2 (psa.length : Int)), (-2), 4611686018427387904]).length : Int)).toNat 0)) : ZI) = P') ∧ (lsa.length = lsa.length) ∧ ((lsa : ZI) = L'))) ∧ (((J6 code (J1 code c2 (psa.length : Int)) 24) == 0) = false → ((((J6 code (J1 code c2 (psa.length : Int)) 24) == 1) = true → ((3 : Nat) = 3) ∧ (PK Try.prog 106 98 (.sl (.bytes code)) [.int .i64 ((J1 code (J1 code c2 (psa.length : Int)) 24).pos), .int .u64 ((J1 code (J1 code c2 (psa.length : Int)) 24).seed)] [.int .i64 ((J1 code (J1 code (J1 code c2 (psa.length : Int)) 24) (([99, 100, (-1)]).length : Int)).pos), .int .u64 ((J1 code (J1 code (J1 code c2 (psa.length : Int)) 24) (([99, 100, (-1)]).length : Int)).seed)] [.sl (.ints ([99, 100, (-1)]))] (.one (.d (.int .i64 (([99, 100, (-1)]).getD (J6 code (J1 code (J1 code c2 (psa.length : Int)) 24) (([99, 100, (-1)]).length : Int)).toNat 0))))) ∧ ((0 : Int) ≤ (J6 code c2 (psa.length : Int))) ∧ (((J6 code c2 (psa.length : Int)) : Int) < (lsa.length : Int)) ∧ ((J6 code c2 (psa.length : Int)).toNat < lsa.length) ∧ (∃ P' : ZI, ∃ L' : ZI, ∃ cf' : Cur, (JO code c P' L' cf') ∧ (true = true) ∧ ((.lit u (.sl (.bytes code)) : D) = .lit u (.sl (.bytes code))) ∧ ((J1 code (J1 code (J1 code c2 (psa.length : Int)) 24) (([99, 100, (-1)]).length : Int)).pos = cf'.pos) ∧ ((J1 code (J1 code (J1 code c2 (psa.length : Int)) 24) (([99, 100, (-1)]).length : Int)).seed = cf'.seed) ∧ (psa.length = psa.length) ∧ ((psa : ZI) = P') ∧ (lsa.length = (lsa.set ((J6 code c2 (psa.length : Int)).toNat) (([99, 100, (-1)]).getD (J6 code (J1 code (J1 code c2 (psa.length : Int)) 24) (([99, 100, (-1)]).length : Int)).toNat 0)).length) ∧ (((lsa.set ((J6 code c2 (psa.length : Int)).toNat) (([99, 100, (-1)]).getD (J6 code (J1 code (J1 code c2 (psa.length : Int)) 24) (([99, 100, (-1)]).length : Int)).toNat 0)) : ZI) = L'))) ∧ (((J6 code (J1 code c2 (psa.length : Int)) 24) == 1) = false → ((((J6 code (J1 code c2 (psa.length : Int)) 24) == 2) = true → ((∃ ps2' : ZI, ∃ ls2' : ZI, (J0P u code c psa lsa c2 ps2' ls2') ∧ (psa.length = ps2'.length) ∧ (lsa.length = ls2'.length) ∧ (psa = ps2') ∧ (lsa = ls2') ∧ ((.lit u (.sl (.bytes code)) : D) = .lit u (.sl (.bytes code))) ∧ ((J1 code (J1 code c2 (psa.length : Int)) 24).pos = (J1 code (J1 code c2 (psa.length : Int)) 24).pos) ∧ ((J1 code (J1 code c2 (psa.length : Int)) 24).seed = (J1 code (J1 code c2 (psa.length : Int)) 24).seed)) ∧ (∀ ps2 : ZI, ∀ ls2 : ZI, (J0P u code c psa lsa c2 ps2 ls2) → (((decide ((ps2.length : Int) < 8)) = true → (ps2.length = ps2.length) ∧ ((1 : Nat) = 1) ∧ ((ps2.length + 1) * 8 ≤ 140737488355328) ∧ (ls2.length = ls2.length) ∧ ((1 : Nat) = 1) ∧ ((ls2.length + 1) * 8 ≤ 140737488355328) ∧ (∃ ps2' : ZI, ∃ ls2' : ZI, (J0P u code c psa lsa c2 ps2' ls2') ∧ (J0f u code c psa lsa c2 ps2' ls2' < J0f u code c psa lsa c2 ps2 ls2) ∧ ((ps2.length + 1) = ps2'.length) ∧ ((ls2.length + 1) = ls2'.length) ∧ ((ps2 ++ [0]) = ps2') ∧ ((ls2 ++ [1]) = ls2') ∧ ((.lit u (.sl (.bytes code)) : D) = .lit u (.sl (.bytes code))) ∧ ((J1 code (J1 code c2 (psa.length : Int)) 24).pos = (J1 code (J1 code c2 (psa.length : Int)) 24).pos) ∧ ((J1 code (J1 code c2 (psa.length : Int)) 24).seed = (J1 code (J1 code c2 (psa.length : Int)) 24).seed))) ∧ ((decide ((ps2.length : Int) < 8)) = false → (∃ P' : ZI, ∃ L' : ZI, ∃ cf' : Cur, (JO code c P' L' cf') ∧ (true = true) ∧ ((.lit u (.sl (.bytes code)) : D) = .lit u (.sl (.bytes code))) ∧ ((J1 code (J1 code c2 (psa.length : Int)) 24).pos = cf'.pos) ∧ ((J1 code (J1 code c2 (psa.length : Int)) 24).seed = cf'.seed) ∧ (ps2.length = ps2.length) ∧ ((ps2 : ZI) = P') ∧ (ls2.length = ls2.length) ∧ ((ls2 : ZI) = L'))))))) ∧ (((J6 code (J1 code c2 (psa.length : Int)) 24) == 2) = false → ((((J6 code (J1 code c2 (psa.length : Int)) 24) == 3) = true → (∃ P' : ZI, ∃ L' : ZI, ∃ cf' : Cur, (JO code c P' L' cf') ∧ (true = true) ∧ ((.lit u (.sl (.bytes code)) : D) = .lit u (.sl (.bytes code))) ∧ ((J1 code (J1 code c2 (psa.length : Int)) 24).pos = cf'.pos) ∧ ((J1 code (J1 code c2 (psa.length : Int)) 24).seed = cf'.seed) ∧ ((0 : Nat) = 0) ∧ (([] : ZI) = P') ∧ ((0 : Nat) = 0) ∧ (([] : ZI) = L'))) ∧ (((J6 code (J1 code c2 (psa.length : Int)) 24) == 3) = false → (∃ P' : ZI, ∃ L' : ZI, ∃ cf' : Cur, (JO code c P' L' cf') ∧ (true = true) ∧ ((.lit u (.sl (.bytes code)) : D) = .lit u (.sl (.bytes code))) ∧ ((J1 code (J1 code c2 (psa.length : Int)) 24).pos = cf'.pos) ∧ ((J1 code (J1 code c2 (psa.length : Int)) 24).seed = cf'.seed) ∧ (psa.length = psa.length) ∧ ((psa : ZI) = P') ∧ (lsa.length = lsa.length) ∧ ((lsa : ZI) = L'))))))))))))
theorem J54 (u : Value) (code : List Nat) (c : Cur) (hb : ∀ x9 ∈ code, x9 < 256) (hc : okC c 1000000)  : J22 u code c := by
  unfold J22
  refine ⟨?_, ?_⟩
  ·refine ⟨?_, ?_⟩
   ·refine ⟨?_, ?_⟩
    ·refine JQ code c 7 ?_ ?_
     ·exact hb
     ·exact Jf (by repeat (first | assumption | apply Jk | apply Jh | apply Jd | exact JM)) (by omega)
    ·refine ⟨(J6 code c 7), (J1 code c 7), ?_⟩
     refine ⟨?_, rfl, rfl, rfl, rfl, rfl, rfl, rfl, rfl⟩
     ·refine ⟨?_, ?_⟩
      ·have v := J04 code c (n := 7) (by omega)
       omega
      ·exact Jf (by repeat (first | assumption | apply Jk | apply Jh | apply Jd | exact JM)) (by omega)
   ·intro n c0 hJ
    obtain ⟨n1, n2⟩ := hJ
    refine ⟨?_, ?_⟩
    ·refine ⟨([(-1)]), ([0]), n, c0, ?_⟩
     refine ⟨?_, ?_, ?_, rfl, ?_, ?_, rfl, rfl, rfl⟩
     ·refine ⟨?_, ?_, ?_, ?_⟩
      ·first | omega | rfl | (intro hg; simp only [nrmT] at hg; omega) | (intro g1 g2; simp [g1, g2]; done) | (intro g1; simp at g1 ⊢; simp [g1]; done) | (simp only [nrmT] at *; omega) | (simp at * <;> omega) | (simp_all <;> omega) | (simp_all; done)
      ·first | omega | rfl | (intro hg; simp only [nrmT] at hg; omega) | (intro g1 g2; simp [g1, g2]; done) | (intro g1; simp at g1 ⊢; simp [g1]; done) | (simp only [nrmT] at *; omega) | (simp at * <;> omega) | (simp_all <;> omega) | (simp_all; done)
      ·first | omega | rfl | (intro hg; simp only [nrmT] at hg; omega) | (intro g1 g2; simp [g1, g2]; done) | (intro g1; simp at g1 ⊢; simp [g1]; done) | (simp only [nrmT] at *; omega) | (simp at * <;> omega) | (simp_all <;> omega) | (simp_all; done)
      ·exact Jf (by repeat (first | assumption | apply Jk | apply Jh | apply Jd | exact JM)) (by omega)
     ·first | omega | rfl | (intro hg; simp only [nrmT] at hg; omega) | (intro g1 g2; simp [g1, g2]; done) | (intro g1; simp at g1 ⊢; simp [g1]; done) | (simp only [nrmT] at *; omega) | (simp at * <;> omega) | (simp_all <;> omega) | (simp_all; done)
     ·first | omega | rfl | (intro hg; simp only [nrmT] at hg; omega) | (intro g1 g2; simp [g1, g2]; done) | (intro g1; simp at g1 ⊢; simp [g1]; done) | (simp only [nrmT] at *; omega) | (simp at * <;> omega) | (simp_all <;> omega) | (simp_all; done)
     ·first | omega | rfl | (intro hg; simp only [nrmT] at hg; omega) | (intro g1 g2; simp [g1, g2]; done) | (intro g1; simp at g1 ⊢; simp [g1]; done) | (simp only [nrmT] at *; omega) | (simp at * <;> omega) | (simp_all <;> omega) | (simp_all; done)
     first | omega | rfl | (intro hg; simp only [nrmT] at hg; omega) | (intro g1 g2; simp [g1, g2]; done) | (intro g1; simp at g1 ⊢; simp [g1]; done) | (simp only [nrmT] at *; omega) | (simp at * <;> omega) | (simp_all <;> omega) | (simp_all; done)
    intro ps ls n1 c1 hJ
    obtain ⟨h1, h2, h3, h4⟩ := hJ
    refine ⟨?_, ?_⟩
    ·intro b1
     try simp only [nrmT] at b1
     refine ⟨?_, rfl, rfl, ?_, rfl, ?_, rfl, rfl, ?_, ?_, ?_⟩
     ·refine JQ code c1 (ps.length : Int) ?_ ?_
      ·exact hb
      ·exact Jf (by repeat (first | assumption | apply Jk | apply Jh | apply Jd | exact JM)) (by omega)
     ·first | omega | rfl | (intro hg; simp only [nrmT] at hg; omega) | (intro g1 g2; simp [g1, g2]; done) | (intro g1; simp at g1 ⊢; simp [g1]; done) | (simp only [nrmT] at *; omega) | (simp at * <;> omega) | (simp_all <;> omega) | (simp_all; done)
     ·refine JU code (J1 code c1 (ps.length : Int)) ([1, 2, 3, 5, 0, 9]) ?_ ?_ ?_
      ·exact hb
      ·exact Jf (by repeat (first | assumption | apply Jk | apply Jh | apply Jd | exact JM)) (by omega)
      ·simp
     ·first | omega | rfl | (intro hg; simp only [nrmT] at hg; omega) | (intro g1 g2; simp [g1, g2]; done) | (intro g1; simp at g1 ⊢; simp [g1]; done) | (simp only [nrmT] at *; omega) | (simp at * <;> omega) | (simp_all <;> omega) | (simp_all; done)
     ·first | omega | rfl | (intro hg; simp only [nrmT] at hg; omega) | (intro g1 g2; simp [g1, g2]; done) | (intro g1; simp at g1 ⊢; simp [g1]; done) | (simp only [nrmT] at *; omega) | (simp at * <;> omega) | (simp_all <;> omega) | (simp_all; done)
     refine ⟨(ps ++ [(J6 code c1 (ps.length : Int))]), (ls ++ [(([1, 2, 3, 5, 0, 9]).getD (J6 code (J1 code c1 (ps.length : Int)) (([1, 2, 3, 5, 0, 9]).length : Int)).toNat 0)]), (n1 - 1), (J1 code (J1 code c1 (ps.length : Int)) (([1, 2, 3, 5, 0, 9]).length : Int)), ?_⟩
     refine ⟨?_, ?_, ?_, ?_, rfl, rfl, rfl, rfl, rfl, rfl⟩
     ·refine ⟨?_, ?_, ?_, ?_⟩
      ·first | omega | rfl | (intro hg; simp only [nrmT] at hg; omega) | (intro g1 g2; simp [g1, g2]; done) | (intro g1; simp at g1 ⊢; simp [g1]; done) | (simp only [nrmT] at *; omega) | (simp at * <;> omega) | (simp_all <;> omega) | (simp_all; done)
      ·simp; try omega
      ·simp; try omega
      ·exact Jf (by repeat (first | assumption | apply Jk | apply Jh | apply Jd | exact JM)) (by omega)
     ·first | (show _ < _; omega) | (simp only [J0a]; omega) | (simp only [J0a] at *; simp at *; omega)
     ·simp
     simp
    intro b2
    try simp only [nrmT] at b2
    refine ⟨ps, ls, c1, ?_⟩
    refine ⟨?_, rfl, rfl, rfl, rfl, rfl, rfl, rfl⟩
    ·refine ⟨?_, ?_, ?_⟩
     ·first | omega | rfl | (intro hg; simp only [nrmT] at hg; omega) | (intro g1 g2; simp [g1, g2]; done) | (intro g1; simp at g1 ⊢; simp [g1]; done) | (simp only [nrmT] at *; omega) | (simp at * <;> omega) | (simp_all <;> omega) | (simp_all; done)
     ·first | omega | rfl | (intro hg; simp only [nrmT] at hg; omega) | (intro g1 g2; simp [g1, g2]; done) | (intro g1; simp at g1 ⊢; simp [g1]; done) | (simp only [nrmT] at *; omega) | (simp at * <;> omega) | (simp_all <;> omega) | (simp_all; done)
     ·exact Jf (by repeat (first | assumption | apply Jk | apply Jh | apply Jd | exact JM)) (by omega)
  intro psa lsa c2 hJ
  obtain ⟨k1, k2, k3⟩ := hJ
  refine ⟨?_, ?_, ?_, ?_⟩
  ·refine JQ code c2 (psa.length : Int) ?_ ?_
   ·exact hb
   ·exact Jf (by repeat (first | assumption | apply Jk | apply Jh | apply Jd | exact JM)) (by omega)
  ·refine JQ code (J1 code c2 (psa.length : Int)) 24 ?_ ?_
   ·exact hb
   ·exact Jf (by repeat (first | assumption | apply Jk | apply Jh | apply Jd | exact JM)) (by omega)
  ·intro b3
   try simp only [nrmT] at b3
   refine ⟨rfl, ?_, ?_, ?_, ?_, ?_⟩
   ·refine JU code (J1 code (J1 code c2 (psa.length : Int)) 24) ([(-1), (J6 code c2 (psa.length : Int)), (-2), 4611686018427387904]) ?_ ?_ ?_
    ·exact hb
    ·exact Jf (by repeat (first | assumption | apply Jk | apply Jh | apply Jd | exact JM)) (by omega)
    ·simp
   ·exact J4z _ _ _
   ·have v := J04 code c2 (n := (psa.length : Int)) (by omega)
    omega
   ·have v := J04 code c2 (n := (psa.length : Int)) (by omega)
    omega
   refine ⟨(psa.set ((J6 code c2 (psa.length : Int)).toNat) (([(-1), (J6 code c2 (psa.length : Int)), (-2), 4611686018427387904]).getD (J6 code (J1 code (J1 code c2 (psa.length : Int)) 24) (([(-1), (J6 code c2 (psa.length : Int)), (-2), 4611686018427387904]).length : Int)).toNat 0)), lsa, (J1 code (J1 code (J1 code c2 (psa.length : Int)) 24) (([(-1), (J6 code c2 (psa.length : Int)), (-2), 4611686018427387904]).length : Int)), ?_⟩
   refine ⟨?_, rfl, rfl, rfl, rfl, ?_, rfl, rfl, rfl⟩
   ·refine ⟨?_, ?_, ?_⟩
    ·exact Jf (by repeat (first | assumption | apply Jk | apply Jh | apply Jd | exact JM)) (by omega)
    ·simp; try omega
    ·first | omega | rfl | (intro hg; simp only [nrmT] at hg; omega) | (intro g1 g2; simp [g1, g2]; done) | (intro g1; simp at g1 ⊢; simp [g1]; done) | (simp only [nrmT] at *; omega) | (simp at * <;> omega) | (simp_all <;> omega) | (simp_all; done)
   simp; try omega
  intro b4
  try simp only [nrmT] at b4
  refine ⟨?_, ?_⟩
  ·intro b5
   try simp only [nrmT] at b5
   refine ⟨rfl, ?_, ?_, ?_, ?_, ?_⟩
   ·refine JU code (J1 code (J1 code c2 (psa.length : Int)) 24) ([99, 100, (-1)]) ?_ ?_ ?_
    ·exact hb
    ·exact Jf (by repeat (first | assumption | apply Jk | apply Jh | apply Jd | exact JM)) (by omega)
    ·simp
   ·exact J4z _ _ _
   ·have v := J04 code c2 (n := (psa.length : Int)) (by omega)
    omega
   ·have v := J04 code c2 (n := (psa.length : Int)) (by omega)
    omega
   refine ⟨psa, (lsa.set ((J6 code c2 (psa.length : Int)).toNat) (([99, 100, (-1)]).getD (J6 code (J1 code (J1 code c2 (psa.length : Int)) 24) (([99, 100, (-1)]).length : Int)).toNat 0)), (J1 code (J1 code (J1 code c2 (psa.length : Int)) 24) (([99, 100, (-1)]).length : Int)), ?_⟩
   refine ⟨?_, rfl, rfl, rfl, rfl, rfl, rfl, ?_, rfl⟩
   ·refine ⟨?_, ?_, ?_⟩
    ·exact Jf (by repeat (first | assumption | apply Jk | apply Jh | apply Jd | exact JM)) (by omega)
    ·first | omega | rfl | (intro hg; simp only [nrmT] at hg; omega) | (intro g1 g2; simp [g1, g2]; done) | (intro g1; simp at g1 ⊢; simp [g1]; done) | (simp only [nrmT] at *; omega) | (simp at * <;> omega) | (simp_all <;> omega) | (simp_all; done)
    ·simp; try omega
   simp; try omega
  intro b6
  try simp only [nrmT] at b6
  refine ⟨?_, ?_⟩
  ·intro b7
   try simp only [nrmT] at b7
   refine ⟨?_, ?_⟩
   ·refine ⟨psa, lsa, ?_⟩
    refine ⟨?_, rfl, rfl, rfl, rfl, rfl, rfl, rfl⟩
    ·refine ⟨?_, ?_⟩
     ·first | omega | rfl | (intro hg; simp only [nrmT] at hg; omega) | (intro g1 g2; simp [g1, g2]; done) | (intro g1; simp at g1 ⊢; simp [g1]; done) | (simp only [nrmT] at *; omega) | (simp at * <;> omega) | (simp_all <;> omega) | (simp_all; done)
     ·first | omega | rfl | (intro hg; simp only [nrmT] at hg; omega) | (intro g1 g2; simp [g1, g2]; done) | (intro g1; simp at g1 ⊢; simp [g1]; done) | (simp only [nrmT] at *; omega) | (simp at * <;> omega) | (simp_all <;> omega) | (simp_all; done)
   intro ps2 ls2 hJ
   obtain ⟨j1, j2⟩ := hJ
   refine ⟨?_, ?_⟩
   ·intro b8
    try simp only [nrmT] at b8
    refine ⟨rfl, rfl, ?_, rfl, rfl, ?_, ?_⟩
    ·first | omega | rfl | (intro hg; simp only [nrmT] at hg; omega) | (intro g1 g2; simp [g1, g2]; done) | (intro g1; simp at g1 ⊢; simp [g1]; done) | (simp only [nrmT] at *; omega) | (simp at * <;> omega) | (simp_all <;> omega) | (simp_all; done)
    ·first | omega | rfl | (intro hg; simp only [nrmT] at hg; omega) | (intro g1 g2; simp [g1, g2]; done) | (intro g1; simp at g1 ⊢; simp [g1]; done) | (simp only [nrmT] at *; omega) | (simp at * <;> omega) | (simp_all <;> omega) | (simp_all; done)
    refine ⟨(ps2 ++ [0]), (ls2 ++ [1]), ?_⟩
    refine ⟨?_, ?_, ?_, ?_, rfl, rfl, rfl, rfl, rfl⟩
    ·refine ⟨?_, ?_⟩
     ·simp; try omega
     ·simp; try omega
    ·first | (show _ < _; omega) | (simp only [J0f]; omega) | (simp only [J0f] at *; simp at *; omega)
    ·simp
    simp
   intro b9
   try simp only [nrmT] at b9
   refine ⟨ps2, ls2, (J1 code (J1 code c2 (psa.length : Int)) 24), ?_⟩
   refine ⟨?_, rfl, rfl, rfl, rfl, rfl, rfl, rfl, rfl⟩
   ·refine ⟨?_, ?_, ?_⟩
    ·exact Jf (by repeat (first | assumption | apply Jk | apply Jh | apply Jd | exact JM)) (by omega)
    ·first | omega | rfl | (intro hg; simp only [nrmT] at hg; omega) | (intro g1 g2; simp [g1, g2]; done) | (intro g1; simp at g1 ⊢; simp [g1]; done) | (simp only [nrmT] at *; omega) | (simp at * <;> omega) | (simp_all <;> omega) | (simp_all; done)
    ·first | omega | rfl | (intro hg; simp only [nrmT] at hg; omega) | (intro g1 g2; simp [g1, g2]; done) | (intro g1; simp at g1 ⊢; simp [g1]; done) | (simp only [nrmT] at *; omega) | (simp at * <;> omega) | (simp_all <;> omega) | (simp_all; done)
  intro b10
  try simp only [nrmT] at b10
  refine ⟨?_, ?_⟩
  ·intro b11
   try simp only [nrmT] at b11
   refine ⟨[], [], (J1 code (J1 code c2 (psa.length : Int)) 24), ?_⟩
   refine ⟨?_, rfl, rfl, rfl, rfl, rfl, rfl, rfl, rfl⟩
   ·refine ⟨?_, ?_, ?_⟩
    ·exact Jf (by repeat (first | assumption | apply Jk | apply Jh | apply Jd | exact JM)) (by omega)
    ·first | omega | rfl | (intro hg; simp only [nrmT] at hg; omega) | (intro g1 g2; simp [g1, g2]; done) | (intro g1; simp at g1 ⊢; simp [g1]; done) | (simp only [nrmT] at *; omega) | (simp at * <;> omega) | (simp_all <;> omega) | (simp_all; done)
    ·first | omega | rfl | (intro hg; simp only [nrmT] at hg; omega) | (intro g1 g2; simp [g1, g2]; done) | (intro g1; simp at g1 ⊢; simp [g1]; done) | (simp only [nrmT] at *; omega) | (simp at * <;> omega) | (simp_all <;> omega) | (simp_all; done)
  intro b12
  try simp only [nrmT] at b12
  refine ⟨psa, lsa, (J1 code (J1 code c2 (psa.length : Int)) 24), ?_⟩
  refine ⟨?_, rfl, rfl, rfl, rfl, rfl, rfl, rfl, rfl⟩
  ·refine ⟨?_, ?_, ?_⟩
   ·exact Jf (by repeat (first | assumption | apply Jk | apply Jh | apply Jd | exact JM)) (by omega)
   ·first | omega | rfl | (intro hg; simp only [nrmT] at hg; omega) | (intro g1 g2; simp [g1, g2]; done) | (intro g1; simp at g1 ⊢; simp [g1]; done) | (simp only [nrmT] at *; omega) | (simp at * <;> omega) | (simp_all <;> omega) | (simp_all; done)
   ·first | omega | rfl | (intro hg; simp only [nrmT] at hg; omega) | (intro g1 g2; simp [g1, g2]; done) | (intro g1; simp at g1 ⊢; simp [g1]; done) | (simp only [nrmT] at *; omega) | (simp at * <;> omega) | (simp_all <;> omega) | (simp_all; done)
theorem J2K (code : List Nat) (c : Cur) (hb : ∀ x9 ∈ code, x9 < 256) (hc : okC c 1000000) : PKE Try.prog 144 98 (.sl (.bytes code)) [.int .i64 c.pos, .int .u64 c.seed] [] (J0K code c) :=
  pke_by (Q := fun u => J22 u code c) (by kernel_rfl) Try.func144 @Try.call144 (by kernel_rfl) J5K (fun u => J5H u code c) (by kernel_rfl) (fun u => J54 u code c hb hc) (fun u => by kernel_rfl)
abbrev J1l (code : List Nat) (P : ZI) (L : ZI) : Prop := (P.length ≤ 8) ∧ (L.length ≤ 8)
def J1o (code : List Nat) : Ex := ex2 0 (fun (P : ZI) (L : ZI) => J1l code P L) (fun (P : ZI) (L : ZI) => []) (fun (P : ZI) (L : ZI) => .tup [.d (.sl (.ints P)), .d (.sl (.ints L))])
def J41 (f : FuncId) (ds : List D) : Orc := .no
def J4f (code : List Nat) : Ann := .two (.none) (.two (.none) (.two (.exr (.ex [] 1 (J0K code J3c) (fun g => (fun (Pr2 : ZI) (Lr2 : ZI) (cfr2 : Cur) => .ms [] []) (g.1) (g.2.1) (g.2.2)))) (.none)))
def J2n (code : List Nat) : Prop :=
  (PKE Try.prog 144 98 (.sl (.bytes code)) [.int .i64 0, .int .u64 0] [] (J0K code J3c)) ∧ (∀ Pr2 : ZI, ∀ Lr2 : ZI, ∀ cfr2 : Cur, JO code J3c Pr2 Lr2 cfr2 → ((true = true) ∧ (∃ P' : ZI, ∃ L' : ZI, (J1l code P' L') ∧ ((Pr2 : ZI) = P') ∧ ((Lr2 : ZI) = L'))))
theorem J3L (code : List Nat) (hb : ∀ x9 ∈ code, x9 < 256) (w_code : (code.length : Int) ≤ 9223372036854775807) : J2n code := by
  unfold J2n
  refine ⟨?_, ?_⟩
  ·refine J2K code J3c ?_ ?_
   ·exact hb
   ·exact Jf JM (by omega)
  intro Pr2 Lr2 cfr2 hQ9
  obtain ⟨f1r2, f2r2, f3r2⟩ := hQ9
  refine ⟨rfl, ?_⟩
  ·refine ⟨Pr2, Lr2, ?_⟩
   refine ⟨?_, rfl, rfl⟩
   ·refine ⟨?_, ?_⟩
    ·first | omega | rfl | (intro hg; simp only [nrmT] at hg; omega) | (intro g1 g2; simp [g1, g2]; done) | (intro g1; simp at g1 ⊢; simp [g1]; done) | (simp only [nrmT] at *; omega) | (simp at * <;> omega) | (simp_all <;> omega) | (simp_all; done)
    ·first | omega | rfl | (intro hg; simp only [nrmT] at hg; omega) | (intro g1 g2; simp [g1, g2]; done) | (intro g1; simp at g1 ⊢; simp [g1]; done) | (simp only [nrmT] at *; omega) | (simp at * <;> omega) | (simp_all <;> omega) | (simp_all; done)
theorem J3q (code : List Nat) (hb : ∀ x9 ∈ code, x9 < 256) : PE Try.prog 51 [.sl (.bytes code)] (J1o code) :=
  pe_wf @Try.call51 fun hw => pe_by (by kernel_rfl) Try.func51 @Try.call51 (by kernel_rfl) J41 (J4f code) (by kernel_rfl) (J3L code hb hw.1) (by kernel_rfl)
abbrev JV (code : List Nat) (ps : ZI) (c1 : Cur) (ws : ZI) (i : Int) (c2 : Cur) : Prop := (0 ≤ i ∧ i ≤ (ps.length : Int)) ∧ (ws.length = i.toNat) ∧ (okC c2 (1000100 + 4 * i))
abbrev JL (code : List Nat) (ps : ZI) (c1 : Cur) (ws : ZI) (i : Int) (c2 : Cur) : Nat := (ps.length - i).toNat
abbrev J0A (code : List Nat) (ps : ZI) (c1 : Cur) (wsa : ZI) (c4 : Cur) : Prop := (wsa.length ≤ 8) ∧ (okC c4 1000140)
abbrev J0z (code : List Nat) (ps : ZI) (c1 : Cur) : Prop := (okC c1 1000100) ∧ (ps.length ≤ 8)
abbrev JP (code : List Nat) (ps : ZI) (c1 : Cur) (wsa : ZI) (c4 : Cur) (ws2 : ZI) (c3 : Cur) : Prop := (ws2.length ≤ 9) ∧ (okC c3 1000200)
abbrev J0i (code : List Nat) (ps : ZI) (c1 : Cur) (wsa : ZI) (c4 : Cur) (ws2 : ZI) (c3 : Cur) (gd : Bool) (c5 : Cur) : Prop := (gd = true → 0 < ws2.length) ∧ (okC c5 1000300)
abbrev J07 (code : List Nat) (P : ZI) (W : ZI) : Prop := (P.length ≤ 8) ∧ (W.length ≤ 9)
def J0U (code : List Nat) : Ex := ex2 0 (fun (P : ZI) (W : ZI) => J07 code P W) (fun (P : ZI) (W : ZI) => []) (fun (P : ZI) (W : ZI) => .tup [.d (.sl (.ints P)), .d (.sl (.ints W))])
def J3e (f : FuncId) (ds : List D) : Orc := .no
def J37 (code : List Nat) : Ann := .two (.none) (.two (.none) (.cut (.exr (.ex [] 1 (J0K code J3c) (fun g => (fun (Pr2 : ZI) (Lr2 : ZI) (cfr2 : Cur) => .ms [] []) (g.1) (g.2.1) (g.2.2)))) (cut2 (fun (ps : ZI) (c1 : Cur) => J0z code ps c1) (fun (ps : ZI) (c1 : Cur) => [(4, .ptr 11 0), (5, .d true (.sl (.ints ps)))]) (fun (ps : ZI) (c1 : Cur) => [(11, .box 98 [.d false (.sl (.bytes code)), .d true (.int .i64 c1.pos), .d true (.int .u64 c1.seed)])])) (fun g => (fun (ps : ZI) (c1 : Cur) => .two (.none) (.cut (.two (.none) (.loop (cut3 (fun (ws : ZI) (i : Int) (c2 : Cur) => JV code ps c1 ws i c2) (fun (ws : ZI) (i : Int) (c2 : Cur) => [(4, .ptr 11 0), (5, .d true (.sl (.ints ps))), (7, .own 1000000 ws.length), (8, .d true (.int .i64 i))]) (fun (ws : ZI) (i : Int) (c2 : Cur) => [(1000000, .arr true 3 (.ints ws)), (11, .box 98 [.d false (.sl (.bytes code)), .d true (.int .i64 c2.pos), .d true (.int .u64 c2.seed)])])) (fun g => JL code ps c1 g.1 g.2.1 g.2.2) (fun g => (fun (ws : ZI) (i : Int) (c2 : Cur) => .two (.none) (.two (.mark [] [(3, .cell [.int .i64 ((J1 code c2 (([1, 1, 2, 3, 0, 7, 99]).length : Int)).pos), .int .u64 ((J1 code c2 (([1, 1, 2, 3, 0, 7, 99]).length : Int)).seed)] (.one (.d (.int .i64 (([1, 1, 2, 3, 0, 7, 99]).getD (J6 code c2 (([1, 1, 2, 3, 0, 7, 99]).length : Int)).toNat 0)))))]) (.none))) (g.1) (g.2.1) (g.2.2)))) (cut2 (fun (wsa : ZI) (c4 : Cur) => J0A code ps c1 wsa c4) (fun (wsa : ZI) (c4 : Cur) => [(4, .ptr 11 0), (5, .d true (.sl (.ints ps))), (7, .own 1000050 wsa.length)]) (fun (wsa : ZI) (c4 : Cur) => [(1000050, .arr true 3 (.ints wsa)), (11, .box 98 [.d false (.sl (.bytes code)), .d true (.int .i64 c4.pos), .d true (.int .u64 c4.seed)])])) (fun g => (fun (wsa : ZI) (c4 : Cur) => .cut (.two (.mark [] [(1, .cell [.int .i64 ((J1 code c4 16).pos), .int .u64 ((J1 code c4 16).seed)] (.one (.d (.bool (J6 code c4 16 == 0)))))]) (.two (.mark [] [(3, .cell [.int .i64 ((J1 code (J1 code c4 16) (([1, (-1), 100]).length : Int)).pos), .int .u64 ((J1 code (J1 code c4 16) (([1, (-1), 100]).length : Int)).seed)] (.one (.d (.int .i64 (([1, (-1), 100]).getD (J6 code (J1 code c4 16) (([1, (-1), 100]).length : Int)).toNat 0)))))]) (.none))) (cut2 (fun (ws2 : ZI) (c3 : Cur) => JP code ps c1 wsa c4 ws2 c3) (fun (ws2 : ZI) (c3 : Cur) => [(4, .ptr 11 0), (5, .d true (.sl (.ints ps))), (7, .own 1601000 ws2.length)]) (fun (ws2 : ZI) (c3 : Cur) => [(1601000, .arr true 3 (.ints ws2)), (11, .box 98 [.d false (.sl (.bytes code)), .d true (.int .i64 c3.pos), .d true (.int .u64 c3.seed)])])) (fun g => (fun (ws2 : ZI) (c3 : Cur) => .two (.cut (.mark [] [(5, .cell [.int .i64 ((J1 code c3 16).pos), .int .u64 ((J1 code c3 16).seed)] (.one (.d (.bool (J6 code c3 16 == 0)))))]) (cut2 (fun (gd : Bool) (c5 : Cur) => J0i code ps c1 wsa c4 ws2 c3 gd c5) (fun (gd : Bool) (c5 : Cur) => [(4, .ptr 11 0), (5, .d true (.sl (.ints ps))), (7, .own 1601000 ws2.length), (44, .d true (.bool gd))]) (fun (gd : Bool) (c5 : Cur) => [(11, .box 98 [.d false (.sl (.bytes code)), .d true (.int .i64 c5.pos), .d true (.int .u64 c5.seed)]), (1601000, .arr true 3 (.ints ws2))])) (fun g => (fun (gd : Bool) (c5 : Cur) => .two (.mark [] [(4, .cell [.int .i64 ((J1 code c5 (ws2.length : Int)).pos), .int .u64 ((J1 code c5 (ws2.length : Int)).seed)] (.one (.d (.int .i64 (J6 code c5 (ws2.length : Int)))))), (7, .cell [.int .i64 ((J1 code (J1 code c5 (ws2.length : Int)) (([(-1), 100, 99, 4611686018427387904]).length : Int)).pos), .int .u64 ((J1 code (J1 code c5 (ws2.length : Int)) (([(-1), 100, 99, 4611686018427387904]).length : Int)).seed)] (.one (.d (.int .i64 (([(-1), 100, 99, 4611686018427387904]).getD (J6 code (J1 code c5 (ws2.length : Int)) (([(-1), 100, 99, 4611686018427387904]).length : Int)).toNat 0)))))]) (.none)) (g.1) (g.2))) (.none)) (g.1) (g.2))) (g.1) (g.2)))) (g.1) (g.2))))
def J1S (code : List Nat) : Prop :=
  (((PKE Try.prog 144 98 (.sl (.bytes code)) [.int .i64 0, .int .u64 0] [] (J0K code J3c)) ∧ (∀ Pr2 : ZI, ∀ Lr2 : ZI, ∀ cfr2 : Cur, JO code J3c Pr2 Lr2 cfr2 → ((true = true) ∧ (∃ ps' : ZI, ∃ c1' : Cur, (J0z code ps' c1') ∧ (Pr2 = ps') ∧ (code = code) ∧ (cfr2.pos = c1'.pos) ∧ (cfr2.seed = c1'.seed))))) ∧ (∀ ps : ZI, ∀ c1 : Cur, (J0z code ps c1) → ((((∃ ws' : ZI, ∃ i' : Int, ∃ c2' : Cur, (JV code ps c1 ws' i' c2') ∧ (ps = ps) ∧ ((0 : Nat) = ws'.length) ∧ ((0 : Int) = i') ∧ ([] = ws') ∧ (code = code) ∧ (c1.pos = c2'.pos) ∧ (c1.seed = c2'.seed)) ∧ (∀ ws : ZI, ∀ i : Int, ∀ c2 : Cur, (JV code ps c1 ws i c2) → (((decide (i < (ps.length : Int))) = true → ((7 : Nat) = 7) ∧ (PK Try.prog 106 98 (.sl (.bytes code)) [.int .i64 c2.pos, .int .u64 c2.seed] [.int .i64 ((J1 code c2 (([1, 1, 2, 3, 0, 7, 99]).length : Int)).pos), .int .u64 ((J1 code c2 (([1, 1, 2, 3, 0, 7, 99]).length : Int)).seed)] [.sl (.ints ([1, 1, 2, 3, 0, 7, 99]))] (.one (.d (.int .i64 (([1, 1, 2, 3, 0, 7, 99]).getD (J6 code c2 (([1, 1, 2, 3, 0, 7, 99]).length : Int)).toNat 0))))) ∧ (ws.length = ws.length) ∧ ((1 : Nat) = 1) ∧ ((ws.length + 1) * 8 ≤ 140737488355328) ∧ (I6 (i + 1)) ∧ (∃ ws' : ZI, ∃ i' : Int, ∃ c2' : Cur, (JV code ps c1 ws' i' c2') ∧ (JL code ps c1 ws' i' c2' < JL code ps c1 ws i c2) ∧ (ps = ps) ∧ ((ws.length + 1) = ws'.length) ∧ ((i + 1) = i') ∧ ((ws ++ [(([1, 1, 2, 3, 0, 7, 99]).getD (J6 code c2 (([1, 1, 2, 3, 0, 7, 99]).length : Int)).toNat 0)]) = ws') ∧ (code = code) ∧ ((J1 code c2 (([1, 1, 2, 3, 0, 7, 99]).length : Int)).pos = c2'.pos) ∧ ((J1 code c2 (([1, 1, 2, 3, 0, 7, 99]).length : Int)).seed = c2'.seed))) ∧ ((decide (i < (ps.length : Int))) = false → (∃ wsa' : ZI, ∃ c4' : Cur, (J0A code ps c1 wsa' c4') ∧ (ps = ps) ∧ (ws.length = wsa'.length) ∧ (ws = wsa') ∧ (code = code) ∧ (c2.pos = c4'.pos) ∧ (c2.seed = c4'.seed))))))) ∧ (∀ wsa : ZI, ∀ c4 : Cur, (J0A code ps c1 wsa c4) → (((PK Try.prog 108 98 (.sl (.bytes code)) [.int .i64 c4.pos, .int .u64 c4.seed] [.int .i64 ((J1 code c4 16).pos), .int .u64 ((J1 code c4 16).seed)] [.int .i64 16] (.one (.d (.bool (J6 code c4 16 == 0))))) ∧ (((J6 code c4 16 == 0) = true → ((3 : Nat) = 3) ∧ (PK Try.prog 106 98 (.sl (.bytes code)) [.int .i64 ((J1 code c4 16).pos), .int .u64 ((J1 code c4 16).seed)] [.int .i64 ((J1 code (J1 code c4 16) (([1, (-1), 100]).length : Int)).pos), .int .u64 ((J1 code (J1 code c4 16) (([1, (-1), 100]).length : Int)).seed)] [.sl (.ints ([1, (-1), 100]))] (.one (.d (.int .i64 (([1, (-1), 100]).getD (J6 code (J1 code c4 16) (([1, (-1), 100]).length : Int)).toNat 0))))) ∧ (wsa.length = wsa.length) ∧ ((1 : Nat) = 1) ∧ ((wsa.length + 1) * 8 ≤ 140737488355328) ∧ (∃ ws2' : ZI, ∃ c3' : Cur, (JP code ps c1 wsa c4 ws2' c3') ∧ (ps = ps) ∧ ((wsa.length + 1) = ws2'.length) ∧ ((wsa ++ [(([1, (-1), 100]).getD (J6 code (J1 code c4 16) (([1, (-1), 100]).length : Int)).toNat 0)]) = ws2') ∧ (code = code) ∧ ((J1 code (J1 code c4 16) (([1, (-1), 100]).length : Int)).pos = c3'.pos) ∧ ((J1 code (J1 code c4 16) (([1, (-1), 100]).length : Int)).seed = c3'.seed))) ∧ ((J6 code c4 16 == 0) = false → (∃ ws2' : ZI, ∃ c3' : Cur, (JP code ps c1 wsa c4 ws2' c3') ∧ (ps = ps) ∧ (wsa.length = ws2'.length) ∧ (wsa = ws2') ∧ (code = code) ∧ ((J1 code c4 16).pos = c3'.pos) ∧ ((J1 code c4 16).seed = c3'.seed))))) ∧ (∀ ws2 : ZI, ∀ c3 : Cur, (JP code ps c1 wsa c4 ws2 c3) → ((((decide ((ws2.length : Int) > 0)) = true → (decide ((ws2.length : Int) > 0)) = true) ∧ ((decide ((ws2.length : Int) > 0)) = true → PK Try.prog 108 98 (.sl (.bytes code)) [.int .i64 c3.pos, .int .u64 c3.seed] [.int .i64 ((J1 code c3 16).pos), .int .u64 ((J1 code c3 16).seed)] [.int .i64 16] (.one (.d (.bool (J6 code c3 16 == 0))))) ∧ (true = true) ∧ (((decide ((ws2.length : Int) > 0)) = true → (decide ((ws2.length : Int) > 0)) = true)) ∧ (((decide ((ws2.length : Int) > 0)) = false → true = true)) ∧ (∃ gd' : Bool, ∃ c5' : Cur, (J0i code ps c1 wsa c4 ws2 c3 gd' c5') ∧ (ps = ps) ∧ (ws2.length = ws2.length) ∧ ((cond (decide ((ws2.length : Int) > 0)) (J6 code c3 16 == 0) false) = gd') ∧ (code = code) ∧ ((cond (decide ((ws2.length : Int) > 0)) ((J1 code c3 16).pos) c3.pos) = c5'.pos) ∧ ((cond (decide ((ws2.length : Int) > 0)) ((J1 code c3 16).seed) c3.seed) = c5'.seed) ∧ (ws2 = ws2))) ∧ (∀ gd : Bool, ∀ c5 : Cur, (J0i code ps c1 wsa c4 ws2 c3 gd c5) → ((gd = true → (PK Try.prog 107 98 (.sl (.bytes code)) [.int .i64 c5.pos, .int .u64 c5.seed] [.int .i64 ((J1 code c5 (ws2.length : Int)).pos), .int .u64 ((J1 code c5 (ws2.length : Int)).seed)] [.int .i64 (ws2.length : Int)] (.one (.d (.int .i64 (J6 code c5 (ws2.length : Int)))))) ∧ ((4 : Nat) = 4) ∧ (PK Try.prog 106 98 (.sl (.bytes code)) [.int .i64 ((J1 code c5 (ws2.length : Int)).pos), .int .u64 ((J1 code c5 (ws2.length : Int)).seed)] [.int .i64 ((J1 code (J1 code c5 (ws2.length : Int)) (([(-1), 100, 99, 4611686018427387904]).length : Int)).pos), .int .u64 ((J1 code (J1 code c5 (ws2.length : Int)) (([(-1), 100, 99, 4611686018427387904]).length : Int)).seed)] [.sl (.ints ([(-1), 100, 99, 4611686018427387904]))] (.one (.d (.int .i64 (([(-1), 100, 99, 4611686018427387904]).getD (J6 code (J1 code c5 (ws2.length : Int)) (([(-1), 100, 99, 4611686018427387904]).length : Int)).toNat 0))))) ∧ ((0 : Int) ≤ (J6 code c5 (ws2.length : Int))) ∧ (((J6 code c5 (ws2.length : Int)) : Int) < (ws2.length : Int)) ∧ ((J6 code c5 (ws2.length : Int)).toNat < ws2.length) ∧ (∃ P' : ZI, ∃ W' : ZI, (J07 code P' W') ∧ ((ps : ZI) = P') ∧ (ws2.length = (ws2.set ((J6 code c5 (ws2.length : Int)).toNat) (([(-1), 100, 99, 4611686018427387904]).getD (J6 code (J1 code c5 (ws2.length : Int)) (([(-1), 100, 99, 4611686018427387904]).length : Int)).toNat 0)).length) ∧ (((ws2.set ((J6 code c5 (ws2.length : Int)).toNat) (([(-1), 100, 99, 4611686018427387904]).getD (J6 code (J1 code c5 (ws2.length : Int)) (([(-1), 100, 99, 4611686018427387904]).length : Int)).toNat 0)) : ZI) = W'))) ∧ (gd = false → (∃ P' : ZI, ∃ W' : ZI, (J07 code P' W') ∧ ((ps : ZI) = P') ∧ (ws2.length = ws2.length) ∧ ((ws2 : ZI) = W'))))))))))))
theorem J32 (code : List Nat) (hb : ∀ x9 ∈ code, x9 < 256) (w_code : (code.length : Int) ≤ 9223372036854775807) : J1S code := by
  unfold J1S
  refine ⟨?_, ?_⟩
  ·refine ⟨?_, ?_⟩
   ·refine J2K code J3c ?_ ?_
    ·exact hb
    ·exact Jf JM (by omega)
   ·intro Pr2 Lr2 cfr2 hQ9
    obtain ⟨f1r2, f2r2, f3r2⟩ := hQ9
    refine ⟨rfl, ?_⟩
    ·refine ⟨Pr2, cfr2, ?_⟩
     refine ⟨?_, rfl, rfl, rfl, rfl⟩
     ·refine ⟨?_, ?_⟩
      ·exact Jf (by repeat (first | assumption | apply Jk | apply Jh | apply Jd | exact JM)) (by omega)
      ·first | omega | rfl | (intro hg; simp only [nrmT] at hg; omega) | (intro g1 g2; simp [g1, g2]; done) | (intro g1; simp at g1 ⊢; simp [g1]; done) | (simp only [nrmT] at *; omega) | (simp at * <;> omega) | (simp_all <;> omega) | (simp_all; done)
  intro ps c1 hJ
  obtain ⟨q1, q2⟩ := hJ
  refine ⟨?_, ?_⟩
  ·refine ⟨?_, ?_⟩
   ·refine ⟨([]), 0, c1, ?_⟩
    refine ⟨?_, rfl, rfl, rfl, ?_, rfl, rfl, rfl⟩
    ·refine ⟨?_, ?_, ?_⟩
     ·first | omega | rfl | (intro hg; simp only [nrmT] at hg; omega) | (intro g1 g2; simp [g1, g2]; done) | (intro g1; simp at g1 ⊢; simp [g1]; done) | (simp only [nrmT] at *; omega) | (simp at * <;> omega) | (simp_all <;> omega) | (simp_all; done)
     ·first | omega | rfl | (intro hg; simp only [nrmT] at hg; omega) | (intro g1 g2; simp [g1, g2]; done) | (intro g1; simp at g1 ⊢; simp [g1]; done) | (simp only [nrmT] at *; omega) | (simp at * <;> omega) | (simp_all <;> omega) | (simp_all; done)
     ·exact Jf (by repeat (first | assumption | apply Jk | apply Jh | apply Jd | exact JM)) (by omega)
    first | omega | rfl | (intro hg; simp only [nrmT] at hg; omega) | (intro g1 g2; simp [g1, g2]; done) | (intro g1; simp at g1 ⊢; simp [g1]; done) | (simp only [nrmT] at *; omega) | (simp at * <;> omega) | (simp_all <;> omega) | (simp_all; done)
   ·intro ws i c2 hJ
    obtain ⟨h1, h2, h3⟩ := hJ
    refine ⟨?_, ?_⟩
    ·intro b1
     try simp only [nrmT] at b1
     refine ⟨rfl, ?_, rfl, rfl, ?_, ?_, ?_⟩
     ·refine JU code c2 ([1, 1, 2, 3, 0, 7, 99]) ?_ ?_ ?_
      ·exact hb
      ·exact Jf (by repeat (first | assumption | apply Jk | apply Jh | apply Jd | exact JM)) (by omega)
      ·simp
     ·first | omega | rfl | (intro hg; simp only [nrmT] at hg; omega) | (intro g1 g2; simp [g1, g2]; done) | (intro g1; simp at g1 ⊢; simp [g1]; done) | (simp only [nrmT] at *; omega) | (simp at * <;> omega) | (simp_all <;> omega) | (simp_all; done)
     ·first | omega | rfl | (intro hg; simp only [nrmT] at hg; omega) | (intro g1 g2; simp [g1, g2]; done) | (intro g1; simp at g1 ⊢; simp [g1]; done) | (simp only [nrmT] at *; omega) | (simp at * <;> omega) | (simp_all <;> omega) | (simp_all; done)
     refine ⟨(ws ++ [(([1, 1, 2, 3, 0, 7, 99]).getD (J6 code c2 (([1, 1, 2, 3, 0, 7, 99]).length : Int)).toNat 0)]), (i + 1), (J1 code c2 (([1, 1, 2, 3, 0, 7, 99]).length : Int)), ?_⟩
     refine ⟨?_, ?_, rfl, ?_, rfl, rfl, rfl, rfl, rfl⟩
     ·refine ⟨?_, ?_, ?_⟩
      ·first | omega | rfl | (intro hg; simp only [nrmT] at hg; omega) | (intro g1 g2; simp [g1, g2]; done) | (intro g1; simp at g1 ⊢; simp [g1]; done) | (simp only [nrmT] at *; omega) | (simp at * <;> omega) | (simp_all <;> omega) | (simp_all; done)
      ·simp; try omega
      ·exact Jf (by repeat (first | assumption | apply Jk | apply Jh | apply Jd | exact JM)) (by omega)
     ·first | (show _ < _; omega) | (simp only [JL]; omega) | (simp only [JL] at *; simp at *; omega)
     simp
    intro b2
    try simp only [nrmT] at b2
    refine ⟨ws, c2, ?_⟩
    refine ⟨?_, rfl, rfl, rfl, rfl, rfl, rfl⟩
    ·refine ⟨?_, ?_⟩
     ·first | omega | rfl | (intro hg; simp only [nrmT] at hg; omega) | (intro g1 g2; simp [g1, g2]; done) | (intro g1; simp at g1 ⊢; simp [g1]; done) | (simp only [nrmT] at *; omega) | (simp at * <;> omega) | (simp_all <;> omega) | (simp_all; done)
     ·exact Jf (by repeat (first | assumption | apply Jk | apply Jh | apply Jd | exact JM)) (by omega)
  intro wsa c4 hJ
  obtain ⟨k3, k4⟩ := hJ
  refine ⟨?_, ?_⟩
  ·refine ⟨?_, ?_, ?_⟩
   ·refine J2Z code c4 16 ?_ ?_
    ·exact hb
    ·exact Jf (by repeat (first | assumption | apply Jk | apply Jh | apply Jd | exact JM)) (by omega)
   ·intro b3
    try simp only [nrmT] at b3
    refine ⟨rfl, ?_, rfl, rfl, ?_, ?_⟩
    ·refine JU code (J1 code c4 16) ([1, (-1), 100]) ?_ ?_ ?_
     ·exact hb
     ·exact Jf (by repeat (first | assumption | apply Jk | apply Jh | apply Jd | exact JM)) (by omega)
     ·simp
    ·first | omega | rfl | (intro hg; simp only [nrmT] at hg; omega) | (intro g1 g2; simp [g1, g2]; done) | (intro g1; simp at g1 ⊢; simp [g1]; done) | (simp only [nrmT] at *; omega) | (simp at * <;> omega) | (simp_all <;> omega) | (simp_all; done)
    refine ⟨(wsa ++ [(([1, (-1), 100]).getD (J6 code (J1 code c4 16) (([1, (-1), 100]).length : Int)).toNat 0)]), (J1 code (J1 code c4 16) (([1, (-1), 100]).length : Int)), ?_⟩
    refine ⟨?_, rfl, ?_, rfl, rfl, rfl, rfl⟩
    ·refine ⟨?_, ?_⟩
     ·simp; try omega
     ·exact Jf (by repeat (first | assumption | apply Jk | apply Jh | apply Jd | exact JM)) (by omega)
    simp
   ·intro b4
    try simp only [nrmT] at b4
    refine ⟨wsa, (J1 code c4 16), ?_⟩
    refine ⟨?_, rfl, rfl, rfl, rfl, rfl, rfl⟩
    ·refine ⟨?_, ?_⟩
     ·first | omega | rfl | (intro hg; simp only [nrmT] at hg; omega) | (intro g1 g2; simp [g1, g2]; done) | (intro g1; simp at g1 ⊢; simp [g1]; done) | (simp only [nrmT] at *; omega) | (simp at * <;> omega) | (simp_all <;> omega) | (simp_all; done)
     ·exact Jf (by repeat (first | assumption | apply Jk | apply Jh | apply Jd | exact JM)) (by omega)
  intro ws2 c3 hJ
  obtain ⟨k1, k2⟩ := hJ
  refine ⟨?_, ?_⟩
  ·refine ⟨id, ?_, rfl, id, fun _ => rfl, ?_⟩
   ·intro hg
    refine J2Z code c3 16 ?_ ?_
    ·exact hb
    exact Jf (by repeat (first | assumption | apply Jk | apply Jh | apply Jd | exact JM)) (by omega)
   ·refine ⟨(cond (decide ((ws2.length : Int) > 0)) (J6 code c3 16 == 0) false), (cond (decide ((ws2.length : Int) > 0)) (J1 code c3 16) c3), ?_⟩
    refine ⟨?_, rfl, rfl, rfl, rfl, J6y _ _ _, J6t _ _ _, rfl⟩
    ·refine ⟨?_, ?_⟩
     ·intro hq
      rcases Nat.eq_zero_or_pos ws2.length with h | h
      · rw [h] at hq; simp at hq
      exact h
     ·exact Jf (by repeat (first | assumption | apply Jk | apply Jh | apply Jd | exact JM)) (by omega)
  intro gd c5 hJ
  obtain ⟨k5, k6⟩ := hJ
  refine ⟨?_, ?_⟩
  ·intro b5
   try simp only [nrmT] at b5
   refine ⟨?_, rfl, ?_, ?_, ?_, ?_, ?_⟩
   ·refine JQ code c5 (ws2.length : Int) ?_ ?_
    ·exact hb
    ·exact Jf (by repeat (first | assumption | apply Jk | apply Jh | apply Jd | exact JM)) (by omega)
   ·refine JU code (J1 code c5 (ws2.length : Int)) ([(-1), 100, 99, 4611686018427387904]) ?_ ?_ ?_
    ·exact hb
    ·exact Jf (by repeat (first | assumption | apply Jk | apply Jh | apply Jd | exact JM)) (by omega)
    ·simp
   ·exact J4z _ _ _
   ·have hp : 0 < ws2.length := k5 (by assumption)
    have v := fun c => J04 code c (n := (ws2.length : Int)) (by omega)
    exact (v _).2
   ·have hp : 0 < ws2.length := k5 (by assumption)
    have v := fun c => J04 code c (n := (ws2.length : Int)) (by omega)
    exact (Int.toNat_lt (v _).1).2 (v _).2
   refine ⟨ps, (ws2.set ((J6 code c5 (ws2.length : Int)).toNat) (([(-1), 100, 99, 4611686018427387904]).getD (J6 code (J1 code c5 (ws2.length : Int)) (([(-1), 100, 99, 4611686018427387904]).length : Int)).toNat 0)), ?_⟩
   refine ⟨?_, rfl, ?_, rfl⟩
   ·refine ⟨?_, ?_⟩
    ·first | omega | rfl | (intro hg; simp only [nrmT] at hg; omega) | (intro g1 g2; simp [g1, g2]; done) | (intro g1; simp at g1 ⊢; simp [g1]; done) | (simp only [nrmT] at *; omega) | (simp at * <;> omega) | (simp_all <;> omega) | (simp_all; done)
    ·simp; try omega
   simp; try omega
  intro b6
  try simp only [nrmT] at b6
  refine ⟨ps, ws2, ?_⟩
  refine ⟨?_, rfl, rfl, rfl⟩
  ·refine ⟨?_, ?_⟩
   ·first | omega | rfl | (intro hg; simp only [nrmT] at hg; omega) | (intro g1 g2; simp [g1, g2]; done) | (intro g1; simp at g1 ⊢; simp [g1]; done) | (simp only [nrmT] at *; omega) | (simp at * <;> omega) | (simp_all <;> omega) | (simp_all; done)
   ·first | omega | rfl | (intro hg; simp only [nrmT] at hg; omega) | (intro g1 g2; simp [g1, g2]; done) | (intro g1; simp at g1 ⊢; simp [g1]; done) | (simp only [nrmT] at *; omega) | (simp at * <;> omega) | (simp_all <;> omega) | (simp_all; done)
theorem J33 (code : List Nat) (hb : ∀ x9 ∈ code, x9 < 256) : PE Try.prog 55 [.sl (.bytes code)] (J0U code) :=
  pe_wf @Try.call55 fun hw => pe_by (by kernel_rfl) Try.func55 @Try.call55 (by kernel_rfl) J3e (J37 code) (by kernel_rfl) (J32 code hb hw.1) (by kernel_rfl)
theorem J5S : ∀ {p : Nat → Bool} {n : Nat}, (∃ k, k < n ∧ p k = true) → ∃ k, k < n ∧ p k = true ∧ ∀ j, k < j → j < n → p j = false
  | p, 0, ⟨k, h, _⟩ => absurd h (Nat.not_lt_zero k)
  | p, n + 1, ⟨k, h, hk⟩ => by
    cases e : p n with
    | true => exact ⟨n, Nat.lt_succ_self n, e, fun j h1 h2 => by omega⟩
    | false =>
      have hkn : k ≠ n := fun q => by rw [q, e] at hk; cases hk
      obtain ⟨m, m1, m2, m3⟩ := J5S (p := p) (n := n) ⟨k, by omega, hk⟩
      refine ⟨m, by omega, m2, fun j h1 h2 => ?_⟩
      by_cases q : j = n
      · rw [q]; exact e
      exact m3 j h1 (by omega)
theorem J6P {ps ws : ZI} {m : Nat} (h1 : 2 * (Jn ps ws - bel ps ws m) ≤ Jn ps ws) (h2 : ∀ c, 0 < c → c < ps.length → upN ps c = m → 2 * bel ps ws c ≤ Jn ps ws) : Jv ps ws m = true := by
  unfold Jv
  rw [Bool.and_eq_true, decide_eq_true_eq]
  refine ⟨h1, allTo_iff.2 fun c hc => ?_⟩
  unfold chB
  by_cases q : 0 < c ∧ upN ps c = m
  · rw [decide_eq_true q, decide_eq_true (h2 c q.1 hc q.2)]; rfl
  rw [decide_eq_false q]; rfl
theorem J1h {ps ws : ZI} (h : mjR ps ws = true) : mjB ps ws = true ∧ 0 ≤ mjN ps ws ∧ mjN ps ws < (ps.length : Int) ∧ J6v ps ws (mjN ps ws).toNat := by
  obtain ⟨q1, q2, q3, q4, q5, q6⟩ := J5 h
  obtain ⟨t1, t2, t3, t4⟩ := J4 q1
  have ex : ∃ m, m < ps.length ∧ Jv ps ws m = true := by
    by_cases hz : Jn ps ws = 0
    · refine ⟨0, by omega, J6P (by rw [JD t4]; omega) fun c _ _ _ => ?_⟩
      have := q6 c
      omega
    obtain ⟨m, m1, m2, m3⟩ := J5S (p := fun x => decide (Jn ps ws < 2 * bel ps ws x)) (n := ps.length) ⟨0, by omega, by rw [decide_eq_true_eq, JD t4]; omega⟩
    have m2 := of_decide_eq_true m2
    refine ⟨m, m1, J6P (by omega) fun c c1 c2 c3 => ?_⟩
    have hu := (t4 c c1 c2).2
    have := of_decide_eq_false (m3 c (by omega) c2)
    omega
  obtain ⟨m, m1, m2⟩ := ex
  have hany : (J39 ps.length).any (fun x : Int => Jv ps ws x.toNat) = true := by
    rw [List.any_eq_true]
    exact ⟨(m : Int), mem_members.2 ⟨by omega, by omega, rfl⟩, by simpa using m2⟩
  rw [← idx_any, decide_eq_true_eq] at hany
  have hany : 0 ≤ mjI ps ws := hany
  have hf := J7W (p := fun x : Int => Jv ps ws x.toNat) (xs := J39 ps.length) (d := 0) hany (i := m) (by rw [J0x]; exact m1) (by rw [JR m1, Int.toNat_natCast]; exact m2)
  have hlt : mjI ps ws < (ps.length : Int) := by
    have : mjI ps ws ≤ (m : Int) := hf.1
    omega
  have eN : mjN ps ws = mjI ps ws := by
    unfold mjN
    rw [if_pos h, if_neg (by omega)]
  have hat : Jv ps ws (mjI ps ws).toNat = true := by
    have h2 : Jv ps ws ((J39 ps.length).getD (mjI ps ws).toNat 0).toNat = true := hf.2
    rwa [JR (by omega), Int.toNat_natCast] at h2
  refine ⟨by unfold mjB; rw [h, decide_eq_true hany]; rfl, by rw [eN]; exact hany, by rw [eN]; exact hlt, ?_⟩
  rw [eN]
  exact J8y hat (by omega)
theorem J9 {ps ls : ZI} (h : tfB ps ls = true) : J2 ps = true ∧ JN ps ∧ (1 ≤ ps.length ∧ ps.length ≤ 7) ∧ J0 (tfO ps ls) (tfD ps ls) = true ∧ (tfO ps ls).length = ps.length ∧ (tfD ps ls).length = ps.length ∧ (∀ x, x < ps.length → ((tfD ps ls).getD x []).length = ps.length) ∧
    (∀ x y, x < ps.length → y < ps.length → ((tfD ps ls).getD x []).getD y 0 = tdL ps ls x y) ∧ J0I (tfO ps ls).length (tfD ps ls) = true ∧ (∀ z, z < ps.length → 0 ≤ ls.getD z 0 ∧ ls.getD z 0 ≤ 99) ∧ (∀ x y, 0 ≤ tdL ps ls x y ∧ tdL ps ls x y ≤ 693) ∧ ls.length = ps.length := by
  obtain ⟨y1, y2, y3, y4⟩ := J6O h
  obtain ⟨q1, q2, q3, q4, q5, q6, q7⟩ := Jc y3
  have e1 : (tfO ps ls).length = ps.length := by rw [y1]; simp
  have hat : ∀ x y, x < ps.length → y < ps.length → ((tfD ps ls).getD x []).getD y 0 = tdL ps ls x y := fun x y hx hy => by rw [y2]; exact J8X hx hy
  have e2 : (tfD ps ls).length = ps.length := by rw [y2]; exact J8N _ _
  refine ⟨q1, q3, q2, y4, e1, e2, fun x hx => by rw [y2, J7k hx, tabTo_len], hat, ?_, q5, q7, q4⟩
  unfold J0I
  refine allTo_iff.2 fun i hi => allTo_iff.2 fun j hj => allTo_iff.2 fun a ha => allTo_iff.2 fun b hb => ?_
  unfold J4X
  rw [hat i a (by omega) (by omega), hat i b (by omega) (by omega), hat j b (by omega) (by omega), hat j a (by omega) (by omega), decide_eq_false]
  · rfl
  have h1 := J7l (ps := ps) (ls := ls) (fun z hz => (q5 z hz).1) i a b
  have h2 := J7l (ps := ps) (ls := ls) (fun z hz => (q5 z hz).1) b a j
  have h3 := J7 ps ls b j
  omega
theorem J8Q {ps ls : ZI} (ht : JN ps) {x : Nat} (h0 : 0 < x) (hx : x < ps.length) : tdL ps ls x (upN ps x) = ls.getD x 0 := by
  have := (ht x h0 hx).2
  rw [J8 ht this hx, J3f]
  omega
theorem J8H {ps ls : ZI} (x : Nat) : J0y ps ls (List.replicate ps.length 1) x = Jb (fun y => tdL ps ls y x) ps.length := by
  unfold J0y
  refine Jg fun y hy => ?_
  simp only [List.getD_eq_getElem?_getD, List.getElem?_replicate, hy, if_true, Option.getD_some, Int.one_mul]
theorem J8h {ps : ZI} (h : J2 ps = true) : mjR ps (List.replicate ps.length 1) = true := by
  unfold mjR J3
  rw [h]
  simp only [List.length_replicate, decide_true, Bool.and_true, Bool.true_and, List.all_eq_true]
  intro x hx
  rw [(List.mem_replicate.1 hx).2]; decide
theorem J7t (D : ZR) (S : ZI) : Ji D S = Jb (J3h D S) D.length := by
  unfold Ji J27 Jb
  exact foldTo_congr fun k x hk => by rw [J7x _ _ _ _ hk]
theorem J7p {ps ls : ZI} (h : tfB ps ls = true) {m : Nat} (hm : m < ps.length) : Ji (tfD ps ls) [(m : Int)] = J0y ps ls (List.replicate ps.length 1) m := by
  obtain ⟨_, _, _, _, _, e2, _, hat, _⟩ := J9 h
  rw [J7t, J8H, e2]
  refine Jg fun j hj => ?_
  obtain ⟨a, ha, e⟩ := J8x (D := tfD ps ls) (s := [(m : Int)]) (by simp) j
  rw [e, List.mem_singleton.1 ha, Int.toNat_natCast, hat j m hj hm]
theorem J8V {ps ls : ZI} (h : tfB ps ls = true) {m : Nat} (hm : J6v ps (List.replicate ps.length 1) m) :
    (J0 (tfO ps ls) (tfD ps ls) && Ja [(m : Int)] 0 (((tfO ps ls).length : Int) - 1) && decide (0 < [(m : Int)].length)) = true ∧ (J0 (tfO ps ls) (tfD ps ls) && inB 1 1 ((tfO ps ls).length : Int)) = true ∧ Ji (tfD ps ls) [(m : Int)] = J2F (tfO ps ls) (tfD ps ls) 1 := by
  obtain ⟨q1, t4, q2, hg, e1, e2, hrow, hat, hmet, hr, hb, hl⟩ := J9 h
  have hmn := hm.1
  have hone : Ja [(m : Int)] 0 (((tfO ps ls).length : Int) - 1) = true := J5X (List.pairwise_singleton _ _) fun x hx => by rw [List.mem_singleton.1 hx]; omega
  have hk : (1 : Int) ≤ 1 ∧ (1 : Int) ≤ ((tfO ps ls).length : Int) := by omega
  have hmc : (J0 (tfO ps ls) (tfD ps ls) && inB 1 1 ((tfO ps ls).length : Int)) = true := by
    rw [hg, Bool.true_and]
    unfold inB
    simp
    omega
  have ev : J2F (tfO ps ls) (tfD ps ls) 1 = Ji (tfD ps ls) (J0S (tfO ps ls) (tfD ps ls) 1) := by unfold J2F; rw [if_pos hmc]
  have hmin := J8i (D := tfD ps ls) (k := 1) hone (by simp) (by simp)
  obtain ⟨_, r1, r2⟩ := J1E (J8j (E := tfD ps ls) hg hk)
  have hlen := J8r (U := tfO ps ls) (E := tfD ps ls) hk
  obtain ⟨a, hS⟩ : ∃ a, J0S (tfO ps ls) (tfD ps ls) 1 = [a] := by
    match hq : J0S (tfO ps ls) (tfD ps ls) 1, hlen with
    | [a], _ => exact ⟨a, rfl⟩
    | [], h0 => simp at h0
    | _ :: _ :: _, h0 => simp at h0; omega
  have ha := J58 r1 a (by rw [hS]; exact List.mem_singleton.2 rfl)
  have hge : Ji (tfD ps ls) [(m : Int)] ≤ Ji (tfD ps ls) (J0S (tfO ps ls) (tfD ps ls) 1) := by
    rw [hS, show a = ((a.toNat : Nat) : Int) by omega, J7p h hmn, J7p h (m := a.toNat) (by omega)]
    exact J6V t4 (fun z hz => (hr z hz).1) (fun y hy => by simp only [List.getD_eq_getElem?_getD, List.getElem?_replicate, hy, if_true, Option.getD_some]; decide) hm _
  refine ⟨by rw [hg, hone]; rfl, hmc, by rw [ev]; omega⟩
/-- The least of some sums. -/
def J6x (f : Nat → Int) (k : Nat) (e : Int) : Prop := (k = 0 → e = -1) ∧ (0 < k → 0 ≤ e ∧ (∀ z, z < k → e ≤ f z) ∧ ∃ z, z < k ∧ e = f z)
theorem J25 {f : Nat → Int} {k : Nat} {e : Int} (h : J6x f k e) (h0 : 0 ≤ f k) : ((e < 0 ∨ f k < e) → J6x f (k + 1) (f k)) ∧ (¬ (e < 0 ∨ f k < e) → J6x f (k + 1) e) := by
  obtain ⟨h1, h2⟩ := h
  refine ⟨fun hc => ⟨fun hk => by omega, fun _ => ⟨h0, fun z hz => ?_, k, Nat.lt_succ_self k, rfl⟩⟩, fun hc => ⟨fun hk => by omega, fun _ => ?_⟩⟩
  · by_cases q : z = k
    · rw [q]; exact Int.le_refl _
    · have := (h2 (by omega)).2.1 z (by omega)
      have := (h2 (by omega)).1
      omega
  have hk : 0 < k := by
    apply Classical.byContradiction
    intro hn
    have := h1 (by omega)
    omega
  obtain ⟨a1, a2, z, a3, a4⟩ := h2 hk
  refine ⟨a1, fun y hy => ?_, z, by omega, a4⟩
  by_cases q : y = k
  · rw [q]; omega
  exact a2 y (by omega)
theorem J1G {ps ls ws : ZI} (hb : ∀ x y, 0 ≤ tdL ps ls x y ∧ tdL ps ls x y ≤ 693) (hw : ∀ y, y < ps.length → 0 ≤ ws.getD y 0 ∧ ws.getD y 0 ≤ 99) (x : Nat) : ∀ k, k ≤ ps.length → 0 ≤ Jb (fun y => ws.getD y 0 * tdL ps ls y x) k ∧ Jb (fun y => ws.getD y 0 * tdL ps ls y x) k ≤ 68607 * (k : Int) := fun k hk =>
  J1p k fun y hy => by
    have h1 := hw y (by omega)
    have h2 := hb y x
    refine ⟨Int.mul_nonneg h1.1 h2.1, ?_⟩
    have := Int.mul_le_mul h1.2 h2.2 h2.1 (by omega : (0 : Int) ≤ 99)
    omega
def J7y (f : FuncId) (ds : List D) : Orc := bif Nat.beq f 18 then J2X ds else bif Nat.beq f 71 then J6F ds else .no
def J7K (U : ZI) (E : ZR) (Open2 : ZI) (Dist2 : ZR) : Ann := .none
def J55 (U : ZI) (E : ZR) (Open2 : ZI) (Dist2 : ZR) : Prop :=
  (PC Try.prog 18 [.sl (.ints U), .sl (.ints Open2)] (.one (.d (.bool (U == Open2))))) ∧ ((U == Open2) = true → (U == Open2) = true) ∧ ((U == Open2) = true → (U == Open2) = true) ∧ ((U == Open2) = true → (U == Open2) = true) ∧ ((U == Open2) = true → (U == Open2) = true) ∧ ((U == Open2) = true → PC Try.prog 71 [.sl (.rows E), .sl (.rows Dist2)] (.one (.d (.bool (E == Dist2))))) ∧ (true = true) ∧ (((U == Open2) = true → (U == Open2) = true)) ∧ (((U == Open2) = false → true = true)) ∧ (((cond (U == Open2) (E == Dist2) false) = ((U == Open2) && (E == Dist2))))
theorem J74 (U : ZI) (E : ZR) (Open2 : ZI) (Dist2 : ZR)  (w_Open : (U.length : Int) ≤ 9223372036854775807) (w_Dist : (E.length : Int) ≤ 9223372036854775807) (v_Dist : ∀ x9 ∈ E, (x9.length : Int) ≤ 9223372036854775807) (w_Open2 : (Open2.length : Int) ≤ 9223372036854775807) (w_Dist2 : (Dist2.length : Int) ≤ 9223372036854775807) (v_Dist2 : ∀ x9 ∈ Dist2, (x9.length : Int) ≤ 9223372036854775807) : J55 U E Open2 Dist2 := by
  unfold J55
  refine ⟨J3a U Open2, id, id, id, id, fun _ => J7g E Dist2, rfl, id, fun _ => rfl, ?_⟩
  ·first | omega | rfl | (intro hg; simp only [nrmT] at hg; omega) | (intro g1 g2; simp [g1, g2]; done) | (intro g1; simp at g1 ⊢; simp [g1]; done) | (simp only [nrmT] at *; omega) | (simp at * <;> omega) | (simp_all <;> omega) | (simp_all; done)
theorem J75 (U : ZI) (E : ZR) (Open2 : ZI) (Dist2 : ZR)  : PC Try.prog 54 [.agg [.sl (.ints U), .sl (.rows E)], .agg [.sl (.ints Open2), .sl (.rows Dist2)]] (.one (.d (.bool ((U == Open2) && (E == Dist2))))) :=
  pc_wf @Try.call54 fun hw => pc_by (by kernel_rfl) Try.func54 @Try.call54 (by kernel_rfl) J7y (J7K U E Open2 Dist2) (by kernel_rfl) (J74 U E Open2 Dist2 hw.1.1 hw.1.2.1.1 hw.1.2.1.2 hw.2.1.1 hw.2.1.2.1.1 hw.2.1.2.1.2) (by kernel_rfl)
def J6X : List D → Orc := orcN [none, none] fun ds => match ds with
  | [.agg [.sl (.ints U), .sl (.rows E)], .agg [.sl (.ints Open2), .sl (.rows Dist2)]] => some (.one (.d (.bool ((U == Open2) && (E == Dist2)))))
  | _ => none
abbrev l_FnTrees_JJ0 (code : List Nat) (ps : ZI) (ls : ZI) (lt : ZI) (wt : ZI) (ones : ZI) (x : Int) : Prop := (0 ≤ x ∧ x ≤ (ps.length : Int)) ∧ (ones = List.replicate x.toNat 1)
abbrev l_FnTrees_mJ0 (code : List Nat) (ps : ZI) (ls : ZI) (lt : ZI) (wt : ZI) (ones : ZI) (x : Int) : Nat := (ps.length - x).toNat
abbrev l_FnTrees_JA0 (code : List Nat) (ps : ZI) (ls : ZI) (lt : ZI) (wt : ZI) (one2 : ZI) : Prop := (one2 = List.replicate ps.length 1)
abbrev l_FnTrees_JJ1 (code : List Nat) (ps : ZI) (ls : ZI) (lt : ZI) (wt : ZI) (one2 : ZI) (least : Int) (own : Int) (x2 : Int) : Prop := (0 ≤ x2 ∧ x2 ≤ (ps.length : Int)) ∧ (J6x (J0y ps ls wt) x2.toNat least) ∧ (own = if mjN lt wt < x2 then J0y ps ls wt (mjN lt wt).toNat else 0)
abbrev l_FnTrees_mJ1 (code : List Nat) (ps : ZI) (ls : ZI) (lt : ZI) (wt : ZI) (one2 : ZI) (least : Int) (own : Int) (x2 : Int) : Nat := (ps.length - x2).toNat
abbrev l_FnTrees_JJ2 (code : List Nat) (ps : ZI) (ls : ZI) (lt : ZI) (wt : ZI) (one2 : ZI) (least : Int) (own : Int) (x2 : Int) (sum : Int) (y : Int) : Prop := (0 ≤ y ∧ y ≤ (ps.length : Int)) ∧ (sum = Jb (fun y9 => wt.getD y9 0 * tdL ps ls y9 x2.toNat) y.toNat)
abbrev l_FnTrees_mJ2 (code : List Nat) (ps : ZI) (ls : ZI) (lt : ZI) (wt : ZI) (one2 : ZI) (least : Int) (own : Int) (x2 : Int) (sum : Int) (y : Int) : Nat := (ps.length - y).toNat
abbrev l_FnTrees_JR3 (code : List Nat) (ps : ZI) (ls : ZI) : Prop := (ps.length ≤ 8) ∧ (ls.length ≤ 8)
abbrev l_FnTrees_JR8 (code : List Nat) (ps : ZI) (ls : ZI) (lt : ZI) (wt : ZI) : Prop := (lt.length ≤ 8) ∧ (wt.length ≤ 9)
def l_FnTrees_C (f : FuncId) (ds : List D) : Orc := bif Nat.beq f 14 then J7P ds else bif Nat.beq f 52 then J4S ds else bif Nat.beq f 53 then J59 ds else bif Nat.beq f 54 then J6X ds else bif Nat.beq f 56 then J3x ds else bif Nat.beq f 57 then J3z ds else bif Nat.beq f 58 then J5r ds else bif Nat.beq f 59 then J43 ds else bif Nat.beq f 60 then J4U ds else bif Nat.beq f 18 then J2X ds else .no
def l_FnTrees_A (code : List Nat) : Ann := .two (.none) (.two (.none) (.cut (.exr (.ex [] 1 (J1o code) (fun g => (fun (Pr3 : ZI) (Lr3 : ZI) => .ms [] []) (g.1) (g.2)))) (cut2 (fun (ps : ZI) (ls : ZI) => l_FnTrees_JR3 code ps ls) (fun (ps : ZI) (ls : ZI) => [(0, .d false (.sl (.bytes code))), (3, .d true (.sl (.ints ps))), (4, .d true (.sl (.ints ls)))]) (fun (ps : ZI) (ls : ZI) => [])) (fun g => (fun (ps : ZI) (ls : ZI) => .two (.none) (.two (.none) (.cut (.exr (.ex [] 1 (J0U code) (fun g => (fun (Pr8 : ZI) (Wr8 : ZI) => .ms [] []) (g.1) (g.2)))) (cut2 (fun (lt : ZI) (wt : ZI) => l_FnTrees_JR8 code ps ls lt wt) (fun (lt : ZI) (wt : ZI) => [(3, .d true (.sl (.ints ps))), (4, .d true (.sl (.ints ls))), (5, .ptr 5 0), (6, .d true (.bool (tfB ps ls))), (9, .d true (.sl (.ints lt))), (10, .d true (.sl (.ints wt)))]) (fun (lt : ZI) (wt : ZI) => [(5, .box 39 [.d true (.sl (.ints (tfO ps ls))), .d true (.sl (.rows (tfD ps ls)))])])) (fun g => (fun (lt : ZI) (wt : ZI) => .two (.none) (.two (.none) (.two (.none) (.two (.none) (.two (.none) (.cut (.two (.none) (.loop (cut2 (fun (ones : ZI) (x : Int) => l_FnTrees_JJ0 code ps ls lt wt ones x) (fun (ones : ZI) (x : Int) => [(3, .d true (.sl (.ints ps))), (4, .d true (.sl (.ints ls))), (5, .ptr 5 0), (9, .d true (.sl (.ints lt))), (10, .d true (.sl (.ints wt))), (11, .d true (.int .i64 (mjN lt wt))), (12, .d true (.bool (mjB lt wt))), (15, .d true (.bool (J0 (tfO ps ls) (tfD ps ls) && J0I (tfO ps ls).length (tfD ps ls)))), (16, .d true (.bool (J0 (tfO ps ls) (tfD ps ls)))), (17, .own 1000000 ones.length), (18, .d true (.int .i64 x))]) (fun (ones : ZI) (x : Int) => [(1000000, .arr true 3 (.ints ones)), (5, .box 39 [.d true (.sl (.ints (tfO ps ls))), .d true (.sl (.rows (tfD ps ls)))])])) (fun g => l_FnTrees_mJ0 code ps ls lt wt g.1 g.2) (fun _ => .none))) (cut1 (fun (one2 : ZI) => l_FnTrees_JA0 code ps ls lt wt one2) (fun (one2 : ZI) => [(3, .d true (.sl (.ints ps))), (5, .ptr 5 0), (9, .d true (.sl (.ints lt))), (10, .d true (.sl (.ints wt))), (11, .d true (.int .i64 (mjN lt wt))), (12, .d true (.bool (mjB lt wt))), (15, .d true (.bool (J0 (tfO ps ls) (tfD ps ls) && J0I (tfO ps ls).length (tfD ps ls)))), (16, .d true (.bool (J0 (tfO ps ls) (tfD ps ls)))), (17, .own 1000050 one2.length)]) (fun (one2 : ZI) => [(1000050, .arr true 3 (.ints one2)), (5, .box 39 [.d true (.sl (.ints (tfO ps ls))), .d true (.sl (.rows (tfD ps ls)))])])) (fun g => (fun (one2 : ZI) => .two (.none) (.two (.none) (.two (.none) (.two (.none) (.two (.two (.none) (.two (.two (.none) (.two (.two (.none) (.loop (cut3 (fun (least : Int) (own : Int) (x2 : Int) => l_FnTrees_JJ1 code ps ls lt wt one2 least own x2) (fun (least : Int) (own : Int) (x2 : Int) => [(3, .d true (.sl (.ints ps))), (5, .ptr 5 0), (10, .d true (.sl (.ints wt))), (11, .d true (.int .i64 (mjN lt wt))), (25, .d true (.int .i64 least)), (26, .d true (.int .i64 own)), (27, .d true (.int .i64 x2))]) (fun (least : Int) (own : Int) (x2 : Int) => [(5, .box 39 [.d true (.sl (.ints (tfO ps ls))), .d true (.sl (.rows (tfD ps ls)))])])) (fun g => l_FnTrees_mJ1 code ps ls lt wt one2 g.1 g.2.1 g.2.2) (fun g => (fun (least : Int) (own : Int) (x2 : Int) => .two (.none) (.two (.two (.none) (.two (.two (.none) (.loop (cut2 (fun (sum : Int) (y : Int) => l_FnTrees_JJ2 code ps ls lt wt one2 least own x2 sum y) (fun (sum : Int) (y : Int) => [(3, .d true (.sl (.ints ps))), (5, .ptr 5 0), (10, .d true (.sl (.ints wt))), (11, .d true (.int .i64 (mjN lt wt))), (25, .d true (.int .i64 least)), (26, .d true (.int .i64 own)), (27, .d true (.int .i64 x2)), (28, .d true (.int .i64 sum)), (29, .d true (.int .i64 y))]) (fun (sum : Int) (y : Int) => [(5, .box 39 [.d true (.sl (.ints (tfO ps ls))), .d true (.sl (.rows (tfD ps ls)))])])) (fun g => l_FnTrees_mJ2 code ps ls lt wt one2 least own x2 g.1 g.2) (fun _ => .none))) (.none))) (.none))) (g.1) (g.2.1) (g.2.2)))) (.none))) (.none))) (.none)))))) g))))))) (g.1) (g.2))))) (g.1) (g.2))))
def l_FnTrees_e3 (ps : ZI) (ls : ZI) (one2 : ZI) : Bool := (cond (cond (!(J0 (tfO ps ls) (tfD ps ls))) true (!(mjB ps one2))) true (!(J0 (tfO ps ls) (tfD ps ls) && inB 1 1 ((tfO ps ls).length : Int))))
def l_FnTrees_e1 (ps : ZI) (ls : ZI) (one2 : ZI) : Bool := (cond (l_FnTrees_e3 ps ls one2) true (!(J0 (tfO ps ls) (tfD ps ls) && Ja ([(mjN ps one2)]) 0 (((tfO ps ls).length : Int) - 1) && decide (0 < ([(mjN ps one2)]).length))))
def l_FnTrees_e2 (ps : ZI) (ls : ZI) (one2 : ZI) : Bool := (cond (l_FnTrees_e1 ps ls one2) true (!(J0 (tfO ps ls) (tfD ps ls) && J0I (tfO ps ls).length (tfD ps ls))))
def l_FnTrees_e4 (ps : ZI) (ls : ZI) (one2 : ZI) : Bool := (cond (l_FnTrees_e2 ps ls one2) true ((if (J0 (tfO ps ls) (tfD ps ls) && Ja ([(mjN ps one2)]) 0 (((tfO ps ls).length : Int) - 1) && decide (0 < ([(mjN ps one2)]).length)) = true then Ji (tfD ps ls) ([(mjN ps one2)]) else 0) != (J2F (tfO ps ls) (tfD ps ls) 1)))
def l_FnTrees_e5 (ps : ZI) (ls : ZI) (x : Int) : Bool := (cond ((((tfD ps ls).getD x.toNat []).getD x.toNat 0) != 0) true (cond (decide (x > 0)) ((((tfD ps ls).getD x.toNat []).getD ((ps.getD x.toNat 0).toNat) 0) != (ls.getD x.toNat 0)) false))
set_option maxRecDepth 100000 in
def l_FnTrees_P (code : List Nat) : Prop :=
  (PC Try.prog 14 [.sl (.bytes code)] (.one (.d (.bool (decide ((code.length : Int) > 65536)))))) ∧ (((decide ((code.length : Int) > 65536)) = true → ((true = true))) ∧ ((decide ((code.length : Int) > 65536)) = false → (((PE Try.prog 51 [.sl (.bytes code)] (J1o code)) ∧ (∀ Pr3 : ZI, ∀ Lr3 : ZI, J1l code Pr3 Lr3 → ((true = true) ∧ (∃ ps' : ZI, ∃ ls' : ZI, (l_FnTrees_JR3 code ps' ls') ∧ (code = code) ∧ (Pr3 = ps') ∧ (Lr3 = ls'))))) ∧ (∀ ps : ZI, ∀ ls : ZI, (l_FnTrees_JR3 code ps ls) → (PC Try.prog 52 [.sl (.ints ps), .sl (.ints ls)] (.tup [.d (.agg [.sl (.ints (tfO ps ls)), .sl (.rows (tfD ps ls))]), .d (.bool (tfB ps ls))])) ∧ (PC Try.prog 53 [.sl (.ints ps), .sl (.ints ls)] (.tup [.d (.agg [.sl (.ints (tfO ps ls)), .sl (.rows (tfD ps ls))]), .d (.bool (tfB ps ls))])) ∧ ((!((tfB ps ls) != (tfB ps ls))) = true → (!((tfB ps ls) != (tfB ps ls))) = true) ∧ ((!((tfB ps ls) != (tfB ps ls))) = true → (!((tfB ps ls) != (tfB ps ls))) = true) ∧ ((!((tfB ps ls) != (tfB ps ls))) = true → PC Try.prog 54 [.agg [.sl (.ints (tfO ps ls)), .sl (.rows (tfD ps ls))], .agg [.sl (.ints (tfO ps ls)), .sl (.rows (tfD ps ls))]] (.one (.d (.bool (((tfO ps ls) == (tfO ps ls)) && ((tfD ps ls) == (tfD ps ls))))))) ∧ ((!((tfB ps ls) != (tfB ps ls))) = true → (!((tfB ps ls) != (tfB ps ls))) = true) ∧ (true = true) ∧ ((((tfB ps ls) != (tfB ps ls)) = true → true = true)) ∧ ((((tfB ps ls) != (tfB ps ls)) = false → (!((tfB ps ls) != (tfB ps ls))) = true)) ∧ (((cond ((tfB ps ls) != (tfB ps ls)) true (!(((tfO ps ls) == (tfO ps ls)) && ((tfD ps ls) == (tfD ps ls))))) = true → ((false = true))) ∧ ((cond ((tfB ps ls) != (tfB ps ls)) true (!(((tfO ps ls) == (tfO ps ls)) && ((tfD ps ls) == (tfD ps ls))))) = false → (((PE Try.prog 55 [.sl (.bytes code)] (J0U code)) ∧ (∀ Pr8 : ZI, ∀ Wr8 : ZI, J07 code Pr8 Wr8 → ((true = true) ∧ (∃ lt' : ZI, ∃ wt' : ZI, (l_FnTrees_JR8 code ps ls lt' wt') ∧ (ps = ps) ∧ (ls = ls) ∧ ((tfB ps ls) = (tfB ps ls)) ∧ (Pr8 = lt') ∧ (Wr8 = wt') ∧ (tfO ps ls = tfO ps ls) ∧ (tfD ps ls = tfD ps ls))))) ∧ (∀ lt : ZI, ∀ wt : ZI, (l_FnTrees_JR8 code ps ls lt wt) → (PC Try.prog 56 [.sl (.ints lt), .sl (.ints wt)] (.tup [.d (.int .i64 (mjN lt wt)), .d (.bool (mjB lt wt))])) ∧ (PC Try.prog 57 [.sl (.ints lt), .sl (.ints wt)] (.tup [.d (.int .i64 (mjN lt wt)), .d (.bool (mjB lt wt))])) ∧ ((!((mjN lt wt) != (mjN lt wt))) = true → (!((mjN lt wt) != (mjN lt wt))) = true) ∧ ((!((mjN lt wt) != (mjN lt wt))) = true → (!((mjN lt wt) != (mjN lt wt))) = true) ∧ (true = true) ∧ ((((mjN lt wt) != (mjN lt wt)) = true → true = true)) ∧ ((((mjN lt wt) != (mjN lt wt)) = false → (!((mjN lt wt) != (mjN lt wt))) = true)) ∧ (((cond ((mjN lt wt) != (mjN lt wt)) true ((mjB lt wt) != (mjB lt wt))) = true → ((false = true))) ∧ ((cond ((mjN lt wt) != (mjN lt wt)) true ((mjB lt wt) != (mjB lt wt))) = false → (((!(tfB ps ls)) = true → ((true = true))) ∧ ((!(tfB ps ls)) = false → (PC Try.prog 58 [.agg [.sl (.ints (tfO ps ls)), .sl (.rows (tfD ps ls))]] (.tup [.d (.bool (J0 (tfO ps ls) (tfD ps ls) && J0I (tfO ps ls).length (tfD ps ls))), .d (.bool (J0 (tfO ps ls) (tfD ps ls)))])) ∧ ((((∃ ones' : ZI, ∃ x' : Int, (l_FnTrees_JJ0 code ps ls lt wt ones' x') ∧ (ps = ps) ∧ (ls = ls) ∧ (lt = lt) ∧ (wt = wt) ∧ ((mjN lt wt) = (mjN lt wt)) ∧ ((mjB lt wt) = (mjB lt wt)) ∧ ((J0 (tfO ps ls) (tfD ps ls) && J0I (tfO ps ls).length (tfD ps ls)) = (J0 (tfO ps ls) (tfD ps ls) && J0I (tfO ps ls).length (tfD ps ls))) ∧ ((J0 (tfO ps ls) (tfD ps ls)) = (J0 (tfO ps ls) (tfD ps ls))) ∧ ((0 : Nat) = ones'.length) ∧ ((0 : Int) = x') ∧ ([] = ones') ∧ (tfO ps ls = tfO ps ls) ∧ (tfD ps ls = tfD ps ls)) ∧ (∀ ones : ZI, ∀ x : Int, (l_FnTrees_JJ0 code ps ls lt wt ones x) → (((decide (x < (ps.length : Int))) = true → (ones.length = ones.length) ∧ ((1 : Nat) = 1) ∧ ((ones.length + 1) * 8 ≤ 140737488355328) ∧ (true = true) ∧ ((0 : Int) ≤ x) ∧ ((x : Int) < (tfD ps ls).length) ∧ (x.toNat < (tfD ps ls).length) ∧ ((0 : Int) ≤ x) ∧ ((x : Int) < ((tfD ps ls).getD x.toNat []).length) ∧ (x.toNat < ((tfD ps ls).getD x.toNat []).length) ∧ ((!((((tfD ps ls).getD x.toNat []).getD x.toNat 0) != 0)) = true → (!((((tfD ps ls).getD x.toNat []).getD x.toNat 0) != 0)) = true) ∧ ((!((((tfD ps ls).getD x.toNat []).getD x.toNat 0) != 0)) = true → (!((((tfD ps ls).getD x.toNat []).getD x.toNat 0) != 0)) = true) ∧ (((!((((tfD ps ls).getD x.toNat []).getD x.toNat 0) != 0)) && (decide (x > 0))) = true → ((!((((tfD ps ls).getD x.toNat []).getD x.toNat 0) != 0)) && (decide (x > 0))) = true) ∧ (((!((((tfD ps ls).getD x.toNat []).getD x.toNat 0) != 0)) && (decide (x > 0))) = true → ((!((((tfD ps ls).getD x.toNat []).getD x.toNat 0) != 0)) && (decide (x > 0))) = true) ∧ (((!((((tfD ps ls).getD x.toNat []).getD x.toNat 0) != 0)) && (decide (x > 0))) = true → ((!((((tfD ps ls).getD x.toNat []).getD x.toNat 0) != 0)) && (decide (x > 0))) = true) ∧ ((((!((((tfD ps ls).getD x.toNat []).getD x.toNat 0) != 0)) && (decide (x > 0))) = true → (0 : Int) ≤ x)) ∧ ((((!((((tfD ps ls).getD x.toNat []).getD x.toNat 0) != 0)) && (decide (x > 0))) = true → (x : Int) < (tfD ps ls).length)) ∧ (((!((((tfD ps ls).getD x.toNat []).getD x.toNat 0) != 0)) && (decide (x > 0))) = true → ((!((((tfD ps ls).getD x.toNat []).getD x.toNat 0) != 0)) && (decide (x > 0))) = true) ∧ ((((!((((tfD ps ls).getD x.toNat []).getD x.toNat 0) != 0)) && (decide (x > 0))) = true → x.toNat < (tfD ps ls).length)) ∧ (((!((((tfD ps ls).getD x.toNat []).getD x.toNat 0) != 0)) && (decide (x > 0))) = true → ((!((((tfD ps ls).getD x.toNat []).getD x.toNat 0) != 0)) && (decide (x > 0))) = true) ∧ (((!((((tfD ps ls).getD x.toNat []).getD x.toNat 0) != 0)) && (decide (x > 0))) = true → ((!((((tfD ps ls).getD x.toNat []).getD x.toNat 0) != 0)) && (decide (x > 0))) = true) ∧ ((((!((((tfD ps ls).getD x.toNat []).getD x.toNat 0) != 0)) && (decide (x > 0))) = true → (0 : Int) ≤ x)) ∧ ((((!((((tfD ps ls).getD x.toNat []).getD x.toNat 0) != 0)) && (decide (x > 0))) = true → (x : Int) < ps.length)) ∧ (((!((((tfD ps ls).getD x.toNat []).getD x.toNat 0) != 0)) && (decide (x > 0))) = true → ((!((((tfD ps ls).getD x.toNat []).getD x.toNat 0) != 0)) && (decide (x > 0))) = true) ∧ ((((!((((tfD ps ls).getD x.toNat []).getD x.toNat 0) != 0)) && (decide (x > 0))) = true → x.toNat < ps.length)) ∧ (((!((((tfD ps ls).getD x.toNat []).getD x.toNat 0) != 0)) && (decide (x > 0))) = true → ((!((((tfD ps ls).getD x.toNat []).getD x.toNat 0) != 0)) && (decide (x > 0))) = true) ∧ (((!((((tfD ps ls).getD x.toNat []).getD x.toNat 0) != 0)) && (decide (x > 0))) = true → ((!((((tfD ps ls).getD x.toNat []).getD x.toNat 0) != 0)) && (decide (x > 0))) = true) ∧ ((((!((((tfD ps ls).getD x.toNat []).getD x.toNat 0) != 0)) && (decide (x > 0))) = true → (0 : Int) ≤ (ps.getD x.toNat 0))) ∧ ((((!((((tfD ps ls).getD x.toNat []).getD x.toNat 0) != 0)) && (decide (x > 0))) = true → ((ps.getD x.toNat 0) : Int) < ((tfD ps ls).getD x.toNat []).length)) ∧ (((!((((tfD ps ls).getD x.toNat []).getD x.toNat 0) != 0)) && (decide (x > 0))) = true → ((!((((tfD ps ls).getD x.toNat []).getD x.toNat 0) != 0)) && (decide (x > 0))) = true) ∧ ((((!((((tfD ps ls).getD x.toNat []).getD x.toNat 0) != 0)) && (decide (x > 0))) = true → (ps.getD x.toNat 0).toNat < ((tfD ps ls).getD x.toNat []).length)) ∧ (((!((((tfD ps ls).getD x.toNat []).getD x.toNat 0) != 0)) && (decide (x > 0))) = true → ((!((((tfD ps ls).getD x.toNat []).getD x.toNat 0) != 0)) && (decide (x > 0))) = true) ∧ (((!((((tfD ps ls).getD x.toNat []).getD x.toNat 0) != 0)) && (decide (x > 0))) = true → ((!((((tfD ps ls).getD x.toNat []).getD x.toNat 0) != 0)) && (decide (x > 0))) = true) ∧ ((((!((((tfD ps ls).getD x.toNat []).getD x.toNat 0) != 0)) && (decide (x > 0))) = true → (0 : Int) ≤ x)) ∧ ((((!((((tfD ps ls).getD x.toNat []).getD x.toNat 0) != 0)) && (decide (x > 0))) = true → (x : Int) < ls.length)) ∧ (((!((((tfD ps ls).getD x.toNat []).getD x.toNat 0) != 0)) && (decide (x > 0))) = true → ((!((((tfD ps ls).getD x.toNat []).getD x.toNat 0) != 0)) && (decide (x > 0))) = true) ∧ ((((!((((tfD ps ls).getD x.toNat []).getD x.toNat 0) != 0)) && (decide (x > 0))) = true → x.toNat < ls.length)) ∧ (((!((((tfD ps ls).getD x.toNat []).getD x.toNat 0) != 0)) && (decide (x > 0))) = true → ((!((((tfD ps ls).getD x.toNat []).getD x.toNat 0) != 0)) && (decide (x > 0))) = true) ∧ (((!((((tfD ps ls).getD x.toNat []).getD x.toNat 0) != 0)) && (decide (x > 0))) = true → ((!((((tfD ps ls).getD x.toNat []).getD x.toNat 0) != 0)) && (decide (x > 0))) = true) ∧ (((!((((tfD ps ls).getD x.toNat []).getD x.toNat 0) != 0)) = true → (!((((tfD ps ls).getD x.toNat []).getD x.toNat 0) != 0)) = true)) ∧ (((!((((tfD ps ls).getD x.toNat []).getD x.toNat 0) != 0)) = true → (decide (x > 0)) = true → ((!((((tfD ps ls).getD x.toNat []).getD x.toNat 0) != 0)) && (decide (x > 0))) = true)) ∧ (((!((((tfD ps ls).getD x.toNat []).getD x.toNat 0) != 0)) = true → (decide (x > 0)) = false → true = true)) ∧ (true = true) ∧ ((((((tfD ps ls).getD x.toNat []).getD x.toNat 0) != 0) = true → true = true)) ∧ ((((((tfD ps ls).getD x.toNat []).getD x.toNat 0) != 0) = false → (!((((tfD ps ls).getD x.toNat []).getD x.toNat 0) != 0)) = true)) ∧ (((l_FnTrees_e5 ps ls x) = true → ((false = true))) ∧ ((l_FnTrees_e5 ps ls x) = false → (-9223372036854775808 ≤ (x + 1) ∧ (x + 1) ≤ 9223372036854775807) ∧ (∃ ones' : ZI, ∃ x' : Int, (l_FnTrees_JJ0 code ps ls lt wt ones' x') ∧ (l_FnTrees_mJ0 code ps ls lt wt ones' x' < l_FnTrees_mJ0 code ps ls lt wt ones x) ∧ (ps = ps) ∧ (ls = ls) ∧ (lt = lt) ∧ (wt = wt) ∧ ((mjN lt wt) = (mjN lt wt)) ∧ ((mjB lt wt) = (mjB lt wt)) ∧ ((J0 (tfO ps ls) (tfD ps ls) && J0I (tfO ps ls).length (tfD ps ls)) = (J0 (tfO ps ls) (tfD ps ls) && J0I (tfO ps ls).length (tfD ps ls))) ∧ ((J0 (tfO ps ls) (tfD ps ls)) = (J0 (tfO ps ls) (tfD ps ls))) ∧ ((ones.length + 1) = ones'.length) ∧ ((x + 1) = x') ∧ ((ones ++ [1]) = ones') ∧ (tfO ps ls = tfO ps ls) ∧ (tfD ps ls = tfD ps ls))))) ∧ ((decide (x < (ps.length : Int))) = false → (∃ one2' : ZI, (l_FnTrees_JA0 code ps ls lt wt one2') ∧ (ps = ps) ∧ (lt = lt) ∧ (wt = wt) ∧ ((mjN lt wt) = (mjN lt wt)) ∧ ((mjB lt wt) = (mjB lt wt)) ∧ ((J0 (tfO ps ls) (tfD ps ls) && J0I (tfO ps ls).length (tfD ps ls)) = (J0 (tfO ps ls) (tfD ps ls) && J0I (tfO ps ls).length (tfD ps ls))) ∧ ((J0 (tfO ps ls) (tfD ps ls)) = (J0 (tfO ps ls) (tfD ps ls))) ∧ (ones.length = one2'.length) ∧ (ones = one2') ∧ (tfO ps ls = tfO ps ls) ∧ (tfD ps ls = tfD ps ls))))))) ∧ (∀ one2 : ZI, (l_FnTrees_JA0 code ps ls lt wt one2) → (one2.length = one2.length) ∧ (PC Try.prog 56 [.sl (.ints ps), .sl (.ints one2)] (.tup [.d (.int .i64 (mjN ps one2)), .d (.bool (mjB ps one2))])) ∧ (PC Try.prog 59 [.agg [.sl (.ints (tfO ps ls)), .sl (.rows (tfD ps ls))], .int .i64 1] (.tup [.d (.int .i64 (J2F (tfO ps ls) (tfD ps ls) 1)), .d (.bool (J0 (tfO ps ls) (tfD ps ls) && inB 1 1 ((tfO ps ls).length : Int)))])) ∧ ((1 : Nat) = 1) ∧ (PC Try.prog 60 [.agg [.sl (.ints (tfO ps ls)), .sl (.rows (tfD ps ls))], .sl (.ints ([(mjN ps one2)]))] (.tup [.d (.int .i64 (if (J0 (tfO ps ls) (tfD ps ls) && Ja ([(mjN ps one2)]) 0 (((tfO ps ls).length : Int) - 1) && decide (0 < ([(mjN ps one2)]).length)) = true then Ji (tfD ps ls) ([(mjN ps one2)]) else 0)), .d (.bool (J0 (tfO ps ls) (tfD ps ls) && Ja ([(mjN ps one2)]) 0 (((tfO ps ls).length : Int) - 1) && decide (0 < ([(mjN ps one2)]).length)))])) ∧ ((!(!(J0 (tfO ps ls) (tfD ps ls)))) = true → (!(!(J0 (tfO ps ls) (tfD ps ls)))) = true) ∧ (true = true) ∧ (((!(J0 (tfO ps ls) (tfD ps ls))) = true → true = true)) ∧ (((!(J0 (tfO ps ls) (tfD ps ls))) = false → (!(!(J0 (tfO ps ls) (tfD ps ls)))) = true)) ∧ ((!(cond (!(J0 (tfO ps ls) (tfD ps ls))) true (!(mjB ps one2)))) = true → (!(cond (!(J0 (tfO ps ls) (tfD ps ls))) true (!(mjB ps one2)))) = true) ∧ (true = true) ∧ (((cond (!(J0 (tfO ps ls) (tfD ps ls))) true (!(mjB ps one2))) = true → true = true)) ∧ (((cond (!(J0 (tfO ps ls) (tfD ps ls))) true (!(mjB ps one2))) = false → (!(cond (!(J0 (tfO ps ls) (tfD ps ls))) true (!(mjB ps one2)))) = true)) ∧ ((!(l_FnTrees_e3 ps ls one2)) = true → (!(l_FnTrees_e3 ps ls one2)) = true) ∧ (true = true) ∧ (((l_FnTrees_e3 ps ls one2) = true → true = true)) ∧ (((l_FnTrees_e3 ps ls one2) = false → (!(l_FnTrees_e3 ps ls one2)) = true)) ∧ ((!(l_FnTrees_e1 ps ls one2)) = true → (!(l_FnTrees_e1 ps ls one2)) = true) ∧ (true = true) ∧ (((l_FnTrees_e1 ps ls one2) = true → true = true)) ∧ (((l_FnTrees_e1 ps ls one2) = false → (!(l_FnTrees_e1 ps ls one2)) = true)) ∧ ((!(l_FnTrees_e2 ps ls one2)) = true → (!(l_FnTrees_e2 ps ls one2)) = true) ∧ ((!(l_FnTrees_e2 ps ls one2)) = true → (!(l_FnTrees_e2 ps ls one2)) = true) ∧ (true = true) ∧ (((l_FnTrees_e2 ps ls one2) = true → true = true)) ∧ (((l_FnTrees_e2 ps ls one2) = false → (!(l_FnTrees_e2 ps ls one2)) = true)) ∧ (((l_FnTrees_e4 ps ls one2) = true → ((false = true))) ∧ ((l_FnTrees_e4 ps ls one2) = false → ((mjB lt wt) = true → (mjB lt wt) = true) ∧ ((mjB lt wt) = true → (mjB lt wt) = true) ∧ ((mjB lt wt) = true → PC Try.prog 18 [.sl (.ints lt), .sl (.ints ps)] (.one (.d (.bool (lt == ps))))) ∧ (true = true) ∧ (((mjB lt wt) = true → (mjB lt wt) = true)) ∧ (((mjB lt wt) = false → true = true)) ∧ (((cond (mjB lt wt) (lt == ps) false) = true → ((∃ least' : Int, ∃ own' : Int, ∃ x2' : Int, (l_FnTrees_JJ1 code ps ls lt wt one2 least' own' x2') ∧ (ps = ps) ∧ (wt = wt) ∧ ((mjN lt wt) = (mjN lt wt)) ∧ (((-1) : Int) = least') ∧ ((0 : Int) = own') ∧ ((0 : Int) = x2') ∧ (tfO ps ls = tfO ps ls) ∧ (tfD ps ls = tfD ps ls)) ∧ (∀ least : Int, ∀ own : Int, ∀ x2 : Int, (l_FnTrees_JJ1 code ps ls lt wt one2 least own x2) → (((decide (x2 < (ps.length : Int))) = true → ((∃ sum' : Int, ∃ y' : Int, (l_FnTrees_JJ2 code ps ls lt wt one2 least own x2 sum' y') ∧ (ps = ps) ∧ (wt = wt) ∧ ((mjN lt wt) = (mjN lt wt)) ∧ (least = least) ∧ (own = own) ∧ (x2 = x2) ∧ ((0 : Int) = sum') ∧ ((0 : Int) = y') ∧ (tfO ps ls = tfO ps ls) ∧ (tfD ps ls = tfD ps ls)) ∧ (∀ sum : Int, ∀ y : Int, (l_FnTrees_JJ2 code ps ls lt wt one2 least own x2 sum y) → (((decide (y < (ps.length : Int))) = true → (true = true) ∧ ((0 : Int) ≤ y) ∧ ((y : Int) < wt.length) ∧ (y.toNat < wt.length) ∧ ((0 : Int) ≤ y) ∧ ((y : Int) < (tfD ps ls).length) ∧ (y.toNat < (tfD ps ls).length) ∧ ((0 : Int) ≤ x2) ∧ ((x2 : Int) < ((tfD ps ls).getD y.toNat []).length) ∧ (x2.toNat < ((tfD ps ls).getD y.toNat []).length) ∧ (-9223372036854775808 ≤ ((wt.getD y.toNat 0) * (((tfD ps ls).getD y.toNat []).getD x2.toNat 0)) ∧ ((wt.getD y.toNat 0) * (((tfD ps ls).getD y.toNat []).getD x2.toNat 0)) ≤ 9223372036854775807) ∧ (-9223372036854775808 ≤ (sum + ((wt.getD y.toNat 0) * (((tfD ps ls).getD y.toNat []).getD x2.toNat 0))) ∧ (sum + ((wt.getD y.toNat 0) * (((tfD ps ls).getD y.toNat []).getD x2.toNat 0))) ≤ 9223372036854775807) ∧ (-9223372036854775808 ≤ (y + 1) ∧ (y + 1) ≤ 9223372036854775807) ∧ (∃ sum' : Int, ∃ y' : Int, (l_FnTrees_JJ2 code ps ls lt wt one2 least own x2 sum' y') ∧ (l_FnTrees_mJ2 code ps ls lt wt one2 least own x2 sum' y' < l_FnTrees_mJ2 code ps ls lt wt one2 least own x2 sum y) ∧ (ps = ps) ∧ (wt = wt) ∧ ((mjN lt wt) = (mjN lt wt)) ∧ (least = least) ∧ (own = own) ∧ (x2 = x2) ∧ ((sum + ((wt.getD y.toNat 0) * (((tfD ps ls).getD y.toNat []).getD x2.toNat 0))) = sum') ∧ ((y + 1) = y') ∧ (tfO ps ls = tfO ps ls) ∧ (tfD ps ls = tfD ps ls))) ∧ ((decide (y < (ps.length : Int))) = false → ((!(decide (least < 0))) = true → (!(decide (least < 0))) = true) ∧ ((!(decide (least < 0))) = true → (!(decide (least < 0))) = true) ∧ (true = true) ∧ (((decide (least < 0)) = true → true = true)) ∧ (((decide (least < 0)) = false → (!(decide (least < 0))) = true)) ∧ (((cond (decide (least < 0)) true (decide (sum < least))) = true → (((x2 == (mjN lt wt)) = true → (-9223372036854775808 ≤ (x2 + 1) ∧ (x2 + 1) ≤ 9223372036854775807) ∧ (∃ least' : Int, ∃ own' : Int, ∃ x2' : Int, (l_FnTrees_JJ1 code ps ls lt wt one2 least' own' x2') ∧ (l_FnTrees_mJ1 code ps ls lt wt one2 least' own' x2' < l_FnTrees_mJ1 code ps ls lt wt one2 least own x2) ∧ (ps = ps) ∧ (wt = wt) ∧ ((mjN lt wt) = (mjN lt wt)) ∧ (sum = least') ∧ (sum = own') ∧ ((x2 + 1) = x2') ∧ (tfO ps ls = tfO ps ls) ∧ (tfD ps ls = tfD ps ls))) ∧ ((x2 == (mjN lt wt)) = false → (-9223372036854775808 ≤ (x2 + 1) ∧ (x2 + 1) ≤ 9223372036854775807) ∧ (∃ least' : Int, ∃ own' : Int, ∃ x2' : Int, (l_FnTrees_JJ1 code ps ls lt wt one2 least' own' x2') ∧ (l_FnTrees_mJ1 code ps ls lt wt one2 least' own' x2' < l_FnTrees_mJ1 code ps ls lt wt one2 least own x2) ∧ (ps = ps) ∧ (wt = wt) ∧ ((mjN lt wt) = (mjN lt wt)) ∧ (sum = least') ∧ (own = own') ∧ ((x2 + 1) = x2') ∧ (tfO ps ls = tfO ps ls) ∧ (tfD ps ls = tfD ps ls))))) ∧ ((cond (decide (least < 0)) true (decide (sum < least))) = false → (((x2 == (mjN lt wt)) = true → (-9223372036854775808 ≤ (x2 + 1) ∧ (x2 + 1) ≤ 9223372036854775807) ∧ (∃ least' : Int, ∃ own' : Int, ∃ x2' : Int, (l_FnTrees_JJ1 code ps ls lt wt one2 least' own' x2') ∧ (l_FnTrees_mJ1 code ps ls lt wt one2 least' own' x2' < l_FnTrees_mJ1 code ps ls lt wt one2 least own x2) ∧ (ps = ps) ∧ (wt = wt) ∧ ((mjN lt wt) = (mjN lt wt)) ∧ (least = least') ∧ (sum = own') ∧ ((x2 + 1) = x2') ∧ (tfO ps ls = tfO ps ls) ∧ (tfD ps ls = tfD ps ls))) ∧ ((x2 == (mjN lt wt)) = false → (-9223372036854775808 ≤ (x2 + 1) ∧ (x2 + 1) ≤ 9223372036854775807) ∧ (∃ least' : Int, ∃ own' : Int, ∃ x2' : Int, (l_FnTrees_JJ1 code ps ls lt wt one2 least' own' x2') ∧ (l_FnTrees_mJ1 code ps ls lt wt one2 least' own' x2' < l_FnTrees_mJ1 code ps ls lt wt one2 least own x2) ∧ (ps = ps) ∧ (wt = wt) ∧ ((mjN lt wt) = (mjN lt wt)) ∧ (least = least') ∧ (own = own') ∧ ((x2 + 1) = x2') ∧ (tfO ps ls = tfO ps ls) ∧ (tfD ps ls = tfD ps ls))))))))))) ∧ ((decide (x2 < (ps.length : Int))) = false → (((own == least) = true))))))) ∧ ((cond (mjB lt wt) (lt == ps) false) = false → ((true = true))))))))))))))))))))
end Go.Proofs.Ytomnmacmlhkceaa
