/- Contracts of the functions that the law reaches. -/
import Derived.Test.YtomnmacmlhkceaaKLineGroups1
import Derived.KernelRfl
set_option linter.unusedVariables false
set_option linter.unusedSimpArgs false
namespace Go.Proofs.Ytomnmacmlhkceaa
open Go

theorem J4M (U : ZI) (E : ZR) (set : ZI) (site : Int) (ht : (J0 U E && J1 set 0 ((U.length : Int) - 1) && decide (0 < set.length)) = true) (w_Open : (U.length : Int) ≤ 9223372036854775807) (w_Dist : (E.length : Int) ≤ 9223372036854775807) (v_Dist : ∀ x9 ∈ E, (x9.length : Int) ≤ 9223372036854775807) (w_set : (set.length : Int) ≤ 9223372036854775807) : J2L U E set site := by
  unfold J2L
  obtain ⟨hg, hs, hp⟩ := J7 ht
  obtain ⟨g1, g2, g3⟩ := J9 hg
  refine ⟨?_, ?_⟩
  ·refine ⟨([]), 0, ?_⟩
   refine ⟨?_, rfl, rfl, rfl, rfl, ?_, rfl, rfl⟩
   ·refine ⟨?_, ?_⟩
    ·first | omega | rfl | (intro hg; simp only [nrmT] at hg; omega) | (intro g1 g2; simp [g1, g2]; done) | (intro g1; simp at g1 ⊢; simp [g1]; done) | (simp only [nrmT] at *; omega) | (simp at * <;> omega) | (simp_all <;> omega) | (simp_all; done)
    ·rfl
   first | omega | rfl | (intro hg; simp only [nrmT] at hg; omega) | (intro g1 g2; simp [g1, g2]; done) | (intro g1; simp at g1 ⊢; simp [g1]; done) | (simp only [nrmT] at *; omega) | (simp at * <;> omega) | (simp_all <;> omega) | (simp_all; done)
  intro out i hJ
  obtain ⟨h1, h2⟩ := hJ
  refine ⟨?_, ?_⟩
  ·intro b1
   try simp only [nrmT] at b1
   refine ⟨?_, ?_, ?_⟩
   ·refine J3I U E i set ?_ ?_
    ·exact ht
    ·first | omega | rfl | (intro hg; simp only [nrmT] at hg; omega) | (intro g1 g2; simp [g1, g2]; done) | (intro g1; simp at g1 ⊢; simp [g1]; done) | (simp only [nrmT] at *; omega) | (simp at * <;> omega) | (simp_all <;> omega) | (simp_all; done)
   ·intro b2
    try simp only [nrmT] at b2
    refine ⟨rfl, rfl, ?_, ?_, ?_⟩
    ·have := members_len_le (fun i9 => decide (J5 (E.getD i9 []) set set.length = site)) i.toNat
     rw [← h2] at this
     omega
    ·first | omega | rfl | (intro hg; simp only [nrmT] at hg; omega) | (intro g1 g2; simp [g1, g2]; done) | (intro g1; simp at g1 ⊢; simp [g1]; done) | (simp only [nrmT] at *; omega) | (simp at * <;> omega) | (simp_all <;> omega) | (simp_all; done)
    refine ⟨(out ++ [i]), (i + 1), ?_⟩
    refine ⟨?_, ?_, rfl, rfl, ?_, rfl, rfl, rfl, rfl⟩
    ·refine ⟨?_, ?_⟩
     ·first | omega | rfl | (intro hg; simp only [nrmT] at hg; omega) | (intro g1 g2; simp [g1, g2]; done) | (intro g1; simp at g1 ⊢; simp [g1]; done) | (simp only [nrmT] at *; omega) | (simp at * <;> omega) | (simp_all <;> omega) | (simp_all; done)
     ·rw [show (i + 1).toNat = i.toNat + 1 by omega, members_succ, if_pos (decide_eq_true b2), ← h2, show ((i.toNat : Nat) : Int) = i by omega]
    ·first | (show _ < _; omega) | (simp only [Jn]; omega) | (simp only [Jn] at *; simp at *; omega)
    simp
   intro b3
   try simp only [nrmT] at b3
   refine ⟨?_, ?_⟩
   ·first | omega | rfl | (intro hg; simp only [nrmT] at hg; omega) | (intro g1 g2; simp [g1, g2]; done) | (intro g1; simp at g1 ⊢; simp [g1]; done) | (simp only [nrmT] at *; omega) | (simp at * <;> omega) | (simp_all <;> omega) | (simp_all; done)
   refine ⟨out, (i + 1), ?_⟩
   refine ⟨?_, ?_, rfl, rfl, rfl, rfl, rfl, rfl, rfl⟩
   ·refine ⟨?_, ?_⟩
    ·first | omega | rfl | (intro hg; simp only [nrmT] at hg; omega) | (intro g1 g2; simp [g1, g2]; done) | (intro g1; simp at g1 ⊢; simp [g1]; done) | (simp only [nrmT] at *; omega) | (simp at * <;> omega) | (simp_all <;> omega) | (simp_all; done)
    ·rw [show (i + 1).toNat = i.toNat + 1 by omega, members_succ, if_neg (by rw [decide_eq_false b3]; decide), List.append_nil, ← h2]
   first | (show _ < _; omega) | (simp only [Jn]; omega) | (simp only [Jn] at *; simp at *; omega)
  intro b4
  try simp only [nrmT] at b4
  refine ⟨rfl, ?_⟩
  ·rw [h2, show i.toNat = E.length by omega]
theorem J4I (U : ZI) (E : ZR) (set : ZI) (site : Int) (ht : (J0 U E && J1 set 0 ((U.length : Int) - 1) && decide (0 < set.length)) = true) : PC Try.prog 213 [.agg [.sl (.ints U), .sl (.rows E)], .sl (.ints set), .int .i64 site] (.one (.d (.sl (.ints (members (fun i9 => decide (J5 (E.getD i9 []) set set.length = site)) E.length))))) :=
  pc_wf @Try.call213 fun hw => pc_by (by kernel_rfl) Try.func213 @Try.call213 (by kernel_rfl) J5v (J5J U E set site) (by kernel_rfl) (J4M U E set site ht hw.1.1 hw.1.2.1.1 hw.1.2.1.2 hw.2.1) (by kernel_rfl)
def J4v : List D → Orc := orcN [none, some .ints, none] fun ds => match ds with
  | [.agg [.sl (.ints U), .sl (.rows E)], .sl (.ints set), .int .i64 site] => some (.one (.d (.sl (.ints (members (fun i9 => decide (J5 (E.getD i9 []) set set.length = site)) E.length)))))
  | _ => none
abbrev J0h (U : ZI) (E : ZR) (set : ZI) (out : ZR) (k : Int) : Prop := (0 ≤ k ∧ k ≤ (set.length : Int)) ∧ (out = tabTo (fun k9 => members (fun t => decide (J5 (E.getD t []) set set.length = set.getD k9 0)) E.length) k.toNat)
abbrev J02 (U : ZI) (E : ZR) (set : ZI) (out : ZR) (k : Int) : Nat := (set.length - k).toNat
def J5I (f : FuncId) (ds : List D) : Orc := bif Nat.beq f 212 then J6q ds else bif Nat.beq f 213 then J4v ds else .no
def J5F (U : ZI) (E : ZR) (set : ZI) : Ann := .two (.none) (.two (.none) (.two (.none) (.two (.two (.none) (.loop (cut2 (fun (out : ZR) (k : Int) => J0h U E set out k) (fun (out : ZR) (k : Int) => [(1, .d false (.sl (.ints set))), (2, .ptr 2 0), (6, .own 1000000 out.length), (7, .d true (.int .i64 k))]) (fun (out : ZR) (k : Int) => [(1000000, .arr true 26 (.rows out)), (2, .box 39 [.d false (.sl (.ints U)), .d false (.sl (.rows E))])])) (fun g => J02 U E set g.1 g.2) (fun _ => .none))) (.none))))
def J2Q (U : ZI) (E : ZR) (set : ZI) : Prop :=
  (PC Try.prog 212 [.agg [.sl (.ints U), .sl (.rows E)], .sl (.ints set)] (.one (.d (.bool (J0 U E && J1 set 0 ((U.length : Int) - 1) && decide (0 < set.length)))))) ∧ (((!(J0 U E && J1 set 0 ((U.length : Int) - 1) && decide (0 < set.length))) = true → (((0 : Nat) = 0) ∧ (([] : ZR) = (coL U E set)) ∧ (false = (J0 U E && J1 set 0 ((U.length : Int) - 1) && decide (0 < set.length))))) ∧ ((!(J0 U E && J1 set 0 ((U.length : Int) - 1) && decide (0 < set.length))) = false → ((∃ out' : ZR, ∃ k' : Int, (J0h U E set out' k') ∧ (set = set) ∧ ((0 : Nat) = out'.length) ∧ ((0 : Int) = k') ∧ ([] = out') ∧ (U = U) ∧ (E = E)) ∧ (∀ out : ZR, ∀ k : Int, (J0h U E set out k) → (((decide (k < (set.length : Int))) = true → (true = true) ∧ ((0 : Int) ≤ k) ∧ ((k : Int) < set.length) ∧ (k.toNat < set.length) ∧ (PC Try.prog 213 [.agg [.sl (.ints U), .sl (.rows E)], .sl (.ints set), .int .i64 (set.getD k.toNat 0)] (.one (.d (.sl (.ints (members (fun i9 => decide (J5 (E.getD i9 []) set set.length = (set.getD k.toNat 0))) E.length)))))) ∧ (out.length = out.length) ∧ ((1 : Nat) = 1) ∧ ((out.length + 1) * 24 ≤ 140737488355328) ∧ (I6 (k + 1)) ∧ (∃ out' : ZR, ∃ k' : Int, (J0h U E set out' k') ∧ (J02 U E set out' k' < J02 U E set out k) ∧ (set = set) ∧ ((out.length + 1) = out'.length) ∧ ((k + 1) = k') ∧ ((out ++ [(members (fun i9 => decide (J5 (E.getD i9 []) set set.length = (set.getD k.toNat 0))) E.length)]) = out') ∧ (U = U) ∧ (E = E))) ∧ ((decide (k < (set.length : Int))) = false → ((out.length = out.length) ∧ ((out : ZR) = (coL U E set)) ∧ (true = (J0 U E && J1 set 0 ((U.length : Int) - 1) && decide (0 < set.length))))))))))
theorem J55 (U : ZI) (E : ZR) (set : ZI)  (w_Open : (U.length : Int) ≤ 9223372036854775807) (w_Dist : (E.length : Int) ≤ 9223372036854775807) (v_Dist : ∀ x9 ∈ E, (x9.length : Int) ≤ 9223372036854775807) (w_set : (set.length : Int) ≤ 9223372036854775807) : J2Q U E set := by
  unfold J2Q
  refine ⟨J7F U E set, ?_, ?_⟩
  ·intro b1
   try simp only [Bool.not_eq_true', Bool.not_eq_false', Bool.not_not] at b1
   refine ⟨rfl, ?_, ?_⟩
   ·have hq : (J0 U E && J1 set 0 ((U.length : Int) - 1) && decide (0 < set.length)) = false := by simpa only [Bool.not_eq_true', Bool.not_eq_false', Bool.not_not] using b1
    unfold coL; rw [hq]; rfl
   have hq : (J0 U E && J1 set 0 ((U.length : Int) - 1) && decide (0 < set.length)) = false := by simpa only [Bool.not_eq_true', Bool.not_eq_false', Bool.not_not] using b1
   exact hq.symm
  intro b2
  try simp only [Bool.not_eq_true', Bool.not_eq_false', Bool.not_not] at b2
  refine ⟨?_, ?_⟩
  ·refine ⟨([]), 0, ?_⟩
   refine ⟨?_, rfl, rfl, rfl, ?_, rfl, rfl⟩
   ·refine ⟨?_, ?_⟩
    ·first | omega | rfl | (intro hg; simp only [nrmT] at hg; omega) | (intro g1 g2; simp [g1, g2]; done) | (intro g1; simp at g1 ⊢; simp [g1]; done) | (simp only [nrmT] at *; omega) | (simp at * <;> omega) | (simp_all <;> omega) | (simp_all; done)
    ·rfl
   first | omega | rfl | (intro hg; simp only [nrmT] at hg; omega) | (intro g1 g2; simp [g1, g2]; done) | (intro g1; simp at g1 ⊢; simp [g1]; done) | (simp only [nrmT] at *; omega) | (simp at * <;> omega) | (simp_all <;> omega) | (simp_all; done)
  intro out k hJ
  obtain ⟨h1, h2⟩ := hJ
  refine ⟨?_, ?_⟩
  ·intro b3
   try simp only [nrmT] at b3
   refine ⟨rfl, ?_, ?_, ?_, ?_, rfl, rfl, ?_, ?_, ?_⟩
   ·first | omega | rfl | (intro hg; simp only [nrmT] at hg; omega) | (intro g1 g2; simp [g1, g2]; done) | (intro g1; simp at g1 ⊢; simp [g1]; done) | (simp only [nrmT] at *; omega) | (simp at * <;> omega) | (simp_all <;> omega) | (simp_all; done)
   ·first | omega | rfl | (intro hg; simp only [nrmT] at hg; omega) | (intro g1 g2; simp [g1, g2]; done) | (intro g1; simp at g1 ⊢; simp [g1]; done) | (simp only [nrmT] at *; omega) | (simp at * <;> omega) | (simp_all <;> omega) | (simp_all; done)
   ·first | omega | rfl | (intro hg; simp only [nrmT] at hg; omega) | (intro g1 g2; simp [g1, g2]; done) | (intro g1; simp at g1 ⊢; simp [g1]; done) | (simp only [nrmT] at *; omega) | (simp at * <;> omega) | (simp_all <;> omega) | (simp_all; done)
   ·refine J4I U E set (set.getD k.toNat 0) ?_
    ·have hq : (J0 U E && J1 set 0 ((U.length : Int) - 1) && decide (0 < set.length)) = true := by simpa only [Bool.not_eq_true', Bool.not_eq_false', Bool.not_not] using b2
     obtain ⟨hg, hs, hp⟩ := J7 hq
     obtain ⟨g1, g2, g3⟩ := J9 hg
     have sl := Jb hs (by omega)
     exact hq
   ·have hq : (J0 U E && J1 set 0 ((U.length : Int) - 1) && decide (0 < set.length)) = true := by simpa only [Bool.not_eq_true', Bool.not_eq_false', Bool.not_not] using b2
    obtain ⟨hg, hs, hp⟩ := J7 hq
    obtain ⟨g1, g2, g3⟩ := J9 hg
    have sl := Jb hs (by omega)
    rw [h2, tabTo_len]; omega
   ·first | omega | rfl | (intro hg; simp only [nrmT] at hg; omega) | (intro g1 g2; simp [g1, g2]; done) | (intro g1; simp at g1 ⊢; simp [g1]; done) | (simp only [nrmT] at *; omega) | (simp at * <;> omega) | (simp_all <;> omega) | (simp_all; done)
   refine ⟨(out ++ [(members (fun i9 => decide (J5 (E.getD i9 []) set set.length = (set.getD k.toNat 0))) E.length)]), (k + 1), ?_⟩
   refine ⟨?_, ?_, rfl, ?_, rfl, rfl, rfl, rfl⟩
   ·refine ⟨?_, ?_⟩
    ·first | omega | rfl | (intro hg; simp only [nrmT] at hg; omega) | (intro g1 g2; simp [g1, g2]; done) | (intro g1; simp at g1 ⊢; simp [g1]; done) | (simp only [nrmT] at *; omega) | (simp at * <;> omega) | (simp_all <;> omega) | (simp_all; done)
    ·rw [show (k + 1).toNat = k.toNat + 1 by omega, tabTo_succ, ← h2]
   ·first | (show _ < _; omega) | (simp only [J02]; omega) | (simp only [J02] at *; simp at *; omega)
   simp
  intro b4
  try simp only [nrmT] at b4
  refine ⟨rfl, ?_, ?_⟩
  ·have hq : (J0 U E && J1 set 0 ((U.length : Int) - 1) && decide (0 < set.length)) = true := by simpa only [Bool.not_eq_true', Bool.not_eq_false', Bool.not_not] using b2
   obtain ⟨hg, hs, hp⟩ := J7 hq
   obtain ⟨g1, g2, g3⟩ := J9 hg
   have sl := Jb hs (by omega)
   unfold coL; rw [if_pos hq, h2, show k.toNat = set.length by omega]; rfl
  have hq : (J0 U E && J1 set 0 ((U.length : Int) - 1) && decide (0 < set.length)) = true := by simpa only [Bool.not_eq_true', Bool.not_eq_false', Bool.not_not] using b2
  obtain ⟨hg, hs, hp⟩ := J7 hq
  obtain ⟨g1, g2, g3⟩ := J9 hg
  have sl := Jb hs (by omega)
  exact hq.symm
theorem J4W (U : ZI) (E : ZR) (set : ZI)  : PC Try.prog 139 [.agg [.sl (.ints U), .sl (.rows E)], .sl (.ints set)] (.tup [.d (.sl (.rows (coL U E set))), .d (.bool (J0 U E && J1 set 0 ((U.length : Int) - 1) && decide (0 < set.length)))]) :=
  pc_wf @Try.call139 fun hw => pc_by (by kernel_rfl) Try.func139 @Try.call139 (by kernel_rfl) J5I (J5F U E set) (by kernel_rfl) (J55 U E set hw.1.1 hw.1.2.1.1 hw.1.2.1.2 hw.2.1) (by kernel_rfl)
def J4j : List D → Orc := orcN [none, some .ints] fun ds => match ds with
  | [.agg [.sl (.ints U), .sl (.rows E)], .sl (.ints set)] => some (.tup [.d (.sl (.rows (coL U E set))), .d (.bool (J0 U E && J1 set 0 ((U.length : Int) - 1) && decide (0 < set.length)))])
  | _ => none
abbrev J0n (U : ZI) (E : ZR) (set : ZI) (out : ZR) (i : Int) : Prop := (0 ≤ i ∧ i ≤ ((J3 E set E.length).length : Int)) ∧ (out = J1S E set i.toNat)
abbrev J04 (U : ZI) (E : ZR) (set : ZI) (out : ZR) (i : Int) : Nat := ((J3 E set E.length).length - i).toNat
def J5D (f : FuncId) (ds : List D) : Orc := bif Nat.beq f 136 then J51 ds else bif Nat.beq f 215 then J1G ds else bif Nat.beq f 216 then J23 ds else .no
def J5u (U : ZI) (E : ZR) (set : ZI) : Ann := .two (.none) (.two (.none) (.two (.reg [(2, .take)]) (.two (.two (.none) (.loop (cut2 (fun (out : ZR) (i : Int) => J0n U E set out i) (fun (out : ZR) (i : Int) => [(1, .d false (.sl (.ints set))), (6, .own 16 out.length), (19, .own 19 ((J3 E set E.length).length)), (20, .d true (.int .i64 (((J3 E set E.length).length) : Int))), (21, .d true (.int .i64 i))]) (fun (out : ZR) (i : Int) => [(16, .mat 3 26 out none), (19, .arr true 3 (.ints (J3 E set E.length)))])) (fun g => J04 U E set g.1 g.2) (fun g => (fun (out : ZR) (i : Int) => .two (.none) (.two (.none) (.two (.two (.none) (.two (.none) (.reg [(5, .take)]))) (.none)))) (g.1) (g.2)))) (.none))))
def J2N (U : ZI) (E : ZR) (set : ZI) : Prop :=
  (PC Try.prog 136 [.agg [.sl (.ints U), .sl (.rows E)], .sl (.ints set)] (.one (.d (.bool (J0 U E && J1 set 0 ((U.length : Int) - 1) && decide (0 < set.length)))))) ∧ (((!(J0 U E && J1 set 0 ((U.length : Int) - 1) && decide (0 < set.length))) = true → (((coL U E set).length = 0) ∧ (false = (J0 U E && J1 set 0 ((U.length : Int) - 1) && decide (0 < set.length))))) ∧ ((!(J0 U E && J1 set 0 ((U.length : Int) - 1) && decide (0 < set.length))) = false → ((set.length : Int) = (set.length : Int)) ∧ ((0 : Int) ≤ (set.length : Int)) ∧ (((set.length : Int) : Int) * ((24 : Nat) : Int) ≤ 140737488355328) ∧ (PC Try.prog 215 [.agg [.sl (.ints U), .sl (.rows E)], .sl (.ints set)] (.one (.own 3 (.ints (J3 E set E.length))))) ∧ ((∃ out' : ZR, ∃ i' : Int, (J0n U E set out' i') ∧ (set = set) ∧ ((set.length : Int).toNat = out'.length) ∧ ((J3 E set E.length).length = (J3 E set E.length).length) ∧ ((((J3 E set E.length).length) : Int) = (((J3 E set E.length).length) : Int)) ∧ ((0 : Int) = i') ∧ ((List.replicate ((set.length : Int).toNat) ([] : ZI)) = out') ∧ (J3 E set E.length = J3 E set E.length)) ∧ (∀ out : ZR, ∀ i : Int, (J0n U E set out i) → (((decide (i < (((J3 E set E.length).length) : Int))) = true → ((0 : Int) ≤ i) ∧ ((i : Int) < (((J3 E set E.length).length) : Int)) ∧ (i.toNat < (J3 E set E.length).length) ∧ (PC Try.prog 216 [.sl (.ints set), .int .i64 ((J3 E set E.length).getD i.toNat 0)] (.one (.d (.int .i64 (idxI (fun y => ((J3 E set E.length).getD i.toNat 0) == y) set))))) ∧ ((0 : Int) ≤ (idxI (fun y => ((J3 E set E.length).getD i.toNat 0) == y) set)) ∧ (((idxI (fun y => ((J3 E set E.length).getD i.toNat 0) == y) set) : Int) < (out.length : Int)) ∧ ((idxI (fun y => ((J3 E set E.length).getD i.toNat 0) == y) set).toNat < out.length) ∧ ((out.getD ((idxI (fun y => ((J3 E set E.length).getD i.toNat 0) == y) set).toNat) []).length = (out.getD ((idxI (fun y => ((J3 E set E.length).getD i.toNat 0) == y) set).toNat) []).length) ∧ ((1 : Nat) = 1) ∧ (((out.getD ((idxI (fun y => ((J3 E set E.length).getD i.toNat 0) == y) set).toNat) []).length + 1) * 8 ≤ 140737488355328) ∧ ((0 : Int) ≤ (idxI (fun y => ((J3 E set E.length).getD i.toNat 0) == y) set)) ∧ (((idxI (fun y => ((J3 E set E.length).getD i.toNat 0) == y) set) : Int) < (out.length : Int)) ∧ ((idxI (fun y => ((J3 E set E.length).getD i.toNat 0) == y) set).toNat = (idxI (fun y => ((J3 E set E.length).getD i.toNat 0) == y) set).toNat) ∧ ((idxI (fun y => ((J3 E set E.length).getD i.toNat 0) == y) set).toNat < out.length) ∧ (((out.getD ((idxI (fun y => ((J3 E set E.length).getD i.toNat 0) == y) set).toNat) []).length + 1) = ((out.getD ((idxI (fun y => ((J3 E set E.length).getD i.toNat 0) == y) set).toNat) []) ++ [i]).length) ∧ (I6 (i + 1)) ∧ (∃ out' : ZR, ∃ i' : Int, (J0n U E set out' i') ∧ (J04 U E set out' i' < J04 U E set out i) ∧ (set = set) ∧ (out.length = out'.length) ∧ ((J3 E set E.length).length = (J3 E set E.length).length) ∧ ((((J3 E set E.length).length) : Int) = (((J3 E set E.length).length) : Int)) ∧ ((i + 1) = i') ∧ ((out.set ((idxI (fun y => ((J3 E set E.length).getD i.toNat 0) == y) set).toNat) ((out.getD ((idxI (fun y => ((J3 E set E.length).getD i.toNat 0) == y) set).toNat) []) ++ [i])) = out') ∧ (J3 E set E.length = J3 E set E.length))) ∧ ((decide (i < (((J3 E set E.length).length) : Int))) = false → ((out.length = out.length) ∧ ((out : ZR) = coL U E set) ∧ (true = (J0 U E && J1 set 0 ((U.length : Int) - 1) && decide (0 < set.length))))))))))
theorem J4N (U : ZI) (E : ZR) (set : ZI)  (w_Open : (U.length : Int) ≤ 9223372036854775807) (w_Dist : (E.length : Int) ≤ 9223372036854775807) (v_Dist : ∀ x9 ∈ E, (x9.length : Int) ≤ 9223372036854775807) (w_set : (set.length : Int) ≤ 9223372036854775807) : J2N U E set := by
  unfold J2N
  refine ⟨J5w U E set, ?_, ?_⟩
  ·intro b1
   try simp only [Bool.not_eq_true', Bool.not_eq_false', Bool.not_not] at b1
   refine ⟨?_, ?_⟩
   ·have hq : (J0 U E && J1 set 0 ((U.length : Int) - 1) && decide (0 < set.length)) = false := by simpa only [Bool.not_eq_true', Bool.not_eq_false', Bool.not_not] using b1
    unfold coL; rw [hq]; rfl
   have hq : (J0 U E && J1 set 0 ((U.length : Int) - 1) && decide (0 < set.length)) = false := by simpa only [Bool.not_eq_true', Bool.not_eq_false', Bool.not_not] using b1
   exact hq.symm
  intro b2
  try simp only [Bool.not_eq_true', Bool.not_eq_false', Bool.not_not] at b2
  refine ⟨rfl, ?_, ?_, ?_, ?_, ?_⟩
  ·first | omega | rfl | (intro hg; simp only [nrmT] at hg; omega) | (intro g1 g2; simp [g1, g2]; done) | (intro g1; simp at g1 ⊢; simp [g1]; done) | (simp only [nrmT] at *; omega) | (simp at * <;> omega) | (simp_all <;> omega) | (simp_all; done)
  ·have hq : (J0 U E && J1 set 0 ((U.length : Int) - 1) && decide (0 < set.length)) = true := by simpa only [Bool.not_eq_true', Bool.not_eq_false', Bool.not_not] using b2
   obtain ⟨hg, hs, hp⟩ := J7 hq
   obtain ⟨g1, g2, g3⟩ := J9 hg
   have sl := Jb hs (by omega)
   omega
  ·refine J1T U E set ?_
   ·have hq : (J0 U E && J1 set 0 ((U.length : Int) - 1) && decide (0 < set.length)) = true := by simpa only [Bool.not_eq_true', Bool.not_eq_false', Bool.not_not] using b2
    obtain ⟨hg, hs, hp⟩ := J7 hq
    obtain ⟨g1, g2, g3⟩ := J9 hg
    have sl := Jb hs (by omega)
    exact hq
  ·refine ⟨(List.replicate ((set.length : Int).toNat) ([] : ZI)), 0, ?_⟩
   refine ⟨?_, rfl, ?_, rfl, rfl, rfl, rfl, rfl⟩
   ·refine ⟨?_, ?_⟩
    ·first | omega | rfl | (intro hg; simp only [nrmT] at hg; omega) | (intro g1 g2; simp [g1, g2]; done) | (intro g1; simp at g1 ⊢; simp [g1]; done) | (simp only [nrmT] at *; omega) | (simp at * <;> omega) | (simp_all <;> omega) | (simp_all; done)
    ·rw [Int.toNat_natCast]; exact (J7L _ _).symm
   first | omega | rfl | (intro hg; simp only [nrmT] at hg; omega) | (intro g1 g2; simp [g1, g2]; done) | (intro g1; simp at g1 ⊢; simp [g1]; done) | (simp only [nrmT] at *; omega) | (simp at * <;> omega) | (simp_all <;> omega) | (simp_all; done)
  intro out i hJ
  obtain ⟨h1, h2⟩ := hJ
  refine ⟨?_, ?_⟩
  ·intro b3
   try simp only [nrmT] at b3
   refine ⟨?_, ?_, ?_, J29 set ((J3 E set E.length).getD i.toNat 0), ?_, ?_, ?_, rfl, rfl, ?_, ?_, ?_, rfl, ?_, ?_, ?_, ?_⟩
   ·first | omega | rfl | (intro hg; simp only [nrmT] at hg; omega) | (intro g1 g2; simp [g1, g2]; done) | (intro g1; simp at g1 ⊢; simp [g1]; done) | (simp only [nrmT] at *; omega) | (simp at * <;> omega) | (simp_all <;> omega) | (simp_all; done)
   ·first | omega | rfl | (intro hg; simp only [nrmT] at hg; omega) | (intro g1 g2; simp [g1, g2]; done) | (intro g1; simp at g1 ⊢; simp [g1]; done) | (simp only [nrmT] at *; omega) | (simp at * <;> omega) | (simp_all <;> omega) | (simp_all; done)
   ·first | omega | rfl | (intro hg; simp only [nrmT] at hg; omega) | (intro g1 g2; simp [g1, g2]; done) | (intro g1; simp at g1 ⊢; simp [g1]; done) | (simp only [nrmT] at *; omega) | (simp at * <;> omega) | (simp_all <;> omega) | (simp_all; done)
   ·have hq : (J0 U E && J1 set 0 ((U.length : Int) - 1) && decide (0 < set.length)) = true := by simpa only [Bool.not_eq_true', Bool.not_eq_false', Bool.not_not] using b2
    obtain ⟨hg, hs, hp⟩ := J7 hq
    obtain ⟨g1, g2, g3⟩ := J9 hg
    have sl := Jb hs (by omega)
    have sll := JE E set E.length
    have se := Jt E set E.length i.toNat (by omega)
    have hmem := JJ (row := E.getD i.toNat []) (set := set) hp set.length (Nat.le_refl _)
    obtain ⟨x1, x2, x3⟩ := J0r hmem
    have ol : out.length = set.length := by rw [h2, JB]
    rw [se]
    omega
   ·have hq : (J0 U E && J1 set 0 ((U.length : Int) - 1) && decide (0 < set.length)) = true := by simpa only [Bool.not_eq_true', Bool.not_eq_false', Bool.not_not] using b2
    obtain ⟨hg, hs, hp⟩ := J7 hq
    obtain ⟨g1, g2, g3⟩ := J9 hg
    have sl := Jb hs (by omega)
    have sll := JE E set E.length
    have se := Jt E set E.length i.toNat (by omega)
    have hmem := JJ (row := E.getD i.toNat []) (set := set) hp set.length (Nat.le_refl _)
    obtain ⟨x1, x2, x3⟩ := J0r hmem
    have ol : out.length = set.length := by rw [h2, JB]
    rw [se]
    omega
   ·have hq : (J0 U E && J1 set 0 ((U.length : Int) - 1) && decide (0 < set.length)) = true := by simpa only [Bool.not_eq_true', Bool.not_eq_false', Bool.not_not] using b2
    obtain ⟨hg, hs, hp⟩ := J7 hq
    obtain ⟨g1, g2, g3⟩ := J9 hg
    have sl := Jb hs (by omega)
    have sll := JE E set E.length
    have se := Jt E set E.length i.toNat (by omega)
    have hmem := JJ (row := E.getD i.toNat []) (set := set) hp set.length (Nat.le_refl _)
    obtain ⟨x1, x2, x3⟩ := J0r hmem
    have ol : out.length = set.length := by rw [h2, JB]
    rw [se]
    omega
   ·have hq : (J0 U E && J1 set 0 ((U.length : Int) - 1) && decide (0 < set.length)) = true := by simpa only [Bool.not_eq_true', Bool.not_eq_false', Bool.not_not] using b2
    obtain ⟨hg, hs, hp⟩ := J7 hq
    obtain ⟨g1, g2, g3⟩ := J9 hg
    have sl := Jb hs (by omega)
    have sll := JE E set E.length
    have se := Jt E set E.length i.toNat (by omega)
    have hmem := JJ (row := E.getD i.toNat []) (set := set) hp set.length (Nat.le_refl _)
    obtain ⟨x1, x2, x3⟩ := J0r hmem
    have ol : out.length = set.length := by rw [h2, JB]
    have hr := J6N (D := E) (set := set) i.toNat (idxI (fun y => ((J3 E set E.length).getD i.toNat 0) == y) set).toNat
    rw [← h2] at hr
    have sl9 := J9 hg
    omega
   ·have hq : (J0 U E && J1 set 0 ((U.length : Int) - 1) && decide (0 < set.length)) = true := by simpa only [Bool.not_eq_true', Bool.not_eq_false', Bool.not_not] using b2
    obtain ⟨hg, hs, hp⟩ := J7 hq
    obtain ⟨g1, g2, g3⟩ := J9 hg
    have sl := Jb hs (by omega)
    have sll := JE E set E.length
    have se := Jt E set E.length i.toNat (by omega)
    have hmem := JJ (row := E.getD i.toNat []) (set := set) hp set.length (Nat.le_refl _)
    obtain ⟨x1, x2, x3⟩ := J0r hmem
    have ol : out.length = set.length := by rw [h2, JB]
    rw [se]
    omega
   ·have hq : (J0 U E && J1 set 0 ((U.length : Int) - 1) && decide (0 < set.length)) = true := by simpa only [Bool.not_eq_true', Bool.not_eq_false', Bool.not_not] using b2
    obtain ⟨hg, hs, hp⟩ := J7 hq
    obtain ⟨g1, g2, g3⟩ := J9 hg
    have sl := Jb hs (by omega)
    have sll := JE E set E.length
    have se := Jt E set E.length i.toNat (by omega)
    have hmem := JJ (row := E.getD i.toNat []) (set := set) hp set.length (Nat.le_refl _)
    obtain ⟨x1, x2, x3⟩ := J0r hmem
    have ol : out.length = set.length := by rw [h2, JB]
    rw [se]
    omega
   ·have hq : (J0 U E && J1 set 0 ((U.length : Int) - 1) && decide (0 < set.length)) = true := by simpa only [Bool.not_eq_true', Bool.not_eq_false', Bool.not_not] using b2
    obtain ⟨hg, hs, hp⟩ := J7 hq
    obtain ⟨g1, g2, g3⟩ := J9 hg
    have sl := Jb hs (by omega)
    have sll := JE E set E.length
    have se := Jt E set E.length i.toNat (by omega)
    have hmem := JJ (row := E.getD i.toNat []) (set := set) hp set.length (Nat.le_refl _)
    obtain ⟨x1, x2, x3⟩ := J0r hmem
    have ol : out.length = set.length := by rw [h2, JB]
    rw [se]
    omega
   ·simp
   ·have hq : (J0 U E && J1 set 0 ((U.length : Int) - 1) && decide (0 < set.length)) = true := by simpa only [Bool.not_eq_true', Bool.not_eq_false', Bool.not_not] using b2
    obtain ⟨hg, hs, hp⟩ := J7 hq
    obtain ⟨g1, g2, g3⟩ := J9 hg
    have sl := Jb hs (by omega)
    have sll := JE E set E.length
    omega
   refine ⟨(out.set ((idxI (fun y => ((J3 E set E.length).getD i.toNat 0) == y) set).toNat) ((out.getD ((idxI (fun y => ((J3 E set E.length).getD i.toNat 0) == y) set).toNat) []) ++ [i])), (i + 1), ?_⟩
   refine ⟨?_, ?_, rfl, ?_, rfl, rfl, rfl, rfl, rfl⟩
   ·refine ⟨?_, ?_⟩
    ·first | omega | rfl | (intro hg; simp only [nrmT] at hg; omega) | (intro g1 g2; simp [g1, g2]; done) | (intro g1; simp at g1 ⊢; simp [g1]; done) | (simp only [nrmT] at *; omega) | (simp at * <;> omega) | (simp_all <;> omega) | (simp_all; done)
    ·have hq : (J0 U E && J1 set 0 ((U.length : Int) - 1) && decide (0 < set.length)) = true := by simpa only [Bool.not_eq_true', Bool.not_eq_false', Bool.not_not] using b2
     obtain ⟨hg, hs, hp⟩ := J7 hq
     obtain ⟨g1, g2, g3⟩ := J9 hg
     have sl := Jb hs (by omega)
     have sll := JE E set E.length
     have se := Jt E set E.length i.toNat (by omega)
     have hmem := JJ (row := E.getD i.toNat []) (set := set) hp set.length (Nat.le_refl _)
     obtain ⟨x1, x2, x3⟩ := J0r hmem
     have ol : out.length = set.length := by rw [h2, JB]
     rw [se, h2, show (i + 1).toNat = i.toNat + 1 by omega]
     have hst := J82 (O := U) (D := E) hs (i := i.toNat) (by omega) x3
     rw [show ((i.toNat : Nat) : Int) = i by omega] at hst
     exact hst
   ·first | (show _ < _; omega) | (simp only [J04]; omega) | (simp only [J04] at *; simp at *; omega)
   simp
  intro b4
  try simp only [nrmT] at b4
  refine ⟨rfl, ?_, ?_⟩
  ·have hq : (J0 U E && J1 set 0 ((U.length : Int) - 1) && decide (0 < set.length)) = true := by simpa only [Bool.not_eq_true', Bool.not_eq_false', Bool.not_not] using b2
   obtain ⟨hg, hs, hp⟩ := J7 hq
   obtain ⟨g1, g2, g3⟩ := J9 hg
   have sl := Jb hs (by omega)
   have sll := JE E set E.length
   unfold coL
   rw [if_pos hq, h2, show i.toNat = E.length by omega]; rfl
  have hq : (J0 U E && J1 set 0 ((U.length : Int) - 1) && decide (0 < set.length)) = true := by simpa only [Bool.not_eq_true', Bool.not_eq_false', Bool.not_not] using b2
  obtain ⟨hg, hs, hp⟩ := J7 hq
  obtain ⟨g1, g2, g3⟩ := J9 hg
  have sl := Jb hs (by omega)
  exact hq.symm
theorem J4Q (U : ZI) (E : ZR) (set : ZI)  : PC Try.prog 142 [.agg [.sl (.ints U), .sl (.rows E)], .sl (.ints set)] (.tup [.mat 3 26 (coL U E set), .d (.bool (J0 U E && J1 set 0 ((U.length : Int) - 1) && decide (0 < set.length)))]) :=
  pc_wf @Try.call142 fun hw => pc_by (by kernel_rfl) Try.func142 @Try.call142 (by kernel_rfl) J5D (J5u U E set) (by kernel_rfl) (J4N U E set hw.1.1 hw.1.2.1.1 hw.1.2.1.2 hw.2.1) (by kernel_rfl)
def J4i : List D → Orc := orcN [none, some .ints] fun ds => match ds with
  | [.agg [.sl (.ints U), .sl (.rows E)], .sl (.ints set)] => some (.tup [.mat 3 26 (coL U E set), .d (.bool (J0 U E && J1 set 0 ((U.length : Int) - 1) && decide (0 < set.length)))])
  | _ => none
abbrev J0T (sites : ZI) (clients : ZI) (k : Int) (O9 : ZI) (D9 : ZR) : Prop := (O9 = List.replicate sites.length 0) ∧ (D9 = JG sites clients)
def J57 (f : FuncId) (ds : List D) : Orc := bif Nat.beq f 137 then J6o ds else bif Nat.beq f 116 then J1g ds else bif Nat.beq f 138 then J6f ds else bif Nat.beq f 140 then J63 ds else bif Nat.beq f 139 then J4j ds else .no
def J58 (sites : ZI) (clients : ZI) (k : Int) : Ann := .two (.none) (.two (.none) (.cut (.none) (cut2 (fun (O9 : ZI) (D9 : ZR) => J0T sites clients k O9 D9) (fun (O9 : ZI) (D9 : ZR) => [(2, .d false (.int .i64 k)), (8, .ptr 8 0)]) (fun (O9 : ZI) (D9 : ZR) => [(8, .box 39 [.d true (.sl (.ints O9)), .d true (.sl (.rows D9))])])) (fun _ => .none)))
def J2x (sites : ZI) (clients : ZI) (k : Int) : Prop :=
  (PC Try.prog 137 [.sl (.ints sites), .sl (.ints clients)] (.one (.d (.bool (J4 sites clients))))) ∧ ((!(!(J4 sites clients))) = true → (!(!(J4 sites clients))) = true) ∧ ((!(!(J4 sites clients))) = true → (!(!(J4 sites clients))) = true) ∧ ((!(!(J4 sites clients))) = true → (!(!(J4 sites clients))) = true) ∧ ((!(!(J4 sites clients))) = true → PC Try.prog 116 [.int .i64 k, .int .i64 1, .int .i64 (sites.length : Int)] (.one (.d (.bool (inB k 1 (sites.length : Int)))))) ∧ ((!(!(J4 sites clients))) = true → (!(!(J4 sites clients))) = true) ∧ (true = true) ∧ (((!(J4 sites clients)) = true → true = true)) ∧ (((!(J4 sites clients)) = false → (!(!(J4 sites clients))) = true)) ∧ (((cond (!(J4 sites clients)) true (!(inB k 1 (sites.length : Int)))) = true → (((0 : Nat) = 0) ∧ (([] : ZR) = (lgL sites clients k)) ∧ (false = (lmB sites clients k)))) ∧ ((cond (!(J4 sites clients)) true (!(inB k 1 (sites.length : Int)))) = false → (((PC Try.prog 138 [.sl (.ints sites), .sl (.ints clients)] (.one (.d (.agg [.sl (.ints (List.replicate sites.length 0)), .sl (.rows (JG sites clients))])))) ∧ (∃ O9' : ZI, ∃ D9' : ZR, (J0T sites clients k O9' D9') ∧ (k = k) ∧ (List.replicate sites.length 0 = O9') ∧ (JG sites clients = D9'))) ∧ (∀ O9 : ZI, ∀ D9 : ZR, (J0T sites clients k O9 D9) → (true = true) ∧ (PC Try.prog 140 [.agg [.sl (.ints O9), .sl (.rows D9)], .int .i64 k] (.one (.d (.sl (.ints (Jz O9 D9 k)))))) ∧ (PC Try.prog 139 [.agg [.sl (.ints O9), .sl (.rows D9)], .sl (.ints (Jz O9 D9 k))] (.tup [.d (.sl (.rows (coL O9 D9 (Jz O9 D9 k)))), .d (.bool (J0 O9 D9 && J1 (Jz O9 D9 k) 0 ((O9.length : Int) - 1) && decide (0 < (Jz O9 D9 k).length)))])) ∧ ((((coL O9 D9 (Jz O9 D9 k)) : ZR) = (lgL sites clients k)) ∧ ((J0 O9 D9 && J1 (Jz O9 D9 k) 0 ((O9.length : Int) - 1) && decide (0 < (Jz O9 D9 k).length)) = (lmB sites clients k)))))))
theorem J4o (sites : ZI) (clients : ZI) (k : Int)  (w_sites : (sites.length : Int) ≤ 9223372036854775807) (w_clients : (clients.length : Int) ≤ 9223372036854775807) : J2x sites clients k := by
  unfold J2x
  refine ⟨J6y sites clients, id, id, id, fun _ => J0Z k 1 (sites.length : Int), id, rfl, fun _ => rfl, ?_, ?_, ?_⟩
  ·intro h; rw [h]; rfl
  ·intro b1
   refine ⟨rfl, ?_, ?_⟩
   ·have hq : lmB sites clients k = false := by
      unfold lmB
      revert b1; cases J4 sites clients <;> cases inB k 1 (sites.length : Int) <;> simp
    unfold lgL; rw [hq]; rfl
   have hq : lmB sites clients k = false := by
     unfold lmB
     revert b1; cases J4 sites clients <;> cases inB k 1 (sites.length : Int) <;> simp
   exact hq.symm
  intro b2
  refine ⟨?_, ?_⟩
  ·refine ⟨?_, ?_⟩
   ·refine J6S sites clients ?_
    ·have hq : lmB sites clients k = true := by
       unfold lmB
       revert b2; cases J4 sites clients <;> cases inB k 1 (sites.length : Int) <;> simp
     obtain ⟨m1, m2, m3, m4, m5⟩ := J06 hq
     exact m1
   ·refine ⟨(List.replicate sites.length 0), (JG sites clients), ?_⟩
    refine ⟨?_, rfl, ?_, ?_⟩
    ·refine ⟨?_, ?_⟩
     ·first | omega | rfl | (intro hg; simp only [nrmT] at hg; omega) | (intro g1 g2; simp [g1, g2]; done) | (intro g1; simp at g1 ⊢; simp [g1]; done) | (simp only [nrmT] at *; omega) | (simp at * <;> omega) | (simp_all <;> omega) | (simp_all; done)
     ·first | omega | rfl | (intro hg; simp only [nrmT] at hg; omega) | (intro g1 g2; simp [g1, g2]; done) | (intro g1; simp at g1 ⊢; simp [g1]; done) | (simp only [nrmT] at *; omega) | (simp at * <;> omega) | (simp_all <;> omega) | (simp_all; done)
    ·first | omega | rfl | (intro hg; simp only [nrmT] at hg; omega) | (intro g1 g2; simp [g1, g2]; done) | (intro g1; simp at g1 ⊢; simp [g1]; done) | (simp only [nrmT] at *; omega) | (simp at * <;> omega) | (simp_all <;> omega) | (simp_all; done)
    first | omega | rfl | (intro hg; simp only [nrmT] at hg; omega) | (intro g1 g2; simp [g1, g2]; done) | (intro g1; simp at g1 ⊢; simp [g1]; done) | (simp only [nrmT] at *; omega) | (simp at * <;> omega) | (simp_all <;> omega) | (simp_all; done)
  intro O9 D9 hJ
  obtain ⟨k1, k2⟩ := hJ
  refine ⟨rfl, ?_, J4W O9 D9 (Jz O9 D9 k), ?_, ?_⟩
  ·refine J6G O9 D9 k ?_ ?_
   ·have hq : lmB sites clients k = true := by
      unfold lmB
      revert b2; cases J4 sites clients <;> cases inB k 1 (sites.length : Int) <;> simp
    obtain ⟨m1, m2, m3, m4, m5⟩ := J06 hq
    rw [k1, k2]; exact m4
   ·have hq : lmB sites clients k = true := by
      unfold lmB
      revert b2; cases J4 sites clients <;> cases inB k 1 (sites.length : Int) <;> simp
    obtain ⟨m1, m2, m3, m4, m5⟩ := J06 hq
    rw [k1, List.length_replicate]; exact m3
  ·have hq : lmB sites clients k = true := by
     unfold lmB
     revert b2; cases J4 sites clients <;> cases inB k 1 (sites.length : Int) <;> simp
   obtain ⟨m1, m2, m3, m4, m5⟩ := J06 hq
   subst k1 k2
   unfold lgL coL; rw [if_pos hq]; exact if_pos m5
  have hq : lmB sites clients k = true := by
    unfold lmB
    revert b2; cases J4 sites clients <;> cases inB k 1 (sites.length : Int) <;> simp
  obtain ⟨m1, m2, m3, m4, m5⟩ := J06 hq
  subst k1 k2
  rw [hq]; exact m5
theorem J4y (sites : ZI) (clients : ZI) (k : Int)  : PC Try.prog 43 [.sl (.ints sites), .sl (.ints clients), .int .i64 k] (.tup [.d (.sl (.rows (lgL sites clients k))), .d (.bool (lmB sites clients k))]) :=
  pc_wf @Try.call43 fun hw => pc_by (by kernel_rfl) Try.func43 @Try.call43 (by kernel_rfl) J57 (J58 sites clients k) (by kernel_rfl) (J4o sites clients k hw.1 hw.2.1) (by kernel_rfl)
def J3Y : List D → Orc := orcN [some .ints, some .ints, none] fun ds => match ds with
  | [.sl (.ints sites), .sl (.ints clients), .int .i64 k] => some (.tup [.d (.sl (.rows (lgL sites clients k))), .d (.bool (lmB sites clients k))])
  | _ => none
theorem J2y (ss cs : ZI) : (J4 ss cs = true ∧ lfO ss cs = List.replicate ss.length 0 ∧ lfD ss cs = JG ss cs) ∨ (J4 ss cs = false ∧ lfO ss cs = [] ∧ lfD ss cs = []) := by
  cases h : J4 ss cs with
  | true => exact .inl ⟨rfl, J26 h, J2B h⟩
  | false => exact .inr ⟨rfl, J5T h, J6n h⟩
def J53 (f : FuncId) (ds : List D) : Orc := bif Nat.beq f 39 then J4t ds else bif Nat.beq f 141 then J3f ds else bif Nat.beq f 143 then J33 ds else bif Nat.beq f 142 then J4i ds else .no
def J4K (sites : ZI) (clients : ZI) (k : Int) : Ann := .none
def J2A (sites : ZI) (clients : ZI) (k : Int) : Prop :=
  (PC Try.prog 39 [.sl (.ints sites), .sl (.ints clients)] (.tup [.d (.agg [.sl (.ints (lfO sites clients)), .sl (.rows (lfD sites clients))]), .d (.bool (J4 sites clients))])) ∧ ((!(!(J4 sites clients))) = true → (!(!(J4 sites clients))) = true) ∧ ((!(!(J4 sites clients))) = true → (!(!(J4 sites clients))) = true) ∧ ((!(!(J4 sites clients))) = true → PC Try.prog 141 [.agg [.sl (.ints (lfO sites clients)), .sl (.rows (lfD sites clients))], .int .i64 k] (.one (.d (.bool (J0 (lfO sites clients) (lfD sites clients) && inB k 1 ((lfO sites clients).length : Int)))))) ∧ ((!(!(J4 sites clients))) = true → (!(!(J4 sites clients))) = true) ∧ (true = true) ∧ (((!(J4 sites clients)) = true → true = true)) ∧ (((!(J4 sites clients)) = false → (!(!(J4 sites clients))) = true)) ∧ (((cond (!(J4 sites clients)) true (!(J0 (lfO sites clients) (lfD sites clients) && inB k 1 ((lfO sites clients).length : Int)))) = true → (((lgL sites clients k).length = 0) ∧ (false = (lmB sites clients k)))) ∧ ((cond (!(J4 sites clients)) true (!(J0 (lfO sites clients) (lfD sites clients) && inB k 1 ((lfO sites clients).length : Int)))) = false → (true = true) ∧ (PC Try.prog 143 [.agg [.sl (.ints (lfO sites clients)), .sl (.rows (lfD sites clients))], .int .i64 k] (.one (.d (.sl (.ints (Jz (lfO sites clients) (lfD sites clients) k)))))) ∧ (PC Try.prog 142 [.agg [.sl (.ints (lfO sites clients)), .sl (.rows (lfD sites clients))], .sl (.ints (Jz (lfO sites clients) (lfD sites clients) k))] (.tup [.mat 3 26 (coL (lfO sites clients) (lfD sites clients) (Jz (lfO sites clients) (lfD sites clients) k)), .d (.bool (J0 (lfO sites clients) (lfD sites clients) && J1 (Jz (lfO sites clients) (lfD sites clients) k) 0 (((lfO sites clients).length : Int) - 1) && decide (0 < (Jz (lfO sites clients) (lfD sites clients) k).length)))])) ∧ (((coL (lfO sites clients) (lfD sites clients) (Jz (lfO sites clients) (lfD sites clients) k)).length = (coL (lfO sites clients) (lfD sites clients) (Jz (lfO sites clients) (lfD sites clients) k)).length) ∧ ((coL (lfO sites clients) (lfD sites clients) (Jz (lfO sites clients) (lfD sites clients) k) : ZR) = lgL sites clients k) ∧ ((J0 (lfO sites clients) (lfD sites clients) && J1 (Jz (lfO sites clients) (lfD sites clients) k) 0 (((lfO sites clients).length : Int) - 1) && decide (0 < (Jz (lfO sites clients) (lfD sites clients) k).length)) = (lmB sites clients k)))))
theorem J4z (sites : ZI) (clients : ZI) (k : Int)  (w_sites : (sites.length : Int) ≤ 9223372036854775807) (w_clients : (clients.length : Int) ≤ 9223372036854775807) : J2A sites clients k := by
  unfold J2A
  refine ⟨J4S sites clients, id, id, fun _ => J3F (lfO sites clients) (lfD sites clients) k, id, rfl, fun _ => rfl, ?_, ?_, ?_⟩
  ·intro h; rw [h]; rfl
  ·intro b1
   refine ⟨?_, ?_⟩
   ·have hq : lmB sites clients k = false := by
      unfold lmB
      rcases J2y sites clients with ⟨a1, a2, a3⟩ | ⟨a1, a2, a3⟩
      · have hg9 := J1z a1
        rw [a1] at b1 ⊢
        rw [a2, a3] at b1
        rw [hg9, List.length_replicate] at b1
        revert b1; cases inB k 1 (sites.length : Int) <;> simp
      rw [a1]; rfl
    unfold lgL; rw [hq]; rfl
   have hq : lmB sites clients k = false := by
     unfold lmB
     rcases J2y sites clients with ⟨a1, a2, a3⟩ | ⟨a1, a2, a3⟩
     · have hg9 := J1z a1
       rw [a1] at b1 ⊢
       rw [a2, a3] at b1
       rw [hg9, List.length_replicate] at b1
       revert b1; cases inB k 1 (sites.length : Int) <;> simp
     rw [a1]; rfl
   exact hq.symm
  intro b2
  refine ⟨rfl, ?_, J4Q (lfO sites clients) (lfD sites clients) (Jz (lfO sites clients) (lfD sites clients) k), rfl, ?_, ?_⟩
  ·refine J3y (lfO sites clients) (lfD sites clients) k ?_ ?_
   ·have hq : lmB sites clients k = true := by
      unfold lmB
      rcases J2y sites clients with ⟨a1, a2, a3⟩ | ⟨a1, a2, a3⟩
      · have hg9 := J1z a1
        rw [a1] at b2 ⊢
        rw [a2, a3] at b2
        rw [hg9, List.length_replicate] at b2
        revert b2; cases inB k 1 (sites.length : Int) <;> simp
      rw [a1] at b2; simp at b2
    obtain ⟨m1, m2, m3, m4, m5⟩ := J06 hq
    rw [J26 m1, J2B m1]
    exact m4
   ·have hq : lmB sites clients k = true := by
      unfold lmB
      rcases J2y sites clients with ⟨a1, a2, a3⟩ | ⟨a1, a2, a3⟩
      · have hg9 := J1z a1
        rw [a1] at b2 ⊢
        rw [a2, a3] at b2
        rw [hg9, List.length_replicate] at b2
        revert b2; cases inB k 1 (sites.length : Int) <;> simp
      rw [a1] at b2; simp at b2
    obtain ⟨m1, m2, m3, m4, m5⟩ := J06 hq
    rw [J26 m1]
    rw [List.length_replicate]; exact m3
  ·have hq : lmB sites clients k = true := by
     unfold lmB
     rcases J2y sites clients with ⟨a1, a2, a3⟩ | ⟨a1, a2, a3⟩
     · have hg9 := J1z a1
       rw [a1] at b2 ⊢
       rw [a2, a3] at b2
       rw [hg9, List.length_replicate] at b2
       revert b2; cases inB k 1 (sites.length : Int) <;> simp
     rw [a1] at b2; simp at b2
   obtain ⟨m1, m2, m3, m4, m5⟩ := J06 hq
   rw [J26 m1, J2B m1]
   unfold lgL coL; rw [if_pos hq]; exact if_pos m5
  have hq : lmB sites clients k = true := by
    unfold lmB
    rcases J2y sites clients with ⟨a1, a2, a3⟩ | ⟨a1, a2, a3⟩
    · have hg9 := J1z a1
      rw [a1] at b2 ⊢
      rw [a2, a3] at b2
      rw [hg9, List.length_replicate] at b2
      revert b2; cases inB k 1 (sites.length : Int) <;> simp
    rw [a1] at b2; simp at b2
  obtain ⟨m1, m2, m3, m4, m5⟩ := J06 hq
  rw [J26 m1, J2B m1]
  rw [hq]; exact m5
theorem J2q (sites : ZI) (clients : ZI) (k : Int)  : PC Try.prog 45 [.sl (.ints sites), .sl (.ints clients), .int .i64 k] (.tup [.mat 3 26 (lgL sites clients k), .d (.bool (lmB sites clients k))]) :=
  pc_wf @Try.call45 fun hw => pc_by (by kernel_rfl) Try.func45 @Try.call45 (by kernel_rfl) J53 (J4K sites clients k) (by kernel_rfl) (J4z sites clients k hw.1 hw.2.1) (by kernel_rfl)
def J46 : List D → Orc := orcN [some .ints, some .ints, none] fun ds => match ds with
  | [.sl (.ints sites), .sl (.ints clients), .int .i64 k] => some (.tup [.mat 3 26 (lgL sites clients k), .d (.bool (lmB sites clients k))])
  | _ => none
def mkS : Int → ZR → ZR
  | _, [] => []
  | k, xs :: r => JF k xs.length :: mkS (k + (xs.length : Int)) r
def J8 (xss : ZR) : Nat := (xss.map List.length).sum
def J1y (k : Int) (xss : ZR) (g : Nat) : ZR := mkS k (xss.take g) ++ xss.drop g
theorem J1x : ∀ (k : Int) (xss : ZR), (mkS k xss).length = xss.length
  | _, [] => rfl
  | k, xs :: r => by simp [mkS, J1x _ r]
theorem J74 : ∀ (k : Int) (a b : ZR), mkS k (a ++ b) = mkS k a ++ mkS (k + (J8 a : Int)) b
  | k, [], b => by simp [mkS, J8]
  | k, xs :: r, b => by
    rw [List.cons_append]
    show JF k xs.length :: mkS _ (r ++ b) = _
    rw [J74 _ r b]
    show _ = JF k xs.length :: (_ ++ _)
    congr 3
    simp only [J8, List.map_cons, List.sum_cons]
    omega
theorem J85 (k : Int) (xss : ZR) : J1y k xss 0 = xss := by simp [J1y, mkS]
theorem J8p (k : Int) (xss : ZR) : J1y k xss xss.length = mkS k xss := by simp [J1y]
theorem J6e (k : Int) (xss : ZR) (g : Nat) (h : g ≤ xss.length) : (J1y k xss g).length = xss.length := by simp [J1y, J1x]; omega
theorem J8d (k : Int) (xss : ZR) (g : Nat) (h : g < xss.length) : (J1y k xss g).getD g [] = xss.getD g [] := by
  have : (mkS k (xss.take g)).length = g := by rw [J1x]; simp; omega
  simp [J1y, List.getElem?_append, this]
theorem J7M (k : Int) (xss : ZR) (g : Nat) (h : g < xss.length) : (J1y k xss g).set g (JF (k + (J8 (xss.take g) : Int)) (xss.getD g []).length) = J1y k xss (g + 1) := by
  have e1 : (mkS k (xss.take g)).length = g := by rw [J1x]; simp; omega
  have e2 : xss.drop g = xss.getD g [] :: xss.drop (g + 1) := by simp [h]
  have e3 : xss.take (g + 1) = xss.take g ++ [xss.getD g []] := by simp [h]
  unfold J1y
  rw [e3, J74, e2, List.set_append_right _ _ (by omega), e1, Nat.sub_self, List.append_assoc]
  rfl
theorem J1J (xss : ZR) (g : Nat) (h : g < xss.length) : J8 (xss.take (g + 1)) = J8 (xss.take g) + (xss.getD g []).length := by
  have e3 : xss.take (g + 1) = xss.take g ++ [xss.getD g []] := by simp [h]
  rw [e3]; simp [J8]
theorem J2G (xss : ZR) (g : Nat) : J8 (xss.take g) ≤ J8 xss := by
  have : xss = xss.take g ++ xss.drop g := (List.take_append_drop g xss).symm
  have h2 : J8 xss = J8 (xss.take g) + J8 (xss.drop g) := by
    conv => lhs; rw [this]
    simp only [J8, List.map_append, List.sum_append]
  omega
theorem MatOk.mark {w w' : World} {p : Nm} {e eo : TypeId} {xss : ZR} (h : MatOk w p e eo xss none) {i : Nat} (hi : i < xss.length) {ys : ZI} (hl : ys.length = (xss.getD i []).length)
    (hb : ∀ b, b < w.heap.size → ¬ (b = (p.rows i).1 ∧ 0 < (p.rows i).2) → w'.heap[b]? = w.heap[b]?) {cur' : Array Value} (hc : 0 < (p.rows i).2 → w'.heap[(p.rows i).1]? = some (.cells cur' e (0, 0)))
    (hs : cur'.size = (p.rows i).2) (hv : ∀ j, j < ys.length → cur'[j]? = some (.int .i64 (ys.getD j 0))) : MatOk w' p e eo (xss.set i ys) none := by
  have g1 : ∀ j, ((xss.set i ys).getD j []).length = (xss.getD j []).length := fun j => by
    by_cases hj : j = i
    · subst hj; simp [hi] at hl ⊢; exact hl
    simp [List.getElem?_set_ne (Ne.symm hj)]
  refine ⟨h.cap, by rw [List.length_set]; exact h.len, ?_, fun j hj hh => ?_, fun a b ha hb => h.apart a b (by simpa using ha) (by simpa using hb), fun a ha => h.outer a (by simpa using ha)⟩
  · obtain ⟨cur, h1, h2, h3⟩ := h.out
    refine ⟨cur, fun hp => ?_, h2, fun j hj hh => ?_⟩
    · rw [hb _ (Array.getElem?_eq_some_iff.1 (h1 hp)).1 (fun hq => h.outer i hi (by simp) hq.2 hp hq.1.symm)]; exact h1 hp
    rw [g1]; exact h3 j (by simpa using hj) hh
  have hj' : j < xss.length := by simpa using hj
  obtain ⟨a1, a2, cur, a3, a4, a5⟩ := h.inn j hj' hh
  by_cases hji : j = i
  · subst hji
    refine ⟨a1, by rw [g1]; exact a2, cur', hc, hs, fun c hcl => ?_⟩
    have e : (xss.set j ys).getD j [] = ys := by simp [hi]
    rw [e] at hcl ⊢
    exact hv c hcl
  have e : (xss.set i ys).getD j [] = xss.getD j [] := by simp [List.getElem?_set_ne (Ne.symm hji)]
  rw [e]
  refine ⟨a1, a2, cur, fun hp => ?_, a4, a5⟩
  rw [hb _ (Array.getElem?_eq_some_iff.1 (a3 hp)).1 (fun hq => hji (h.apart j i hj' hi (by simp) (by simp) hp hq.2 hq.1))]; exact a3 hp
/-- Only blocks in B are written over. -/
structure KeptOut (B : Nat → Prop) (w w' : World) : Prop where
  os : w'.os = w.os
  tape : w'.tape = w.tape
  output : w'.output = w.output
  size : w.heap.size ≤ w'.heap.size
  drawn : w.drawn ≤ w'.drawn
  out : ∀ b, b < w.heap.size → ¬ B b → w'.heap[b]? = w.heap[b]?
theorem KeptOut.refl (B : Nat → Prop) (w : World) : KeptOut B w w := ⟨rfl, rfl, rfl, Nat.le_refl _, Nat.le_refl _, fun _ _ _ => rfl⟩
theorem KeptOut.trans {B : Nat → Prop} {w w' w'' : World} (h : KeptOut B w w') (k : KeptOut B w' w'') : KeptOut B w w'' :=
  ⟨k.os.trans h.os, k.tape.trans h.tape, k.output.trans h.output, Nat.le_trans h.size k.size, Nat.le_trans h.drawn k.drawn, fun b hb hn => (k.out b (Nat.lt_of_lt_of_le hb h.size) hn).trans (h.out b hb hn)⟩
theorem KeptOut.mono {B C : Nat → Prop} {w w' : World} (h : KeptOut B w w') (hc : ∀ b, B b → C b) : KeptOut C w w' := ⟨h.os, h.tape, h.output, h.size, h.drawn, fun b hb hn => h.out b hb fun hB => hn (hc b hB)⟩
/-- One round's call: the row's JF. -/
theorem J8m {w : World} {p : Nm} {e eo : TypeId} {xss : ZR} (h : MatOk w p e eo xss none) {i : Nat} (hi : i < xss.length) {P : Program} {f : FuncId} {ys : ZI} {k r : Int} (hl : ys.length = (xss.getD i []).length)
    (hpw : PW P f e (xss.getD i []) ys k r) : ∃ v, w.cell? ⟨p.1, i, none⟩ = some v ∧ Calls P f #[v, .int .i64 k] w fun en w' => en = .returned (.int .i64 r) ∧ KeptOut (blk (.mat e eo xss none) p) w w' ∧ MatOk w' p e eo (xss.set i ys) none := by
  obtain ⟨cur, h1, h2, h3⟩ := h.out
  obtain ⟨v, hv, hv2⟩ := h3 i hi (by simp)
  obtain ⟨a1, a2, c1, a3, a4, a5⟩ := h.inn i hi (by simp)
  have hpos : 0 < p.2 := Nat.lt_of_lt_of_le (Nat.lt_of_le_of_lt (Nat.zero_le _) hi) h.len
  refine ⟨v, by rw [cell_of_row w _ _ _ _ _ (h1 hpos)]; exact hv, ?_⟩
  refine (hpw.2 w v (p.rows i).1 (p.rows i).2 c1 hv2 a3 a1 a4 a2 (fun j hj => a5 j hj)).mono fun en w' he => ?_
  obtain ⟨rfl, b1, b2, b3, b4, b5, b6, cur', b7, b8, b9⟩ := he
  exact ⟨rfl, ⟨b1, b2, b3, b4, b5, fun b hb hn => b6 b hb fun hq => hn (.inr ⟨i, hi, by simp, hq.1, hq.2⟩)⟩, h.mark hi hl b6 b7 b8 b9⟩
theorem J8b {p : Nm} {n : Nat} {v : Value} (h : OwnV p n v) : ∃ ad cap, v = .slice ad n cap ∧ (0 < n → ad = some ⟨p.1, 0, none⟩) := by
  rcases h with rfl | ⟨rfl, h0, _⟩
  · exact ⟨_, _, rfl, fun _ => rfl⟩
  exact ⟨_, _, by rw [h0], fun h => by omega⟩
theorem J2I (xss : ZR) (k : Int) (hk : 0 ≤ k) (hn : k + (J8 xss : Int) ≤ 9223372036854775807) : PWM Try.prog 49 3 26 xss (mkS k xss) k (k + (J8 xss : Int)) := by
  refine ⟨Try.call49, fun w v p hv hm => ?_⟩
  obtain ⟨ad, cap, rfl, had⟩ := J8b hv
  have hlen : (xss.length : Int) ≤ 9223372036854775807 := by
    have h1 := hm.cap
    have h2 := hm.len
    unfold maxLen at h1
    omega
  go_enter Try.func49, Try.ntmps49
  go_wp2
  go_loopw [1, 5] (fun u i wr => ∃ g : Nat, g ≤ xss.length ∧ i = .int .i64 g ∧ u = .int .i64 (k + (J8 (xss.take g) : Int)) ∧ KeptOut (blk (.mat 3 26 xss none) p) w wr ∧ MatOk wr p 3 26 (J1y k xss g) none) (fun _ i _ => xss.length - (Go.RowKit.intOf i).toNat)
  case atStart => exact ⟨0, Nat.zero_le _, rfl, by simp [J8], KeptOut.refl _ _, by rw [J85]; exact hm⟩
  case round =>
    obtain ⟨g, hg, rfl, rfl, hko, hmat⟩ := hrel
    by_cases hlt : g < xss.length
    · obtain rfl := had (by omega)
      have hmt := J8d k xss g hlt
      have hsl := J2G xss (g + 1)
      have hst := J1J xss g hlt
      have hgl : g < (J1y k xss g).length := by rw [J6e k xss g hg]; exact hlt
      obtain ⟨v, hcell, hcall⟩ := J8m hmat hgl (f := 48) (P := Try.prog) (ys := JF (k + (J8 (xss.take g) : Int)) (xss.getD g []).length) (k := k + (J8 (xss.take g) : Int)) (r := k + (J8 (xss.take g) : Int) + ((xss.getD g []).length : Int)) (by rw [hmt, Jw]) (by rw [hmt]; exact J37 _ _ (by omega) (by omega))
      rw [J7M k xss g hlt] at hcall
      clear hmt hgl hmat
      have A : Go.RowKit.Hid (J8 (xss.take (g + 1)) = J8 (xss.take g) + (xss.getD g []).length) := hst
      clear hst
      go_wp2_with (go_at_call 48; refine hcall.mono ?_; rintro e w' ⟨rfl, hko2, hmat2⟩)
      go_roundw
      case rel => exact ⟨g + 1, by omega, by go_num, by rw [A.out, show (xss.getD g []).length = xss[g].length by simp [hlt]]; go_num, hko.trans (hko2.mono fun b hb => by simp only [blk, J6e k xss g hg] at hb ⊢; exact hb), hmat2⟩
      case measure => simp [Go.RowKit.intOf]; omega
    have hge : g = xss.length := by omega
    subst hge
    go_wp2
    go_ret
    rw [J8p] at hmat
    exact ⟨by rw [List.take_length]; rfl, hko.os, hko.tape, hko.output, hko.size, hko.drawn, hko.out, hmat⟩
theorem J73 : ∀ (k : Int) (xss : ZR) (i : Nat), i < xss.length → (mkS k xss).getD i [] = JF (k + (J8 (xss.take i) : Int)) (xss.getD i []).length
  | k, [], i, h => by simp at h
  | k, xs :: r, 0, _ => by simp [mkS, J8]
  | k, xs :: r, i + 1, h => by
    have := J73 (k + (xs.length : Int)) r i (by simpa using h)
    show (JF k xs.length :: mkS _ r).getD (i + 1) [] = _
    rw [List.getD_cons_succ, this]
    simp only [List.take_succ_cons, J8, List.map_cons, List.sum_cons, List.getD_cons_succ]
    congr 1
    omega
theorem J4X : ∀ (k : Int) (xss : ZR), (mkS k xss).map List.length = xss.map List.length
  | _, [] => rfl
  | k, xs :: r => by simp [mkS, J4X _ r, Jw]
theorem Jk (k : Int) (xss : ZR) : J8 (mkS k xss) = J8 xss := by unfold J8; rw [J4X]
theorem J5S : ∀ (k : Int) (xss yss : ZR), xss.map List.length = yss.map List.length → mkS k xss = mkS k yss
  | _, [], [], _ => rfl
  | k, x :: r, y :: s, h => by
    simp only [List.map_cons, List.cons.injEq] at h
    show JF k x.length :: _ = JF k y.length :: _
    rw [h.1, J5S _ r s h.2]
theorem J6k (k : Int) (xss : ZR) : mkS k (mkS k xss) = mkS k xss := J5S k _ _ (J4X k xss)
abbrev J0o (xss : ZR) (k : Int) (k2 : Int) (i : Int) : Prop := (0 ≤ i) ∧ (i ≤ (xss.length : Int)) ∧ (k2 = k + (J8 (xss.take i.toNat) : Int))
abbrev JZ (xss : ZR) (k : Int) (k2 : Int) (i : Int) : Nat := (xss.length - i).toNat
def J5H (f : FuncId) (ds : List D) : Orc := bif Nat.beq f 121 then J4O ds else .no
def J5r (xss : ZR) (k : Int) : Ann := .two (.none) (.two (.two (.none) (.loop (cut2 (fun (k2 : Int) (i : Int) => J0o xss k k2 i) (fun (k2 : Int) (i : Int) => [(0, .d false (.sl (.rows xss))), (1, .d true (.int .i64 k2)), (5, .d true (.int .i64 i))]) (fun (k2 : Int) (i : Int) => [])) (fun g => JZ xss k g.1 g.2) (fun _ => .none))) (.none))
def J2K (xss : ZR) (k : Int) : Prop :=
  ((∃ k2' : Int, ∃ i' : Int, (J0o xss k k2' i') ∧ (xss = xss) ∧ (k = k2') ∧ ((0 : Int) = i')) ∧ (∀ k2 : Int, ∀ i : Int, (J0o xss k k2 i) → (((decide (i < (xss.length : Int))) = true → ((0 : Int) ≤ i) ∧ ((i : Int) < xss.length) ∧ (i.toNat < xss.length) ∧ (PC Try.prog 121 [.sl (.ints (xss.getD i.toNat [])), .int .i64 k2] (.one (.d (.int .i64 (k2 + ((xss.getD i.toNat []).length : Int)))))) ∧ (((decide ((k2 + ((xss.getD i.toNat []).length : Int)) < 0)) = true → ((((-1) : Int) = (k + (J8 xss : Int))))) ∧ ((decide ((k2 + ((xss.getD i.toNat []).length : Int)) < 0)) = false → (I6 (i + 1)) ∧ (∃ k2' : Int, ∃ i' : Int, (J0o xss k k2' i') ∧ (JZ xss k k2' i' < JZ xss k k2 i) ∧ (xss = xss) ∧ ((k2 + ((xss.getD i.toNat []).length : Int)) = k2') ∧ ((i + 1) = i'))))) ∧ ((decide (i < (xss.length : Int))) = false → ((k2 = (k + (J8 xss : Int))))))))
theorem J4L (xss : ZR) (k : Int) (hk : 0 ≤ k) (hx : xss = mkS k xss) (hn : k + (J8 xss : Int) ≤ 9223372036854775807) (w_xss : (xss.length : Int) ≤ 9223372036854775807) (v_xss : ∀ x9 ∈ xss, (x9.length : Int) ≤ 9223372036854775807) : J2K xss k := by
  unfold J2K
  refine ⟨?_, ?_⟩
  ·refine ⟨k, 0, ?_⟩
   refine ⟨?_, rfl, rfl, rfl⟩
   ·refine ⟨?_, ?_, ?_⟩
    ·first | omega | rfl | (intro hg; simp only [nrmT] at hg; omega) | (intro g1 g2; simp [g1, g2]; done) | (intro g1; simp at g1 ⊢; simp [g1]; done) | (simp only [nrmT] at *; omega) | (simp at * <;> omega) | (simp_all <;> omega) | (simp_all; done)
    ·first | omega | rfl | (intro hg; simp only [nrmT] at hg; omega) | (intro g1 g2; simp [g1, g2]; done) | (intro g1; simp at g1 ⊢; simp [g1]; done) | (simp only [nrmT] at *; omega) | (simp at * <;> omega) | (simp_all <;> omega) | (simp_all; done)
    ·simp [J8]
  intro k2 i hJ
  obtain ⟨h1, h2, h3⟩ := hJ
  refine ⟨?_, ?_⟩
  ·intro b1
   try simp only [nrmT] at b1
   refine ⟨?_, ?_, ?_, ?_, ?_, ?_⟩
   ·first | omega | rfl | (intro hg; simp only [nrmT] at hg; omega) | (intro g1 g2; simp [g1, g2]; done) | (intro g1; simp at g1 ⊢; simp [g1]; done) | (simp only [nrmT] at *; omega) | (simp at * <;> omega) | (simp_all <;> omega) | (simp_all; done)
   ·first | omega | rfl | (intro hg; simp only [nrmT] at hg; omega) | (intro g1 g2; simp [g1, g2]; done) | (intro g1; simp at g1 ⊢; simp [g1]; done) | (simp only [nrmT] at *; omega) | (simp at * <;> omega) | (simp_all <;> omega) | (simp_all; done)
   ·first | omega | rfl | (intro hg; simp only [nrmT] at hg; omega) | (intro g1 g2; simp [g1, g2]; done) | (intro g1; simp at g1 ⊢; simp [g1]; done) | (simp only [nrmT] at *; omega) | (simp at * <;> omega) | (simp_all <;> omega) | (simp_all; done)
   ·refine J5Q (xss.getD i.toNat []) k2 ?_ ?_ ?_
    ·first | omega | rfl | (intro hg; simp only [nrmT] at hg; omega) | (intro g1 g2; simp [g1, g2]; done) | (intro g1; simp at g1 ⊢; simp [g1]; done) | (simp only [nrmT] at *; omega) | (simp at * <;> omega) | (simp_all <;> omega) | (simp_all; done)
    ·have h9 := J2G xss (i.toNat + 1)
     have h8 := J1J xss i.toNat (by omega)
     have h7 := J73 k xss i.toNat (by omega)
     rw [← hx] at h7
     rw [h3]
     exact h7
    ·have h9 := J2G xss (i.toNat + 1)
     have h8 := J1J xss i.toNat (by omega)
     omega
   ·intro b2
    try simp only [nrmT] at b2
    have h9 := J2G xss (i.toNat + 1)
    have h8 := J1J xss i.toNat (by omega)
    exfalso
    omega
   intro b3
   try simp only [nrmT] at b3
   refine ⟨?_, ?_⟩
   ·first | omega | rfl | (intro hg; simp only [nrmT] at hg; omega) | (intro g1 g2; simp [g1, g2]; done) | (intro g1; simp at g1 ⊢; simp [g1]; done) | (simp only [nrmT] at *; omega) | (simp at * <;> omega) | (simp_all <;> omega) | (simp_all; done)
   refine ⟨(k2 + ((xss.getD i.toNat []).length : Int)), (i + 1), ?_⟩
   refine ⟨?_, ?_, rfl, rfl, rfl⟩
   ·refine ⟨?_, ?_, ?_⟩
    ·first | omega | rfl | (intro hg; simp only [nrmT] at hg; omega) | (intro g1 g2; simp [g1, g2]; done) | (intro g1; simp at g1 ⊢; simp [g1]; done) | (simp only [nrmT] at *; omega) | (simp at * <;> omega) | (simp_all <;> omega) | (simp_all; done)
    ·first | omega | rfl | (intro hg; simp only [nrmT] at hg; omega) | (intro g1 g2; simp [g1, g2]; done) | (intro g1; simp at g1 ⊢; simp [g1]; done) | (simp only [nrmT] at *; omega) | (simp at * <;> omega) | (simp_all <;> omega) | (simp_all; done)
    ·have h9 := J2G xss (i.toNat + 1)
     have h8 := J1J xss i.toNat (by omega)
     rw [show (i + 1).toNat = i.toNat + 1 by omega]
     omega
   first | (show _ < _; omega) | (simp only [JZ]; omega) | (simp only [JZ] at *; simp at *; omega)
  intro b4
  try simp only [nrmT] at b4
  rw [h3, show i.toNat = xss.length by omega, List.take_length]
theorem J2E (xss : ZR) (k : Int) (hk : 0 ≤ k) (hx : xss = mkS k xss) (hn : k + (J8 xss : Int) ≤ 9223372036854775807) : PC Try.prog 50 [.sl (.rows xss), .int .i64 k] (.one (.d (.int .i64 (k + (J8 xss : Int))))) :=
  pc_wf @Try.call50 fun hw => pc_by (by kernel_rfl) Try.func50 @Try.call50 (by kernel_rfl) J5H (J5r xss k) (by kernel_rfl) (J4L xss k hk hx hn hw.1.1 hw.1.2) (by kernel_rfl)
def J4C : List D → Orc := orcN [some .rows, none] fun ds => match ds with
  | [.sl (.rows xss), .int .i64 k] => some (.one (.d (.int .i64 (k + (J8 xss : Int)))))
  | _ => none
theorem J4k {m : Nat} : ∀ {xss : ZR}, (∀ r ∈ xss, r.length ≤ m) → J8 xss ≤ xss.length * m
  | [], _ => Nat.zero_le _
  | x :: r, h => by
    have h1 := J4k (xss := r) fun y hy => h y (List.mem_cons_of_mem _ hy)
    have h2 := h x List.mem_cons_self
    have e : J8 (x :: r) = x.length + J8 r := by simp [J8]
    rw [e, List.length_cons, Nat.add_mul, Nat.one_mul]
    omega
theorem J50 (ss cs : ZI) (k : Int) : J8 (lgL ss cs k) ≤ 49 := by
  unfold lgL
  split
  · rename_i h
    obtain ⟨h1, _, _, _, h5⟩ := J06 h
    obtain ⟨g1, g2, g3, _⟩ := JA h1
    simp only [Bool.and_eq_true] at h5
    have hr := Jb h5.1.2 (by simp)
    simp only [List.length_replicate] at hr
    have hb := J4k (m := 7) (xss := clL (JG ss cs) (lmS ss cs k)) fun r hr => by
      obtain ⟨j, _, rfl⟩ := List.mem_map.1 hr
      have := members_len_le (fun i => decide (J5 ((JG ss cs).getD i []) (lmS ss cs k) (lmS ss cs k).length = (lmS ss cs k).getD j 0)) (JG ss cs).length
      rw [J5f] at this ⊢
      omega
    have e : (clL (JG ss cs) (lmS ss cs k)).length = (lmS ss cs k).length := tabTo_len _ _
    rw [e] at hb
    omega
  simp [J8]
def l_FnExactLineGroups_C (f : FuncId) (ds : List D) : Orc := bif Nat.beq f 44 then J6d ds else bif Nat.beq f 43 then J3Y ds else bif Nat.beq f 45 then J46 ds else bif Nat.beq f 46 then J5N ds else bif Nat.beq f 47 then J3a ds else bif Nat.beq f 50 then J4C ds else .no
def l_FnExactLineGroups_A (aSites : ZI) (aClients : ZI) (aK : Int) : Ann := .two (.none) (.two (.none) (.two (.none) (.two (.reg [(1, .g), (3, .g)]) (.two (.reg [(1, .g)]) (.two (.reg [(1, .g)]) (.two (.none) (.two (.none) (.two (.two (.reg [(2, .g)]) (.none)) (.two (.two (.reg [(2, .g)]) (.none)) (.two (.none) (.two (.mark [] [(2, .kill (1 + (aSites.length : Int)))]) (.two (.mark [] [(2, .kill ((1 + (aSites.length : Int)) + (aClients.length : Int)))]) (.two (.none) (.two (.none) (.two (.mark [] [(2, .wrm (mkS 1 (lgL aSites aClients aK)) (1 + (J8 (lgL aSites aClients aK) : Int)))]) (.two (.none) (.two (.none) (.two (.none) (.two (.none) (.two (.reg [(1, .g), (3, .g)]) (.none)))))))))))))))))))))
def l_FnExactLineGroups_e1 (aSites : ZI) (aClients : ZI) (aK : Int) : Bool := (cond (decide (((1 + (aSites.length : Int)) + (aClients.length : Int)) < 0)) true (!((lgL aSites aClients aK) == (lgL aSites aClients aK))))
def l_FnExactLineGroups_e2 (aSites : ZI) (aClients : ZI) (aK : Int) : Bool := (cond (!((lgL aSites aClients aK) == (lgL aSites aClients aK))) true ((lmB aSites aClients aK) != (lmB aSites aClients aK)))
def l_FnExactLineGroups_P (aSites : ZI) (aClients : ZI) (aK : Int) : Prop :=
  (((decide ((aSites.length : Int) > 1048576)) = true → ((true = true))) ∧ ((decide ((aSites.length : Int) > 1048576)) = false → (((decide ((aClients.length : Int) > 1048576)) = true → ((true = true))) ∧ ((decide ((aClients.length : Int) > 1048576)) = false → (PC Try.prog 44 [.sl (.ints aSites)] (.one (.d (.sl (.ints aSites))))) ∧ (PC Try.prog 44 [.sl (.ints aClients)] (.one (.d (.sl (.ints aClients))))) ∧ (PC Try.prog 43 [.sl (.ints aSites), .sl (.ints aClients), .int .i64 aK] (.tup [.d (.sl (.rows (lgL aSites aClients aK))), .d (.bool (lmB aSites aClients aK))])) ∧ (PC Try.prog 44 [.sl (.ints aSites)] (.one (.d (.sl (.ints aSites))))) ∧ (PC Try.prog 44 [.sl (.ints aClients)] (.one (.d (.sl (.ints aClients))))) ∧ (PC Try.prog 45 [.sl (.ints aSites), .sl (.ints aClients), .int .i64 aK] (.tup [.mat 3 26 (lgL aSites aClients aK), .d (.bool (lmB aSites aClients aK))])) ∧ ((lgL aSites aClients aK).length = (lgL aSites aClients aK).length) ∧ (PC Try.prog 46 [.sl (.rows (lgL aSites aClients aK)), .sl (.rows (lgL aSites aClients aK))] (.one (.d (.bool ((lgL aSites aClients aK) == (lgL aSites aClients aK)))))) ∧ ((!(!((lgL aSites aClients aK) == (lgL aSites aClients aK)))) = true → (!(!((lgL aSites aClients aK) == (lgL aSites aClients aK)))) = true) ∧ ((!(!((lgL aSites aClients aK) == (lgL aSites aClients aK)))) = true → (!(!((lgL aSites aClients aK) == (lgL aSites aClients aK)))) = true) ∧ (true = true) ∧ (((!((lgL aSites aClients aK) == (lgL aSites aClients aK))) = true → true = true)) ∧ (((!((lgL aSites aClients aK) == (lgL aSites aClients aK))) = false → (!(!((lgL aSites aClients aK) == (lgL aSites aClients aK)))) = true)) ∧ (((l_FnExactLineGroups_e2 aSites aClients aK) = true → ((false = true))) ∧ ((l_FnExactLineGroups_e2 aSites aClients aK) = false → (PC Try.prog 44 [.sl (.ints aSites)] (.one (.d (.sl (.ints aSites))))) ∧ (PC Try.prog 47 [.sl (.ints aSites), .sl (.ints aSites)] (.one (.d (.bool (aSites == aSites))))) ∧ (((!(aSites == aSites)) = true → ((false = true))) ∧ ((!(aSites == aSites)) = false → (PC Try.prog 44 [.sl (.ints aClients)] (.one (.d (.sl (.ints aClients))))) ∧ (PC Try.prog 47 [.sl (.ints aClients), .sl (.ints aClients)] (.one (.d (.bool (aClients == aClients))))) ∧ (((!(aClients == aClients)) = true → ((false = true))) ∧ ((!(aClients == aClients)) = false → (PG Try.prog 48 [.shp (.ints aSites.length), .int 1] (1 + (aSites.length : Int))) ∧ (PG Try.prog 48 [.shp (.ints aClients.length), .int (1 + (aSites.length : Int))] ((1 + (aSites.length : Int)) + (aClients.length : Int))) ∧ ((!(decide (((1 + (aSites.length : Int)) + (aClients.length : Int)) < 0))) = true → (!(decide (((1 + (aSites.length : Int)) + (aClients.length : Int)) < 0))) = true) ∧ ((!(decide (((1 + (aSites.length : Int)) + (aClients.length : Int)) < 0))) = true → (!(decide (((1 + (aSites.length : Int)) + (aClients.length : Int)) < 0))) = true) ∧ (((!(decide (((1 + (aSites.length : Int)) + (aClients.length : Int)) < 0))) = true → (lgL aSites aClients aK).length = (lgL aSites aClients aK).length)) ∧ ((!(decide (((1 + (aSites.length : Int)) + (aClients.length : Int)) < 0))) = true → PC Try.prog 46 [.sl (.rows (lgL aSites aClients aK)), .sl (.rows (lgL aSites aClients aK))] (.one (.d (.bool ((lgL aSites aClients aK) == (lgL aSites aClients aK)))))) ∧ ((!(decide (((1 + (aSites.length : Int)) + (aClients.length : Int)) < 0))) = true → (!(decide (((1 + (aSites.length : Int)) + (aClients.length : Int)) < 0))) = true) ∧ (true = true) ∧ (((decide (((1 + (aSites.length : Int)) + (aClients.length : Int)) < 0)) = true → true = true)) ∧ (((decide (((1 + (aSites.length : Int)) + (aClients.length : Int)) < 0)) = false → (!(decide (((1 + (aSites.length : Int)) + (aClients.length : Int)) < 0))) = true)) ∧ ((!(l_FnExactLineGroups_e1 aSites aClients aK)) = true → (!(l_FnExactLineGroups_e1 aSites aClients aK)) = true) ∧ ((!(l_FnExactLineGroups_e1 aSites aClients aK)) = true → (!(l_FnExactLineGroups_e1 aSites aClients aK)) = true) ∧ (true = true) ∧ (((l_FnExactLineGroups_e1 aSites aClients aK) = true → true = true)) ∧ (((l_FnExactLineGroups_e1 aSites aClients aK) = false → (!(l_FnExactLineGroups_e1 aSites aClients aK)) = true)) ∧ (((cond (l_FnExactLineGroups_e1 aSites aClients aK) true ((lmB aSites aClients aK) != (lmB aSites aClients aK))) = true → ((false = true))) ∧ ((cond (l_FnExactLineGroups_e1 aSites aClients aK) true ((lmB aSites aClients aK) != (lmB aSites aClients aK))) = false → ((lgL aSites aClients aK).length = (lgL aSites aClients aK).length) ∧ ((mkS 1 (lgL aSites aClients aK)).length = (lgL aSites aClients aK).length) ∧ (PWM Try.prog 49 3 26 (lgL aSites aClients aK) (mkS 1 (lgL aSites aClients aK)) 1 (1 + (J8 (lgL aSites aClients aK) : Int))) ∧ ((lgL aSites aClients aK).length = (mkS 1 (lgL aSites aClients aK)).length) ∧ (PC Try.prog 50 [.sl (.rows (mkS 1 (lgL aSites aClients aK))), .int .i64 1] (.one (.d (.int .i64 (1 + (J8 (mkS 1 (lgL aSites aClients aK)) : Int)))))) ∧ (((decide ((1 + (J8 (mkS 1 (lgL aSites aClients aK)) : Int)) < 0)) = true → ((false = true))) ∧ ((decide ((1 + (J8 (mkS 1 (lgL aSites aClients aK)) : Int)) < 0)) = false → ((((1 + (J8 (mkS 1 (lgL aSites aClients aK)) : Int)) != (1 + (J8 (lgL aSites aClients aK) : Int))) = true → ((false = true))) ∧ (((1 + (J8 (mkS 1 (lgL aSites aClients aK)) : Int)) != (1 + (J8 (lgL aSites aClients aK) : Int))) = false → (PC Try.prog 44 [.sl (.ints aSites)] (.one (.d (.sl (.ints aSites))))) ∧ (PC Try.prog 44 [.sl (.ints aClients)] (.one (.d (.sl (.ints aClients))))) ∧ (PC Try.prog 45 [.sl (.ints aSites), .sl (.ints aClients), .int .i64 aK] (.tup [.mat 3 26 (lgL aSites aClients aK), .d (.bool (lmB aSites aClients aK))])) ∧ ((lgL aSites aClients aK).length = (lgL aSites aClients aK).length) ∧ (PC Try.prog 46 [.sl (.rows (lgL aSites aClients aK)), .sl (.rows (lgL aSites aClients aK))] (.one (.d (.bool ((lgL aSites aClients aK) == (lgL aSites aClients aK)))))) ∧ ((!(!((lgL aSites aClients aK) == (lgL aSites aClients aK)))) = true → (!(!((lgL aSites aClients aK) == (lgL aSites aClients aK)))) = true) ∧ ((!(!((lgL aSites aClients aK) == (lgL aSites aClients aK)))) = true → (!(!((lgL aSites aClients aK) == (lgL aSites aClients aK)))) = true) ∧ (true = true) ∧ (((!((lgL aSites aClients aK) == (lgL aSites aClients aK))) = true → true = true)) ∧ (((!((lgL aSites aClients aK) == (lgL aSites aClients aK))) = false → (!(!((lgL aSites aClients aK) == (lgL aSites aClients aK)))) = true)) ∧ (((l_FnExactLineGroups_e2 aSites aClients aK) = true → ((false = true))) ∧ ((l_FnExactLineGroups_e2 aSites aClients aK) = false → ((lgL aSites aClients aK).length = (mkS 1 (lgL aSites aClients aK)).length) ∧ (PC Try.prog 50 [.sl (.rows (mkS 1 (lgL aSites aClients aK))), .int .i64 1] (.one (.d (.int .i64 (1 + (J8 (mkS 1 (lgL aSites aClients aK)) : Int)))))) ∧ (((decide ((1 + (J8 (mkS 1 (lgL aSites aClients aK)) : Int)) < 0)) = true → ((false = true))) ∧ ((decide ((1 + (J8 (mkS 1 (lgL aSites aClients aK)) : Int)) < 0)) = false → ((((1 + (J8 (mkS 1 (lgL aSites aClients aK)) : Int)) != (1 + (J8 (lgL aSites aClients aK) : Int))) = true → ((false = true))) ∧ (((1 + (J8 (mkS 1 (lgL aSites aClients aK)) : Int)) != (1 + (J8 (lgL aSites aClients aK) : Int))) = false → ((true = true))))))))))))))))))))))))
theorem l_FnExactLineGroups_vc (aSites : ZI) (aClients : ZI) (aK : Int)  (w_aSites : (aSites.length : Int) ≤ 9223372036854775807) (w_aClients : (aClients.length : Int) ≤ 9223372036854775807) : l_FnExactLineGroups_P aSites aClients aK := by
  unfold l_FnExactLineGroups_P l_FnExactLineGroups_e2 l_FnExactLineGroups_e1
  refine ⟨?_, ?_⟩
  ·intro b1
   try simp only [nrmT] at b1
   exact rfl
  intro b2
  try simp only [nrmT] at b2
  refine ⟨?_, ?_⟩
  ·intro b3
   try simp only [nrmT] at b3
   exact rfl
  intro b4
  try simp only [nrmT] at b4
  refine ⟨?_, ?_, J4y aSites aClients aK, ?_, ?_, J2q aSites aClients aK, rfl, J2h (lgL aSites aClients aK) (lgL aSites aClients aK), id, id, rfl, fun _ => rfl, ?_, ?_, ?_⟩
  ·refine JK aSites ?_
   ·first | omega | rfl | (intro hg; simp only [nrmT] at hg; omega) | (intro g1 g2; simp [g1, g2]; done) | (intro g1; simp at g1 ⊢; simp [g1]; done) | (simp only [nrmT] at *; omega) | (simp at * <;> omega) | (simp_all <;> omega) | (simp_all; done)
  ·refine JK aClients ?_
   ·first | omega | rfl | (intro hg; simp only [nrmT] at hg; omega) | (intro g1 g2; simp [g1, g2]; done) | (intro g1; simp at g1 ⊢; simp [g1]; done) | (simp only [nrmT] at *; omega) | (simp at * <;> omega) | (simp_all <;> omega) | (simp_all; done)
  ·refine JK aSites ?_
   ·first | omega | rfl | (intro hg; simp only [nrmT] at hg; omega) | (intro g1 g2; simp [g1, g2]; done) | (intro g1; simp at g1 ⊢; simp [g1]; done) | (simp only [nrmT] at *; omega) | (simp at * <;> omega) | (simp_all <;> omega) | (simp_all; done)
  ·refine JK aClients ?_
   ·first | omega | rfl | (intro hg; simp only [nrmT] at hg; omega) | (intro g1 g2; simp [g1, g2]; done) | (intro g1; simp at g1 ⊢; simp [g1]; done) | (simp only [nrmT] at *; omega) | (simp at * <;> omega) | (simp_all <;> omega) | (simp_all; done)
  ·intro h; rw [h]; rfl
  ·intro b5
   first | (exfalso; simp only [Jk] at b5; omega) | (exfalso; simp only [Jw] at b5; omega) | (exfalso; simp [Jk] at b5; done) | (simp at b5; done) | omega | rfl | (intro hg; simp only [nrmT] at hg; omega) | (intro g1 g2; simp [g1, g2]; done) | (intro g1; simp at g1 ⊢; simp [g1]; done) | (simp only [nrmT] at *; omega) | (simp at * <;> omega) | (simp_all <;> omega) | (simp_all; done)
  intro b6
  refine ⟨?_, J2u aSites aSites, ?_, ?_⟩
  ·refine JK aSites ?_
   ·first | omega | rfl | (intro hg; simp only [nrmT] at hg; omega) | (intro g1 g2; simp [g1, g2]; done) | (intro g1; simp at g1 ⊢; simp [g1]; done) | (simp only [nrmT] at *; omega) | (simp at * <;> omega) | (simp_all <;> omega) | (simp_all; done)
  ·intro b7
   try simp only [nrmT] at b7
   first | (exfalso; simp only [Jk] at b7; omega) | (exfalso; simp only [Jw] at b7; omega) | (exfalso; simp [Jk] at b7; done) | (simp at b7; done) | omega | rfl | (intro hg; simp only [nrmT] at hg; omega) | (intro g1 g2; simp [g1, g2]; done) | (intro g1; simp at g1 ⊢; simp [g1]; done) | (simp only [nrmT] at *; omega) | (simp at * <;> omega) | (simp_all <;> omega) | (simp_all; done)
  intro b8
  try simp only [nrmT] at b8
  refine ⟨?_, J2u aClients aClients, ?_, ?_⟩
  ·refine JK aClients ?_
   ·first | omega | rfl | (intro hg; simp only [nrmT] at hg; omega) | (intro g1 g2; simp [g1, g2]; done) | (intro g1; simp at g1 ⊢; simp [g1]; done) | (simp only [nrmT] at *; omega) | (simp at * <;> omega) | (simp_all <;> omega) | (simp_all; done)
  ·intro b9
   try simp only [nrmT] at b9
   first | (exfalso; simp only [Jk] at b9; omega) | (exfalso; simp only [Jw] at b9; omega) | (exfalso; simp [Jk] at b9; done) | (simp at b9; done) | omega | rfl | (intro hg; simp only [nrmT] at hg; omega) | (intro g1 g2; simp [g1, g2]; done) | (intro g1; simp at g1 ⊢; simp [g1]; done) | (simp only [nrmT] at *; omega) | (simp at * <;> omega) | (simp_all <;> omega) | (simp_all; done)
  intro b10
  try simp only [nrmT] at b10
  refine ⟨?_, ?_, id, id, fun _ => rfl, fun _ => J2h (lgL aSites aClients aK) (lgL aSites aClients aK), id, rfl, fun _ => rfl, ?_, id, id, rfl, fun _ => rfl, ?_, ?_, ?_⟩
  ·refine J1F aSites.length 1 ?_ ?_
   ·first | omega | rfl | (intro hg; simp only [nrmT] at hg; omega) | (intro g1 g2; simp [g1, g2]; done) | (intro g1; simp at g1 ⊢; simp [g1]; done) | (simp only [nrmT] at *; omega) | (simp at * <;> omega) | (simp_all <;> omega) | (simp_all; done)
   ·
    omega
  ·refine J1F aClients.length (1 + (aSites.length : Int)) ?_ ?_
   ·first | omega | rfl | (intro hg; simp only [nrmT] at hg; omega) | (intro g1 g2; simp [g1, g2]; done) | (intro g1; simp at g1 ⊢; simp [g1]; done) | (simp only [nrmT] at *; omega) | (simp at * <;> omega) | (simp_all <;> omega) | (simp_all; done)
   ·
    omega
  ·first | omega | rfl | (intro hg; simp only [nrmT] at hg; omega) | (intro g1 g2; simp [g1, g2]; done) | (intro g1; simp at g1 ⊢; simp [g1]; done) | (simp only [nrmT] at *; omega) | (simp at * <;> omega) | (simp_all <;> omega) | (simp_all; done)
  ·intro h; rw [h]; rfl
  ·intro b11
   first | (exfalso; simp only [Jk] at b11; omega) | (exfalso; simp only [Jw] at b11; omega) | (exfalso; simp [Jk] at b11; done) | (simp at b11; done) | omega | rfl | (intro hg; simp only [nrmT] at hg; omega) | (intro g1 g2; simp [g1, g2]; done) | (intro g1; simp at g1 ⊢; simp [g1]; done) | (simp only [nrmT] at *; omega) | (simp at * <;> omega) | (simp_all <;> omega) | (simp_all; done)
  intro b12
  refine ⟨rfl, J1x _ _, ?_, ?_, ?_, ?_, ?_⟩
  ·refine J2I (lgL aSites aClients aK) 1 ?_ ?_
   ·first | omega | rfl | (intro hg; simp only [nrmT] at hg; omega) | (intro g1 g2; simp [g1, g2]; done) | (intro g1; simp at g1 ⊢; simp [g1]; done) | (simp only [nrmT] at *; omega) | (simp at * <;> omega) | (simp_all <;> omega) | (simp_all; done)
   ·try simp only [Jk]
    have := J50 aSites aClients aK
    omega
  ·exact (J1x _ _).symm
  ·refine J2E (mkS 1 (lgL aSites aClients aK)) 1 ?_ ?_ ?_
   ·first | omega | rfl | (intro hg; simp only [nrmT] at hg; omega) | (intro g1 g2; simp [g1, g2]; done) | (intro g1; simp at g1 ⊢; simp [g1]; done) | (simp only [nrmT] at *; omega) | (simp at * <;> omega) | (simp_all <;> omega) | (simp_all; done)
   ·exact (J6k _ _).symm
   ·try simp only [Jk]
    have := J50 aSites aClients aK
    omega
  ·intro b13
   try simp only [nrmT] at b13
   first | (exfalso; simp only [Jk] at b13; omega) | (exfalso; simp only [Jw] at b13; omega) | (exfalso; simp [Jk] at b13; done) | (simp at b13; done) | omega | rfl | (intro hg; simp only [nrmT] at hg; omega) | (intro g1 g2; simp [g1, g2]; done) | (intro g1; simp at g1 ⊢; simp [g1]; done) | (simp only [nrmT] at *; omega) | (simp at * <;> omega) | (simp_all <;> omega) | (simp_all; done)
  intro b14
  try simp only [nrmT] at b14
  refine ⟨?_, ?_⟩
  ·intro b15
   try simp only [nrmT] at b15
   first | (exfalso; simp only [Jk] at b15; omega) | (exfalso; simp only [Jw] at b15; omega) | (exfalso; simp [Jk] at b15; done) | (simp at b15; done) | omega | rfl | (intro hg; simp only [nrmT] at hg; omega) | (intro g1 g2; simp [g1, g2]; done) | (intro g1; simp at g1 ⊢; simp [g1]; done) | (simp only [nrmT] at *; omega) | (simp at * <;> omega) | (simp_all <;> omega) | (simp_all; done)
  intro b16
  try simp only [nrmT] at b16
  refine ⟨?_, ?_, J2q aSites aClients aK, rfl, J2h (lgL aSites aClients aK) (lgL aSites aClients aK), id, id, rfl, fun _ => rfl, ?_, ?_, ?_⟩
  ·refine JK aSites ?_
   ·first | omega | rfl | (intro hg; simp only [nrmT] at hg; omega) | (intro g1 g2; simp [g1, g2]; done) | (intro g1; simp at g1 ⊢; simp [g1]; done) | (simp only [nrmT] at *; omega) | (simp at * <;> omega) | (simp_all <;> omega) | (simp_all; done)
  ·refine JK aClients ?_
   ·first | omega | rfl | (intro hg; simp only [nrmT] at hg; omega) | (intro g1 g2; simp [g1, g2]; done) | (intro g1; simp at g1 ⊢; simp [g1]; done) | (simp only [nrmT] at *; omega) | (simp at * <;> omega) | (simp_all <;> omega) | (simp_all; done)
  ·intro h; rw [h]; rfl
  ·intro b17
   first | (exfalso; simp only [Jk] at b17; omega) | (exfalso; simp only [Jw] at b17; omega) | (exfalso; simp [Jk] at b17; done) | (simp at b17; done) | omega | rfl | (intro hg; simp only [nrmT] at hg; omega) | (intro g1 g2; simp [g1, g2]; done) | (intro g1; simp at g1 ⊢; simp [g1]; done) | (simp only [nrmT] at *; omega) | (simp at * <;> omega) | (simp_all <;> omega) | (simp_all; done)
  intro b18
  refine ⟨?_, ?_, ?_, ?_⟩
  ·exact (J1x _ _).symm
  ·refine J2E (mkS 1 (lgL aSites aClients aK)) 1 ?_ ?_ ?_
   ·first | omega | rfl | (intro hg; simp only [nrmT] at hg; omega) | (intro g1 g2; simp [g1, g2]; done) | (intro g1; simp at g1 ⊢; simp [g1]; done) | (simp only [nrmT] at *; omega) | (simp at * <;> omega) | (simp_all <;> omega) | (simp_all; done)
   ·exact (J6k _ _).symm
   ·try simp only [Jk]
    have := J50 aSites aClients aK
    omega
  ·intro b19
   try simp only [nrmT] at b19
   first | (exfalso; simp only [Jk] at b19; omega) | (exfalso; simp only [Jw] at b19; omega) | (exfalso; simp [Jk] at b19; done) | (simp at b19; done) | omega | rfl | (intro hg; simp only [nrmT] at hg; omega) | (intro g1 g2; simp [g1, g2]; done) | (intro g1; simp at g1 ⊢; simp [g1]; done) | (simp only [nrmT] at *; omega) | (simp at * <;> omega) | (simp_all <;> omega) | (simp_all; done)
  intro b20
  try simp only [nrmT] at b20
  refine ⟨?_, ?_⟩
  ·intro b21
   try simp only [nrmT] at b21
   first | (exfalso; simp only [Jk] at b21; omega) | (exfalso; simp only [Jw] at b21; omega) | (exfalso; simp [Jk] at b21; done) | (simp at b21; done) | omega | rfl | (intro hg; simp only [nrmT] at hg; omega) | (intro g1 g2; simp [g1, g2]; done) | (intro g1; simp at g1 ⊢; simp [g1]; done) | (simp only [nrmT] at *; omega) | (simp at * <;> omega) | (simp_all <;> omega) | (simp_all; done)
  intro b22
  try simp only [nrmT] at b22
  exact rfl
theorem l_FnExactLineGroups_pc (aSites : ZI) (aClients : ZI) (aK : Int)  : PC Try.prog 7 [.sl (.ints aSites), .sl (.ints aClients), .int .i64 aK] (.one (.d (.bool true))) :=
  pc_wf @Try.call7 fun hw => pc_by (by kernel_rfl) Try.func7 @Try.call7 (by kernel_rfl) l_FnExactLineGroups_C (l_FnExactLineGroups_A aSites aClients aK) (by kernel_rfl) (l_FnExactLineGroups_vc aSites aClients aK hw.1 hw.2.1) (by kernel_rfl)
end Go.Proofs.Ytomnmacmlhkceaa
