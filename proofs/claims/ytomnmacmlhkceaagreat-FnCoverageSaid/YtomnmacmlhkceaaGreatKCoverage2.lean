/- Contracts of the functions that the law reaches. -/
import Derived.Test.YtomnmacmlhkceaaGreatKCoverage1
import Derived.KernelRfl
set_option linter.unusedVariables false
set_option linter.unusedSimpArgs false
namespace Go.Proofs.YtomnmacmlhkceaaGreat
open Go

theorem JdJ {Sets : ZR} {k : Int} (hk : 0 ≤ k) (n : Nat) : (chs n).foldl (mcB Sets k) [] = J1S (J0g Sets) ((chs n).filter (fun s9 => decide ((s9.length : Int) ≤ k))) := by
  rw [J9t (v := J0g Sets) (p := fun s9 => decide ((s9.length : Int) ≤ k)), Jd6 (decide_eq_true hk)]
  intro b x
  unfold mcB J0g
  rw [Jdo]
  by_cases e : (x.length : Int) ≤ k
  · rw [decide_eq_true e, Bool.true_and]
    by_cases e2 : ((Jl Sets x x.length).length : Int) > ((Jl Sets b b.length).length : Int)
    · rw [if_pos (decide_eq_true e2), if_pos ⟨rfl, by omega⟩]
    rw [if_neg (by rw [decide_eq_false e2]; decide), if_neg (fun h => by have := h.2; omega)]
  rw [decide_eq_false e, Bool.false_and, if_neg (by decide), if_neg (fun h => by cases h.1)]
def J6F (f : FuncId) (ds : List D) : Orc := .no
def J6U (choice : ZI) (k : Int) : Ann := .none
def J49 (choice : ZI) (k : Int) : Prop :=
  (((decide ((choice.length : Int) ≤ k)) = (decide ((choice.length : Int) ≤ k))))
theorem J6c (choice : ZI) (k : Int)  (w_choice : (choice.length : Int) ≤ 9223372036854775807) : J49 choice k := by
  unfold J49
  exact rfl
theorem J5Y (choice : ZI) (k : Int)  : PC Tryz.prog 174 [.sl (.ints choice), .bx [.int .i64 k] 0] (.one (.d (.bool (decide ((choice.length : Int) ≤ k))))) :=
  pc_wf @Tryz.call174 fun hw => pc_by (by kernel_rfl) Tryz.func174 @Tryz.call174 (by kernel_rfl) J6F (J6U choice k) (by kernel_rfl) (J6c choice k hw.1) (by kernel_rfl)
def J5A : List D → Orc := orcN [some .ints, none] fun ds => match ds with
  | [.sl (.ints choice), .bx [.int .i64 k] 0] => some (.one (.d (.bool (decide ((choice.length : Int) ≤ k)))))
  | _ => none
abbrev J0L (below : Int) (k : Int) (out : ZR) (i : Int) : Prop := (0 ≤ i) ∧ (i ≤ ((chs below.toNat).length : Int)) ∧ (out = ((chs below.toNat).take i.toNat).filter (fun s9 => decide ((s9.length : Int) ≤ k)))
abbrev JP (below : Int) (k : Int) (out : ZR) (i : Int) : Nat := ((chs below.toNat).length - i).toNat
def J9j (f : FuncId) (ds : List D) : Orc := bif Nat.beq f 115 then JcI ds else bif Nat.beq f 174 then J5A ds else .no
def J9c (below : Int) (k : Int) : Ann := .two (.none) (.two (.none) (.two (.two (.reg [(0, .frz)]) (.loop (cut2 (fun (out : ZR) (i : Int) => J0L below k out i) (fun (out : ZR) (i : Int) => [(1, .d false (.fn 174 0 [.bx [.int .i64 k] 0])), (5, .own 1000000 out.length), (13, .own 13 (1 + (Ja below.toNat).length)), (14, .d true (.int .i64 ((1 + (Ja below.toNat).length) : Int))), (15, .d true (.int .i64 i))]) (fun (out : ZR) (i : Int) => [(1000000, .arr true 24 (.rows out)), (13, .arr true 24 (.rows ([[]] ++ Ja below.toNat)))])) (fun g => JP below k g.1 g.2) (fun _ => .none))) (.none)))
def J4W (below : Int) (k : Int) : Prop :=
  (PC Tryz.prog 115 [.int .i64 below] (.one (.own 24 (.rows (Ja below.toNat))))) ∧ ((1 : Nat) = 1) ∧ ((Ja below.toNat).length = (Ja below.toNat).length) ∧ ((1 + (Ja below.toNat).length) * 24 ≤ 140737488355328) ∧ ((∃ out' : ZR, ∃ i' : Int, (J0L below k out' i') ∧ ((.fn 174 0 [.bx [.int .i64 k] 0] : D) = (.fn 174 0 [.bx [.int .i64 k] 0] : D)) ∧ ((0 : Nat) = out'.length) ∧ ((1 + (Ja below.toNat).length) = (1 + (Ja below.toNat).length)) ∧ (((1 + (Ja below.toNat).length) : Int) = ((1 + (Ja below.toNat).length) : Int)) ∧ ((0 : Int) = i') ∧ ([] = out') ∧ ((([[]] ++ Ja below.toNat) : ZR) = ([[]] ++ Ja below.toNat))) ∧ (∀ out : ZR, ∀ i : Int, (J0L below k out i) → (((decide (i < ((1 + (Ja below.toNat).length) : Int))) = true → ((0 : Int) ≤ i) ∧ ((i : Int) < ((1 + (Ja below.toNat).length) : Int)) ∧ (i.toNat < ([[]] ++ Ja below.toNat).length) ∧ (PC Tryz.prog 174 [.sl (.ints (([[]] ++ Ja below.toNat).getD i.toNat [])), .bx [.int .i64 k] 0] (.one (.d (.bool (decide (((([[]] ++ Ja below.toNat).getD i.toNat []).length : Int) ≤ k)))))) ∧ (((decide (((([[]] ++ Ja below.toNat).getD i.toNat []).length : Int) ≤ k)) = true → (out.length = out.length) ∧ ((1 : Nat) = 1) ∧ ((out.length + 1) * 24 ≤ 140737488355328) ∧ (I6 (i + 1)) ∧ (∃ out' : ZR, ∃ i' : Int, (J0L below k out' i') ∧ (JP below k out' i' < JP below k out i) ∧ ((.fn 174 0 [.bx [.int .i64 k] 0] : D) = (.fn 174 0 [.bx [.int .i64 k] 0] : D)) ∧ ((out.length + 1) = out'.length) ∧ ((1 + (Ja below.toNat).length) = (1 + (Ja below.toNat).length)) ∧ (((1 + (Ja below.toNat).length) : Int) = ((1 + (Ja below.toNat).length) : Int)) ∧ ((i + 1) = i') ∧ ((out ++ [(([[]] ++ Ja below.toNat).getD i.toNat [])]) = out') ∧ ((([[]] ++ Ja below.toNat) : ZR) = ([[]] ++ Ja below.toNat)))) ∧ ((decide (((([[]] ++ Ja below.toNat).getD i.toNat []).length : Int) ≤ k)) = false → (I6 (i + 1)) ∧ (∃ out' : ZR, ∃ i' : Int, (J0L below k out' i') ∧ (JP below k out' i' < JP below k out i) ∧ ((.fn 174 0 [.bx [.int .i64 k] 0] : D) = (.fn 174 0 [.bx [.int .i64 k] 0] : D)) ∧ (out.length = out'.length) ∧ ((1 + (Ja below.toNat).length) = (1 + (Ja below.toNat).length)) ∧ (((1 + (Ja below.toNat).length) : Int) = ((1 + (Ja below.toNat).length) : Int)) ∧ ((i + 1) = i') ∧ (out = out') ∧ ((([[]] ++ Ja below.toNat) : ZR) = ([[]] ++ Ja below.toNat)))))) ∧ ((decide (i < ((1 + (Ja below.toNat).length) : Int))) = false → ((out.length = out.length) ∧ ((out : ZR) = ((chs below.toNat).filter (fun s9 => decide ((s9.length : Int) ≤ k)))))))))
theorem J8N (below : Int) (k : Int) (hn : 0 ≤ below ∧ below ≤ 8) (hx : ∀ s ∈ chs below.toNat, True)  : J4W below k := by
  unfold J4W
  have cs := J4F (n := below.toNat) (by omega)
  have ce : (chs below.toNat).length = 1 + (Ja below.toNat).length := by unfold chs; rw [List.length_append]; rfl
  refine ⟨?_, rfl, rfl, ?_, ?_, ?_⟩
  ·refine Jdk below ?_
   ·omega
  ·omega
  ·refine ⟨([]), 0, ?_⟩
   refine ⟨?_, rfl, rfl, rfl, rfl, rfl, ?_, rfl⟩
   ·refine ⟨?_, ?_, ?_⟩
    ·omega
    ·omega
    ·rfl
   rfl
  intro out i hJ
  obtain ⟨h1, h2, h3⟩ := hJ
  refine ⟨?_, ?_⟩
  ·intro b1
   try simp only [nrmT] at b1
   refine ⟨?_, ?_, ?_, J5Y (([[]] ++ Ja below.toNat).getD i.toNat []) k, ?_, ?_⟩
   ·omega
   ·omega
   ·show i.toNat < (chs below.toNat).length
    omega
   ·intro b2
    try simp only [nrmT] at b2
    refine ⟨rfl, rfl, ?_, ?_, ?_⟩
    ·have := List.length_filter_le (fun s9 => decide ((s9.length : Int) ≤ k)) ((chs below.toNat).take i.toNat)
     rw [← h3, List.length_take] at this
     omega
    ·omega
    refine ⟨(out ++ [(([[]] ++ Ja below.toNat).getD i.toNat [])]), (i + 1), ?_⟩
    refine ⟨?_, ?_, rfl, ?_, rfl, rfl, rfl, rfl, rfl⟩
    ·refine ⟨?_, ?_, ?_⟩
     ·omega
     ·omega
     ·rw [J7h h1 (by omega), ← h3, if_pos (by first | exact b2 | exact decide_eq_true b2)]; rfl
    ·(simp only [JP]; omega)
    (simp_all; done)
   intro b3
   try simp only [nrmT] at b3
   refine ⟨?_, ?_⟩
   ·omega
   refine ⟨out, (i + 1), ?_⟩
   refine ⟨?_, ?_, rfl, rfl, rfl, rfl, rfl, rfl, rfl⟩
   ·refine ⟨?_, ?_, ?_⟩
    ·omega
    ·omega
    ·rw [J7h h1 (by omega), ← h3]
     exact (if_neg (by first | exact ne_true_of_eq_false b3 | exact fun h => absurd (of_decide_eq_true h) (Int.not_le.2 b3))).symm
   (simp only [JP]; omega)
  intro b4
  try simp only [nrmT] at b4
  refine ⟨rfl, ?_⟩
  ·rw [h3, take_all (by omega)]
theorem J7W (below : Int) (k : Int) (hn : 0 ≤ below ∧ below ≤ 8) (hx : ∀ s ∈ chs below.toNat, True) : PC Tryz.prog 173 [.int .i64 below, .fn 174 0 [.bx [.int .i64 k] 0]] (.one (.d (.sl (.rows ((chs below.toNat).filter (fun s9 => decide ((s9.length : Int) ≤ k))))))) :=
  pc_wf @Tryz.call173 fun _ => pc_by (by kernel_rfl) Tryz.func173 @Tryz.call173 (by kernel_rfl) J9j (J9c below k) (by kernel_rfl) (J8N below k hn hx) (by kernel_rfl)
def J7n : List D → Orc := orcN [none, none] fun ds => match ds with
  | [.int .i64 below, .fn f0 0 [.bx [.int .i64 k] 0]] => bif Nat.beq f0 174 then some (.one (.d (.sl (.rows ((chs below.toNat).filter (fun s9 => decide ((s9.length : Int) ≤ k))))))) else none
  | _ => none
def J6P (f : FuncId) (ds : List D) : Orc := bif Nat.beq f 176 then J1l ds else bif Nat.beq f 141 then J4R ds else .no
def J6O (choice : ZI) (Size : Int) (Sets : ZR) (Costs : ZI) : Ann := .none
def J4a (choice : ZI) (Size : Int) (Sets : ZR) (Costs : ZI) : Prop :=
  (PC Tryz.prog 176 [.agg [.int .i64 Size, .sl (.rows Sets), .sl (.ints Costs)], .sl (.ints choice)] (.one (.d (.int .u64 ((Je Sets choice choice.length : Nat) : Int))))) ∧ (PC Tryz.prog 141 [.int .u64 ((Je Sets choice choice.length : Nat) : Int)] (.one (.d (.int .i64 (JM ((Je Sets choice choice.length : Nat) : Int).toNat))))) ∧ (I6 (-(JM ((Je Sets choice choice.length : Nat) : Int).toNat))) ∧ (((-(JM ((Je Sets choice choice.length : Nat) : Int).toNat)) = (J0g Sets choice)))
theorem J6k (choice : ZI) (Size : Int) (Sets : ZR) (Costs : ZI) (hh : J1 Size Sets Costs = true ∧ J3 choice 0 ((Sets.length : Int) - 1) = true) (w_choice : (choice.length : Int) ≤ 9223372036854775807) (w_Sets : (Sets.length : Int) ≤ 9223372036854775807) (v_Sets : ∀ x9 ∈ Sets, (x9.length : Int) ≤ 9223372036854775807) (w_Costs : (Costs.length : Int) ≤ 9223372036854775807) : J4a choice Size Sets Costs := by
  unfold J4a
  refine ⟨?_, ?_, ?_, ?_⟩
  ·refine J1D Size Sets Costs choice ?_ ?_
   ·exact hh.1
   ·exact hh.2
  ·refine J5s ((Je Sets choice choice.length : Nat) : Int) ?_
   ·have := J2E hh.1 hh.2 choice.length (Nat.le_refl _)
    have p8 := J57 (n := Size.toNat) (by have := Jd hh.1; omega)
    omega
  ·have := Jcl (Je Sets choice choice.length)
   simp only [Int.toNat_natCast]
   omega
  simp only [Int.toNat_natCast]
  unfold J0g
  rw [Jdm hh.1 hh.2]
theorem J3W (choice : ZI) (Size : Int) (Sets : ZR) (Costs : ZI) (hh : J1 Size Sets Costs = true ∧ J3 choice 0 ((Sets.length : Int) - 1) = true) : PC Tryz.prog 175 [.sl (.ints choice), .bx [.int .i64 Size, .sl (.rows Sets), .sl (.ints Costs)] 0] (.one (.d (.int .i64 (J0g Sets choice)))) :=
  pc_wf @Tryz.call175 fun hw => pc_by (by kernel_rfl) Tryz.func175 @Tryz.call175 (by kernel_rfl) J6P (J6O choice Size Sets Costs) (by kernel_rfl) (J6k choice Size Sets Costs hh hw.1 hw.2.1.2.1.1 hw.2.1.2.1.2 hw.2.1.2.2.1) (by kernel_rfl)
def J5Q : List D → Orc := orcN [some .ints, none] fun ds => match ds with
  | [.sl (.ints choice), .bx [.int .i64 Size, .sl (.rows Sets), .sl (.ints Costs)] 0] => some (.one (.d (.int .i64 (J0g Sets choice))))
  | _ => none
abbrev J0J (xss : ZR) (Size : Int) (Sets : ZR) (Costs : ZI) (best : ZI) (i : Int) : Prop := (0 ≤ i) ∧ (i ≤ (xss.length : Int)) ∧ (best ∈ xss) ∧ (best = (xss.take i.toNat).foldl (lsB (J0g Sets)) (xss.getD 0 []))
abbrev JQ (xss : ZR) (Size : Int) (Sets : ZR) (Costs : ZI) (best : ZI) (i : Int) : Nat := (xss.length - i).toNat
def J93 (f : FuncId) (ds : List D) : Orc := bif Nat.beq f 175 then J5Q ds else .no
def J9k (xss : ZR) (Size : Int) (Sets : ZR) (Costs : ZI) : Ann := .two (.none) (.two (.none) (.two (.two (.none) (.loop (cut2 (fun (best : ZI) (i : Int) => J0J xss Size Sets Costs best i) (fun (best : ZI) (i : Int) => [(1, .d false (.fn 175 0 [.bx [.int .i64 Size, .sl (.rows Sets), .sl (.ints Costs)] 0])), (5, .d true (.sl (.ints best))), (11, .d true (.sl (.rows xss))), (12, .d true (.int .i64 (xss.length : Int))), (13, .d true (.int .i64 i))]) (fun (best : ZI) (i : Int) => [])) (fun g => JQ xss Size Sets Costs g.1 g.2) (fun _ => .none))) (.none)))
def J4T (xss : ZR) (Size : Int) (Sets : ZR) (Costs : ZI) : Prop :=
  ((0 : Int) ≤ 0) ∧ ((0 : Int) < xss.length) ∧ (0 < xss.length) ∧ ((∃ best' : ZI, ∃ i' : Int, (J0J xss Size Sets Costs best' i') ∧ ((.fn 175 0 [.bx [.int .i64 Size, .sl (.rows Sets), .sl (.ints Costs)] 0] : D) = (.fn 175 0 [.bx [.int .i64 Size, .sl (.rows Sets), .sl (.ints Costs)] 0] : D)) ∧ ((xss.getD 0 []) = best') ∧ (xss = xss) ∧ ((xss.length : Int) = (xss.length : Int)) ∧ ((0 : Int) = i')) ∧ (∀ best : ZI, ∀ i : Int, (J0J xss Size Sets Costs best i) → (((decide (i < (xss.length : Int))) = true → ((0 : Int) ≤ i) ∧ ((i : Int) < xss.length) ∧ (i.toNat < xss.length) ∧ (PC Tryz.prog 175 [.sl (.ints (xss.getD i.toNat [])), .bx [.int .i64 Size, .sl (.rows Sets), .sl (.ints Costs)] 0] (.one (.d (.int .i64 (J0g Sets (xss.getD i.toNat [])))))) ∧ (PC Tryz.prog 175 [.sl (.ints best), .bx [.int .i64 Size, .sl (.rows Sets), .sl (.ints Costs)] 0] (.one (.d (.int .i64 (J0g Sets best))))) ∧ (((decide ((J0g Sets (xss.getD i.toNat [])) < (J0g Sets best))) = true → (I6 (i + 1)) ∧ (∃ best' : ZI, ∃ i' : Int, (J0J xss Size Sets Costs best' i') ∧ (JQ xss Size Sets Costs best' i' < JQ xss Size Sets Costs best i) ∧ ((.fn 175 0 [.bx [.int .i64 Size, .sl (.rows Sets), .sl (.ints Costs)] 0] : D) = (.fn 175 0 [.bx [.int .i64 Size, .sl (.rows Sets), .sl (.ints Costs)] 0] : D)) ∧ ((xss.getD i.toNat []) = best') ∧ (xss = xss) ∧ ((xss.length : Int) = (xss.length : Int)) ∧ ((i + 1) = i'))) ∧ ((decide ((J0g Sets (xss.getD i.toNat [])) < (J0g Sets best))) = false → (I6 (i + 1)) ∧ (∃ best' : ZI, ∃ i' : Int, (J0J xss Size Sets Costs best' i') ∧ (JQ xss Size Sets Costs best' i' < JQ xss Size Sets Costs best i) ∧ ((.fn 175 0 [.bx [.int .i64 Size, .sl (.rows Sets), .sl (.ints Costs)] 0] : D) = (.fn 175 0 [.bx [.int .i64 Size, .sl (.rows Sets), .sl (.ints Costs)] 0] : D)) ∧ (best = best') ∧ (xss = xss) ∧ ((xss.length : Int) = (xss.length : Int)) ∧ ((i + 1) = i'))))) ∧ ((decide (i < (xss.length : Int))) = false → (((best : ZI) = (J1S (J0g Sets) xss)))))))
theorem J8g (xss : ZR) (Size : Int) (Sets : ZR) (Costs : ZI) (hp : 0 < xss.length) (hx : ∀ s ∈ xss, J1 Size Sets Costs = true ∧ J3 s 0 ((Sets.length : Int) - 1) = true) (w_xss : (xss.length : Int) ≤ 9223372036854775807) (v_xss : ∀ x9 ∈ xss, (x9.length : Int) ≤ 9223372036854775807) (w_Sets : (Sets.length : Int) ≤ 9223372036854775807) (v_Sets : ∀ x9 ∈ Sets, (x9.length : Int) ≤ 9223372036854775807) (w_Costs : (Costs.length : Int) ≤ 9223372036854775807) : J4T xss Size Sets Costs := by
  unfold J4T
  refine ⟨?_, ?_, ?_, ?_, ?_⟩
  ·omega
  ·omega
  ·omega
  ·refine ⟨(xss.getD 0 []), 0, ?_⟩
   refine ⟨?_, rfl, rfl, rfl, rfl, rfl⟩
   ·refine ⟨?_, ?_, ?_, ?_⟩
    ·omega
    ·omega
    ·exact getD_mem hp
    ·rfl
  intro best i hJ
  obtain ⟨h1, h2, h3, h4⟩ := hJ
  refine ⟨?_, ?_⟩
  ·intro b1
   try simp only [nrmT] at b1
   refine ⟨?_, ?_, ?_, ?_, ?_, ?_, ?_⟩
   ·omega
   ·omega
   ·omega
   ·refine J3W (xss.getD i.toNat []) Size Sets Costs ?_
    ·exact hx _ (getD_memI (d := []) h1 (by omega))
   ·refine J3W best Size Sets Costs ?_
    ·exact hx _ h3
   ·intro b2
    try simp only [nrmT] at b2
    refine ⟨?_, ?_⟩
    ·omega
    refine ⟨(xss.getD i.toNat []), (i + 1), ?_⟩
    refine ⟨?_, ?_, rfl, rfl, rfl, rfl, rfl⟩
    ·refine ⟨?_, ?_, ?_, ?_⟩
     ·omega
     ·omega
     ·exact getD_memI h1 (by omega)
     ·rw [J4D (d := []) h1 (by omega), ← h4]; unfold lsB; rw [if_pos b2]
    (simp only [JQ]; omega)
   intro b3
   try simp only [nrmT] at b3
   refine ⟨?_, ?_⟩
   ·omega
   refine ⟨best, (i + 1), ?_⟩
   refine ⟨?_, ?_, rfl, rfl, rfl, rfl, rfl⟩
   ·refine ⟨?_, ?_, ?_, ?_⟩
    ·omega
    ·omega
    ·exact h3
    ·rw [J4D (d := []) h1 (by omega), ← h4]; unfold lsB; (try dsimp only); rw [if_neg (by omega)]
   (simp only [JQ]; omega)
  intro b4
  try simp only [nrmT] at b4
  rw [h4, take_all (by omega)]; rfl
theorem J89 (xss : ZR) (Size : Int) (Sets : ZR) (Costs : ZI) (hp : 0 < xss.length) (hx : ∀ s ∈ xss, J1 Size Sets Costs = true ∧ J3 s 0 ((Sets.length : Int) - 1) = true) : PCs Tryz.prog 94 [.sl (.rows xss), .fn 175 0 [.bx [.int .i64 Size, .sl (.rows Sets), .sl (.ints Costs)] 0]] 0 (.sl (.ints (J1S (J0g Sets) xss))) :=
  pcs_wf @Tryz.call94 fun hw => pcs_by (by kernel_rfl) Tryz.func94 @Tryz.call94 (by kernel_rfl) J93 (J9k xss Size Sets Costs) (by kernel_rfl) (J8g xss Size Sets Costs hp hx hw.1.1 hw.1.2 hw.2.1.1.2.1.1 hw.2.1.1.2.1.2 hw.2.1.1.2.2.1) (by kernel_rfl)
def J7I : List D → Orc := orcS 0 fun ds => match ds with
  | [.sl (.rows xss), .fn f0 0 [.bx [.int .i64 Size, .sl (.rows Sets), .sl (.ints Costs)] 0]] => some (.sl (.ints (J1S (J0g Sets) xss)))
  | _ => none
abbrev J0d (Size : Int) (Sets : ZR) (Costs : ZI) (k : Int) (best : ZI) (i : Int) : Prop := (0 ≤ i) ∧ (i ≤ ((chs Sets.length).length : Int)) ∧ (J1 Size Sets Costs = true) ∧ (inB k 0 8 = true) ∧ (best ∈ chs Sets.length) ∧ (best = ((chs Sets.length).take i.toNat).foldl (mcB Sets k) [])
abbrev JH (Size : Int) (Sets : ZR) (Costs : ZI) (k : Int) (best : ZI) (i : Int) : Nat := ((chs Sets.length).length - i).toNat
def J8H (f : FuncId) (ds : List D) : Orc := bif Nat.beq f 177 then J5Z ds else bif Nat.beq f 129 then J1q ds else bif Nat.beq f 178 then J8A ds else bif Nat.beq f 179 then J8B ds else .no
def J81 (Size : Int) (Sets : ZR) (Costs : ZI) (k : Int) : Ann := .two (.none) (.two (.reg [(0, .frz)]) (.two (.none) (.two (.none) (.two (.two (.none) (.loop (cut2 (fun (best : ZI) (i : Int) => J0d Size Sets Costs k best i) (fun (best : ZI) (i : Int) => [(1, .d false (.int .i64 k)), (2, .ptr 2 0), (6, .d true (.sl (.ints best))), (7, .d true (.sl (.rows (chs (Sets.length : Int).toNat)))), (8, .d true (.int .i64 i))]) (fun (best : ZI) (i : Int) => [(2, .box 64 [.d false (.int .i64 Size), .d false (.sl (.rows Sets)), .d false (.sl (.ints Costs))])])) (fun g => JH Size Sets Costs k g.1 g.2) (fun _ => .none))) (.none)))))
def J2K (Sets : ZR) (k : Int) (best : ZI) (i : Int) : Bool := (cond (decide ((((chs (Sets.length : Int).toNat).getD i.toNat []).length : Int) ≤ k)) (decide ((((Jl Sets ((chs (Sets.length : Int).toNat).getD i.toNat []) ((chs (Sets.length : Int).toNat).getD i.toNat []).length).length) : Int) > (((Jl Sets best best.length).length) : Int))) false)
def J4H (Size : Int) (Sets : ZR) (Costs : ZI) (k : Int) : Prop :=
  (PC Tryz.prog 177 [.agg [.int .i64 Size, .sl (.rows Sets), .sl (.ints Costs)]] (.one (.d (.bool (J1 Size Sets Costs))))) ∧ ((!(!(J1 Size Sets Costs))) = true → (!(!(J1 Size Sets Costs))) = true) ∧ ((!(!(J1 Size Sets Costs))) = true → PC Tryz.prog 129 [.int .i64 k, .int .i64 0, .int .i64 8] (.one (.d (.bool (inB k 0 8))))) ∧ ((!(!(J1 Size Sets Costs))) = true → (!(!(J1 Size Sets Costs))) = true) ∧ (true = true) ∧ (((!(J1 Size Sets Costs)) = true → true = true)) ∧ (((!(J1 Size Sets Costs)) = false → (!(!(J1 Size Sets Costs))) = true)) ∧ (((cond (!(J1 Size Sets Costs)) true (!(inB k 0 8))) = true → ((([] : ZI) = (mcL Size Sets Costs k)) ∧ (false = (J1 Size Sets Costs && inB k 0 8)))) ∧ ((cond (!(J1 Size Sets Costs)) true (!(inB k 0 8))) = false → (PC Tryz.prog 178 [.int .i64 (Sets.length : Int)] (.one (.d (.sl (.rows (chs (Sets.length : Int).toNat)))))) ∧ ((∃ best' : ZI, ∃ i' : Int, (J0d Size Sets Costs k best' i') ∧ (k = k) ∧ ([] = best') ∧ ((chs (Sets.length : Int).toNat) = (chs (Sets.length : Int).toNat)) ∧ ((0 : Int) = i') ∧ (Size = Size) ∧ (Sets = Sets) ∧ (Costs = Costs)) ∧ (∀ best : ZI, ∀ i : Int, (J0d Size Sets Costs k best i) → (((decide (i < (((chs (Sets.length : Int).toNat).length) : Int))) = true → (true = true) ∧ ((0 : Int) ≤ i) ∧ ((i : Int) < (chs (Sets.length : Int).toNat).length) ∧ (i.toNat < (chs (Sets.length : Int).toNat).length) ∧ ((decide ((((chs (Sets.length : Int).toNat).getD i.toNat []).length : Int) ≤ k)) = true → (decide ((((chs (Sets.length : Int).toNat).getD i.toNat []).length : Int) ≤ k)) = true) ∧ ((decide ((((chs (Sets.length : Int).toNat).getD i.toNat []).length : Int) ≤ k)) = true → (decide ((((chs (Sets.length : Int).toNat).getD i.toNat []).length : Int) ≤ k)) = true) ∧ (((decide ((((chs (Sets.length : Int).toNat).getD i.toNat []).length : Int) ≤ k)) = true → (0 : Int) ≤ i)) ∧ (((decide ((((chs (Sets.length : Int).toNat).getD i.toNat []).length : Int) ≤ k)) = true → (i : Int) < (chs (Sets.length : Int).toNat).length)) ∧ ((decide ((((chs (Sets.length : Int).toNat).getD i.toNat []).length : Int) ≤ k)) = true → (decide ((((chs (Sets.length : Int).toNat).getD i.toNat []).length : Int) ≤ k)) = true) ∧ (((decide ((((chs (Sets.length : Int).toNat).getD i.toNat []).length : Int) ≤ k)) = true → i.toNat < (chs (Sets.length : Int).toNat).length)) ∧ ((decide ((((chs (Sets.length : Int).toNat).getD i.toNat []).length : Int) ≤ k)) = true → (decide ((((chs (Sets.length : Int).toNat).getD i.toNat []).length : Int) ≤ k)) = true) ∧ ((decide ((((chs (Sets.length : Int).toNat).getD i.toNat []).length : Int) ≤ k)) = true → (decide ((((chs (Sets.length : Int).toNat).getD i.toNat []).length : Int) ≤ k)) = true) ∧ ((decide ((((chs (Sets.length : Int).toNat).getD i.toNat []).length : Int) ≤ k)) = true → PC Tryz.prog 179 [.agg [.int .i64 Size, .sl (.rows Sets), .sl (.ints Costs)], .sl (.ints ((chs (Sets.length : Int).toNat).getD i.toNat []))] (.one (.d (.sl (.ints (Jl Sets ((chs (Sets.length : Int).toNat).getD i.toNat []) ((chs (Sets.length : Int).toNat).getD i.toNat []).length)))))) ∧ ((decide ((((chs (Sets.length : Int).toNat).getD i.toNat []).length : Int) ≤ k)) = true → (decide ((((chs (Sets.length : Int).toNat).getD i.toNat []).length : Int) ≤ k)) = true) ∧ ((decide ((((chs (Sets.length : Int).toNat).getD i.toNat []).length : Int) ≤ k)) = true → (decide ((((chs (Sets.length : Int).toNat).getD i.toNat []).length : Int) ≤ k)) = true) ∧ ((decide ((((chs (Sets.length : Int).toNat).getD i.toNat []).length : Int) ≤ k)) = true → (decide ((((chs (Sets.length : Int).toNat).getD i.toNat []).length : Int) ≤ k)) = true) ∧ ((decide ((((chs (Sets.length : Int).toNat).getD i.toNat []).length : Int) ≤ k)) = true → PC Tryz.prog 179 [.agg [.int .i64 Size, .sl (.rows Sets), .sl (.ints Costs)], .sl (.ints best)] (.one (.d (.sl (.ints (Jl Sets best best.length)))))) ∧ ((decide ((((chs (Sets.length : Int).toNat).getD i.toNat []).length : Int) ≤ k)) = true → (decide ((((chs (Sets.length : Int).toNat).getD i.toNat []).length : Int) ≤ k)) = true) ∧ ((decide ((((chs (Sets.length : Int).toNat).getD i.toNat []).length : Int) ≤ k)) = true → (decide ((((chs (Sets.length : Int).toNat).getD i.toNat []).length : Int) ≤ k)) = true) ∧ ((decide ((((chs (Sets.length : Int).toNat).getD i.toNat []).length : Int) ≤ k)) = true → (decide ((((chs (Sets.length : Int).toNat).getD i.toNat []).length : Int) ≤ k)) = true) ∧ (true = true) ∧ (((decide ((((chs (Sets.length : Int).toNat).getD i.toNat []).length : Int) ≤ k)) = true → (decide ((((chs (Sets.length : Int).toNat).getD i.toNat []).length : Int) ≤ k)) = true)) ∧ (((decide ((((chs (Sets.length : Int).toNat).getD i.toNat []).length : Int) ≤ k)) = false → true = true)) ∧ (((J2K Sets k best i) = true → ((0 : Int) ≤ i) ∧ ((i : Int) < (chs (Sets.length : Int).toNat).length) ∧ (i.toNat < (chs (Sets.length : Int).toNat).length) ∧ (I6 (i + 1)) ∧ (∃ best' : ZI, ∃ i' : Int, (J0d Size Sets Costs k best' i') ∧ (JH Size Sets Costs k best' i' < JH Size Sets Costs k best i) ∧ (k = k) ∧ (((chs (Sets.length : Int).toNat).getD i.toNat []) = best') ∧ ((chs (Sets.length : Int).toNat) = (chs (Sets.length : Int).toNat)) ∧ ((i + 1) = i') ∧ (Size = Size) ∧ (Sets = Sets) ∧ (Costs = Costs))) ∧ ((J2K Sets k best i) = false → (I6 (i + 1)) ∧ (∃ best' : ZI, ∃ i' : Int, (J0d Size Sets Costs k best' i') ∧ (JH Size Sets Costs k best' i' < JH Size Sets Costs k best i) ∧ (k = k) ∧ (best = best') ∧ ((chs (Sets.length : Int).toNat) = (chs (Sets.length : Int).toNat)) ∧ ((i + 1) = i') ∧ (Size = Size) ∧ (Sets = Sets) ∧ (Costs = Costs))))) ∧ ((decide (i < (((chs (Sets.length : Int).toNat).length) : Int))) = false → (((best : ZI) = (mcL Size Sets Costs k)) ∧ (true = (J1 Size Sets Costs && inB k 0 8)))))))))
theorem J7J (Size : Int) (Sets : ZR) (Costs : ZI) (k : Int)  (w_Sets : (Sets.length : Int) ≤ 9223372036854775807) (v_Sets : ∀ x9 ∈ Sets, (x9.length : Int) ≤ 9223372036854775807) (w_Costs : (Costs.length : Int) ≤ 9223372036854775807) : J4H Size Sets Costs k := by
  unfold J4H J2K
  have cs : J1 Size Sets Costs = true → (chs Sets.length).length ≤ 256 := fun hg => J4F (by have := Jd hg; omega)
  have ct : (chs (Sets.length : Int).toNat).length = (chs Sets.length).length := rfl
  refine ⟨J78 Size Sets Costs, id, fun _ => J1f k 0 8, id, rfl, fun _ => rfl, ?_, ?_, ?_⟩
  ·intro h; rw [h]; rfl
  ·intro b1
   refine ⟨?_, ?_⟩
   ·have hq : (J1 Size Sets Costs && inB k 0 8) = false := by
      revert b1; cases J1 Size Sets Costs <;> cases inB k 0 8 <;> simp
    unfold mcL; rw [hq]; rfl
   have hq : (J1 Size Sets Costs && inB k 0 8) = false := by
     revert b1; cases J1 Size Sets Costs <;> cases inB k 0 8 <;> simp
   exact hq.symm
  intro b2
  refine ⟨?_, ?_, ?_⟩
  ·refine J9a (Sets.length : Int) ?_
   ·have hq : J1 Size Sets Costs = true ∧ inB k 0 8 = true := by
      revert b2; cases J1 Size Sets Costs <;> cases inB k 0 8 <;> simp
    have := Jd hq.1
    omega
  ·refine ⟨([]), 0, ?_⟩
   refine ⟨?_, rfl, ?_, rfl, rfl, rfl, rfl, rfl⟩
   ·refine ⟨?_, ?_, ?_, ?_, ?_, ?_⟩
    ·omega
    ·omega
    ·first | exact hf | exact (show J1 Size Sets Costs = true by
       have hq : J1 Size Sets Costs = true ∧ inB k 0 8 = true := by
         revert b2; cases J1 Size Sets Costs <;> cases inB k 0 8 <;> simp
       exact hq.1)
    ·have hq : J1 Size Sets Costs = true ∧ inB k 0 8 = true := by
       revert b2; cases J1 Size Sets Costs <;> cases inB k 0 8 <;> simp
     exact hq.2
    ·exact JdN _
    ·rfl
   rfl
  intro best i hJ
  obtain ⟨h1, h2, hf, hk, h3, h4⟩ := hJ
  refine ⟨?_, ?_⟩
  ·intro b3
   try simp only [nrmT] at b3
   refine ⟨rfl, ?_, ?_, ?_, id, id, ?_, ?_, id, ?_, id, id, ?_, id, id, id, ?_, id, id, id, rfl, id, fun _ => rfl, ?_, ?_⟩
   ·omega
   ·omega
   ·omega
   ·omega
   ·omega
   ·omega
   ·intro hg
    refine J4O Size Sets Costs ((chs (Sets.length : Int).toNat).getD i.toNat []) ?_ ?_
    ·first | exact hf | exact (show J1 Size Sets Costs = true by
       have hq : J1 Size Sets Costs = true ∧ inB k 0 8 = true := by
         revert b3; cases J1 Size Sets Costs <;> cases inB k 0 8 <;> simp
       exact hq.1)
    exact J4m (getD_memI (by omega) (by omega))
   ·intro hg
    refine J4O Size Sets Costs best ?_ ?_
    ·first | exact hf | exact (show J1 Size Sets Costs = true by
       have hq : J1 Size Sets Costs = true ∧ inB k 0 8 = true := by
         revert b3; cases J1 Size Sets Costs <;> cases inB k 0 8 <;> simp
       exact hq.1)
    exact J4m h3
   ·intro b4
    refine ⟨?_, ?_, ?_, ?_, ?_⟩
    ·omega
    ·omega
    ·omega
    ·have := cs hf
     omega
    refine ⟨((chs (Sets.length : Int).toNat).getD i.toNat []), (i + 1), ?_⟩
    refine ⟨?_, ?_, rfl, rfl, rfl, rfl, rfl, rfl, rfl⟩
    ·refine ⟨?_, ?_, ?_, ?_, ?_, ?_⟩
     ·omega
     ·omega
     ·first | exact hf | exact (show J1 Size Sets Costs = true by
        have hq : J1 Size Sets Costs = true ∧ inB k 0 8 = true := by
          revert b4; cases J1 Size Sets Costs <;> cases inB k 0 8 <;> simp
        exact hq.1)
     ·exact hk
     ·exact getD_memI (by omega) (by omega)
     ·rw [Int.toNat_natCast] at b4 ⊢
      rw [J4D (d := []) (by omega) (by omega), ← h4]; unfold mcB; rw [if_pos b4]
    (simp only [JH]; omega)
   intro b5
   refine ⟨?_, ?_⟩
   ·have := cs hf
    omega
   refine ⟨best, (i + 1), ?_⟩
   refine ⟨?_, ?_, rfl, rfl, rfl, rfl, rfl, rfl, rfl⟩
   ·refine ⟨?_, ?_, ?_, ?_, ?_, ?_⟩
    ·omega
    ·omega
    ·first | exact hf | exact (show J1 Size Sets Costs = true by
       have hq : J1 Size Sets Costs = true ∧ inB k 0 8 = true := by
         revert b5; cases J1 Size Sets Costs <;> cases inB k 0 8 <;> simp
       exact hq.1)
    ·exact hk
    ·exact h3
    ·rw [Int.toNat_natCast] at b5
     rw [J4D (d := []) (by omega) (by omega), ← h4]; unfold mcB; rw [if_neg (ne_true_of_eq_false b5)]
   (simp only [JH]; omega)
  intro b6
  try simp only [nrmT] at b6
  refine ⟨?_, ?_⟩
  ·rw [h4, take_all (by omega)]; unfold mcL mcS; rw [if_pos (by rw [hf, hk]; rfl)]; exact JdJ (J0T hk).1 _
  rw [hf, hk]; rfl
theorem J7r (Size : Int) (Sets : ZR) (Costs : ZI) (k : Int)  : PC Tryz.prog 82 [.agg [.int .i64 Size, .sl (.rows Sets), .sl (.ints Costs)], .int .i64 k] (.tup [.d (.sl (.ints (mcL Size Sets Costs k))), .d (.bool (J1 Size Sets Costs && inB k 0 8))]) :=
  pc_wf @Tryz.call82 fun hw => pc_by (by kernel_rfl) Tryz.func82 @Tryz.call82 (by kernel_rfl) J8H (J81 Size Sets Costs k) (by kernel_rfl) (J7J Size Sets Costs k hw.1.2.1.1 hw.1.2.1.2 hw.1.2.2.1) (by kernel_rfl)
def J6W : List D → Orc := orcN [none, none] fun ds => match ds with
  | [.agg [.int .i64 Size, .sl (.rows Sets), .sl (.ints Costs)], .int .i64 k] => some (.tup [.d (.sl (.ints (mcL Size Sets Costs k))), .d (.bool (J1 Size Sets Costs && inB k 0 8))])
  | _ => none
def J86 (f : FuncId) (ds : List D) : Orc := bif Nat.beq f 172 then J3z ds else bif Nat.beq f 132 then J0a ds else bif Nat.beq f 173 then J7n ds else bif Nat.beq f 94 then J7I ds else .no
def J8m (Size : Int) (Sets : ZR) (Costs : ZI) (k : Int) : Ann := .none
def J4y (Size : Int) (Sets : ZR) (Costs : ZI) (k : Int) : Prop :=
  (PC Tryz.prog 172 [.agg [.int .i64 Size, .sl (.rows Sets), .sl (.ints Costs)]] (.one (.d (.bool (J1 Size Sets Costs))))) ∧ ((!(!(J1 Size Sets Costs))) = true → (!(!(J1 Size Sets Costs))) = true) ∧ ((!(!(J1 Size Sets Costs))) = true → PC Tryz.prog 132 [.int .i64 k, .int .i64 0, .int .i64 8] (.one (.d (.bool (inB k 0 8))))) ∧ ((!(!(J1 Size Sets Costs))) = true → (!(!(J1 Size Sets Costs))) = true) ∧ (true = true) ∧ (((!(J1 Size Sets Costs)) = true → true = true)) ∧ (((!(J1 Size Sets Costs)) = false → (!(!(J1 Size Sets Costs))) = true)) ∧ (((cond (!(J1 Size Sets Costs)) true (!(inB k 0 8))) = true → (((mcL Size Sets Costs k).length = 0) ∧ (false = (J1 Size Sets Costs && inB k 0 8)))) ∧ ((cond (!(J1 Size Sets Costs)) true (!(inB k 0 8))) = false → (PC Tryz.prog 173 [.int .i64 (Sets.length : Int), .fn 174 0 [.bx [.int .i64 k] 0]] (.one (.d (.sl (.rows ((chs (Sets.length : Int).toNat).filter (fun s9 => decide ((s9.length : Int) ≤ k)))))))) ∧ (PCs Tryz.prog 94 [.sl (.rows ((chs (Sets.length : Int).toNat).filter (fun s9 => decide ((s9.length : Int) ≤ k)))), .fn 175 0 [.bx [.int .i64 Size, .sl (.rows Sets), .sl (.ints Costs)] 0]] 0 (.sl (.ints (J1S (J0g Sets) ((chs (Sets.length : Int).toNat).filter (fun s9 => decide ((s9.length : Int) ≤ k))))))) ∧ ((((J1S (J0g Sets) ((chs (Sets.length : Int).toNat).filter (fun s9 => decide ((s9.length : Int) ≤ k)))) : ZI) = (mcL Size Sets Costs k)) ∧ (true = (J1 Size Sets Costs && inB k 0 8)))))
theorem J7l (Size : Int) (Sets : ZR) (Costs : ZI) (k : Int)  (w_Sets : (Sets.length : Int) ≤ 9223372036854775807) (v_Sets : ∀ x9 ∈ Sets, (x9.length : Int) ≤ 9223372036854775807) (w_Costs : (Costs.length : Int) ≤ 9223372036854775807) : J4y Size Sets Costs k := by
  unfold J4y
  have cs : J1 Size Sets Costs = true → (chs Sets.length).length ≤ 256 := fun hg => J4F (by have := Jd hg; omega)
  have ct : (chs (Sets.length : Int).toNat).length = (chs Sets.length).length := rfl
  refine ⟨J42 Size Sets Costs, id, fun _ => J0M k 0 8, id, rfl, fun _ => rfl, ?_, ?_, ?_⟩
  ·intro h; rw [h]; rfl
  ·intro b1
   refine ⟨?_, ?_⟩
   ·have hq : (J1 Size Sets Costs && inB k 0 8) = false := by
      revert b1; cases J1 Size Sets Costs <;> cases inB k 0 8 <;> simp
    unfold mcL; rw [hq]; rfl
   have hq : (J1 Size Sets Costs && inB k 0 8) = false := by
     revert b1; cases J1 Size Sets Costs <;> cases inB k 0 8 <;> simp
   exact hq.symm
  intro b2
  refine ⟨?_, ?_, ?_, ?_⟩
  ·refine J7W (Sets.length : Int) k ?_ ?_
   ·have hq : J1 Size Sets Costs = true ∧ inB k 0 8 = true := by
      revert b2; cases J1 Size Sets Costs <;> cases inB k 0 8 <;> simp
    have := Jd hq.1
    omega
   ·have hq : J1 Size Sets Costs = true ∧ inB k 0 8 = true := by
      revert b2; cases J1 Size Sets Costs <;> cases inB k 0 8 <;> simp
    intro s hs; trivial
  ·refine J89 ((chs (Sets.length : Int).toNat).filter (fun s9 => decide ((s9.length : Int) ≤ k))) Size Sets Costs ?_ ?_
   ·have hq : J1 Size Sets Costs = true ∧ inB k 0 8 = true := by
      revert b2; cases J1 Size Sets Costs <;> cases inB k 0 8 <;> simp
    exact JbT (p := fun s9 => decide ((s9.length : Int) ≤ k)) (decide_eq_true (J0T hq.2).1)
   ·have hq : J1 Size Sets Costs = true ∧ inB k 0 8 = true := by
      revert b2; cases J1 Size Sets Costs <;> cases inB k 0 8 <;> simp
    intro s hs
    rw [Int.toNat_natCast] at hs
    exact ⟨hq.1, J4m (List.mem_filter.1 hs).1⟩
  ·have hq : J1 Size Sets Costs = true ∧ inB k 0 8 = true := by
     revert b2; cases J1 Size Sets Costs <;> cases inB k 0 8 <;> simp
   unfold mcL; rw [if_pos (by rw [hq.1, hq.2]; rfl)]; rfl
  have hq : J1 Size Sets Costs = true ∧ inB k 0 8 = true := by
    revert b2; cases J1 Size Sets Costs <;> cases inB k 0 8 <;> simp
  rw [hq.1, hq.2]; rfl
theorem J7L (Size : Int) (Sets : ZR) (Costs : ZI) (k : Int)  : PC Tryz.prog 81 [.agg [.int .i64 Size, .sl (.rows Sets), .sl (.ints Costs)], .int .i64 k] (.tup [.d (.sl (.ints (mcL Size Sets Costs k))), .d (.bool (J1 Size Sets Costs && inB k 0 8))]) :=
  pc_wf @Tryz.call81 fun hw => pc_by (by kernel_rfl) Tryz.func81 @Tryz.call81 (by kernel_rfl) J86 (J8m Size Sets Costs k) (by kernel_rfl) (J7l Size Sets Costs k hw.1.2.1.1 hw.1.2.1.2 hw.1.2.2.1) (by kernel_rfl)
def J72 : List D → Orc := orcN [none, none] fun ds => match ds with
  | [.agg [.int .i64 Size, .sl (.rows Sets), .sl (.ints Costs)], .int .i64 k] => some (.tup [.d (.sl (.ints (mcL Size Sets Costs k))), .d (.bool (J1 Size Sets Costs && inB k 0 8))])
  | _ => none
/-- How far a cursor has read, and its seed. -/
structure Cur where
  pos : Int
  seed : Int
abbrev J5a : Cur := ⟨0, 0⟩
def okC (c : Cur) (b : Int) : Prop := 0 ≤ c.pos ∧ c.pos ≤ b ∧ 0 ≤ c.seed ∧ c.seed ≤ 18446744073709551615
def nxB (code : List Nat) (c : Cur) : Int := if c.pos < (code.length : Int) then ((code.getD c.pos.toNat 0 : Nat) : Int) else 0
def Jc (code : List Nat) (c : Cur) : Cur := ⟨c.pos + 1, IntKind.u64.wrap (IntKind.u64.wrap (IntKind.u64.wrap (c.seed * 6364136223846793005) + nxB code c) + 462197)⟩
def JE (code : List Nat) (c : Cur) : Int := if c.pos + 1 ≤ (code.length : Int) then nxB code c else ((((Jc code c).seed / 2 ^ 40).toNat &&& 255 : Nat) : Int)
theorem J7B (n : Int) : 0 ≤ IntKind.u64.wrap n ∧ IntKind.u64.wrap n ≤ 18446744073709551615 := by
  have h : IntKind.u64.wrap n = n % 18446744073709551616 := rfl
  omega
theorem Jd9 {code : List Nat} (hb : ∀ x9 ∈ code, x9 < 256) (c : Cur) (h0 : 0 ≤ c.pos) : 0 ≤ nxB code c ∧ nxB code c ≤ 255 := by
  unfold nxB
  split
  · have := hb _ (getD_mem (d := 0) (show c.pos.toNat < code.length by omega))
    omega
  omega
theorem JcX (n : Nat) : n &&& 255 ≤ 255 := Nat.and_le_right
theorem J1Q {code : List Nat} (hb : ∀ x9 ∈ code, x9 < 256) {c : Cur} (h0 : 0 ≤ c.pos) : 0 ≤ JE code c ∧ JE code c ≤ 255 := by
  unfold JE
  split
  · exact Jd9 hb c h0
  have := JcX ((Jc code c).seed / 2 ^ 40).toNat
  omega
theorem JR {code : List Nat} {c : Cur} {b : Int} (h : okC c b) : okC (Jc code c) (b + 1) := by
  obtain ⟨h1, h2, _, _⟩ := h
  exact ⟨by show 0 ≤ c.pos + 1; omega, by show c.pos + 1 ≤ b + 1; omega, (J7B _).1, (J7B _).2⟩
theorem J5 {c : Cur} {b b' : Int} (h : okC c b) (hb : b ≤ b') : okC c b' := ⟨h.1, Int.le_trans h.2.1 hb, h.2.2⟩
def J9i (f : FuncId) (ds : List D) : Orc := .no
def J98 (u : Value) (code : List Nat) (c : Cur) : Ann := .two (.none) (.two (.none) (.two (.none) (.two (.none) (.two (.reg [(5, .wrap), (8, .wrap), (9, .wrap)]) (.none)))))
def J3y (u : Value) (code : List Nat) (c : Cur) : Prop :=
  (true = true) ∧ (((decide (c.pos < (code.length : Int))) = true → (true = true) ∧ ((0 : Int) ≤ c.pos) ∧ ((c.pos : Int) < code.length) ∧ (c.pos.toNat < code.length) ∧ (I6 ((code.getD c.pos.toNat 0 : Nat) : Int)) ∧ (I6 (c.pos + 1)) ∧ (0 ≤ ((code.getD c.pos.toNat 0 : Nat) : Int) ∧ ((code.getD c.pos.toNat 0 : Nat) : Int) ≤ 18446744073709551615) ∧ (true = true) ∧ (((decide ((c.pos + 1) ≤ (code.length : Int))) = true → (((.lit u (.sl (.bytes code)) : D) = .lit u (.sl (.bytes code))) ∧ ((c.pos + 1) = (Jc code c).pos) ∧ ((IntKind.u64.wrap ((IntKind.u64.wrap ((IntKind.u64.wrap (c.seed * 6364136223846793005)) + ((code.getD c.pos.toNat 0 : Nat) : Int))) + 462197)) = (Jc code c).seed) ∧ (((code.getD c.pos.toNat 0 : Nat) : Int) = (JE code c)))) ∧ ((decide ((c.pos + 1) ≤ (code.length : Int))) = false → ((0 : Int) ≤ (IntKind.u64.wrap ((IntKind.u64.wrap ((IntKind.u64.wrap (c.seed * 6364136223846793005)) + ((code.getD c.pos.toNat 0 : Nat) : Int))) + 462197)) ∧ ((IntKind.u64.wrap ((IntKind.u64.wrap ((IntKind.u64.wrap (c.seed * 6364136223846793005)) + ((code.getD c.pos.toNat 0 : Nat) : Int))) + 462197)) : Int) ≤ 18446744073709551615) ∧ ((0 : Int) ≤ 40) ∧ ((0 : Int) ≤ ((IntKind.u64.wrap ((IntKind.u64.wrap ((IntKind.u64.wrap (c.seed * 6364136223846793005)) + ((code.getD c.pos.toNat 0 : Nat) : Int))) + 462197)) / 2 ^ 40) ∧ (((IntKind.u64.wrap ((IntKind.u64.wrap ((IntKind.u64.wrap (c.seed * 6364136223846793005)) + ((code.getD c.pos.toNat 0 : Nat) : Int))) + 462197)) / 2 ^ 40) : Int) ≤ 18446744073709551615) ∧ ((0 : Int) ≤ 255 ∧ (255 : Int) ≤ 18446744073709551615) ∧ (I6 ((((IntKind.u64.wrap ((IntKind.u64.wrap ((IntKind.u64.wrap (c.seed * 6364136223846793005)) + ((code.getD c.pos.toNat 0 : Nat) : Int))) + 462197)) / 2 ^ 40).toNat &&& 255 : Nat) : Int)) ∧ (((.lit u (.sl (.bytes code)) : D) = .lit u (.sl (.bytes code))) ∧ ((c.pos + 1) = (Jc code c).pos) ∧ ((IntKind.u64.wrap ((IntKind.u64.wrap ((IntKind.u64.wrap (c.seed * 6364136223846793005)) + ((code.getD c.pos.toNat 0 : Nat) : Int))) + 462197)) = (Jc code c).seed) ∧ (((((IntKind.u64.wrap ((IntKind.u64.wrap ((IntKind.u64.wrap (c.seed * 6364136223846793005)) + ((code.getD c.pos.toNat 0 : Nat) : Int))) + 462197)) / 2 ^ 40).toNat &&& 255 : Nat) : Int) = (JE code c)))))) ∧ ((decide (c.pos < (code.length : Int))) = false → (I6 (c.pos + 1)) ∧ (0 ≤ (0 : Int) ∧ (0 : Int) ≤ 18446744073709551615) ∧ (true = true) ∧ (((decide ((c.pos + 1) ≤ (code.length : Int))) = true → (((.lit u (.sl (.bytes code)) : D) = .lit u (.sl (.bytes code))) ∧ ((c.pos + 1) = (Jc code c).pos) ∧ ((IntKind.u64.wrap ((IntKind.u64.wrap ((IntKind.u64.wrap (c.seed * 6364136223846793005)) + 0)) + 462197)) = (Jc code c).seed) ∧ ((0 : Int) = (JE code c)))) ∧ ((decide ((c.pos + 1) ≤ (code.length : Int))) = false → ((0 : Int) ≤ (IntKind.u64.wrap ((IntKind.u64.wrap ((IntKind.u64.wrap (c.seed * 6364136223846793005)) + 0)) + 462197)) ∧ ((IntKind.u64.wrap ((IntKind.u64.wrap ((IntKind.u64.wrap (c.seed * 6364136223846793005)) + 0)) + 462197)) : Int) ≤ 18446744073709551615) ∧ ((0 : Int) ≤ 40) ∧ ((0 : Int) ≤ ((IntKind.u64.wrap ((IntKind.u64.wrap ((IntKind.u64.wrap (c.seed * 6364136223846793005)) + 0)) + 462197)) / 2 ^ 40) ∧ (((IntKind.u64.wrap ((IntKind.u64.wrap ((IntKind.u64.wrap (c.seed * 6364136223846793005)) + 0)) + 462197)) / 2 ^ 40) : Int) ≤ 18446744073709551615) ∧ ((0 : Int) ≤ 255 ∧ (255 : Int) ≤ 18446744073709551615) ∧ (I6 ((((IntKind.u64.wrap ((IntKind.u64.wrap ((IntKind.u64.wrap (c.seed * 6364136223846793005)) + 0)) + 462197)) / 2 ^ 40).toNat &&& 255 : Nat) : Int)) ∧ (((.lit u (.sl (.bytes code)) : D) = .lit u (.sl (.bytes code))) ∧ ((c.pos + 1) = (Jc code c).pos) ∧ ((IntKind.u64.wrap ((IntKind.u64.wrap ((IntKind.u64.wrap (c.seed * 6364136223846793005)) + 0)) + 462197)) = (Jc code c).seed) ∧ (((((IntKind.u64.wrap ((IntKind.u64.wrap ((IntKind.u64.wrap (c.seed * 6364136223846793005)) + 0)) + 462197)) / 2 ^ 40).toNat &&& 255 : Nat) : Int) = (JE code c)))))))
theorem J8f (u : Value) (code : List Nat) (c : Cur) (hb : ∀ x9 ∈ code, x9 < 256) (hc : okC c 1000000000000)  : J3y u code c := by
  unfold J3y
  obtain ⟨c1, c2, c3, c4⟩ := hc
  have nb := Jd9 hb c c1
  have w64 := J7B
  refine ⟨rfl, ?_, ?_⟩
  ·intro b1
   try simp only [nrmT] at b1
   refine ⟨rfl, ?_, ?_, ?_, ?_, ?_, ?_, rfl, ?_, ?_⟩
   ·first | omega | rfl | (intro hg; simp only [nrmT] at hg; omega) | (intro g1 g2; simp [g1, g2]; done) | (intro g1; simp at g1 ⊢; simp [g1]; done) | (simp only [nrmT] at *; omega) | (simp at * <;> omega) | (simp_all <;> omega) | (simp_all; done)
   ·first | omega | rfl | (intro hg; simp only [nrmT] at hg; omega) | (intro g1 g2; simp [g1, g2]; done) | (intro g1; simp at g1 ⊢; simp [g1]; done) | (simp only [nrmT] at *; omega) | (simp at * <;> omega) | (simp_all <;> omega) | (simp_all; done)
   ·first | omega | rfl | (intro hg; simp only [nrmT] at hg; omega) | (intro g1 g2; simp [g1, g2]; done) | (intro g1; simp at g1 ⊢; simp [g1]; done) | (simp only [nrmT] at *; omega) | (simp at * <;> omega) | (simp_all <;> omega) | (simp_all; done)
   ·have := hb _ (getD_mem (d := 0) (show c.pos.toNat < code.length by omega))
    omega
   ·first | omega | rfl | (intro hg; simp only [nrmT] at hg; omega) | (intro g1 g2; simp [g1, g2]; done) | (intro g1; simp at g1 ⊢; simp [g1]; done) | (simp only [nrmT] at *; omega) | (simp at * <;> omega) | (simp_all <;> omega) | (simp_all; done)
   ·have := hb _ (getD_mem (d := 0) (show c.pos.toNat < code.length by omega))
    omega
   ·intro b2
    try simp only [nrmT] at b2
    refine ⟨rfl, ?_, ?_, ?_⟩
    ·first | omega | rfl | (intro hg; simp only [nrmT] at hg; omega) | (intro g1 g2; simp [g1, g2]; done) | (intro g1; simp at g1 ⊢; simp [g1]; done) | (simp only [nrmT] at *; omega) | (simp at * <;> omega) | (simp_all <;> omega) | (simp_all; done)
    ·have hs : (Jc code c).seed = IntKind.u64.wrap (IntKind.u64.wrap (IntKind.u64.wrap (c.seed * 6364136223846793005) + nxB code c) + 462197) := rfl
     first | rw [show nxB code c = ((code.getD c.pos.toNat 0 : Nat) : Int) from if_pos (by omega)] at hs | rw [show nxB code c = 0 from if_neg (by omega)] at hs
     first | exact hs.symm | (exfalso; omega)
    unfold JE nxB; rw [if_pos (by omega), if_pos (by omega)]
   intro b3
   try simp only [nrmT] at b3
   refine ⟨?_, ?_, ?_, ?_, ?_, rfl, ?_, ?_, ?_⟩
   ·have := hb _ (getD_mem (d := 0) (show c.pos.toNat < code.length by omega))
    omega
   ·first | omega | rfl | (intro hg; simp only [nrmT] at hg; omega) | (intro g1 g2; simp [g1, g2]; done) | (intro g1; simp at g1 ⊢; simp [g1]; done) | (simp only [nrmT] at *; omega) | (simp at * <;> omega) | (simp_all <;> omega) | (simp_all; done)
   ·have := hb _ (getD_mem (d := 0) (show c.pos.toNat < code.length by omega))
    omega
   ·first | omega | rfl | (intro hg; simp only [nrmT] at hg; omega) | (intro g1 g2; simp [g1, g2]; done) | (intro g1; simp at g1 ⊢; simp [g1]; done) | (simp only [nrmT] at *; omega) | (simp at * <;> omega) | (simp_all <;> omega) | (simp_all; done)
   ·have := hb _ (getD_mem (d := 0) (show c.pos.toNat < code.length by omega))
    omega
   ·first | omega | rfl | (intro hg; simp only [nrmT] at hg; omega) | (intro g1 g2; simp [g1, g2]; done) | (intro g1; simp at g1 ⊢; simp [g1]; done) | (simp only [nrmT] at *; omega) | (simp at * <;> omega) | (simp_all <;> omega) | (simp_all; done)
   ·have hs : (Jc code c).seed = IntKind.u64.wrap (IntKind.u64.wrap (IntKind.u64.wrap (c.seed * 6364136223846793005) + nxB code c) + 462197) := rfl
    first | rw [show nxB code c = ((code.getD c.pos.toNat 0 : Nat) : Int) from if_pos (by omega)] at hs | rw [show nxB code c = 0 from if_neg (by omega)] at hs
    first | exact hs.symm | (exfalso; omega)
   have hs : (Jc code c).seed = IntKind.u64.wrap (IntKind.u64.wrap (IntKind.u64.wrap (c.seed * 6364136223846793005) + nxB code c) + 462197) := rfl
   first | rw [show nxB code c = ((code.getD c.pos.toNat 0 : Nat) : Int) from if_pos (by omega)] at hs | rw [show nxB code c = 0 from if_neg (by omega)] at hs
   unfold JE
   rw [if_neg (by omega), hs]
  intro b4
  try simp only [nrmT] at b4
  refine ⟨?_, ?_, rfl, ?_, ?_⟩
  ·first | omega | rfl | (intro hg; simp only [nrmT] at hg; omega) | (intro g1 g2; simp [g1, g2]; done) | (intro g1; simp at g1 ⊢; simp [g1]; done) | (simp only [nrmT] at *; omega) | (simp at * <;> omega) | (simp_all <;> omega) | (simp_all; done)
  ·first | omega | rfl | (intro hg; simp only [nrmT] at hg; omega) | (intro g1 g2; simp [g1, g2]; done) | (intro g1; simp at g1 ⊢; simp [g1]; done) | (simp only [nrmT] at *; omega) | (simp at * <;> omega) | (simp_all <;> omega) | (simp_all; done)
  ·intro b5
   try simp only [nrmT] at b5
   refine ⟨rfl, ?_, ?_, ?_⟩
   ·first | omega | rfl | (intro hg; simp only [nrmT] at hg; omega) | (intro g1 g2; simp [g1, g2]; done) | (intro g1; simp at g1 ⊢; simp [g1]; done) | (simp only [nrmT] at *; omega) | (simp at * <;> omega) | (simp_all <;> omega) | (simp_all; done)
   ·have hs : (Jc code c).seed = IntKind.u64.wrap (IntKind.u64.wrap (IntKind.u64.wrap (c.seed * 6364136223846793005) + nxB code c) + 462197) := rfl
    first | rw [show nxB code c = ((code.getD c.pos.toNat 0 : Nat) : Int) from if_pos (by omega)] at hs | rw [show nxB code c = 0 from if_neg (by omega)] at hs
    first | exact hs.symm | (exfalso; omega)
   first | omega | rfl | (intro hg; simp only [nrmT] at hg; omega) | (intro g1 g2; simp [g1, g2]; done) | (intro g1; simp at g1 ⊢; simp [g1]; done) | (simp only [nrmT] at *; omega) | (simp at * <;> omega) | (simp_all <;> omega) | (simp_all; done)
  intro b6
  try simp only [nrmT] at b6
  refine ⟨?_, ?_, ?_, ?_, ?_, rfl, ?_, ?_, ?_⟩
  ·exact w64 _
  ·first | omega | rfl | (intro hg; simp only [nrmT] at hg; omega) | (intro g1 g2; simp [g1, g2]; done) | (intro g1; simp at g1 ⊢; simp [g1]; done) | (simp only [nrmT] at *; omega) | (simp at * <;> omega) | (simp_all <;> omega) | (simp_all; done)
  ·have := w64 (IntKind.u64.wrap (IntKind.u64.wrap (c.seed * 6364136223846793005) + 0) + 462197)
   generalize IntKind.u64.wrap (IntKind.u64.wrap (IntKind.u64.wrap (c.seed * 6364136223846793005) + 0) + 462197) = z at *
   omega
  ·first | omega | rfl | (intro hg; simp only [nrmT] at hg; omega) | (intro g1 g2; simp [g1, g2]; done) | (intro g1; simp at g1 ⊢; simp [g1]; done) | (simp only [nrmT] at *; omega) | (simp at * <;> omega) | (simp_all <;> omega) | (simp_all; done)
  ·have := JcX ((IntKind.u64.wrap (IntKind.u64.wrap (IntKind.u64.wrap (c.seed * 6364136223846793005) + 0) + 462197)) / 2 ^ 40).toNat
   omega
  ·first | omega | rfl | (intro hg; simp only [nrmT] at hg; omega) | (intro g1 g2; simp [g1, g2]; done) | (intro g1; simp at g1 ⊢; simp [g1]; done) | (simp only [nrmT] at *; omega) | (simp at * <;> omega) | (simp_all <;> omega) | (simp_all; done)
  ·have hs : (Jc code c).seed = IntKind.u64.wrap (IntKind.u64.wrap (IntKind.u64.wrap (c.seed * 6364136223846793005) + nxB code c) + 462197) := rfl
   first | rw [show nxB code c = ((code.getD c.pos.toNat 0 : Nat) : Int) from if_pos (by omega)] at hs | rw [show nxB code c = 0 from if_neg (by omega)] at hs
   first | exact hs.symm | (exfalso; omega)
  have hs : (Jc code c).seed = IntKind.u64.wrap (IntKind.u64.wrap (IntKind.u64.wrap (c.seed * 6364136223846793005) + nxB code c) + 462197) := rfl
  first | rw [show nxB code c = ((code.getD c.pos.toNat 0 : Nat) : Int) from if_pos (by omega)] at hs | rw [show nxB code c = 0 from if_neg (by omega)] at hs
  unfold JE
  rw [if_neg (by omega), hs]
theorem J4B (code : List Nat) (c : Cur) (hb : ∀ x9 ∈ code, x9 < 256) (hc : okC c 1000000000000) : PK Tryz.prog 213 76 (.sl (.bytes code)) [.int .i64 c.pos, .int .u64 c.seed] [.int .i64 (Jc code c).pos, .int .u64 (Jc code c).seed] [] (.one (.d (.int .i64 (JE code c)))) :=
  pk_by (Q := fun u => J3y u code c) (by kernel_rfl) Tryz.func213 @Tryz.call213 (by kernel_rfl) J9i (fun u => J98 u code c) (by kernel_rfl) (fun u => J8f u code c hb hc) (fun u => by kernel_rfl)
def J0 (code : List Nat) (c : Cur) (n : Int) : Cur := if n ≤ 1 then c else if n > 200 then Jc code (Jc code c) else Jc code c
def J4 (code : List Nat) (c : Cur) (n : Int) : Int := if n ≤ 1 then 0 else (if n > 200 then JE code c * 256 + JE code (Jc code c) else JE code c) % n
theorem J6 {code : List Nat} {c : Cur} {n b : Int} (h : okC c b) : okC (J0 code c n) (b + 2) := by
  unfold J0
  split
  · exact J5 h (by omega)
  split
  · have := JR (code := code) (JR (code := code) h)
    exact J5 this (by omega)
  · exact J5 (JR h) (by omega)
theorem Jf (code : List Nat) (c : Cur) {n : Int} (hn : 1 ≤ n) : 0 ≤ J4 code c n ∧ J4 code c n < n := by
  unfold J4
  split
  · omega
  exact ⟨Int.emod_nonneg _ (by omega), Int.emod_lt_of_pos _ (by omega)⟩
def J95 (f : FuncId) (ds : List D) : Orc := .no
def J8R (u : Value) (code : List Nat) (c : Cur) (n : Int) : Ann := .two (.none) (.two (.none) (.two (.mark [] [(1, .cell [.int .i64 ((Jc code c).pos), .int .u64 ((Jc code c).seed)] (.one (.d (.int .i64 (JE code c)))))]) (.two (.two (.none) (.two (.mark [] [(3, .cell [.int .i64 ((Jc code (Jc code c)).pos), .int .u64 ((Jc code (Jc code c)).seed)] (.one (.d (.int .i64 (JE code (Jc code c))))))]) (.none))) (.none))))
def J3w (u : Value) (code : List Nat) (c : Cur) (n : Int) : Prop :=
  (((decide (n ≤ 1)) = true → (((.lit u (.sl (.bytes code)) : D) = .lit u (.sl (.bytes code))) ∧ (c.pos = (J0 code c n).pos) ∧ (c.seed = (J0 code c n).seed) ∧ ((0 : Int) = (J4 code c n)))) ∧ ((decide (n ≤ 1)) = false → (PK Tryz.prog 213 76 (.sl (.bytes code)) [.int .i64 c.pos, .int .u64 c.seed] [.int .i64 ((Jc code c).pos), .int .u64 ((Jc code c).seed)] [] (.one (.d (.int .i64 (JE code c))))) ∧ (((decide (n > 200)) = true → (I6 ((JE code c) * 256)) ∧ (PK Tryz.prog 213 76 (.sl (.bytes code)) [.int .i64 ((Jc code c).pos), .int .u64 ((Jc code c).seed)] [.int .i64 ((Jc code (Jc code c)).pos), .int .u64 ((Jc code (Jc code c)).seed)] [] (.one (.d (.int .i64 (JE code (Jc code c)))))) ∧ (I6 (((JE code c) * 256) + (JE code (Jc code c)))) ∧ ((0 : Int) ≤ (((JE code c) * 256) + (JE code (Jc code c)))) ∧ ((1 : Int) ≤ n) ∧ (((.lit u (.sl (.bytes code)) : D) = .lit u (.sl (.bytes code))) ∧ ((Jc code (Jc code c)).pos = (J0 code c n).pos) ∧ ((Jc code (Jc code c)).seed = (J0 code c n).seed) ∧ (((((JE code c) * 256) + (JE code (Jc code c))) % n) = (J4 code c n)))) ∧ ((decide (n > 200)) = false → ((0 : Int) ≤ (JE code c)) ∧ ((1 : Int) ≤ n) ∧ (((.lit u (.sl (.bytes code)) : D) = .lit u (.sl (.bytes code))) ∧ ((Jc code c).pos = (J0 code c n).pos) ∧ ((Jc code c).seed = (J0 code c n).seed) ∧ (((JE code c) % n) = (J4 code c n)))))))
theorem J8i (u : Value) (code : List Nat) (c : Cur) (n : Int) (hb : ∀ x9 ∈ code, x9 < 256) (hc : okC c 900000000000)  : J3w u code c n := by
  unfold J3w
  refine ⟨?_, ?_⟩
  ·intro b1
   try simp only [nrmT] at b1
   refine ⟨rfl, ?_, ?_, ?_⟩
   ·unfold J0; first | rw [if_pos (by omega)] | rw [if_neg (by omega), if_pos (by omega)] | rw [if_neg (by omega), if_neg (by omega)]
   ·unfold J0; first | rw [if_pos (by omega)] | rw [if_neg (by omega), if_pos (by omega)] | rw [if_neg (by omega), if_neg (by omega)]
   unfold J4; first | rw [if_pos (by omega)] | rw [if_neg (by omega), if_pos (by omega)] | rw [if_neg (by omega), if_neg (by omega)]
  intro b2
  try simp only [nrmT] at b2
  refine ⟨?_, ?_, ?_⟩
  ·refine J4B code c ?_ ?_
   ·exact hb
   ·exact J5 (by assumption) (by omega)
  ·intro b3
   try simp only [nrmT] at b3
   refine ⟨?_, ?_, ?_, ?_, ?_, rfl, ?_, ?_, ?_⟩
   ·have q0 := J1Q hb (c := c) hc.1
    have q1 := J1Q hb (c := Jc code c) (JR hc).1
    omega
   ·refine J4B code (Jc code c) ?_ ?_
    ·exact hb
    ·exact J5 (JR (by assumption)) (by omega)
   ·have q0 := J1Q hb (c := c) hc.1
    have q1 := J1Q hb (c := Jc code c) (JR hc).1
    omega
   ·have q0 := J1Q hb (c := c) hc.1
    have q1 := J1Q hb (c := Jc code c) (JR hc).1
    omega
   ·omega
   ·unfold J0; first | rw [if_pos (by omega)] | rw [if_neg (by omega), if_pos (by omega)] | rw [if_neg (by omega), if_neg (by omega)]
   ·unfold J0; first | rw [if_pos (by omega)] | rw [if_neg (by omega), if_pos (by omega)] | rw [if_neg (by omega), if_neg (by omega)]
   unfold J4; first | rw [if_pos (by omega)] | rw [if_neg (by omega), if_pos (by omega)] | rw [if_neg (by omega), if_neg (by omega)]
  intro b4
  try simp only [nrmT] at b4
  refine ⟨?_, ?_, rfl, ?_, ?_, ?_⟩
  ·have q0 := J1Q hb (c := c) hc.1
   have q1 := J1Q hb (c := Jc code c) (JR hc).1
   omega
  ·omega
  ·unfold J0; first | rw [if_pos (by omega)] | rw [if_neg (by omega), if_pos (by omega)] | rw [if_neg (by omega), if_neg (by omega)]
  ·unfold J0; first | rw [if_pos (by omega)] | rw [if_neg (by omega), if_pos (by omega)] | rw [if_neg (by omega), if_neg (by omega)]
  unfold J4; first | rw [if_pos (by omega)] | rw [if_neg (by omega), if_pos (by omega)] | rw [if_neg (by omega), if_neg (by omega)]
theorem Jm (code : List Nat) (c : Cur) (n : Int) (hb : ∀ x9 ∈ code, x9 < 256) (hc : okC c 900000000000) : PK Tryz.prog 156 76 (.sl (.bytes code)) [.int .i64 c.pos, .int .u64 c.seed] [.int .i64 (J0 code c n).pos, .int .u64 (J0 code c n).seed] [.int .i64 n] (.one (.d (.int .i64 (J4 code c n)))) :=
  pk_by (Q := fun u => J3w u code c n) (by kernel_rfl) Tryz.func156 @Tryz.call156 (by kernel_rfl) J95 (fun u => J8R u code c n) (by kernel_rfl) (fun u => J8i u code c n hb hc) (fun u => by kernel_rfl)
def J8c (f : FuncId) (ds : List D) : Orc := .no
def J8t (u : Value) (code : List Nat) (c : Cur) (list : ZI) : Ann := .two (.none) (.two (.mark [] [(4, .cell [.int .i64 ((J0 code c (list.length : Int)).pos), .int .u64 ((J0 code c (list.length : Int)).seed)] (.one (.d (.int .i64 (J4 code c (list.length : Int))))))]) (.none))
def J37 (u : Value) (code : List Nat) (c : Cur) (list : ZI) : Prop :=
  (PK Tryz.prog 156 76 (.sl (.bytes code)) [.int .i64 c.pos, .int .u64 c.seed] [.int .i64 ((J0 code c (list.length : Int)).pos), .int .u64 ((J0 code c (list.length : Int)).seed)] [.int .i64 (list.length : Int)] (.one (.d (.int .i64 (J4 code c (list.length : Int)))))) ∧ ((0 : Int) ≤ (J4 code c (list.length : Int))) ∧ (((J4 code c (list.length : Int)) : Int) < list.length) ∧ ((J4 code c (list.length : Int)).toNat < list.length) ∧ (((.lit u (.sl (.bytes code)) : D) = .lit u (.sl (.bytes code))) ∧ ((J0 code c (list.length : Int)).pos = (J0 code c (list.length : Int)).pos) ∧ ((J0 code c (list.length : Int)).seed = (J0 code c (list.length : Int)).seed) ∧ ((list.getD ((J4 code c (list.length : Int)).toNat) 0) = (list.getD (J4 code c (list.length : Int)).toNat 0)))
theorem J7C (u : Value) (code : List Nat) (c : Cur) (list : ZI) (hb : ∀ x9 ∈ code, x9 < 256) (hc : okC c 800000000000) (hl : 0 < list.length)  : J37 u code c list := by
  unfold J37
  refine ⟨?_, ?_, ?_, ?_, rfl, rfl, rfl, ?_⟩
  ·refine Jm code c (list.length : Int) ?_ ?_
   ·exact hb
   ·exact J5 (by assumption) (by omega)
  ·have := Jf code c (n := (list.length : Int)) (by omega)
   omega
  ·have := Jf code c (n := (list.length : Int)) (by omega)
   omega
  ·have := Jf code c (n := (list.length : Int)) (by omega)
   omega
  have := Jf code c (n := (list.length : Int)) (by omega)
  omega
theorem Jg (code : List Nat) (c : Cur) (list : ZI) (hb : ∀ x9 ∈ code, x9 < 256) (hc : okC c 800000000000) (hl : 0 < list.length) : PK Tryz.prog 155 76 (.sl (.bytes code)) [.int .i64 c.pos, .int .u64 c.seed] [.int .i64 (J0 code c (list.length : Int)).pos, .int .u64 (J0 code c (list.length : Int)).seed] [.sl (.ints list)] (.one (.d (.int .i64 (list.getD (J4 code c (list.length : Int)).toNat 0)))) :=
  pk_by (Q := fun u => J37 u code c list) (by kernel_rfl) Tryz.func155 @Tryz.call155 (by kernel_rfl) J8c (fun u => J8t u code c list) (by kernel_rfl) (fun u => J7C u code c list hb hc hl) (fun u => by kernel_rfl)
theorem J9b : okC J5a 0 := by unfold okC; decide
theorem Jdn (l : ZI) (code : List Nat) (c : Cur) (h : 0 < l.length) : l.getD (J4 code c (l.length : Int)).toNat 0 ∈ l := by
  have := Jf code c (n := (l.length : Int)) (by omega)
  exact getD_mem (by omega)
def JdC (f : FuncId) (ds : List D) : Orc := .no
def Jdp (code : List Nat) : Ann := .none
def JaT (code : List Nat) : Prop :=
  (((decide ((code.length : Int) > 65536)) = (decide ((code.length : Int) > 65536))))
theorem JcQ (code : List Nat)  (w_code : (code.length : Int) ≤ 9223372036854775807) : JaT code := by
  unfold JaT
  exact rfl
theorem Jdd (code : List Nat)  : PC Tryz.prog 28 [.sl (.bytes code)] (.one (.d (.bool (decide ((code.length : Int) > 65536))))) :=
  pc_wf @Tryz.call28 fun hw => pc_by (by kernel_rfl) Tryz.func28 @Tryz.call28 (by kernel_rfl) JdC (Jdp code) (by kernel_rfl) (JcQ code hw.1) (by kernel_rfl)
def Jcm : List D → Orc := orcN [some .bytes] fun ds => match ds with
  | [.sl (.bytes code)] => some (.one (.d (.bool (decide ((code.length : Int) > 65536)))))
  | _ => none
abbrev J3M (xs : ZI) (ys : ZI) (i : Int) : Prop := (0 ≤ i) ∧ (i ≤ (xs.length : Int)) ∧ (allTo (fun k => xs.getD k 0 == ys.getD k 0) i.toNat = true) ∧ (xs.length = ys.length)
abbrev J3D (xs : ZI) (ys : ZI) (i : Int) : Nat := (xs.length - i).toNat
def Jdi (f : FuncId) (ds : List D) : Orc := .no
def Jd5 (xs : ZI) (ys : ZI) : Ann := .two (.none) (.two (.none) (.two (.two (.none) (.loop (cut1 (fun (i : Int) => J3M xs ys i) (fun (i : Int) => [(0, .d false (.sl (.ints xs))), (1, .d false (.sl (.ints ys))), (5, .d true (.int .i64 i))]) (fun (i : Int) => [])) (fun g => J3D xs ys g) (fun _ => .none))) (.none)))
def J9C (xs : ZI) (ys : ZI) : Prop :=
  ((((xs.length : Int) != (ys.length : Int)) = true → ((false = (xs == ys)))) ∧ (((xs.length : Int) != (ys.length : Int)) = false → ((∃ i' : Int, (J3M xs ys i') ∧ (xs = xs) ∧ (ys = ys) ∧ ((0 : Int) = i')) ∧ (∀ i : Int, (J3M xs ys i) → (((decide (i < (xs.length : Int))) = true → (true = true) ∧ ((0 : Int) ≤ i) ∧ ((i : Int) < xs.length) ∧ (i.toNat < xs.length) ∧ ((0 : Int) ≤ i) ∧ ((i : Int) < ys.length) ∧ (i.toNat < ys.length) ∧ ((((xs.getD i.toNat 0) != (ys.getD i.toNat 0)) = true → ((false = (xs == ys)))) ∧ (((xs.getD i.toNat 0) != (ys.getD i.toNat 0)) = false → (I6 (i + 1)) ∧ (∃ i' : Int, (J3M xs ys i') ∧ (J3D xs ys i' < J3D xs ys i) ∧ (xs = xs) ∧ (ys = ys) ∧ ((i + 1) = i'))))) ∧ ((decide (i < (xs.length : Int))) = false → ((true = (xs == ys)))))))))
theorem Jco (xs : ZI) (ys : ZI)  (w_xs : (xs.length : Int) ≤ 9223372036854775807) (w_ys : (ys.length : Int) ≤ 9223372036854775807) : J9C xs ys := by
  unfold J9C
  refine ⟨?_, ?_⟩
  ·intro b1
   try simp only [nrmT] at b1
   exact (Jd2 (by omega)).symm
  intro b2
  try simp only [nrmT] at b2
  refine ⟨?_, ?_⟩
  ·refine ⟨0, ?_⟩
   refine ⟨?_, rfl, rfl, rfl⟩
   ·refine ⟨?_, ?_, ?_, ?_⟩
    ·omega
    ·omega
    ·rfl
    ·omega
  intro i hJ
  obtain ⟨h1, h2, h3, h4⟩ := hJ
  refine ⟨?_, ?_⟩
  ·intro b3
   try simp only [nrmT] at b3
   refine ⟨rfl, ?_, ?_, ?_, ?_, ?_, ?_, ?_, ?_⟩
   ·omega
   ·omega
   ·omega
   ·omega
   ·omega
   ·omega
   ·intro b4
    try simp only [nrmT] at b4
    rw [← J4d (d := 0) h4]; exact (allTo_falseI h1 (by omega) (by simpa using b4)).symm
   intro b5
   try simp only [nrmT] at b5
   refine ⟨?_, ?_⟩
   ·omega
   refine ⟨(i + 1), ?_⟩
   refine ⟨?_, ?_, rfl, rfl, rfl⟩
   ·refine ⟨?_, ?_, ?_, ?_⟩
    ·omega
    ·omega
    ·exact allTo_step h1 h3 (by simpa using b5)
    ·omega
   (simp only [J3D]; omega)
  intro b6
  try simp only [nrmT] at b6
  rw [← J4d (d := 0) h4, ← h3]; congr 1; omega
theorem J4f (xs : ZI) (ys : ZI)  : PC Tryz.prog 32 [.sl (.ints xs), .sl (.ints ys)] (.one (.d (.bool (xs == ys)))) :=
  pc_wf @Tryz.call32 fun hw => pc_by (by kernel_rfl) Tryz.func32 @Tryz.call32 (by kernel_rfl) Jdi (Jd5 xs ys) (by kernel_rfl) (Jco xs ys hw.1 hw.2.1) (by kernel_rfl)
def J4L : List D → Orc := orcN [some .ints, some .ints] fun ds => match ds with
  | [.sl (.ints xs), .sl (.ints ys)] => some (.one (.d (.bool (xs == ys))))
  | _ => none
theorem J9s (row set : ZI) : ∀ k i, i < k → row.getD (J03 row set k).toNat 0 ≤ row.getD (set.getD i 0).toNat 0
  | 0, i, h => by omega
  | k + 1, i, h => by
    have ih := J9s row set k
    rw [J2q]
    unfold J59
    by_cases e : i = k
    · subst e
      split
      · exact Int.le_refl _
      omega
    have := ih i (by omega)
    split <;> omega
theorem JdW {E : ZR} {set : ZI} {r : Int} (hr : 0 ≤ r) : J18 E set ≤ r ↔ ∀ j, j < E.length → J2y E set j ≤ r := by
  obtain ⟨h1, h2, h3⟩ := J7t E set E.length
  unfold J18
  constructor
  · intro h j hj; have := h2 j hj; omega
  intro h
  rcases h3 with h3 | ⟨j, hj, h3⟩
  · omega
  rw [h3]; exact h j hj
def Jbl (f : FuncId) (ds : List D) : Orc := bif Nat.beq f 113 then J97 ds else bif Nat.beq f 96 then J6R ds else .no
def Jbp (U : ZI) (E : ZR) (set : ZI) : Ann := .none
def J7i (U : ZI) (E : ZR) (set : ZI) : Prop :=
  (PC Tryz.prog 113 [.agg [.sl (.ints U), .sl (.rows E)], .sl (.ints set)] (.one (.d (.bool (J2 U E && J3 set 0 ((U.length : Int) - 1) && decide (0 < set.length)))))) ∧ (((!(J2 U E && J3 set 0 ((U.length : Int) - 1) && decide (0 < set.length))) = true → (((0 : Int) = (if (J2 U E && J3 set 0 ((U.length : Int) - 1) && decide (0 < set.length)) = true then J18 E set else 0)) ∧ (false = (J2 U E && J3 set 0 ((U.length : Int) - 1) && decide (0 < set.length))))) ∧ ((!(J2 U E && J3 set 0 ((U.length : Int) - 1) && decide (0 < set.length))) = false → (PC Tryz.prog 96 [.agg [.sl (.ints U), .sl (.rows E)], .sl (.ints set)] (.one (.d (.int .i64 (J18 E set))))) ∧ (((J18 E set) = (if (J2 U E && J3 set 0 ((U.length : Int) - 1) && decide (0 < set.length)) = true then J18 E set else 0)) ∧ (true = (J2 U E && J3 set 0 ((U.length : Int) - 1) && decide (0 < set.length))))))
theorem JaF (U : ZI) (E : ZR) (set : ZI)  (w_Open : (U.length : Int) ≤ 9223372036854775807) (w_Dist : (E.length : Int) ≤ 9223372036854775807) (v_Dist : ∀ x9 ∈ E, (x9.length : Int) ≤ 9223372036854775807) (w_set : (set.length : Int) ≤ 9223372036854775807) : J7i U E set := by
  unfold J7i
  refine ⟨Jab U E set, ?_, ?_⟩
  ·intro b1
   try simp only [Bool.not_eq_true', Bool.not_eq_false', Bool.not_not] at b1
   refine ⟨?_, ?_⟩
   ·have hq : (J2 U E && J3 set 0 ((U.length : Int) - 1) && decide (0 < set.length)) = false := by simpa only [Bool.not_eq_true', Bool.not_eq_false', Bool.not_not] using b1
    rw [hq]; rfl
   (simp_all <;> omega)
  intro b2
  try simp only [Bool.not_eq_true', Bool.not_eq_false', Bool.not_not] at b2
  refine ⟨?_, ?_, ?_⟩
  ·refine J7z U E set ?_
   ·omega
  ·have hq : (J2 U E && J3 set 0 ((U.length : Int) - 1) && decide (0 < set.length)) = true := by simpa only [Bool.not_eq_true', Bool.not_eq_false', Bool.not_not] using b2
   rw [if_pos hq]
  (simp_all; done)
theorem Jae (U : ZI) (E : ZR) (set : ZI)  : PC Tryz.prog 24 [.agg [.sl (.ints U), .sl (.rows E)], .sl (.ints set)] (.tup [.d (.int .i64 (if (J2 U E && J3 set 0 ((U.length : Int) - 1) && decide (0 < set.length)) = true then J18 E set else 0)), .d (.bool (J2 U E && J3 set 0 ((U.length : Int) - 1) && decide (0 < set.length)))]) :=
  pc_wf @Tryz.call24 fun hw => pc_by (by kernel_rfl) Tryz.func24 @Tryz.call24 (by kernel_rfl) Jbl (Jbp U E set) (by kernel_rfl) (JaF U E set hw.1.1 hw.1.2.1.1 hw.1.2.1.2 hw.2.1) (by kernel_rfl)
def Ja1 : List D → Orc := orcN [none, some .ints] fun ds => match ds with
  | [.agg [.sl (.ints U), .sl (.rows E)], .sl (.ints set)] => some (.tup [.d (.int .i64 (if (J2 U E && J3 set 0 ((U.length : Int) - 1) && decide (0 < set.length)) = true then J18 E set else 0)), .d (.bool (J2 U E && J3 set 0 ((U.length : Int) - 1) && decide (0 < set.length)))])
  | _ => none
abbrev J0G (n : Int) (code : Int) (out : ZI) (x : Int) : Prop := (0 ≤ x) ∧ (x ≤ n) ∧ (out = members (fun k => code.toNat.testBit k) x.toNat)
abbrev JO (n : Int) (code : Int) (out : ZI) (x : Int) : Nat := (n - x).toNat
def J9e (f : FuncId) (ds : List D) : Orc := .no
def J9m (n : Int) (code : Int) : Ann := .two (.none) (.two (.none) (.two (.two (.none) (.loop (cut2 (fun (out : ZI) (x : Int) => J0G n code out x) (fun (out : ZI) (x : Int) => [(0, .d false (.int .i64 n)), (1, .d false (.int .i64 code)), (5, .own 1000000 out.length), (6, .d true (.int .i64 x))]) (fun (out : ZI) (x : Int) => [(1000000, .arr true 3 (.ints out))])) (fun g => JO n code g.1 g.2) (fun _ => .none))) (.none)))
def J4V (n : Int) (code : Int) : Prop :=
  ((∃ out' : ZI, ∃ x' : Int, (J0G n code out' x') ∧ (n = n) ∧ (code = code) ∧ ((0 : Nat) = out'.length) ∧ ((0 : Int) = x') ∧ ([] = out')) ∧ (∀ out : ZI, ∀ x : Int, (J0G n code out x) → (((decide (x < n)) = true → ((0 : Int) ≤ code ∧ (code : Int) ≤ 9223372036854775807) ∧ ((0 : Int) ≤ x) ∧ ((0 : Int) ≤ (code / 2 ^ x.toNat) ∧ ((code / 2 ^ x.toNat) : Int) ≤ 9223372036854775807) ∧ ((0 : Int) ≤ 1 ∧ (1 : Int) ≤ 9223372036854775807) ∧ ((((((code / 2 ^ x.toNat).toNat &&& 1 : Nat) : Int) == 1) = true → (out.length = out.length) ∧ ((1 : Nat) = 1) ∧ ((out.length + 1) * 8 ≤ 140737488355328) ∧ (I6 (x + 1)) ∧ (∃ out' : ZI, ∃ x' : Int, (J0G n code out' x') ∧ (JO n code out' x' < JO n code out x) ∧ (n = n) ∧ (code = code) ∧ ((out.length + 1) = out'.length) ∧ ((x + 1) = x') ∧ ((out ++ [x]) = out'))) ∧ (((((code / 2 ^ x.toNat).toNat &&& 1 : Nat) : Int) == 1) = false → (I6 (x + 1)) ∧ (∃ out' : ZI, ∃ x' : Int, (J0G n code out' x') ∧ (JO n code out' x' < JO n code out x) ∧ (n = n) ∧ (code = code) ∧ (out.length = out'.length) ∧ ((x + 1) = x') ∧ (out = out'))))) ∧ ((decide (x < n)) = false → ((out.length = out.length) ∧ ((out : ZI) = members (fun k => code.toNat.testBit k) n.toNat))))))
theorem J88 (n : Int) (code : Int) (hn : 0 ≤ n ∧ n ≤ 62) (hc : 0 ≤ code ∧ code ≤ 4611686018427387903)  : J4V n code := by
  unfold J4V
  refine ⟨?_, ?_⟩
  ·refine ⟨([]), 0, ?_⟩
   refine ⟨?_, rfl, rfl, rfl, rfl, ?_⟩
   ·refine ⟨?_, ?_, ?_⟩
    ·omega
    ·omega
    ·rfl
   rfl
  intro out x hJ
  obtain ⟨h1, h2, h3⟩ := hJ
  refine ⟨?_, ?_⟩
  ·intro b1
   try simp only [nrmT] at b1
   refine ⟨?_, ?_, ?_, ?_, ?_, ?_⟩
   ·omega
   ·omega
   ·have h5 : 0 ≤ code / 2 ^ x.toNat := Int.ediv_nonneg hc.1 (Int.le_of_lt (Int.pow_pos (by omega)))
    have h6 : code / 2 ^ x.toNat ≤ code := Int.ediv_le_self _ hc.1
    omega
   ·omega
   ·intro b2
    try simp only [nrmT] at b2
    refine ⟨rfl, rfl, ?_, ?_, ?_⟩
    ·rw [h3]; have := members_len_le (fun k => code.toNat.testBit k) x.toNat; omega
    ·omega
    refine ⟨(out ++ [x]), (x + 1), ?_⟩
    refine ⟨?_, ?_, rfl, rfl, ?_, rfl, rfl⟩
    ·refine ⟨?_, ?_, ?_⟩
     ·omega
     ·omega
     ·have hb := shr_bit (n := code.toNat) (k := x.toNat)
      rw [show ((code.toNat : Nat) : Int) = code by omega] at hb
      have ht : code.toNat.testBit x.toNat = true := by
        cases h : code.toNat.testBit x.toNat with
        | true => rfl
        | false => rw [h] at hb; simp at hb; simp at b2; omega
      rw [h3, show (x + 1).toNat = x.toNat + 1 by omega, members_succ, if_pos ht, show ((x.toNat : Nat) : Int) = x by omega]
    ·(simp only [JO]; omega)
    simp
   intro b3
   try simp only [nrmT] at b3
   refine ⟨?_, ?_⟩
   ·omega
   refine ⟨out, (x + 1), ?_⟩
   refine ⟨?_, ?_, rfl, rfl, rfl, rfl, rfl⟩
   ·refine ⟨?_, ?_, ?_⟩
    ·omega
    ·omega
    ·have hb := shr_bit (n := code.toNat) (k := x.toNat)
     rw [show ((code.toNat : Nat) : Int) = code by omega] at hb
     have ht : code.toNat.testBit x.toNat = false := by
       cases h : code.toNat.testBit x.toNat with
       | false => rfl
       | true => rw [h] at hb; simp at hb; simp at b3; omega
     rw [h3, show (x + 1).toNat = x.toNat + 1 by omega, members_succ, ht]; simp
   (simp only [JO]; omega)
  intro b4
  try simp only [nrmT] at b4
  refine ⟨rfl, ?_⟩
  ·rw [h3, show x.toNat = n.toNat by omega]
theorem J8w (n : Int) (code : Int) (hn : 0 ≤ n ∧ n ≤ 62) (hc : 0 ≤ code ∧ code ≤ 4611686018427387903) : PC Tryz.prog 142 [.int .i64 n, .int .i64 code] (.one (.own 3 (.ints (members (fun k => code.toNat.testBit k) n.toNat)))) :=
  pc_wf @Tryz.call142 fun _ => pc_by (by kernel_rfl) Tryz.func142 @Tryz.call142 (by kernel_rfl) J9e (J9m n code) (by kernel_rfl) (J88 n code hn hc) (by kernel_rfl)
theorem J6C {g : Bool} {a b : Cur} {x y : Int} (ha : okC a x) (hb : okC b y) : okC (cond g a b) (max x y) := by
  cases g
  · exact J5 hb (by omega)
  exact J5 ha (by omega)
theorem J1u {p : Int → Prop} (l : ZI) (code : List Nat) (c : Cur) (h0 : 0 < l.length) (h : ∀ x ∈ l, p x) : p (l.getD (J4 code c (l.length : Int)).toNat 0) := h _ (Jdn l code c h0)
theorem JdY {a b : Int} (ha : 0 ≤ a ∧ a < 256) (hb : 0 ≤ b ∧ b ≤ 255) : ((a.toNat ||| b.toNat : Nat) : Int) < 256 := by
  have h := Nat.or_lt_two_pow (n := 8) (x := a.toNat) (y := b.toNat) (by omega) (by omega)
  have he : (2 : Nat) ^ 8 = 256 := by decide
  omega
theorem JdS {a : Int} {n : Nat} (ha : 0 ≤ a ∧ a < 256) : ((a.toNat &&& n : Nat) : Int) < 256 := by
  have h := Nat.and_le_left (n := a.toNat) (m := n)
  omega
theorem JcM {l : ZR} {x : ZI} {m : Nat} (h : ∀ r ∈ l, r.length ≤ m) (hx : x.length ≤ m) : ∀ r ∈ l ++ [x], r.length ≤ m := by
  intro r hr
  rcases List.mem_append.1 hr with hr | hr
  · exact h r hr
  rw [List.mem_singleton.1 hr]; exact hx
abbrev J0V (u : Value) (code : List Nat) (c : Cur) (n : Int) (c0 : Cur) (sz0 : Int) (se0 : ZR) (co0 : ZI) (i : Int) (c1 : Cur) (sz : Int) (sets : ZR) (costs : ZI) : Prop := (0 ≤ sz ∧ sz ≤ 8) ∧ (0 ≤ i) ∧ (i ≤ n) ∧ (sets.length = i.toNat) ∧ (costs.length = i.toNat) ∧ (okC c1 (1000010 + 10 * i)) ∧ (∀ r ∈ sets, r.length ≤ 8)
abbrev J0W (u : Value) (code : List Nat) (c : Cur) (n : Int) (c0 : Cur) (sz0 : Int) (se0 : ZR) (co0 : ZI) (i : Int) (c1 : Cur) (sz : Int) (sets : ZR) (costs : ZI) : Nat := (n - i).toNat
abbrev J1R (u : Value) (code : List Nat) (c : Cur) (n : Int) (c0 : Cur) (sz0 : Int) (se0 : ZR) (co0 : ZI) (c2 : Cur) (sz1 : Int) (set1 : ZR) (cost1 : ZI) : Prop := (okC c2 1000200) ∧ (set1.length = n.toNat) ∧ (cost1.length = n.toNat) ∧ (∀ r ∈ set1, r.length ≤ 8)
abbrev J0U (u : Value) (code : List Nat) (c : Cur) (n : Int) (c0 : Cur) (sz0 : Int) (se0 : ZR) (co0 : ZI) (c2 : Cur) (sz1 : Int) (set1 : ZR) (cost1 : ZI) (sz2 : Int) (se : ZR) (co : ZI) : Prop := (se.length ≤ 9) ∧ (co.length = se.length)
abbrev J11 (u : Value) (code : List Nat) (c : Cur) (n : Int) (c0 : Cur) (sz0 : Int) (se0 : ZR) (co0 : ZI) (c2 : Cur) (sz1 : Int) (set1 : ZR) (cost1 : ZI) (sz2 : Int) (se : ZR) (co : ZI) : Nat := 9 - se.length
abbrev J1V (u : Value) (code : List Nat) (c : Cur) (n : Int) (c0 : Cur) (sz0 : Int) (se0 : ZR) (co0 : ZI) : Prop := (0 ≤ n ∧ n ≤ 8) ∧ (okC c0 1000010) ∧ (0 ≤ sz0 ∧ sz0 ≤ 8) ∧ (se0 = []) ∧ (co0 = [])
abbrev Jb (code : List Nat) (c : Cur) (Z : Int) (S : ZR) (K : ZI) (cz : Cur) : Prop := (okC cz 1001000)
def J2G (code : List Nat) (c : Cur) : Ex := ex4 1 (fun (Z : Int) (S : ZR) (K : ZI) (cz : Cur) => Jb code c Z S K cz) (fun (Z : Int) (S : ZR) (K : ZI) (cz : Cur) => [.int .i64 cz.pos, .int .u64 cz.seed]) (fun (Z : Int) (S : ZR) (K : ZI) (cz : Cur) => .one (.d (.agg [.int .i64 Z, .sl (.rows S), .sl (.ints K)])))
def J7Q (f : FuncId) (ds : List D) : Orc := .no
def J7q (u : Value) (code : List Nat) (c : Cur) : Ann := .two (.none) (.cut (.mark [] [(2, .cell [.int .i64 ((J0 code c (([5, 4, 6, 3, 8, 2, 1, 0]).length : Int)).pos), .int .u64 ((J0 code c (([5, 4, 6, 3, 8, 2, 1, 0]).length : Int)).seed)] (.one (.d (.int .i64 (([5, 4, 6, 3, 8, 2, 1, 0]).getD (J4 code c (([5, 4, 6, 3, 8, 2, 1, 0]).length : Int)).toNat 0))))), (6, .cell [.int .i64 ((J0 code (J0 code c (([5, 4, 6, 3, 8, 2, 1, 0]).length : Int)) (([4, 5, 3, 6, 8, 2, 1, 0]).length : Int)).pos), .int .u64 ((J0 code (J0 code c (([5, 4, 6, 3, 8, 2, 1, 0]).length : Int)) (([4, 5, 3, 6, 8, 2, 1, 0]).length : Int)).seed)] (.one (.d (.int .i64 (([4, 5, 3, 6, 8, 2, 1, 0]).getD (J4 code (J0 code c (([5, 4, 6, 3, 8, 2, 1, 0]).length : Int)) (([4, 5, 3, 6, 8, 2, 1, 0]).length : Int)).toNat 0)))))]) (cut5 (fun (n : Int) (c0 : Cur) (sz0 : Int) (se0 : ZR) (co0 : ZI) => J1V u code c n c0 sz0 se0 co0) (fun (n : Int) (c0 : Cur) (sz0 : Int) (se0 : ZR) (co0 : ZI) => [(0, .ptr 0 0), (2, .ptr 2 0), (3, .ptr 3 0), (4, .d true (.int .i64 n))]) (fun (n : Int) (c0 : Cur) (sz0 : Int) (se0 : ZR) (co0 : ZI) => [(0, .box 76 [.d false (.lit u (.sl (.bytes code))), .d true (.int .i64 c0.pos), .d true (.int .u64 c0.seed)]), (2, .box 64 [.d true (.int .i64 0), .d true (.nil), .d true (.nil)]), (1500103, .mat 3 24 se0 none), (1500104, .arr true 3 (.ints co0)), (3, .box 64 [.d true (.int .i64 sz0), .own 1500103 se0.length, .own 1500104 co0.length])])) (fun g => (fun (n : Int) (c0 : Cur) (sz0 : Int) (se0 : ZR) (co0 : ZI) => .cut (.two (.none) (.loop (cut5 (fun (i : Int) (c1 : Cur) (sz : Int) (sets : ZR) (costs : ZI) => J0V u code c n c0 sz0 se0 co0 i c1 sz sets costs) (fun (i : Int) (c1 : Cur) (sz : Int) (sets : ZR) (costs : ZI) => [(0, .ptr 0 0), (2, .ptr 2 0), (3, .ptr 3 0), (4, .d true (.int .i64 n)), (5, .d true (.int .i64 i))]) (fun (i : Int) (c1 : Cur) (sz : Int) (sets : ZR) (costs : ZI) => [(0, .box 76 [.d false (.lit u (.sl (.bytes code))), .d true (.int .i64 c1.pos), .d true (.int .u64 c1.seed)]), (2, .box 64 [.d true (.int .i64 0), .d true (.nil), .d true (.nil)]), (1000003, .mat 3 24 sets none), (1000004, .arr true 3 (.ints costs)), (3, .box 64 [.d true (.int .i64 sz), .own 1000003 sets.length, .own 1000004 costs.length])])) (fun g => J0W u code c n c0 sz0 se0 co0 g.1 g.2.1 g.2.2.1 g.2.2.2.1 g.2.2.2.2) (fun g => (fun (i : Int) (c1 : Cur) (sz : Int) (sets : ZR) (costs : ZI) => .two (.none) (.two (.two (.reg [(13, .call none (.one (.own 3 (.ints (members (fun k => (((J4 code c1 256).toNat &&& (((J4 code (J0 code c1 256) 256).toNat ||| ((([0, 255]).getD (J4 code (J0 code (J0 code c1 256) 256) (([0, 255]).length : Int)).toNat 0) : Int).toNat : Nat) : Int).toNat : Nat) : Int).toNat.testBit k) sz.toNat))))), (5, .cell [.int .i64 ((J0 code c1 256).pos), .int .u64 ((J0 code c1 256).seed)] (.one (.d (.int .i64 (J4 code c1 256))))), (7, .cell [.int .i64 ((J0 code (J0 code c1 256) 256).pos), .int .u64 ((J0 code (J0 code c1 256) 256).seed)] (.one (.d (.int .i64 (J4 code (J0 code c1 256) 256))))), (10, .cell [.int .i64 ((J0 code (J0 code (J0 code c1 256) 256) (([0, 255]).length : Int)).pos), .int .u64 ((J0 code (J0 code (J0 code c1 256) 256) (([0, 255]).length : Int)).seed)] (.one (.d (.int .i64 (([0, 255]).getD (J4 code (J0 code (J0 code c1 256) 256) (([0, 255]).length : Int)).toNat 0)))))]) (.reg [(4, .cell [.int .i64 ((J0 code (J0 code (J0 code (J0 code c1 256) 256) (([0, 255]).length : Int)) (([1, 1, 2, 3, 5, 8]).length : Int)).pos), .int .u64 ((J0 code (J0 code (J0 code (J0 code c1 256) 256) (([0, 255]).length : Int)) (([1, 1, 2, 3, 5, 8]).length : Int)).seed)] (.one (.d (.int .i64 (([1, 1, 2, 3, 5, 8]).getD (J4 code (J0 code (J0 code (J0 code c1 256) 256) (([0, 255]).length : Int)) (([1, 1, 2, 3, 5, 8]).length : Int)).toNat 0)))))])) (.none))) (g.1) (g.2.1) (g.2.2.1) (g.2.2.2.1) (g.2.2.2.2)))) (cut4 (fun (c2 : Cur) (sz1 : Int) (set1 : ZR) (cost1 : ZI) => J1R u code c n c0 sz0 se0 co0 c2 sz1 set1 cost1) (fun (c2 : Cur) (sz1 : Int) (set1 : ZR) (cost1 : ZI) => [(0, .ptr 0 0), (2, .ptr 2 0), (3, .ptr 3 0), (4, .d true (.int .i64 n))]) (fun (c2 : Cur) (sz1 : Int) (set1 : ZR) (cost1 : ZI) => [(0, .box 76 [.d false (.lit u (.sl (.bytes code))), .d true (.int .i64 c2.pos), .d true (.int .u64 c2.seed)]), (2, .box 64 [.d true (.int .i64 0), .d true (.nil), .d true (.nil)]), (1000052, .mat 3 24 set1 none), (1000053, .arr true 3 (.ints cost1)), (3, .box 64 [.d true (.int .i64 sz1), .own 1000052 set1.length, .own 1000053 cost1.length])])) (fun g => (fun (c2 : Cur) (sz1 : Int) (set1 : ZR) (cost1 : ZI) => .two (.two (.none) (.two (.two (.mark [] [(2, .cell [.int .i64 ((J0 code c2 n).pos), .int .u64 ((J0 code c2 n).seed)] (.one (.d (.int .i64 (J4 code c2 n)))))]) (.two (.mark [] [(1, .cell [.int .i64 ((J0 code (J0 code c2 n) 40).pos), .int .u64 ((J0 code (J0 code c2 n) 40).seed)] (.one (.d (.int .i64 (J4 code (J0 code c2 n) 40)))))]) (.two (.none) (.two (.mark [] [(2, .cell [.int .i64 ((J0 code (J0 code (J0 code c2 n) 40) (([(-1), 8, 9, 4611686018427387904]).length : Int)).pos), .int .u64 ((J0 code (J0 code (J0 code c2 n) 40) (([(-1), 8, 9, 4611686018427387904]).length : Int)).seed)] (.one (.d (.int .i64 (([(-1), 8, 9, 4611686018427387904]).getD (J4 code (J0 code (J0 code c2 n) 40) (([(-1), 8, 9, 4611686018427387904]).length : Int)).toNat 0)))))]) (.two (.none) (.two (.reg [(7, .take), (12, .cell [.int .i64 ((J0 code (J0 code (J0 code c2 n) 40) (([(-1), 0, sz1]).length : Int)).pos), .int .u64 ((J0 code (J0 code (J0 code c2 n) 40) (([(-1), 0, sz1]).length : Int)).seed)] (.one (.d (.int .i64 (([(-1), 0, sz1]).getD (J4 code (J0 code (J0 code c2 n) 40) (([(-1), 0, sz1]).length : Int)).toNat 0)))))]) (.two (.none) (.two (.reg [(5, .cell [.int .i64 ((J0 code (J0 code (J0 code c2 n) 40) (([0, (-1), 99, 100]).length : Int)).pos), .int .u64 ((J0 code (J0 code (J0 code c2 n) 40) (([0, (-1), 99, 100]).length : Int)).seed)] (.one (.d (.int .i64 (([0, (-1), 99, 100]).getD (J4 code (J0 code (J0 code c2 n) 40) (([0, (-1), 99, 100]).length : Int)).toNat 0)))))]) (.two (.none) (.two (.none) (.two (.none) (.two (.loop (cut3 (fun (sz2 : Int) (se : ZR) (co : ZI) => J0U u code c n c0 sz0 se0 co0 c2 sz1 set1 cost1 sz2 se co) (fun (sz2 : Int) (se : ZR) (co : ZI) => [(0, .ptr 0 0), (2, .ptr 2 0), (3, .ptr 3 0)]) (fun (sz2 : Int) (se : ZR) (co : ZI) => [(0, .box 76 [.d false (.lit u (.sl (.bytes code))), .d true (.int .i64 ((J0 code (J0 code c2 n) 40).pos)), .d true (.int .u64 ((J0 code (J0 code c2 n) 40).seed))]), (2, .box 64 [.d true (.int .i64 0), .d true (.nil), .d true (.nil)]), (1000101, .mat 3 24 se none), (1000102, .arr true 3 (.ints co)), (3, .box 64 [.d true (.int .i64 sz2), .own 1000101 se.length, .own 1000102 co.length])])) (fun g => J11 u code c n c0 sz0 se0 co0 c2 sz1 set1 cost1 g.1 g.2.1 g.2.2) (fun _ => .none)) (.none))))))))))))) (.none))) (.none)) (g.1) (g.2.1) (g.2.2.1) (g.2.2.2))) (g.1) (g.2.1) (g.2.2.1) (g.2.2.2.1) (g.2.2.2.2)))
set_option maxRecDepth 100000 in
def J2H (u : Value) (code : List Nat) (c : Cur) : Prop :=
  ((((8 : Nat) = 8) ∧ (PK Tryz.prog 155 76 (.sl (.bytes code)) [.int .i64 c.pos, .int .u64 c.seed] [.int .i64 ((J0 code c (([5, 4, 6, 3, 8, 2, 1, 0]).length : Int)).pos), .int .u64 ((J0 code c (([5, 4, 6, 3, 8, 2, 1, 0]).length : Int)).seed)] [.sl (.ints ([5, 4, 6, 3, 8, 2, 1, 0]))] (.one (.d (.int .i64 (([5, 4, 6, 3, 8, 2, 1, 0]).getD (J4 code c (([5, 4, 6, 3, 8, 2, 1, 0]).length : Int)).toNat 0))))) ∧ ((8 : Nat) = 8) ∧ (PK Tryz.prog 155 76 (.sl (.bytes code)) [.int .i64 ((J0 code c (([5, 4, 6, 3, 8, 2, 1, 0]).length : Int)).pos), .int .u64 ((J0 code c (([5, 4, 6, 3, 8, 2, 1, 0]).length : Int)).seed)] [.int .i64 ((J0 code (J0 code c (([5, 4, 6, 3, 8, 2, 1, 0]).length : Int)) (([4, 5, 3, 6, 8, 2, 1, 0]).length : Int)).pos), .int .u64 ((J0 code (J0 code c (([5, 4, 6, 3, 8, 2, 1, 0]).length : Int)) (([4, 5, 3, 6, 8, 2, 1, 0]).length : Int)).seed)] [.sl (.ints ([4, 5, 3, 6, 8, 2, 1, 0]))] (.one (.d (.int .i64 (([4, 5, 3, 6, 8, 2, 1, 0]).getD (J4 code (J0 code c (([5, 4, 6, 3, 8, 2, 1, 0]).length : Int)) (([4, 5, 3, 6, 8, 2, 1, 0]).length : Int)).toNat 0))))) ∧ (∃ n' : Int, ∃ c0' : Cur, ∃ sz0' : Int, ∃ se0' : ZR, ∃ co0' : ZI, (J1V u code c n' c0' sz0' se0' co0') ∧ ((([4, 5, 3, 6, 8, 2, 1, 0]).getD (J4 code (J0 code c (([5, 4, 6, 3, 8, 2, 1, 0]).length : Int)) (([4, 5, 3, 6, 8, 2, 1, 0]).length : Int)).toNat 0) = n') ∧ ((.lit u (.sl (.bytes code)) : D) = .lit u (.sl (.bytes code))) ∧ ((J0 code (J0 code c (([5, 4, 6, 3, 8, 2, 1, 0]).length : Int)) (([4, 5, 3, 6, 8, 2, 1, 0]).length : Int)).pos = c0'.pos) ∧ ((J0 code (J0 code c (([5, 4, 6, 3, 8, 2, 1, 0]).length : Int)) (([4, 5, 3, 6, 8, 2, 1, 0]).length : Int)).seed = c0'.seed) ∧ ((0 : Int) = 0) ∧ ((se0').length = 0) ∧ ((co0').length = 0) ∧ ((([5, 4, 6, 3, 8, 2, 1, 0]).getD (J4 code c (([5, 4, 6, 3, 8, 2, 1, 0]).length : Int)).toNat 0) = sz0') ∧ ((0 : Nat) = se0'.length) ∧ ((0 : Nat) = co0'.length))) ∧ (∀ n : Int, ∀ c0 : Cur, ∀ sz0 : Int, ∀ se0 : ZR, ∀ co0 : ZI, (J1V u code c n c0 sz0 se0 co0) → ((((∃ i' : Int, ∃ c1' : Cur, ∃ sz' : Int, ∃ sets' : ZR, ∃ costs' : ZI, (J0V u code c n c0 sz0 se0 co0 i' c1' sz' sets' costs') ∧ (n = n) ∧ ((0 : Int) = i') ∧ ((.lit u (.sl (.bytes code)) : D) = .lit u (.sl (.bytes code))) ∧ (c0.pos = c1'.pos) ∧ (c0.seed = c1'.seed) ∧ ((0 : Int) = 0) ∧ (se0 = sets') ∧ (co0 = costs') ∧ (sz0 = sz') ∧ (se0.length = sets'.length) ∧ (co0.length = costs'.length)) ∧ (∀ i : Int, ∀ c1 : Cur, ∀ sz : Int, ∀ sets : ZR, ∀ costs : ZI, (J0V u code c n c0 sz0 se0 co0 i c1 sz sets costs) → (((decide (i < n)) = true → (true = true) ∧ (PK Tryz.prog 156 76 (.sl (.bytes code)) [.int .i64 c1.pos, .int .u64 c1.seed] [.int .i64 ((J0 code c1 256).pos), .int .u64 ((J0 code c1 256).seed)] [.int .i64 256] (.one (.d (.int .i64 (J4 code c1 256))))) ∧ (PK Tryz.prog 156 76 (.sl (.bytes code)) [.int .i64 ((J0 code c1 256).pos), .int .u64 ((J0 code c1 256).seed)] [.int .i64 ((J0 code (J0 code c1 256) 256).pos), .int .u64 ((J0 code (J0 code c1 256) 256).seed)] [.int .i64 256] (.one (.d (.int .i64 (J4 code (J0 code c1 256) 256))))) ∧ ((2 : Nat) = 2) ∧ (PK Tryz.prog 155 76 (.sl (.bytes code)) [.int .i64 ((J0 code (J0 code c1 256) 256).pos), .int .u64 ((J0 code (J0 code c1 256) 256).seed)] [.int .i64 ((J0 code (J0 code (J0 code c1 256) 256) (([0, 255]).length : Int)).pos), .int .u64 ((J0 code (J0 code (J0 code c1 256) 256) (([0, 255]).length : Int)).seed)] [.sl (.ints ([0, 255]))] (.one (.d (.int .i64 (([0, 255]).getD (J4 code (J0 code (J0 code c1 256) 256) (([0, 255]).length : Int)).toNat 0))))) ∧ ((0 : Int) ≤ (J4 code (J0 code c1 256) 256) ∧ ((J4 code (J0 code c1 256) 256) : Int) ≤ 9223372036854775807) ∧ ((0 : Int) ≤ (([0, 255]).getD (J4 code (J0 code (J0 code c1 256) 256) (([0, 255]).length : Int)).toNat 0) ∧ ((([0, 255]).getD (J4 code (J0 code (J0 code c1 256) 256) (([0, 255]).length : Int)).toNat 0) : Int) ≤ 9223372036854775807) ∧ ((0 : Int) ≤ (J4 code c1 256) ∧ ((J4 code c1 256) : Int) ≤ 9223372036854775807) ∧ ((0 : Int) ≤ (((J4 code (J0 code c1 256) 256).toNat ||| ((([0, 255]).getD (J4 code (J0 code (J0 code c1 256) 256) (([0, 255]).length : Int)).toNat 0) : Int).toNat : Nat) : Int) ∧ ((((J4 code (J0 code c1 256) 256).toNat ||| ((([0, 255]).getD (J4 code (J0 code (J0 code c1 256) 256) (([0, 255]).length : Int)).toNat 0) : Int).toNat : Nat) : Int) : Int) ≤ 9223372036854775807) ∧ (PC Tryz.prog 142 [.int .i64 sz, .int .i64 (((J4 code c1 256).toNat &&& (((J4 code (J0 code c1 256) 256).toNat ||| ((([0, 255]).getD (J4 code (J0 code (J0 code c1 256) 256) (([0, 255]).length : Int)).toNat 0) : Int).toNat : Nat) : Int).toNat : Nat) : Int)] (.one (.own 3 (.ints (members (fun k => (((J4 code c1 256).toNat &&& (((J4 code (J0 code c1 256) 256).toNat ||| ((([0, 255]).getD (J4 code (J0 code (J0 code c1 256) 256) (([0, 255]).length : Int)).toNat 0) : Int).toNat : Nat) : Int).toNat : Nat) : Int).toNat.testBit k) sz.toNat))))) ∧ ((members (fun k => (((J4 code c1 256).toNat &&& (((J4 code (J0 code c1 256) 256).toNat ||| ((([0, 255]).getD (J4 code (J0 code (J0 code c1 256) 256) (([0, 255]).length : Int)).toNat 0) : Int).toNat : Nat) : Int).toNat : Nat) : Int).toNat.testBit k) sz.toNat).length = (members (fun k => (((J4 code c1 256).toNat &&& (((J4 code (J0 code c1 256) 256).toNat ||| ((([0, 255]).getD (J4 code (J0 code (J0 code c1 256) 256) (([0, 255]).length : Int)).toNat 0) : Int).toNat : Nat) : Int).toNat : Nat) : Int).toNat.testBit k) sz.toNat).length) ∧ (sets.length = sets.length) ∧ ((1 : Nat) = 1) ∧ (0 < 1) ∧ ((sets.length + 1) * 24 ≤ 140737488355328) ∧ (true = true) ∧ ((6 : Nat) = 6) ∧ (PK Tryz.prog 155 76 (.sl (.bytes code)) [.int .i64 ((J0 code (J0 code (J0 code c1 256) 256) (([0, 255]).length : Int)).pos), .int .u64 ((J0 code (J0 code (J0 code c1 256) 256) (([0, 255]).length : Int)).seed)] [.int .i64 ((J0 code (J0 code (J0 code (J0 code c1 256) 256) (([0, 255]).length : Int)) (([1, 1, 2, 3, 5, 8]).length : Int)).pos), .int .u64 ((J0 code (J0 code (J0 code (J0 code c1 256) 256) (([0, 255]).length : Int)) (([1, 1, 2, 3, 5, 8]).length : Int)).seed)] [.sl (.ints ([1, 1, 2, 3, 5, 8]))] (.one (.d (.int .i64 (([1, 1, 2, 3, 5, 8]).getD (J4 code (J0 code (J0 code (J0 code c1 256) 256) (([0, 255]).length : Int)) (([1, 1, 2, 3, 5, 8]).length : Int)).toNat 0))))) ∧ (costs.length = costs.length) ∧ ((1 : Nat) = 1) ∧ ((costs.length + 1) * 8 ≤ 140737488355328) ∧ (-9223372036854775808 ≤ (i + 1) ∧ (i + 1) ≤ 9223372036854775807) ∧ (∃ i' : Int, ∃ c1' : Cur, ∃ sz' : Int, ∃ sets' : ZR, ∃ costs' : ZI, (J0V u code c n c0 sz0 se0 co0 i' c1' sz' sets' costs') ∧ (J0W u code c n c0 sz0 se0 co0 i' c1' sz' sets' costs' < J0W u code c n c0 sz0 se0 co0 i c1 sz sets costs) ∧ (n = n) ∧ ((i + 1) = i') ∧ ((.lit u (.sl (.bytes code)) : D) = .lit u (.sl (.bytes code))) ∧ ((J0 code (J0 code (J0 code (J0 code c1 256) 256) (([0, 255]).length : Int)) (([1, 1, 2, 3, 5, 8]).length : Int)).pos = c1'.pos) ∧ ((J0 code (J0 code (J0 code (J0 code c1 256) 256) (([0, 255]).length : Int)) (([1, 1, 2, 3, 5, 8]).length : Int)).seed = c1'.seed) ∧ ((0 : Int) = 0) ∧ ((sets ++ [members (fun k => (((J4 code c1 256).toNat &&& (((J4 code (J0 code c1 256) 256).toNat ||| ((([0, 255]).getD (J4 code (J0 code (J0 code c1 256) 256) (([0, 255]).length : Int)).toNat 0) : Int).toNat : Nat) : Int).toNat : Nat) : Int).toNat.testBit k) sz.toNat]) = sets') ∧ ((costs ++ [(([1, 1, 2, 3, 5, 8]).getD (J4 code (J0 code (J0 code (J0 code c1 256) 256) (([0, 255]).length : Int)) (([1, 1, 2, 3, 5, 8]).length : Int)).toNat 0)]) = costs') ∧ (sz = sz') ∧ ((sets.length + 1) = sets'.length) ∧ ((costs.length + 1) = costs'.length))) ∧ ((decide (i < n)) = false → (∃ c2' : Cur, ∃ sz1' : Int, ∃ set1' : ZR, ∃ cost1' : ZI, (J1R u code c n c0 sz0 se0 co0 c2' sz1' set1' cost1') ∧ (n = n) ∧ ((.lit u (.sl (.bytes code)) : D) = .lit u (.sl (.bytes code))) ∧ (c1.pos = c2'.pos) ∧ (c1.seed = c2'.seed) ∧ ((0 : Int) = 0) ∧ (sets = set1') ∧ (costs = cost1') ∧ (sz = sz1') ∧ (sets.length = set1'.length) ∧ (costs.length = cost1'.length))))))) ∧ (∀ c2 : Cur, ∀ sz1 : Int, ∀ set1 : ZR, ∀ cost1 : ZI, (J1R u code c n c0 sz0 se0 co0 c2 sz1 set1 cost1) → (((decide (n > 0)) = true → (PK Tryz.prog 156 76 (.sl (.bytes code)) [.int .i64 c2.pos, .int .u64 c2.seed] [.int .i64 ((J0 code c2 n).pos), .int .u64 ((J0 code c2 n).seed)] [.int .i64 n] (.one (.d (.int .i64 (J4 code c2 n))))) ∧ (PK Tryz.prog 156 76 (.sl (.bytes code)) [.int .i64 ((J0 code c2 n).pos), .int .u64 ((J0 code c2 n).seed)] [.int .i64 ((J0 code (J0 code c2 n) 40).pos), .int .u64 ((J0 code (J0 code c2 n) 40).seed)] [.int .i64 40] (.one (.d (.int .i64 (J4 code (J0 code c2 n) 40))))) ∧ ((((J4 code (J0 code c2 n) 40) == 0) = true → ((4 : Nat) = 4) ∧ (PK Tryz.prog 155 76 (.sl (.bytes code)) [.int .i64 ((J0 code (J0 code c2 n) 40).pos), .int .u64 ((J0 code (J0 code c2 n) 40).seed)] [.int .i64 ((J0 code (J0 code (J0 code c2 n) 40) (([(-1), 8, 9, 4611686018427387904]).length : Int)).pos), .int .u64 ((J0 code (J0 code (J0 code c2 n) 40) (([(-1), 8, 9, 4611686018427387904]).length : Int)).seed)] [.sl (.ints ([(-1), 8, 9, 4611686018427387904]))] (.one (.d (.int .i64 (([(-1), 8, 9, 4611686018427387904]).getD (J4 code (J0 code (J0 code c2 n) 40) (([(-1), 8, 9, 4611686018427387904]).length : Int)).toNat 0))))) ∧ (∃ Z' : Int, ∃ S' : ZR, ∃ K' : ZI, ∃ cz' : Cur, (Jb code c Z' S' K' cz') ∧ (true = true) ∧ ((.lit u (.sl (.bytes code)) : D) = .lit u (.sl (.bytes code))) ∧ ((J0 code (J0 code (J0 code c2 n) 40) (([(-1), 8, 9, 4611686018427387904]).length : Int)).pos = cz'.pos) ∧ ((J0 code (J0 code (J0 code c2 n) 40) (([(-1), 8, 9, 4611686018427387904]).length : Int)).seed = cz'.seed) ∧ (set1.length = set1.length) ∧ (cost1.length = cost1.length) ∧ ((.agg [.int .i64 (([(-1), 8, 9, 4611686018427387904]).getD (J4 code (J0 code (J0 code c2 n) 40) (([(-1), 8, 9, 4611686018427387904]).length : Int)).toNat 0), .sl (.rows set1), .sl (.ints cost1)] : D) = .agg [.int .i64 Z', .sl (.rows S'), .sl (.ints K')]))) ∧ (((J4 code (J0 code c2 n) 40) == 0) = false → ((((J4 code (J0 code c2 n) 40) == 1) = true → (true = true) ∧ ((0 : Int) ≤ (J4 code c2 n)) ∧ (((J4 code c2 n) : Int) < (set1.length : Int)) ∧ ((J4 code c2 n).toNat < set1.length) ∧ ((3 : Nat) = 3) ∧ (PK Tryz.prog 155 76 (.sl (.bytes code)) [.int .i64 ((J0 code (J0 code c2 n) 40).pos), .int .u64 ((J0 code (J0 code c2 n) 40).seed)] [.int .i64 ((J0 code (J0 code (J0 code c2 n) 40) (([(-1), 0, sz1]).length : Int)).pos), .int .u64 ((J0 code (J0 code (J0 code c2 n) 40) (([(-1), 0, sz1]).length : Int)).seed)] [.sl (.ints ([(-1), 0, sz1]))] (.one (.d (.int .i64 (([(-1), 0, sz1]).getD (J4 code (J0 code (J0 code c2 n) 40) (([(-1), 0, sz1]).length : Int)).toNat 0))))) ∧ ((set1.getD ((J4 code c2 n).toNat) []).length = (set1.getD ((J4 code c2 n).toNat) []).length) ∧ ((1 : Nat) = 1) ∧ (((set1.getD ((J4 code c2 n).toNat) []).length + 1) * 8 ≤ 140737488355328) ∧ ((0 : Int) ≤ (J4 code c2 n)) ∧ (((J4 code c2 n) : Int) < (set1.length : Int)) ∧ ((J4 code c2 n).toNat = (J4 code c2 n).toNat) ∧ ((J4 code c2 n).toNat < set1.length) ∧ (((set1.getD ((J4 code c2 n).toNat) []).length + 1) = ((set1.getD ((J4 code c2 n).toNat) []) ++ [(([(-1), 0, sz1]).getD (J4 code (J0 code (J0 code c2 n) 40) (([(-1), 0, sz1]).length : Int)).toNat 0)]).length) ∧ (∃ Z' : Int, ∃ S' : ZR, ∃ K' : ZI, ∃ cz' : Cur, (Jb code c Z' S' K' cz') ∧ (true = true) ∧ ((.lit u (.sl (.bytes code)) : D) = .lit u (.sl (.bytes code))) ∧ ((J0 code (J0 code (J0 code c2 n) 40) (([(-1), 0, sz1]).length : Int)).pos = cz'.pos) ∧ ((J0 code (J0 code (J0 code c2 n) 40) (([(-1), 0, sz1]).length : Int)).seed = cz'.seed) ∧ (set1.length = (set1.set ((J4 code c2 n).toNat) ((set1.getD ((J4 code c2 n).toNat) []) ++ [(([(-1), 0, sz1]).getD (J4 code (J0 code (J0 code c2 n) 40) (([(-1), 0, sz1]).length : Int)).toNat 0)])).length) ∧ (cost1.length = cost1.length) ∧ ((.agg [.int .i64 sz1, .sl (.rows (set1.set ((J4 code c2 n).toNat) ((set1.getD ((J4 code c2 n).toNat) []) ++ [(([(-1), 0, sz1]).getD (J4 code (J0 code (J0 code c2 n) 40) (([(-1), 0, sz1]).length : Int)).toNat 0)]))), .sl (.ints cost1)] : D) = .agg [.int .i64 Z', .sl (.rows S'), .sl (.ints K')]))) ∧ (((J4 code (J0 code c2 n) 40) == 1) = false → ((((J4 code (J0 code c2 n) 40) == 2) = true → (true = true) ∧ ((4 : Nat) = 4) ∧ (PK Tryz.prog 155 76 (.sl (.bytes code)) [.int .i64 ((J0 code (J0 code c2 n) 40).pos), .int .u64 ((J0 code (J0 code c2 n) 40).seed)] [.int .i64 ((J0 code (J0 code (J0 code c2 n) 40) (([0, (-1), 99, 100]).length : Int)).pos), .int .u64 ((J0 code (J0 code (J0 code c2 n) 40) (([0, (-1), 99, 100]).length : Int)).seed)] [.sl (.ints ([0, (-1), 99, 100]))] (.one (.d (.int .i64 (([0, (-1), 99, 100]).getD (J4 code (J0 code (J0 code c2 n) 40) (([0, (-1), 99, 100]).length : Int)).toNat 0))))) ∧ ((0 : Int) ≤ (J4 code c2 n)) ∧ (((J4 code c2 n) : Int) < (cost1.length : Int)) ∧ ((J4 code c2 n).toNat < cost1.length) ∧ (∃ Z' : Int, ∃ S' : ZR, ∃ K' : ZI, ∃ cz' : Cur, (Jb code c Z' S' K' cz') ∧ (true = true) ∧ ((.lit u (.sl (.bytes code)) : D) = .lit u (.sl (.bytes code))) ∧ ((J0 code (J0 code (J0 code c2 n) 40) (([0, (-1), 99, 100]).length : Int)).pos = cz'.pos) ∧ ((J0 code (J0 code (J0 code c2 n) 40) (([0, (-1), 99, 100]).length : Int)).seed = cz'.seed) ∧ (set1.length = set1.length) ∧ (cost1.length = (cost1.set ((J4 code c2 n).toNat) (([0, (-1), 99, 100]).getD (J4 code (J0 code (J0 code c2 n) 40) (([0, (-1), 99, 100]).length : Int)).toNat 0)).length) ∧ ((.agg [.int .i64 sz1, .sl (.rows set1), .sl (.ints (cost1.set ((J4 code c2 n).toNat) (([0, (-1), 99, 100]).getD (J4 code (J0 code (J0 code c2 n) 40) (([0, (-1), 99, 100]).length : Int)).toNat 0)))] : D) = .agg [.int .i64 Z', .sl (.rows S'), .sl (.ints K')]))) ∧ (((J4 code (J0 code c2 n) 40) == 2) = false → ((((J4 code (J0 code c2 n) 40) == 3) = true → (cost1.length = cost1.length) ∧ ((1 : Nat) = 1) ∧ ((cost1.length + 1) * 8 ≤ 140737488355328) ∧ (∃ Z' : Int, ∃ S' : ZR, ∃ K' : ZI, ∃ cz' : Cur, (Jb code c Z' S' K' cz') ∧ (true = true) ∧ ((.lit u (.sl (.bytes code)) : D) = .lit u (.sl (.bytes code))) ∧ ((J0 code (J0 code c2 n) 40).pos = cz'.pos) ∧ ((J0 code (J0 code c2 n) 40).seed = cz'.seed) ∧ (set1.length = set1.length) ∧ ((cost1.length + 1) = (cost1 ++ [1]).length) ∧ ((.agg [.int .i64 sz1, .sl (.rows set1), .sl (.ints (cost1 ++ [1]))] : D) = .agg [.int .i64 Z', .sl (.rows S'), .sl (.ints K')]))) ∧ (((J4 code (J0 code c2 n) 40) == 3) = false → ((((J4 code (J0 code c2 n) 40) == 4) = true → ((∃ sz2' : Int, ∃ se' : ZR, ∃ co' : ZI, (J0U u code c n c0 sz0 se0 co0 c2 sz1 set1 cost1 sz2' se' co') ∧ ((.lit u (.sl (.bytes code)) : D) = .lit u (.sl (.bytes code))) ∧ ((J0 code (J0 code c2 n) 40).pos = (J0 code (J0 code c2 n) 40).pos) ∧ ((J0 code (J0 code c2 n) 40).seed = (J0 code (J0 code c2 n) 40).seed) ∧ ((0 : Int) = 0) ∧ (set1 = se') ∧ (cost1 = co') ∧ (sz1 = sz2') ∧ (set1.length = se'.length) ∧ (cost1.length = co'.length)) ∧ (∀ sz2 : Int, ∀ se : ZR, ∀ co : ZI, (J0U u code c n c0 sz0 se0 co0 c2 sz1 set1 cost1 sz2 se co) → (((decide ((se.length : Int) < 9)) = true → ((0 : Nat) = 0) ∧ (se.length = se.length) ∧ ((1 : Nat) = 1) ∧ (0 < 1) ∧ ((se.length + 1) * 24 ≤ 140737488355328) ∧ (co.length = co.length) ∧ ((1 : Nat) = 1) ∧ ((co.length + 1) * 8 ≤ 140737488355328) ∧ (∃ sz2' : Int, ∃ se' : ZR, ∃ co' : ZI, (J0U u code c n c0 sz0 se0 co0 c2 sz1 set1 cost1 sz2' se' co') ∧ (J11 u code c n c0 sz0 se0 co0 c2 sz1 set1 cost1 sz2' se' co' < J11 u code c n c0 sz0 se0 co0 c2 sz1 set1 cost1 sz2 se co) ∧ ((.lit u (.sl (.bytes code)) : D) = .lit u (.sl (.bytes code))) ∧ ((J0 code (J0 code c2 n) 40).pos = (J0 code (J0 code c2 n) 40).pos) ∧ ((J0 code (J0 code c2 n) 40).seed = (J0 code (J0 code c2 n) 40).seed) ∧ ((0 : Int) = 0) ∧ ((se ++ [[]]) = se') ∧ ((co ++ [1]) = co') ∧ (sz2 = sz2') ∧ ((se.length + 1) = se'.length) ∧ ((co.length + 1) = co'.length))) ∧ ((decide ((se.length : Int) < 9)) = false → (∃ Z' : Int, ∃ S' : ZR, ∃ K' : ZI, ∃ cz' : Cur, (Jb code c Z' S' K' cz') ∧ (true = true) ∧ ((.lit u (.sl (.bytes code)) : D) = .lit u (.sl (.bytes code))) ∧ ((J0 code (J0 code c2 n) 40).pos = cz'.pos) ∧ ((J0 code (J0 code c2 n) 40).seed = cz'.seed) ∧ (se.length = se.length) ∧ (co.length = co.length) ∧ ((.agg [.int .i64 sz2, .sl (.rows se), .sl (.ints co)] : D) = .agg [.int .i64 Z', .sl (.rows S'), .sl (.ints K')]))))))) ∧ (((J4 code (J0 code c2 n) 40) == 4) = false → (∃ Z' : Int, ∃ S' : ZR, ∃ K' : ZI, ∃ cz' : Cur, (Jb code c Z' S' K' cz') ∧ (true = true) ∧ ((.lit u (.sl (.bytes code)) : D) = .lit u (.sl (.bytes code))) ∧ ((J0 code (J0 code c2 n) 40).pos = cz'.pos) ∧ ((J0 code (J0 code c2 n) 40).seed = cz'.seed) ∧ (set1.length = set1.length) ∧ (cost1.length = cost1.length) ∧ ((.agg [.int .i64 sz1, .sl (.rows set1), .sl (.ints cost1)] : D) = .agg [.int .i64 Z', .sl (.rows S'), .sl (.ints K')]))))))))))))) ∧ ((decide (n > 0)) = false → (∃ Z' : Int, ∃ S' : ZR, ∃ K' : ZI, ∃ cz' : Cur, (Jb code c Z' S' K' cz') ∧ (true = true) ∧ ((.lit u (.sl (.bytes code)) : D) = .lit u (.sl (.bytes code))) ∧ (c2.pos = cz'.pos) ∧ (c2.seed = cz'.seed) ∧ (set1.length = set1.length) ∧ (cost1.length = cost1.length) ∧ ((.agg [.int .i64 sz1, .sl (.rows set1), .sl (.ints cost1)] : D) = .agg [.int .i64 Z', .sl (.rows S'), .sl (.ints K')]))))))))
set_option maxRecDepth 100000 in
theorem J6N (u : Value) (code : List Nat) (c : Cur) (hb : ∀ x9 ∈ code, x9 < 256) (hc : okC c 1000000)  : J2H u code c := by
  unfold J2H
  refine ⟨?_, ?_⟩
  ·refine ⟨rfl, ?_, rfl, ?_, ?_⟩
   ·refine Jg code c ([5, 4, 6, 3, 8, 2, 1, 0]) ?_ ?_ ?_
    ·exact hb
    ·exact J5 (by assumption) (by omega)
    ·(simp_all; done)
   ·refine Jg code (J0 code c (([5, 4, 6, 3, 8, 2, 1, 0]).length : Int)) ([4, 5, 3, 6, 8, 2, 1, 0]) ?_ ?_ ?_
    ·exact hb
    ·exact J5 (J6 (by assumption)) (by omega)
    ·(simp_all; done)
   ·refine ⟨(([4, 5, 3, 6, 8, 2, 1, 0]).getD (J4 code (J0 code c (([5, 4, 6, 3, 8, 2, 1, 0]).length : Int)) (([4, 5, 3, 6, 8, 2, 1, 0]).length : Int)).toNat 0), (J0 code (J0 code c (([5, 4, 6, 3, 8, 2, 1, 0]).length : Int)) (([4, 5, 3, 6, 8, 2, 1, 0]).length : Int)), (([5, 4, 6, 3, 8, 2, 1, 0]).getD (J4 code c (([5, 4, 6, 3, 8, 2, 1, 0]).length : Int)).toNat 0), ([]), ([]), ?_⟩
    refine ⟨?_, rfl, rfl, rfl, rfl, rfl, ?_, ?_, rfl, rfl, rfl⟩
    ·refine ⟨?_, ?_, ?_, ?_, ?_⟩
     ·exact J1u (p := fun z => 0 ≤ z ∧ z ≤ 8) [4, 5, 3, 6, 8, 2, 1, 0] code _ (by simp) (by simp)
     ·exact J5 (J6 (J6 (by assumption))) (by omega)
     ·exact J1u (p := fun z => 0 ≤ z ∧ z ≤ 8) [5, 4, 6, 3, 8, 2, 1, 0] code _ (by simp) (by simp)
     ·rfl
     ·rfl
    ·rfl
    rfl
  intro n c0 sz0 se0 co0 hJ
  obtain ⟨n0, n1, n2, n3, n4⟩ := hJ
  refine ⟨?_, ?_⟩
  ·refine ⟨?_, ?_⟩
   ·refine ⟨0, c0, sz0, se0, co0, ?_⟩
    refine ⟨?_, rfl, rfl, rfl, rfl, rfl, rfl, rfl, rfl, rfl, rfl, rfl⟩
    ·refine ⟨?_, ?_, ?_, ?_, ?_, ?_, ?_⟩
     ·omega
     ·omega
     ·omega
     ·simp [n3, n4]
     ·simp [n3, n4]
     ·exact J5 (by assumption) (by omega)
     ·rw [n3]; intro r hr; cases hr
   ·intro i c1 sz sets costs hJ
    obtain ⟨h0, h1, h2, h3, h4, h5, h6⟩ := hJ
    refine ⟨?_, ?_⟩
    ·intro b1
     try simp only [nrmT] at b1
     refine ⟨rfl, ?_, ?_, rfl, ?_, ?_, ?_, ?_, ?_, ?_, rfl, rfl, rfl, by decide, ?_, rfl, rfl, ?_, rfl, rfl, ?_, ?_, ?_⟩
     ·refine Jm code c1 256 ?_ ?_
      ·exact hb
      ·exact J5 (by assumption) (by omega)
     ·refine Jm code (J0 code c1 256) 256 ?_ ?_
      ·exact hb
      ·exact J5 (J6 (by assumption)) (by omega)
     ·refine Jg code (J0 code (J0 code c1 256) 256) ([0, 255]) ?_ ?_ ?_
      ·exact hb
      ·exact J5 (J6 (J6 (by assumption))) (by omega)
      ·(simp_all; done)
     ·have v1 := Jf code c1 (n := 256) (by omega)
      have v2 := Jf code (J0 code c1 256) (n := 256) (by omega)
      have v3 := J1u (p := fun z => 0 ≤ z ∧ z ≤ 255) [0, 255] code (J0 code (J0 code c1 256) 256) (by simp) (by simp)
      omega
     ·have v1 := Jf code c1 (n := 256) (by omega)
      have v2 := Jf code (J0 code c1 256) (n := 256) (by omega)
      have v3 := J1u (p := fun z => 0 ≤ z ∧ z ≤ 255) [0, 255] code (J0 code (J0 code c1 256) 256) (by simp) (by simp)
      omega
     ·have v1 := Jf code c1 (n := 256) (by omega)
      have v2 := Jf code (J0 code c1 256) (n := 256) (by omega)
      have v3 := J1u (p := fun z => 0 ≤ z ∧ z ≤ 255) [0, 255] code (J0 code (J0 code c1 256) 256) (by simp) (by simp)
      omega
     ·have v1 := Jf code c1 (n := 256) (by omega)
      have v2 := Jf code (J0 code c1 256) (n := 256) (by omega)
      have v3 := J1u (p := fun z => 0 ≤ z ∧ z ≤ 255) [0, 255] code (J0 code (J0 code c1 256) 256) (by simp) (by simp)
      have v4 := JdY v2 v3
      omega
     ·refine J8w sz (((J4 code c1 256).toNat &&& (((J4 code (J0 code c1 256) 256).toNat ||| ((([0, 255]).getD (J4 code (J0 code (J0 code c1 256) 256) (([0, 255]).length : Int)).toNat 0) : Int).toNat : Nat) : Int).toNat : Nat) : Int) ?_ ?_
      ·omega
      ·have v1 := Jf code c1 (n := 256) (by omega)
       have v2 := Jf code (J0 code c1 256) (n := 256) (by omega)
       have v3 := J1u (p := fun z => 0 ≤ z ∧ z ≤ 255) [0, 255] code (J0 code (J0 code c1 256) 256) (by simp) (by simp)
       have v4 := JdS (n := (((J4 code (J0 code c1 256) 256).toNat ||| (([0, 255] : ZI).getD (J4 code (J0 code (J0 code c1 256) 256) (([0, 255] : ZI).length : Int)).toNat 0).toNat : Nat) : Int).toNat) v1
       omega
     ·omega
     ·refine Jg code (J0 code (J0 code (J0 code c1 256) 256) (([0, 255]).length : Int)) ([1, 1, 2, 3, 5, 8]) ?_ ?_ ?_
      ·exact hb
      ·exact J5 (by repeat (first | assumption | apply J6 | apply JR)) (by omega)
      ·(simp_all; done)
     ·omega
     ·omega
     refine ⟨(i + 1), (J0 code (J0 code (J0 code (J0 code c1 256) 256) (([0, 255]).length : Int)) (([1, 1, 2, 3, 5, 8]).length : Int)), sz, (sets ++ [members (fun k => (((J4 code c1 256).toNat &&& (((J4 code (J0 code c1 256) 256).toNat ||| ((([0, 255]).getD (J4 code (J0 code (J0 code c1 256) 256) (([0, 255]).length : Int)).toNat 0) : Int).toNat : Nat) : Int).toNat : Nat) : Int).toNat.testBit k) sz.toNat]), (costs ++ [(([1, 1, 2, 3, 5, 8]).getD (J4 code (J0 code (J0 code (J0 code c1 256) 256) (([0, 255]).length : Int)) (([1, 1, 2, 3, 5, 8]).length : Int)).toNat 0)]), ?_⟩
     refine ⟨?_, ?_, rfl, rfl, rfl, rfl, rfl, rfl, rfl, rfl, rfl, ?_, ?_⟩
     ·refine ⟨?_, ?_, ?_, ?_, ?_, ?_, ?_⟩
      ·omega
      ·omega
      ·omega
      ·simp; try omega
      ·simp; try omega
      ·exact J5 (by repeat (first | assumption | apply J6 | apply JR)) (by omega)
      ·refine JcM h6 ?_
       have h := members_len_le (fun k => (((J4 code c1 256).toNat &&& (((J4 code (J0 code c1 256) 256).toNat ||| (([0, 255] : ZI).getD (J4 code (J0 code (J0 code c1 256) 256) (([0, 255] : ZI).length : Int)).toNat 0).toNat : Nat) : Int).toNat : Nat) : Int).toNat.testBit k) sz.toNat
       refine Nat.le_trans h ?_
       omega
     ·(simp only [J0W]; omega)
     ·simp; try omega
     simp; try omega
    intro b2
    try simp only [nrmT] at b2
    refine ⟨c1, sz, sets, costs, ?_⟩
    refine ⟨?_, rfl, rfl, rfl, rfl, rfl, rfl, rfl, rfl, rfl, rfl⟩
    ·refine ⟨?_, ?_, ?_, ?_⟩
     ·exact J5 (by assumption) (by omega)
     ·omega
     ·omega
     ·assumption
  intro c2 sz1 set1 cost1 hJ
  obtain ⟨k0, k1, k2, k4⟩ := hJ
  refine ⟨?_, ?_⟩
  ·intro b3
   try simp only [nrmT] at b3
   refine ⟨?_, ?_, ?_, ?_⟩
   ·refine Jm code c2 n ?_ ?_
    ·exact hb
    ·exact J5 (by assumption) (by omega)
   ·refine Jm code (J0 code c2 n) 40 ?_ ?_
    ·exact hb
    ·exact J5 (J6 (by assumption)) (by omega)
   ·intro b4
    try simp only [nrmT] at b4
    refine ⟨rfl, ?_, ?_⟩
    ·refine Jg code (J0 code (J0 code c2 n) 40) ([(-1), 8, 9, 4611686018427387904]) ?_ ?_ ?_
     ·exact hb
     ·exact J5 (J6 (J6 (by assumption))) (by omega)
     ·(simp_all; done)
    refine ⟨(([(-1), 8, 9, 4611686018427387904]).getD (J4 code (J0 code (J0 code c2 n) 40) (([(-1), 8, 9, 4611686018427387904]).length : Int)).toNat 0), set1, cost1, (J0 code (J0 code (J0 code c2 n) 40) (([(-1), 8, 9, 4611686018427387904]).length : Int)), ?_⟩
    refine ⟨?_, rfl, rfl, rfl, rfl, rfl, rfl, rfl⟩
    ·unfold Jb
     exact J5 (by repeat (first | assumption | apply J6 | apply JR)) (by omega)
   intro b5
   try simp only [nrmT] at b5
   refine ⟨?_, ?_⟩
   ·intro b6
    try simp only [nrmT] at b6
    refine ⟨rfl, ?_, ?_, ?_, rfl, ?_, rfl, rfl, ?_, ?_, ?_, rfl, ?_, ?_, ?_⟩
    ·have ix := Jf code c2 (n := n) (by omega)
     omega
    ·have ix := Jf code c2 (n := n) (by omega)
     omega
    ·have ix := Jf code c2 (n := n) (by omega)
     omega
    ·refine Jg code (J0 code (J0 code c2 n) 40) ([(-1), 0, sz1]) ?_ ?_ ?_
     ·exact hb
     ·exact J5 (J6 (J6 (by assumption))) (by omega)
     ·(simp_all; done)
    ·have ix := Jf code c2 (n := n) (by omega)
     have q := k4 _ (getD_mem (d := []) (show (J4 code c2 n).toNat < set1.length by omega))
     omega
    ·have ix := Jf code c2 (n := n) (by omega)
     omega
    ·have ix := Jf code c2 (n := n) (by omega)
     omega
    ·have ix := Jf code c2 (n := n) (by omega)
     omega
    ·simp
    refine ⟨sz1, (set1.set ((J4 code c2 n).toNat) ((set1.getD ((J4 code c2 n).toNat) []) ++ [(([(-1), 0, sz1]).getD (J4 code (J0 code (J0 code c2 n) 40) (([(-1), 0, sz1]).length : Int)).toNat 0)])), cost1, (J0 code (J0 code (J0 code c2 n) 40) (([(-1), 0, sz1]).length : Int)), ?_⟩
    refine ⟨?_, rfl, rfl, rfl, rfl, ?_, rfl, rfl⟩
    ·unfold Jb
     exact J5 (by repeat (first | assumption | apply J6 | apply JR)) (by omega)
    simp
   intro b7
   try simp only [nrmT] at b7
   refine ⟨?_, ?_⟩
   ·intro b8
    try simp only [nrmT] at b8
    refine ⟨rfl, rfl, ?_, ?_, ?_, ?_, ?_⟩
    ·refine Jg code (J0 code (J0 code c2 n) 40) ([0, (-1), 99, 100]) ?_ ?_ ?_
     ·exact hb
     ·exact J5 (J6 (J6 (by assumption))) (by omega)
     ·(simp_all; done)
    ·have ix := Jf code c2 (n := n) (by omega)
     omega
    ·have ix := Jf code c2 (n := n) (by omega)
     omega
    ·have ix := Jf code c2 (n := n) (by omega)
     omega
    refine ⟨sz1, set1, (cost1.set ((J4 code c2 n).toNat) (([0, (-1), 99, 100]).getD (J4 code (J0 code (J0 code c2 n) 40) (([0, (-1), 99, 100]).length : Int)).toNat 0)), (J0 code (J0 code (J0 code c2 n) 40) (([0, (-1), 99, 100]).length : Int)), ?_⟩
    refine ⟨?_, rfl, rfl, rfl, rfl, rfl, ?_, rfl⟩
    ·unfold Jb
     exact J5 (by repeat (first | assumption | apply J6 | apply JR)) (by omega)
    simp
   intro b9
   try simp only [nrmT] at b9
   refine ⟨?_, ?_⟩
   ·intro b10
    try simp only [nrmT] at b10
    refine ⟨rfl, rfl, ?_, ?_⟩
    ·omega
    refine ⟨sz1, set1, (cost1 ++ [1]), (J0 code (J0 code c2 n) 40), ?_⟩
    refine ⟨?_, rfl, rfl, rfl, rfl, rfl, ?_, rfl⟩
    ·unfold Jb
     exact J5 (J6 (J6 (by assumption))) (by omega)
    simp; try omega
   intro b11
   try simp only [nrmT] at b11
   refine ⟨?_, ?_⟩
   ·intro b12
    try simp only [nrmT] at b12
    refine ⟨?_, ?_⟩
    ·refine ⟨sz1, set1, cost1, ?_⟩
     refine ⟨?_, rfl, rfl, rfl, rfl, rfl, rfl, rfl, rfl, rfl⟩
     ·refine ⟨?_, ?_⟩
      ·omega
      ·omega
    intro sz2 se co hJ
    obtain ⟨j0, j1⟩ := hJ
    refine ⟨?_, ?_⟩
    ·intro b13
     try simp only [nrmT] at b13
     refine ⟨rfl, rfl, rfl, by decide, ?_, rfl, rfl, ?_, ?_⟩
     ·omega
     ·omega
     refine ⟨sz2, (se ++ [[]]), (co ++ [1]), ?_⟩
     refine ⟨?_, ?_, rfl, rfl, rfl, rfl, rfl, rfl, rfl, ?_, ?_⟩
     ·refine ⟨?_, ?_⟩
      ·simp; try omega
      ·simp; try omega
     ·(simp only [J11] at *; simp at *; omega)
     ·simp; try omega
     simp; try omega
    intro b14
    try simp only [nrmT] at b14
    refine ⟨sz2, se, co, (J0 code (J0 code c2 n) 40), ?_⟩
    refine ⟨?_, rfl, rfl, rfl, rfl, rfl, rfl, rfl⟩
    ·unfold Jb
     exact J5 (J6 (J6 (by assumption))) (by omega)
   intro b15
   try simp only [nrmT] at b15
   refine ⟨sz1, set1, cost1, (J0 code (J0 code c2 n) 40), ?_⟩
   refine ⟨?_, rfl, rfl, rfl, rfl, rfl, rfl, rfl⟩
   ·unfold Jb
    exact J5 (J6 (J6 (by assumption))) (by omega)
  intro b16
  try simp only [nrmT] at b16
  refine ⟨sz1, set1, cost1, c2, ?_⟩
  refine ⟨?_, rfl, rfl, rfl, rfl, rfl, rfl, rfl⟩
  ·unfold Jb
   exact J5 (by assumption) (by omega)
theorem J5V (code : List Nat) (c : Cur) (hb : ∀ x9 ∈ code, x9 < 256) (hc : okC c 1000000) : PKE Tryz.prog 171 76 (.sl (.bytes code)) [.int .i64 c.pos, .int .u64 c.seed] [] (J2G code c) :=
  pke_by (Q := fun u => J2H u code c) (by kernel_rfl) Tryz.func171 @Tryz.call171 (by kernel_rfl) J7Q (fun u => J7q u code c) (by kernel_rfl) (fun u => J6N u code c hb hc) (fun u => by kernel_rfl)
theorem Jci {n : Nat} {s : ZI} (h : J3 s 0 ((n : Int) - 1) = true) : s ∈ chs n := by
  have ha := J5i h
  have hr := J27 h
  have hp : ∀ x ∈ s, 0 ≤ x ∧ x < (n : Int) := fun x hx => by have := hr x hx; omega
  refine JbZ.2 ⟨bagN s, bagN_lt (m := n) hp, ?_⟩
  unfold lst
  refine asc_ext (asc_members _ _) ha fun x => ?_
  rw [mem_members]
  constructor
  · rintro ⟨h1, h2, h3⟩
    rw [bagN_bit fun y hy => (hp y hy).1, List.contains_iff_mem, show ((x.toNat : Nat) : Int) = x by omega] at h3
    exact h3
  intro hx
  have h1 := hp x hx
  refine ⟨h1.1, h1.2, ?_⟩
  rw [bagN_bit fun y hy => (hp y hy).1, List.contains_iff_mem, show ((x.toNat : Nat) : Int) = x by omega]
  exact hx
abbrev J4b (list : ZI) (x : Int) (i : Int) : Prop := (0 ≤ i) ∧ (i ≤ (list.length : Int)) ∧ (∀ j, j < i.toNat → list.getD j 0 ≠ x)
abbrev J4g (list : ZI) (x : Int) (i : Int) : Nat := (list.length - i).toNat
def Jdt (f : FuncId) (ds : List D) : Orc := .no
def JdA (list : ZI) (x : Int) : Ann := .two (.none) (.two (.two (.none) (.loop (cut1 (fun (i : Int) => J4b list x i) (fun (i : Int) => [(0, .d false (.sl (.ints list))), (1, .d false (.int .i64 x)), (5, .d true (.int .i64 i))]) (fun (i : Int) => [])) (fun g => J4g list x g) (fun _ => .none))) (.none))
def Jao (list : ZI) (x : Int) : Prop :=
  ((∃ i' : Int, (J4b list x i') ∧ (list = list) ∧ (x = x) ∧ ((0 : Int) = i')) ∧ (∀ i : Int, (J4b list x i) → (((decide (i < (list.length : Int))) = true → ((0 : Int) ≤ i) ∧ ((i : Int) < list.length) ∧ (i.toNat < list.length) ∧ ((((list.getD i.toNat 0) == x) = true → ((true = (list.contains x)))) ∧ (((list.getD i.toNat 0) == x) = false → (I6 (i + 1)) ∧ (∃ i' : Int, (J4b list x i') ∧ (J4g list x i' < J4g list x i) ∧ (list = list) ∧ (x = x) ∧ ((i + 1) = i'))))) ∧ ((decide (i < (list.length : Int))) = false → ((false = (list.contains x)))))))
theorem Jdb (list : ZI) (x : Int)  (w_list : (list.length : Int) ≤ 9223372036854775807) : Jao list x := by
  unfold Jao
  refine ⟨?_, ?_⟩
  ·refine ⟨0, ?_⟩
   refine ⟨?_, rfl, rfl, rfl⟩
   ·refine ⟨?_, ?_, ?_⟩
    ·omega
    ·omega
    ·intro j hj; exact absurd hj (by omega)
  intro i hJ
  obtain ⟨h1, h2, h3⟩ := hJ
  refine ⟨?_, ?_⟩
  ·intro b1
   try simp only [nrmT] at b1
   refine ⟨?_, ?_, ?_, ?_, ?_⟩
   ·omega
   ·omega
   ·omega
   ·intro b2
    try simp only [nrmT] at b2
    symm
    rw [List.contains_iff_mem]
    have e : list.getD i.toNat 0 = x := by simpa using b2
    rw [← e]; exact getD_memI h1 (by omega)
   intro b3
   try simp only [nrmT] at b3
   refine ⟨?_, ?_⟩
   ·omega
   refine ⟨(i + 1), ?_⟩
   refine ⟨?_, ?_, rfl, rfl, rfl⟩
   ·refine ⟨?_, ?_, ?_⟩
    ·omega
    ·omega
    ·intro j hj
     by_cases e : j = i.toNat
     · rw [e]; simpa using b3
     exact h3 j (by omega)
   (simp only [J4g]; omega)
  intro b4
  try simp only [nrmT] at b4
  symm
  rw [Bool.eq_false_iff, Ne, List.contains_iff_mem]
  intro hm
  obtain ⟨j, hj, e⟩ := List.mem_iff_getElem.1 hm
  exact h3 j (by omega) (by rw [Js hj]; exact e)
theorem JcS (list : ZI) (x : Int)  : PC Tryz.prog 146 [.sl (.ints list), .int .i64 x] (.one (.d (.bool (list.contains x)))) :=
  pc_wf @Tryz.call146 fun hw => pc_by (by kernel_rfl) Tryz.func146 @Tryz.call146 (by kernel_rfl) Jdt (JdA list x) (by kernel_rfl) (Jdb list x hw.1) (by kernel_rfl)
def Jce : List D → Orc := orcN [some .ints, none] fun ds => match ds with
  | [.sl (.ints list), .int .i64 x] => some (.one (.d (.bool (list.contains x))))
  | _ => none
abbrev J3g (xs : ZR) (ys : ZR) (i : Int) : Prop := (0 ≤ i) ∧ (i ≤ (xs.length : Int)) ∧ (allTo (fun k => xs.getD k [] == ys.getD k []) i.toNat = true) ∧ (xs.length = ys.length)
abbrev J32 (xs : ZR) (ys : ZR) (i : Int) : Nat := (xs.length - i).toNat
def Jcp (f : FuncId) (ds : List D) : Orc := bif Nat.beq f 32 then J4L ds else .no
def JcK (xs : ZR) (ys : ZR) : Ann := .two (.none) (.two (.none) (.two (.two (.none) (.loop (cut1 (fun (i : Int) => J3g xs ys i) (fun (i : Int) => [(0, .d false (.sl (.rows xs))), (1, .d false (.sl (.rows ys))), (5, .d true (.int .i64 i))]) (fun (i : Int) => [])) (fun g => J32 xs ys g) (fun _ => .none))) (.none)))
def J8K (xs : ZR) (ys : ZR) : Prop :=
  ((((xs.length : Int) != (ys.length : Int)) = true → ((false = (xs == ys)))) ∧ (((xs.length : Int) != (ys.length : Int)) = false → ((∃ i' : Int, (J3g xs ys i') ∧ (xs = xs) ∧ (ys = ys) ∧ ((0 : Int) = i')) ∧ (∀ i : Int, (J3g xs ys i) → (((decide (i < (xs.length : Int))) = true → (true = true) ∧ ((0 : Int) ≤ i) ∧ ((i : Int) < xs.length) ∧ (i.toNat < xs.length) ∧ ((0 : Int) ≤ i) ∧ ((i : Int) < ys.length) ∧ (i.toNat < ys.length) ∧ (PC Tryz.prog 32 [.sl (.ints (xs.getD i.toNat [])), .sl (.ints (ys.getD i.toNat []))] (.one (.d (.bool ((xs.getD i.toNat []) == (ys.getD i.toNat [])))))) ∧ (((!((xs.getD i.toNat []) == (ys.getD i.toNat []))) = true → ((false = (xs == ys)))) ∧ ((!((xs.getD i.toNat []) == (ys.getD i.toNat []))) = false → (I6 (i + 1)) ∧ (∃ i' : Int, (J3g xs ys i') ∧ (J32 xs ys i' < J32 xs ys i) ∧ (xs = xs) ∧ (ys = ys) ∧ ((i + 1) = i'))))) ∧ ((decide (i < (xs.length : Int))) = false → ((true = (xs == ys)))))))))
theorem JbD (xs : ZR) (ys : ZR)  (w_xs : (xs.length : Int) ≤ 9223372036854775807) (v_xs : ∀ x9 ∈ xs, (x9.length : Int) ≤ 9223372036854775807) (w_ys : (ys.length : Int) ≤ 9223372036854775807) (v_ys : ∀ x9 ∈ ys, (x9.length : Int) ≤ 9223372036854775807) : J8K xs ys := by
  unfold J8K
  refine ⟨?_, ?_⟩
  ·intro b1
   try simp only [nrmT] at b1
   exact (Jd2 (by omega)).symm
  intro b2
  try simp only [nrmT] at b2
  refine ⟨?_, ?_⟩
  ·refine ⟨0, ?_⟩
   refine ⟨?_, rfl, rfl, rfl⟩
   ·refine ⟨?_, ?_, ?_, ?_⟩
    ·omega
    ·omega
    ·rfl
    ·omega
  intro i hJ
  obtain ⟨h1, h2, h3, h4⟩ := hJ
  refine ⟨?_, ?_⟩
  ·intro b3
   try simp only [nrmT] at b3
   refine ⟨rfl, ?_, ?_, ?_, ?_, ?_, ?_, J4f (xs.getD i.toNat []) (ys.getD i.toNat []), ?_, ?_⟩
   ·omega
   ·omega
   ·omega
   ·omega
   ·omega
   ·omega
   ·intro b4
    try simp only [nrmT] at b4
    rw [← J4d (d := []) h4]; exact (allTo_falseI h1 (by omega) (by simpa using b4)).symm
   intro b5
   try simp only [nrmT] at b5
   refine ⟨?_, ?_⟩
   ·omega
   refine ⟨(i + 1), ?_⟩
   refine ⟨?_, ?_, rfl, rfl, rfl⟩
   ·refine ⟨?_, ?_, ?_, ?_⟩
    ·omega
    ·omega
    ·exact allTo_step h1 h3 (by simpa using b5)
    ·omega
   (simp only [J32]; omega)
  intro b6
  try simp only [nrmT] at b6
  rw [← J4d (d := []) h4, ← h3]; congr 1; omega
theorem JbH (xs : ZR) (ys : ZR)  : PC Tryz.prog 184 [.sl (.rows xs), .sl (.rows ys)] (.one (.d (.bool (xs == ys)))) :=
  pc_wf @Tryz.call184 fun hw => pc_by (by kernel_rfl) Tryz.func184 @Tryz.call184 (by kernel_rfl) Jcp (JcK xs ys) (by kernel_rfl) (JbD xs ys hw.1.1 hw.1.2 hw.2.1.1 hw.2.1.2) (by kernel_rfl)
def JaD : List D → Orc := orcN [some .rows, some .rows] fun ds => match ds with
  | [.sl (.rows xs), .sl (.rows ys)] => some (.one (.d (.bool (xs == ys))))
  | _ => none
def JbI (f : FuncId) (ds : List D) : Orc := bif Nat.beq f 184 then JaD ds else bif Nat.beq f 32 then J4L ds else .no
def Jbj (Size : Int) (Sets : ZR) (Costs : ZI) (Size2 : Int) (Sets2 : ZR) (Costs2 : ZI) : Ann := .none
def J7d (Size : Int) (Sets : ZR) (Costs : ZI) (Size2 : Int) (Sets2 : ZR) (Costs2 : ZI) : Prop :=
  ((Size == Size2) = true → (Size == Size2) = true) ∧ ((Size == Size2) = true → (Size == Size2) = true) ∧ ((Size == Size2) = true → (Size == Size2) = true) ∧ ((Size == Size2) = true → (Size == Size2) = true) ∧ ((Size == Size2) = true → PC Tryz.prog 184 [.sl (.rows Sets), .sl (.rows Sets2)] (.one (.d (.bool (Sets == Sets2))))) ∧ (true = true) ∧ (((Size == Size2) = true → (Size == Size2) = true)) ∧ (((Size == Size2) = false → true = true)) ∧ ((cond (Size == Size2) (Sets == Sets2) false) = true → (cond (Size == Size2) (Sets == Sets2) false) = true) ∧ ((cond (Size == Size2) (Sets == Sets2) false) = true → (cond (Size == Size2) (Sets == Sets2) false) = true) ∧ ((cond (Size == Size2) (Sets == Sets2) false) = true → (cond (Size == Size2) (Sets == Sets2) false) = true) ∧ ((cond (Size == Size2) (Sets == Sets2) false) = true → (cond (Size == Size2) (Sets == Sets2) false) = true) ∧ ((cond (Size == Size2) (Sets == Sets2) false) = true → PC Tryz.prog 32 [.sl (.ints Costs), .sl (.ints Costs2)] (.one (.d (.bool (Costs == Costs2))))) ∧ (true = true) ∧ (((cond (Size == Size2) (Sets == Sets2) false) = true → (cond (Size == Size2) (Sets == Sets2) false) = true)) ∧ (((cond (Size == Size2) (Sets == Sets2) false) = false → true = true)) ∧ (((cond (cond (Size == Size2) (Sets == Sets2) false) (Costs == Costs2) false) = ((Size == Size2) && (Sets == Sets2) && (Costs == Costs2))))
theorem JaX (Size : Int) (Sets : ZR) (Costs : ZI) (Size2 : Int) (Sets2 : ZR) (Costs2 : ZI)  (w_Sets : (Sets.length : Int) ≤ 9223372036854775807) (v_Sets : ∀ x9 ∈ Sets, (x9.length : Int) ≤ 9223372036854775807) (w_Costs : (Costs.length : Int) ≤ 9223372036854775807) (w_Sets2 : (Sets2.length : Int) ≤ 9223372036854775807) (v_Sets2 : ∀ x9 ∈ Sets2, (x9.length : Int) ≤ 9223372036854775807) (w_Costs2 : (Costs2.length : Int) ≤ 9223372036854775807) : J7d Size Sets Costs Size2 Sets2 Costs2 := by
  unfold J7d
  refine ⟨id, id, id, id, fun _ => JbH Sets Sets2, rfl, id, fun _ => rfl, id, id, id, id, fun _ => J4f Costs Costs2, rfl, id, fun _ => rfl, ?_⟩
  ·(simp_all; done)
theorem Jba (Size : Int) (Sets : ZR) (Costs : ZI) (Size2 : Int) (Sets2 : ZR) (Costs2 : ZI)  : PC Tryz.prog 89 [.agg [.int .i64 Size, .sl (.rows Sets), .sl (.ints Costs)], .agg [.int .i64 Size2, .sl (.rows Sets2), .sl (.ints Costs2)]] (.one (.d (.bool ((Size == Size2) && (Sets == Sets2) && (Costs == Costs2))))) :=
  pc_wf @Tryz.call89 fun hw => pc_by (by kernel_rfl) Tryz.func89 @Tryz.call89 (by kernel_rfl) JbI (Jbj Size Sets Costs Size2 Sets2 Costs2) (by kernel_rfl) (JaX Size Sets Costs Size2 Sets2 Costs2 hw.1.2.1.1 hw.1.2.1.2 hw.1.2.2.1 hw.2.1.2.1.1 hw.2.1.2.1.2 hw.2.1.2.2.1) (by kernel_rfl)
def J9L : List D → Orc := orcN [none, none] fun ds => match ds with
  | [.agg [.int .i64 Size, .sl (.rows Sets), .sl (.ints Costs)], .agg [.int .i64 Size2, .sl (.rows Sets2), .sl (.ints Costs2)]] => some (.one (.d (.bool ((Size == Size2) && (Sets == Sets2) && (Costs == Costs2)))))
  | _ => none
def J2F (f : Int → Int) (l : ZI) : Int := (l.map f).sum
theorem J1g (f : Int → Int) (x : Int) (l : ZI) : J2F f (x :: l) = f x + J2F f l := rfl
theorem JbP {f g : Int → Int} : ∀ {l : ZI}, (∀ x ∈ l, f x ≤ g x) → J2F f l ≤ J2F g l
  | [], _ => Int.le_refl _
  | x :: r, h => by
    have h1 := h x List.mem_cons_self
    have h2 := JbP (f := f) (g := g) (l := r) fun y hy => h y (List.mem_cons_of_mem _ hy)
    rw [J1g, J1g]; omega
theorem Jb5 (c : Int) (f : Int → Int) : ∀ l : ZI, J2F (fun x => c * f x) l = c * J2F f l
  | [] => by simp [J2F]
  | x :: r => by rw [J1g, J1g, Jb5 c f r, Int.mul_add]
def Je1 (list out : ZI) (i : Nat) : ZI := if list.contains ((i : Int) - 1) = true then out ++ [(i : Int) - 1] else out
def J5k (list : ZI) (k : Nat) : ZI := foldTo (Je1 list) [] k
def srt (list : ZI) : ZI := J5k list 1002
theorem J34 (list : ZI) (k : Nat) : J5k list (k + 1) = if list.contains ((k : Int) - 1) = true then J5k list k ++ [(k : Int) - 1] else J5k list k := rfl
theorem J9z (list : ZI) : ∀ k, (J5k list k).length ≤ k
  | 0 => Nat.le_refl _
  | k + 1 => by
    have := J9z list k
    rw [J34]
    split
    · rw [List.length_append, List.length_singleton]; omega
    omega
theorem Jat {list : ZI} (h : ∀ y ∈ list, 0 ≤ y) : ∀ k, J5k list (k + 1) = members (fun x => list.contains (x : Int)) k
  | 0 => by
    rw [J34, if_neg]
    · rfl
    intro hc
    have := h _ (List.contains_iff_mem.1 hc)
    omega
  | k + 1 => by
    have e : (((k + 1 : Nat) : Int) - 1) = (k : Int) := by omega
    rw [J34, Jat h k, members_succ, e]
    by_cases hc : list.contains (k : Int) = true
    · rw [if_pos hc, if_pos hc]
    rw [if_neg hc, if_neg hc, List.append_nil]
theorem JdI {list : ZI} (h : ∀ y ∈ list, 0 ≤ y ∧ y ≤ 1000) (x : Int) : x ∈ srt list ↔ x ∈ list := by
  unfold srt
  rw [Jat (fun y hy => (h y hy).1), mem_members]
  constructor
  · rintro ⟨h1, h2, h3⟩
    rw [show ((x.toNat : Nat) : Int) = x by omega] at h3
    exact List.contains_iff_mem.1 h3
  intro hx
  have := h x hx
  refine ⟨this.1, by omega, ?_⟩
  rw [show ((x.toNat : Nat) : Int) = x by omega]
  exact List.contains_iff_mem.2 hx
theorem JdH {list : ZI} (h : ∀ y ∈ list, 0 ≤ y) : Asc (srt list) := by
  unfold srt
  rw [Jat h]; exact asc_members _ _
theorem JbO {f : Int → Int} {l : ZI} (h : ∀ x ∈ l, 0 ≤ f x) : 0 ≤ J2F f l := by
  have := JbP (f := fun _ => 0) (g := f) h
  have e : J2F (fun _ => 0) l = 0 := by
    have := Jb5 0 (fun _ => 0) l
    simp at this
    exact this
  omega
abbrev J1t (list : ZI) (out : ZI) (x : Int) : Prop := (-1 ≤ x) ∧ (x ≤ 1001) ∧ (out = J5k list (x + 1).toNat)
abbrev J0b (list : ZI) (out : ZI) (x : Int) : Nat := (1001 - x).toNat
def JbN (f : FuncId) (ds : List D) : Orc := bif Nat.beq f 146 then Jce ds else .no
def JbF (list : ZI) : Ann := .two (.none) (.two (.none) (.two (.two (.none) (.loop (cut2 (fun (out : ZI) (x : Int) => J1t list out x) (fun (out : ZI) (x : Int) => [(0, .d false (.sl (.ints list))), (3, .own 1000000 out.length), (4, .d true (.int .i64 x))]) (fun (out : ZI) (x : Int) => [(1000000, .arr true 3 (.ints out))])) (fun g => J0b list g.1 g.2) (fun _ => .none))) (.none)))
def J79 (list : ZI) : Prop :=
  ((∃ out' : ZI, ∃ x' : Int, (J1t list out' x') ∧ (list = list) ∧ ((0 : Nat) = out'.length) ∧ (((-1) : Int) = x') ∧ ([] = out')) ∧ (∀ out : ZI, ∀ x : Int, (J1t list out x) → (((decide (x ≤ 1000)) = true → (PC Tryz.prog 146 [.sl (.ints list), .int .i64 x] (.one (.d (.bool (list.contains x))))) ∧ (((list.contains x) = true → (out.length = out.length) ∧ ((1 : Nat) = 1) ∧ ((out.length + 1) * 8 ≤ 140737488355328) ∧ (I6 (x + 1)) ∧ (∃ out' : ZI, ∃ x' : Int, (J1t list out' x') ∧ (J0b list out' x' < J0b list out x) ∧ (list = list) ∧ ((out.length + 1) = out'.length) ∧ ((x + 1) = x') ∧ ((out ++ [x]) = out'))) ∧ ((list.contains x) = false → (I6 (x + 1)) ∧ (∃ out' : ZI, ∃ x' : Int, (J1t list out' x') ∧ (J0b list out' x' < J0b list out x) ∧ (list = list) ∧ (out.length = out'.length) ∧ ((x + 1) = x') ∧ (out = out'))))) ∧ ((decide (x ≤ 1000)) = false → ((out.length = out.length) ∧ ((out : ZI) = srt list))))))
theorem JaJ (list : ZI)  (w_list : (list.length : Int) ≤ 9223372036854775807) : J79 list := by
  unfold J79
  refine ⟨?_, ?_⟩
  ·refine ⟨([]), (-1), ?_⟩
   refine ⟨?_, rfl, rfl, rfl, ?_⟩
   ·refine ⟨?_, ?_, ?_⟩
    ·omega
    ·omega
    ·rfl
   rfl
  intro out x hJ
  obtain ⟨h1, h2, h3⟩ := hJ
  refine ⟨?_, ?_⟩
  ·intro b1
   try simp only [nrmT] at b1
   refine ⟨JcS list x, ?_, ?_⟩
   ·intro b2
    try simp only [nrmT] at b2
    refine ⟨rfl, rfl, ?_, ?_, ?_⟩
    ·have h := J9z list (x + 1).toNat
     rw [← h3] at h
     omega
    ·omega
    refine ⟨(out ++ [x]), (x + 1), ?_⟩
    refine ⟨?_, ?_, rfl, ?_, rfl, rfl⟩
    ·refine ⟨?_, ?_, ?_⟩
     ·omega
     ·omega
     ·rw [show (x + 1 + 1).toNat = (x + 1).toNat + 1 by omega, J34, ← h3, show (((x + 1).toNat : Nat) : Int) - 1 = x by omega, if_pos b2]
    ·(simp only [J0b]; omega)
    simp
   intro b3
   try simp only [nrmT] at b3
   refine ⟨?_, ?_⟩
   ·omega
   refine ⟨out, (x + 1), ?_⟩
   refine ⟨?_, ?_, rfl, rfl, rfl, rfl⟩
   ·refine ⟨?_, ?_, ?_⟩
    ·omega
    ·omega
    ·rw [show (x + 1 + 1).toNat = (x + 1).toNat + 1 by omega, J34, ← h3, show (((x + 1).toNat : Nat) : Int) - 1 = x by omega, if_neg (by rw [b3]; decide)]
   (simp only [J0b]; omega)
  intro b4
  try simp only [nrmT] at b4
  refine ⟨rfl, ?_⟩
  ·rw [h3, show (x + 1).toNat = 1002 by omega]; rfl
theorem Jb6 (list : ZI)  : PC Tryz.prog 54 [.sl (.ints list)] (.one (.own 3 (.ints (srt list)))) :=
  pc_wf @Tryz.call54 fun hw => pc_by (by kernel_rfl) Tryz.func54 @Tryz.call54 (by kernel_rfl) JbN (JbF list) (by kernel_rfl) (JaJ list hw.1) (by kernel_rfl)
def J9W : List D → Orc := orcN [some .ints] fun ds => match ds with
  | [.sl (.ints list)] => some (.one (.own 3 (.ints (srt list))))
  | _ => none
/-- What rawField and lineField draw. -/
def JdD (n : Nat) (r : ZI) : Prop := r.length = n ∧ ∀ x ∈ r, 0 ≤ x ∧ x ≤ 60
def drF (O : ZI) (D : ZR) : Prop := O.length ≤ 7 ∧ D.length ≤ 7 ∧ ∀ r ∈ D, JdD O.length r
theorem J7 {O : ZI} {D : ZR} (h : drF O D) {i a : Nat} (hi : i < D.length) (ha : a < O.length) : (D.getD i []).length = O.length ∧ 0 ≤ (D.getD i []).getD a 0 ∧ (D.getD i []).getD a 0 ≤ 60 := by
  obtain ⟨h1, h2⟩ := h.2.2 _ (getD_mem (d := []) hi)
  exact ⟨h1, h2 _ (getD_mem (by omega))⟩
theorem J7F {α : Type} {p : α → Prop} {l : List α} {x : α} (h : ∀ r ∈ l, p r) (hx : p x) : ∀ r ∈ l ++ [x], p r := by
  intro r hr
  rcases List.mem_append.1 hr with hr | hr
  · exact h r hr
  rw [List.mem_singleton.1 hr]; exact hx
theorem JbV {α : Type} {p : α → Prop} {l : List α} {x : α} {k : Nat} (h : ∀ r ∈ l, p r) (hx : p x) : ∀ r ∈ l.set k x, p r := by
  intro r hr
  rcases List.mem_or_eq_of_mem_set hr with hr | hr
  · exact h r hr
  rw [hr]; exact hx
theorem JbS {O : ZI} {D : ZR} (h : drF O D) {i a : Nat} {v : Int} (hi : i < D.length) (hv : 0 ≤ v ∧ v ≤ 60) : drF O (D.set i ((D.getD i []).set a v)) := by
  obtain ⟨h1, h2⟩ := h.2.2 _ (getD_mem (d := []) hi)
  refine ⟨h.1, by rw [List.length_set]; exact h.2.1, JbV h.2.2 ⟨by rw [List.length_set]; exact h1, JbV h2 hv⟩⟩
abbrev J0x (u : Value) (code : List Nat) (c : Cur) (most : Int) (n : Int) (m : Int) (c0 : Cur) (big : Int) (c1 : Cur) (O0 : ZI) (D0 : ZR) (a : Int) (c3 : Cur) (O1 : ZI) (D1 : ZR) : Prop := (0 ≤ a) ∧ (a ≤ 7) ∧ (O1.length = a.toNat) ∧ (D1 = []) ∧ (okC c3 (3000100 + 4 * a))
abbrev J0t (u : Value) (code : List Nat) (c : Cur) (most : Int) (n : Int) (m : Int) (c0 : Cur) (big : Int) (c1 : Cur) (O0 : ZI) (D0 : ZR) (a : Int) (c3 : Cur) (O1 : ZI) (D1 : ZR) : Nat := (7 - a).toNat
abbrev J1r (u : Value) (code : List Nat) (c : Cur) (most : Int) (n : Int) (m : Int) (c0 : Cur) (big : Int) (c1 : Cur) (O0 : ZI) (D0 : ZR) (c4 : Cur) (O2 : ZI) (D2 : ZR) : Prop := (okC c4 3000200) ∧ (O2.length ≤ 7) ∧ (D2 = [])
abbrev J0w (u : Value) (code : List Nat) (c : Cur) (most : Int) (n : Int) (m : Int) (c0 : Cur) (big : Int) (c1 : Cur) (O0 : ZI) (D0 : ZR) (c4 : Cur) (O2 : ZI) (D2 : ZR) (i : Int) (c5 : Cur) (O3 : ZI) (D3 : ZR) : Prop := (0 ≤ i) ∧ (i ≤ 7) ∧ (D3.length = i.toNat) ∧ (O3.length ≤ 7) ∧ (okC c5 (3000200 + 100 * i)) ∧ (∀ r ∈ D3, JdD O3.length r)
abbrev J0s (u : Value) (code : List Nat) (c : Cur) (most : Int) (n : Int) (m : Int) (c0 : Cur) (big : Int) (c1 : Cur) (O0 : ZI) (D0 : ZR) (c4 : Cur) (O2 : ZI) (D2 : ZR) (i : Int) (c5 : Cur) (O3 : ZI) (D3 : ZR) : Nat := (7 - i).toNat
abbrev J0o (u : Value) (code : List Nat) (c : Cur) (most : Int) (n : Int) (m : Int) (c0 : Cur) (big : Int) (c1 : Cur) (O0 : ZI) (D0 : ZR) (c4 : Cur) (O2 : ZI) (D2 : ZR) (i : Int) (c5 : Cur) (O3 : ZI) (D3 : ZR) (row : ZI) (a2 : Int) (c6 : Cur) : Prop := (0 ≤ a2) ∧ (a2 ≤ (O3.length : Int)) ∧ (row.length = a2.toNat) ∧ (okC c6 (3000200 + 100 * i + 4 * a2)) ∧ (∀ x ∈ row, 0 ≤ x ∧ x ≤ 60)
abbrev J0v (u : Value) (code : List Nat) (c : Cur) (most : Int) (n : Int) (m : Int) (c0 : Cur) (big : Int) (c1 : Cur) (O0 : ZI) (D0 : ZR) (c4 : Cur) (O2 : ZI) (D2 : ZR) (i : Int) (c5 : Cur) (O3 : ZI) (D3 : ZR) (row : ZI) (a2 : Int) (c6 : Cur) : Nat := (O3.length - a2).toNat
abbrev J1o (u : Value) (code : List Nat) (c : Cur) (most : Int) (n : Int) (m : Int) (c0 : Cur) : Prop := (0 ≤ n ∧ n ≤ 7) ∧ (0 ≤ m ∧ m ≤ 7) ∧ (okC c0 3000050)
abbrev J1k (u : Value) (code : List Nat) (c : Cur) (most : Int) (n : Int) (m : Int) (c0 : Cur) (big : Int) (c1 : Cur) (O0 : ZI) (D0 : ZR) : Prop := (1 ≤ big ∧ big ≤ 20) ∧ (okC c1 3000100) ∧ (O0 = []) ∧ (D0 = [])
abbrev J02 (code : List Nat) (c : Cur) (most : Int) (O : ZI) (D : ZR) (cf : Cur) : Prop := (okC cf 4000000) ∧ (drF O D)
def JD (code : List Nat) (c : Cur) (most : Int) : Ex := ex3 1 (fun (O : ZI) (D : ZR) (cf : Cur) => J02 code c most O D cf) (fun (O : ZI) (D : ZR) (cf : Cur) => [.int .i64 cf.pos, .int .u64 cf.seed]) (fun (O : ZI) (D : ZR) (cf : Cur) => .agg [.own 3 (.ints O), .mat 3 24 D])
def J61 (f : FuncId) (ds : List D) : Orc := .no
def J5X (u : Value) (code : List Nat) (c : Cur) (most : Int) : Ann := .two (.none) (.cut (.mark [] [(2, .cell [.int .i64 ((J0 code c (([3, 4, 2, 5, 1, 6, 7]).length : Int)).pos), .int .u64 ((J0 code c (([3, 4, 2, 5, 1, 6, 7]).length : Int)).seed)] (.one (.d (.int .i64 (([3, 4, 2, 5, 1, 6, 7]).getD (J4 code c (([3, 4, 2, 5, 1, 6, 7]).length : Int)).toNat 0))))), (5, .cell [.int .i64 ((J0 code (J0 code c (([3, 4, 2, 5, 1, 6, 7]).length : Int)) (([4, 3, 5, 2, 6, 7, 1, 0]).length : Int)).pos), .int .u64 ((J0 code (J0 code c (([3, 4, 2, 5, 1, 6, 7]).length : Int)) (([4, 3, 5, 2, 6, 7, 1, 0]).length : Int)).seed)] (.one (.d (.int .i64 (([4, 3, 5, 2, 6, 7, 1, 0]).getD (J4 code (J0 code c (([3, 4, 2, 5, 1, 6, 7]).length : Int)) (([4, 3, 5, 2, 6, 7, 1, 0]).length : Int)).toNat 0)))))]) (cut3 (fun (n : Int) (m : Int) (c0 : Cur) => J1o u code c most n m c0) (fun (n : Int) (m : Int) (c0 : Cur) => [(0, .ptr 0 0), (1, .d false (.int .i64 most)), (4, .ptr 4 0), (5, .d true (.int .i64 n)), (6, .d true (.int .i64 m))]) (fun (n : Int) (m : Int) (c0 : Cur) => [(0, .box 76 [.d false (.lit u (.sl (.bytes code))), .d true (.int .i64 c0.pos), .d true (.int .u64 c0.seed)]), (4, .box 27 [.d true (.nil), .d true (.nil)])])) (fun g => (fun (n : Int) (m : Int) (c0 : Cur) => .cut (.mark [] [(3, .cell [.int .i64 ((J0 code c0 (([10, 10, 20, 4]).length : Int)).pos), .int .u64 ((J0 code c0 (([10, 10, 20, 4]).length : Int)).seed)] (.one (.d (.int .i64 (([10, 10, 20, 4]).getD (J4 code c0 (([10, 10, 20, 4]).length : Int)).toNat 0)))))]) (cut4 (fun (big : Int) (c1 : Cur) (O0 : ZI) (D0 : ZR) => J1k u code c most n m c0 big c1 O0 D0) (fun (big : Int) (c1 : Cur) (O0 : ZI) (D0 : ZR) => [(0, .ptr 0 0), (1, .d false (.int .i64 most)), (4, .ptr 4 0), (5, .d true (.int .i64 n)), (6, .d true (.int .i64 m)), (7, .ptr 7 0), (8, .d true (.int .i64 big))]) (fun (big : Int) (c1 : Cur) (O0 : ZI) (D0 : ZR) => [(0, .box 76 [.d false (.lit u (.sl (.bytes code))), .d true (.int .i64 c1.pos), .d true (.int .u64 c1.seed)]), (4, .box 27 [.d true (.nil), .d true (.nil)]), (1500202, .arr true 3 (.ints O0)), (1500203, .mat 3 24 D0 none), (7, .box 27 [.own 1500202 O0.length, .own 1500203 D0.length])])) (fun g => (fun (big : Int) (c1 : Cur) (O0 : ZI) (D0 : ZR) => .cut (.two (.none) (.loop (cut4 (fun (a : Int) (c3 : Cur) (O1 : ZI) (D1 : ZR) => J0x u code c most n m c0 big c1 O0 D0 a c3 O1 D1) (fun (a : Int) (c3 : Cur) (O1 : ZI) (D1 : ZR) => [(0, .ptr 0 0), (1, .d false (.int .i64 most)), (4, .ptr 4 0), (5, .d true (.int .i64 n)), (6, .d true (.int .i64 m)), (7, .ptr 7 0), (8, .d true (.int .i64 big)), (9, .d true (.int .i64 a))]) (fun (a : Int) (c3 : Cur) (O1 : ZI) (D1 : ZR) => [(0, .box 76 [.d false (.lit u (.sl (.bytes code))), .d true (.int .i64 c3.pos), .d true (.int .u64 c3.seed)]), (4, .box 27 [.d true (.nil), .d true (.nil)]), (1000002, .arr true 3 (.ints O1)), (1000003, .mat 3 24 D1 none), (7, .box 27 [.own 1000002 O1.length, .own 1000003 D1.length])])) (fun g => J0t u code c most n m c0 big c1 O0 D0 g.1 g.2.1 g.2.2.1 g.2.2.2) (fun g => (fun (a : Int) (c3 : Cur) (O1 : ZI) (D1 : ZR) => .two (.none) (.two (.reg [(4, .cell [.int .i64 ((J0 code c3 big).pos), .int .u64 ((J0 code c3 big).seed)] (.one (.d (.int .i64 (J4 code c3 big)))))]) (.none))) (g.1) (g.2.1) (g.2.2.1) (g.2.2.2)))) (cut3 (fun (c4 : Cur) (O2 : ZI) (D2 : ZR) => J1r u code c most n m c0 big c1 O0 D0 c4 O2 D2) (fun (c4 : Cur) (O2 : ZI) (D2 : ZR) => [(0, .ptr 0 0), (1, .d false (.int .i64 most)), (4, .ptr 4 0), (6, .d true (.int .i64 m)), (7, .ptr 7 0), (8, .d true (.int .i64 big))]) (fun (c4 : Cur) (O2 : ZI) (D2 : ZR) => [(0, .box 76 [.d false (.lit u (.sl (.bytes code))), .d true (.int .i64 c4.pos), .d true (.int .u64 c4.seed)]), (4, .box 27 [.d true (.nil), .d true (.nil)]), (1000051, .arr true 3 (.ints O2)), (1000052, .mat 3 24 D2 none), (7, .box 27 [.own 1000051 O2.length, .own 1000052 D2.length])])) (fun g => (fun (c4 : Cur) (O2 : ZI) (D2 : ZR) => .two (.two (.none) (.loop (cut4 (fun (i : Int) (c5 : Cur) (O3 : ZI) (D3 : ZR) => J0w u code c most n m c0 big c1 O0 D0 c4 O2 D2 i c5 O3 D3) (fun (i : Int) (c5 : Cur) (O3 : ZI) (D3 : ZR) => [(0, .ptr 0 0), (1, .d false (.int .i64 most)), (4, .ptr 4 0), (6, .d true (.int .i64 m)), (7, .ptr 7 0), (8, .d true (.int .i64 big)), (10, .d true (.int .i64 i))]) (fun (i : Int) (c5 : Cur) (O3 : ZI) (D3 : ZR) => [(0, .box 76 [.d false (.lit u (.sl (.bytes code))), .d true (.int .i64 c5.pos), .d true (.int .u64 c5.seed)]), (4, .box 27 [.d true (.nil), .d true (.nil)]), (1000102, .arr true 3 (.ints O3)), (1000103, .mat 3 24 D3 none), (7, .box 27 [.own 1000102 O3.length, .own 1000103 D3.length])])) (fun g => J0s u code c most n m c0 big c1 O0 D0 c4 O2 D2 g.1 g.2.1 g.2.2.1 g.2.2.2) (fun g => (fun (i : Int) (c5 : Cur) (O3 : ZI) (D3 : ZR) => .two (.none) (.two (.two (.none) (.two (.two (.none) (.loop (cut3 (fun (row : ZI) (a2 : Int) (c6 : Cur) => J0o u code c most n m c0 big c1 O0 D0 c4 O2 D2 i c5 O3 D3 row a2 c6) (fun (row : ZI) (a2 : Int) (c6 : Cur) => [(0, .ptr 0 0), (1, .d false (.int .i64 most)), (4, .ptr 4 0), (6, .d true (.int .i64 m)), (7, .ptr 7 0), (8, .d true (.int .i64 big)), (10, .d true (.int .i64 i)), (11, .own 1000200 row.length), (12, .d true (.int .i64 a2))]) (fun (row : ZI) (a2 : Int) (c6 : Cur) => [(1000200, .arr true 3 (.ints row)), (0, .box 76 [.d false (.lit u (.sl (.bytes code))), .d true (.int .i64 c6.pos), .d true (.int .u64 c6.seed)]), (4, .box 27 [.d true (.nil), .d true (.nil)]), (7, .box 27 [.own 1000102 O3.length, .own 1000103 D3.length]), (1000102, .arr true 3 (.ints O3)), (1000103, .mat 3 24 D3 none)])) (fun g => J0v u code c most n m c0 big c1 O0 D0 c4 O2 D2 i c5 O3 D3 g.1 g.2.1 g.2.2) (fun g => (fun (row : ZI) (a2 : Int) (c6 : Cur) => .two (.none) (.two (.mark [] [(3, .cell [.int .i64 ((J0 code c6 big).pos), .int .u64 ((J0 code c6 big).seed)] (.one (.d (.int .i64 (J4 code c6 big)))))]) (.none))) (g.1) (g.2.1) (g.2.2)))) (.none))) (.none))) (g.1) (g.2.1) (g.2.2.1) (g.2.2.2)))) (.none)) (g.1) (g.2.1) (g.2.2))) (g.1) (g.2.1) (g.2.2.1) (g.2.2.2))) (g.1) (g.2.1) (g.2.2)))
def J1T (u : Value) (code : List Nat) (c : Cur) (most : Int) : Prop :=
  ((((7 : Nat) = 7) ∧ (PK Tryz.prog 155 76 (.sl (.bytes code)) [.int .i64 c.pos, .int .u64 c.seed] [.int .i64 ((J0 code c (([3, 4, 2, 5, 1, 6, 7]).length : Int)).pos), .int .u64 ((J0 code c (([3, 4, 2, 5, 1, 6, 7]).length : Int)).seed)] [.sl (.ints ([3, 4, 2, 5, 1, 6, 7]))] (.one (.d (.int .i64 (([3, 4, 2, 5, 1, 6, 7]).getD (J4 code c (([3, 4, 2, 5, 1, 6, 7]).length : Int)).toNat 0))))) ∧ ((8 : Nat) = 8) ∧ (PK Tryz.prog 155 76 (.sl (.bytes code)) [.int .i64 ((J0 code c (([3, 4, 2, 5, 1, 6, 7]).length : Int)).pos), .int .u64 ((J0 code c (([3, 4, 2, 5, 1, 6, 7]).length : Int)).seed)] [.int .i64 ((J0 code (J0 code c (([3, 4, 2, 5, 1, 6, 7]).length : Int)) (([4, 3, 5, 2, 6, 7, 1, 0]).length : Int)).pos), .int .u64 ((J0 code (J0 code c (([3, 4, 2, 5, 1, 6, 7]).length : Int)) (([4, 3, 5, 2, 6, 7, 1, 0]).length : Int)).seed)] [.sl (.ints ([4, 3, 5, 2, 6, 7, 1, 0]))] (.one (.d (.int .i64 (([4, 3, 5, 2, 6, 7, 1, 0]).getD (J4 code (J0 code c (([3, 4, 2, 5, 1, 6, 7]).length : Int)) (([4, 3, 5, 2, 6, 7, 1, 0]).length : Int)).toNat 0))))) ∧ (∃ n' : Int, ∃ m' : Int, ∃ c0' : Cur, (J1o u code c most n' m' c0') ∧ (most = most) ∧ ((([3, 4, 2, 5, 1, 6, 7]).getD (J4 code c (([3, 4, 2, 5, 1, 6, 7]).length : Int)).toNat 0) = n') ∧ ((([4, 3, 5, 2, 6, 7, 1, 0]).getD (J4 code (J0 code c (([3, 4, 2, 5, 1, 6, 7]).length : Int)) (([4, 3, 5, 2, 6, 7, 1, 0]).length : Int)).toNat 0) = m') ∧ ((.lit u (.sl (.bytes code)) : D) = .lit u (.sl (.bytes code))) ∧ ((J0 code (J0 code c (([3, 4, 2, 5, 1, 6, 7]).length : Int)) (([4, 3, 5, 2, 6, 7, 1, 0]).length : Int)).pos = c0'.pos) ∧ ((J0 code (J0 code c (([3, 4, 2, 5, 1, 6, 7]).length : Int)) (([4, 3, 5, 2, 6, 7, 1, 0]).length : Int)).seed = c0'.seed))) ∧ (∀ n : Int, ∀ m : Int, ∀ c0 : Cur, (J1o u code c most n m c0) → ((((4 : Nat) = 4) ∧ (PK Tryz.prog 155 76 (.sl (.bytes code)) [.int .i64 c0.pos, .int .u64 c0.seed] [.int .i64 ((J0 code c0 (([10, 10, 20, 4]).length : Int)).pos), .int .u64 ((J0 code c0 (([10, 10, 20, 4]).length : Int)).seed)] [.sl (.ints ([10, 10, 20, 4]))] (.one (.d (.int .i64 (([10, 10, 20, 4]).getD (J4 code c0 (([10, 10, 20, 4]).length : Int)).toNat 0))))) ∧ (∃ big' : Int, ∃ c1' : Cur, ∃ O0' : ZI, ∃ D0' : ZR, (J1k u code c most n m c0 big' c1' O0' D0') ∧ (most = most) ∧ (n = n) ∧ (m = m) ∧ ((([10, 10, 20, 4]).getD (J4 code c0 (([10, 10, 20, 4]).length : Int)).toNat 0) = big') ∧ ((.lit u (.sl (.bytes code)) : D) = .lit u (.sl (.bytes code))) ∧ ((J0 code c0 (([10, 10, 20, 4]).length : Int)).pos = c1'.pos) ∧ ((J0 code c0 (([10, 10, 20, 4]).length : Int)).seed = c1'.seed) ∧ ((O0').length = 0) ∧ ((D0').length = 0) ∧ ((0 : Nat) = O0'.length) ∧ ((0 : Nat) = D0'.length))) ∧ (∀ big : Int, ∀ c1 : Cur, ∀ O0 : ZI, ∀ D0 : ZR, (J1k u code c most n m c0 big c1 O0 D0) → ((((∃ a' : Int, ∃ c3' : Cur, ∃ O1' : ZI, ∃ D1' : ZR, (J0x u code c most n m c0 big c1 O0 D0 a' c3' O1' D1') ∧ (most = most) ∧ (n = n) ∧ (m = m) ∧ (big = big) ∧ ((0 : Int) = a') ∧ ((.lit u (.sl (.bytes code)) : D) = .lit u (.sl (.bytes code))) ∧ (c1.pos = c3'.pos) ∧ (c1.seed = c3'.seed) ∧ (O0 = O1') ∧ (D0 = D1') ∧ (O0.length = O1'.length) ∧ (D0.length = D1'.length)) ∧ (∀ a : Int, ∀ c3 : Cur, ∀ O1 : ZI, ∀ D1 : ZR, (J0x u code c most n m c0 big c1 O0 D0 a c3 O1 D1) → ((decide (a < n)) = true → (decide (a < n)) = true) ∧ ((decide (a < n)) = true → (decide (a < n)) = true) ∧ (true = true) ∧ (((decide (a < n)) = true → (decide (a < n)) = true)) ∧ (((decide (a < n)) = false → true = true)) ∧ (((cond (decide (a < n)) (decide (a < most)) false) = true → (true = true) ∧ (PK Tryz.prog 156 76 (.sl (.bytes code)) [.int .i64 c3.pos, .int .u64 c3.seed] [.int .i64 ((J0 code c3 big).pos), .int .u64 ((J0 code c3 big).seed)] [.int .i64 big] (.one (.d (.int .i64 (J4 code c3 big))))) ∧ (O1.length = O1.length) ∧ ((1 : Nat) = 1) ∧ ((O1.length + 1) * 8 ≤ 140737488355328) ∧ (I6 (a + 1)) ∧ (∃ a' : Int, ∃ c3' : Cur, ∃ O1' : ZI, ∃ D1' : ZR, (J0x u code c most n m c0 big c1 O0 D0 a' c3' O1' D1') ∧ (J0t u code c most n m c0 big c1 O0 D0 a' c3' O1' D1' < J0t u code c most n m c0 big c1 O0 D0 a c3 O1 D1) ∧ (most = most) ∧ (n = n) ∧ (m = m) ∧ (big = big) ∧ ((a + 1) = a') ∧ ((.lit u (.sl (.bytes code)) : D) = .lit u (.sl (.bytes code))) ∧ ((J0 code c3 big).pos = c3'.pos) ∧ ((J0 code c3 big).seed = c3'.seed) ∧ ((O1 ++ [(J4 code c3 big)]) = O1') ∧ (D1 = D1') ∧ ((O1.length + 1) = O1'.length) ∧ (D1.length = D1'.length))) ∧ ((cond (decide (a < n)) (decide (a < most)) false) = false → (∃ c4' : Cur, ∃ O2' : ZI, ∃ D2' : ZR, (J1r u code c most n m c0 big c1 O0 D0 c4' O2' D2') ∧ (most = most) ∧ (m = m) ∧ (big = big) ∧ ((.lit u (.sl (.bytes code)) : D) = .lit u (.sl (.bytes code))) ∧ (c3.pos = c4'.pos) ∧ (c3.seed = c4'.seed) ∧ (O1 = O2') ∧ (D1 = D2') ∧ (O1.length = O2'.length) ∧ (D1.length = D2'.length))))))) ∧ (∀ c4 : Cur, ∀ O2 : ZI, ∀ D2 : ZR, (J1r u code c most n m c0 big c1 O0 D0 c4 O2 D2) → ((∃ i' : Int, ∃ c5' : Cur, ∃ O3' : ZI, ∃ D3' : ZR, (J0w u code c most n m c0 big c1 O0 D0 c4 O2 D2 i' c5' O3' D3') ∧ (most = most) ∧ (m = m) ∧ (big = big) ∧ ((0 : Int) = i') ∧ ((.lit u (.sl (.bytes code)) : D) = .lit u (.sl (.bytes code))) ∧ (c4.pos = c5'.pos) ∧ (c4.seed = c5'.seed) ∧ (O2 = O3') ∧ (D2 = D3') ∧ (O2.length = O3'.length) ∧ (D2.length = D3'.length)) ∧ (∀ i : Int, ∀ c5 : Cur, ∀ O3 : ZI, ∀ D3 : ZR, (J0w u code c most n m c0 big c1 O0 D0 c4 O2 D2 i c5 O3 D3) → ((decide (i < m)) = true → (decide (i < m)) = true) ∧ ((decide (i < m)) = true → (decide (i < m)) = true) ∧ (true = true) ∧ (((decide (i < m)) = true → (decide (i < m)) = true)) ∧ (((decide (i < m)) = false → true = true)) ∧ (((cond (decide (i < m)) (decide (i < most)) false) = true → ((∃ row' : ZI, ∃ a2' : Int, ∃ c6' : Cur, (J0o u code c most n m c0 big c1 O0 D0 c4 O2 D2 i c5 O3 D3 row' a2' c6') ∧ (most = most) ∧ (m = m) ∧ (big = big) ∧ (i = i) ∧ ((0 : Nat) = row'.length) ∧ ((0 : Int) = a2') ∧ ([] = row') ∧ ((.lit u (.sl (.bytes code)) : D) = .lit u (.sl (.bytes code))) ∧ (c5.pos = c6'.pos) ∧ (c5.seed = c6'.seed) ∧ (O3.length = O3.length) ∧ (D3.length = D3.length) ∧ (O3 = O3) ∧ (D3 = D3)) ∧ (∀ row : ZI, ∀ a2 : Int, ∀ c6 : Cur, (J0o u code c most n m c0 big c1 O0 D0 c4 O2 D2 i c5 O3 D3 row a2 c6) → (((decide (a2 < (O3.length : Int))) = true → (PK Tryz.prog 156 76 (.sl (.bytes code)) [.int .i64 c6.pos, .int .u64 c6.seed] [.int .i64 ((J0 code c6 big).pos), .int .u64 ((J0 code c6 big).seed)] [.int .i64 big] (.one (.d (.int .i64 (J4 code c6 big))))) ∧ (row.length = row.length) ∧ ((1 : Nat) = 1) ∧ ((row.length + 1) * 8 ≤ 140737488355328) ∧ (I6 (a2 + 1)) ∧ (∃ row' : ZI, ∃ a2' : Int, ∃ c6' : Cur, (J0o u code c most n m c0 big c1 O0 D0 c4 O2 D2 i c5 O3 D3 row' a2' c6') ∧ (J0v u code c most n m c0 big c1 O0 D0 c4 O2 D2 i c5 O3 D3 row' a2' c6' < J0v u code c most n m c0 big c1 O0 D0 c4 O2 D2 i c5 O3 D3 row a2 c6) ∧ (most = most) ∧ (m = m) ∧ (big = big) ∧ (i = i) ∧ ((row.length + 1) = row'.length) ∧ ((a2 + 1) = a2') ∧ ((row ++ [(J4 code c6 big)]) = row') ∧ ((.lit u (.sl (.bytes code)) : D) = .lit u (.sl (.bytes code))) ∧ ((J0 code c6 big).pos = c6'.pos) ∧ ((J0 code c6 big).seed = c6'.seed) ∧ (O3.length = O3.length) ∧ (D3.length = D3.length) ∧ (O3 = O3) ∧ (D3 = D3))) ∧ ((decide (a2 < (O3.length : Int))) = false → (row.length = row.length) ∧ (D3.length = D3.length) ∧ ((1 : Nat) = 1) ∧ (0 < 1) ∧ ((D3.length + 1) * 24 ≤ 140737488355328) ∧ (I6 (i + 1)) ∧ (∃ i' : Int, ∃ c5' : Cur, ∃ O3' : ZI, ∃ D3' : ZR, (J0w u code c most n m c0 big c1 O0 D0 c4 O2 D2 i' c5' O3' D3') ∧ (J0s u code c most n m c0 big c1 O0 D0 c4 O2 D2 i' c5' O3' D3' < J0s u code c most n m c0 big c1 O0 D0 c4 O2 D2 i c5 O3 D3) ∧ (most = most) ∧ (m = m) ∧ (big = big) ∧ ((i + 1) = i') ∧ ((.lit u (.sl (.bytes code)) : D) = .lit u (.sl (.bytes code))) ∧ (c6.pos = c5'.pos) ∧ (c6.seed = c5'.seed) ∧ (O3 = O3') ∧ ((D3 ++ [row]) = D3') ∧ (O3.length = O3'.length) ∧ ((D3.length + 1) = D3'.length))))))) ∧ ((cond (decide (i < m)) (decide (i < most)) false) = false → (∃ O' : ZI, ∃ D' : ZR, ∃ cf' : Cur, (J02 code c most O' D' cf') ∧ (true = true) ∧ ((.lit u (.sl (.bytes code)) : D) = .lit u (.sl (.bytes code))) ∧ (c5.pos = cf'.pos) ∧ (c5.seed = cf'.seed) ∧ (O3.length = O3.length) ∧ ((O3 : ZI) = O') ∧ (D3.length = D3.length) ∧ ((D3 : ZR) = D'))))))))))))
theorem J5M (u : Value) (code : List Nat) (c : Cur) (most : Int) (hb : ∀ x9 ∈ code, x9 < 256) (hc : okC c 3000000) (hm : 0 ≤ most ∧ most ≤ 7)  : J1T u code c most := by
  unfold J1T
  refine ⟨?_, ?_⟩
  ·refine ⟨rfl, ?_, rfl, ?_, ?_⟩
   ·refine Jg code c ([3, 4, 2, 5, 1, 6, 7]) ?_ ?_ ?_
    ·exact hb
    ·exact J5 (by assumption) (by omega)
    ·simp
   ·refine Jg code (J0 code c (([3, 4, 2, 5, 1, 6, 7]).length : Int)) ([4, 3, 5, 2, 6, 7, 1, 0]) ?_ ?_ ?_
    ·exact hb
    ·exact J5 (J6 (by assumption)) (by omega)
    ·simp
   ·refine ⟨(([3, 4, 2, 5, 1, 6, 7]).getD (J4 code c (([3, 4, 2, 5, 1, 6, 7]).length : Int)).toNat 0), (([4, 3, 5, 2, 6, 7, 1, 0]).getD (J4 code (J0 code c (([3, 4, 2, 5, 1, 6, 7]).length : Int)) (([4, 3, 5, 2, 6, 7, 1, 0]).length : Int)).toNat 0), (J0 code (J0 code c (([3, 4, 2, 5, 1, 6, 7]).length : Int)) (([4, 3, 5, 2, 6, 7, 1, 0]).length : Int)), ?_⟩
    refine ⟨?_, rfl, rfl, rfl, rfl, rfl, rfl⟩
    ·refine ⟨?_, ?_, ?_⟩
     ·exact J1u (p := fun z => 0 ≤ z ∧ z ≤ 7) [3, 4, 2, 5, 1, 6, 7] code _ (by simp) (by simp)
     ·exact J1u (p := fun z => 0 ≤ z ∧ z ≤ 7) [4, 3, 5, 2, 6, 7, 1, 0] code _ (by simp) (by simp)
     ·exact J5 (J6 (J6 (by assumption))) (by omega)
  intro n m c0 hJ
  obtain ⟨n1, n2, n7⟩ := hJ
  refine ⟨?_, ?_⟩
  ·refine ⟨rfl, ?_, ?_⟩
   ·refine Jg code c0 ([10, 10, 20, 4]) ?_ ?_ ?_
    ·exact hb
    ·exact J5 (by assumption) (by omega)
    ·simp
   ·refine ⟨(([10, 10, 20, 4]).getD (J4 code c0 (([10, 10, 20, 4]).length : Int)).toNat 0), (J0 code c0 (([10, 10, 20, 4]).length : Int)), ([]), ([]), ?_⟩
    refine ⟨?_, rfl, rfl, rfl, rfl, rfl, rfl, rfl, ?_, ?_, rfl, rfl⟩
    ·refine ⟨?_, ?_, ?_, ?_⟩
     ·exact J1u (p := fun z => 1 ≤ z ∧ z ≤ 20) [10, 10, 20, 4] code _ (by simp) (by simp)
     ·exact J5 (J6 (by assumption)) (by omega)
     ·rfl
     ·rfl
    ·rfl
    rfl
  intro big c1 O0 D0 hJ
  obtain ⟨n3, n4, n5, n6⟩ := hJ
  refine ⟨?_, ?_⟩
  ·refine ⟨?_, ?_⟩
   ·refine ⟨0, c1, O0, D0, ?_⟩
    refine ⟨?_, rfl, rfl, rfl, rfl, rfl, rfl, rfl, rfl, rfl, rfl, rfl, rfl⟩
    ·refine ⟨?_, ?_, ?_, ?_, ?_⟩
     ·omega
     ·omega
     ·(simp_all; done)
     ·assumption
     ·exact J5 (by assumption) (by omega)
   ·intro a c3 O1 D1 hJ
    obtain ⟨h1, h2, h3, h4, h5⟩ := hJ
    refine ⟨id, id, rfl, id, fun _ => rfl, ?_, ?_⟩
    ·intro b1
     refine ⟨rfl, ?_, rfl, rfl, ?_, ?_, ?_⟩
     ·refine Jm code c3 big ?_ ?_
      ·exact hb
      ·exact J5 (by assumption) (by omega)
     ·omega
     ·omega
     refine ⟨(a + 1), (J0 code c3 big), (O1 ++ [(J4 code c3 big)]), D1, ?_⟩
     refine ⟨?_, ?_, rfl, rfl, rfl, rfl, rfl, rfl, rfl, rfl, rfl, rfl, ?_, rfl⟩
     ·refine ⟨?_, ?_, ?_, ?_, ?_⟩
      ·omega
      ·(simp_all <;> omega)
      ·(simp_all <;> omega)
      ·assumption
      ·exact J5 (J6 (by assumption)) (by omega)
     ·(simp only [J0t] at *; simp at *; omega)
     simp
    intro b2
    refine ⟨c3, O1, D1, ?_⟩
    refine ⟨?_, rfl, rfl, rfl, rfl, rfl, rfl, rfl, rfl, rfl, rfl⟩
    ·refine ⟨?_, ?_, ?_⟩
     ·exact J5 (by assumption) (by omega)
     ·omega
     ·assumption
  intro c4 O2 D2 hJ
  obtain ⟨j0, j1, j2⟩ := hJ
  refine ⟨?_, ?_⟩
  ·refine ⟨0, c4, O2, D2, ?_⟩
   refine ⟨?_, rfl, rfl, rfl, rfl, rfl, rfl, rfl, rfl, rfl, rfl, rfl⟩
   ·refine ⟨?_, ?_, ?_, ?_, ?_, ?_⟩
    ·omega
    ·omega
    ·(simp_all; done)
    ·omega
    ·exact J5 (by assumption) (by omega)
    ·(rw [j2]; intro r hr; cases hr)
  intro i c5 O3 D3 hJ
  obtain ⟨k1, k2, k3, k4, k5, k6⟩ := hJ
  refine ⟨id, id, rfl, id, fun _ => rfl, ?_, ?_⟩
  ·intro b3
   refine ⟨?_, ?_⟩
   ·refine ⟨([]), 0, c5, ?_⟩
    refine ⟨?_, rfl, rfl, rfl, rfl, rfl, rfl, ?_, rfl, rfl, rfl, rfl, rfl, rfl, rfl⟩
    ·refine ⟨?_, ?_, ?_, ?_, ?_⟩
     ·omega
     ·omega
     ·rfl
     ·exact J5 (by assumption) (by omega)
     ·(intro r hr; cases hr)
    rfl
   intro row a2 c6 hJ
   obtain ⟨m1, m2, m3, m4, m5⟩ := hJ
   refine ⟨?_, ?_⟩
   ·intro b4
    try simp only [nrmT] at b4
    refine ⟨?_, rfl, rfl, ?_, ?_, ?_⟩
    ·refine Jm code c6 big ?_ ?_
     ·exact hb
     ·exact J5 (by assumption) (by omega)
    ·omega
    ·omega
    refine ⟨(row ++ [(J4 code c6 big)]), (a2 + 1), (J0 code c6 big), ?_⟩
    refine ⟨?_, ?_, rfl, rfl, rfl, rfl, ?_, rfl, rfl, rfl, rfl, rfl, rfl, rfl, rfl, rfl⟩
    ·refine ⟨?_, ?_, ?_, ?_, ?_⟩
     ·omega
     ·omega
     ·(simp_all <;> omega)
     ·exact J5 (J6 (by assumption)) (by omega)
     ·refine J7F (by assumption) ?_
      have v := Jf code c6 (n := big) (by omega)
      omega
    ·(simp only [J0v]; omega)
    simp
   intro b5
   try simp only [nrmT] at b5
   refine ⟨rfl, rfl, rfl, by decide, ?_, ?_, ?_⟩
   ·omega
   ·omega
   refine ⟨(i + 1), c6, O3, (D3 ++ [row]), ?_⟩
   refine ⟨?_, ?_, rfl, rfl, rfl, rfl, rfl, rfl, rfl, rfl, rfl, rfl, ?_⟩
   ·refine ⟨?_, ?_, ?_, ?_, ?_, ?_⟩
    ·omega
    ·(simp_all <;> omega)
    ·(simp_all <;> omega)
    ·omega
    ·exact J5 (by assumption) (by omega)
    ·refine J7F (by assumption) ?_
     exact ⟨by omega, by assumption⟩
   ·(simp only [J0s] at *; simp at *; omega)
   simp
  intro b6
  refine ⟨O3, D3, c5, ?_⟩
  refine ⟨?_, rfl, rfl, rfl, rfl, rfl, rfl, rfl, rfl⟩
  ·refine ⟨?_, ?_⟩
   ·exact J5 (by assumption) (by omega)
   ·exact ⟨by omega, by omega, by assumption⟩
theorem J1p (code : List Nat) (c : Cur) (most : Int) (hb : ∀ x9 ∈ code, x9 < 256) (hc : okC c 3000000) (hm : 0 ≤ most ∧ most ≤ 7) : PKE Tryz.prog 188 76 (.sl (.bytes code)) [.int .i64 c.pos, .int .u64 c.seed] [.int .i64 most] (JD code c most) :=
  pke_by (Q := fun u => J1T u code c most) (by kernel_rfl) Tryz.func188 @Tryz.call188 (by kernel_rfl) J61 (fun u => J5X u code c most) (by kernel_rfl) (fun u => J5M u code c most hb hc hm) (fun u => by kernel_rfl)
abbrev J07 (u : Value) (code : List Nat) (c : Cur) (most : Int) (pl : ZI) (c0 : Cur) (O0 : ZI) (D0 : ZR) (pl2 : ZI) (a : Int) (c1 : Cur) : Prop := (0 ≤ a) ∧ (a ≤ (O0.length : Int)) ∧ (pl2.length = a.toNat) ∧ (∀ y ∈ pl2, 0 ≤ y ∧ y < 20) ∧ (okC c1 (4000000 + 4 * a))
abbrev J09 (u : Value) (code : List Nat) (c : Cur) (most : Int) (pl : ZI) (c0 : Cur) (O0 : ZI) (D0 : ZR) (pl2 : ZI) (a : Int) (c1 : Cur) : Nat := (O0.length - a).toNat
abbrev J1b (u : Value) (code : List Nat) (c : Cur) (most : Int) (pl : ZI) (c0 : Cur) (O0 : ZI) (D0 : ZR) (pl1 : ZI) (c2 : Cur) : Prop := (okC c2 4001000) ∧ (pl1.length = O0.length) ∧ (∀ y ∈ pl1, 0 ≤ y ∧ y < 20)
abbrev J08 (u : Value) (code : List Nat) (c : Cur) (most : Int) (pl : ZI) (c0 : Cur) (O0 : ZI) (D0 : ZR) (pl1 : ZI) (c2 : Cur) (i : Int) (c3 : Cur) (O1 : ZI) (D1 : ZR) : Prop := (0 ≤ i) ∧ (i ≤ (D1.length : Int)) ∧ (drF O1 D1) ∧ (pl1.length = O1.length) ∧ (okC c3 (4001000 + 10 * i))
abbrev J05 (u : Value) (code : List Nat) (c : Cur) (most : Int) (pl : ZI) (c0 : Cur) (O0 : ZI) (D0 : ZR) (pl1 : ZI) (c2 : Cur) (i : Int) (c3 : Cur) (O1 : ZI) (D1 : ZR) : Nat := (D1.length - i).toNat
abbrev J04 (u : Value) (code : List Nat) (c : Cur) (most : Int) (pl : ZI) (c0 : Cur) (O0 : ZI) (D0 : ZR) (pl1 : ZI) (c2 : Cur) (i : Int) (c3 : Cur) (O1 : ZI) (D1 : ZR) (x : Int) (c5 : Cur) (a2 : Int) (D2 : ZR) : Prop := (0 ≤ a2) ∧ (a2 ≤ (O1.length : Int)) ∧ (drF O1 D2) ∧ (D2.length = D1.length)
abbrev J06 (u : Value) (code : List Nat) (c : Cur) (most : Int) (pl : ZI) (c0 : Cur) (O0 : ZI) (D0 : ZR) (pl1 : ZI) (c2 : Cur) (i : Int) (c3 : Cur) (O1 : ZI) (D1 : ZR) (x : Int) (c5 : Cur) (a2 : Int) (D2 : ZR) : Nat := (O1.length - a2).toNat
abbrev J1c (u : Value) (code : List Nat) (c : Cur) (most : Int) (pl : ZI) (c0 : Cur) (O0 : ZI) (D0 : ZR) : Prop := (pl = []) ∧ (okC c0 4000000) ∧ (drF O0 D0)
abbrev J1e (u : Value) (code : List Nat) (c : Cur) (most : Int) (pl : ZI) (c0 : Cur) (O0 : ZI) (D0 : ZR) (pl1 : ZI) (c2 : Cur) (i : Int) (c3 : Cur) (O1 : ZI) (D1 : ZR) (x : Int) (c5 : Cur) : Prop := (0 ≤ x ∧ x < 20) ∧ (okC c5 (4001010 + 10 * i))
abbrev J1y (code : List Nat) (c : Cur) (most : Int) (O : ZI) (D : ZR) (cg : Cur) : Prop := (okC cg 6000000) ∧ (drF O D)
def J1G (code : List Nat) (c : Cur) (most : Int) : Ex := ex3 1 (fun (O : ZI) (D : ZR) (cg : Cur) => J1y code c most O D cg) (fun (O : ZI) (D : ZR) (cg : Cur) => [.int .i64 cg.pos, .int .u64 cg.seed]) (fun (O : ZI) (D : ZR) (cg : Cur) => .agg [.own 3 (.ints O), .mat 3 24 D])
def J5N (f : FuncId) (ds : List D) : Orc := bif Nat.beq f 154 then JaS ds else .no
def J5L (u : Value) (code : List Nat) (c : Cur) (most : Int) : Ann := .two (.none) (.cut (.exr (.ex [] 2 (JD code c most) (fun g => (fun (Or1 : ZI) (Dr1 : ZR) (cfr1 : Cur) => .ms [] []) (g.1) (g.2.1) (g.2.2)))) (cut4 (fun (pl : ZI) (c0 : Cur) (O0 : ZI) (D0 : ZR) => J1c u code c most pl c0 O0 D0) (fun (pl : ZI) (c0 : Cur) (O0 : ZI) (D0 : ZR) => [(0, .ptr 0 0), (4, .ptr 4 0), (5, .ptr 5 0), (6, .own 1500100 pl.length)]) (fun (pl : ZI) (c0 : Cur) (O0 : ZI) (D0 : ZR) => [(1500100, .arr true 3 (.ints pl)), (0, .box 76 [.d false (.lit u (.sl (.bytes code))), .d true (.int .i64 c0.pos), .d true (.int .u64 c0.seed)]), (4, .box 27 [.d true (.nil), .d true (.nil)]), (1500102, .arr true 3 (.ints O0)), (1500103, .mat 3 24 D0 none), (5, .box 27 [.own 1500102 O0.length, .own 1500103 D0.length])])) (fun g => (fun (pl : ZI) (c0 : Cur) (O0 : ZI) (D0 : ZR) => .cut (.two (.none) (.loop (cut3 (fun (pl2 : ZI) (a : Int) (c1 : Cur) => J07 u code c most pl c0 O0 D0 pl2 a c1) (fun (pl2 : ZI) (a : Int) (c1 : Cur) => [(0, .ptr 0 0), (4, .ptr 4 0), (5, .ptr 5 0), (6, .own 1000000 pl2.length), (7, .d true (.int .i64 a))]) (fun (pl2 : ZI) (a : Int) (c1 : Cur) => [(1000000, .arr true 3 (.ints pl2)), (0, .box 76 [.d false (.lit u (.sl (.bytes code))), .d true (.int .i64 c1.pos), .d true (.int .u64 c1.seed)]), (4, .box 27 [.d true (.nil), .d true (.nil)]), (5, .box 27 [.own 1500102 O0.length, .own 1500103 D0.length]), (1500102, .arr true 3 (.ints O0)), (1500103, .mat 3 24 D0 none)])) (fun g => J09 u code c most pl c0 O0 D0 g.1 g.2.1 g.2.2) (fun g => (fun (pl2 : ZI) (a : Int) (c1 : Cur) => .two (.none) (.two (.mark [] [(2, .cell [.int .i64 ((J0 code c1 20).pos), .int .u64 ((J0 code c1 20).seed)] (.one (.d (.int .i64 (J4 code c1 20)))))]) (.none))) (g.1) (g.2.1) (g.2.2)))) (cut2 (fun (pl1 : ZI) (c2 : Cur) => J1b u code c most pl c0 O0 D0 pl1 c2) (fun (pl1 : ZI) (c2 : Cur) => [(0, .ptr 0 0), (4, .ptr 4 0), (5, .ptr 5 0), (6, .own 1000050 pl1.length)]) (fun (pl1 : ZI) (c2 : Cur) => [(1000050, .arr true 3 (.ints pl1)), (0, .box 76 [.d false (.lit u (.sl (.bytes code))), .d true (.int .i64 c2.pos), .d true (.int .u64 c2.seed)]), (4, .box 27 [.d true (.nil), .d true (.nil)]), (5, .box 27 [.own 1500102 O0.length, .own 1500103 D0.length]), (1500102, .arr true 3 (.ints O0)), (1500103, .mat 3 24 D0 none)])) (fun g => (fun (pl1 : ZI) (c2 : Cur) => .two (.two (.none) (.loop (cut4 (fun (i : Int) (c3 : Cur) (O1 : ZI) (D1 : ZR) => J08 u code c most pl c0 O0 D0 pl1 c2 i c3 O1 D1) (fun (i : Int) (c3 : Cur) (O1 : ZI) (D1 : ZR) => [(0, .ptr 0 0), (4, .ptr 4 0), (5, .ptr 5 0), (6, .own 1000050 pl1.length), (8, .d true (.int .i64 i))]) (fun (i : Int) (c3 : Cur) (O1 : ZI) (D1 : ZR) => [(0, .box 76 [.d false (.lit u (.sl (.bytes code))), .d true (.int .i64 c3.pos), .d true (.int .u64 c3.seed)]), (4, .box 27 [.d true (.nil), .d true (.nil)]), (1000102, .arr true 3 (.ints O1)), (1000103, .mat 3 24 D1 none), (5, .box 27 [.own 1000102 O1.length, .own 1000103 D1.length]), (1000050, .arr true 3 (.ints pl1))])) (fun g => J05 u code c most pl c0 O0 D0 pl1 c2 g.1 g.2.1 g.2.2.1 g.2.2.2) (fun g => (fun (i : Int) (c3 : Cur) (O1 : ZI) (D1 : ZR) => .two (.none) (.two (.cut (.mark [] [(1, .cell [.int .i64 ((J0 code c3 20).pos), .int .u64 ((J0 code c3 20).seed)] (.one (.d (.int .i64 (J4 code c3 20)))))]) (cut2 (fun (x : Int) (c5 : Cur) => J1e u code c most pl c0 O0 D0 pl1 c2 i c3 O1 D1 x c5) (fun (x : Int) (c5 : Cur) => [(0, .ptr 0 0), (4, .ptr 4 0), (5, .ptr 5 0), (6, .own 1000050 pl1.length), (8, .d true (.int .i64 i)), (9, .d true (.int .i64 x))]) (fun (x : Int) (c5 : Cur) => [(0, .box 76 [.d false (.lit u (.sl (.bytes code))), .d true (.int .i64 c5.pos), .d true (.int .u64 c5.seed)]), (4, .box 27 [.d true (.nil), .d true (.nil)]), (5, .box 27 [.own 1000102 O1.length, .own 1000103 D1.length]), (1000050, .arr true 3 (.ints pl1)), (1000102, .arr true 3 (.ints O1)), (1000103, .mat 3 24 D1 none)])) (fun g => (fun (x : Int) (c5 : Cur) => .two (.none) (.loop (cut2 (fun (a2 : Int) (D2 : ZR) => J04 u code c most pl c0 O0 D0 pl1 c2 i c3 O1 D1 x c5 a2 D2) (fun (a2 : Int) (D2 : ZR) => [(0, .ptr 0 0), (4, .ptr 4 0), (5, .ptr 5 0), (6, .own 1000050 pl1.length), (8, .d true (.int .i64 i)), (9, .d true (.int .i64 x)), (10, .d true (.int .i64 a2))]) (fun (a2 : Int) (D2 : ZR) => [(0, .box 76 [.d false (.lit u (.sl (.bytes code))), .d true (.int .i64 c5.pos), .d true (.int .u64 c5.seed)]), (4, .box 27 [.d true (.nil), .d true (.nil)]), (1000201, .mat 3 24 D2 none), (5, .box 27 [.own 1000102 O1.length, .own 1000201 D2.length]), (1000050, .arr true 3 (.ints pl1)), (1000102, .arr true 3 (.ints O1))])) (fun g => J06 u code c most pl c0 O0 D0 pl1 c2 i c3 O1 D1 x c5 g.1 g.2) (fun _ => .none))) (g.1) (g.2))) (.none))) (g.1) (g.2.1) (g.2.2.1) (g.2.2.2)))) (.none)) (g.1) (g.2))) (g.1) (g.2.1) (g.2.2.1) (g.2.2.2)))
def J1A (u : Value) (code : List Nat) (c : Cur) (most : Int) : Prop :=
  (((PKE Tryz.prog 188 76 (.sl (.bytes code)) [.int .i64 c.pos, .int .u64 c.seed] [.int .i64 most] (JD code c most)) ∧ (∀ Or1 : ZI, ∀ Dr1 : ZR, ∀ cfr1 : Cur, J02 code c most Or1 Dr1 cfr1 → ((true = true) ∧ (∃ pl' : ZI, ∃ c0' : Cur, ∃ O0' : ZI, ∃ D0' : ZR, (J1c u code c most pl' c0' O0' D0') ∧ ((0 : Nat) = pl'.length) ∧ ([] = pl') ∧ ((.lit u (.sl (.bytes code)) : D) = .lit u (.sl (.bytes code))) ∧ (cfr1.pos = c0'.pos) ∧ (cfr1.seed = c0'.seed) ∧ (Or1 = O0') ∧ (Dr1 = D0') ∧ (Or1.length = O0'.length) ∧ (Dr1.length = D0'.length))))) ∧ (∀ pl : ZI, ∀ c0 : Cur, ∀ O0 : ZI, ∀ D0 : ZR, (J1c u code c most pl c0 O0 D0) → ((((∃ pl2' : ZI, ∃ a' : Int, ∃ c1' : Cur, (J07 u code c most pl c0 O0 D0 pl2' a' c1') ∧ (pl.length = pl2'.length) ∧ ((0 : Int) = a') ∧ (pl = pl2') ∧ ((.lit u (.sl (.bytes code)) : D) = .lit u (.sl (.bytes code))) ∧ (c0.pos = c1'.pos) ∧ (c0.seed = c1'.seed) ∧ (O0.length = O0.length) ∧ (D0.length = D0.length) ∧ (O0 = O0) ∧ (D0 = D0)) ∧ (∀ pl2 : ZI, ∀ a : Int, ∀ c1 : Cur, (J07 u code c most pl c0 O0 D0 pl2 a c1) → (((decide (a < (O0.length : Int))) = true → (PK Tryz.prog 156 76 (.sl (.bytes code)) [.int .i64 c1.pos, .int .u64 c1.seed] [.int .i64 ((J0 code c1 20).pos), .int .u64 ((J0 code c1 20).seed)] [.int .i64 20] (.one (.d (.int .i64 (J4 code c1 20))))) ∧ (pl2.length = pl2.length) ∧ ((1 : Nat) = 1) ∧ ((pl2.length + 1) * 8 ≤ 140737488355328) ∧ (I6 (a + 1)) ∧ (∃ pl2' : ZI, ∃ a' : Int, ∃ c1' : Cur, (J07 u code c most pl c0 O0 D0 pl2' a' c1') ∧ (J09 u code c most pl c0 O0 D0 pl2' a' c1' < J09 u code c most pl c0 O0 D0 pl2 a c1) ∧ ((pl2.length + 1) = pl2'.length) ∧ ((a + 1) = a') ∧ ((pl2 ++ [(J4 code c1 20)]) = pl2') ∧ ((.lit u (.sl (.bytes code)) : D) = .lit u (.sl (.bytes code))) ∧ ((J0 code c1 20).pos = c1'.pos) ∧ ((J0 code c1 20).seed = c1'.seed) ∧ (O0.length = O0.length) ∧ (D0.length = D0.length) ∧ (O0 = O0) ∧ (D0 = D0))) ∧ ((decide (a < (O0.length : Int))) = false → (∃ pl1' : ZI, ∃ c2' : Cur, (J1b u code c most pl c0 O0 D0 pl1' c2') ∧ (pl2.length = pl1'.length) ∧ (pl2 = pl1') ∧ ((.lit u (.sl (.bytes code)) : D) = .lit u (.sl (.bytes code))) ∧ (c1.pos = c2'.pos) ∧ (c1.seed = c2'.seed) ∧ (O0.length = O0.length) ∧ (D0.length = D0.length) ∧ (O0 = O0) ∧ (D0 = D0))))))) ∧ (∀ pl1 : ZI, ∀ c2 : Cur, (J1b u code c most pl c0 O0 D0 pl1 c2) → ((∃ i' : Int, ∃ c3' : Cur, ∃ O1' : ZI, ∃ D1' : ZR, (J08 u code c most pl c0 O0 D0 pl1 c2 i' c3' O1' D1') ∧ (pl1.length = pl1.length) ∧ ((0 : Int) = i') ∧ ((.lit u (.sl (.bytes code)) : D) = .lit u (.sl (.bytes code))) ∧ (c2.pos = c3'.pos) ∧ (c2.seed = c3'.seed) ∧ (O0 = O1') ∧ (D0 = D1') ∧ (O0.length = O1'.length) ∧ (D0.length = D1'.length) ∧ (pl1 = pl1)) ∧ (∀ i : Int, ∀ c3 : Cur, ∀ O1 : ZI, ∀ D1 : ZR, (J08 u code c most pl c0 O0 D0 pl1 c2 i c3 O1 D1) → (((decide (i < (D1.length : Int))) = true → (((PK Tryz.prog 156 76 (.sl (.bytes code)) [.int .i64 c3.pos, .int .u64 c3.seed] [.int .i64 ((J0 code c3 20).pos), .int .u64 ((J0 code c3 20).seed)] [.int .i64 20] (.one (.d (.int .i64 (J4 code c3 20))))) ∧ (∃ x' : Int, ∃ c5' : Cur, (J1e u code c most pl c0 O0 D0 pl1 c2 i c3 O1 D1 x' c5') ∧ (pl1.length = pl1.length) ∧ (i = i) ∧ ((J4 code c3 20) = x') ∧ ((.lit u (.sl (.bytes code)) : D) = .lit u (.sl (.bytes code))) ∧ ((J0 code c3 20).pos = c5'.pos) ∧ ((J0 code c3 20).seed = c5'.seed) ∧ (O1.length = O1.length) ∧ (D1.length = D1.length) ∧ (pl1 = pl1) ∧ (O1 = O1) ∧ (D1 = D1))) ∧ (∀ x : Int, ∀ c5 : Cur, (J1e u code c most pl c0 O0 D0 pl1 c2 i c3 O1 D1 x c5) → ((∃ a2' : Int, ∃ D2' : ZR, (J04 u code c most pl c0 O0 D0 pl1 c2 i c3 O1 D1 x c5 a2' D2') ∧ (pl1.length = pl1.length) ∧ (i = i) ∧ (x = x) ∧ ((0 : Int) = a2') ∧ ((.lit u (.sl (.bytes code)) : D) = .lit u (.sl (.bytes code))) ∧ (c5.pos = c5.pos) ∧ (c5.seed = c5.seed) ∧ (D1 = D2') ∧ (O1.length = O1.length) ∧ (D1.length = D2'.length) ∧ (pl1 = pl1) ∧ (O1 = O1)) ∧ (∀ a2 : Int, ∀ D2 : ZR, (J04 u code c most pl c0 O0 D0 pl1 c2 i c3 O1 D1 x c5 a2 D2) → (((decide (a2 < (O1.length : Int))) = true → (true = true) ∧ ((0 : Int) ≤ i) ∧ ((i : Int) < (D2.length : Int)) ∧ (i.toNat < D2.length) ∧ ((0 : Int) ≤ a2) ∧ ((a2 : Int) < (pl1.length : Int)) ∧ (a2.toNat < pl1.length) ∧ (I6 (x - (pl1.getD a2.toNat 0))) ∧ ((0 : Int) ≤ a2) ∧ ((a2 : Int) < (pl1.length : Int)) ∧ (a2.toNat < pl1.length) ∧ (I6 ((pl1.getD a2.toNat 0) - x)) ∧ (PC Tryz.prog 154 [.int .i64 (x - (pl1.getD a2.toNat 0)), .int .i64 ((pl1.getD a2.toNat 0) - x)] (.one (.d (.int .i64 (max (x - (pl1.getD a2.toNat 0)) ((pl1.getD a2.toNat 0) - x)))))) ∧ ((0 : Int) ≤ a2) ∧ ((a2 : Int) < (((D2.getD i.toNat []).length) : Int)) ∧ (i.toNat < D2.length) ∧ (a2.toNat < (D2.getD i.toNat []).length) ∧ (I6 (a2 + 1)) ∧ (∃ a2' : Int, ∃ D2' : ZR, (J04 u code c most pl c0 O0 D0 pl1 c2 i c3 O1 D1 x c5 a2' D2') ∧ (J06 u code c most pl c0 O0 D0 pl1 c2 i c3 O1 D1 x c5 a2' D2' < J06 u code c most pl c0 O0 D0 pl1 c2 i c3 O1 D1 x c5 a2 D2) ∧ (pl1.length = pl1.length) ∧ (i = i) ∧ (x = x) ∧ ((a2 + 1) = a2') ∧ ((.lit u (.sl (.bytes code)) : D) = .lit u (.sl (.bytes code))) ∧ (c5.pos = c5.pos) ∧ (c5.seed = c5.seed) ∧ ((D2.set i.toNat ((D2.getD i.toNat []).set a2.toNat (max (x - (pl1.getD a2.toNat 0)) ((pl1.getD a2.toNat 0) - x)))) = D2') ∧ (O1.length = O1.length) ∧ (D2.length = D2'.length) ∧ (pl1 = pl1) ∧ (O1 = O1))) ∧ ((decide (a2 < (O1.length : Int))) = false → (I6 (i + 1)) ∧ (∃ i' : Int, ∃ c3' : Cur, ∃ O1' : ZI, ∃ D1' : ZR, (J08 u code c most pl c0 O0 D0 pl1 c2 i' c3' O1' D1') ∧ (J05 u code c most pl c0 O0 D0 pl1 c2 i' c3' O1' D1' < J05 u code c most pl c0 O0 D0 pl1 c2 i c3 O1 D1) ∧ (pl1.length = pl1.length) ∧ ((i + 1) = i') ∧ ((.lit u (.sl (.bytes code)) : D) = .lit u (.sl (.bytes code))) ∧ (c5.pos = c3'.pos) ∧ (c5.seed = c3'.seed) ∧ (O1 = O1') ∧ (D2 = D1') ∧ (O1.length = O1'.length) ∧ (D2.length = D1'.length) ∧ (pl1 = pl1))))))))) ∧ ((decide (i < (D1.length : Int))) = false → (∃ O' : ZI, ∃ D' : ZR, ∃ cg' : Cur, (J1y code c most O' D' cg') ∧ (true = true) ∧ ((.lit u (.sl (.bytes code)) : D) = .lit u (.sl (.bytes code))) ∧ (c3.pos = cg'.pos) ∧ (c3.seed = cg'.seed) ∧ (O1.length = O1.length) ∧ ((O1 : ZI) = O') ∧ (D1.length = D1.length) ∧ ((D1 : ZR) = D'))))))))))
theorem J5h (u : Value) (code : List Nat) (c : Cur) (most : Int) (hb : ∀ x9 ∈ code, x9 < 256) (hc : okC c 3000000) (hm : 0 ≤ most ∧ most ≤ 7)  : J1A u code c most := by
  unfold J1A
  refine ⟨?_, ?_⟩
  ·refine ⟨?_, ?_⟩
   ·refine J1p code c most ?_ ?_ ?_
    ·exact hb
    ·exact J5 (by assumption) (by omega)
    ·omega
   ·intro Or1 Dr1 cfr1 hQ9
    obtain ⟨f1r1, f2r1⟩ := hQ9
    refine ⟨rfl, ?_⟩
    ·refine ⟨([]), cfr1, Or1, Dr1, ?_⟩
     refine ⟨?_, rfl, ?_, rfl, rfl, rfl, rfl, rfl, rfl, rfl⟩
     ·refine ⟨?_, ?_, ?_⟩
      ·rfl
      ·exact J5 (by assumption) (by omega)
      ·assumption
     rfl
  intro pl c0 O0 D0 hJ
  obtain ⟨p1, p2, d0⟩ := hJ
  refine ⟨?_, ?_⟩
  ·refine ⟨?_, ?_⟩
   ·refine ⟨pl, 0, c0, ?_⟩
    refine ⟨?_, rfl, rfl, rfl, rfl, rfl, rfl, rfl, rfl, rfl, rfl⟩
    ·refine ⟨?_, ?_, ?_, ?_, ?_⟩
     ·omega
     ·omega
     ·(simp_all; done)
     ·(rw [p1]; intro y hy; cases hy)
     ·exact J5 (by assumption) (by omega)
   ·intro pl2 a c1 hJ
    obtain ⟨h1, h2, h3, h4, h5⟩ := hJ
    refine ⟨?_, ?_⟩
    ·intro b1
     try simp only [nrmT] at b1
     refine ⟨?_, rfl, rfl, ?_, ?_, ?_⟩
     ·refine Jm code c1 20 ?_ ?_
      ·exact hb
      ·(have q9 := d0.1; exact J5 (by repeat (first | assumption | apply J6C | apply J6 | apply JR | exact J9b)) (by omega))
     ·have q := d0.1; omega
     ·(have q := d0.1; omega)
     refine ⟨(pl2 ++ [(J4 code c1 20)]), (a + 1), (J0 code c1 20), ?_⟩
     refine ⟨?_, ?_, ?_, rfl, rfl, rfl, rfl, rfl, rfl, rfl, rfl, rfl⟩
     ·refine ⟨?_, ?_, ?_, ?_, ?_⟩
      ·omega
      ·omega
      ·(simp_all <;> omega)
      ·refine J7F (by assumption) ?_
       exact Jf code c1 (n := 20) (by omega)
      ·exact J5 (J6 (by assumption)) (by omega)
     ·(simp only [J09]; omega)
     simp
    intro b2
    try simp only [nrmT] at b2
    refine ⟨pl2, c1, ?_⟩
    refine ⟨?_, rfl, rfl, rfl, rfl, rfl, rfl, rfl, rfl, rfl⟩
    ·refine ⟨?_, ?_, ?_⟩
     ·(have q9 := d0.1; exact J5 (by repeat (first | assumption | apply J6C | apply J6 | apply JR | exact J9b)) (by omega))
     ·omega
     ·assumption
  intro pl1 c2 hJ
  obtain ⟨p4, p5, p3⟩ := hJ
  refine ⟨?_, ?_⟩
  ·refine ⟨0, c2, O0, D0, ?_⟩
   refine ⟨?_, rfl, rfl, rfl, rfl, rfl, rfl, rfl, rfl, rfl, rfl⟩
   ·refine ⟨?_, ?_, ?_, ?_, ?_⟩
    ·omega
    ·omega
    ·assumption
    ·omega
    ·exact J5 (by assumption) (by omega)
  intro i c3 O1 D1 hJ
  obtain ⟨k1, k2, d1, k6, k5⟩ := hJ
  refine ⟨?_, ?_⟩
  ·intro b3
   try simp only [nrmT] at b3
   refine ⟨?_, ?_⟩
   ·refine ⟨?_, ?_⟩
    ·refine Jm code c3 20 ?_ ?_
     ·exact hb
     ·(have q9 := d1.2.1; exact J5 (by repeat (first | assumption | apply J6C | apply J6 | apply JR | exact J9b)) (by omega))
    ·refine ⟨(J4 code c3 20), (J0 code c3 20), ?_⟩
     refine ⟨?_, rfl, rfl, rfl, rfl, rfl, rfl, rfl, rfl, rfl, rfl, rfl⟩
     ·refine ⟨?_, ?_⟩
      ·exact Jf code _ (n := 20) (by omega)
      ·exact J5 (J6 (by assumption)) (by omega)
   intro x c5 hJ
   obtain ⟨x1, x2⟩ := hJ
   refine ⟨?_, ?_⟩
   ·refine ⟨0, D1, ?_⟩
    refine ⟨?_, rfl, rfl, rfl, rfl, rfl, rfl, rfl, rfl, rfl, rfl, rfl, rfl⟩
    ·refine ⟨?_, ?_, ?_, ?_⟩
     ·omega
     ·have := d1.1; omega
     ·assumption
     ·omega
   intro a2 D2 hJ
   obtain ⟨m1, m2, d2, m3⟩ := hJ
   refine ⟨?_, ?_⟩
   ·intro b4
    try simp only [nrmT] at b4
    refine ⟨rfl, ?_, ?_, ?_, ?_, ?_, ?_, ?_, ?_, ?_, ?_, ?_, JbJ (x - (pl1.getD a2.toNat 0)) ((pl1.getD a2.toNat 0) - x), ?_, ?_, ?_, ?_, ?_, ?_⟩
    ·omega
    ·omega
    ·omega
    ·omega
    ·omega
    ·omega
    ·have q := p3 _ (getD_mem (d := 0) (show a2.toNat < pl1.length by omega))
     have q2 := x1
     omega
    ·omega
    ·omega
    ·omega
    ·have q := p3 _ (getD_mem (d := 0) (show a2.toNat < pl1.length by omega))
     have q2 := x1
     omega
    ·omega
    ·have q := (J7 d2 (i := i.toNat) (a := a2.toNat) (by omega) (by omega)).1
     omega
    ·omega
    ·have q := (J7 d2 (i := i.toNat) (a := a2.toNat) (by omega) (by omega)).1
     omega
    ·(have q := d1.1; have q2 := d1.2.1; omega)
    refine ⟨(a2 + 1), (D2.set i.toNat ((D2.getD i.toNat []).set a2.toNat (max (x - (pl1.getD a2.toNat 0)) ((pl1.getD a2.toNat 0) - x)))), ?_⟩
    refine ⟨?_, ?_, rfl, rfl, rfl, rfl, rfl, rfl, rfl, rfl, rfl, ?_, rfl, rfl⟩
    ·refine ⟨?_, ?_, ?_, ?_⟩
     ·omega
     ·have := d1.1; omega
     ·refine JbS (by assumption) (by omega) ?_
      have q := p3 _ (getD_mem (d := 0) (show a2.toNat < pl1.length by omega))
      omega
     ·simp; try omega
    ·(simp only [J06]; omega)
    (simp_all; done)
   intro b5
   try simp only [nrmT] at b5
   refine ⟨?_, ?_⟩
   ·(have q := d1.1; have q2 := d1.2.1; omega)
   refine ⟨(i + 1), c5, O1, D2, ?_⟩
   refine ⟨?_, ?_, rfl, rfl, rfl, rfl, rfl, rfl, rfl, rfl, rfl, rfl⟩
   ·refine ⟨?_, ?_, ?_, ?_, ?_⟩
    ·omega
    ·omega
    ·assumption
    ·have := d1.1; omega
    ·exact J5 (by assumption) (by omega)
   (simp only [J05]; omega)
  intro b6
  try simp only [nrmT] at b6
  refine ⟨O1, D1, c3, ?_⟩
  refine ⟨?_, rfl, rfl, rfl, rfl, rfl, rfl, rfl, rfl⟩
  ·refine ⟨?_, ?_⟩
   ·(have q9 := d1.2.1; exact J5 (by repeat (first | assumption | apply J6C | apply J6 | apply JR | exact J9b)) (by omega))
   ·assumption
theorem J4Q (code : List Nat) (c : Cur) (most : Int) (hb : ∀ x9 ∈ code, x9 < 256) (hc : okC c 3000000) (hm : 0 ≤ most ∧ most ≤ 7) : PKE Tryz.prog 186 76 (.sl (.bytes code)) [.int .i64 c.pos, .int .u64 c.seed] [.int .i64 most] (J1G code c most) :=
  pke_by (Q := fun u => J1A u code c most) (by kernel_rfl) Tryz.func186 @Tryz.call186 (by kernel_rfl) J5N (fun u => J5L u code c most) (by kernel_rfl) (fun u => J5h u code c most hb hc hm) (fun u => by kernel_rfl)
abbrev J0P (u : Value) (code : List Nat) (c : Cur) (U : ZI) (E : ZR) (aa : Int) (c1 : Cur) (O1 : ZI) (D1 : ZR) : Prop := (D1.length ≤ 8) ∧ (O1.length ≤ 7)
abbrev J0N (u : Value) (code : List Nat) (c : Cur) (U : ZI) (E : ZR) (aa : Int) (c1 : Cur) (O1 : ZI) (D1 : ZR) : Nat := 8 - D1.length
abbrev J1B (u : Value) (code : List Nat) (c : Cur) (U : ZI) (E : ZR) (aa : Int) (c1 : Cur) : Prop := (0 ≤ aa ∧ aa < (U.length : Int)) ∧ (okC c1 7000100)
abbrev Ji (code : List Nat) (c : Cur) (U : ZI) (E : ZR) (O : ZI) (D : ZR) (ch : Cur) : Prop := (okC ch 8000000) ∧ (O.length ≤ 8) ∧ (D.length ≤ 8)
def JI (code : List Nat) (c : Cur) (U : ZI) (E : ZR) : Ex := ex3 2 (fun (O : ZI) (D : ZR) (ch : Cur) => Ji code c U E O D ch) (fun (O : ZI) (D : ZR) (ch : Cur) => [.int .i64 ch.pos, .int .u64 ch.seed]) (fun (O : ZI) (D : ZR) (ch : Cur) => .agg [.own 3 (.ints O), .mat 3 24 D])
def J6E (f : FuncId) (ds : List D) : Orc := bif Nat.beq f 98 then J76 ds else .no
def J6H (u : Value) (code : List Nat) (c : Cur) (U : ZI) (E : ZR) : Ann := .two (.none) (.two (.none) (.cut (.mark [] [(4, .cell [.int .i64 ((J0 code c (U.length : Int)).pos), .int .u64 ((J0 code c (U.length : Int)).seed)] (.one (.d (.int .i64 (J4 code c (U.length : Int))))))]) (cut2 (fun (aa : Int) (c1 : Cur) => J1B u code c U E aa c1) (fun (aa : Int) (c1 : Cur) => [(0, .ptr 0 0), (3, .ptr 3 0), (4, .ptr 4 0), (5, .d true (.int .i64 aa))]) (fun (aa : Int) (c1 : Cur) => [(0, .box 76 [.d false (.lit u (.sl (.bytes code))), .d true (.int .i64 c1.pos), .d true (.int .u64 c1.seed)]), (3, .box 27 [.own 1 U.length, .own 2 E.length]), (4, .box 27 [.d true (.nil), .d true (.nil)]), (1, .arr true 3 (.ints U)), (2, .mat 3 24 E none)])) (fun g => (fun (aa : Int) (c1 : Cur) => .two (.two (.mark [] [(1, .cell [.int .i64 ((J0 code c1 60).pos), .int .u64 ((J0 code c1 60).seed)] (.one (.d (.int .i64 (J4 code c1 60)))))]) (.two (.none) (.two (.reg [(5, .cell [.int .i64 ((J0 code (J0 code c1 60) (([(-1), 99, 100, 4611686018427387904]).length : Int)).pos), .int .u64 ((J0 code (J0 code c1 60) (([(-1), 99, 100, 4611686018427387904]).length : Int)).seed)] (.one (.d (.int .i64 (([(-1), 99, 100, 4611686018427387904]).getD (J4 code (J0 code c1 60) (([(-1), 99, 100, 4611686018427387904]).length : Int)).toNat 0)))))]) (.two (.none) (.two (.two (.none) (.two (.reg [(7, .cell [.int .i64 ((J0 code (J0 code c1 60) (([(-1), 99, 100, (-9223372036854775808)]).length : Int)).pos), .int .u64 ((J0 code (J0 code c1 60) (([(-1), 99, 100, (-9223372036854775808)]).length : Int)).seed)] (.one (.d (.int .i64 (([(-1), 99, 100, (-9223372036854775808)]).getD (J4 code (J0 code c1 60) (([(-1), 99, 100, (-9223372036854775808)]).length : Int)).toNat 0)))))]) (.none))) (.two (.none) (.two (.none) (.two (.none) (.two (.loop (cut2 (fun (O1 : ZI) (D1 : ZR) => J0P u code c U E aa c1 O1 D1) (fun (O1 : ZI) (D1 : ZR) => [(0, .ptr 0 0), (3, .ptr 3 0), (4, .ptr 4 0)]) (fun (O1 : ZI) (D1 : ZR) => [(0, .box 76 [.d false (.lit u (.sl (.bytes code))), .d true (.int .i64 ((J0 code c1 60).pos)), .d true (.int .u64 ((J0 code c1 60).seed))]), (1000000, .arr true 3 (.ints O1)), (1000001, .mat 3 24 D1 none), (3, .box 27 [.own 1000000 O1.length, .own 1000001 D1.length]), (4, .box 27 [.d true (.nil), .d true (.nil)])])) (fun g => J0N u code c U E aa c1 g.1 g.2) (fun _ => .none)) (.none)))))))))) (.none)) (g.1) (g.2))))
def J2h (u : Value) (code : List Nat) (c : Cur) (U : ZI) (E : ZR) : Prop :=
  ((((U.length : Int) == 0) = true → (∃ O' : ZI, ∃ D' : ZR, ∃ ch' : Cur, (Ji code c U E O' D' ch') ∧ (true = true) ∧ ((.lit u (.sl (.bytes code)) : D) = .lit u (.sl (.bytes code))) ∧ (c.pos = ch'.pos) ∧ (c.seed = ch'.seed) ∧ (U.length = U.length) ∧ ((U : ZI) = O') ∧ (E.length = E.length) ∧ ((E : ZR) = D'))) ∧ (((U.length : Int) == 0) = false → (((PK Tryz.prog 156 76 (.sl (.bytes code)) [.int .i64 c.pos, .int .u64 c.seed] [.int .i64 ((J0 code c (U.length : Int)).pos), .int .u64 ((J0 code c (U.length : Int)).seed)] [.int .i64 (U.length : Int)] (.one (.d (.int .i64 (J4 code c (U.length : Int)))))) ∧ (∃ aa' : Int, ∃ c1' : Cur, (J1B u code c U E aa' c1') ∧ ((J4 code c (U.length : Int)) = aa') ∧ ((.lit u (.sl (.bytes code)) : D) = .lit u (.sl (.bytes code))) ∧ ((J0 code c (U.length : Int)).pos = c1'.pos) ∧ ((J0 code c (U.length : Int)).seed = c1'.seed) ∧ (U.length = U.length) ∧ (E.length = E.length) ∧ (U = U) ∧ (E = E))) ∧ (∀ aa : Int, ∀ c1 : Cur, (J1B u code c U E aa c1) → (PK Tryz.prog 156 76 (.sl (.bytes code)) [.int .i64 c1.pos, .int .u64 c1.seed] [.int .i64 ((J0 code c1 60).pos), .int .u64 ((J0 code c1 60).seed)] [.int .i64 60] (.one (.d (.int .i64 (J4 code c1 60))))) ∧ ((((J4 code c1 60) == 0) = true → (true = true) ∧ ((4 : Nat) = 4) ∧ (PK Tryz.prog 155 76 (.sl (.bytes code)) [.int .i64 ((J0 code c1 60).pos), .int .u64 ((J0 code c1 60).seed)] [.int .i64 ((J0 code (J0 code c1 60) (([(-1), 99, 100, 4611686018427387904]).length : Int)).pos), .int .u64 ((J0 code (J0 code c1 60) (([(-1), 99, 100, 4611686018427387904]).length : Int)).seed)] [.sl (.ints ([(-1), 99, 100, 4611686018427387904]))] (.one (.d (.int .i64 (([(-1), 99, 100, 4611686018427387904]).getD (J4 code (J0 code c1 60) (([(-1), 99, 100, 4611686018427387904]).length : Int)).toNat 0))))) ∧ ((0 : Int) ≤ aa) ∧ ((aa : Int) < (U.length : Int)) ∧ (aa.toNat < U.length) ∧ (∃ O' : ZI, ∃ D' : ZR, ∃ ch' : Cur, (Ji code c U E O' D' ch') ∧ (true = true) ∧ ((.lit u (.sl (.bytes code)) : D) = .lit u (.sl (.bytes code))) ∧ ((J0 code (J0 code c1 60) (([(-1), 99, 100, 4611686018427387904]).length : Int)).pos = ch'.pos) ∧ ((J0 code (J0 code c1 60) (([(-1), 99, 100, 4611686018427387904]).length : Int)).seed = ch'.seed) ∧ (U.length = (U.set aa.toNat (([(-1), 99, 100, 4611686018427387904]).getD (J4 code (J0 code c1 60) (([(-1), 99, 100, 4611686018427387904]).length : Int)).toNat 0)).length) ∧ (((U.set aa.toNat (([(-1), 99, 100, 4611686018427387904]).getD (J4 code (J0 code c1 60) (([(-1), 99, 100, 4611686018427387904]).length : Int)).toNat 0)) : ZI) = O') ∧ (E.length = E.length) ∧ ((E : ZR) = D'))) ∧ (((J4 code c1 60) == 0) = false → ((((J4 code c1 60) == 1) = true → (((decide ((E.length : Int) > 0)) = true → (true = true) ∧ ((0 : Int) ≤ 0) ∧ ((0 : Int) < (E.length : Int)) ∧ (0 < E.length) ∧ ((4 : Nat) = 4) ∧ (PK Tryz.prog 155 76 (.sl (.bytes code)) [.int .i64 ((J0 code c1 60).pos), .int .u64 ((J0 code c1 60).seed)] [.int .i64 ((J0 code (J0 code c1 60) (([(-1), 99, 100, (-9223372036854775808)]).length : Int)).pos), .int .u64 ((J0 code (J0 code c1 60) (([(-1), 99, 100, (-9223372036854775808)]).length : Int)).seed)] [.sl (.ints ([(-1), 99, 100, (-9223372036854775808)]))] (.one (.d (.int .i64 (([(-1), 99, 100, (-9223372036854775808)]).getD (J4 code (J0 code c1 60) (([(-1), 99, 100, (-9223372036854775808)]).length : Int)).toNat 0))))) ∧ ((0 : Int) ≤ aa) ∧ ((aa : Int) < (((E.getD 0 []).length) : Int)) ∧ (0 < E.length) ∧ (aa.toNat < (E.getD 0 []).length) ∧ (∃ O' : ZI, ∃ D' : ZR, ∃ ch' : Cur, (Ji code c U E O' D' ch') ∧ (true = true) ∧ ((.lit u (.sl (.bytes code)) : D) = .lit u (.sl (.bytes code))) ∧ ((J0 code (J0 code c1 60) (([(-1), 99, 100, (-9223372036854775808)]).length : Int)).pos = ch'.pos) ∧ ((J0 code (J0 code c1 60) (([(-1), 99, 100, (-9223372036854775808)]).length : Int)).seed = ch'.seed) ∧ (U.length = U.length) ∧ ((U : ZI) = O') ∧ (E.length = (E.set 0 ((E.getD 0 []).set aa.toNat (([(-1), 99, 100, (-9223372036854775808)]).getD (J4 code (J0 code c1 60) (([(-1), 99, 100, (-9223372036854775808)]).length : Int)).toNat 0))).length) ∧ (((E.set 0 ((E.getD 0 []).set aa.toNat (([(-1), 99, 100, (-9223372036854775808)]).getD (J4 code (J0 code c1 60) (([(-1), 99, 100, (-9223372036854775808)]).length : Int)).toNat 0))) : ZR) = D'))) ∧ ((decide ((E.length : Int) > 0)) = false → (∃ O' : ZI, ∃ D' : ZR, ∃ ch' : Cur, (Ji code c U E O' D' ch') ∧ (true = true) ∧ ((.lit u (.sl (.bytes code)) : D) = .lit u (.sl (.bytes code))) ∧ ((J0 code c1 60).pos = ch'.pos) ∧ ((J0 code c1 60).seed = ch'.seed) ∧ (U.length = U.length) ∧ ((U : ZI) = O') ∧ (E.length = E.length) ∧ ((E : ZR) = D'))))) ∧ (((J4 code c1 60) == 1) = false → ((((J4 code c1 60) == 2) = true → (U.length = U.length) ∧ ((1 : Nat) = 1) ∧ ((U.length + 1) * 8 ≤ 140737488355328) ∧ (∃ O' : ZI, ∃ D' : ZR, ∃ ch' : Cur, (Ji code c U E O' D' ch') ∧ (true = true) ∧ ((.lit u (.sl (.bytes code)) : D) = .lit u (.sl (.bytes code))) ∧ ((J0 code c1 60).pos = ch'.pos) ∧ ((J0 code c1 60).seed = ch'.seed) ∧ ((U.length + 1) = (U ++ [1]).length) ∧ (((U ++ [1]) : ZI) = O') ∧ (E.length = E.length) ∧ ((E : ZR) = D'))) ∧ (((J4 code c1 60) == 2) = false → ((((J4 code c1 60) == 3) = true → ((∃ O1' : ZI, ∃ D1' : ZR, (J0P u code c U E aa c1 O1' D1') ∧ ((.lit u (.sl (.bytes code)) : D) = .lit u (.sl (.bytes code))) ∧ ((J0 code c1 60).pos = (J0 code c1 60).pos) ∧ ((J0 code c1 60).seed = (J0 code c1 60).seed) ∧ (U = O1') ∧ (E = D1') ∧ (U.length = O1'.length) ∧ (E.length = D1'.length)) ∧ (∀ O1 : ZI, ∀ D1 : ZR, (J0P u code c U E aa c1 O1 D1) → (((decide ((D1.length : Int) < 8)) = true → (true = true) ∧ (O1.length = O1.length) ∧ (PC Tryz.prog 98 [.sl (.ints O1)] (.one (.own 3 (.ints O1)))) ∧ (O1.length = O1.length) ∧ (D1.length = D1.length) ∧ ((1 : Nat) = 1) ∧ (0 < 1) ∧ ((D1.length + 1) * 24 ≤ 140737488355328) ∧ (∃ O1' : ZI, ∃ D1' : ZR, (J0P u code c U E aa c1 O1' D1') ∧ (J0N u code c U E aa c1 O1' D1' < J0N u code c U E aa c1 O1 D1) ∧ ((.lit u (.sl (.bytes code)) : D) = .lit u (.sl (.bytes code))) ∧ ((J0 code c1 60).pos = (J0 code c1 60).pos) ∧ ((J0 code c1 60).seed = (J0 code c1 60).seed) ∧ (O1 = O1') ∧ ((D1 ++ [O1]) = D1') ∧ (O1.length = O1'.length) ∧ ((D1.length + 1) = D1'.length))) ∧ ((decide ((D1.length : Int) < 8)) = false → (∃ O' : ZI, ∃ D' : ZR, ∃ ch' : Cur, (Ji code c U E O' D' ch') ∧ (true = true) ∧ ((.lit u (.sl (.bytes code)) : D) = .lit u (.sl (.bytes code))) ∧ ((J0 code c1 60).pos = ch'.pos) ∧ ((J0 code c1 60).seed = ch'.seed) ∧ (O1.length = O1.length) ∧ ((O1 : ZI) = O') ∧ (D1.length = D1.length) ∧ ((D1 : ZR) = D'))))))) ∧ (((J4 code c1 60) == 3) = false → ((((J4 code c1 60) == 4) = true → (∃ O' : ZI, ∃ D' : ZR, ∃ ch' : Cur, (Ji code c U E O' D' ch') ∧ (true = true) ∧ ((.lit u (.sl (.bytes code)) : D) = .lit u (.sl (.bytes code))) ∧ ((J0 code c1 60).pos = ch'.pos) ∧ ((J0 code c1 60).seed = ch'.seed) ∧ (O'.length = 0) ∧ (D'.length = 0))) ∧ (((J4 code c1 60) == 4) = false → (∃ O' : ZI, ∃ D' : ZR, ∃ ch' : Cur, (Ji code c U E O' D' ch') ∧ (true = true) ∧ ((.lit u (.sl (.bytes code)) : D) = .lit u (.sl (.bytes code))) ∧ ((J0 code c1 60).pos = ch'.pos) ∧ ((J0 code c1 60).seed = ch'.seed) ∧ (U.length = U.length) ∧ ((U : ZI) = O') ∧ (E.length = E.length) ∧ ((E : ZR) = D'))))))))))))))))
theorem J5T (u : Value) (code : List Nat) (c : Cur) (U : ZI) (E : ZR) (hb : ∀ x9 ∈ code, x9 < 256) (hc : okC c 7000000) (hf : drF U E)  : J2h u code c U E := by
  unfold J2h
  refine ⟨?_, ?_⟩
  ·intro b1
   try simp only [nrmT] at b1
   refine ⟨U, E, c, ?_⟩
   refine ⟨?_, rfl, rfl, rfl, rfl, rfl, rfl, rfl, rfl⟩
   ·refine ⟨?_, ?_, ?_⟩
    ·exact J5 (by assumption) (by omega)
    ·(have := hf.1; have := hf.2.1; omega)
    ·(have := hf.1; have := hf.2.1; omega)
  intro b2
  try simp only [nrmT] at b2
  refine ⟨?_, ?_⟩
  ·refine ⟨?_, ?_⟩
   ·refine Jm code c (U.length : Int) ?_ ?_
    ·exact hb
    ·exact J5 (by assumption) (by omega)
   ·refine ⟨(J4 code c (U.length : Int)), (J0 code c (U.length : Int)), ?_⟩
    refine ⟨?_, rfl, rfl, rfl, rfl, rfl, rfl, rfl, rfl⟩
    ·refine ⟨?_, ?_⟩
     ·exact Jf code _ (by omega)
     ·exact J5 (J6 (by assumption)) (by omega)
  intro aa c1 hJ
  obtain ⟨a1, a2⟩ := hJ
  refine ⟨?_, ?_, ?_⟩
  ·refine Jm code c1 60 ?_ ?_
   ·exact hb
   ·exact J5 (by assumption) (by omega)
  ·intro b3
   try simp only [nrmT] at b3
   refine ⟨rfl, rfl, ?_, ?_, ?_, ?_, ?_⟩
   ·refine Jg code (J0 code c1 60) ([(-1), 99, 100, 4611686018427387904]) ?_ ?_ ?_
    ·exact hb
    ·exact J5 (J6 (by assumption)) (by omega)
    ·simp
   ·omega
   ·omega
   ·omega
   refine ⟨(U.set aa.toNat (([(-1), 99, 100, 4611686018427387904]).getD (J4 code (J0 code c1 60) (([(-1), 99, 100, 4611686018427387904]).length : Int)).toNat 0)), E, (J0 code (J0 code c1 60) (([(-1), 99, 100, 4611686018427387904]).length : Int)), ?_⟩
   refine ⟨?_, rfl, rfl, rfl, rfl, ?_, rfl, rfl, rfl⟩
   ·refine ⟨?_, ?_, ?_⟩
    ·exact J5 (J6 (J6 (by assumption))) (by omega)
    ·(have := hf.1; have := hf.2.1; simp; try omega)
    ·(have := hf.1; have := hf.2.1; omega)
   simp; try omega
  intro b4
  try simp only [nrmT] at b4
  refine ⟨?_, ?_⟩
  ·intro b5
   try simp only [nrmT] at b5
   refine ⟨?_, ?_⟩
   ·intro b6
    try simp only [nrmT] at b6
    refine ⟨rfl, ?_, ?_, ?_, rfl, ?_, ?_, ?_, ?_, ?_, ?_⟩
    ·omega
    ·have := hf.2.1; omega
    ·have := hf.2.1; omega
    ·refine Jg code (J0 code c1 60) ([(-1), 99, 100, (-9223372036854775808)]) ?_ ?_ ?_
     ·exact hb
     ·exact J5 (J6 (by assumption)) (by omega)
     ·simp
    ·omega
    ·have q := (J7 hf (i := 0) (a := aa.toNat) (by omega) (by omega)).1
     omega
    ·have := hf.2.1; omega
    ·have q := (J7 hf (i := 0) (a := aa.toNat) (by omega) (by omega)).1
     omega
    refine ⟨U, (E.set 0 ((E.getD 0 []).set aa.toNat (([(-1), 99, 100, (-9223372036854775808)]).getD (J4 code (J0 code c1 60) (([(-1), 99, 100, (-9223372036854775808)]).length : Int)).toNat 0))), (J0 code (J0 code c1 60) (([(-1), 99, 100, (-9223372036854775808)]).length : Int)), ?_⟩
    refine ⟨?_, rfl, rfl, rfl, rfl, rfl, rfl, ?_, rfl⟩
    ·refine ⟨?_, ?_, ?_⟩
     ·exact J5 (J6 (J6 (by assumption))) (by omega)
     ·(have := hf.1; have := hf.2.1; omega)
     ·(have := hf.1; have := hf.2.1; simp; try omega)
    simp; try omega
   intro b7
   try simp only [nrmT] at b7
   refine ⟨U, E, (J0 code c1 60), ?_⟩
   refine ⟨?_, rfl, rfl, rfl, rfl, rfl, rfl, rfl, rfl⟩
   ·refine ⟨?_, ?_, ?_⟩
    ·exact J5 (J6 (by assumption)) (by omega)
    ·(have := hf.1; have := hf.2.1; omega)
    ·(have := hf.1; have := hf.2.1; omega)
  intro b8
  try simp only [nrmT] at b8
  refine ⟨?_, ?_⟩
  ·intro b9
   try simp only [nrmT] at b9
   refine ⟨rfl, rfl, ?_, ?_⟩
   ·have := hf.1; omega
   refine ⟨(U ++ [1]), E, (J0 code c1 60), ?_⟩
   refine ⟨?_, rfl, rfl, rfl, rfl, ?_, rfl, rfl, rfl⟩
   ·refine ⟨?_, ?_, ?_⟩
    ·exact J5 (J6 (by assumption)) (by omega)
    ·(have := hf.1; have := hf.2.1; simp; try omega)
    ·(have := hf.1; have := hf.2.1; omega)
   simp
  intro b10
  try simp only [nrmT] at b10
  refine ⟨?_, ?_⟩
  ·intro b11
   try simp only [nrmT] at b11
   refine ⟨?_, ?_⟩
   ·refine ⟨U, E, ?_⟩
    refine ⟨?_, rfl, rfl, rfl, rfl, rfl, rfl, rfl⟩
    ·refine ⟨?_, ?_⟩
     ·(have := hf.1; have := hf.2.1; omega)
     ·(have := hf.1; have := hf.2.1; omega)
   intro O1 D1 hJ
   obtain ⟨h1, h2⟩ := hJ
   refine ⟨?_, ?_⟩
   ·intro b12
    try simp only [nrmT] at b12
    refine ⟨rfl, rfl, ?_, rfl, rfl, rfl, by decide, ?_, ?_⟩
    ·refine J5j O1 ?_
     ·omega
    ·omega
    refine ⟨O1, (D1 ++ [O1]), ?_⟩
    refine ⟨?_, ?_, rfl, rfl, rfl, rfl, rfl, rfl, ?_⟩
    ·refine ⟨?_, ?_⟩
     ·(have := hf.1; have := hf.2.1; simp; try omega)
     ·assumption
    ·(simp only [J0N] at *; simp at *; omega)
    simp
   intro b13
   try simp only [nrmT] at b13
   refine ⟨O1, D1, (J0 code c1 60), ?_⟩
   refine ⟨?_, rfl, rfl, rfl, rfl, rfl, rfl, rfl, rfl⟩
   ·refine ⟨?_, ?_, ?_⟩
    ·exact J5 (J6 (by assumption)) (by omega)
    ·(have := hf.1; have := hf.2.1; omega)
    ·assumption
  intro b14
  try simp only [nrmT] at b14
  refine ⟨?_, ?_⟩
  ·intro b15
   try simp only [nrmT] at b15
   refine ⟨[], [], (J0 code c1 60), ?_⟩
   refine ⟨?_, rfl, rfl, rfl, rfl, rfl, rfl⟩
   ·refine ⟨?_, ?_, ?_⟩
    ·exact J5 (J6 (by assumption)) (by omega)
    ·(have := hf.1; have := hf.2.1; simp; try omega)
    ·(have := hf.1; have := hf.2.1; simp; try omega)
  intro b16
  try simp only [nrmT] at b16
  refine ⟨U, E, (J0 code c1 60), ?_⟩
  refine ⟨?_, rfl, rfl, rfl, rfl, rfl, rfl, rfl, rfl⟩
  ·refine ⟨?_, ?_, ?_⟩
   ·exact J5 (J6 (by assumption)) (by omega)
   ·(have := hf.1; have := hf.2.1; omega)
   ·(have := hf.1; have := hf.2.1; omega)
theorem J1C (code : List Nat) (c : Cur) (U : ZI) (E : ZR) (hb : ∀ x9 ∈ code, x9 < 256) (hc : okC c 7000000) (hf : drF U E) : PKV Tryz.prog 232 76 (.sl (.bytes code)) [.int .i64 c.pos, .int .u64 c.seed] 3 U 3 24 E (JI code c U E) :=
  pkv_by (Q := fun u => J2h u code c U E) (by kernel_rfl) Tryz.func232 @Tryz.call232 (by kernel_rfl) J6E (fun u => J6H u code c U E) (by kernel_rfl) (fun u => J5T u code c U E hb hc hf) (fun u => by kernel_rfl)
theorem Jc4 {α : Type} {l : List α} {i : Int} {d : α} (h0 : 0 ≤ i) (h : i < (l.length : Int)) : l.take i.toNat ++ [l.getD i.toNat d] = l.take (i + 1).toNat := (take_step h0 h).symm
abbrev J3F (U : ZI) (E : ZR) (i : Int) (O1 : ZI) (D1 : ZR) : Prop := (0 ≤ i) ∧ (i ≤ (E.length : Int)) ∧ (O1 = U) ∧ (D1 = E.take i.toNat)
abbrev J3Q (U : ZI) (E : ZR) (i : Int) (O1 : ZI) (D1 : ZR) : Nat := (E.length - i).toNat
def Jd3 (f : FuncId) (ds : List D) : Orc := bif Nat.beq f 98 then J76 ds else .no
def JcP (U : ZI) (E : ZR) : Ann := .two (.none) (.two (.none) (.two (.two (.none) (.loop (cut3 (fun (i : Int) (O1 : ZI) (D1 : ZR) => J3F U E i O1 D1) (fun (i : Int) (O1 : ZI) (D1 : ZR) => [(1, .ptr 1 0), (2, .ptr 2 0), (3, .ptr 3 0), (4, .d true (.int .i64 i))]) (fun (i : Int) (O1 : ZI) (D1 : ZR) => [(1, .box 27 [.d false (.sl (.ints U)), .d false (.sl (.rows E))]), (2, .box 27 [.d true (.nil), .d true (.nil)]), (1000001, .arr true 3 (.ints O1)), (1000002, .mat 3 24 D1 none), (3, .box 27 [.own 1000001 O1.length, .own 1000002 D1.length])])) (fun g => J3Q U E g.1 g.2.1 g.2.2) (fun _ => .none))) (.none)))
def J9I (U : ZI) (E : ZR) : Prop :=
  (PC Tryz.prog 98 [.sl (.ints U)] (.one (.own 3 (.ints U)))) ∧ ((∃ i' : Int, ∃ O1' : ZI, ∃ D1' : ZR, (J3F U E i' O1' D1') ∧ ((0 : Int) = i') ∧ (U = U) ∧ (E = E) ∧ (U = O1') ∧ ((D1').length = 0) ∧ (U.length = O1'.length) ∧ ((0 : Nat) = D1'.length)) ∧ (∀ i : Int, ∀ O1 : ZI, ∀ D1 : ZR, (J3F U E i O1 D1) → (((decide (i < (E.length : Int))) = true → (true = true) ∧ ((0 : Int) ≤ i) ∧ ((i : Int) < E.length) ∧ (i.toNat < E.length) ∧ (PC Tryz.prog 98 [.sl (.ints (E.getD i.toNat []))] (.one (.own 3 (.ints (E.getD i.toNat []))))) ∧ ((E.getD i.toNat []).length = (E.getD i.toNat []).length) ∧ (D1.length = D1.length) ∧ ((1 : Nat) = 1) ∧ (0 < 1) ∧ ((D1.length + 1) * 24 ≤ 140737488355328) ∧ (I6 (i + 1)) ∧ (∃ i' : Int, ∃ O1' : ZI, ∃ D1' : ZR, (J3F U E i' O1' D1') ∧ (J3Q U E i' O1' D1' < J3Q U E i O1 D1) ∧ ((i + 1) = i') ∧ (U = U) ∧ (E = E) ∧ (O1 = O1') ∧ ((D1 ++ [(E.getD i.toNat [])]) = D1') ∧ (O1.length = O1'.length) ∧ ((D1.length + 1) = D1'.length))) ∧ ((decide (i < (E.length : Int))) = false → ((O1.length = O1.length) ∧ ((O1 : ZI) = U) ∧ (D1.length = D1.length) ∧ ((D1 : ZR) = E))))))
theorem Jcw (U : ZI) (E : ZR) (hl : U.length ≤ 1048576) (hd : E.length ≤ 1048576) (hr : ∀ r ∈ E, r.length ≤ 1048576) (w_Open : (U.length : Int) ≤ 9223372036854775807) (w_Dist : (E.length : Int) ≤ 9223372036854775807) (v_Dist : ∀ x9 ∈ E, (x9.length : Int) ≤ 9223372036854775807) : J9I U E := by
  unfold J9I
  refine ⟨?_, ?_, ?_⟩
  ·refine J5j U ?_
   ·omega
  ·refine ⟨0, U, ([]), ?_⟩
   refine ⟨?_, rfl, rfl, rfl, rfl, ?_, rfl, rfl⟩
   ·refine ⟨?_, ?_, ?_, ?_⟩
    ·omega
    ·omega
    ·rfl
    ·simp
   rfl
  intro i O1 D1 hJ
  obtain ⟨h1, h2, h3, h4⟩ := hJ
  refine ⟨?_, ?_⟩
  ·intro b1
   try simp only [nrmT] at b1
   refine ⟨rfl, ?_, ?_, ?_, ?_, rfl, rfl, rfl, by decide, ?_, ?_, ?_⟩
   ·omega
   ·omega
   ·omega
   ·refine J5j (E.getD i.toNat []) ?_
    ·exact hr _ (getD_memI h1 (by omega))
   ·rw [h4, List.length_take]; omega
   ·omega
   refine ⟨(i + 1), O1, (D1 ++ [(E.getD i.toNat [])]), ?_⟩
   refine ⟨?_, ?_, rfl, rfl, rfl, rfl, rfl, rfl, ?_⟩
   ·refine ⟨?_, ?_, ?_, ?_⟩
    ·omega
    ·omega
    ·exact h3
    ·rw [h4]; exact Jc4 h1 (by omega)
   ·(simp only [J3Q]; omega)
   simp
  intro b2
  try simp only [nrmT] at b2
  refine ⟨rfl, ?_, rfl, ?_⟩
  ·exact h3
  rw [h4, take_all (by omega)]
theorem Jcr (U : ZI) (E : ZR) (hl : U.length ≤ 1048576) (hd : E.length ≤ 1048576) (hr : ∀ r ∈ E, r.length ≤ 1048576) : PC Tryz.prog 224 [.agg [.sl (.ints U), .sl (.rows E)]] (.agg [.own 3 (.ints U), .mat 3 24 E]) :=
  pc_wf @Tryz.call224 fun hw => pc_by (by kernel_rfl) Tryz.func224 @Tryz.call224 (by kernel_rfl) Jd3 (JcP U E) (by kernel_rfl) (Jcw U E hl hd hr hw.1.1 hw.1.2.1.1 hw.1.2.1.2) (by kernel_rfl)
def JbB : List D → Orc := orcN [none] fun ds => match ds with
  | [.agg [.sl (.ints U), .sl (.rows E)]] => some (.agg [.own 3 (.ints U), .mat 3 24 E])
  | _ => none
/-- A way by two other lengths is shorter. -/
def J39 (D : ZR) (i j a b : Nat) : Bool := decide ((D.getD i []).getD a 0 > (D.getD i []).getD b 0 + (D.getD j []).getD b 0 + (D.getD j []).getD a 0)
def JaB (n : Nat) (D : ZR) (i j a : Nat) : Bool := allTo (fun b => !J39 D i j a b) n
def J90 (n : Nat) (D : ZR) (i j : Nat) : Bool := allTo (JaB n D i j) n
def J6h (n : Nat) (D : ZR) (i : Nat) : Bool := allTo (J90 n D i) D.length
def J4n (n : Nat) (D : ZR) : Bool := allTo (J6h n D) D.length
def tot (D : ZR) : Int := (D.map fun r => J2F (fun y => y) r).sum
theorem J4u (r : ZI) (D : ZR) : tot (r :: D) = J2F (fun y => y) r + tot D := rfl
theorem Jap : ∀ {l : ZI} {k : Nat} {v : Int}, k < l.length → J2F (fun y => y) (l.set k v) = J2F (fun y => y) l - l.getD k 0 + v
  | x :: r, 0, v, _ => by rw [List.set_cons_zero, J1g, J1g, List.getD_cons_zero]; omega
  | x :: r, k + 1, v, h => by
    rw [List.set_cons_succ, J1g, J1g, List.getD_cons_succ, Jap (by simpa using h)]; omega
theorem JbY : ∀ {D : ZR} {i : Nat} {r : ZI}, i < D.length → tot (D.set i r) = tot D - J2F (fun y => y) (D.getD i []) + J2F (fun y => y) r
  | x :: D, 0, r, _ => by rw [List.set_cons_zero, J4u, J4u, List.getD_cons_zero]; omega
  | x :: D, k + 1, r, h => by
    rw [List.set_cons_succ, J4u, J4u, List.getD_cons_succ, JbY (by simpa using h)]; omega
theorem JcB {D : ZR} (h : ∀ r ∈ D, ∀ x ∈ r, 0 ≤ x) : 0 ≤ tot D := by
  induction D with
  | nil => exact Int.le_refl _
  | cons r D ih =>
    rw [J4u]
    have h1 := JbO (f := fun y => y) (h r List.mem_cons_self)
    have h2 := ih fun r' hr => h r' (List.mem_cons_of_mem _ hr)
    omega
/-- A round under way: nothing was changed and nothing was found, or the sum fell. -/
def Clo (D0 D : ZR) (c : Bool) : Prop := (D = D0 ∧ c = true) ∨ tot D < tot D0
theorem JaW {O : ZI} {D0 D : ZR} (hf : drF O D) {i j a b : Nat} (hi : i < D.length) (hj : j < D.length) (ha : a < O.length) (hb : b < O.length) {c : Bool} (h : Clo D0 D (c && allTo (fun b => !J39 D0 i j a b) b)) :
    drF O (D.set i ((D.getD i []).set a (min ((D.getD i []).getD a 0) ((D.getD i []).getD b 0 + (D.getD j []).getD b 0 + (D.getD j []).getD a 0)))) ∧
    Clo D0 (D.set i ((D.getD i []).set a (min ((D.getD i []).getD a 0) ((D.getD i []).getD b 0 + (D.getD j []).getD b 0 + (D.getD j []).getD a 0)))) (c && allTo (fun b => !J39 D0 i j a b) (b + 1)) := by
  have e1 := J7 hf hi ha
  have e2 := J7 hf hi hb
  have e3 := J7 hf hj hb
  have e4 := J7 hf hj ha
  refine ⟨JbS hf hi (by omega), ?_⟩
  have ht := JbY (D := D) (i := i) (r := (D.getD i []).set a (min ((D.getD i []).getD a 0) ((D.getD i []).getD b 0 + (D.getD j []).getD b 0 + (D.getD j []).getD a 0))) hi
  rw [Jap (by omega)] at ht
  rcases h with ⟨rfl, hc⟩ | h
  · by_cases hx : (D.getD i []).getD a 0 ≤ (D.getD i []).getD b 0 + (D.getD j []).getD b 0 + (D.getD j []).getD a 0
    · left
      refine ⟨?_, ?_⟩
      · rw [Int.min_eq_left hx]
        have h1 : (D.getD i []).set a ((D.getD i []).getD a 0) = D.getD i [] := by
          rw [Js (show a < (D.getD i []).length by omega)]; exact List.set_getElem_self _
        rw [h1, Js hi]; exact List.set_getElem_self _
      rw [Bool.and_eq_true] at hc ⊢
      refine ⟨hc.1, ?_⟩
      have e : allTo (fun b => !J39 D i j a b) (b + 1) = (allTo (fun b => !J39 D i j a b) b && !J39 D i j a b) := rfl
      rw [e, hc.2, Bool.true_and]
      unfold J39
      rw [decide_eq_false (by omega)]; rfl
    · right
      rw [Int.min_eq_right (by omega)] at ht ⊢
      omega
  right
  omega
theorem JdM {D0 D : ZR} {n : Nat} (h : Clo D0 D (allTo (J6h n D0) D0.length)) (hm : J4n n D0 = false) : tot D < tot D0 := by
  rcases h with ⟨_, h⟩ | h
  · unfold J4n at hm
    rw [hm] at h; cases h
  exact h
theorem J3v {D0 D : ZR} {c c' : Bool} (h : Clo D0 D c) (hc : c = true → c' = true) : Clo D0 D c' := by
  rcases h with ⟨h1, h2⟩ | h
  · exact .inl ⟨h1, hc h2⟩
  exact .inr h
abbrev J2c (U : ZI) (E : ZR) (i : Int) : Prop := (0 ≤ i) ∧ (i ≤ (E.length : Int)) ∧ (allTo (J6h U.length E) i.toNat = true)
abbrev J24 (U : ZI) (E : ZR) (i : Int) : Nat := (E.length - i).toNat
abbrev J1X (U : ZI) (E : ZR) (i : Int) (j : Int) : Prop := (0 ≤ j) ∧ (j ≤ (E.length : Int)) ∧ (allTo (J90 U.length E i.toNat) j.toNat = true)
abbrev J20 (U : ZI) (E : ZR) (i : Int) (j : Int) : Nat := (E.length - j).toNat
abbrev J2b (U : ZI) (E : ZR) (i : Int) (j : Int) (a : Int) : Prop := (0 ≤ a) ∧ (a ≤ (U.length : Int)) ∧ (allTo (JaB U.length E i.toNat j.toNat) a.toNat = true)
abbrev J2a (U : ZI) (E : ZR) (i : Int) (j : Int) (a : Int) : Nat := (U.length - a).toNat
abbrev J22 (U : ZI) (E : ZR) (i : Int) (j : Int) (a : Int) (b : Int) : Prop := (0 ≤ b) ∧ (b ≤ (U.length : Int)) ∧ (allTo (fun b => !J39 E i.toNat j.toNat a.toNat b) b.toNat = true)
abbrev J28 (U : ZI) (E : ZR) (i : Int) (j : Int) (a : Int) (b : Int) : Nat := (U.length - b).toNat
def JaK (f : FuncId) (ds : List D) : Orc := .no
def Jah (U : ZI) (E : ZR) : Ann := .two (.none) (.two (.two (.none) (.loop (cut1 (fun (i : Int) => J2c U E i) (fun (i : Int) => [(1, .ptr 1 0), (3, .d true (.int .i64 i))]) (fun (i : Int) => [(1, .box 27 [.d false (.sl (.ints U)), .d false (.sl (.rows E))])])) (fun g => J24 U E g) (fun g => (fun (i : Int) => .two (.none) (.two (.two (.none) (.loop (cut1 (fun (j : Int) => J1X U E i j) (fun (j : Int) => [(1, .ptr 1 0), (3, .d true (.int .i64 i)), (4, .d true (.int .i64 j))]) (fun (j : Int) => [(1, .box 27 [.d false (.sl (.ints U)), .d false (.sl (.rows E))])])) (fun g => J20 U E i g) (fun g => (fun (j : Int) => .two (.none) (.two (.two (.none) (.loop (cut1 (fun (a : Int) => J2b U E i j a) (fun (a : Int) => [(1, .ptr 1 0), (3, .d true (.int .i64 i)), (4, .d true (.int .i64 j)), (5, .d true (.int .i64 a))]) (fun (a : Int) => [(1, .box 27 [.d false (.sl (.ints U)), .d false (.sl (.rows E))])])) (fun g => J2a U E i j g) (fun g => (fun (a : Int) => .two (.none) (.two (.two (.none) (.loop (cut1 (fun (b : Int) => J22 U E i j a b) (fun (b : Int) => [(1, .ptr 1 0), (3, .d true (.int .i64 i)), (4, .d true (.int .i64 j)), (5, .d true (.int .i64 a)), (6, .d true (.int .i64 b))]) (fun (b : Int) => [(1, .box 27 [.d false (.sl (.ints U)), .d false (.sl (.rows E))])])) (fun g => J28 U E i j a g) (fun _ => .none))) (.none))) g))) (.none))) g))) (.none))) g))) (.none))
def J6r (U : ZI) (E : ZR) : Prop :=
  ((∃ i' : Int, (J2c U E i') ∧ ((0 : Int) = i') ∧ (U = U) ∧ (E = E)) ∧ (∀ i : Int, (J2c U E i) → (((decide (i < (E.length : Int))) = true → ((∃ j' : Int, (J1X U E i j') ∧ (i = i) ∧ ((0 : Int) = j') ∧ (U = U) ∧ (E = E)) ∧ (∀ j : Int, (J1X U E i j) → (((decide (j < (E.length : Int))) = true → ((∃ a' : Int, (J2b U E i j a') ∧ (i = i) ∧ (j = j) ∧ ((0 : Int) = a') ∧ (U = U) ∧ (E = E)) ∧ (∀ a : Int, (J2b U E i j a) → (((decide (a < (U.length : Int))) = true → ((∃ b' : Int, (J22 U E i j a b') ∧ (i = i) ∧ (j = j) ∧ (a = a) ∧ ((0 : Int) = b') ∧ (U = U) ∧ (E = E)) ∧ (∀ b : Int, (J22 U E i j a b) → (((decide (b < (U.length : Int))) = true → (true = true) ∧ ((0 : Int) ≤ i) ∧ ((i : Int) < E.length) ∧ (i.toNat < E.length) ∧ ((0 : Int) ≤ a) ∧ ((a : Int) < (E.getD i.toNat []).length) ∧ (a.toNat < (E.getD i.toNat []).length) ∧ ((0 : Int) ≤ i) ∧ ((i : Int) < E.length) ∧ (i.toNat < E.length) ∧ ((0 : Int) ≤ b) ∧ ((b : Int) < (E.getD i.toNat []).length) ∧ (b.toNat < (E.getD i.toNat []).length) ∧ ((0 : Int) ≤ j) ∧ ((j : Int) < E.length) ∧ (j.toNat < E.length) ∧ ((0 : Int) ≤ b) ∧ ((b : Int) < (E.getD j.toNat []).length) ∧ (b.toNat < (E.getD j.toNat []).length) ∧ (I6 (((E.getD i.toNat []).getD b.toNat 0) + ((E.getD j.toNat []).getD b.toNat 0))) ∧ ((0 : Int) ≤ j) ∧ ((j : Int) < E.length) ∧ (j.toNat < E.length) ∧ ((0 : Int) ≤ a) ∧ ((a : Int) < (E.getD j.toNat []).length) ∧ (a.toNat < (E.getD j.toNat []).length) ∧ (I6 ((((E.getD i.toNat []).getD b.toNat 0) + ((E.getD j.toNat []).getD b.toNat 0)) + ((E.getD j.toNat []).getD a.toNat 0))) ∧ (((decide (((E.getD i.toNat []).getD a.toNat 0) > ((((E.getD i.toNat []).getD b.toNat 0) + ((E.getD j.toNat []).getD b.toNat 0)) + ((E.getD j.toNat []).getD a.toNat 0)))) = true → ((false = (J4n U.length E)))) ∧ ((decide (((E.getD i.toNat []).getD a.toNat 0) > ((((E.getD i.toNat []).getD b.toNat 0) + ((E.getD j.toNat []).getD b.toNat 0)) + ((E.getD j.toNat []).getD a.toNat 0)))) = false → (I6 (b + 1)) ∧ (∃ b' : Int, (J22 U E i j a b') ∧ (J28 U E i j a b' < J28 U E i j a b) ∧ (i = i) ∧ (j = j) ∧ (a = a) ∧ ((b + 1) = b') ∧ (U = U) ∧ (E = E))))) ∧ ((decide (b < (U.length : Int))) = false → (I6 (a + 1)) ∧ (∃ a' : Int, (J2b U E i j a') ∧ (J2a U E i j a' < J2a U E i j a) ∧ (i = i) ∧ (j = j) ∧ ((a + 1) = a') ∧ (U = U) ∧ (E = E))))))) ∧ ((decide (a < (U.length : Int))) = false → (I6 (j + 1)) ∧ (∃ j' : Int, (J1X U E i j') ∧ (J20 U E i j' < J20 U E i j) ∧ (i = i) ∧ ((j + 1) = j') ∧ (U = U) ∧ (E = E))))))) ∧ ((decide (j < (E.length : Int))) = false → (I6 (i + 1)) ∧ (∃ i' : Int, (J2c U E i') ∧ (J24 U E i' < J24 U E i) ∧ ((i + 1) = i') ∧ (U = U) ∧ (E = E))))))) ∧ ((decide (i < (E.length : Int))) = false → ((true = (J4n U.length E)))))))
theorem Ja7 (U : ZI) (E : ZR) (hm : ∀ i a : Nat, i < E.length → a < U.length → a < (E.getD i []).length ∧ 0 ≤ (E.getD i []).getD a 0 ∧ (E.getD i []).getD a 0 ≤ 99) (w_Open : (U.length : Int) ≤ 9223372036854775807) (w_Dist : (E.length : Int) ≤ 9223372036854775807) (v_Dist : ∀ x9 ∈ E, (x9.length : Int) ≤ 9223372036854775807) : J6r U E := by
  unfold J6r
  refine ⟨?_, ?_⟩
  ·refine ⟨0, ?_⟩
   refine ⟨?_, rfl, rfl, rfl⟩
   ·refine ⟨?_, ?_, ?_⟩
    ·omega
    ·omega
    ·rfl
  intro i hJ
  obtain ⟨h1, h2, h3⟩ := hJ
  refine ⟨?_, ?_⟩
  ·intro b1
   try simp only [nrmT] at b1
   refine ⟨?_, ?_⟩
   ·refine ⟨0, ?_⟩
    refine ⟨?_, rfl, rfl, rfl, rfl⟩
    ·refine ⟨?_, ?_, ?_⟩
     ·omega
     ·omega
     ·rfl
   intro j hJ
   obtain ⟨h4, h5, h6⟩ := hJ
   refine ⟨?_, ?_⟩
   ·intro b2
    try simp only [nrmT] at b2
    refine ⟨?_, ?_⟩
    ·refine ⟨0, ?_⟩
     refine ⟨?_, rfl, rfl, rfl, rfl, rfl⟩
     ·refine ⟨?_, ?_, ?_⟩
      ·omega
      ·omega
      ·rfl
    intro a hJ
    obtain ⟨h7, h8, h9⟩ := hJ
    refine ⟨?_, ?_⟩
    ·intro b3
     try simp only [nrmT] at b3
     refine ⟨?_, ?_⟩
     ·refine ⟨0, ?_⟩
      refine ⟨?_, rfl, rfl, rfl, rfl, rfl, rfl⟩
      ·refine ⟨?_, ?_, ?_⟩
       ·omega
       ·omega
       ·rfl
     intro b hJ
     obtain ⟨k1, k2, k3⟩ := hJ
     refine ⟨?_, ?_⟩
     ·intro b4
      try simp only [nrmT] at b4
      refine ⟨rfl, ?_, ?_, ?_, ?_, ?_, ?_, ?_, ?_, ?_, ?_, ?_, ?_, ?_, ?_, ?_, ?_, ?_, ?_, ?_, ?_, ?_, ?_, ?_, ?_, ?_, ?_, ?_, ?_⟩
      ·omega
      ·omega
      ·omega
      ·omega
      ·have q1 := hm i.toNat a.toNat (by omega) (by omega)
       have q2 := hm i.toNat b.toNat (by omega) (by omega)
       have q3 := hm j.toNat b.toNat (by omega) (by omega)
       have q4 := hm j.toNat a.toNat (by omega) (by omega)
       omega
      ·have q1 := hm i.toNat a.toNat (by omega) (by omega)
       have q2 := hm i.toNat b.toNat (by omega) (by omega)
       have q3 := hm j.toNat b.toNat (by omega) (by omega)
       have q4 := hm j.toNat a.toNat (by omega) (by omega)
       omega
      ·omega
      ·omega
      ·omega
      ·omega
      ·have q1 := hm i.toNat a.toNat (by omega) (by omega)
       have q2 := hm i.toNat b.toNat (by omega) (by omega)
       have q3 := hm j.toNat b.toNat (by omega) (by omega)
       have q4 := hm j.toNat a.toNat (by omega) (by omega)
       omega
      ·have q1 := hm i.toNat a.toNat (by omega) (by omega)
       have q2 := hm i.toNat b.toNat (by omega) (by omega)
       have q3 := hm j.toNat b.toNat (by omega) (by omega)
       have q4 := hm j.toNat a.toNat (by omega) (by omega)
       omega
      ·omega
      ·omega
      ·omega
      ·omega
      ·have q1 := hm i.toNat a.toNat (by omega) (by omega)
       have q2 := hm i.toNat b.toNat (by omega) (by omega)
       have q3 := hm j.toNat b.toNat (by omega) (by omega)
       have q4 := hm j.toNat a.toNat (by omega) (by omega)
       omega
      ·have q1 := hm i.toNat a.toNat (by omega) (by omega)
       have q2 := hm i.toNat b.toNat (by omega) (by omega)
       have q3 := hm j.toNat b.toNat (by omega) (by omega)
       have q4 := hm j.toNat a.toNat (by omega) (by omega)
       omega
      ·have q1 := hm i.toNat a.toNat (by omega) (by omega)
       have q2 := hm i.toNat b.toNat (by omega) (by omega)
       have q3 := hm j.toNat b.toNat (by omega) (by omega)
       have q4 := hm j.toNat a.toNat (by omega) (by omega)
       omega
      ·omega
      ·omega
      ·omega
      ·omega
      ·have q1 := hm i.toNat a.toNat (by omega) (by omega)
       have q2 := hm i.toNat b.toNat (by omega) (by omega)
       have q3 := hm j.toNat b.toNat (by omega) (by omega)
       have q4 := hm j.toNat a.toNat (by omega) (by omega)
       omega
      ·have q1 := hm i.toNat a.toNat (by omega) (by omega)
       have q2 := hm i.toNat b.toNat (by omega) (by omega)
       have q3 := hm j.toNat b.toNat (by omega) (by omega)
       have q4 := hm j.toNat a.toNat (by omega) (by omega)
       omega
      ·have q1 := hm i.toNat a.toNat (by omega) (by omega)
       have q2 := hm i.toNat b.toNat (by omega) (by omega)
       have q3 := hm j.toNat b.toNat (by omega) (by omega)
       have q4 := hm j.toNat a.toNat (by omega) (by omega)
       omega
      ·intro b5
       try simp only [nrmT] at b5
       have e1 : JaB U.length E i.toNat j.toNat a.toNat = false := allTo_falseI k1 (by omega) (by unfold J39; rw [decide_eq_true (by omega)]; rfl)
       have e2 : J90 U.length E i.toNat j.toNat = false := allTo_falseI h7 (by omega) e1
       have e3 : J6h U.length E i.toNat = false := allTo_falseI h4 (by omega) e2
       exact (show J4n U.length E = false from allTo_falseI h1 (by omega) e3).symm
      intro b6
      try simp only [nrmT] at b6
      refine ⟨?_, ?_⟩
      ·omega
      refine ⟨(b + 1), ?_⟩
      refine ⟨?_, ?_, rfl, rfl, rfl, rfl, rfl, rfl⟩
      ·refine ⟨?_, ?_, ?_⟩
       ·omega
       ·omega
       ·refine allTo_step k1 k3 ?_
        unfold J39
        rw [decide_eq_false (by omega)]; rfl
      (simp only [J28]; omega)
     intro b7
     try simp only [nrmT] at b7
     refine ⟨?_, ?_⟩
     ·omega
     refine ⟨(a + 1), ?_⟩
     refine ⟨?_, ?_, rfl, rfl, rfl, rfl, rfl⟩
     ·refine ⟨?_, ?_, ?_⟩
      ·omega
      ·omega
      ·refine allTo_step h7 h9 ?_
       show allTo _ U.length = true
       rw [← k3]; congr 1; omega
     (simp only [J2a]; omega)
    intro b8
    try simp only [nrmT] at b8
    refine ⟨?_, ?_⟩
    ·omega
    refine ⟨(j + 1), ?_⟩
    refine ⟨?_, ?_, rfl, rfl, rfl, rfl⟩
    ·refine ⟨?_, ?_, ?_⟩
     ·omega
     ·omega
     ·refine allTo_step h4 h6 ?_
      show allTo _ U.length = true
      rw [← h9]; congr 1; omega
    (simp only [J20]; omega)
   intro b9
   try simp only [nrmT] at b9
   refine ⟨?_, ?_⟩
   ·omega
   refine ⟨(i + 1), ?_⟩
   refine ⟨?_, ?_, rfl, rfl, rfl⟩
   ·refine ⟨?_, ?_, ?_⟩
    ·omega
    ·omega
    ·refine allTo_step h1 h3 ?_
     show allTo _ E.length = true
     rw [← h6]; congr 1; omega
   (simp only [J24]; omega)
  intro b10
  try simp only [nrmT] at b10
  unfold J4n
  rw [← h3]; congr 1; omega
theorem J9P (U : ZI) (E : ZR) (hm : ∀ i a : Nat, i < E.length → a < U.length → a < (E.getD i []).length ∧ 0 ≤ (E.getD i []).getD a 0 ∧ (E.getD i []).getD a 0 ≤ 99) : PC Tryz.prog 225 [.agg [.sl (.ints U), .sl (.rows E)]] (.one (.d (.bool (J4n U.length E)))) :=
  pc_wf @Tryz.call225 fun hw => pc_by (by kernel_rfl) Tryz.func225 @Tryz.call225 (by kernel_rfl) JaK (Jah U E) (by kernel_rfl) (Ja7 U E hm hw.1.1 hw.1.2.1.1 hw.1.2.1.2) (by kernel_rfl)
def J8Q : List D → Orc := orcN [none] fun ds => match ds with
  | [.agg [.sl (.ints U), .sl (.rows E)]] => some (.one (.d (.bool (J4n U.length E))))
  | _ => none
abbrev J0S (U : ZI) (E : ZR) (O1 : ZI) (D1 : ZR) : Prop := (drF O1 D1)
abbrev J45 (U : ZI) (E : ZR) (O1 : ZI) (D1 : ZR) : Nat := (tot D1).toNat
abbrev J2w (U : ZI) (E : ZR) (O1 : ZI) (D1 : ZR) (i : Int) (O2 : ZI) (D2 : ZR) : Prop := (O2 = O1) ∧ (0 ≤ i) ∧ (i ≤ (D2.length : Int)) ∧ (drF O1 D2) ∧ (D2.length = D1.length) ∧ (Clo D1 D2 (allTo (J6h O1.length D1) i.toNat))
abbrev J2v (U : ZI) (E : ZR) (O1 : ZI) (D1 : ZR) (i : Int) (O2 : ZI) (D2 : ZR) : Nat := (D2.length - i).toNat
abbrev J2x (U : ZI) (E : ZR) (O1 : ZI) (D1 : ZR) (i : Int) (O2 : ZI) (D2 : ZR) (j : Int) (O3 : ZI) (D3 : ZR) : Prop := (O3 = O1) ∧ (0 ≤ j) ∧ (j ≤ (D3.length : Int)) ∧ (drF O1 D3) ∧ (D3.length = D1.length) ∧ (Clo D1 D3 (allTo (J6h O1.length D1) i.toNat && allTo (J90 O1.length D1 i.toNat) j.toNat))
abbrev J2t (U : ZI) (E : ZR) (O1 : ZI) (D1 : ZR) (i : Int) (O2 : ZI) (D2 : ZR) (j : Int) (O3 : ZI) (D3 : ZR) : Nat := (D3.length - j).toNat
abbrev J2u (U : ZI) (E : ZR) (O1 : ZI) (D1 : ZR) (i : Int) (O2 : ZI) (D2 : ZR) (j : Int) (O3 : ZI) (D3 : ZR) (a : Int) (O4 : ZI) (D4 : ZR) : Prop := (O4 = O1) ∧ (0 ≤ a) ∧ (a ≤ (O1.length : Int)) ∧ (drF O1 D4) ∧ (D4.length = D1.length) ∧ (Clo D1 D4 (allTo (J6h O1.length D1) i.toNat && allTo (J90 O1.length D1 i.toNat) j.toNat && allTo (JaB O1.length D1 i.toNat j.toNat) a.toNat))
abbrev J2A (U : ZI) (E : ZR) (O1 : ZI) (D1 : ZR) (i : Int) (O2 : ZI) (D2 : ZR) (j : Int) (O3 : ZI) (D3 : ZR) (a : Int) (O4 : ZI) (D4 : ZR) : Nat := (O1.length - a).toNat
abbrev J2r (U : ZI) (E : ZR) (O1 : ZI) (D1 : ZR) (i : Int) (O2 : ZI) (D2 : ZR) (j : Int) (O3 : ZI) (D3 : ZR) (a : Int) (O4 : ZI) (D4 : ZR) (b : Int) (D5 : ZR) : Prop := (0 ≤ b) ∧ (b ≤ (O1.length : Int)) ∧ (drF O1 D5) ∧ (D5.length = D1.length) ∧ (Clo D1 D5 (allTo (J6h O1.length D1) i.toNat && allTo (J90 O1.length D1 i.toNat) j.toNat && allTo (JaB O1.length D1 i.toNat j.toNat) a.toNat && allTo (fun b => !J39 D1 i.toNat j.toNat a.toNat b) b.toNat))
abbrev J2B (U : ZI) (E : ZR) (O1 : ZI) (D1 : ZR) (i : Int) (O2 : ZI) (D2 : ZR) (j : Int) (O3 : ZI) (D3 : ZR) (a : Int) (O4 : ZI) (D4 : ZR) (b : Int) (D5 : ZR) : Nat := (O1.length - b).toNat
abbrev J3K (U : ZI) (E : ZR) (O : ZI) (D : ZR) : Prop := (drF O D)
def J4K (U : ZI) (E : ZR) : Ex := ex2 0 (fun (O : ZI) (D : ZR) => J3K U E O D) (fun (O : ZI) (D : ZR) => []) (fun (O : ZI) (D : ZR) => .agg [.own 3 (.ints O), .mat 3 24 D])
def JbK (f : FuncId) (ds : List D) : Orc := bif Nat.beq f 224 then JbB ds else bif Nat.beq f 225 then J8Q ds else bif Nat.beq f 161 then Ja5 ds else .no
def Jbv (U : ZI) (E : ZR) : Ann := .two (.none) (.two (.none) (.two (.loop (cut2 (fun (O1 : ZI) (D1 : ZR) => J0S U E O1 D1) (fun (O1 : ZI) (D1 : ZR) => [(2, .ptr 2 0), (3, .ptr 3 0)]) (fun (O1 : ZI) (D1 : ZR) => [(2, .box 27 [.d true (.nil), .d true (.nil)]), (1000000, .arr true 3 (.ints O1)), (1000001, .mat 3 24 D1 none), (3, .box 27 [.own 1000000 O1.length, .own 1000001 D1.length])])) (fun g => J45 U E g.1 g.2) (fun g => (fun (O1 : ZI) (D1 : ZR) => .two (.none) (.two (.none) (.loop (cut3 (fun (i : Int) (O2 : ZI) (D2 : ZR) => J2w U E O1 D1 i O2 D2) (fun (i : Int) (O2 : ZI) (D2 : ZR) => [(2, .ptr 2 0), (3, .ptr 3 0), (4, .d true (.int .i64 i))]) (fun (i : Int) (O2 : ZI) (D2 : ZR) => [(2, .box 27 [.d true (.nil), .d true (.nil)]), (1000101, .arr true 3 (.ints O2)), (1000102, .mat 3 24 D2 none), (3, .box 27 [.own 1000101 O2.length, .own 1000102 D2.length])])) (fun g => J2v U E O1 D1 g.1 g.2.1 g.2.2) (fun g => (fun (i : Int) (O2 : ZI) (D2 : ZR) => .two (.none) (.two (.two (.none) (.loop (cut3 (fun (j : Int) (O3 : ZI) (D3 : ZR) => J2x U E O1 D1 i O2 D2 j O3 D3) (fun (j : Int) (O3 : ZI) (D3 : ZR) => [(2, .ptr 2 0), (3, .ptr 3 0), (4, .d true (.int .i64 i)), (5, .d true (.int .i64 j))]) (fun (j : Int) (O3 : ZI) (D3 : ZR) => [(2, .box 27 [.d true (.nil), .d true (.nil)]), (1000201, .arr true 3 (.ints O3)), (1000202, .mat 3 24 D3 none), (3, .box 27 [.own 1000201 O3.length, .own 1000202 D3.length])])) (fun g => J2t U E O1 D1 i O2 D2 g.1 g.2.1 g.2.2) (fun g => (fun (j : Int) (O3 : ZI) (D3 : ZR) => .two (.none) (.two (.two (.none) (.loop (cut3 (fun (a : Int) (O4 : ZI) (D4 : ZR) => J2u U E O1 D1 i O2 D2 j O3 D3 a O4 D4) (fun (a : Int) (O4 : ZI) (D4 : ZR) => [(2, .ptr 2 0), (3, .ptr 3 0), (4, .d true (.int .i64 i)), (5, .d true (.int .i64 j)), (6, .d true (.int .i64 a))]) (fun (a : Int) (O4 : ZI) (D4 : ZR) => [(2, .box 27 [.d true (.nil), .d true (.nil)]), (1000301, .arr true 3 (.ints O4)), (1000302, .mat 3 24 D4 none), (3, .box 27 [.own 1000301 O4.length, .own 1000302 D4.length])])) (fun g => J2A U E O1 D1 i O2 D2 j O3 D3 g.1 g.2.1 g.2.2) (fun g => (fun (a : Int) (O4 : ZI) (D4 : ZR) => .two (.none) (.two (.two (.none) (.loop (cut2 (fun (b : Int) (D5 : ZR) => J2r U E O1 D1 i O2 D2 j O3 D3 a O4 D4 b D5) (fun (b : Int) (D5 : ZR) => [(2, .ptr 2 0), (3, .ptr 3 0), (4, .d true (.int .i64 i)), (5, .d true (.int .i64 j)), (6, .d true (.int .i64 a)), (7, .d true (.int .i64 b))]) (fun (b : Int) (D5 : ZR) => [(2, .box 27 [.d true (.nil), .d true (.nil)]), (1000401, .mat 3 24 D5 none), (3, .box 27 [.own 1000301 O4.length, .own 1000401 D5.length]), (1000301, .arr true 3 (.ints O4))])) (fun g => J2B U E O1 D1 i O2 D2 j O3 D3 a O4 D4 g.1 g.2) (fun _ => .none))) (.none))) (g.1) (g.2.1) (g.2.2)))) (.none))) (g.1) (g.2.1) (g.2.2)))) (.none))) (g.1) (g.2.1) (g.2.2))))) (g.1) (g.2))) (.none)))
def J7f (U : ZI) (E : ZR) : Prop :=
  (PC Tryz.prog 224 [.agg [.sl (.ints U), .sl (.rows E)]] (.agg [.own 3 (.ints U), .mat 3 24 E])) ∧ ((∃ O1' : ZI, ∃ D1' : ZR, (J0S U E O1' D1') ∧ (U = O1') ∧ (E = D1') ∧ (U.length = O1'.length) ∧ (E.length = D1'.length)) ∧ (∀ O1 : ZI, ∀ D1 : ZR, (J0S U E O1 D1) → (O1.length = O1.length) ∧ (D1.length = D1.length) ∧ (PC Tryz.prog 225 [.agg [.sl (.ints O1), .sl (.rows D1)]] (.one (.d (.bool (J4n O1.length D1))))) ∧ (((!(J4n O1.length D1)) = true → ((∃ i' : Int, ∃ O2' : ZI, ∃ D2' : ZR, (J2w U E O1 D1 i' O2' D2') ∧ ((0 : Int) = i') ∧ (O1 = O2') ∧ (D1 = D2') ∧ (O1.length = O2'.length) ∧ (D1.length = D2'.length)) ∧ (∀ i : Int, ∀ O2 : ZI, ∀ D2 : ZR, (J2w U E O1 D1 i O2 D2) → (((decide (i < (D2.length : Int))) = true → ((∃ j' : Int, ∃ O3' : ZI, ∃ D3' : ZR, (J2x U E O1 D1 i O2 D2 j' O3' D3') ∧ (i = i) ∧ ((0 : Int) = j') ∧ (O2 = O3') ∧ (D2 = D3') ∧ (O2.length = O3'.length) ∧ (D2.length = D3'.length)) ∧ (∀ j : Int, ∀ O3 : ZI, ∀ D3 : ZR, (J2x U E O1 D1 i O2 D2 j O3 D3) → (((decide (j < (D3.length : Int))) = true → ((∃ a' : Int, ∃ O4' : ZI, ∃ D4' : ZR, (J2u U E O1 D1 i O2 D2 j O3 D3 a' O4' D4') ∧ (i = i) ∧ (j = j) ∧ ((0 : Int) = a') ∧ (O3 = O4') ∧ (D3 = D4') ∧ (O3.length = O4'.length) ∧ (D3.length = D4'.length)) ∧ (∀ a : Int, ∀ O4 : ZI, ∀ D4 : ZR, (J2u U E O1 D1 i O2 D2 j O3 D3 a O4 D4) → (((decide (a < (O4.length : Int))) = true → ((∃ b' : Int, ∃ D5' : ZR, (J2r U E O1 D1 i O2 D2 j O3 D3 a O4 D4 b' D5') ∧ (i = i) ∧ (j = j) ∧ (a = a) ∧ ((0 : Int) = b') ∧ (D4 = D5') ∧ (O4.length = O4.length) ∧ (D4.length = D5'.length) ∧ (O4 = O4)) ∧ (∀ b : Int, ∀ D5 : ZR, (J2r U E O1 D1 i O2 D2 j O3 D3 a O4 D4 b D5) → (((decide (b < (O4.length : Int))) = true → (true = true) ∧ ((0 : Int) ≤ i) ∧ ((i : Int) < (D5.length : Int)) ∧ (i.toNat < D5.length) ∧ ((0 : Int) ≤ i) ∧ ((i : Int) < (D5.length : Int)) ∧ (i.toNat < D5.length) ∧ ((0 : Int) ≤ a) ∧ ((a : Int) < (((D5.getD i.toNat []).length) : Int)) ∧ (i.toNat < D5.length) ∧ (a.toNat < (D5.getD i.toNat []).length) ∧ ((0 : Int) ≤ i) ∧ ((i : Int) < (D5.length : Int)) ∧ (i.toNat < D5.length) ∧ ((0 : Int) ≤ b) ∧ ((b : Int) < (((D5.getD i.toNat []).length) : Int)) ∧ (i.toNat < D5.length) ∧ (b.toNat < (D5.getD i.toNat []).length) ∧ ((0 : Int) ≤ j) ∧ ((j : Int) < (D5.length : Int)) ∧ (j.toNat < D5.length) ∧ ((0 : Int) ≤ b) ∧ ((b : Int) < (((D5.getD j.toNat []).length) : Int)) ∧ (j.toNat < D5.length) ∧ (b.toNat < (D5.getD j.toNat []).length) ∧ (I6 (((D5.getD i.toNat []).getD b.toNat 0) + ((D5.getD j.toNat []).getD b.toNat 0))) ∧ ((0 : Int) ≤ j) ∧ ((j : Int) < (D5.length : Int)) ∧ (j.toNat < D5.length) ∧ ((0 : Int) ≤ a) ∧ ((a : Int) < (((D5.getD j.toNat []).length) : Int)) ∧ (j.toNat < D5.length) ∧ (a.toNat < (D5.getD j.toNat []).length) ∧ (I6 ((((D5.getD i.toNat []).getD b.toNat 0) + ((D5.getD j.toNat []).getD b.toNat 0)) + ((D5.getD j.toNat []).getD a.toNat 0))) ∧ (PC Tryz.prog 161 [.int .i64 ((D5.getD i.toNat []).getD a.toNat 0), .int .i64 ((((D5.getD i.toNat []).getD b.toNat 0) + ((D5.getD j.toNat []).getD b.toNat 0)) + ((D5.getD j.toNat []).getD a.toNat 0))] (.one (.d (.int .i64 (min ((D5.getD i.toNat []).getD a.toNat 0) ((((D5.getD i.toNat []).getD b.toNat 0) + ((D5.getD j.toNat []).getD b.toNat 0)) + ((D5.getD j.toNat []).getD a.toNat 0))))))) ∧ ((0 : Int) ≤ a) ∧ ((a : Int) < (((D5.getD i.toNat []).length) : Int)) ∧ (i.toNat < D5.length) ∧ (a.toNat < (D5.getD i.toNat []).length) ∧ (I6 (b + 1)) ∧ (∃ b' : Int, ∃ D5' : ZR, (J2r U E O1 D1 i O2 D2 j O3 D3 a O4 D4 b' D5') ∧ (J2B U E O1 D1 i O2 D2 j O3 D3 a O4 D4 b' D5' < J2B U E O1 D1 i O2 D2 j O3 D3 a O4 D4 b D5) ∧ (i = i) ∧ (j = j) ∧ (a = a) ∧ ((b + 1) = b') ∧ ((D5.set i.toNat ((D5.getD i.toNat []).set a.toNat (min ((D5.getD i.toNat []).getD a.toNat 0) ((((D5.getD i.toNat []).getD b.toNat 0) + ((D5.getD j.toNat []).getD b.toNat 0)) + ((D5.getD j.toNat []).getD a.toNat 0))))) = D5') ∧ (O4.length = O4.length) ∧ (D5.length = D5'.length) ∧ (O4 = O4))) ∧ ((decide (b < (O4.length : Int))) = false → (I6 (a + 1)) ∧ (∃ a' : Int, ∃ O4' : ZI, ∃ D4' : ZR, (J2u U E O1 D1 i O2 D2 j O3 D3 a' O4' D4') ∧ (J2A U E O1 D1 i O2 D2 j O3 D3 a' O4' D4' < J2A U E O1 D1 i O2 D2 j O3 D3 a O4 D4) ∧ (i = i) ∧ (j = j) ∧ ((a + 1) = a') ∧ (O4 = O4') ∧ (D5 = D4') ∧ (O4.length = O4'.length) ∧ (D5.length = D4'.length))))))) ∧ ((decide (a < (O4.length : Int))) = false → (I6 (j + 1)) ∧ (∃ j' : Int, ∃ O3' : ZI, ∃ D3' : ZR, (J2x U E O1 D1 i O2 D2 j' O3' D3') ∧ (J2t U E O1 D1 i O2 D2 j' O3' D3' < J2t U E O1 D1 i O2 D2 j O3 D3) ∧ (i = i) ∧ ((j + 1) = j') ∧ (O4 = O3') ∧ (D4 = D3') ∧ (O4.length = O3'.length) ∧ (D4.length = D3'.length))))))) ∧ ((decide (j < (D3.length : Int))) = false → (I6 (i + 1)) ∧ (∃ i' : Int, ∃ O2' : ZI, ∃ D2' : ZR, (J2w U E O1 D1 i' O2' D2') ∧ (J2v U E O1 D1 i' O2' D2' < J2v U E O1 D1 i O2 D2) ∧ ((i + 1) = i') ∧ (O3 = O2') ∧ (D3 = D2') ∧ (O3.length = O2'.length) ∧ (D3.length = D2'.length))))))) ∧ ((decide (i < (D2.length : Int))) = false → (∃ O1' : ZI, ∃ D1' : ZR, (J0S U E O1' D1') ∧ (J45 U E O1' D1' < J45 U E O1 D1) ∧ (O2 = O1') ∧ (D2 = D1') ∧ (O2.length = O1'.length) ∧ (D2.length = D1'.length))))))) ∧ ((!(J4n O1.length D1)) = false → (∃ O' : ZI, ∃ D' : ZR, (J3K U E O' D') ∧ (O1.length = O1.length) ∧ ((O1 : ZI) = O') ∧ (D1.length = D1.length) ∧ ((D1 : ZR) = D'))))))
theorem JaY (U : ZI) (E : ZR) (hf : drF U E) (w_Open : (U.length : Int) ≤ 9223372036854775807) (w_Dist : (E.length : Int) ≤ 9223372036854775807) (v_Dist : ∀ x9 ∈ E, (x9.length : Int) ≤ 9223372036854775807) : J7f U E := by
  unfold J7f
  refine ⟨?_, ?_, ?_⟩
  ·refine Jcr U E ?_ ?_ ?_
   ·have q := hf.1; have q2 := hf.2.1; omega
   ·have q := hf.1; have q2 := hf.2.1; omega
   ·intro r hr
    have q := (hf.2.2 r hr).1
    have q2 := hf.1
    omega
  ·refine ⟨U, E, ?_⟩
   refine ⟨?_, rfl, rfl, rfl, rfl⟩
   ·unfold J0S
    assumption
  intro O1 D1 hJ
  have d1 := hJ
  refine ⟨rfl, rfl, ?_, ?_, ?_⟩
  ·refine J9P O1 D1 ?_
   ·intro i a hi ha
    have q := J7 d1 hi ha
    omega
  ·intro b1
   try simp only [nrmT] at b1
   refine ⟨?_, ?_⟩
   ·refine ⟨0, O1, D1, ?_⟩
    refine ⟨?_, rfl, rfl, rfl, rfl, rfl⟩
    ·refine ⟨?_, ?_, ?_, ?_, ?_, ?_⟩
     ·rfl
     ·omega
     ·omega
     ·assumption
     ·omega
     ·exact .inl ⟨rfl, rfl⟩
   intro i O2 D2 hJ
   obtain ⟨o2, h1, h2, d2, l2, c2⟩ := hJ
   refine ⟨?_, ?_⟩
   ·intro b2
    try simp only [nrmT] at b2
    refine ⟨?_, ?_⟩
    ·refine ⟨0, O2, D2, ?_⟩
     refine ⟨?_, rfl, rfl, rfl, rfl, rfl, rfl⟩
     ·refine ⟨?_, ?_, ?_, ?_, ?_, ?_⟩
      ·assumption
      ·omega
      ·omega
      ·assumption
      ·omega
      ·exact J3v c2 fun h => by rw [h]; rfl
    intro j O3 D3 hJ
    obtain ⟨o3, h4, h5, d3, l3, c3⟩ := hJ
    refine ⟨?_, ?_⟩
    ·intro b3
     try simp only [nrmT] at b3
     refine ⟨?_, ?_⟩
     ·refine ⟨0, O3, D3, ?_⟩
      refine ⟨?_, rfl, rfl, rfl, rfl, rfl, rfl, rfl⟩
      ·refine ⟨?_, ?_, ?_, ?_, ?_, ?_⟩
       ·assumption
       ·omega
       ·omega
       ·assumption
       ·omega
       ·exact J3v c3 fun h => by rw [h]; rfl
     intro a O4 D4 hJ
     obtain ⟨o4, h7, h8, d4, l4, c4⟩ := hJ
     refine ⟨?_, ?_⟩
     ·intro b4
      try simp only [nrmT] at b4
      refine ⟨?_, ?_⟩
      ·refine ⟨0, D4, ?_⟩
       refine ⟨?_, rfl, rfl, rfl, rfl, rfl, rfl, rfl, rfl⟩
       ·refine ⟨?_, ?_, ?_, ?_, ?_⟩
        ·omega
        ·omega
        ·assumption
        ·omega
        ·exact J3v c4 fun h => by rw [h]; rfl
      intro b D5 hJ
      obtain ⟨k1, k2, d5, l5, c5⟩ := hJ
      refine ⟨?_, ?_⟩
      ·intro b5
       try simp only [nrmT] at b5
       refine ⟨rfl, ?_, ?_, ?_, ?_, ?_, ?_, ?_, ?_, ?_, ?_, ?_, ?_, ?_, ?_, ?_, ?_, ?_, ?_, ?_, ?_, ?_, ?_, ?_, ?_, ?_, ?_, ?_, ?_, ?_, ?_, ?_, ?_, ?_, JaG ((D5.getD i.toNat []).getD a.toNat 0) ((((D5.getD i.toNat []).getD b.toNat 0) + ((D5.getD j.toNat []).getD b.toNat 0)) + ((D5.getD j.toNat []).getD a.toNat 0)), ?_, ?_, ?_, ?_, ?_, ?_⟩
       ·omega
       ·omega
       ·omega
       ·omega
       ·omega
       ·omega
       ·omega
       ·have eo := congrArg List.length o4
        have q1 := J7 d5 (i := i.toNat) (a := a.toNat) (by omega) (by omega)
        have q2 := J7 d5 (i := i.toNat) (a := b.toNat) (by omega) (by omega)
        have q3 := J7 d5 (i := j.toNat) (a := b.toNat) (by omega) (by omega)
        have q4 := J7 d5 (i := j.toNat) (a := a.toNat) (by omega) (by omega)
        omega
       ·omega
       ·have eo := congrArg List.length o4
        have q1 := J7 d5 (i := i.toNat) (a := a.toNat) (by omega) (by omega)
        have q2 := J7 d5 (i := i.toNat) (a := b.toNat) (by omega) (by omega)
        have q3 := J7 d5 (i := j.toNat) (a := b.toNat) (by omega) (by omega)
        have q4 := J7 d5 (i := j.toNat) (a := a.toNat) (by omega) (by omega)
        omega
       ·omega
       ·omega
       ·omega
       ·omega
       ·have eo := congrArg List.length o4
        have q1 := J7 d5 (i := i.toNat) (a := a.toNat) (by omega) (by omega)
        have q2 := J7 d5 (i := i.toNat) (a := b.toNat) (by omega) (by omega)
        have q3 := J7 d5 (i := j.toNat) (a := b.toNat) (by omega) (by omega)
        have q4 := J7 d5 (i := j.toNat) (a := a.toNat) (by omega) (by omega)
        omega
       ·omega
       ·have eo := congrArg List.length o4
        have q1 := J7 d5 (i := i.toNat) (a := a.toNat) (by omega) (by omega)
        have q2 := J7 d5 (i := i.toNat) (a := b.toNat) (by omega) (by omega)
        have q3 := J7 d5 (i := j.toNat) (a := b.toNat) (by omega) (by omega)
        have q4 := J7 d5 (i := j.toNat) (a := a.toNat) (by omega) (by omega)
        omega
       ·omega
       ·omega
       ·omega
       ·omega
       ·have eo := congrArg List.length o4
        have q1 := J7 d5 (i := i.toNat) (a := a.toNat) (by omega) (by omega)
        have q2 := J7 d5 (i := i.toNat) (a := b.toNat) (by omega) (by omega)
        have q3 := J7 d5 (i := j.toNat) (a := b.toNat) (by omega) (by omega)
        have q4 := J7 d5 (i := j.toNat) (a := a.toNat) (by omega) (by omega)
        omega
       ·omega
       ·have eo := congrArg List.length o4
        have q1 := J7 d5 (i := i.toNat) (a := a.toNat) (by omega) (by omega)
        have q2 := J7 d5 (i := i.toNat) (a := b.toNat) (by omega) (by omega)
        have q3 := J7 d5 (i := j.toNat) (a := b.toNat) (by omega) (by omega)
        have q4 := J7 d5 (i := j.toNat) (a := a.toNat) (by omega) (by omega)
        omega
       ·have eo := congrArg List.length o4
        have q1 := J7 d5 (i := i.toNat) (a := a.toNat) (by omega) (by omega)
        have q2 := J7 d5 (i := i.toNat) (a := b.toNat) (by omega) (by omega)
        have q3 := J7 d5 (i := j.toNat) (a := b.toNat) (by omega) (by omega)
        have q4 := J7 d5 (i := j.toNat) (a := a.toNat) (by omega) (by omega)
        omega
       ·omega
       ·omega
       ·omega
       ·omega
       ·have eo := congrArg List.length o4
        have q1 := J7 d5 (i := i.toNat) (a := a.toNat) (by omega) (by omega)
        have q2 := J7 d5 (i := i.toNat) (a := b.toNat) (by omega) (by omega)
        have q3 := J7 d5 (i := j.toNat) (a := b.toNat) (by omega) (by omega)
        have q4 := J7 d5 (i := j.toNat) (a := a.toNat) (by omega) (by omega)
        omega
       ·omega
       ·have eo := congrArg List.length o4
        have q1 := J7 d5 (i := i.toNat) (a := a.toNat) (by omega) (by omega)
        have q2 := J7 d5 (i := i.toNat) (a := b.toNat) (by omega) (by omega)
        have q3 := J7 d5 (i := j.toNat) (a := b.toNat) (by omega) (by omega)
        have q4 := J7 d5 (i := j.toNat) (a := a.toNat) (by omega) (by omega)
        omega
       ·have eo := congrArg List.length o4
        have q1 := J7 d5 (i := i.toNat) (a := a.toNat) (by omega) (by omega)
        have q2 := J7 d5 (i := i.toNat) (a := b.toNat) (by omega) (by omega)
        have q3 := J7 d5 (i := j.toNat) (a := b.toNat) (by omega) (by omega)
        have q4 := J7 d5 (i := j.toNat) (a := a.toNat) (by omega) (by omega)
        omega
       ·omega
       ·have eo := congrArg List.length o4
        have q1 := J7 d5 (i := i.toNat) (a := a.toNat) (by omega) (by omega)
        have q2 := J7 d5 (i := i.toNat) (a := b.toNat) (by omega) (by omega)
        have q3 := J7 d5 (i := j.toNat) (a := b.toNat) (by omega) (by omega)
        have q4 := J7 d5 (i := j.toNat) (a := a.toNat) (by omega) (by omega)
        omega
       ·omega
       ·have eo := congrArg List.length o4
        have q1 := J7 d5 (i := i.toNat) (a := a.toNat) (by omega) (by omega)
        have q2 := J7 d5 (i := i.toNat) (a := b.toNat) (by omega) (by omega)
        have q3 := J7 d5 (i := j.toNat) (a := b.toNat) (by omega) (by omega)
        have q4 := J7 d5 (i := j.toNat) (a := a.toNat) (by omega) (by omega)
        omega
       ·(have q := d4.1; have eo := congrArg List.length o4; omega)
       refine ⟨(b + 1), (D5.set i.toNat ((D5.getD i.toNat []).set a.toNat (min ((D5.getD i.toNat []).getD a.toNat 0) ((((D5.getD i.toNat []).getD b.toNat 0) + ((D5.getD j.toNat []).getD b.toNat 0)) + ((D5.getD j.toNat []).getD a.toNat 0))))), ?_⟩
       refine ⟨?_, ?_, rfl, rfl, rfl, rfl, rfl, rfl, ?_, rfl⟩
       ·refine ⟨?_, ?_, ?_, ?_, ?_⟩
        ·omega
        ·(simp_all <;> omega)
        ·have eo := congrArg List.length o4
         have hs := JaW d5 (i := i.toNat) (j := j.toNat) (a := a.toNat) (b := b.toNat) (by omega) (by omega) (by omega) (by omega) c5
         exact hs.1
        ·simp; try omega
        ·have eo := congrArg List.length o4
         have hs := JaW d5 (i := i.toNat) (j := j.toNat) (a := a.toNat) (b := b.toNat) (by omega) (by omega) (by omega) (by omega) c5
         rw [show (b + 1).toNat = b.toNat + 1 by omega]
         exact hs.2
       ·have eo := congrArg List.length o4
        (simp only [J2B]; omega)
       (simp_all; done)
      intro b6
      try simp only [nrmT] at b6
      refine ⟨?_, ?_⟩
      ·(have q := d4.1; have eo := congrArg List.length o4; omega)
      refine ⟨(a + 1), O4, D5, ?_⟩
      refine ⟨?_, ?_, rfl, rfl, rfl, rfl, rfl, rfl, rfl⟩
      ·refine ⟨?_, ?_, ?_, ?_, ?_, ?_⟩
       ·assumption
       ·omega
       ·omega
       ·assumption
       ·omega
       ·have eo := congrArg List.length o4
        refine J3v c5 fun h => ?_
        simp only [Bool.and_eq_true] at h ⊢
        refine ⟨h.1.1, allTo_step h7 h.1.2 ?_⟩
        show allTo _ O1.length = true
        rw [← h.2]; congr 1; omega
      (simp only [J2A]; omega)
     intro b7
     try simp only [nrmT] at b7
     refine ⟨?_, ?_⟩
     ·(have q := d2.2.1; omega)
     refine ⟨(j + 1), O4, D4, ?_⟩
     refine ⟨?_, ?_, rfl, rfl, rfl, rfl, rfl, rfl⟩
     ·refine ⟨?_, ?_, ?_, ?_, ?_, ?_⟩
      ·assumption
      ·omega
      ·omega
      ·assumption
      ·omega
      ·refine J3v c4 fun h => ?_
       simp only [Bool.and_eq_true] at h ⊢
       refine ⟨h.1.1, allTo_step h4 h.1.2 ?_⟩
       show allTo _ O1.length = true
       rw [← h.2]; congr 1
       have eo := congrArg List.length o4
       omega
     (simp only [J2t]; omega)
    intro b8
    try simp only [nrmT] at b8
    refine ⟨?_, ?_⟩
    ·(have q := d2.2.1; omega)
    refine ⟨(i + 1), O3, D3, ?_⟩
    refine ⟨?_, ?_, rfl, rfl, rfl, rfl, rfl⟩
    ·refine ⟨?_, ?_, ?_, ?_, ?_, ?_⟩
     ·assumption
     ·omega
     ·omega
     ·assumption
     ·omega
     ·refine J3v c3 fun h => ?_
      simp only [Bool.and_eq_true] at h
      refine allTo_step h1 h.1 ?_
      show allTo _ D1.length = true
      rw [← h.2]; congr 1; omega
    (simp only [J2v]; omega)
   intro b9
   try simp only [nrmT] at b9
   refine ⟨O2, D2, ?_⟩
   refine ⟨?_, ?_, rfl, rfl, rfl, rfl⟩
   ·unfold J0S
    (rw [o2]; assumption)
   have hlt := JdM (n := O1.length) (D0 := D1) (D := D2) (by rw [show D1.length = i.toNat by omega]; exact c2) (by simpa using b1)
   have hn := JcB (D := D2) fun r hr x hx => ((d2.2.2 r hr).2 x hx).1
   show (tot D2).toNat < (tot D1).toNat
   omega
  intro b10
  try simp only [nrmT] at b10
  refine ⟨O1, D1, ?_⟩
  refine ⟨?_, rfl, rfl, rfl, rfl⟩
  ·unfold J3K
   assumption
theorem Jak (U : ZI) (E : ZR) (hf : drF U E) : PE Tryz.prog 187 [.agg [.sl (.ints U), .sl (.rows E)]] (J4K U E) :=
  pe_wf @Tryz.call187 fun hw => pe_by (by kernel_rfl) Tryz.func187 @Tryz.call187 (by kernel_rfl) JbK (Jbv U E) (by kernel_rfl) (JaY U E hf hw.1.1 hw.1.2.1.1 hw.1.2.1.2) (by kernel_rfl)
abbrev J0f (code : List Nat) (c : Cur) (most : Int) (O : ZI) (D : ZR) (ck : Cur) : Prop := (okC ck 8000000) ∧ (O.length ≤ 8) ∧ (D.length ≤ 8)
def J2e (code : List Nat) (c : Cur) (most : Int) : Ex := ex3 1 (fun (O : ZI) (D : ZR) (ck : Cur) => J0f code c most O D ck) (fun (O : ZI) (D : ZR) (ck : Cur) => [.int .i64 ck.pos, .int .u64 ck.seed]) (fun (O : ZI) (D : ZR) (ck : Cur) => .one (.d (.agg [.sl (.ints O), .sl (.rows D)])))
def J6G (f : FuncId) (ds : List D) : Orc := .no
def J71 (u : Value) (code : List Nat) (c : Cur) (most : Int) : Ann := .two (.none) (.two (.two (.mark [] [(1, .cell [.int .i64 ((J0 code c 3).pos), .int .u64 ((J0 code c 3).seed)] (.one (.d (.int .i64 (J4 code c 3)))))]) (.two (.none) (.two (.two (.exr (.ex [] 3 (JD code (J0 code c 3) most) (fun g => (fun (Or3 : ZI) (Dr3 : ZR) (cfr3 : Cur) => .ex [] 4 (JI code cfr3 Or3 Dr3) (fun g => (fun (Or3x4 : ZI) (Dr3x4 : ZR) (chr3x4 : Cur) => .ms [] []) (g.1) (g.2.1) (g.2.2))) (g.1) (g.2.1) (g.2.2)))) (.none)) (.two (.none) (.two (.two (.exr (.ex [] 3 (J1G code (J0 code c 3) most) (fun g => (fun (Or5 : ZI) (Dr5 : ZR) (cgr5 : Cur) => .ex [] 4 (JI code cgr5 Or5 Dr5) (fun g => (fun (Or5x4 : ZI) (Dr5x4 : ZR) (chr5x4 : Cur) => .ms [] []) (g.1) (g.2.1) (g.2.2))) (g.1) (g.2.1) (g.2.2)))) (.none)) (.none)))))) (.two (.exr (.ex [] 3 (JD code (J0 code c 3) most) (fun g => (fun (Or6 : ZI) (Dr6 : ZR) (cfr6 : Cur) => .ex [] 4 (J4K Or6 Dr6) (fun g => (fun (Or6x4 : ZI) (Dr6x4 : ZR) => .ex [] 5 (JI code cfr6 Or6x4 Dr6x4) (fun g => (fun (Or6x5 : ZI) (Dr6x5 : ZR) (chr6x5 : Cur) => .ms [] []) (g.1) (g.2.1) (g.2.2))) (g.1) (g.2))) (g.1) (g.2.1) (g.2.2)))) (.none)))
def J2d (u : Value) (code : List Nat) (c : Cur) (most : Int) : Prop :=
  (PK Tryz.prog 156 76 (.sl (.bytes code)) [.int .i64 c.pos, .int .u64 c.seed] [.int .i64 ((J0 code c 3).pos), .int .u64 ((J0 code c 3).seed)] [.int .i64 3] (.one (.d (.int .i64 (J4 code c 3))))) ∧ ((((J4 code c 3) == 0) = true → (PKE Tryz.prog 188 76 (.sl (.bytes code)) [.int .i64 ((J0 code c 3).pos), .int .u64 ((J0 code c 3).seed)] [.int .i64 most] (JD code (J0 code c 3) most)) ∧ (∀ Or3 : ZI, ∀ Dr3 : ZR, ∀ cfr3 : Cur, J02 code (J0 code c 3) most Or3 Dr3 cfr3 → ((true = true) ∧ (Or3.length = Or3.length) ∧ (Dr3.length = Dr3.length) ∧ (PKV Tryz.prog 232 76 (.sl (.bytes code)) [.int .i64 cfr3.pos, .int .u64 cfr3.seed] 3 Or3 3 24 Dr3 (JI code cfr3 Or3 Dr3)) ∧ (∀ Or3x4 : ZI, ∀ Dr3x4 : ZR, ∀ chr3x4 : Cur, Ji code cfr3 Or3 Dr3 Or3x4 Dr3x4 chr3x4 → ((true = true) ∧ (∃ O' : ZI, ∃ D' : ZR, ∃ ck' : Cur, (J0f code c most O' D' ck') ∧ (true = true) ∧ ((.lit u (.sl (.bytes code)) : D) = .lit u (.sl (.bytes code))) ∧ (chr3x4.pos = ck'.pos) ∧ (chr3x4.seed = ck'.seed) ∧ (Or3x4.length = Or3x4.length) ∧ (Dr3x4.length = Dr3x4.length) ∧ ((.agg [.sl (.ints Or3x4), .sl (.rows Dr3x4)] : D) = .agg [.sl (.ints O'), .sl (.rows D')]))))))) ∧ (((J4 code c 3) == 0) = false → ((((J4 code c 3) == 1) = true → (PKE Tryz.prog 186 76 (.sl (.bytes code)) [.int .i64 ((J0 code c 3).pos), .int .u64 ((J0 code c 3).seed)] [.int .i64 most] (J1G code (J0 code c 3) most)) ∧ (∀ Or5 : ZI, ∀ Dr5 : ZR, ∀ cgr5 : Cur, J1y code (J0 code c 3) most Or5 Dr5 cgr5 → ((true = true) ∧ (Or5.length = Or5.length) ∧ (Dr5.length = Dr5.length) ∧ (PKV Tryz.prog 232 76 (.sl (.bytes code)) [.int .i64 cgr5.pos, .int .u64 cgr5.seed] 3 Or5 3 24 Dr5 (JI code cgr5 Or5 Dr5)) ∧ (∀ Or5x4 : ZI, ∀ Dr5x4 : ZR, ∀ chr5x4 : Cur, Ji code cgr5 Or5 Dr5 Or5x4 Dr5x4 chr5x4 → ((true = true) ∧ (∃ O' : ZI, ∃ D' : ZR, ∃ ck' : Cur, (J0f code c most O' D' ck') ∧ (true = true) ∧ ((.lit u (.sl (.bytes code)) : D) = .lit u (.sl (.bytes code))) ∧ (chr5x4.pos = ck'.pos) ∧ (chr5x4.seed = ck'.seed) ∧ (Or5x4.length = Or5x4.length) ∧ (Dr5x4.length = Dr5x4.length) ∧ ((.agg [.sl (.ints Or5x4), .sl (.rows Dr5x4)] : D) = .agg [.sl (.ints O'), .sl (.rows D')]))))))) ∧ (((J4 code c 3) == 1) = false → (PKE Tryz.prog 188 76 (.sl (.bytes code)) [.int .i64 ((J0 code c 3).pos), .int .u64 ((J0 code c 3).seed)] [.int .i64 most] (JD code (J0 code c 3) most)) ∧ (∀ Or6 : ZI, ∀ Dr6 : ZR, ∀ cfr6 : Cur, J02 code (J0 code c 3) most Or6 Dr6 cfr6 → ((true = true) ∧ (Or6.length = Or6.length) ∧ (Dr6.length = Dr6.length) ∧ (PE Tryz.prog 187 [.agg [.sl (.ints Or6), .sl (.rows Dr6)]] (J4K Or6 Dr6)) ∧ (∀ Or6x4 : ZI, ∀ Dr6x4 : ZR, J3K Or6 Dr6 Or6x4 Dr6x4 → ((true = true) ∧ (Or6x4.length = Or6x4.length) ∧ (Dr6x4.length = Dr6x4.length) ∧ (PKV Tryz.prog 232 76 (.sl (.bytes code)) [.int .i64 cfr6.pos, .int .u64 cfr6.seed] 3 Or6x4 3 24 Dr6x4 (JI code cfr6 Or6x4 Dr6x4)) ∧ (∀ Or6x5 : ZI, ∀ Dr6x5 : ZR, ∀ chr6x5 : Cur, Ji code cfr6 Or6x4 Dr6x4 Or6x5 Dr6x5 chr6x5 → ((true = true) ∧ (∃ O' : ZI, ∃ D' : ZR, ∃ ck' : Cur, (J0f code c most O' D' ck') ∧ (true = true) ∧ ((.lit u (.sl (.bytes code)) : D) = .lit u (.sl (.bytes code))) ∧ (chr6x5.pos = ck'.pos) ∧ (chr6x5.seed = ck'.seed) ∧ (Or6x5.length = Or6x5.length) ∧ (Dr6x5.length = Dr6x5.length) ∧ ((.agg [.sl (.ints Or6x5), .sl (.rows Dr6x5)] : D) = .agg [.sl (.ints O'), .sl (.rows D')]))))))))))))
theorem J6y (u : Value) (code : List Nat) (c : Cur) (most : Int) (hb : ∀ x9 ∈ code, x9 < 256) (hc : okC c 2000000) (hm : 0 ≤ most ∧ most ≤ 7)  : J2d u code c most := by
  unfold J2d
  refine ⟨?_, ?_, ?_⟩
  ·refine Jm code c 3 ?_ ?_
   ·exact hb
   ·exact J5 (by assumption) (by omega)
  ·intro b1
   refine ⟨?_, ?_⟩
   ·refine J1p code (J0 code c 3) most ?_ ?_ ?_
    ·exact hb
    ·exact J5 (J6 (by assumption)) (by omega)
    ·omega
   intro Or3 Dr3 cfr3 hQ9
   obtain ⟨f1r3, f2r3⟩ := hQ9
   refine ⟨rfl, rfl, rfl, ?_, ?_⟩
   ·refine J1C code cfr3 Or3 Dr3 ?_ ?_ ?_
    ·exact hb
    ·exact J5 (by assumption) (by omega)
    ·assumption
   intro Or3x4 Dr3x4 chr3x4 hQ9
   obtain ⟨f1r3x4, f2r3x4, f3r3x4⟩ := hQ9
   refine ⟨rfl, ?_⟩
   ·refine ⟨Or3x4, Dr3x4, chr3x4, ?_⟩
    refine ⟨?_, rfl, rfl, rfl, rfl, rfl, rfl, rfl⟩
    ·refine ⟨?_, ?_, ?_⟩
     ·exact J5 (by assumption) (by omega)
     ·assumption
     ·assumption
  intro b2
  refine ⟨?_, ?_⟩
  ·intro b3
   refine ⟨?_, ?_⟩
   ·refine J4Q code (J0 code c 3) most ?_ ?_ ?_
    ·exact hb
    ·exact J5 (J6 (by assumption)) (by omega)
    ·omega
   intro Or5 Dr5 cgr5 hQ9
   obtain ⟨f1r5, f2r5⟩ := hQ9
   refine ⟨rfl, rfl, rfl, ?_, ?_⟩
   ·refine J1C code cgr5 Or5 Dr5 ?_ ?_ ?_
    ·exact hb
    ·exact J5 (by assumption) (by omega)
    ·assumption
   intro Or5x4 Dr5x4 chr5x4 hQ9
   obtain ⟨f1r5x4, f2r5x4, f3r5x4⟩ := hQ9
   refine ⟨rfl, ?_⟩
   ·refine ⟨Or5x4, Dr5x4, chr5x4, ?_⟩
    refine ⟨?_, rfl, rfl, rfl, rfl, rfl, rfl, rfl⟩
    ·refine ⟨?_, ?_, ?_⟩
     ·exact J5 (by assumption) (by omega)
     ·assumption
     ·assumption
  intro b4
  refine ⟨?_, ?_⟩
  ·refine J1p code (J0 code c 3) most ?_ ?_ ?_
   ·exact hb
   ·exact J5 (J6 (by assumption)) (by omega)
   ·omega
  intro Or6 Dr6 cfr6 hQ9
  obtain ⟨f1r6, f2r6⟩ := hQ9
  refine ⟨rfl, rfl, rfl, ?_, ?_⟩
  ·refine Jak Or6 Dr6 ?_
   ·assumption
  intro Or6x4 Dr6x4 hQ9
  have f2r6x4 := hQ9
  refine ⟨rfl, rfl, rfl, ?_, ?_⟩
  ·refine J1C code cfr6 Or6x4 Dr6x4 ?_ ?_ ?_
   ·exact hb
   ·exact J5 (by assumption) (by omega)
   ·assumption
  intro Or6x5 Dr6x5 chr6x5 hQ9
  obtain ⟨f1r6x5, f2r6x5, f3r6x5⟩ := hQ9
  refine ⟨rfl, ?_⟩
  ·refine ⟨Or6x5, Dr6x5, chr6x5, ?_⟩
   refine ⟨?_, rfl, rfl, rfl, rfl, rfl, rfl, rfl⟩
   ·refine ⟨?_, ?_, ?_⟩
    ·exact J5 (by assumption) (by omega)
    ·assumption
    ·assumption
theorem J5O (code : List Nat) (c : Cur) (most : Int) (hb : ∀ x9 ∈ code, x9 < 256) (hc : okC c 2000000) (hm : 0 ≤ most ∧ most ≤ 7) : PKE Tryz.prog 209 76 (.sl (.bytes code)) [.int .i64 c.pos, .int .u64 c.seed] [.int .i64 most] (J2e code c most) :=
  pke_by (Q := fun u => J2d u code c most) (by kernel_rfl) Tryz.func209 @Tryz.call209 (by kernel_rfl) J6G (fun u => J71 u code c most) (by kernel_rfl) (fun u => J6y u code c most hb hc hm) (fun u => by kernel_rfl)
abbrev J36 (code : List Nat) (c : Cur) (O : ZI) (D : ZR) (cl : Cur) : Prop := (okC cl 8000000) ∧ (O.length ≤ 8) ∧ (D.length ≤ 8)
def J2X (code : List Nat) (c : Cur) : Ex := ex3 1 (fun (O : ZI) (D : ZR) (cl : Cur) => J36 code c O D cl) (fun (O : ZI) (D : ZR) (cl : Cur) => [.int .i64 cl.pos, .int .u64 cl.seed]) (fun (O : ZI) (D : ZR) (cl : Cur) => .one (.d (.agg [.sl (.ints O), .sl (.rows D)])))
def J8u (f : FuncId) (ds : List D) : Orc := .no
def J8s (u : Value) (code : List Nat) (c : Cur) : Ann := .two (.none) (.two (.exr (.ex [] 1 (J2e code c 7) (fun g => (fun (Or1 : ZI) (Dr1 : ZR) (ckr1 : Cur) => .ms [] []) (g.1) (g.2.1) (g.2.2)))) (.none))
def J3e (u : Value) (code : List Nat) (c : Cur) : Prop :=
  (PKE Tryz.prog 209 76 (.sl (.bytes code)) [.int .i64 c.pos, .int .u64 c.seed] [.int .i64 7] (J2e code c 7)) ∧ (∀ Or1 : ZI, ∀ Dr1 : ZR, ∀ ckr1 : Cur, J0f code c 7 Or1 Dr1 ckr1 → ((true = true) ∧ (∃ O' : ZI, ∃ D' : ZR, ∃ cl' : Cur, (J36 code c O' D' cl') ∧ (true = true) ∧ ((.lit u (.sl (.bytes code)) : D) = .lit u (.sl (.bytes code))) ∧ (ckr1.pos = cl'.pos) ∧ (ckr1.seed = cl'.seed) ∧ ((.agg [.sl (.ints Or1), .sl (.rows Dr1)] : D) = .agg [.sl (.ints O'), .sl (.rows D')]))))
theorem J7M (u : Value) (code : List Nat) (c : Cur) (hb : ∀ x9 ∈ code, x9 < 256) (hc : okC c 2000000)  : J3e u code c := by
  unfold J3e
  refine ⟨?_, ?_⟩
  ·refine J5O code c 7 ?_ ?_ ?_
   ·exact hb
   ·exact J5 (by assumption) (by omega)
   ·omega
  intro Or1 Dr1 ckr1 hQ9
  obtain ⟨f1r1, f2r1, f3r1⟩ := hQ9
  refine ⟨rfl, ?_⟩
  ·refine ⟨Or1, Dr1, ckr1, ?_⟩
   refine ⟨?_, rfl, rfl, rfl, rfl, rfl⟩
   ·refine ⟨?_, ?_, ?_⟩
    ·exact J5 (by assumption) (by omega)
    ·assumption
    ·assumption
theorem J6J (code : List Nat) (c : Cur) (hb : ∀ x9 ∈ code, x9 < 256) (hc : okC c 2000000) : PKE Tryz.prog 133 76 (.sl (.bytes code)) [.int .i64 c.pos, .int .u64 c.seed] [] (J2X code c) :=
  pke_by (Q := fun u => J3e u code c) (by kernel_rfl) Tryz.func133 @Tryz.call133 (by kernel_rfl) J8u (fun u => J8s u code c) (by kernel_rfl) (fun u => J7M u code c hb hc) (fun u => by kernel_rfl)
theorem Jdx {D : ZR} {s : ZI} {a : Int} (ha : a ∈ s) (j : Nat) : J2y D s j ≤ (D.getD j []).getD a.toNat 0 := by
  obtain ⟨i, hi, e⟩ := List.mem_iff_getElem.1 ha
  have h := J9s (D.getD j []) s s.length i hi
  rw [Js hi, e] at h
  exact h
theorem Jdv {D : ZR} {s : ZI} (hp : 0 < s.length) (j : Nat) : ∃ a, a ∈ s ∧ J2y D s j = (D.getD j []).getD a.toNat 0 :=
  ⟨_, J8l hp s.length (Nat.le_refl _), rfl⟩
theorem J40 {l : ZI} (h : Asc l) : l.Nodup := h.imp fun {a b} hab e => by omega
def cvI (Sets : ZR) (out : ZI) : Int := ((Jl Sets out out.length).length : Int)
theorem J2Q {Sets : ZR} {out : ZI} {y : Int} : y ∈ Jl Sets out out.length ↔ ∃ c ∈ out, y ∈ Sets.getD c.toNat [] := by
  rw [J2M]
  constructor
  · rintro ⟨j, hj, h⟩; exact ⟨_, getD_mem hj, h⟩
  rintro ⟨c, hc, h⟩
  obtain ⟨j, hj, e⟩ := List.mem_iff_getElem.1 hc
  exact ⟨j, hj, by rw [Js hj, e]; exact h⟩
/-- The elements that a set adds. -/
def J5l (Sets : ZR) (out : ZI) (i : Nat) : ZI := (Sets.getD i []).filter fun x => !((Jl Sets out out.length).contains x)
theorem Jb4 (Sets : ZR) (out : ZI) (i : Nat) : JG Sets out i = ((J5l Sets out i).length : Int) := J6t _ _
theorem J7m {Sets : ZR} {out : ZI} {i : Nat} {y : Int} : y ∈ J5l Sets out i ↔ y ∈ Sets.getD i [] ∧ y ∉ Jl Sets out out.length := by
  unfold J5l
  rw [List.mem_filter]
  simp
theorem Jcj {Size : Int} {Sets : ZR} {Costs : ZI} (h : J1 Size Sets Costs = true) (out : ZI) {i : Nat} (hi : i < Sets.length) : (J5l Sets out i).Nodup :=
  (J40 (J5i (J4q h hi))).sublist List.filter_sublist
theorem JdV {Size : Int} {Sets : ZR} {Costs : ZI} (h : J1 Size Sets Costs = true) (out : ZI) {b : Int} (hb : 0 ≤ b ∧ b < (Sets.length : Int)) : cvI Sets (out ++ [b]) = cvI Sets out + JG Sets out b.toNat := by
  have n1 : (Jl Sets out out.length ++ J5l Sets out b.toNat).Nodup := by
    rw [List.nodup_append]
    refine ⟨J40 (J1i _), Jcj h out (by omega), fun x hx y hy e => ?_⟩
    subst e
    exact (J7m.1 hy).2 hx
  have n2 : (Jl Sets (out ++ [b]) (out ++ [b]).length).Nodup := J40 (J1i _)
  have hm : ∀ y, y ∈ Jl Sets (out ++ [b]) (out ++ [b]).length ↔ y ∈ Jl Sets out out.length ++ J5l Sets out b.toNat := fun y => by
    rw [J2Q, List.mem_append, J7m]
    constructor
    · rintro ⟨c, hc, hy⟩
      by_cases hin : y ∈ Jl Sets out out.length
      · exact .inl hin
      rcases List.mem_append.1 hc with hc | hc
      · exact absurd (J2Q.2 ⟨c, hc, hy⟩) hin
      · rw [List.mem_singleton.1 hc] at hy
        exact .inr ⟨hy, hin⟩
    rintro (hy | ⟨hy, _⟩)
    · obtain ⟨c, hc, hy⟩ := J2Q.1 hy
      exact ⟨c, List.mem_append_left _ hc, hy⟩
    · exact ⟨b, List.mem_append_right _ (List.mem_singleton.2 rfl), hy⟩
  have e : (Jl Sets (out ++ [b]) (out ++ [b]).length).length = (Jl Sets out out.length ++ J5l Sets out b.toNat).length :=
    Nat.le_antisymm (List.Nodup.length_le_of_subset n2 fun y hy => (hm y).1 hy) (List.Nodup.length_le_of_subset n1 fun y hy => (hm y).2 hy)
  unfold cvI
  rw [e, List.length_append, Jb4]
  omega
/-- Some sets cover no more than others and what each adds to these. -/
theorem JdZ {Sets : ZR} {out S : ZI} {M : Int} (hM : ∀ c ∈ S, JG Sets out c.toNat ≤ M) : cvI Sets S ≤ cvI Sets out + (S.length : Int) * M := by
  have hf : ∀ S : ZI, (∀ c ∈ S, JG Sets out c.toNat ≤ M) → ((S.flatMap fun c => J5l Sets out c.toNat).length : Int) ≤ (S.length : Int) * M := fun S => by
    induction S with
    | nil => intro _; simp
    | cons c r ih =>
      intro hS
      have h1 := ih fun x hx => hS x (List.mem_cons_of_mem _ hx)
      have h2 := hS c List.mem_cons_self
      rw [Jb4] at h2
      rw [List.flatMap_cons, List.length_append, List.length_cons, Int.natCast_add, Int.natCast_add, Int.add_mul]
      simp only [Int.natCast_one, Int.one_mul] at *
      omega
  have n2 : (Jl Sets S S.length).Nodup := J40 (J1i _)
  have hl := List.Nodup.length_le_of_subset n2 (l₂ := Jl Sets out out.length ++ S.flatMap fun c => J5l Sets out c.toNat) fun y hy => by
    obtain ⟨c, hc, hy⟩ := J2Q.1 hy
    rw [List.mem_append]
    by_cases hin : y ∈ Jl Sets out out.length
    · exact .inl hin
    exact .inr (List.mem_flatMap.2 ⟨c, hc, J7m.2 ⟨hy, hin⟩⟩)
  rw [List.length_append] at hl
  have := hf S hM
  unfold cvI
  omega
theorem Jdj (Sets : ZR) (out : ZI) : ∀ n, 0 ≤ (Jo Sets out n).2 ∧ (∀ i, i < n → JG Sets out i ≤ (Jo Sets out n).2) ∧ ((Jo Sets out n).1 < 0 → (Jo Sets out n).2 = 0) ∧ (0 ≤ (Jo Sets out n).1 → JG Sets out (Jo Sets out n).1.toNat = (Jo Sets out n).2)
  | 0 => ⟨Int.le_refl _, fun i hi => absurd hi (Nat.not_lt_zero i), fun _ => rfl, fun h => by have e : (Jo Sets out 0).1 = -1 := rfl; omega⟩
  | n + 1 => by
    obtain ⟨h1, h2, h3, h4⟩ := Jdj Sets out n
    rw [J0C]
    generalize Jo Sets out n = b at h1 h2 h3 h4 ⊢
    unfold gcF
    by_cases e : JG Sets out n > b.2
    · rw [if_pos e]
      refine ⟨by show 0 ≤ JG Sets out n; omega, fun i hi => ?_, fun h => ?_, fun _ => by show JG Sets out (n : Int).toNat = _; rw [Int.toNat_natCast]⟩
      · show JG Sets out i ≤ JG Sets out n
        by_cases q : i = n
        · rw [q]; exact Int.le_refl _
        have := h2 i (by omega); omega
      have h : (n : Int) < 0 := h
      omega
    rw [if_neg e]
    refine ⟨h1, fun i hi => ?_, h3, h4⟩
    by_cases q : i = n
    · rw [q]; omega
    exact h2 i (by omega)
theorem J1h (a : Int) (n : Nat) : a ^ (n + 1) = a ^ n * a := by rw [Int.pow_succ]
theorem J14 {a : Int} (h : 0 ≤ a) : ∀ n : Nat, 0 ≤ a ^ n
  | 0 => by simp
  | n + 1 => by rw [J1h]; exact Int.mul_nonneg (J14 h n) h
/-- Greedy coverage reaches its share. -/
theorem Jb9 {Size : Int} {Sets : ZR} {Costs : ZI} (h : J1 Size Sets Costs = true) {S : ZI} {k : Int} (hk : 1 ≤ k) (hS : ∀ c ∈ S, 0 ≤ c ∧ c < (Sets.length : Int)) (hl : (S.length : Int) ≤ k) :
    ∀ n out, cvI Sets S ≤ cvI Sets (JT Sets n out) ∨ k ^ n * (cvI Sets S - cvI Sets (JT Sets n out)) ≤ (k - 1) ^ n * (cvI Sets S - cvI Sets out)
  | 0, out => .inr (by simp [JT])
  | n + 1, out => by
    obtain ⟨m1, m2, m3, m4⟩ := Jdj Sets out Sets.length
    have gi := JL Sets out Sets.length
    have hle := JdZ (Sets := Sets) (out := out) (S := S) (M := (Jo Sets out Sets.length).2) fun c hc => m2 c.toNat (by have := hS c hc; omega)
    have hkM : (S.length : Int) * (Jo Sets out Sets.length).2 ≤ k * (Jo Sets out Sets.length).2 := Int.mul_le_mul_of_nonneg_right hl m1
    by_cases e : (Jo Sets out Sets.length).1 < 0
    · simp only [JT, if_pos e]
      have h0 := m3 e
      rw [h0, Int.mul_zero] at hkM
      rw [h0] at hle
      exact .inl (by rw [Int.mul_zero] at hle; omega)
    simp only [JT, if_neg e]
    have ha := JdV h out (b := (Jo Sets out Sets.length).1) (by omega)
    rw [m4 (by omega)] at ha
    rcases Jb9 h hk hS hl n (out ++ [(Jo Sets out Sets.length).1]) with h5 | h5
    · exact .inl h5
    right
    generalize cvI Sets (JT Sets n (out ++ [(Jo Sets out Sets.length).1])) = F at h5 ⊢
    generalize (Jo Sets out Sets.length).2 = M at *
    generalize cvI Sets S = O at *
    rw [ha] at h5
    generalize cvI Sets out = c at *
    have h6 : k * (O - (c + M)) ≤ (k - 1) * (O - c) := by
      have e1 : k * (O - (c + M)) = k * (O - c) - k * M := by rw [← Int.sub_sub, Int.mul_sub]
      have e2 : (k - 1) * (O - c) = k * (O - c) - (O - c) := by rw [Int.sub_mul, Int.one_mul]
      omega
    have h7 : k * (k ^ n * (O - F)) ≤ k * ((k - 1) ^ n * (O - (c + M))) := Int.mul_le_mul_of_nonneg_left h5 (by omega)
    have h8 : (k - 1) ^ n * (k * (O - (c + M))) ≤ (k - 1) ^ n * ((k - 1) * (O - c)) := Int.mul_le_mul_of_nonneg_left h6 (J14 (by omega) n)
    rw [J1h, J1h]
    have e3 : k ^ n * k * (O - F) = k * (k ^ n * (O - F)) := by rw [Int.mul_comm (k ^ n) k, Int.mul_assoc]
    have e4 : k * ((k - 1) ^ n * (O - (c + M))) = (k - 1) ^ n * (k * (O - (c + M))) := by rw [← Int.mul_assoc, Int.mul_comm k, Int.mul_assoc]
    rw [e3, Int.mul_assoc]
    omega
/-- The clients that a site reaches. -/
def Jcg (D : ZR) (r : Int) (a : Nat) : ZI := members (fun i => decide ((D.getD i []).getD a 0 ≤ r)) D.length
def rsL (n : Nat) (D : ZR) (r : Int) : ZR := tabTo (Jcg D r) n
def rsB (O : ZI) (D : ZR) (r : Int) : Bool := J2 O D && inB r 0 99
def rsZ (O : ZI) (D : ZR) (r : Int) : Int := if rsB O D r = true then (D.length : Int) else 0
def rsS (O : ZI) (D : ZR) (r : Int) : ZR := if rsB O D r = true then rsL O.length D r else []
def rsK (O : ZI) (D : ZR) (r : Int) : ZI := if rsB O D r = true then List.replicate O.length 1 else []
theorem Jau {α : Type} (n : Nat) (x : α) : List.replicate n x ++ [x] = List.replicate (n + 1) x := by
  rw [List.replicate_succ']
theorem J0D {O : ZI} {D : ZR} {r : Int} (hb : rsB O D r = true) : J1 (rsZ O D r) (rsS O D r) (rsK O D r) = true ∧ (rsS O D r).length = O.length ∧ J2 O D = true ∧ 0 ≤ r := by
  have eZ : rsZ O D r = (D.length : Int) := by unfold rsZ; rw [if_pos hb]
  have eS : rsS O D r = rsL O.length D r := by unfold rsS; rw [if_pos hb]
  have eK : rsK O D r = List.replicate O.length 1 := by unfold rsK; rw [if_pos hb]
  obtain ⟨hg, hr⟩ := (Bool.and_eq_true _ _ ▸ (show (J2 O D && inB r 0 99) = true from hb) : _ ∧ _)
  obtain ⟨g1, g2, g3⟩ := Jr hg
  have hl : (rsL O.length D r).length = O.length := tabTo_len _ _
  refine ⟨?_, by rw [eS]; exact hl, hg, (J0T hr).1⟩
  rw [eZ, eS, eK]
  unfold J1
  have h1 : inB (D.length : Int) 0 8 = true := by unfold inB; simp; omega
  have h2 : (List.replicate O.length (1 : Int)).all (fun x => inB x 1 99) = true := by
    rw [List.all_eq_true]
    intro x hx
    rw [(List.mem_replicate.1 hx).2]; decide
  have h3 : (rsL O.length D r).all (fun xs => J3 xs 0 ((D.length : Int) - 1)) = true := by
    rw [List.all_eq_true]
    intro x hx
    obtain ⟨a, _, rfl⟩ := List.mem_map.1 hx
    refine J62 (asc_members _ _) fun y hy => ?_
    have := mem_members.1 hy
    omega
  rw [h1, h2, h3, hl]
  simp
  omega
theorem Jdw {O : ZI} {D : ZR} {r : Int} {set : ZI} (hb : rsB O D r = true) (hs : J3 set 0 ((O.length : Int) - 1) = true) (hp : 0 < set.length) :
    J0Y (rsZ O D r) (rsS O D r) set = decide (J18 D set ≤ r) := by
  obtain ⟨_, _, hg, hr⟩ := J0D hb
  have eZ : rsZ O D r = (D.length : Int) := by unfold rsZ; rw [if_pos hb]
  have eS : rsS O D r = rsL O.length D r := by unfold rsS; rw [if_pos hb]
  rw [eZ, eS]
  unfold J0Y
  rw [Int.toNat_natCast, Bool.eq_iff_iff, allTo_iff, decide_eq_true_eq, JdW hr]
  refine forall_congr' fun j => forall_congr' fun hj => ?_
  have hm := J27 hs
  have hrow : ∀ a ∈ set, (rsL O.length D r).getD a.toNat [] = Jcg D r a.toNat := fun a ha => tabTo_get (by have := hm a ha; omega)
  constructor
  · intro h
    obtain ⟨a, ha, hc⟩ := J2Q.1 (J9v.1 h)
    rw [hrow a ha] at hc
    have h2 := (mem_members.1 hc).2.2
    rw [Int.toNat_natCast, decide_eq_true_eq] at h2
    have := Jdx (D := D) ha j
    omega
  intro h
  obtain ⟨a, ha, e⟩ := Jdv (D := D) hp j
  refine J9v.2 (J2Q.2 ⟨a, ha, ?_⟩)
  rw [hrow a ha]
  refine mem_members.2 ⟨by omega, by omega, ?_⟩
  rw [Int.toNat_natCast, decide_eq_true_eq, ← e]
  exact h
abbrev J2z (U : ZI) (E : ZR) (r : Int) (a : Int) (sz : Int) (sets : ZR) (costs : ZI) : Prop := (sz = (E.length : Int)) ∧ (0 ≤ a) ∧ (a ≤ (U.length : Int)) ∧ (sets = tabTo (Jcg E r) a.toNat) ∧ (costs = List.replicate a.toNat 1)
abbrev J2s (U : ZI) (E : ZR) (r : Int) (a : Int) (sz : Int) (sets : ZR) (costs : ZI) : Nat := (U.length - a).toNat
abbrev J1s (U : ZI) (E : ZR) (r : Int) (a : Int) (sz : Int) (sets : ZR) (costs : ZI) (own : ZI) (i : Int) : Prop := (0 ≤ i) ∧ (i ≤ (E.length : Int)) ∧ (own = members (fun k9 => decide ((E.getD k9 []).getD a.toNat 0 ≤ r)) i.toNat)
abbrev J0c (U : ZI) (E : ZR) (r : Int) (a : Int) (sz : Int) (sets : ZR) (costs : ZI) (own : ZI) (i : Int) : Nat := (E.length - i).toNat
def JbL (f : FuncId) (ds : List D) : Orc := .no
def Jbw (U : ZI) (E : ZR) (r : Int) : Ann := .two (.none) (.two (.none) (.two (.two (.none) (.loop (cut4 (fun (a : Int) (sz : Int) (sets : ZR) (costs : ZI) => J2z U E r a sz sets costs) (fun (a : Int) (sz : Int) (sets : ZR) (costs : ZI) => [(1, .d false (.int .i64 r)), (2, .ptr 2 0), (4, .ptr 4 0), (5, .ptr 5 0), (6, .d true (.int .i64 a))]) (fun (a : Int) (sz : Int) (sets : ZR) (costs : ZI) => [(2, .box 27 [.d false (.sl (.ints U)), .d false (.sl (.rows E))]), (4, .box 64 [.d true (.int .i64 0), .d true (.nil), .d true (.nil)]), (1000002, .mat 3 24 sets none), (1000003, .arr true 3 (.ints costs)), (5, .box 64 [.d true (.int .i64 sz), .own 1000002 sets.length, .own 1000003 costs.length])])) (fun g => J2s U E r g.1 g.2.1 g.2.2.1 g.2.2.2) (fun g => (fun (a : Int) (sz : Int) (sets : ZR) (costs : ZI) => .two (.none) (.two (.two (.none) (.two (.two (.none) (.loop (cut2 (fun (own : ZI) (i : Int) => J1s U E r a sz sets costs own i) (fun (own : ZI) (i : Int) => [(1, .d false (.int .i64 r)), (2, .ptr 2 0), (4, .ptr 4 0), (5, .ptr 5 0), (6, .d true (.int .i64 a)), (7, .own 1000100 own.length), (8, .d true (.int .i64 i))]) (fun (own : ZI) (i : Int) => [(1000100, .arr true 3 (.ints own)), (2, .box 27 [.d false (.sl (.ints U)), .d false (.sl (.rows E))]), (4, .box 64 [.d true (.int .i64 0), .d true (.nil), .d true (.nil)]), (5, .box 64 [.d true (.int .i64 sz), .own 1000002 sets.length, .own 1000003 costs.length]), (1000002, .mat 3 24 sets none), (1000003, .arr true 3 (.ints costs))])) (fun g => J0c U E r a sz sets costs g.1 g.2) (fun _ => .none))) (.none))) (.none))) (g.1) (g.2.1) (g.2.2.1) (g.2.2.2)))) (.none)))
def J7g (U : ZI) (E : ZR) (r : Int) : Prop :=
  ((∃ a' : Int, ∃ sz' : Int, ∃ sets' : ZR, ∃ costs' : ZI, (J2z U E r a' sz' sets' costs') ∧ (r = r) ∧ ((0 : Int) = a') ∧ (U = U) ∧ (E = E) ∧ ((0 : Int) = 0) ∧ ((0 : Nat) = 0) ∧ ((sets').length = 0) ∧ ([] = costs') ∧ ((E.length : Int) = sz') ∧ ((0 : Nat) = sets'.length) ∧ ((0 : Nat) = costs'.length)) ∧ (∀ a : Int, ∀ sz : Int, ∀ sets : ZR, ∀ costs : ZI, (J2z U E r a sz sets costs) → (((decide (a < (U.length : Int))) = true → ((∃ own' : ZI, ∃ i' : Int, (J1s U E r a sz sets costs own' i') ∧ (r = r) ∧ (a = a) ∧ ((0 : Nat) = own'.length) ∧ ((0 : Int) = i') ∧ ([] = own') ∧ (U = U) ∧ (E = E) ∧ ((0 : Int) = 0) ∧ (sz = sz) ∧ (sets.length = sets.length) ∧ (costs.length = costs.length) ∧ (sets = sets) ∧ (costs = costs)) ∧ (∀ own : ZI, ∀ i : Int, (J1s U E r a sz sets costs own i) → (((decide (i < (E.length : Int))) = true → ((0 : Int) ≤ i) ∧ ((i : Int) < E.length) ∧ (i.toNat < E.length) ∧ ((0 : Int) ≤ a) ∧ ((a : Int) < (E.getD i.toNat []).length) ∧ (a.toNat < (E.getD i.toNat []).length) ∧ (((decide (((E.getD i.toNat []).getD a.toNat 0) ≤ r)) = true → (own.length = own.length) ∧ ((1 : Nat) = 1) ∧ ((own.length + 1) * 8 ≤ 140737488355328) ∧ (I6 (i + 1)) ∧ (∃ own' : ZI, ∃ i' : Int, (J1s U E r a sz sets costs own' i') ∧ (J0c U E r a sz sets costs own' i' < J0c U E r a sz sets costs own i) ∧ (r = r) ∧ (a = a) ∧ ((own.length + 1) = own'.length) ∧ ((i + 1) = i') ∧ ((own ++ [i]) = own') ∧ (U = U) ∧ (E = E) ∧ ((0 : Int) = 0) ∧ (sz = sz) ∧ (sets.length = sets.length) ∧ (costs.length = costs.length) ∧ (sets = sets) ∧ (costs = costs))) ∧ ((decide (((E.getD i.toNat []).getD a.toNat 0) ≤ r)) = false → (I6 (i + 1)) ∧ (∃ own' : ZI, ∃ i' : Int, (J1s U E r a sz sets costs own' i') ∧ (J0c U E r a sz sets costs own' i' < J0c U E r a sz sets costs own i) ∧ (r = r) ∧ (a = a) ∧ (own.length = own'.length) ∧ ((i + 1) = i') ∧ (own = own') ∧ (U = U) ∧ (E = E) ∧ ((0 : Int) = 0) ∧ (sz = sz) ∧ (sets.length = sets.length) ∧ (costs.length = costs.length) ∧ (sets = sets) ∧ (costs = costs))))) ∧ ((decide (i < (E.length : Int))) = false → (own.length = own.length) ∧ (sets.length = sets.length) ∧ ((1 : Nat) = 1) ∧ (0 < 1) ∧ ((sets.length + 1) * 24 ≤ 140737488355328) ∧ (costs.length = costs.length) ∧ ((1 : Nat) = 1) ∧ ((costs.length + 1) * 8 ≤ 140737488355328) ∧ (I6 (a + 1)) ∧ (∃ a' : Int, ∃ sz' : Int, ∃ sets' : ZR, ∃ costs' : ZI, (J2z U E r a' sz' sets' costs') ∧ (J2s U E r a' sz' sets' costs' < J2s U E r a sz sets costs) ∧ (r = r) ∧ ((a + 1) = a') ∧ (U = U) ∧ (E = E) ∧ ((0 : Int) = 0) ∧ ((sets ++ [own]) = sets') ∧ ((costs ++ [1]) = costs') ∧ (sz = sz') ∧ ((sets.length + 1) = sets'.length) ∧ ((costs.length + 1) = costs'.length))))))) ∧ ((decide (a < (U.length : Int))) = false → ((sets.length = sets.length) ∧ (costs.length = costs.length) ∧ ((.agg [.int .i64 sz, .sl (.rows sets), .sl (.ints costs)] : D) = .agg [.int .i64 (E.length : Int), .sl (.rows (rsL U.length E r)), .sl (.ints (List.replicate U.length 1))]))))))
theorem Jb0 (U : ZI) (E : ZR) (r : Int) (hg : J2 U E = true) (w_Open : (U.length : Int) ≤ 9223372036854775807) (w_Dist : (E.length : Int) ≤ 9223372036854775807) (v_Dist : ∀ x9 ∈ E, (x9.length : Int) ≤ 9223372036854775807) : J7g U E r := by
  unfold J7g
  refine ⟨?_, ?_⟩
  ·refine ⟨0, (E.length : Int), ([]), ([]), ?_⟩
   refine ⟨?_, rfl, rfl, rfl, rfl, rfl, rfl, ?_, ?_, rfl, rfl, rfl⟩
   ·refine ⟨?_, ?_, ?_, ?_, ?_⟩
    ·omega
    ·omega
    ·omega
    ·rfl
    ·rfl
   ·rfl
   rfl
  intro a sz sets costs hJ
  obtain ⟨h0, h1, h2, h3, h4⟩ := hJ
  refine ⟨?_, ?_⟩
  ·intro b1
   try simp only [nrmT] at b1
   refine ⟨?_, ?_⟩
   ·refine ⟨([]), 0, ?_⟩
    refine ⟨?_, rfl, rfl, rfl, rfl, ?_, rfl, rfl, rfl, rfl, rfl, rfl, rfl, rfl⟩
    ·refine ⟨?_, ?_, ?_⟩
     ·omega
     ·omega
     ·rfl
    rfl
   intro own i hJ
   obtain ⟨h5, h6, h7⟩ := hJ
   refine ⟨?_, ?_⟩
   ·intro b2
    try simp only [nrmT] at b2
    refine ⟨?_, ?_, ?_, ?_, ?_, ?_, ?_, ?_⟩
    ·omega
    ·omega
    ·omega
    ·omega
    ·have hr := J3Z hg (i := i.toNat) (by omega)
     omega
    ·have hr := J3Z hg (i := i.toNat) (by omega)
     omega
    ·intro b3
     try simp only [nrmT] at b3
     refine ⟨rfl, rfl, ?_, ?_, ?_⟩
     ·obtain ⟨g1, g2, g3⟩ := Jr hg
      have := members_len_le (fun k9 => decide ((E.getD k9 []).getD a.toNat 0 ≤ r)) i.toNat
      rw [← h7] at this
      omega
     ·omega
     refine ⟨(own ++ [i]), (i + 1), ?_⟩
     refine ⟨?_, ?_, rfl, rfl, ?_, rfl, rfl, rfl, rfl, rfl, rfl, rfl, rfl, rfl, rfl⟩
     ·refine ⟨?_, ?_, ?_⟩
      ·omega
      ·omega
      ·rw [show (i + 1).toNat = i.toNat + 1 by omega, members_succ, if_pos (decide_eq_true b3), ← h7, show ((i.toNat : Nat) : Int) = i by omega]
     ·(simp only [J0c]; omega)
     simp
    intro b4
    try simp only [nrmT] at b4
    refine ⟨?_, ?_⟩
    ·omega
    refine ⟨own, (i + 1), ?_⟩
    refine ⟨?_, ?_, rfl, rfl, rfl, rfl, rfl, rfl, rfl, rfl, rfl, rfl, rfl, rfl, rfl⟩
    ·refine ⟨?_, ?_, ?_⟩
     ·omega
     ·omega
     ·rw [show (i + 1).toNat = i.toNat + 1 by omega, members_succ, if_neg (by rw [decide_eq_false (by omega)]; decide), List.append_nil, ← h7]
    (simp only [J0c]; omega)
   intro b5
   try simp only [nrmT] at b5
   refine ⟨rfl, rfl, rfl, by decide, ?_, rfl, rfl, ?_, ?_, ?_⟩
   ·obtain ⟨g1, g2, g3⟩ := Jr hg
    rw [h3, tabTo_len]; omega
   ·obtain ⟨g1, g2, g3⟩ := Jr hg
    rw [h4, List.length_replicate]; omega
   ·omega
   refine ⟨(a + 1), sz, (sets ++ [own]), (costs ++ [1]), ?_⟩
   refine ⟨?_, ?_, rfl, rfl, rfl, rfl, rfl, rfl, rfl, rfl, ?_, ?_⟩
   ·refine ⟨?_, ?_, ?_, ?_, ?_⟩
    ·omega
    ·omega
    ·omega
    ·rw [show (a + 1).toNat = a.toNat + 1 by omega, tabTo_succ, ← h3, h7, show i.toNat = E.length by omega]; rfl
    ·rw [show (a + 1).toNat = a.toNat + 1 by omega, h4, Jau]
   ·(simp only [J2s]; omega)
   ·simp
   simp
  intro b6
  try simp only [nrmT] at b6
  refine ⟨rfl, rfl, ?_⟩
  ·rw [h0, h3, h4, show a.toNat = U.length by omega]; rfl
theorem Jal (U : ZI) (E : ZR) (r : Int) (hg : J2 U E = true) : PC Tryz.prog 183 [.agg [.sl (.ints U), .sl (.rows E)], .int .i64 r] (.one (.d (.agg [.int .i64 (E.length : Int), .sl (.rows (rsL U.length E r)), .sl (.ints (List.replicate U.length 1))]))) :=
  pc_wf @Tryz.call183 fun hw => pc_by (by kernel_rfl) Tryz.func183 @Tryz.call183 (by kernel_rfl) JbL (Jbw U E r) (by kernel_rfl) (Jb0 U E r hg hw.1.1 hw.1.2.1.1 hw.1.2.1.2) (by kernel_rfl)
def Jac : List D → Orc := orcN [none, none] fun ds => match ds with
  | [.agg [.sl (.ints U), .sl (.rows E)], .int .i64 r] => some (.one (.d (.agg [.int .i64 (E.length : Int), .sl (.rows (rsL U.length E r)), .sl (.ints (List.replicate U.length 1))])))
  | _ => none
def J7Y (f : FuncId) (ds : List D) : Orc := bif Nat.beq f 112 then Jam ds else bif Nat.beq f 129 then J1q ds else bif Nat.beq f 183 then Jac ds else .no
def J7X (U : ZI) (E : ZR) (r : Int) : Ann := .none
def J4C (U : ZI) (E : ZR) (r : Int) : Prop :=
  (PC Tryz.prog 112 [.agg [.sl (.ints U), .sl (.rows E)]] (.one (.d (.bool (J2 U E))))) ∧ ((!(!(J2 U E))) = true → (!(!(J2 U E))) = true) ∧ ((!(!(J2 U E))) = true → PC Tryz.prog 129 [.int .i64 r, .int .i64 0, .int .i64 99] (.one (.d (.bool (inB r 0 99))))) ∧ ((!(!(J2 U E))) = true → (!(!(J2 U E))) = true) ∧ (true = true) ∧ (((!(J2 U E)) = true → true = true)) ∧ (((!(J2 U E)) = false → (!(!(J2 U E))) = true)) ∧ (((cond (!(J2 U E)) true (!(inB r 0 99))) = true → (((0 : Int) = rsZ U E r) ∧ ((rsS U E r).length = 0) ∧ ((rsK U E r).length = 0) ∧ (false = (rsB U E r)))) ∧ ((cond (!(J2 U E)) true (!(inB r 0 99))) = false → (PC Tryz.prog 183 [.agg [.sl (.ints U), .sl (.rows E)], .int .i64 r] (.one (.d (.agg [.int .i64 (E.length : Int), .sl (.rows (rsL U.length E r)), .sl (.ints (List.replicate U.length 1))])))) ∧ (((.agg [.int .i64 (E.length : Int), .sl (.rows (rsL U.length E r)), .sl (.ints (List.replicate U.length 1))] : D) = .agg [.int .i64 (rsZ U E r), .sl (.rows (rsS U E r)), .sl (.ints (rsK U E r))]) ∧ (true = (rsB U E r)))))
theorem J7G (U : ZI) (E : ZR) (r : Int)  (w_Open : (U.length : Int) ≤ 9223372036854775807) (w_Dist : (E.length : Int) ≤ 9223372036854775807) (v_Dist : ∀ x9 ∈ E, (x9.length : Int) ≤ 9223372036854775807) : J4C U E r := by
  unfold J4C
  refine ⟨Jbx U E, id, fun _ => J1f r 0 99, id, rfl, fun _ => rfl, ?_, ?_, ?_⟩
  ·intro h; rw [h]; rfl
  ·intro b1
   refine ⟨?_, ?_, ?_, ?_⟩
   ·have hq : (J2 U E && inB r 0 99) = false := by
      revert b1; cases J2 U E <;> cases inB r 0 99 <;> simp
    (unfold rsZ rsB; rw [hq]; rfl)
   ·have hq : (J2 U E && inB r 0 99) = false := by
      revert b1; cases J2 U E <;> cases inB r 0 99 <;> simp
    (unfold rsS rsB; rw [hq]; rfl)
   ·have hq : (J2 U E && inB r 0 99) = false := by
      revert b1; cases J2 U E <;> cases inB r 0 99 <;> simp
    (unfold rsK rsB; rw [hq]; rfl)
   have hq : (J2 U E && inB r 0 99) = false := by
     revert b1; cases J2 U E <;> cases inB r 0 99 <;> simp
   exact hq.symm
  intro b2
  refine ⟨?_, ?_, ?_⟩
  ·refine Jal U E r ?_
   ·have hq : J2 U E = true ∧ inB r 0 99 = true := by
      revert b2; cases J2 U E <;> cases inB r 0 99 <;> simp
    have hg := hq.1
    exact hg
  ·have hq : J2 U E = true ∧ inB r 0 99 = true := by
     revert b2; cases J2 U E <;> cases inB r 0 99 <;> simp
   have hg := hq.1
   have hb : rsB U E r = true := by unfold rsB; rw [hq.1, hq.2]; rfl
   unfold rsZ rsS rsK
   rw [if_pos hb, if_pos hb, if_pos hb]
   try rw [h0, h3, h4, show a.toNat = U.length by omega]
   try rfl
  have hq : J2 U E = true ∧ inB r 0 99 = true := by
    revert b2; cases J2 U E <;> cases inB r 0 99 <;> simp
  have hg := hq.1
  unfold rsB; rw [hq.1, hq.2]; rfl
theorem J7H (U : ZI) (E : ZR) (r : Int)  : PC Tryz.prog 88 [.agg [.sl (.ints U), .sl (.rows E)], .int .i64 r] (.tup [.d (.agg [.int .i64 (rsZ U E r), .sl (.rows (rsS U E r)), .sl (.ints (rsK U E r))]), .d (.bool (rsB U E r))]) :=
  pc_wf @Tryz.call88 fun hw => pc_by (by kernel_rfl) Tryz.func88 @Tryz.call88 (by kernel_rfl) J7Y (J7X U E r) (by kernel_rfl) (J7G U E r hw.1.1 hw.1.2.1.1 hw.1.2.1.2) (by kernel_rfl)
def J6M : List D → Orc := orcN [none, none] fun ds => match ds with
  | [.agg [.sl (.ints U), .sl (.rows E)], .int .i64 r] => some (.tup [.d (.agg [.int .i64 (rsZ U E r), .sl (.rows (rsS U E r)), .sl (.ints (rsK U E r))]), .d (.bool (rsB U E r))])
  | _ => none
abbrev J1a (U : ZI) (E : ZR) (r : Int) (a : Int) (sz : Int) (sets : ZR) (costs : ZI) : Prop := (sz = (E.length : Int)) ∧ (0 ≤ a) ∧ (a ≤ (U.length : Int)) ∧ (sets = tabTo (Jcg E r) a.toNat) ∧ (costs = List.replicate a.toNat 1)
abbrev J19 (U : ZI) (E : ZR) (r : Int) (a : Int) (sz : Int) (sets : ZR) (costs : ZI) : Nat := (U.length - a).toNat
abbrev J0e (U : ZI) (E : ZR) (r : Int) (a : Int) (sz : Int) (sets : ZR) (costs : ZI) (own : ZI) (i : Int) : Prop := (0 ≤ i) ∧ (i ≤ (E.length : Int)) ∧ (own = members (fun k9 => decide ((E.getD k9 []).getD a.toNat 0 ≤ r)) i.toNat)
abbrev JF (U : ZI) (E : ZR) (r : Int) (a : Int) (sz : Int) (sets : ZR) (costs : ZI) (own : ZI) (i : Int) : Nat := (E.length - i).toNat
def J8E (f : FuncId) (ds : List D) : Orc := bif Nat.beq f 111 then J5v ds else bif Nat.beq f 132 then J0a ds else .no
def J8I (U : ZI) (E : ZR) (r : Int) : Ann := .two (.none) (.two (.none) (.two (.none) (.two (.two (.none) (.loop (cut4 (fun (a : Int) (sz : Int) (sets : ZR) (costs : ZI) => J1a U E r a sz sets costs) (fun (a : Int) (sz : Int) (sets : ZR) (costs : ZI) => [(1, .d false (.int .i64 r)), (2, .ptr 2 0), (4, .ptr 4 0), (6, .ptr 6 0), (26, .d true (.int .i64 (U.length : Int))), (27, .d true (.int .i64 a))]) (fun (a : Int) (sz : Int) (sets : ZR) (costs : ZI) => [(2, .box 27 [.d false (.sl (.ints U)), .d false (.sl (.rows E))]), (4, .box 64 [.d true (.int .i64 0), .d true (.nil), .d true (.nil)]), (1000002, .mat 3 24 sets none), (1000003, .arr true 3 (.ints costs)), (6, .box 64 [.d true (.int .i64 sz), .own 1000002 sets.length, .own 1000003 costs.length])])) (fun g => J19 U E r g.1 g.2.1 g.2.2.1 g.2.2.2) (fun g => (fun (a : Int) (sz : Int) (sets : ZR) (costs : ZI) => .two (.none) (.two (.none) (.two (.two (.none) (.two (.none) (.two (.two (.none) (.loop (cut2 (fun (own : ZI) (i : Int) => J0e U E r a sz sets costs own i) (fun (own : ZI) (i : Int) => [(1, .d false (.int .i64 r)), (2, .ptr 2 0), (4, .ptr 4 0), (6, .ptr 6 0), (7, .d true (.int .i64 a)), (8, .own 1000100 own.length), (26, .d true (.int .i64 (U.length : Int))), (27, .d true (.int .i64 a)), (32, .d false (.sl (.rows E))), (33, .d true (.int .i64 (E.length : Int))), (34, .d true (.int .i64 i))]) (fun (own : ZI) (i : Int) => [(1000100, .arr true 3 (.ints own)), (2, .box 27 [.d false (.sl (.ints U)), .d false (.sl (.rows E))]), (4, .box 64 [.d true (.int .i64 0), .d true (.nil), .d true (.nil)]), (6, .box 64 [.d true (.int .i64 sz), .own 1000002 sets.length, .own 1000003 costs.length]), (1000002, .mat 3 24 sets none), (1000003, .arr true 3 (.ints costs))])) (fun g => JF U E r a sz sets costs g.1 g.2) (fun _ => .none))) (.none)))) (.none)))) (g.1) (g.2.1) (g.2.2.1) (g.2.2.2)))) (.none))))
def J4z (U : ZI) (E : ZR) (r : Int) : Prop :=
  (PC Tryz.prog 111 [.agg [.sl (.ints U), .sl (.rows E)]] (.one (.d (.bool (J2 U E))))) ∧ ((!(!(J2 U E))) = true → (!(!(J2 U E))) = true) ∧ ((!(!(J2 U E))) = true → PC Tryz.prog 132 [.int .i64 r, .int .i64 0, .int .i64 99] (.one (.d (.bool (inB r 0 99))))) ∧ ((!(!(J2 U E))) = true → (!(!(J2 U E))) = true) ∧ (true = true) ∧ (((!(J2 U E)) = true → true = true)) ∧ (((!(J2 U E)) = false → (!(!(J2 U E))) = true)) ∧ (((cond (!(J2 U E)) true (!(inB r 0 99))) = true → (((0 : Int) = rsZ U E r) ∧ ((rsS U E r).length = 0) ∧ ((rsK U E r).length = 0) ∧ (false = (rsB U E r)))) ∧ ((cond (!(J2 U E)) true (!(inB r 0 99))) = false → ((∃ a' : Int, ∃ sz' : Int, ∃ sets' : ZR, ∃ costs' : ZI, (J1a U E r a' sz' sets' costs') ∧ (r = r) ∧ ((U.length : Int) = (U.length : Int)) ∧ ((0 : Int) = a') ∧ (U = U) ∧ (E = E) ∧ ((0 : Int) = 0) ∧ ((sets').length = 0) ∧ ((costs').length = 0) ∧ ((E.length : Int) = sz') ∧ ((0 : Nat) = sets'.length) ∧ ((0 : Nat) = costs'.length)) ∧ (∀ a : Int, ∀ sz : Int, ∀ sets : ZR, ∀ costs : ZI, (J1a U E r a sz sets costs) → (((decide (a < (U.length : Int))) = true → ((∃ own' : ZI, ∃ i' : Int, (J0e U E r a sz sets costs own' i') ∧ (r = r) ∧ (a = a) ∧ ((0 : Nat) = own'.length) ∧ ((U.length : Int) = (U.length : Int)) ∧ (a = a) ∧ (E = E) ∧ ((E.length : Int) = (E.length : Int)) ∧ ((0 : Int) = i') ∧ ([] = own') ∧ (U = U) ∧ (E = E) ∧ ((0 : Int) = 0) ∧ (sz = sz) ∧ (sets.length = sets.length) ∧ (costs.length = costs.length) ∧ (sets = sets) ∧ (costs = costs)) ∧ (∀ own : ZI, ∀ i : Int, (J0e U E r a sz sets costs own i) → (((decide (i < (E.length : Int))) = true → ((0 : Int) ≤ i) ∧ ((i : Int) < E.length) ∧ (i.toNat < E.length) ∧ ((0 : Int) ≤ a) ∧ ((a : Int) < (E.getD i.toNat []).length) ∧ (a.toNat < (E.getD i.toNat []).length) ∧ (((decide (((E.getD i.toNat []).getD a.toNat 0) ≤ r)) = true → (own.length = own.length) ∧ ((1 : Nat) = 1) ∧ ((own.length + 1) * 8 ≤ 140737488355328) ∧ (I6 (i + 1)) ∧ (∃ own' : ZI, ∃ i' : Int, (J0e U E r a sz sets costs own' i') ∧ (JF U E r a sz sets costs own' i' < JF U E r a sz sets costs own i) ∧ (r = r) ∧ (a = a) ∧ ((own.length + 1) = own'.length) ∧ ((U.length : Int) = (U.length : Int)) ∧ (a = a) ∧ (E = E) ∧ ((E.length : Int) = (E.length : Int)) ∧ ((i + 1) = i') ∧ ((own ++ [i]) = own') ∧ (U = U) ∧ (E = E) ∧ ((0 : Int) = 0) ∧ (sz = sz) ∧ (sets.length = sets.length) ∧ (costs.length = costs.length) ∧ (sets = sets) ∧ (costs = costs))) ∧ ((decide (((E.getD i.toNat []).getD a.toNat 0) ≤ r)) = false → (I6 (i + 1)) ∧ (∃ own' : ZI, ∃ i' : Int, (J0e U E r a sz sets costs own' i') ∧ (JF U E r a sz sets costs own' i' < JF U E r a sz sets costs own i) ∧ (r = r) ∧ (a = a) ∧ (own.length = own'.length) ∧ ((U.length : Int) = (U.length : Int)) ∧ (a = a) ∧ (E = E) ∧ ((E.length : Int) = (E.length : Int)) ∧ ((i + 1) = i') ∧ (own = own') ∧ (U = U) ∧ (E = E) ∧ ((0 : Int) = 0) ∧ (sz = sz) ∧ (sets.length = sets.length) ∧ (costs.length = costs.length) ∧ (sets = sets) ∧ (costs = costs))))) ∧ ((decide (i < (E.length : Int))) = false → (true = true) ∧ (own.length = own.length) ∧ (sets.length = sets.length) ∧ ((1 : Nat) = 1) ∧ (0 < 1) ∧ ((sets.length + 1) * 24 ≤ 140737488355328) ∧ (costs.length = costs.length) ∧ ((1 : Nat) = 1) ∧ ((costs.length + 1) * 8 ≤ 140737488355328) ∧ (I6 (a + 1)) ∧ (∃ a' : Int, ∃ sz' : Int, ∃ sets' : ZR, ∃ costs' : ZI, (J1a U E r a' sz' sets' costs') ∧ (J19 U E r a' sz' sets' costs' < J19 U E r a sz sets costs) ∧ (r = r) ∧ ((U.length : Int) = (U.length : Int)) ∧ ((a + 1) = a') ∧ (U = U) ∧ (E = E) ∧ ((0 : Int) = 0) ∧ ((sets ++ [own]) = sets') ∧ ((costs ++ [1]) = costs') ∧ (sz = sz') ∧ ((sets.length + 1) = sets'.length) ∧ ((costs.length + 1) = costs'.length))))))) ∧ ((decide (a < (U.length : Int))) = false → ((sets.length = sets.length) ∧ (costs.length = costs.length) ∧ ((.agg [.int .i64 sz, .sl (.rows sets), .sl (.ints costs)] : D) = .agg [.int .i64 (rsZ U E r), .sl (.rows (rsS U E r)), .sl (.ints (rsK U E r))]) ∧ (true = (rsB U E r)))))))))
theorem J7S (U : ZI) (E : ZR) (r : Int)  (w_Open : (U.length : Int) ≤ 9223372036854775807) (w_Dist : (E.length : Int) ≤ 9223372036854775807) (v_Dist : ∀ x9 ∈ E, (x9.length : Int) ≤ 9223372036854775807) : J4z U E r := by
  unfold J4z
  refine ⟨J5W U E, id, fun _ => J0M r 0 99, id, rfl, fun _ => rfl, ?_, ?_, ?_⟩
  ·intro h; rw [h]; rfl
  ·intro b1
   refine ⟨?_, ?_, ?_, ?_⟩
   ·have hq : (J2 U E && inB r 0 99) = false := by
      revert b1; cases J2 U E <;> cases inB r 0 99 <;> simp
    (unfold rsZ rsB; rw [hq]; rfl)
   ·have hq : (J2 U E && inB r 0 99) = false := by
      revert b1; cases J2 U E <;> cases inB r 0 99 <;> simp
    (unfold rsS rsB; rw [hq]; rfl)
   ·have hq : (J2 U E && inB r 0 99) = false := by
      revert b1; cases J2 U E <;> cases inB r 0 99 <;> simp
    (unfold rsK rsB; rw [hq]; rfl)
   have hq : (J2 U E && inB r 0 99) = false := by
     revert b1; cases J2 U E <;> cases inB r 0 99 <;> simp
   exact hq.symm
  intro b2
  refine ⟨?_, ?_⟩
  ·refine ⟨0, (E.length : Int), ([]), ([]), ?_⟩
   refine ⟨?_, rfl, rfl, rfl, rfl, rfl, rfl, ?_, ?_, rfl, rfl, rfl⟩
   ·refine ⟨?_, ?_, ?_, ?_, ?_⟩
    ·omega
    ·omega
    ·omega
    ·rfl
    ·rfl
   ·rfl
   rfl
  intro a sz sets costs hJ
  obtain ⟨h0, h1, h2, h3, h4⟩ := hJ
  refine ⟨?_, ?_⟩
  ·intro b3
   try simp only [nrmT] at b3
   refine ⟨?_, ?_⟩
   ·refine ⟨([]), 0, ?_⟩
    refine ⟨?_, rfl, rfl, rfl, rfl, rfl, rfl, rfl, rfl, ?_, rfl, rfl, rfl, rfl, rfl, rfl, rfl, rfl⟩
    ·refine ⟨?_, ?_, ?_⟩
     ·omega
     ·omega
     ·rfl
    rfl
   intro own i hJ
   obtain ⟨h5, h6, h7⟩ := hJ
   refine ⟨?_, ?_⟩
   ·intro b4
    try simp only [nrmT] at b4
    refine ⟨?_, ?_, ?_, ?_, ?_, ?_, ?_, ?_⟩
    ·omega
    ·omega
    ·omega
    ·omega
    ·have hq : J2 U E = true ∧ inB r 0 99 = true := by
       revert b2; cases J2 U E <;> cases inB r 0 99 <;> simp
     have hg := hq.1
     have hr := J3Z hg (i := i.toNat) (by omega)
     omega
    ·have hq : J2 U E = true ∧ inB r 0 99 = true := by
       revert b2; cases J2 U E <;> cases inB r 0 99 <;> simp
     have hg := hq.1
     have hr := J3Z hg (i := i.toNat) (by omega)
     omega
    ·intro b5
     try simp only [nrmT] at b5
     refine ⟨rfl, rfl, ?_, ?_, ?_⟩
     ·have hq : J2 U E = true ∧ inB r 0 99 = true := by
        revert b2; cases J2 U E <;> cases inB r 0 99 <;> simp
      have hg := hq.1
      obtain ⟨g1, g2, g3⟩ := Jr hg
      have := members_len_le (fun k9 => decide ((E.getD k9 []).getD a.toNat 0 ≤ r)) i.toNat
      rw [← h7] at this
      omega
     ·omega
     refine ⟨(own ++ [i]), (i + 1), ?_⟩
     refine ⟨?_, ?_, rfl, rfl, ?_, rfl, rfl, rfl, rfl, rfl, rfl, rfl, rfl, rfl, rfl, rfl, rfl, rfl, rfl⟩
     ·refine ⟨?_, ?_, ?_⟩
      ·omega
      ·omega
      ·rw [show (i + 1).toNat = i.toNat + 1 by omega, members_succ, if_pos (decide_eq_true b5), ← h7, show ((i.toNat : Nat) : Int) = i by omega]
     ·(simp only [JF]; omega)
     simp
    intro b6
    try simp only [nrmT] at b6
    refine ⟨?_, ?_⟩
    ·omega
    refine ⟨own, (i + 1), ?_⟩
    refine ⟨?_, ?_, rfl, rfl, rfl, rfl, rfl, rfl, rfl, rfl, rfl, rfl, rfl, rfl, rfl, rfl, rfl, rfl, rfl⟩
    ·refine ⟨?_, ?_, ?_⟩
     ·omega
     ·omega
     ·rw [show (i + 1).toNat = i.toNat + 1 by omega, members_succ, if_neg (by rw [decide_eq_false (by omega)]; decide), List.append_nil, ← h7]
    (simp only [JF]; omega)
   intro b7
   try simp only [nrmT] at b7
   refine ⟨rfl, rfl, rfl, rfl, by decide, ?_, rfl, rfl, ?_, ?_, ?_⟩
   ·have hq : J2 U E = true ∧ inB r 0 99 = true := by
      revert b2; cases J2 U E <;> cases inB r 0 99 <;> simp
    have hg := hq.1
    obtain ⟨g1, g2, g3⟩ := Jr hg
    rw [h3, tabTo_len]; omega
   ·have hq : J2 U E = true ∧ inB r 0 99 = true := by
      revert b2; cases J2 U E <;> cases inB r 0 99 <;> simp
    have hg := hq.1
    obtain ⟨g1, g2, g3⟩ := Jr hg
    rw [h4, List.length_replicate]; omega
   ·omega
   refine ⟨(a + 1), sz, (sets ++ [own]), (costs ++ [1]), ?_⟩
   refine ⟨?_, ?_, rfl, rfl, rfl, rfl, rfl, rfl, rfl, rfl, rfl, ?_, ?_⟩
   ·refine ⟨?_, ?_, ?_, ?_, ?_⟩
    ·omega
    ·omega
    ·omega
    ·rw [show (a + 1).toNat = a.toNat + 1 by omega, tabTo_succ, ← h3, h7, show i.toNat = E.length by omega]; rfl
    ·rw [show (a + 1).toNat = a.toNat + 1 by omega, h4, Jau]
   ·(simp only [J19]; omega)
   ·simp
   simp
  intro b8
  try simp only [nrmT] at b8
  refine ⟨rfl, rfl, ?_, ?_⟩
  ·have hq : J2 U E = true ∧ inB r 0 99 = true := by
     revert b2; cases J2 U E <;> cases inB r 0 99 <;> simp
   have hg := hq.1
   have hb : rsB U E r = true := by unfold rsB; rw [hq.1, hq.2]; rfl
   unfold rsZ rsS rsK
   rw [if_pos hb, if_pos hb, if_pos hb]
   try rw [h0, h3, h4, show a.toNat = U.length by omega]
   try rfl
  have hq : J2 U E = true ∧ inB r 0 99 = true := by
    revert b2; cases J2 U E <;> cases inB r 0 99 <;> simp
  have hg := hq.1
  unfold rsB; rw [hq.1, hq.2]; rfl
theorem J7s (U : ZI) (E : ZR) (r : Int)  : PC Tryz.prog 87 [.agg [.sl (.ints U), .sl (.rows E)], .int .i64 r] (.tup [.d (.agg [.int .i64 (rsZ U E r), .sl (.rows (rsS U E r)), .sl (.ints (rsK U E r))]), .d (.bool (rsB U E r))]) :=
  pc_wf @Tryz.call87 fun hw => pc_by (by kernel_rfl) Tryz.func87 @Tryz.call87 (by kernel_rfl) J8E (J8I U E r) (by kernel_rfl) (J7S U E r hw.1.1 hw.1.2.1.1 hw.1.2.1.2) (by kernel_rfl)
def J6Q : List D → Orc := orcN [none, none] fun ds => match ds with
  | [.agg [.sl (.ints U), .sl (.rows E)], .int .i64 r] => some (.tup [.d (.agg [.int .i64 (rsZ U E r), .sl (.rows (rsS U E r)), .sl (.ints (rsK U E r))]), .d (.bool (rsB U E r))])
  | _ => none
abbrev J1E (code : List Nat) (Z : Int) (S : ZR) (K : ZI) (kk : Int) : Prop := True
def J1H (code : List Nat) : Ex := ex4 0 (fun (Z : Int) (S : ZR) (K : ZI) (kk : Int) => J1E code Z S K kk) (fun (Z : Int) (S : ZR) (K : ZI) (kk : Int) => []) (fun (Z : Int) (S : ZR) (K : ZI) (kk : Int) => .tup [.d (.agg [.int .i64 Z, .sl (.rows S), .sl (.ints K)]), .d (.int .i64 kk)])
def J5y (f : FuncId) (ds : List D) : Orc := .no
def J5H (code : List Nat) : Ann := .two (.none) (.two (.none) (.two (.exr (.ex [] 1 (J2G code J5a) (fun g => (fun (Zr2 : Int) (Sr2 : ZR) (Kr2 : ZI) (czr2 : Cur) => .ms [] [(4, .cell [.int .i64 ((J0 code czr2 (([2, 1, 3, 0, 4, 8, 9, (-1)]).length : Int)).pos), .int .u64 ((J0 code czr2 (([2, 1, 3, 0, 4, 8, 9, (-1)]).length : Int)).seed)] (.one (.d (.int .i64 (([2, 1, 3, 0, 4, 8, 9, (-1)]).getD (J4 code czr2 (([2, 1, 3, 0, 4, 8, 9, (-1)]).length : Int)).toNat 0)))))]) (g.1) (g.2.1) (g.2.2.1) (g.2.2.2)))) (.none)))
def J3u (code : List Nat) : Prop :=
  (PKE Tryz.prog 171 76 (.sl (.bytes code)) [.int .i64 0, .int .u64 0] [] (J2G code J5a)) ∧ (∀ Zr2 : Int, ∀ Sr2 : ZR, ∀ Kr2 : ZI, ∀ czr2 : Cur, Jb code J5a Zr2 Sr2 Kr2 czr2 → ((true = true) ∧ ((8 : Nat) = 8) ∧ (PK Tryz.prog 155 76 (.sl (.bytes code)) [.int .i64 czr2.pos, .int .u64 czr2.seed] [.int .i64 ((J0 code czr2 (([2, 1, 3, 0, 4, 8, 9, (-1)]).length : Int)).pos), .int .u64 ((J0 code czr2 (([2, 1, 3, 0, 4, 8, 9, (-1)]).length : Int)).seed)] [.sl (.ints ([2, 1, 3, 0, 4, 8, 9, (-1)]))] (.one (.d (.int .i64 (([2, 1, 3, 0, 4, 8, 9, (-1)]).getD (J4 code czr2 (([2, 1, 3, 0, 4, 8, 9, (-1)]).length : Int)).toNat 0))))) ∧ (∃ Z' : Int, ∃ S' : ZR, ∃ K' : ZI, ∃ kk' : Int, (J1E code Z' S' K' kk') ∧ ((.agg [.int .i64 Zr2, .sl (.rows Sr2), .sl (.ints Kr2)] : D) = .agg [.int .i64 Z', .sl (.rows S'), .sl (.ints K')]) ∧ ((([2, 1, 3, 0, 4, 8, 9, (-1)]).getD (J4 code czr2 (([2, 1, 3, 0, 4, 8, 9, (-1)]).length : Int)).toNat 0) = kk'))))
theorem J5b (code : List Nat) (hb : ∀ x9 ∈ code, x9 < 256) (w_code : (code.length : Int) ≤ 9223372036854775807) : J3u code := by
  unfold J3u
  refine ⟨?_, ?_⟩
  ·refine J5V code J5a ?_ ?_
   ·exact hb
   ·exact J5 J9b (by omega)
  intro Zr2 Sr2 Kr2 czr2 hQ9
  have q1r2 := hQ9
  refine ⟨rfl, rfl, ?_, ?_⟩
  ·refine Jg code czr2 ([2, 1, 3, 0, 4, 8, 9, (-1)]) ?_ ?_ ?_
   ·exact hb
   ·exact J5 (by assumption) (by omega)
   ·simp
  refine ⟨Zr2, Sr2, Kr2, (([2, 1, 3, 0, 4, 8, 9, (-1)]).getD (J4 code czr2 (([2, 1, 3, 0, 4, 8, 9, (-1)]).length : Int)).toNat 0), ?_⟩
  refine ⟨?_, rfl, rfl⟩
  ·trivial
theorem J5f (code : List Nat) (hb : ∀ x9 ∈ code, x9 < 256) : PE Tryz.prog 80 [.sl (.bytes code)] (J1H code) :=
  pe_wf @Tryz.call80 fun hw => pe_by (by kernel_rfl) Tryz.func80 @Tryz.call80 (by kernel_rfl) J5y (J5H code) (by kernel_rfl) (J5b code hb hw.1) (by kernel_rfl)
abbrev J1F (code : List Nat) (O : ZI) (Ds : ZR) (rr : Int) : Prop := True
def J1z (code : List Nat) : Ex := ex3 0 (fun (O : ZI) (Ds : ZR) (rr : Int) => J1F code O Ds rr) (fun (O : ZI) (Ds : ZR) (rr : Int) => []) (fun (O : ZI) (Ds : ZR) (rr : Int) => .tup [.d (.agg [.sl (.ints O), .sl (.rows Ds)]), .d (.int .i64 rr)])
def J5C (f : FuncId) (ds : List D) : Orc := .no
def J5E (code : List Nat) : Ann := .two (.none) (.two (.none) (.two (.exr (.ex [] 1 (J2X code J5a) (fun g => (fun (Or2 : ZI) (Dr2 : ZR) (clr2 : Cur) => .ms [] [(4, .cell [.int .i64 ((J0 code clr2 (([0, 1, 2, 3, 5, 8, 12, 99, 100, (-1)]).length : Int)).pos), .int .u64 ((J0 code clr2 (([0, 1, 2, 3, 5, 8, 12, 99, 100, (-1)]).length : Int)).seed)] (.one (.d (.int .i64 (([0, 1, 2, 3, 5, 8, 12, 99, 100, (-1)]).getD (J4 code clr2 (([0, 1, 2, 3, 5, 8, 12, 99, 100, (-1)]).length : Int)).toNat 0)))))]) (g.1) (g.2.1) (g.2.2)))) (.none)))
end Go.Proofs.YtomnmacmlhkceaaGreat
