/- Contracts of the functions that the law reaches. -/
import Derived.Test.YtomnmacmlhkceaaGreatKCoverings1
import Derived.KernelRfl
set_option linter.unusedVariables false
set_option linter.unusedSimpArgs false
namespace Go.Proofs.YtomnmacmlhkceaaGreat
open Go

theorem J82 (xss : ZR) (U : ZI) (E : ZR) (z : Int) (hp : 0 < xss.length) (hx : ∀ s ∈ xss, (J0 U E && J2 s 0 ((U.length : Int) - 1) && decide (0 < s.length)) = true ∧ (0 ≤ z ∧ z ≤ 7)) (w_xss : (xss.length : Int) ≤ 9223372036854775807) (v_xss : ∀ x9 ∈ xss, (x9.length : Int) ≤ 9223372036854775807) (w_Open : (U.length : Int) ≤ 9223372036854775807) (w_Dist : (E.length : Int) ≤ 9223372036854775807) (v_Dist : ∀ x9 ∈ E, (x9.length : Int) ≤ 9223372036854775807) : J55 xss U E z := by
  unfold J55
  refine ⟨?_, ?_, ?_, ?_, ?_⟩
  ·omega
  ·omega
  ·omega
  ·refine ⟨(xss.getD 0 []), 0, ?_⟩
   refine ⟨?_, rfl, rfl, rfl, rfl, rfl⟩
   ·refine ⟨?_, ?_, ?_, ?_⟩
    ·omega
    ·omega
    ·exact getD_mem hp
    ·rfl
  intro best i hJ
  obtain ⟨h1, h2, h3, h4⟩ := hJ
  refine ⟨?_, ?_⟩
  ·intro b1
   try simp only [nrmT] at b1
   refine ⟨?_, ?_, ?_, ?_, ?_, ?_, ?_⟩
   ·omega
   ·omega
   ·omega
   ·refine J3V (xss.getD i.toNat []) U E z ?_
    ·exact hx _ (getD_memI h1 (by omega))
   ·refine J3V best U E z ?_
    ·exact hx _ h3
   ·intro b2
    try simp only [nrmT] at b2
    refine ⟨?_, ?_⟩
    ·omega
    refine ⟨(xss.getD i.toNat []), (i + 1), ?_⟩
    refine ⟨?_, ?_, rfl, rfl, rfl, rfl, rfl⟩
    ·refine ⟨?_, ?_, ?_, ?_⟩
     ·omega
     ·omega
     ·exact getD_memI h1 (by omega)
     ·rw [J2L (d := []) h1 (by omega), ← h4]; unfold lsB; rw [if_pos b2]
    (simp only [JZ]; omega)
   intro b3
   try simp only [nrmT] at b3
   refine ⟨?_, ?_⟩
   ·omega
   refine ⟨best, (i + 1), ?_⟩
   refine ⟨?_, ?_, rfl, rfl, rfl, rfl, rfl⟩
   ·refine ⟨?_, ?_, ?_, ?_⟩
    ·omega
    ·omega
    ·exact h3
    ·rw [J2L (d := []) h1 (by omega), ← h4]; unfold lsB; (try dsimp only); rw [if_neg (by omega)]
   (simp only [JZ]; omega)
  intro b4
  try simp only [nrmT] at b4
  rw [h4, take_all (by omega)]; rfl
theorem J7X (xss : ZR) (U : ZI) (E : ZR) (z : Int) (hp : 0 < xss.length) (hx : ∀ s ∈ xss, (J0 U E && J2 s 0 ((U.length : Int) - 1) && decide (0 < s.length)) = true ∧ (0 ≤ z ∧ z ≤ 7)) : PCs Tryz.prog 94 [.sl (.rows xss), .fn 157 0 [.bx [.sl (.ints U), .sl (.rows E)] 0, .bx [.int .i64 z] 0]] 0 (.sl (.ints (J0b (fun s9 => Jg E s9 z) xss))) :=
  pcs_wf @Tryz.call94 fun hw => pcs_by (by kernel_rfl) Tryz.func94 @Tryz.call94 (by kernel_rfl) J8I (J8F xss U E z) (by kernel_rfl) (J82 xss U E z hp hx hw.1.1 hw.1.2 hw.2.1.1.1 hw.2.1.1.2.1.1 hw.2.1.1.2.1.2) (by kernel_rfl)
def J7o : List D → Orc := orcS 0 fun ds => match ds with
  | [.sl (.rows xss), .fn f0 0 [.bx [.sl (.ints U), .sl (.rows E)] 0, .bx [.int .i64 z] 0]] => some (.sl (.ints (J0b (fun s9 => Jg E s9 z) xss)))
  | _ => none
def J7j (U : ZI) (E : ZR) (k z : Int) : ZI := J0b (fun s9 => Jg E s9 z) (upS U k)
theorem Jdf {U : ZI} {E : ZR} {k z : Int} (hk : 1 ≤ k ∧ k ≤ (U.length : Int)) : J7j U E k z ∈ J5 (U.length : Int).toNat := J1o (J34 (Jn hk))
def J9 (U : ZI) (E : ZR) (k z : Int) : Bool := (J0 U E && inB k 1 (U.length : Int)) && inB z 0 7
def J0e (U : ZI) (E : ZR) (k z : Int) : ZI := if J9 U E k z = true then J7j U E k z else []
def Jz (U : ZI) (E : ZR) (k z : Int) : Int := if J9 U E k z = true then Jg E (J7j U E k z) z else 0
theorem Jf {U : ZI} {E : ZR} {k z : Int} (h : J9 U E k z = true) : J0 U E = true ∧ (1 ≤ k ∧ k ≤ (U.length : Int)) ∧ (0 ≤ z ∧ z ≤ 7) := by
  unfold J9 at h
  rw [Bool.and_eq_true, Bool.and_eq_true] at h
  exact ⟨h.1.1, J0D h.1.2, J0D h.2⟩
theorem Ji {U : ZI} {E : ZR} {k z : Int} : cond (!(J0 U E && inB k 1 (U.length : Int))) true (!(inB z 0 7)) = !(J9 U E k z) := by
  unfold J9
  cases (J0 U E && inB k 1 (U.length : Int)) <;> cases inB z 0 7 <;> rfl
abbrev J0p (U : ZI) (E : ZR) (k : Int) (z : Int) (best : ZI) (i : Int) : Prop := (1 ≤ i) ∧ (i ≤ ((upS U k).length : Int)) ∧ (best ∈ upS U k) ∧ (best = ((upS U k).take i.toNat).foldl (lsB (fun s9 => Jg E s9 z)) ((upS U k).getD 0 []))
abbrev JP (U : ZI) (E : ZR) (k : Int) (z : Int) (best : ZI) (i : Int) : Nat := ((upS U k).length - i).toNat
def J8l (f : FuncId) (ds : List D) : Orc := bif Nat.beq f 97 then Jb3 ds else bif Nat.beq f 129 then J3d ds else bif Nat.beq f 159 then Jaj ds else bif Nat.beq f 160 then J8a ds else bif Nat.beq f 98 then J2o ds else .no
def J89 (U : ZI) (E : ZR) (k : Int) (z : Int) : Ann := .two (.none) (.two (.none) (.two (.none) (.two (.none) (.two (.two (.none) (.loop (cut2 (fun (best : ZI) (i : Int) => J0p U E k z best i) (fun (best : ZI) (i : Int) => [(2, .d false (.int .i64 z)), (3, .ptr 3 0), (9, .d true (.sl (.rows (upS U k)))), (10, .d true (.sl (.ints best))), (11, .d true (.int .i64 i))]) (fun (best : ZI) (i : Int) => [(3, .box 27 [.d false (.sl (.ints U)), .d false (.sl (.rows E))])])) (fun g => JP U E k z g.1 g.2) (fun _ => .none))) (.none)))))
def J4K (U : ZI) (E : ZR) (k : Int) (z : Int) : Prop :=
  (PC Tryz.prog 97 [.agg [.sl (.ints U), .sl (.rows E)], .int .i64 k] (.one (.d (.bool (J0 U E && inB k 1 (U.length : Int)))))) ∧ ((!(!(J0 U E && inB k 1 (U.length : Int)))) = true → (!(!(J0 U E && inB k 1 (U.length : Int)))) = true) ∧ ((!(!(J0 U E && inB k 1 (U.length : Int)))) = true → PC Tryz.prog 129 [.int .i64 z, .int .i64 0, .int .i64 7] (.one (.d (.bool (inB z 0 7))))) ∧ ((!(!(J0 U E && inB k 1 (U.length : Int)))) = true → (!(!(J0 U E && inB k 1 (U.length : Int)))) = true) ∧ (true = true) ∧ (((!(J0 U E && inB k 1 (U.length : Int))) = true → true = true)) ∧ (((!(J0 U E && inB k 1 (U.length : Int))) = false → (!(!(J0 U E && inB k 1 (U.length : Int)))) = true)) ∧ (((cond (!(J0 U E && inB k 1 (U.length : Int))) true (!(inB z 0 7))) = true → (((0 : Nat) = 0) ∧ (([] : ZI) = J0e U E k z) ∧ ((0 : Int) = (Jz U E k z)) ∧ (false = (J9 U E k z)))) ∧ ((cond (!(J0 U E && inB k 1 (U.length : Int))) true (!(inB z 0 7))) = false → (PC Tryz.prog 159 [.agg [.sl (.ints U), .sl (.rows E)], .int .i64 k] (.one (.d (.sl (.rows (upS U k)))))) ∧ ((0 : Int) ≤ 0) ∧ ((0 : Int) < (upS U k).length) ∧ (0 < (upS U k).length) ∧ ((∃ best' : ZI, ∃ i' : Int, (J0p U E k z best' i') ∧ (z = z) ∧ ((upS U k) = (upS U k)) ∧ (((upS U k).getD 0 []) = best') ∧ ((1 : Int) = i') ∧ (U = U) ∧ (E = E)) ∧ (∀ best : ZI, ∀ i : Int, (J0p U E k z best i) → (((decide (i < (((upS U k).length) : Int))) = true → (true = true) ∧ ((0 : Int) ≤ i) ∧ ((i : Int) < (upS U k).length) ∧ (i.toNat < (upS U k).length) ∧ (PC Tryz.prog 160 [.agg [.sl (.ints U), .sl (.rows E)], .sl (.ints ((upS U k).getD i.toNat [])), .int .i64 z] (.one (.d (.int .i64 (Jg E ((upS U k).getD i.toNat []) z))))) ∧ (PC Tryz.prog 160 [.agg [.sl (.ints U), .sl (.rows E)], .sl (.ints best), .int .i64 z] (.one (.d (.int .i64 (Jg E best z))))) ∧ (((decide ((Jg E ((upS U k).getD i.toNat []) z) < (Jg E best z))) = true → ((0 : Int) ≤ i) ∧ ((i : Int) < (upS U k).length) ∧ (i.toNat < (upS U k).length) ∧ (I6 (i + 1)) ∧ (∃ best' : ZI, ∃ i' : Int, (J0p U E k z best' i') ∧ (JP U E k z best' i' < JP U E k z best i) ∧ (z = z) ∧ ((upS U k) = (upS U k)) ∧ (((upS U k).getD i.toNat []) = best') ∧ ((i + 1) = i') ∧ (U = U) ∧ (E = E))) ∧ ((decide ((Jg E ((upS U k).getD i.toNat []) z) < (Jg E best z))) = false → (I6 (i + 1)) ∧ (∃ best' : ZI, ∃ i' : Int, (J0p U E k z best' i') ∧ (JP U E k z best' i' < JP U E k z best i) ∧ (z = z) ∧ ((upS U k) = (upS U k)) ∧ (best = best') ∧ ((i + 1) = i') ∧ (U = U) ∧ (E = E))))) ∧ ((decide (i < (((upS U k).length) : Int))) = false → (true = true) ∧ (PC Tryz.prog 98 [.sl (.ints best)] (.one (.own 3 (.ints best)))) ∧ (PC Tryz.prog 160 [.agg [.sl (.ints U), .sl (.rows E)], .sl (.ints best), .int .i64 z] (.one (.d (.int .i64 (Jg E best z))))) ∧ ((best.length = best.length) ∧ ((best : ZI) = J0e U E k z) ∧ ((Jg E best z) = (Jz U E k z)) ∧ (true = (J9 U E k z)))))))))
theorem J7s (U : ZI) (E : ZR) (k : Int) (z : Int)  (w_Open : (U.length : Int) ≤ 9223372036854775807) (w_Dist : (E.length : Int) ≤ 9223372036854775807) (v_Dist : ∀ x9 ∈ E, (x9.length : Int) ≤ 9223372036854775807) : J4K U E k z := by
  unfold J4K
  refine ⟨JbA U E k, id, fun _ => J3Q z 0 7, id, rfl, fun _ => rfl, ?_, ?_, ?_⟩
  ·intro h; rw [h]; rfl
  ·intro b1
   refine ⟨rfl, ?_, ?_, ?_⟩
   ·have hq : J9 U E k z = false := by
      have h9 := Ji (U := U) (E := E) (k := k) (z := z)
      rw [b1] at h9
      revert h9; cases J9 U E k z <;> simp
    unfold J0e; rw [hq]; rfl
   ·have hq : J9 U E k z = false := by
      have h9 := Ji (U := U) (E := E) (k := k) (z := z)
      rw [b1] at h9
      revert h9; cases J9 U E k z <;> simp
    unfold Jz; rw [hq]; rfl
   have hq : J9 U E k z = false := by
     have h9 := Ji (U := U) (E := E) (k := k) (z := z)
     rw [b1] at h9
     revert h9; cases J9 U E k z <;> simp
   exact hq.symm
  intro b2
  refine ⟨?_, ?_, ?_, ?_, ?_, ?_⟩
  ·refine JaM U E k ?_ ?_
   ·have hq : J9 U E k z = true := by
      have h9 := Ji (U := U) (E := E) (k := k) (z := z)
      rw [b2] at h9
      revert h9; cases J9 U E k z <;> simp
    obtain ⟨hg, hk, hz⟩ := Jf hq
    have up := Jn (U := U) (k := k) hk
    have ul := Jw hg (k := k)
    exact hg
   ·have hq : J9 U E k z = true := by
      have h9 := Ji (U := U) (E := E) (k := k) (z := z)
      rw [b2] at h9
      revert h9; cases J9 U E k z <;> simp
    obtain ⟨hg, hk, hz⟩ := Jf hq
    have up := Jn (U := U) (k := k) hk
    have ul := Jw hg (k := k)
    exact hk
  ·omega
  ·have hq : J9 U E k z = true := by
     have h9 := Ji (U := U) (E := E) (k := k) (z := z)
     rw [b2] at h9
     revert h9; cases J9 U E k z <;> simp
   obtain ⟨hg, hk, hz⟩ := Jf hq
   have up := Jn (U := U) (k := k) hk
   have ul := Jw hg (k := k)
   omega
  ·have hq : J9 U E k z = true := by
     have h9 := Ji (U := U) (E := E) (k := k) (z := z)
     rw [b2] at h9
     revert h9; cases J9 U E k z <;> simp
   obtain ⟨hg, hk, hz⟩ := Jf hq
   have up := Jn (U := U) (k := k) hk
   have ul := Jw hg (k := k)
   omega
  ·refine ⟨((upS U k).getD 0 []), 1, ?_⟩
   refine ⟨?_, rfl, rfl, rfl, rfl, rfl, rfl⟩
   ·refine ⟨?_, ?_, ?_, ?_⟩
    ·omega
    ·have hq : J9 U E k z = true := by
       have h9 := Ji (U := U) (E := E) (k := k) (z := z)
       rw [b2] at h9
       revert h9; cases J9 U E k z <;> simp
     obtain ⟨hg, hk, hz⟩ := Jf hq
     have up := Jn (U := U) (k := k) hk
     have ul := Jw hg (k := k)
     omega
    ·have hq : J9 U E k z = true := by
       have h9 := Ji (U := U) (E := E) (k := k) (z := z)
       rw [b2] at h9
       revert h9; cases J9 U E k z <;> simp
     obtain ⟨hg, hk, hz⟩ := Jf hq
     have up := Jn (U := U) (k := k) hk
     have ul := Jw hg (k := k)
     exact getD_mem up
    ·have hq : J9 U E k z = true := by
       have h9 := Ji (U := U) (E := E) (k := k) (z := z)
       rw [b2] at h9
       revert h9; cases J9 U E k z <;> simp
     obtain ⟨hg, hk, hz⟩ := Jf hq
     have up := Jn (U := U) (k := k) hk
     have ul := Jw hg (k := k)
     exact (Jby up).symm
  intro best i hJ
  obtain ⟨h1, h2, h3, h4⟩ := hJ
  refine ⟨?_, ?_⟩
  ·intro b3
   try simp only [nrmT] at b3
   refine ⟨rfl, ?_, ?_, ?_, ?_, ?_, ?_, ?_⟩
   ·omega
   ·omega
   ·omega
   ·refine J3r U E ((upS U k).getD i.toNat []) z ?_ ?_
    ·have hq : J9 U E k z = true := by
       have h9 := Ji (U := U) (E := E) (k := k) (z := z)
       rw [b2] at h9
       revert h9; cases J9 U E k z <;> simp
     obtain ⟨hg, hk, hz⟩ := Jf hq
     have up := Jn (U := U) (k := k) hk
     have ul := Jw hg (k := k)
     exact (JV hg (J1o (getD_memI (by omega) (by omega)))).1
    ·have hq : J9 U E k z = true := by
       have h9 := Ji (U := U) (E := E) (k := k) (z := z)
       rw [b2] at h9
       revert h9; cases J9 U E k z <;> simp
     obtain ⟨hg, hk, hz⟩ := Jf hq
     have up := Jn (U := U) (k := k) hk
     have ul := Jw hg (k := k)
     exact hz
   ·refine J3r U E best z ?_ ?_
    ·have hq : J9 U E k z = true := by
       have h9 := Ji (U := U) (E := E) (k := k) (z := z)
       rw [b2] at h9
       revert h9; cases J9 U E k z <;> simp
     obtain ⟨hg, hk, hz⟩ := Jf hq
     have up := Jn (U := U) (k := k) hk
     have ul := Jw hg (k := k)
     exact (JV hg (J1o h3)).1
    ·have hq : J9 U E k z = true := by
       have h9 := Ji (U := U) (E := E) (k := k) (z := z)
       rw [b2] at h9
       revert h9; cases J9 U E k z <;> simp
     obtain ⟨hg, hk, hz⟩ := Jf hq
     have up := Jn (U := U) (k := k) hk
     have ul := Jw hg (k := k)
     exact hz
   ·intro b4
    try simp only [nrmT] at b4
    refine ⟨?_, ?_, ?_, ?_, ?_⟩
    ·omega
    ·omega
    ·omega
    ·have hq : J9 U E k z = true := by
       have h9 := Ji (U := U) (E := E) (k := k) (z := z)
       rw [b2] at h9
       revert h9; cases J9 U E k z <;> simp
     obtain ⟨hg, hk, hz⟩ := Jf hq
     have up := Jn (U := U) (k := k) hk
     have ul := Jw hg (k := k)
     omega
    refine ⟨((upS U k).getD i.toNat []), (i + 1), ?_⟩
    refine ⟨?_, ?_, rfl, rfl, rfl, rfl, rfl, rfl⟩
    ·refine ⟨?_, ?_, ?_, ?_⟩
     ·omega
     ·omega
     ·exact getD_memI (by omega) (by omega)
     ·rw [J2L (d := []) (by omega) (by omega), ← h4]; unfold lsB; rw [if_pos b4]
    (simp only [JP]; omega)
   intro b5
   try simp only [nrmT] at b5
   refine ⟨?_, ?_⟩
   ·have hq : J9 U E k z = true := by
      have h9 := Ji (U := U) (E := E) (k := k) (z := z)
      rw [b2] at h9
      revert h9; cases J9 U E k z <;> simp
    obtain ⟨hg, hk, hz⟩ := Jf hq
    have up := Jn (U := U) (k := k) hk
    have ul := Jw hg (k := k)
    omega
   refine ⟨best, (i + 1), ?_⟩
   refine ⟨?_, ?_, rfl, rfl, rfl, rfl, rfl, rfl⟩
   ·refine ⟨?_, ?_, ?_, ?_⟩
    ·omega
    ·omega
    ·exact h3
    ·rw [J2L (d := []) (by omega) (by omega), ← h4]; unfold lsB; (try dsimp only); rw [if_neg (by omega)]
   (simp only [JP]; omega)
  intro b6
  try simp only [nrmT] at b6
  refine ⟨rfl, ?_, ?_, rfl, ?_, ?_, ?_⟩
  ·refine J29 best ?_
   ·have hq : J9 U E k z = true := by
      have h9 := Ji (U := U) (E := E) (k := k) (z := z)
      rw [b2] at h9
      revert h9; cases J9 U E k z <;> simp
    obtain ⟨hg, hk, hz⟩ := Jf hq
    have up := Jn (U := U) (k := k) hk
    have ul := Jw hg (k := k)
    have := (JV hg (J1o h3)).2
    omega
  ·refine J3r U E best z ?_ ?_
   ·have hq : J9 U E k z = true := by
      have h9 := Ji (U := U) (E := E) (k := k) (z := z)
      rw [b2] at h9
      revert h9; cases J9 U E k z <;> simp
    obtain ⟨hg, hk, hz⟩ := Jf hq
    have up := Jn (U := U) (k := k) hk
    have ul := Jw hg (k := k)
    exact (JV hg (J1o h3)).1
   ·have hq : J9 U E k z = true := by
      have h9 := Ji (U := U) (E := E) (k := k) (z := z)
      rw [b2] at h9
      revert h9; cases J9 U E k z <;> simp
    obtain ⟨hg, hk, hz⟩ := Jf hq
    have up := Jn (U := U) (k := k) hk
    have ul := Jw hg (k := k)
    exact hz
  ·have hq : J9 U E k z = true := by
     have h9 := Ji (U := U) (E := E) (k := k) (z := z)
     rw [b2] at h9
     revert h9; cases J9 U E k z <;> simp
   obtain ⟨hg, hk, hz⟩ := Jf hq
   have up := Jn (U := U) (k := k) hk
   have ul := Jw hg (k := k)
   unfold J0e; rw [if_pos hq, h4, take_all (by omega)]; rfl
  ·have hq : J9 U E k z = true := by
     have h9 := Ji (U := U) (E := E) (k := k) (z := z)
     rw [b2] at h9
     revert h9; cases J9 U E k z <;> simp
   obtain ⟨hg, hk, hz⟩ := Jf hq
   have up := Jn (U := U) (k := k) hk
   have ul := Jw hg (k := k)
   unfold Jz; rw [if_pos hq, h4, take_all (by omega)]; rfl
  have hq : J9 U E k z = true := by
    have h9 := Ji (U := U) (E := E) (k := k) (z := z)
    rw [b2] at h9
    revert h9; cases J9 U E k z <;> simp
  obtain ⟨hg, hk, hz⟩ := Jf hq
  have up := Jn (U := U) (k := k) hk
  have ul := Jw hg (k := k)
  exact hq.symm
theorem J7n (U : ZI) (E : ZR) (k : Int) (z : Int)  : PC Tryz.prog 65 [.agg [.sl (.ints U), .sl (.rows E)], .int .i64 k, .int .i64 z] (.tup [.own 3 (.ints (J0e U E k z)), .d (.int .i64 (Jz U E k z)), .d (.bool (J9 U E k z))]) :=
  pc_wf @Tryz.call65 fun hw => pc_by (by kernel_rfl) Tryz.func65 @Tryz.call65 (by kernel_rfl) J8l (J89 U E k z) (by kernel_rfl) (J7s U E k z hw.1.1 hw.1.2.1.1 hw.1.2.1.2) (by kernel_rfl)
def J6D : List D → Orc := orcN [none, none, none] fun ds => match ds with
  | [.agg [.sl (.ints U), .sl (.rows E)], .int .i64 k, .int .i64 z] => some (.tup [.own 3 (.ints (J0e U E k z)), .d (.int .i64 (Jz U E k z)), .d (.bool (J9 U E k z))])
  | _ => none
def J8v (f : FuncId) (ds : List D) : Orc := bif Nat.beq f 93 then J3T ds else bif Nat.beq f 132 then J1m ds else bif Nat.beq f 95 then J4B ds else bif Nat.beq f 94 then J7o ds else bif Nat.beq f 158 then J3l ds else .no
def J8q (U : ZI) (E : ZR) (k : Int) (z : Int) : Ann := .none
def J4O (U : ZI) (E : ZR) (k : Int) (z : Int) : Prop :=
  (PC Tryz.prog 93 [.agg [.sl (.ints U), .sl (.rows E)], .int .i64 k] (.one (.d (.bool (J0 U E && inB k 1 (U.length : Int)))))) ∧ ((!(!(J0 U E && inB k 1 (U.length : Int)))) = true → (!(!(J0 U E && inB k 1 (U.length : Int)))) = true) ∧ ((!(!(J0 U E && inB k 1 (U.length : Int)))) = true → PC Tryz.prog 132 [.int .i64 z, .int .i64 0, .int .i64 7] (.one (.d (.bool (inB z 0 7))))) ∧ ((!(!(J0 U E && inB k 1 (U.length : Int)))) = true → (!(!(J0 U E && inB k 1 (U.length : Int)))) = true) ∧ (true = true) ∧ (((!(J0 U E && inB k 1 (U.length : Int))) = true → true = true)) ∧ (((!(J0 U E && inB k 1 (U.length : Int))) = false → (!(!(J0 U E && inB k 1 (U.length : Int)))) = true)) ∧ (((cond (!(J0 U E && inB k 1 (U.length : Int))) true (!(inB z 0 7))) = true → (((J0e U E k z).length = 0) ∧ ((0 : Int) = (Jz U E k z)) ∧ (false = (J9 U E k z)))) ∧ ((cond (!(J0 U E && inB k 1 (U.length : Int))) true (!(inB z 0 7))) = false → (PC Tryz.prog 95 [.agg [.sl (.ints U), .sl (.rows E)], .int .i64 k] (.one (.d (.sl (.rows (upS U k)))))) ∧ (PCs Tryz.prog 94 [.sl (.rows (upS U k)), .fn 157 0 [.bx [.sl (.ints U), .sl (.rows E)] 0, .bx [.int .i64 z] 0]] 0 (.sl (.ints (J0b (fun s9 => Jg E s9 z) (upS U k))))) ∧ (PC Tryz.prog 158 [.agg [.sl (.ints U), .sl (.rows E)], .sl (.ints (J0b (fun s9 => Jg E s9 z) (upS U k))), .int .i64 z] (.one (.d (.int .i64 (Jg E (J0b (fun s9 => Jg E s9 z) (upS U k)) z))))) ∧ ((((J0b (fun s9 => Jg E s9 z) (upS U k)) : ZI) = (J0e U E k z)) ∧ ((Jg E (J0b (fun s9 => Jg E s9 z) (upS U k)) z) = (Jz U E k z)) ∧ (true = (J9 U E k z)))))
theorem J7A (U : ZI) (E : ZR) (k : Int) (z : Int)  (w_Open : (U.length : Int) ≤ 9223372036854775807) (w_Dist : (E.length : Int) ≤ 9223372036854775807) (v_Dist : ∀ x9 ∈ E, (x9.length : Int) ≤ 9223372036854775807) : J4O U E k z := by
  unfold J4O
  refine ⟨J46 U E k, id, fun _ => J1T z 0 7, id, rfl, fun _ => rfl, ?_, ?_, ?_⟩
  ·intro h; rw [h]; rfl
  ·intro b1
   refine ⟨?_, ?_, ?_⟩
   ·have hq : J9 U E k z = false := by
      have h9 := Ji (U := U) (E := E) (k := k) (z := z)
      rw [b1] at h9
      revert h9; cases J9 U E k z <;> simp
    unfold J0e; rw [hq]; rfl
   ·have hq : J9 U E k z = false := by
      have h9 := Ji (U := U) (E := E) (k := k) (z := z)
      rw [b1] at h9
      revert h9; cases J9 U E k z <;> simp
    unfold Jz; rw [hq]; rfl
   have hq : J9 U E k z = false := by
     have h9 := Ji (U := U) (E := E) (k := k) (z := z)
     rw [b1] at h9
     revert h9; cases J9 U E k z <;> simp
   exact hq.symm
  intro b2
  refine ⟨?_, ?_, ?_, ?_, ?_, ?_⟩
  ·refine J4F U E k ?_ ?_
   ·have hq : J9 U E k z = true := by
      have h9 := Ji (U := U) (E := E) (k := k) (z := z)
      rw [b2] at h9
      revert h9; cases J9 U E k z <;> simp
    obtain ⟨hg, hk, hz⟩ := Jf hq
    have up := Jn (U := U) (k := k) hk
    have ul := Jw hg (k := k)
    exact hg
   ·have hq : J9 U E k z = true := by
      have h9 := Ji (U := U) (E := E) (k := k) (z := z)
      rw [b2] at h9
      revert h9; cases J9 U E k z <;> simp
    obtain ⟨hg, hk, hz⟩ := Jf hq
    have up := Jn (U := U) (k := k) hk
    have ul := Jw hg (k := k)
    exact hk
  ·refine J7X (upS U k) U E z ?_ ?_
   ·have hq : J9 U E k z = true := by
      have h9 := Ji (U := U) (E := E) (k := k) (z := z)
      rw [b2] at h9
      revert h9; cases J9 U E k z <;> simp
    obtain ⟨hg, hk, hz⟩ := Jf hq
    have up := Jn (U := U) (k := k) hk
    have ul := Jw hg (k := k)
    omega
   ·have hq : J9 U E k z = true := by
      have h9 := Ji (U := U) (E := E) (k := k) (z := z)
      rw [b2] at h9
      revert h9; cases J9 U E k z <;> simp
    obtain ⟨hg, hk, hz⟩ := Jf hq
    have up := Jn (U := U) (k := k) hk
    have ul := Jw hg (k := k)
    intro s hs
    exact ⟨(JV hg (J1o hs)).1, hz⟩
  ·refine J3W U E (J0b (fun s9 => Jg E s9 z) (upS U k)) z ?_ ?_
   ·have hq : J9 U E k z = true := by
      have h9 := Ji (U := U) (E := E) (k := k) (z := z)
      rw [b2] at h9
      revert h9; cases J9 U E k z <;> simp
    obtain ⟨hg, hk, hz⟩ := Jf hq
    have up := Jn (U := U) (k := k) hk
    have ul := Jw hg (k := k)
    exact (JV hg (Jdf (E := E) (z := z) hk)).1
   ·have hq : J9 U E k z = true := by
      have h9 := Ji (U := U) (E := E) (k := k) (z := z)
      rw [b2] at h9
      revert h9; cases J9 U E k z <;> simp
    obtain ⟨hg, hk, hz⟩ := Jf hq
    have up := Jn (U := U) (k := k) hk
    have ul := Jw hg (k := k)
    exact hz
  ·have hq : J9 U E k z = true := by
     have h9 := Ji (U := U) (E := E) (k := k) (z := z)
     rw [b2] at h9
     revert h9; cases J9 U E k z <;> simp
   obtain ⟨hg, hk, hz⟩ := Jf hq
   have up := Jn (U := U) (k := k) hk
   have ul := Jw hg (k := k)
   unfold J0e; rw [if_pos hq]; rfl
  ·have hq : J9 U E k z = true := by
     have h9 := Ji (U := U) (E := E) (k := k) (z := z)
     rw [b2] at h9
     revert h9; cases J9 U E k z <;> simp
   obtain ⟨hg, hk, hz⟩ := Jf hq
   have up := Jn (U := U) (k := k) hk
   have ul := Jw hg (k := k)
   unfold Jz; rw [if_pos hq]; rfl
  have hq : J9 U E k z = true := by
    have h9 := Ji (U := U) (E := E) (k := k) (z := z)
    rw [b2] at h9
    revert h9; cases J9 U E k z <;> simp
  obtain ⟨hg, hk, hz⟩ := Jf hq
  have up := Jn (U := U) (k := k) hk
  have ul := Jw hg (k := k)
  exact hq.symm
theorem J7e (U : ZI) (E : ZR) (k : Int) (z : Int)  : PC Tryz.prog 64 [.agg [.sl (.ints U), .sl (.rows E)], .int .i64 k, .int .i64 z] (.tup [.d (.sl (.ints (J0e U E k z))), .d (.int .i64 (Jz U E k z)), .d (.bool (J9 U E k z))]) :=
  pc_wf @Tryz.call64 fun hw => pc_by (by kernel_rfl) Tryz.func64 @Tryz.call64 (by kernel_rfl) J8v (J8q U E k z) (by kernel_rfl) (J7A U E k z hw.1.1 hw.1.2.1.1 hw.1.2.1.2) (by kernel_rfl)
def J6X : List D → Orc := orcN [none, none, none] fun ds => match ds with
  | [.agg [.sl (.ints U), .sl (.rows E)], .int .i64 k, .int .i64 z] => some (.tup [.d (.sl (.ints (J0e U E k z))), .d (.int .i64 (Jz U E k z)), .d (.bool (J9 U E k z))])
  | _ => none
def chs (n : Nat) : ZR := [[]] ++ J5 n
theorem Jdn {n : Nat} {s : ZI} : s ∈ chs n ↔ ∃ c, c < 2 ^ n ∧ lst n c = s := by
  unfold chs
  rw [List.mem_append, J6a]
  have h0 : lst n 0 = [] := by
    cases e : lst n 0 with
    | nil => rfl
    | cons x r =>
      have hm : x ∈ lst n 0 := by rw [e]; exact List.mem_cons_self
      have := (mem_members.1 hm).2.2
      rw [Nat.zero_testBit] at this
      cases this
  constructor
  · rintro (h | ⟨c, h1, h2, h3⟩)
    · exact ⟨0, Nat.two_pow_pos n, by rw [List.mem_singleton.1 h, h0]⟩
    · exact ⟨c, h2, h3⟩
  rintro ⟨c, h1, h2⟩
  by_cases e : c = 0
  · left; rw [← h2, e, h0]; exact List.mem_singleton.2 rfl
  exact .inr ⟨c, by omega, h1, h2⟩
/-- How far a cursor has read, and its seed. -/
structure Cur where
  pos : Int
  seed : Int
abbrev J3x : Cur := ⟨0, 0⟩
def okC (c : Cur) (b : Int) : Prop := 0 ≤ c.pos ∧ c.pos ≤ b ∧ 0 ≤ c.seed ∧ c.seed ≤ 18446744073709551615
theorem J6i (g : Bool) (a b : Cur) : cond g a.pos b.pos = (cond g a b).pos := by cases g <;> rfl
theorem J5u (g : Bool) (a b : Cur) : cond g a.seed b.seed = (cond g a b).seed := by cases g <;> rfl
def nxB (code : List Nat) (c : Cur) : Int := if c.pos < (code.length : Int) then ((code.getD c.pos.toNat 0 : Nat) : Int) else 0
def Jk (code : List Nat) (c : Cur) : Cur := ⟨c.pos + 1, IntKind.u64.wrap (IntKind.u64.wrap (IntKind.u64.wrap (c.seed * 6364136223846793005) + nxB code c) + 462197)⟩
def JO (code : List Nat) (c : Cur) : Int := if c.pos + 1 ≤ (code.length : Int) then nxB code c else ((((Jk code c).seed / 2 ^ 40).toNat &&& 255 : Nat) : Int)
theorem J7h (n : Int) : 0 ≤ IntKind.u64.wrap n ∧ IntKind.u64.wrap n ≤ 18446744073709551615 := by
  have h : IntKind.u64.wrap n = n % 18446744073709551616 := rfl
  omega
theorem Jcm {code : List Nat} (hb : ∀ x9 ∈ code, x9 < 256) (c : Cur) (h0 : 0 ≤ c.pos) : 0 ≤ nxB code c ∧ nxB code c ≤ 255 := by
  unfold nxB
  split
  · have := hb _ (getD_mem (d := 0) (show c.pos.toNat < code.length by omega))
    omega
  omega
theorem Jcc (n : Nat) : n &&& 255 ≤ 255 := Nat.and_le_right
theorem J1P {code : List Nat} (hb : ∀ x9 ∈ code, x9 < 256) {c : Cur} (h0 : 0 ≤ c.pos) : 0 ≤ JO code c ∧ JO code c ≤ 255 := by
  unfold JO
  split
  · exact Jcm hb c h0
  have := Jcc ((Jk code c).seed / 2 ^ 40).toNat
  omega
theorem J0U {code : List Nat} {c : Cur} {b : Int} (h : okC c b) : okC (Jk code c) (b + 1) := by
  obtain ⟨h1, h2, _, _⟩ := h
  exact ⟨by show 0 ≤ c.pos + 1; omega, by show c.pos + 1 ≤ b + 1; omega, (J7h _).1, (J7h _).2⟩
theorem J6 {c : Cur} {b b' : Int} (h : okC c b) (hb : b ≤ b') : okC c b' := ⟨h.1, Int.le_trans h.2.1 hb, h.2.2⟩
def J8A (f : FuncId) (ds : List D) : Orc := .no
def J8X (u : Value) (code : List Nat) (c : Cur) : Ann := .two (.none) (.two (.none) (.two (.none) (.two (.none) (.two (.reg [(5, .wrap), (8, .wrap), (9, .wrap)]) (.none)))))
def J3o (u : Value) (code : List Nat) (c : Cur) : Prop :=
  (true = true) ∧ (((decide (c.pos < (code.length : Int))) = true → (true = true) ∧ ((0 : Int) ≤ c.pos) ∧ ((c.pos : Int) < code.length) ∧ (c.pos.toNat < code.length) ∧ (I6 ((code.getD c.pos.toNat 0 : Nat) : Int)) ∧ (I6 (c.pos + 1)) ∧ (0 ≤ ((code.getD c.pos.toNat 0 : Nat) : Int) ∧ ((code.getD c.pos.toNat 0 : Nat) : Int) ≤ 18446744073709551615) ∧ (true = true) ∧ (((decide ((c.pos + 1) ≤ (code.length : Int))) = true → (((.lit u (.sl (.bytes code)) : D) = .lit u (.sl (.bytes code))) ∧ ((c.pos + 1) = (Jk code c).pos) ∧ ((IntKind.u64.wrap ((IntKind.u64.wrap ((IntKind.u64.wrap (c.seed * 6364136223846793005)) + ((code.getD c.pos.toNat 0 : Nat) : Int))) + 462197)) = (Jk code c).seed) ∧ (((code.getD c.pos.toNat 0 : Nat) : Int) = (JO code c)))) ∧ ((decide ((c.pos + 1) ≤ (code.length : Int))) = false → ((0 : Int) ≤ (IntKind.u64.wrap ((IntKind.u64.wrap ((IntKind.u64.wrap (c.seed * 6364136223846793005)) + ((code.getD c.pos.toNat 0 : Nat) : Int))) + 462197)) ∧ ((IntKind.u64.wrap ((IntKind.u64.wrap ((IntKind.u64.wrap (c.seed * 6364136223846793005)) + ((code.getD c.pos.toNat 0 : Nat) : Int))) + 462197)) : Int) ≤ 18446744073709551615) ∧ ((0 : Int) ≤ 40) ∧ ((0 : Int) ≤ ((IntKind.u64.wrap ((IntKind.u64.wrap ((IntKind.u64.wrap (c.seed * 6364136223846793005)) + ((code.getD c.pos.toNat 0 : Nat) : Int))) + 462197)) / 2 ^ 40) ∧ (((IntKind.u64.wrap ((IntKind.u64.wrap ((IntKind.u64.wrap (c.seed * 6364136223846793005)) + ((code.getD c.pos.toNat 0 : Nat) : Int))) + 462197)) / 2 ^ 40) : Int) ≤ 18446744073709551615) ∧ ((0 : Int) ≤ 255 ∧ (255 : Int) ≤ 18446744073709551615) ∧ (I6 ((((IntKind.u64.wrap ((IntKind.u64.wrap ((IntKind.u64.wrap (c.seed * 6364136223846793005)) + ((code.getD c.pos.toNat 0 : Nat) : Int))) + 462197)) / 2 ^ 40).toNat &&& 255 : Nat) : Int)) ∧ (((.lit u (.sl (.bytes code)) : D) = .lit u (.sl (.bytes code))) ∧ ((c.pos + 1) = (Jk code c).pos) ∧ ((IntKind.u64.wrap ((IntKind.u64.wrap ((IntKind.u64.wrap (c.seed * 6364136223846793005)) + ((code.getD c.pos.toNat 0 : Nat) : Int))) + 462197)) = (Jk code c).seed) ∧ (((((IntKind.u64.wrap ((IntKind.u64.wrap ((IntKind.u64.wrap (c.seed * 6364136223846793005)) + ((code.getD c.pos.toNat 0 : Nat) : Int))) + 462197)) / 2 ^ 40).toNat &&& 255 : Nat) : Int) = (JO code c)))))) ∧ ((decide (c.pos < (code.length : Int))) = false → (I6 (c.pos + 1)) ∧ (0 ≤ (0 : Int) ∧ (0 : Int) ≤ 18446744073709551615) ∧ (true = true) ∧ (((decide ((c.pos + 1) ≤ (code.length : Int))) = true → (((.lit u (.sl (.bytes code)) : D) = .lit u (.sl (.bytes code))) ∧ ((c.pos + 1) = (Jk code c).pos) ∧ ((IntKind.u64.wrap ((IntKind.u64.wrap ((IntKind.u64.wrap (c.seed * 6364136223846793005)) + 0)) + 462197)) = (Jk code c).seed) ∧ ((0 : Int) = (JO code c)))) ∧ ((decide ((c.pos + 1) ≤ (code.length : Int))) = false → ((0 : Int) ≤ (IntKind.u64.wrap ((IntKind.u64.wrap ((IntKind.u64.wrap (c.seed * 6364136223846793005)) + 0)) + 462197)) ∧ ((IntKind.u64.wrap ((IntKind.u64.wrap ((IntKind.u64.wrap (c.seed * 6364136223846793005)) + 0)) + 462197)) : Int) ≤ 18446744073709551615) ∧ ((0 : Int) ≤ 40) ∧ ((0 : Int) ≤ ((IntKind.u64.wrap ((IntKind.u64.wrap ((IntKind.u64.wrap (c.seed * 6364136223846793005)) + 0)) + 462197)) / 2 ^ 40) ∧ (((IntKind.u64.wrap ((IntKind.u64.wrap ((IntKind.u64.wrap (c.seed * 6364136223846793005)) + 0)) + 462197)) / 2 ^ 40) : Int) ≤ 18446744073709551615) ∧ ((0 : Int) ≤ 255 ∧ (255 : Int) ≤ 18446744073709551615) ∧ (I6 ((((IntKind.u64.wrap ((IntKind.u64.wrap ((IntKind.u64.wrap (c.seed * 6364136223846793005)) + 0)) + 462197)) / 2 ^ 40).toNat &&& 255 : Nat) : Int)) ∧ (((.lit u (.sl (.bytes code)) : D) = .lit u (.sl (.bytes code))) ∧ ((c.pos + 1) = (Jk code c).pos) ∧ ((IntKind.u64.wrap ((IntKind.u64.wrap ((IntKind.u64.wrap (c.seed * 6364136223846793005)) + 0)) + 462197)) = (Jk code c).seed) ∧ (((((IntKind.u64.wrap ((IntKind.u64.wrap ((IntKind.u64.wrap (c.seed * 6364136223846793005)) + 0)) + 462197)) / 2 ^ 40).toNat &&& 255 : Nat) : Int) = (JO code c)))))))
theorem J7U (u : Value) (code : List Nat) (c : Cur) (hb : ∀ x9 ∈ code, x9 < 256) (hc : okC c 1000000000000)  : J3o u code c := by
  unfold J3o
  obtain ⟨c1, c2, c3, c4⟩ := hc
  have nb := Jcm hb c c1
  have w64 := J7h
  refine ⟨rfl, ?_, ?_⟩
  ·intro b1
   try simp only [nrmT] at b1
   refine ⟨rfl, ?_, ?_, ?_, ?_, ?_, ?_, rfl, ?_, ?_⟩
   ·omega
   ·omega
   ·omega
   ·have := hb _ (getD_mem (d := 0) (show c.pos.toNat < code.length by omega))
    omega
   ·omega
   ·have := hb _ (getD_mem (d := 0) (show c.pos.toNat < code.length by omega))
    omega
   ·intro b2
    try simp only [nrmT] at b2
    refine ⟨rfl, ?_, ?_, ?_⟩
    ·rfl
    ·have hs : (Jk code c).seed = IntKind.u64.wrap (IntKind.u64.wrap (IntKind.u64.wrap (c.seed * 6364136223846793005) + nxB code c) + 462197) := rfl
     first | rw [show nxB code c = ((code.getD c.pos.toNat 0 : Nat) : Int) from if_pos (by omega)] at hs | rw [show nxB code c = 0 from if_neg (by omega)] at hs
     first | exact hs.symm | (exfalso; omega)
    unfold JO nxB; rw [if_pos (by omega), if_pos (by omega)]
   intro b3
   try simp only [nrmT] at b3
   refine ⟨?_, ?_, ?_, ?_, ?_, rfl, ?_, ?_, ?_⟩
   ·have := hb _ (getD_mem (d := 0) (show c.pos.toNat < code.length by omega))
    omega
   ·omega
   ·have := hb _ (getD_mem (d := 0) (show c.pos.toNat < code.length by omega))
    omega
   ·omega
   ·have := hb _ (getD_mem (d := 0) (show c.pos.toNat < code.length by omega))
    omega
   ·omega
   ·have hs : (Jk code c).seed = IntKind.u64.wrap (IntKind.u64.wrap (IntKind.u64.wrap (c.seed * 6364136223846793005) + nxB code c) + 462197) := rfl
    first | rw [show nxB code c = ((code.getD c.pos.toNat 0 : Nat) : Int) from if_pos (by omega)] at hs | rw [show nxB code c = 0 from if_neg (by omega)] at hs
    first | exact hs.symm | (exfalso; omega)
   have hs : (Jk code c).seed = IntKind.u64.wrap (IntKind.u64.wrap (IntKind.u64.wrap (c.seed * 6364136223846793005) + nxB code c) + 462197) := rfl
   first | rw [show nxB code c = ((code.getD c.pos.toNat 0 : Nat) : Int) from if_pos (by omega)] at hs | rw [show nxB code c = 0 from if_neg (by omega)] at hs
   unfold JO
   rw [if_neg (by omega), hs]
  intro b4
  try simp only [nrmT] at b4
  refine ⟨?_, ?_, rfl, ?_, ?_⟩
  ·omega
  ·omega
  ·intro b5
   try simp only [nrmT] at b5
   refine ⟨rfl, ?_, ?_, ?_⟩
   ·omega
   ·have hs : (Jk code c).seed = IntKind.u64.wrap (IntKind.u64.wrap (IntKind.u64.wrap (c.seed * 6364136223846793005) + nxB code c) + 462197) := rfl
    first | rw [show nxB code c = ((code.getD c.pos.toNat 0 : Nat) : Int) from if_pos (by omega)] at hs | rw [show nxB code c = 0 from if_neg (by omega)] at hs
    first | exact hs.symm | (exfalso; omega)
   omega
  intro b6
  try simp only [nrmT] at b6
  refine ⟨?_, ?_, ?_, ?_, ?_, rfl, ?_, ?_, ?_⟩
  ·exact w64 _
  ·omega
  ·have := w64 (IntKind.u64.wrap (IntKind.u64.wrap (c.seed * 6364136223846793005) + 0) + 462197)
   generalize IntKind.u64.wrap (IntKind.u64.wrap (IntKind.u64.wrap (c.seed * 6364136223846793005) + 0) + 462197) = z at *
   omega
  ·omega
  ·have := Jcc ((IntKind.u64.wrap (IntKind.u64.wrap (IntKind.u64.wrap (c.seed * 6364136223846793005) + 0) + 462197)) / 2 ^ 40).toNat
   omega
  ·rfl
  ·have hs : (Jk code c).seed = IntKind.u64.wrap (IntKind.u64.wrap (IntKind.u64.wrap (c.seed * 6364136223846793005) + nxB code c) + 462197) := rfl
   first | rw [show nxB code c = ((code.getD c.pos.toNat 0 : Nat) : Int) from if_pos (by omega)] at hs | rw [show nxB code c = 0 from if_neg (by omega)] at hs
   first | exact hs.symm | (exfalso; omega)
  have hs : (Jk code c).seed = IntKind.u64.wrap (IntKind.u64.wrap (IntKind.u64.wrap (c.seed * 6364136223846793005) + nxB code c) + 462197) := rfl
  first | rw [show nxB code c = ((code.getD c.pos.toNat 0 : Nat) : Int) from if_pos (by omega)] at hs | rw [show nxB code c = 0 from if_neg (by omega)] at hs
  unfold JO
  rw [if_neg (by omega), hs]
theorem J4P (code : List Nat) (c : Cur) (hb : ∀ x9 ∈ code, x9 < 256) (hc : okC c 1000000000000) : PK Tryz.prog 213 76 (.sl (.bytes code)) [.int .i64 c.pos, .int .u64 c.seed] [.int .i64 (Jk code c).pos, .int .u64 (Jk code c).seed] [] (.one (.d (.int .i64 (JO code c)))) :=
  pk_by (Q := fun u => J3o u code c) (by kernel_rfl) Tryz.func213 @Tryz.call213 (by kernel_rfl) J8A (fun u => J8X u code c) (by kernel_rfl) (fun u => J7U u code c hb hc) (fun u => by kernel_rfl)
def J1 (code : List Nat) (c : Cur) (n : Int) : Cur := if n ≤ 1 then c else if n > 200 then Jk code (Jk code c) else Jk code c
def J3 (code : List Nat) (c : Cur) (n : Int) : Int := if n ≤ 1 then 0 else (if n > 200 then JO code c * 256 + JO code (Jk code c) else JO code c) % n
theorem Jh {code : List Nat} {c : Cur} {n b : Int} (h : okC c b) : okC (J1 code c n) (b + 2) := by
  unfold J1
  split
  · exact J6 h (by omega)
  split
  · have := J0U (code := code) (J0U (code := code) h)
    exact J6 this (by omega)
  · exact J6 (J0U h) (by omega)
theorem Jq (code : List Nat) (c : Cur) {n : Int} (hn : 1 ≤ n) : 0 ≤ J3 code c n ∧ J3 code c n < n := by
  unfold J3
  split
  · omega
  exact ⟨Int.emod_nonneg _ (by omega), Int.emod_lt_of_pos _ (by omega)⟩
def J8O (f : FuncId) (ds : List D) : Orc := .no
def J8S (u : Value) (code : List Nat) (c : Cur) (n : Int) : Ann := .two (.none) (.two (.none) (.two (.mark [] [(1, .cell [.int .i64 ((Jk code c).pos), .int .u64 ((Jk code c).seed)] (.one (.d (.int .i64 (JO code c)))))]) (.two (.two (.none) (.two (.mark [] [(3, .cell [.int .i64 ((Jk code (Jk code c)).pos), .int .u64 ((Jk code (Jk code c)).seed)] (.one (.d (.int .i64 (JO code (Jk code c))))))]) (.none))) (.none))))
def J3v (u : Value) (code : List Nat) (c : Cur) (n : Int) : Prop :=
  (((decide (n ≤ 1)) = true → (((.lit u (.sl (.bytes code)) : D) = .lit u (.sl (.bytes code))) ∧ (c.pos = (J1 code c n).pos) ∧ (c.seed = (J1 code c n).seed) ∧ ((0 : Int) = (J3 code c n)))) ∧ ((decide (n ≤ 1)) = false → (PK Tryz.prog 213 76 (.sl (.bytes code)) [.int .i64 c.pos, .int .u64 c.seed] [.int .i64 ((Jk code c).pos), .int .u64 ((Jk code c).seed)] [] (.one (.d (.int .i64 (JO code c))))) ∧ (((decide (n > 200)) = true → (I6 ((JO code c) * 256)) ∧ (PK Tryz.prog 213 76 (.sl (.bytes code)) [.int .i64 ((Jk code c).pos), .int .u64 ((Jk code c).seed)] [.int .i64 ((Jk code (Jk code c)).pos), .int .u64 ((Jk code (Jk code c)).seed)] [] (.one (.d (.int .i64 (JO code (Jk code c)))))) ∧ (I6 (((JO code c) * 256) + (JO code (Jk code c)))) ∧ ((0 : Int) ≤ (((JO code c) * 256) + (JO code (Jk code c)))) ∧ ((1 : Int) ≤ n) ∧ (((.lit u (.sl (.bytes code)) : D) = .lit u (.sl (.bytes code))) ∧ ((Jk code (Jk code c)).pos = (J1 code c n).pos) ∧ ((Jk code (Jk code c)).seed = (J1 code c n).seed) ∧ (((((JO code c) * 256) + (JO code (Jk code c))) % n) = (J3 code c n)))) ∧ ((decide (n > 200)) = false → ((0 : Int) ≤ (JO code c)) ∧ ((1 : Int) ≤ n) ∧ (((.lit u (.sl (.bytes code)) : D) = .lit u (.sl (.bytes code))) ∧ ((Jk code c).pos = (J1 code c n).pos) ∧ ((Jk code c).seed = (J1 code c n).seed) ∧ (((JO code c) % n) = (J3 code c n)))))))
theorem J8n (u : Value) (code : List Nat) (c : Cur) (n : Int) (hb : ∀ x9 ∈ code, x9 < 256) (hc : okC c 900000000000)  : J3v u code c n := by
  unfold J3v
  refine ⟨?_, ?_⟩
  ·intro b1
   try simp only [nrmT] at b1
   refine ⟨rfl, ?_, ?_, ?_⟩
   ·unfold J1; first | rw [if_pos (by omega)] | rw [if_neg (by omega), if_pos (by omega)] | rw [if_neg (by omega), if_neg (by omega)]
   ·unfold J1; first | rw [if_pos (by omega)] | rw [if_neg (by omega), if_pos (by omega)] | rw [if_neg (by omega), if_neg (by omega)]
   unfold J3; first | rw [if_pos (by omega)] | rw [if_neg (by omega), if_pos (by omega)] | rw [if_neg (by omega), if_neg (by omega)]
  intro b2
  try simp only [nrmT] at b2
  refine ⟨?_, ?_, ?_⟩
  ·refine J4P code c ?_ ?_
   ·exact hb
   ·exact J6 (by assumption) (by omega)
  ·intro b3
   try simp only [nrmT] at b3
   refine ⟨?_, ?_, ?_, ?_, ?_, rfl, ?_, ?_, ?_⟩
   ·have q0 := J1P hb (c := c) hc.1
    have q1 := J1P hb (c := Jk code c) (J0U hc).1
    omega
   ·refine J4P code (Jk code c) ?_ ?_
    ·exact hb
    ·exact J6 (J0U (by assumption)) (by omega)
   ·have q0 := J1P hb (c := c) hc.1
    have q1 := J1P hb (c := Jk code c) (J0U hc).1
    omega
   ·have q0 := J1P hb (c := c) hc.1
    have q1 := J1P hb (c := Jk code c) (J0U hc).1
    omega
   ·omega
   ·unfold J1; first | rw [if_pos (by omega)] | rw [if_neg (by omega), if_pos (by omega)] | rw [if_neg (by omega), if_neg (by omega)]
   ·unfold J1; first | rw [if_pos (by omega)] | rw [if_neg (by omega), if_pos (by omega)] | rw [if_neg (by omega), if_neg (by omega)]
   unfold J3; first | rw [if_pos (by omega)] | rw [if_neg (by omega), if_pos (by omega)] | rw [if_neg (by omega), if_neg (by omega)]
  intro b4
  try simp only [nrmT] at b4
  refine ⟨?_, ?_, rfl, ?_, ?_, ?_⟩
  ·have q0 := J1P hb (c := c) hc.1
   have q1 := J1P hb (c := Jk code c) (J0U hc).1
   omega
  ·omega
  ·unfold J1; first | rw [if_pos (by omega)] | rw [if_neg (by omega), if_pos (by omega)] | rw [if_neg (by omega), if_neg (by omega)]
  ·unfold J1; first | rw [if_pos (by omega)] | rw [if_neg (by omega), if_pos (by omega)] | rw [if_neg (by omega), if_neg (by omega)]
  unfold J3; first | rw [if_pos (by omega)] | rw [if_neg (by omega), if_pos (by omega)] | rw [if_neg (by omega), if_neg (by omega)]
theorem Jp (code : List Nat) (c : Cur) (n : Int) (hb : ∀ x9 ∈ code, x9 < 256) (hc : okC c 900000000000) : PK Tryz.prog 156 76 (.sl (.bytes code)) [.int .i64 c.pos, .int .u64 c.seed] [.int .i64 (J1 code c n).pos, .int .u64 (J1 code c n).seed] [.int .i64 n] (.one (.d (.int .i64 (J3 code c n)))) :=
  pk_by (Q := fun u => J3v u code c n) (by kernel_rfl) Tryz.func156 @Tryz.call156 (by kernel_rfl) J8O (fun u => J8S u code c n) (by kernel_rfl) (fun u => J8n u code c n hb hc) (fun u => by kernel_rfl)
def J7S (f : FuncId) (ds : List D) : Orc := .no
def J7O (u : Value) (code : List Nat) (c : Cur) (list : ZI) : Ann := .two (.none) (.two (.mark [] [(4, .cell [.int .i64 ((J1 code c (list.length : Int)).pos), .int .u64 ((J1 code c (list.length : Int)).seed)] (.one (.d (.int .i64 (J3 code c (list.length : Int))))))]) (.none))
def J2Y (u : Value) (code : List Nat) (c : Cur) (list : ZI) : Prop :=
  (PK Tryz.prog 156 76 (.sl (.bytes code)) [.int .i64 c.pos, .int .u64 c.seed] [.int .i64 ((J1 code c (list.length : Int)).pos), .int .u64 ((J1 code c (list.length : Int)).seed)] [.int .i64 (list.length : Int)] (.one (.d (.int .i64 (J3 code c (list.length : Int)))))) ∧ ((0 : Int) ≤ (J3 code c (list.length : Int))) ∧ (((J3 code c (list.length : Int)) : Int) < list.length) ∧ ((J3 code c (list.length : Int)).toNat < list.length) ∧ (((.lit u (.sl (.bytes code)) : D) = .lit u (.sl (.bytes code))) ∧ ((J1 code c (list.length : Int)).pos = (J1 code c (list.length : Int)).pos) ∧ ((J1 code c (list.length : Int)).seed = (J1 code c (list.length : Int)).seed) ∧ ((list.getD ((J3 code c (list.length : Int)).toNat) 0) = (list.getD (J3 code c (list.length : Int)).toNat 0)))
theorem J7p (u : Value) (code : List Nat) (c : Cur) (list : ZI) (hb : ∀ x9 ∈ code, x9 < 256) (hc : okC c 800000000000) (hl : 0 < list.length)  : J2Y u code c list := by
  unfold J2Y
  refine ⟨?_, ?_, ?_, ?_, rfl, rfl, rfl, ?_⟩
  ·refine Jp code c (list.length : Int) ?_ ?_
   ·exact hb
   ·exact J6 (by assumption) (by omega)
  ·have := Jq code c (n := (list.length : Int)) (by omega)
   omega
  ·have := Jq code c (n := (list.length : Int)) (by omega)
   omega
  ·have := Jq code c (n := (list.length : Int)) (by omega)
   omega
  have := Jq code c (n := (list.length : Int)) (by omega)
  omega
theorem JC (code : List Nat) (c : Cur) (list : ZI) (hb : ∀ x9 ∈ code, x9 < 256) (hc : okC c 800000000000) (hl : 0 < list.length) : PK Tryz.prog 155 76 (.sl (.bytes code)) [.int .i64 c.pos, .int .u64 c.seed] [.int .i64 (J1 code c (list.length : Int)).pos, .int .u64 (J1 code c (list.length : Int)).seed] [.sl (.ints list)] (.one (.d (.int .i64 (list.getD (J3 code c (list.length : Int)).toNat 0)))) :=
  pk_by (Q := fun u => J2Y u code c list) (by kernel_rfl) Tryz.func155 @Tryz.call155 (by kernel_rfl) J7S (fun u => J7O u code c list) (by kernel_rfl) (fun u => J7p u code c list hb hc hl) (fun u => by kernel_rfl)
def J9N (f : FuncId) (ds : List D) : Orc := .no
def J9y (u : Value) (code : List Nat) (c : Cur) (n : Int) : Ann := .two (.none) (.two (.mark [] [(2, .cell [.int .i64 ((J1 code c n).pos), .int .u64 ((J1 code c n).seed)] (.one (.d (.int .i64 (J3 code c n)))))]) (.none))
def J40 (u : Value) (code : List Nat) (c : Cur) (n : Int) : Prop :=
  (PK Tryz.prog 156 76 (.sl (.bytes code)) [.int .i64 c.pos, .int .u64 c.seed] [.int .i64 ((J1 code c n).pos), .int .u64 ((J1 code c n).seed)] [.int .i64 n] (.one (.d (.int .i64 (J3 code c n))))) ∧ (((.lit u (.sl (.bytes code)) : D) = .lit u (.sl (.bytes code))) ∧ ((J1 code c n).pos = (J1 code c n).pos) ∧ ((J1 code c n).seed = (J1 code c n).seed) ∧ (((J3 code c n) == 0) = (J3 code c n == 0)))
theorem J92 (u : Value) (code : List Nat) (c : Cur) (n : Int) (hb : ∀ x9 ∈ code, x9 < 256) (hc : okC c 800000000000)  : J40 u code c n := by
  unfold J40
  refine ⟨?_, rfl, rfl, rfl, ?_⟩
  ·refine Jp code c n ?_ ?_
   ·exact hb
   ·exact J6 (by assumption) (by omega)
  rfl
theorem J1W (code : List Nat) (c : Cur) (n : Int) (hb : ∀ x9 ∈ code, x9 < 256) (hc : okC c 800000000000) : PK Tryz.prog 124 76 (.sl (.bytes code)) [.int .i64 c.pos, .int .u64 c.seed] [.int .i64 (J1 code c n).pos, .int .u64 (J1 code c n).seed] [.int .i64 n] (.one (.d (.bool (J3 code c n == 0)))) :=
  pk_by (Q := fun u => J40 u code c n) (by kernel_rfl) Tryz.func124 @Tryz.call124 (by kernel_rfl) J9N (fun u => J9y u code c n) (by kernel_rfl) (fun u => J92 u code c n hb hc) (fun u => by kernel_rfl)
theorem J7k : okC J3x 0 := by unfold okC; decide
theorem JcU (l : ZI) (code : List Nat) (c : Cur) (h : 0 < l.length) : l.getD (J3 code c (l.length : Int)).toNat 0 ∈ l := by
  have := Jq code c (n := (l.length : Int)) (by omega)
  exact getD_mem (by omega)
def Jbx (code : List Nat) (c : Cur) (U : ZI) (E : ZR) : Bool := cond (J0 U E) (!(J3 code c 4 == 0)) false
def J6k (code : List Nat) (c : Cur) (U : ZI) (E : ZR) : Cur := cond (J0 U E) (J1 code c 4) c
def J1N (code : List Nat) (c : Cur) (U : ZI) (E : ZR) : Bool := Jbx code c U E && decide (0 < (JR E).length)
def J1z (code : List Nat) (c : Cur) (U : ZI) (E : ZR) : Cur := if J1N code c U E = true then J1 code (J6k code c U E) ((JR E).length : Int) else J1 code (J6k code c U E) 6
def J3q (code : List Nat) (c : Cur) (U : ZI) (E : ZR) : Int := if J1N code c U E = true then (JR E).getD (J3 code (J6k code c U E) ((JR E).length : Int)).toNat 0 else ([0, 3, 10, 99, 4611686018427387904, -1] : ZI).getD (J3 code (J6k code c U E) 6).toNat 0
theorem Jch {code : List Nat} {c : Cur} {U : ZI} {E : ZR} (h : Jbx code c U E = true) : J0 U E = true := by
  unfold Jbx at h
  cases hg : J0 U E with
  | true => rfl
  | false => rw [hg] at h; cases h
theorem Jbo {code : List Nat} {c : Cur} {U : ZI} {E : ZR} {b : Int} (h : okC c b) : okC (J6k code c U E) (b + 2) := by
  unfold J6k
  cases J0 U E
  · exact J6 h (by omega)
  exact Jh h
abbrev J1w (u : Value) (code : List Nat) (c : Cur) (U : ZI) (E : ZR) (gd : Bool) (c1 : Cur) : Prop := (gd = Jbx code c U E) ∧ (c1 = J6k code c U E)
abbrev J0c (u : Value) (code : List Nat) (c : Cur) (U : ZI) (E : ZR) (c5 : Cur) : Prop := (J1N code c U E = false) ∧ (c5 = J6k code c U E)
def J6Q (f : FuncId) (ds : List D) : Orc := bif Nat.beq f 112 then J39 ds else bif Nat.beq f 104 then J8e ds else .no
def J6s (u : Value) (code : List Nat) (c : Cur) (U : ZI) (E : ZR) : Ann := .two (.none) (.cut (.cut (.mark [] [(4, .cell [.int .i64 ((J1 code c 4).pos), .int .u64 ((J1 code c 4).seed)] (.one (.d (.bool (J3 code c 4 == 0)))))]) (cut2 (fun (gd : Bool) (c1 : Cur) => J1w u code c U E gd c1) (fun (gd : Bool) (c1 : Cur) => [(0, .ptr 0 0), (3, .ptr 3 0), (12, .d true (.bool gd))]) (fun (gd : Bool) (c1 : Cur) => [(0, .box 76 [.d false (.lit u (.sl (.bytes code))), .d true (.int .i64 c1.pos), .d true (.int .u64 c1.seed)]), (3, .box 27 [.d false (.sl (.ints U)), .d false (.sl (.rows E))])])) (fun g => (fun (gd : Bool) (c1 : Cur) => .two (.two (.none) (.two (.none) (.two (.two (.mark [] [(4, .cell [.int .i64 ((J1 code c1 (((JR E).length) : Int)).pos), .int .u64 ((J1 code c1 (((JR E).length) : Int)).seed)] (.one (.d (.int .i64 (J3 code c1 (((JR E).length) : Int))))))]) (.none)) (.none)))) (.none)) (g.1) (g.2))) (cut1 (fun (c5 : Cur) => J0c u code c U E c5) (fun (c5 : Cur) => [(0, .ptr 0 0)]) (fun (c5 : Cur) => [(0, .box 76 [.d false (.lit u (.sl (.bytes code))), .d true (.int .i64 c5.pos), .d true (.int .u64 c5.seed)])])) (fun g => (fun (c5 : Cur) => .two (.mark [] [(2, .cell [.int .i64 ((J1 code c5 (([0, 3, 10, 99, 4611686018427387904, (-1)]).length : Int)).pos), .int .u64 ((J1 code c5 (([0, 3, 10, 99, 4611686018427387904, (-1)]).length : Int)).seed)] (.one (.d (.int .i64 (([0, 3, 10, 99, 4611686018427387904, (-1)]).getD (J3 code c5 (([0, 3, 10, 99, 4611686018427387904, (-1)]).length : Int)).toNat 0)))))]) (.none)) g))
def J2l (u : Value) (code : List Nat) (c : Cur) (U : ZI) (E : ZR) : Prop :=
  ((((PC Tryz.prog 112 [.agg [.sl (.ints U), .sl (.rows E)]] (.one (.d (.bool (J0 U E))))) ∧ ((J0 U E) = true → (J0 U E) = true) ∧ ((J0 U E) = true → PK Tryz.prog 124 76 (.sl (.bytes code)) [.int .i64 c.pos, .int .u64 c.seed] [.int .i64 ((J1 code c 4).pos), .int .u64 ((J1 code c 4).seed)] [.int .i64 4] (.one (.d (.bool (J3 code c 4 == 0))))) ∧ ((J0 U E) = true → (J0 U E) = true) ∧ (true = true) ∧ (((J0 U E) = true → (J0 U E) = true)) ∧ (((J0 U E) = false → true = true)) ∧ (∃ gd' : Bool, ∃ c1' : Cur, (J1w u code c U E gd' c1') ∧ ((cond (J0 U E) (!(J3 code c 4 == 0)) false) = gd') ∧ ((.lit u (.sl (.bytes code)) : D) = .lit u (.sl (.bytes code))) ∧ ((cond (J0 U E) ((J1 code c 4).pos) c.pos) = c1'.pos) ∧ ((cond (J0 U E) ((J1 code c 4).seed) c.seed) = c1'.seed) ∧ (U = U) ∧ (E = E))) ∧ (∀ gd : Bool, ∀ c1 : Cur, (J1w u code c U E gd c1) → ((gd = true → (PC Tryz.prog 104 [.agg [.sl (.ints U), .sl (.rows E)]] (.one (.d (.sl (.ints (JR E)))))) ∧ (((decide ((((JR E).length) : Int) > 0)) = true → (PK Tryz.prog 156 76 (.sl (.bytes code)) [.int .i64 c1.pos, .int .u64 c1.seed] [.int .i64 ((J1 code c1 (((JR E).length) : Int)).pos), .int .u64 ((J1 code c1 (((JR E).length) : Int)).seed)] [.int .i64 (((JR E).length) : Int)] (.one (.d (.int .i64 (J3 code c1 (((JR E).length) : Int)))))) ∧ ((0 : Int) ≤ (J3 code c1 (((JR E).length) : Int))) ∧ (((J3 code c1 (((JR E).length) : Int)) : Int) < (JR E).length) ∧ ((J3 code c1 (((JR E).length) : Int)).toNat < (JR E).length) ∧ (((.lit u (.sl (.bytes code)) : D) = .lit u (.sl (.bytes code))) ∧ ((J1 code c1 (((JR E).length) : Int)).pos = (J1z code c U E).pos) ∧ ((J1 code c1 (((JR E).length) : Int)).seed = (J1z code c U E).seed) ∧ (((JR E).getD ((J3 code c1 (((JR E).length) : Int)).toNat) 0) = (J3q code c U E)))) ∧ ((decide ((((JR E).length) : Int) > 0)) = false → (∃ c5' : Cur, (J0c u code c U E c5') ∧ ((.lit u (.sl (.bytes code)) : D) = .lit u (.sl (.bytes code))) ∧ (c1.pos = c5'.pos) ∧ (c1.seed = c5'.seed))))) ∧ (gd = false → (∃ c5' : Cur, (J0c u code c U E c5') ∧ ((.lit u (.sl (.bytes code)) : D) = .lit u (.sl (.bytes code))) ∧ (c1.pos = c5'.pos) ∧ (c1.seed = c5'.seed)))))) ∧ (∀ c5 : Cur, (J0c u code c U E c5) → ((6 : Nat) = 6) ∧ (PK Tryz.prog 155 76 (.sl (.bytes code)) [.int .i64 c5.pos, .int .u64 c5.seed] [.int .i64 ((J1 code c5 (([0, 3, 10, 99, 4611686018427387904, (-1)]).length : Int)).pos), .int .u64 ((J1 code c5 (([0, 3, 10, 99, 4611686018427387904, (-1)]).length : Int)).seed)] [.sl (.ints ([0, 3, 10, 99, 4611686018427387904, (-1)]))] (.one (.d (.int .i64 (([0, 3, 10, 99, 4611686018427387904, (-1)]).getD (J3 code c5 (([0, 3, 10, 99, 4611686018427387904, (-1)]).length : Int)).toNat 0))))) ∧ (((.lit u (.sl (.bytes code)) : D) = .lit u (.sl (.bytes code))) ∧ ((J1 code c5 (([0, 3, 10, 99, 4611686018427387904, (-1)]).length : Int)).pos = (J1z code c U E).pos) ∧ ((J1 code c5 (([0, 3, 10, 99, 4611686018427387904, (-1)]).length : Int)).seed = (J1z code c U E).seed) ∧ ((([0, 3, 10, 99, 4611686018427387904, (-1)]).getD (J3 code c5 (([0, 3, 10, 99, 4611686018427387904, (-1)]).length : Int)).toNat 0) = (J3q code c U E)))))
theorem J5W (u : Value) (code : List Nat) (c : Cur) (U : ZI) (E : ZR) (hb : ∀ x9 ∈ code, x9 < 256) (hc : okC c 10000000)  : J2l u code c U E := by
  unfold J2l
  refine ⟨?_, ?_⟩
  ·refine ⟨?_, ?_⟩
   ·refine ⟨J3I U E, id, ?_, id, rfl, id, fun _ => rfl, ?_⟩
    ·intro hg
     refine J1W code c 4 ?_ ?_
     ·exact hb
     exact J6 hc (by omega)
    ·refine ⟨(cond (J0 U E) (!(J3 code c 4 == 0)) false), (cond (J0 U E) (J1 code c 4) c), ?_⟩
     refine ⟨?_, rfl, rfl, J6i _ _ _, J5u _ _ _, rfl, rfl⟩
     ·refine ⟨?_, ?_⟩
      ·rfl
      ·rfl
   ·intro gd c1 hJ
    obtain ⟨g1, g2⟩ := hJ
    refine ⟨?_, ?_⟩
    ·intro b1
     try simp only [nrmT] at b1
     refine ⟨?_, ?_, ?_⟩
     ·refine J8W U E ?_
      ·exact Jch (by rw [← g1]; assumption)
     ·intro b2
      try simp only [nrmT] at b2
      refine ⟨?_, ?_, ?_, ?_, rfl, ?_, ?_, ?_⟩
      ·refine Jp code c1 (((JR E).length) : Int) ?_ ?_
       ·exact hb
       ·rw [g2]
        exact J6 (Jbo hc) (by omega)
      ·have hh : J1N code c U E = true := by
         unfold J1N
         rw [← g1, b1]
         exact decide_eq_true (by omega)
       have gp := Jq code c1 (n := ((JR E).length : Int)) (by omega)
       omega
      ·have hh : J1N code c U E = true := by
         unfold J1N
         rw [← g1, b1]
         exact decide_eq_true (by omega)
       have gp := Jq code c1 (n := ((JR E).length : Int)) (by omega)
       omega
      ·have hh : J1N code c U E = true := by
         unfold J1N
         rw [← g1, b1]
         exact decide_eq_true (by omega)
       have gp := Jq code c1 (n := ((JR E).length : Int)) (by omega)
       omega
      ·have hh : J1N code c U E = true := by
         unfold J1N
         rw [← g1, b1]
         exact decide_eq_true (by omega)
       have gp := Jq code c1 (n := ((JR E).length : Int)) (by omega)
       unfold J1z; rw [if_pos hh, g2]
      ·have hh : J1N code c U E = true := by
         unfold J1N
         rw [← g1, b1]
         exact decide_eq_true (by omega)
       have gp := Jq code c1 (n := ((JR E).length : Int)) (by omega)
       unfold J1z; rw [if_pos hh, g2]
      have hh : J1N code c U E = true := by
        unfold J1N
        rw [← g1, b1]
        exact decide_eq_true (by omega)
      have gp := Jq code c1 (n := ((JR E).length : Int)) (by omega)
      unfold J3q; rw [if_pos hh, g2]
     intro b3
     try simp only [nrmT] at b3
     refine ⟨c1, ?_⟩
     refine ⟨?_, rfl, rfl, rfl⟩
     ·refine ⟨?_, ?_⟩
      ·unfold J1N
       rw [← g1]
       (rw [b1, Bool.true_and]; exact decide_eq_false (by omega))
      ·exact g2
    intro b4
    try simp only [nrmT] at b4
    refine ⟨c1, ?_⟩
    refine ⟨?_, rfl, rfl, rfl⟩
    ·refine ⟨?_, ?_⟩
     ·unfold J1N
      rw [← g1]
      (rw [show gd = false by assumption]; rfl)
     ·exact g2
  intro c5 hJ
  obtain ⟨e1, e2⟩ := hJ
  refine ⟨rfl, ?_, rfl, ?_, ?_, ?_⟩
  ·refine JC code c5 ([0, 3, 10, 99, 4611686018427387904, (-1)]) ?_ ?_ ?_
   ·exact hb
   ·rw [e2]
    exact J6 (Jbo hc) (by omega)
   ·(simp_all; done)
  ·unfold J1z; rw [if_neg (by rw [e1]; decide), e2]; rfl
  ·unfold J1z; rw [if_neg (by rw [e1]; decide), e2]; rfl
  unfold J3q; rw [if_neg (by rw [e1]; decide), e2]; rfl
theorem J3R (code : List Nat) (c : Cur) (U : ZI) (E : ZR) (hb : ∀ x9 ∈ code, x9 < 256) (hc : okC c 10000000) : PK Tryz.prog 147 76 (.sl (.bytes code)) [.int .i64 c.pos, .int .u64 c.seed] [.int .i64 (J1z code c U E).pos, .int .u64 (J1z code c U E).seed] [.agg [.sl (.ints U), .sl (.rows E)]] (.one (.d (.int .i64 (J3q code c U E)))) :=
  pk_by (Q := fun u => J2l u code c U E) (by kernel_rfl) Tryz.func147 @Tryz.call147 (by kernel_rfl) J6Q (fun u => J6s u code c U E) (by kernel_rfl) (fun u => J5W u code c U E hb hc) (fun u => by kernel_rfl)
theorem Jdv {E : ZR} {set : ZI} {r : Int} (hr : 0 ≤ r) : J7 E set ≤ r ↔ ∀ j, j < E.length → JB E set j ≤ r := by
  obtain ⟨h1, h2, h3⟩ := J3n E set E.length
  unfold J7
  constructor
  · intro h j hj; have := h2 j hj; omega
  intro h
  rcases h3 with h3 | ⟨j, hj, h3⟩
  · omega
  rw [h3]; exact h j hj
theorem JaK (n : Nat) : (J5 n).Pairwise fun a b => ¬ Jv b a < 0 := by
  have h := List.pairwise_mergeSort (le := fun x9 y9 => !(ltOf Jv) y9 x9) (fun a b c h1 h2 => ?_) (fun a b => ?_) (J3c n (2 ^ n - 1))
  · refine h.imp fun {a b} hab => ?_
    intro hlt
    have : ltOf Jv b a = true := decide_eq_true hlt
    rw [this] at hab
    cases hab
  · rw [Bool.not_eq_true'] at *
    exact Jbw.ntrans _ _ _ h2 h1
  cases h1 : ltOf Jv b a with
  | false => rfl
  | true =>
    have h2 : Jv b a < 0 := of_decide_eq_true h1
    have h3 := J4H.1 h2
    have : ltOf Jv a b = false := decide_eq_false (by omega)
    rw [this]; rfl
theorem Jbe {n i j : Nat} (hij : i ≤ j) (hj : j < (J5 n).length) : ((J5 n).getD i []).length ≤ ((J5 n).getD j []).length := by
  by_cases e : i = j
  · subst e; exact Nat.le_refl _
  have h := List.pairwise_iff_getElem.1 (JaK n) i j (by omega) hj (by omega)
  rw [Js hj, Js (by omega)]
  rcases J03 (J5 n)[j] (J5 n)[i] with h1 | h1 | h1 <;> omega
theorem J9c {α : Type} {p : α → Bool} {xs : List α} {d : α} (h0 : 0 ≤ idxI p xs) {i : Nat} (hi : i < xs.length) (hp : p (xs.getD i d) = true) : idxI p xs ≤ (i : Int) ∧ p (xs.getD (idxI p xs).toNat d) = true := by
  unfold idxI at h0 ⊢
  cases hf : xs.findIdx? p with
  | none => rw [hf] at h0; simp at h0
  | some k =>
    obtain ⟨hk, h1, h2⟩ := List.findIdx?_eq_some_iff_getElem.1 hf
    show (k : Int) ≤ (i : Int) ∧ p (xs.getD (k : Int).toNat d) = true
    rw [Int.toNat_natCast, Js hk]
    refine ⟨?_, h1⟩
    by_cases e : k ≤ i
    · omega
    rw [Js hi] at hp
    have := h2 i (by omega)
    rw [hp] at this
    simp at this
def JcP (f : FuncId) (ds : List D) : Orc := .no
def JcX (code : List Nat) : Ann := .none
def Ja5 (code : List Nat) : Prop :=
  (((decide ((code.length : Int) > 65536)) = (decide ((code.length : Int) > 65536))))
theorem Jcn (code : List Nat)  (w_code : (code.length : Int) ≤ 9223372036854775807) : Ja5 code := by
  unfold Ja5
  exact rfl
theorem JcO (code : List Nat)  : PC Tryz.prog 9 [.sl (.bytes code)] (.one (.d (.bool (decide ((code.length : Int) > 65536))))) :=
  pc_wf @Tryz.call9 fun hw => pc_by (by kernel_rfl) Tryz.func9 @Tryz.call9 (by kernel_rfl) JcP (JcX code) (by kernel_rfl) (Jcn code hw.1) (by kernel_rfl)
def JbQ : List D → Orc := orcN [some .bytes] fun ds => match ds with
  | [.sl (.bytes code)] => some (.one (.d (.bool (decide ((code.length : Int) > 65536)))))
  | _ => none
abbrev J3E (xs : ZI) (ys : ZI) (i : Int) : Prop := (0 ≤ i) ∧ (i ≤ (xs.length : Int)) ∧ (allTo (fun k => xs.getD k 0 == ys.getD k 0) i.toNat = true) ∧ (xs.length = ys.length)
abbrev J3B (xs : ZI) (ys : ZI) (i : Int) : Nat := (xs.length - i).toNat
def Jct (f : FuncId) (ds : List D) : Orc := .no
def Jcf (xs : ZI) (ys : ZI) : Ann := .two (.none) (.two (.none) (.two (.two (.none) (.loop (cut1 (fun (i : Int) => J3E xs ys i) (fun (i : Int) => [(0, .d false (.sl (.ints xs))), (1, .d false (.sl (.ints ys))), (5, .d true (.int .i64 i))]) (fun (i : Int) => [])) (fun g => J3B xs ys g) (fun _ => .none))) (.none)))
def J9b (xs : ZI) (ys : ZI) : Prop :=
  ((((xs.length : Int) != (ys.length : Int)) = true → ((false = (xs == ys)))) ∧ (((xs.length : Int) != (ys.length : Int)) = false → ((∃ i' : Int, (J3E xs ys i') ∧ (xs = xs) ∧ (ys = ys) ∧ ((0 : Int) = i')) ∧ (∀ i : Int, (J3E xs ys i) → (((decide (i < (xs.length : Int))) = true → (true = true) ∧ ((0 : Int) ≤ i) ∧ ((i : Int) < xs.length) ∧ (i.toNat < xs.length) ∧ ((0 : Int) ≤ i) ∧ ((i : Int) < ys.length) ∧ (i.toNat < ys.length) ∧ ((((xs.getD i.toNat 0) != (ys.getD i.toNat 0)) = true → ((false = (xs == ys)))) ∧ (((xs.getD i.toNat 0) != (ys.getD i.toNat 0)) = false → (I6 (i + 1)) ∧ (∃ i' : Int, (J3E xs ys i') ∧ (J3B xs ys i' < J3B xs ys i) ∧ (xs = xs) ∧ (ys = ys) ∧ ((i + 1) = i'))))) ∧ ((decide (i < (xs.length : Int))) = false → ((true = (xs == ys)))))))))
theorem JbT (xs : ZI) (ys : ZI)  (w_xs : (xs.length : Int) ≤ 9223372036854775807) (w_ys : (ys.length : Int) ≤ 9223372036854775807) : J9b xs ys := by
  unfold J9b
  refine ⟨?_, ?_⟩
  ·intro b1
   try simp only [nrmT] at b1
   exact (Jdt (by omega)).symm
  intro b2
  try simp only [nrmT] at b2
  refine ⟨?_, ?_⟩
  ·refine ⟨0, ?_⟩
   refine ⟨?_, rfl, rfl, rfl⟩
   ·refine ⟨?_, ?_, ?_, ?_⟩
    ·omega
    ·omega
    ·rfl
    ·omega
  intro i hJ
  obtain ⟨h1, h2, h3, h4⟩ := hJ
  refine ⟨?_, ?_⟩
  ·intro b3
   try simp only [nrmT] at b3
   refine ⟨rfl, ?_, ?_, ?_, ?_, ?_, ?_, ?_, ?_⟩
   ·omega
   ·omega
   ·omega
   ·omega
   ·omega
   ·omega
   ·intro b4
    try simp only [nrmT] at b4
    rw [← J87 (d := 0) h4]; exact (allTo_falseI h1 (by omega) (by simpa using b4)).symm
   intro b5
   try simp only [nrmT] at b5
   refine ⟨?_, ?_⟩
   ·omega
   refine ⟨(i + 1), ?_⟩
   refine ⟨?_, ?_, rfl, rfl, rfl⟩
   ·refine ⟨?_, ?_, ?_, ?_⟩
    ·omega
    ·omega
    ·exact allTo_step h1 h3 (by simpa using b5)
    ·omega
   (simp only [J3B]; omega)
  intro b6
  try simp only [nrmT] at b6
  rw [← J87 (d := 0) h4, ← h3]; congr 1; omega
theorem J4l (xs : ZI) (ys : ZI)  : PC Tryz.prog 23 [.sl (.ints xs), .sl (.ints ys)] (.one (.d (.bool (xs == ys)))) :=
  pc_wf @Tryz.call23 fun hw => pc_by (by kernel_rfl) Tryz.func23 @Tryz.call23 (by kernel_rfl) Jct (Jcf xs ys) (by kernel_rfl) (JbT xs ys hw.1 hw.2.1) (by kernel_rfl)
def Jb7 : List D → Orc := orcN [some .ints, some .ints] fun ds => match ds with
  | [.sl (.ints xs), .sl (.ints ys)] => some (.one (.d (.bool (xs == ys))))
  | _ => none
def JaV (f : FuncId) (ds : List D) : Orc := bif Nat.beq f 113 then J3u ds else bif Nat.beq f 96 then J15 ds else .no
def Jb9 (U : ZI) (E : ZR) (set : ZI) : Ann := .none
def J7c (U : ZI) (E : ZR) (set : ZI) : Prop :=
  (PC Tryz.prog 113 [.agg [.sl (.ints U), .sl (.rows E)], .sl (.ints set)] (.one (.d (.bool (J0 U E && J2 set 0 ((U.length : Int) - 1) && decide (0 < set.length)))))) ∧ (((!(J0 U E && J2 set 0 ((U.length : Int) - 1) && decide (0 < set.length))) = true → (((0 : Int) = (if (J0 U E && J2 set 0 ((U.length : Int) - 1) && decide (0 < set.length)) = true then J7 E set else 0)) ∧ (false = (J0 U E && J2 set 0 ((U.length : Int) - 1) && decide (0 < set.length))))) ∧ ((!(J0 U E && J2 set 0 ((U.length : Int) - 1) && decide (0 < set.length))) = false → (PC Tryz.prog 96 [.agg [.sl (.ints U), .sl (.rows E)], .sl (.ints set)] (.one (.d (.int .i64 (J7 E set))))) ∧ (((J7 E set) = (if (J0 U E && J2 set 0 ((U.length : Int) - 1) && decide (0 < set.length)) = true then J7 E set else 0)) ∧ (true = (J0 U E && J2 set 0 ((U.length : Int) - 1) && decide (0 < set.length))))))
theorem JaB (U : ZI) (E : ZR) (set : ZI)  (w_Open : (U.length : Int) ≤ 9223372036854775807) (w_Dist : (E.length : Int) ≤ 9223372036854775807) (v_Dist : ∀ x9 ∈ E, (x9.length : Int) ≤ 9223372036854775807) (w_set : (set.length : Int) ≤ 9223372036854775807) : J7c U E set := by
  unfold J7c
  refine ⟨J3Z U E set, ?_, ?_⟩
  ·intro b1
   try simp only [Bool.not_eq_true', Bool.not_eq_false', Bool.not_not] at b1
   refine ⟨?_, ?_⟩
   ·have hq : (J0 U E && J2 set 0 ((U.length : Int) - 1) && decide (0 < set.length)) = false := by simpa only [Bool.not_eq_true', Bool.not_eq_false', Bool.not_not] using b1
    rw [hq]; rfl
   (simp_all <;> omega)
  intro b2
  try simp only [Bool.not_eq_true', Bool.not_eq_false', Bool.not_not] at b2
  refine ⟨?_, ?_, ?_⟩
  ·refine J0B U E set ?_
   ·omega
  ·have hq : (J0 U E && J2 set 0 ((U.length : Int) - 1) && decide (0 < set.length)) = true := by simpa only [Bool.not_eq_true', Bool.not_eq_false', Bool.not_not] using b2
   rw [if_pos hq]
  (simp_all; done)
theorem J62 (U : ZI) (E : ZR) (set : ZI)  : PC Tryz.prog 24 [.agg [.sl (.ints U), .sl (.rows E)], .sl (.ints set)] (.tup [.d (.int .i64 (if (J0 U E && J2 set 0 ((U.length : Int) - 1) && decide (0 < set.length)) = true then J7 E set else 0)), .d (.bool (J0 U E && J2 set 0 ((U.length : Int) - 1) && decide (0 < set.length)))]) :=
  pc_wf @Tryz.call24 fun hw => pc_by (by kernel_rfl) Tryz.func24 @Tryz.call24 (by kernel_rfl) JaV (Jb9 U E set) (by kernel_rfl) (JaB U E set hw.1.1 hw.1.2.1.1 hw.1.2.1.2 hw.2.1) (by kernel_rfl)
def J9z : List D → Orc := orcN [none, some .ints] fun ds => match ds with
  | [.agg [.sl (.ints U), .sl (.rows E)], .sl (.ints set)] => some (.tup [.d (.int .i64 (if (J0 U E && J2 set 0 ((U.length : Int) - 1) && decide (0 < set.length)) = true then J7 E set else 0)), .d (.bool (J0 U E && J2 set 0 ((U.length : Int) - 1) && decide (0 < set.length)))])
  | _ => none
abbrev J0A (n : Int) (code : Int) (out : ZI) (x : Int) : Prop := (0 ≤ x) ∧ (x ≤ n) ∧ (out = members (fun k => code.toNat.testBit k) x.toNat)
abbrev JX (n : Int) (code : Int) (out : ZI) (x : Int) : Nat := (n - x).toNat
def J8z (f : FuncId) (ds : List D) : Orc := .no
def J91 (n : Int) (code : Int) : Ann := .two (.none) (.two (.none) (.two (.two (.none) (.loop (cut2 (fun (out : ZI) (x : Int) => J0A n code out x) (fun (out : ZI) (x : Int) => [(0, .d false (.int .i64 n)), (1, .d false (.int .i64 code)), (5, .own 1000000 out.length), (6, .d true (.int .i64 x))]) (fun (out : ZI) (x : Int) => [(1000000, .arr true 3 (.ints out))])) (fun g => JX n code g.1 g.2) (fun _ => .none))) (.none)))
def J5f (n : Int) (code : Int) : Prop :=
  ((∃ out' : ZI, ∃ x' : Int, (J0A n code out' x') ∧ (n = n) ∧ (code = code) ∧ ((0 : Nat) = out'.length) ∧ ((0 : Int) = x') ∧ ([] = out')) ∧ (∀ out : ZI, ∀ x : Int, (J0A n code out x) → (((decide (x < n)) = true → ((0 : Int) ≤ code ∧ (code : Int) ≤ 9223372036854775807) ∧ ((0 : Int) ≤ x) ∧ ((0 : Int) ≤ (code / 2 ^ x.toNat) ∧ ((code / 2 ^ x.toNat) : Int) ≤ 9223372036854775807) ∧ ((0 : Int) ≤ 1 ∧ (1 : Int) ≤ 9223372036854775807) ∧ ((((((code / 2 ^ x.toNat).toNat &&& 1 : Nat) : Int) == 1) = true → (out.length = out.length) ∧ ((1 : Nat) = 1) ∧ ((out.length + 1) * 8 ≤ 140737488355328) ∧ (I6 (x + 1)) ∧ (∃ out' : ZI, ∃ x' : Int, (J0A n code out' x') ∧ (JX n code out' x' < JX n code out x) ∧ (n = n) ∧ (code = code) ∧ ((out.length + 1) = out'.length) ∧ ((x + 1) = x') ∧ ((out ++ [x]) = out'))) ∧ (((((code / 2 ^ x.toNat).toNat &&& 1 : Nat) : Int) == 1) = false → (I6 (x + 1)) ∧ (∃ out' : ZI, ∃ x' : Int, (J0A n code out' x') ∧ (JX n code out' x' < JX n code out x) ∧ (n = n) ∧ (code = code) ∧ (out.length = out'.length) ∧ ((x + 1) = x') ∧ (out = out'))))) ∧ ((decide (x < n)) = false → ((out.length = out.length) ∧ ((out : ZI) = members (fun k => code.toNat.testBit k) n.toNat))))))
theorem J7W (n : Int) (code : Int) (hn : 0 ≤ n ∧ n ≤ 62) (hc : 0 ≤ code ∧ code ≤ 4611686018427387903)  : J5f n code := by
  unfold J5f
  refine ⟨?_, ?_⟩
  ·refine ⟨([]), 0, ?_⟩
   refine ⟨?_, rfl, rfl, rfl, rfl, ?_⟩
   ·refine ⟨?_, ?_, ?_⟩
    ·omega
    ·omega
    ·rfl
   rfl
  intro out x hJ
  obtain ⟨h1, h2, h3⟩ := hJ
  refine ⟨?_, ?_⟩
  ·intro b1
   try simp only [nrmT] at b1
   refine ⟨?_, ?_, ?_, ?_, ?_, ?_⟩
   ·omega
   ·omega
   ·have h5 : 0 ≤ code / 2 ^ x.toNat := Int.ediv_nonneg hc.1 (Int.le_of_lt (Int.pow_pos (by omega)))
    have h6 : code / 2 ^ x.toNat ≤ code := Int.ediv_le_self _ hc.1
    omega
   ·omega
   ·intro b2
    try simp only [nrmT] at b2
    refine ⟨rfl, rfl, ?_, ?_, ?_⟩
    ·rw [h3]; have := members_len_le (fun k => code.toNat.testBit k) x.toNat; omega
    ·omega
    refine ⟨(out ++ [x]), (x + 1), ?_⟩
    refine ⟨?_, ?_, rfl, rfl, ?_, rfl, rfl⟩
    ·refine ⟨?_, ?_, ?_⟩
     ·omega
     ·omega
     ·have hb := shr_bit (n := code.toNat) (k := x.toNat)
      rw [show ((code.toNat : Nat) : Int) = code by omega] at hb
      have ht : code.toNat.testBit x.toNat = true := by
        cases h : code.toNat.testBit x.toNat with
        | true => rfl
        | false => rw [h] at hb; simp at hb; simp at b2; omega
      rw [h3, show (x + 1).toNat = x.toNat + 1 by omega, members_succ, if_pos ht, show ((x.toNat : Nat) : Int) = x by omega]
    ·(simp only [JX]; omega)
    simp
   intro b3
   try simp only [nrmT] at b3
   refine ⟨?_, ?_⟩
   ·omega
   refine ⟨out, (x + 1), ?_⟩
   refine ⟨?_, ?_, rfl, rfl, rfl, rfl, rfl⟩
   ·refine ⟨?_, ?_, ?_⟩
    ·omega
    ·omega
    ·have hb := shr_bit (n := code.toNat) (k := x.toNat)
     rw [show ((code.toNat : Nat) : Int) = code by omega] at hb
     have ht : code.toNat.testBit x.toNat = false := by
       cases h : code.toNat.testBit x.toNat with
       | false => rfl
       | true => rw [h] at hb; simp at hb; simp at b3; omega
     rw [h3, show (x + 1).toNat = x.toNat + 1 by omega, members_succ, ht]; simp
   (simp only [JX]; omega)
  intro b4
  try simp only [nrmT] at b4
  refine ⟨rfl, ?_⟩
  ·rw [h3, show x.toNat = n.toNat by omega]
theorem J8d (n : Int) (code : Int) (hn : 0 ≤ n ∧ n ≤ 62) (hc : 0 ≤ code ∧ code ≤ 4611686018427387903) : PC Tryz.prog 142 [.int .i64 n, .int .i64 code] (.one (.own 3 (.ints (members (fun k => code.toNat.testBit k) n.toNat)))) :=
  pc_wf @Tryz.call142 fun _ => pc_by (by kernel_rfl) Tryz.func142 @Tryz.call142 (by kernel_rfl) J8z (J91 n code) (by kernel_rfl) (J7W n code hn hc) (by kernel_rfl)
theorem J6q {g : Bool} {a b : Cur} {x y : Int} (ha : okC a x) (hb : okC b y) : okC (cond g a b) (max x y) := by
  cases g
  · exact J6 hb (by omega)
  exact J6 ha (by omega)
theorem J8Q {p : Int → Prop} (l : ZI) (code : List Nat) (c : Cur) (h0 : 0 < l.length) (h : ∀ x ∈ l, p x) : p (l.getD (J3 code c (l.length : Int)).toNat 0) := h _ (JcU l code c h0)
theorem JbP {n : Nat} {s : ZI} (h : J2 s 0 ((n : Int) - 1) = true) : s ∈ chs n := by
  have ha := JbL h
  have hr := JbM h
  have hp : ∀ x ∈ s, 0 ≤ x ∧ x < (n : Int) := fun x hx => by have := hr x hx; omega
  refine Jdn.2 ⟨bagN s, bagN_lt (m := n) hp, ?_⟩
  unfold lst
  refine asc_ext (asc_members _ _) ha fun x => ?_
  rw [mem_members]
  constructor
  · rintro ⟨h1, h2, h3⟩
    rw [bagN_bit fun y hy => (hp y hy).1, List.contains_iff_mem, show ((x.toNat : Nat) : Int) = x by omega] at h3
    exact h3
  intro hx
  have h1 := hp x hx
  refine ⟨h1.1, h1.2, ?_⟩
  rw [bagN_bit fun y hy => (hp y hy).1, List.contains_iff_mem, show ((x.toNat : Nat) : Int) = x by omega]
  exact hx
def J2H (f : Int → Int) (l : ZI) : Int := (l.map f).sum
theorem J1e (f : Int → Int) (x : Int) (l : ZI) : J2H f (x :: l) = f x + J2H f l := rfl
theorem Jbj {f g : Int → Int} : ∀ {l : ZI}, (∀ x ∈ l, f x ≤ g x) → J2H f l ≤ J2H g l
  | [], _ => Int.le_refl _
  | x :: r, h => by
    have h1 := h x List.mem_cons_self
    have h2 := Jbj (f := f) (g := g) (l := r) fun y hy => h y (List.mem_cons_of_mem _ hy)
    rw [J1e, J1e]; omega
theorem Ja1 (c : Int) (f : Int → Int) : ∀ l : ZI, J2H (fun x => c * f x) l = c * J2H f l
  | [] => by simp [J2H]
  | x :: r => by rw [J1e, J1e, Ja1 c f r, Int.mul_add]
theorem JaE {f : Int → Int} {l : ZI} (h : ∀ x ∈ l, 0 ≤ f x) : 0 ≤ J2H f l := by
  have := Jbj (f := fun _ => 0) (g := f) h
  have e : J2H (fun _ => 0) l = 0 := by
    have := Ja1 0 (fun _ => 0) l
    simp at this
    exact this
  omega
theorem JcR {p : ZI} {x y : Nat} {v : Int} (hx : x < p.length) : (p.set x v).getD y 0 = if y = x then v else p.getD y 0 := by
  simp only [List.getD_eq_getElem?_getD, List.getElem?_set]
  by_cases e : x = y
  · subst e; simp [hx]
  rw [if_neg e, if_neg (fun h => e h.symm)]
/-- What rawField and lineField draw. -/
def Jdb (n : Nat) (r : ZI) : Prop := r.length = n ∧ ∀ x ∈ r, 0 ≤ x ∧ x ≤ 60
def drF (O : ZI) (D : ZR) : Prop := O.length ≤ 7 ∧ D.length ≤ 7 ∧ ∀ r ∈ D, Jdb O.length r
theorem Je {O : ZI} {D : ZR} (h : drF O D) {i a : Nat} (hi : i < D.length) (ha : a < O.length) : (D.getD i []).length = O.length ∧ 0 ≤ (D.getD i []).getD a 0 ∧ (D.getD i []).getD a 0 ≤ 60 := by
  obtain ⟨h1, h2⟩ := h.2.2 _ (getD_mem (d := []) hi)
  exact ⟨h1, h2 _ (getD_mem (by omega))⟩
theorem J7K {α : Type} {p : α → Prop} {l : List α} {x : α} (h : ∀ r ∈ l, p r) (hx : p x) : ∀ r ∈ l ++ [x], p r := by
  intro r hr
  rcases List.mem_append.1 hr with hr | hr
  · exact h r hr
  rw [List.mem_singleton.1 hr]; exact hx
theorem Jbn {α : Type} {p : α → Prop} {l : List α} {x : α} {k : Nat} (h : ∀ r ∈ l, p r) (hx : p x) : ∀ r ∈ l.set k x, p r := by
  intro r hr
  rcases List.mem_or_eq_of_mem_set hr with hr | hr
  · exact h r hr
  rw [hr]; exact hx
theorem Jbl {O : ZI} {D : ZR} (h : drF O D) {i a : Nat} {v : Int} (hi : i < D.length) (hv : 0 ≤ v ∧ v ≤ 60) : drF O (D.set i ((D.getD i []).set a v)) := by
  obtain ⟨h1, h2⟩ := h.2.2 _ (getD_mem (d := []) hi)
  refine ⟨h.1, by rw [List.length_set]; exact h.2.1, Jbn h.2.2 ⟨by rw [List.length_set]; exact h1, Jbn h2 hv⟩⟩
abbrev J0q (u : Value) (code : List Nat) (c : Cur) (most : Int) (n : Int) (m : Int) (c0 : Cur) (big : Int) (c1 : Cur) (O0 : ZI) (D0 : ZR) (a : Int) (c3 : Cur) (O1 : ZI) (D1 : ZR) : Prop := (0 ≤ a) ∧ (a ≤ 7) ∧ (O1.length = a.toNat) ∧ (D1 = []) ∧ (okC c3 (3000100 + 4 * a))
abbrev J0x (u : Value) (code : List Nat) (c : Cur) (most : Int) (n : Int) (m : Int) (c0 : Cur) (big : Int) (c1 : Cur) (O0 : ZI) (D0 : ZR) (a : Int) (c3 : Cur) (O1 : ZI) (D1 : ZR) : Nat := (7 - a).toNat
abbrev J1i (u : Value) (code : List Nat) (c : Cur) (most : Int) (n : Int) (m : Int) (c0 : Cur) (big : Int) (c1 : Cur) (O0 : ZI) (D0 : ZR) (c4 : Cur) (O2 : ZI) (D2 : ZR) : Prop := (okC c4 3000200) ∧ (O2.length ≤ 7) ∧ (D2 = [])
abbrev J0w (u : Value) (code : List Nat) (c : Cur) (most : Int) (n : Int) (m : Int) (c0 : Cur) (big : Int) (c1 : Cur) (O0 : ZI) (D0 : ZR) (c4 : Cur) (O2 : ZI) (D2 : ZR) (i : Int) (c5 : Cur) (O3 : ZI) (D3 : ZR) : Prop := (0 ≤ i) ∧ (i ≤ 7) ∧ (D3.length = i.toNat) ∧ (O3.length ≤ 7) ∧ (okC c5 (3000200 + 100 * i)) ∧ (∀ r ∈ D3, Jdb O3.length r)
abbrev J0s (u : Value) (code : List Nat) (c : Cur) (most : Int) (n : Int) (m : Int) (c0 : Cur) (big : Int) (c1 : Cur) (O0 : ZI) (D0 : ZR) (c4 : Cur) (O2 : ZI) (D2 : ZR) (i : Int) (c5 : Cur) (O3 : ZI) (D3 : ZR) : Nat := (7 - i).toNat
abbrev J0r (u : Value) (code : List Nat) (c : Cur) (most : Int) (n : Int) (m : Int) (c0 : Cur) (big : Int) (c1 : Cur) (O0 : ZI) (D0 : ZR) (c4 : Cur) (O2 : ZI) (D2 : ZR) (i : Int) (c5 : Cur) (O3 : ZI) (D3 : ZR) (row : ZI) (a2 : Int) (c6 : Cur) : Prop := (0 ≤ a2) ∧ (a2 ≤ (O3.length : Int)) ∧ (row.length = a2.toNat) ∧ (okC c6 (3000200 + 100 * i + 4 * a2)) ∧ (∀ x ∈ row, 0 ≤ x ∧ x ≤ 60)
abbrev J0t (u : Value) (code : List Nat) (c : Cur) (most : Int) (n : Int) (m : Int) (c0 : Cur) (big : Int) (c1 : Cur) (O0 : ZI) (D0 : ZR) (c4 : Cur) (O2 : ZI) (D2 : ZR) (i : Int) (c5 : Cur) (O3 : ZI) (D3 : ZR) (row : ZI) (a2 : Int) (c6 : Cur) : Nat := (O3.length - a2).toNat
abbrev J1f (u : Value) (code : List Nat) (c : Cur) (most : Int) (n : Int) (m : Int) (c0 : Cur) : Prop := (0 ≤ n ∧ n ≤ 7) ∧ (0 ≤ m ∧ m ≤ 7) ∧ (okC c0 3000050)
abbrev J1h (u : Value) (code : List Nat) (c : Cur) (most : Int) (n : Int) (m : Int) (c0 : Cur) (big : Int) (c1 : Cur) (O0 : ZI) (D0 : ZR) : Prop := (1 ≤ big ∧ big ≤ 20) ∧ (okC c1 3000100) ∧ (O0 = []) ∧ (D0 = [])
abbrev J0f (code : List Nat) (c : Cur) (most : Int) (O : ZI) (D : ZR) (cf : Cur) : Prop := (okC cf 4000000) ∧ (drF O D)
def JN (code : List Nat) (c : Cur) (most : Int) : Ex := ex3 1 (fun (O : ZI) (D : ZR) (cf : Cur) => J0f code c most O D cf) (fun (O : ZI) (D : ZR) (cf : Cur) => [.int .i64 cf.pos, .int .u64 cf.seed]) (fun (O : ZI) (D : ZR) (cf : Cur) => .agg [.own 3 (.ints O), .mat 3 24 D])
def J6d (f : FuncId) (ds : List D) : Orc := .no
def J5N (u : Value) (code : List Nat) (c : Cur) (most : Int) : Ann := .two (.none) (.cut (.mark [] [(2, .cell [.int .i64 ((J1 code c (([3, 4, 2, 5, 1, 6, 7]).length : Int)).pos), .int .u64 ((J1 code c (([3, 4, 2, 5, 1, 6, 7]).length : Int)).seed)] (.one (.d (.int .i64 (([3, 4, 2, 5, 1, 6, 7]).getD (J3 code c (([3, 4, 2, 5, 1, 6, 7]).length : Int)).toNat 0))))), (5, .cell [.int .i64 ((J1 code (J1 code c (([3, 4, 2, 5, 1, 6, 7]).length : Int)) (([4, 3, 5, 2, 6, 7, 1, 0]).length : Int)).pos), .int .u64 ((J1 code (J1 code c (([3, 4, 2, 5, 1, 6, 7]).length : Int)) (([4, 3, 5, 2, 6, 7, 1, 0]).length : Int)).seed)] (.one (.d (.int .i64 (([4, 3, 5, 2, 6, 7, 1, 0]).getD (J3 code (J1 code c (([3, 4, 2, 5, 1, 6, 7]).length : Int)) (([4, 3, 5, 2, 6, 7, 1, 0]).length : Int)).toNat 0)))))]) (cut3 (fun (n : Int) (m : Int) (c0 : Cur) => J1f u code c most n m c0) (fun (n : Int) (m : Int) (c0 : Cur) => [(0, .ptr 0 0), (1, .d false (.int .i64 most)), (4, .ptr 4 0), (5, .d true (.int .i64 n)), (6, .d true (.int .i64 m))]) (fun (n : Int) (m : Int) (c0 : Cur) => [(0, .box 76 [.d false (.lit u (.sl (.bytes code))), .d true (.int .i64 c0.pos), .d true (.int .u64 c0.seed)]), (4, .box 27 [.d true (.nil), .d true (.nil)])])) (fun g => (fun (n : Int) (m : Int) (c0 : Cur) => .cut (.mark [] [(3, .cell [.int .i64 ((J1 code c0 (([10, 10, 20, 4]).length : Int)).pos), .int .u64 ((J1 code c0 (([10, 10, 20, 4]).length : Int)).seed)] (.one (.d (.int .i64 (([10, 10, 20, 4]).getD (J3 code c0 (([10, 10, 20, 4]).length : Int)).toNat 0)))))]) (cut4 (fun (big : Int) (c1 : Cur) (O0 : ZI) (D0 : ZR) => J1h u code c most n m c0 big c1 O0 D0) (fun (big : Int) (c1 : Cur) (O0 : ZI) (D0 : ZR) => [(0, .ptr 0 0), (1, .d false (.int .i64 most)), (4, .ptr 4 0), (5, .d true (.int .i64 n)), (6, .d true (.int .i64 m)), (7, .ptr 7 0), (8, .d true (.int .i64 big))]) (fun (big : Int) (c1 : Cur) (O0 : ZI) (D0 : ZR) => [(0, .box 76 [.d false (.lit u (.sl (.bytes code))), .d true (.int .i64 c1.pos), .d true (.int .u64 c1.seed)]), (4, .box 27 [.d true (.nil), .d true (.nil)]), (1500202, .arr true 3 (.ints O0)), (1500203, .mat 3 24 D0 none), (7, .box 27 [.own 1500202 O0.length, .own 1500203 D0.length])])) (fun g => (fun (big : Int) (c1 : Cur) (O0 : ZI) (D0 : ZR) => .cut (.two (.none) (.loop (cut4 (fun (a : Int) (c3 : Cur) (O1 : ZI) (D1 : ZR) => J0q u code c most n m c0 big c1 O0 D0 a c3 O1 D1) (fun (a : Int) (c3 : Cur) (O1 : ZI) (D1 : ZR) => [(0, .ptr 0 0), (1, .d false (.int .i64 most)), (4, .ptr 4 0), (5, .d true (.int .i64 n)), (6, .d true (.int .i64 m)), (7, .ptr 7 0), (8, .d true (.int .i64 big)), (9, .d true (.int .i64 a))]) (fun (a : Int) (c3 : Cur) (O1 : ZI) (D1 : ZR) => [(0, .box 76 [.d false (.lit u (.sl (.bytes code))), .d true (.int .i64 c3.pos), .d true (.int .u64 c3.seed)]), (4, .box 27 [.d true (.nil), .d true (.nil)]), (1000002, .arr true 3 (.ints O1)), (1000003, .mat 3 24 D1 none), (7, .box 27 [.own 1000002 O1.length, .own 1000003 D1.length])])) (fun g => J0x u code c most n m c0 big c1 O0 D0 g.1 g.2.1 g.2.2.1 g.2.2.2) (fun g => (fun (a : Int) (c3 : Cur) (O1 : ZI) (D1 : ZR) => .two (.none) (.two (.reg [(4, .cell [.int .i64 ((J1 code c3 big).pos), .int .u64 ((J1 code c3 big).seed)] (.one (.d (.int .i64 (J3 code c3 big)))))]) (.none))) (g.1) (g.2.1) (g.2.2.1) (g.2.2.2)))) (cut3 (fun (c4 : Cur) (O2 : ZI) (D2 : ZR) => J1i u code c most n m c0 big c1 O0 D0 c4 O2 D2) (fun (c4 : Cur) (O2 : ZI) (D2 : ZR) => [(0, .ptr 0 0), (1, .d false (.int .i64 most)), (4, .ptr 4 0), (6, .d true (.int .i64 m)), (7, .ptr 7 0), (8, .d true (.int .i64 big))]) (fun (c4 : Cur) (O2 : ZI) (D2 : ZR) => [(0, .box 76 [.d false (.lit u (.sl (.bytes code))), .d true (.int .i64 c4.pos), .d true (.int .u64 c4.seed)]), (4, .box 27 [.d true (.nil), .d true (.nil)]), (1000051, .arr true 3 (.ints O2)), (1000052, .mat 3 24 D2 none), (7, .box 27 [.own 1000051 O2.length, .own 1000052 D2.length])])) (fun g => (fun (c4 : Cur) (O2 : ZI) (D2 : ZR) => .two (.two (.none) (.loop (cut4 (fun (i : Int) (c5 : Cur) (O3 : ZI) (D3 : ZR) => J0w u code c most n m c0 big c1 O0 D0 c4 O2 D2 i c5 O3 D3) (fun (i : Int) (c5 : Cur) (O3 : ZI) (D3 : ZR) => [(0, .ptr 0 0), (1, .d false (.int .i64 most)), (4, .ptr 4 0), (6, .d true (.int .i64 m)), (7, .ptr 7 0), (8, .d true (.int .i64 big)), (10, .d true (.int .i64 i))]) (fun (i : Int) (c5 : Cur) (O3 : ZI) (D3 : ZR) => [(0, .box 76 [.d false (.lit u (.sl (.bytes code))), .d true (.int .i64 c5.pos), .d true (.int .u64 c5.seed)]), (4, .box 27 [.d true (.nil), .d true (.nil)]), (1000102, .arr true 3 (.ints O3)), (1000103, .mat 3 24 D3 none), (7, .box 27 [.own 1000102 O3.length, .own 1000103 D3.length])])) (fun g => J0s u code c most n m c0 big c1 O0 D0 c4 O2 D2 g.1 g.2.1 g.2.2.1 g.2.2.2) (fun g => (fun (i : Int) (c5 : Cur) (O3 : ZI) (D3 : ZR) => .two (.none) (.two (.two (.none) (.two (.two (.none) (.loop (cut3 (fun (row : ZI) (a2 : Int) (c6 : Cur) => J0r u code c most n m c0 big c1 O0 D0 c4 O2 D2 i c5 O3 D3 row a2 c6) (fun (row : ZI) (a2 : Int) (c6 : Cur) => [(0, .ptr 0 0), (1, .d false (.int .i64 most)), (4, .ptr 4 0), (6, .d true (.int .i64 m)), (7, .ptr 7 0), (8, .d true (.int .i64 big)), (10, .d true (.int .i64 i)), (11, .own 1000200 row.length), (12, .d true (.int .i64 a2))]) (fun (row : ZI) (a2 : Int) (c6 : Cur) => [(1000200, .arr true 3 (.ints row)), (0, .box 76 [.d false (.lit u (.sl (.bytes code))), .d true (.int .i64 c6.pos), .d true (.int .u64 c6.seed)]), (4, .box 27 [.d true (.nil), .d true (.nil)]), (7, .box 27 [.own 1000102 O3.length, .own 1000103 D3.length]), (1000102, .arr true 3 (.ints O3)), (1000103, .mat 3 24 D3 none)])) (fun g => J0t u code c most n m c0 big c1 O0 D0 c4 O2 D2 i c5 O3 D3 g.1 g.2.1 g.2.2) (fun g => (fun (row : ZI) (a2 : Int) (c6 : Cur) => .two (.none) (.two (.mark [] [(3, .cell [.int .i64 ((J1 code c6 big).pos), .int .u64 ((J1 code c6 big).seed)] (.one (.d (.int .i64 (J3 code c6 big)))))]) (.none))) (g.1) (g.2.1) (g.2.2)))) (.none))) (.none))) (g.1) (g.2.1) (g.2.2.1) (g.2.2.2)))) (.none)) (g.1) (g.2.1) (g.2.2))) (g.1) (g.2.1) (g.2.2.1) (g.2.2.2))) (g.1) (g.2.1) (g.2.2)))
def J1M (u : Value) (code : List Nat) (c : Cur) (most : Int) : Prop :=
  ((((7 : Nat) = 7) ∧ (PK Tryz.prog 155 76 (.sl (.bytes code)) [.int .i64 c.pos, .int .u64 c.seed] [.int .i64 ((J1 code c (([3, 4, 2, 5, 1, 6, 7]).length : Int)).pos), .int .u64 ((J1 code c (([3, 4, 2, 5, 1, 6, 7]).length : Int)).seed)] [.sl (.ints ([3, 4, 2, 5, 1, 6, 7]))] (.one (.d (.int .i64 (([3, 4, 2, 5, 1, 6, 7]).getD (J3 code c (([3, 4, 2, 5, 1, 6, 7]).length : Int)).toNat 0))))) ∧ ((8 : Nat) = 8) ∧ (PK Tryz.prog 155 76 (.sl (.bytes code)) [.int .i64 ((J1 code c (([3, 4, 2, 5, 1, 6, 7]).length : Int)).pos), .int .u64 ((J1 code c (([3, 4, 2, 5, 1, 6, 7]).length : Int)).seed)] [.int .i64 ((J1 code (J1 code c (([3, 4, 2, 5, 1, 6, 7]).length : Int)) (([4, 3, 5, 2, 6, 7, 1, 0]).length : Int)).pos), .int .u64 ((J1 code (J1 code c (([3, 4, 2, 5, 1, 6, 7]).length : Int)) (([4, 3, 5, 2, 6, 7, 1, 0]).length : Int)).seed)] [.sl (.ints ([4, 3, 5, 2, 6, 7, 1, 0]))] (.one (.d (.int .i64 (([4, 3, 5, 2, 6, 7, 1, 0]).getD (J3 code (J1 code c (([3, 4, 2, 5, 1, 6, 7]).length : Int)) (([4, 3, 5, 2, 6, 7, 1, 0]).length : Int)).toNat 0))))) ∧ (∃ n' : Int, ∃ m' : Int, ∃ c0' : Cur, (J1f u code c most n' m' c0') ∧ (most = most) ∧ ((([3, 4, 2, 5, 1, 6, 7]).getD (J3 code c (([3, 4, 2, 5, 1, 6, 7]).length : Int)).toNat 0) = n') ∧ ((([4, 3, 5, 2, 6, 7, 1, 0]).getD (J3 code (J1 code c (([3, 4, 2, 5, 1, 6, 7]).length : Int)) (([4, 3, 5, 2, 6, 7, 1, 0]).length : Int)).toNat 0) = m') ∧ ((.lit u (.sl (.bytes code)) : D) = .lit u (.sl (.bytes code))) ∧ ((J1 code (J1 code c (([3, 4, 2, 5, 1, 6, 7]).length : Int)) (([4, 3, 5, 2, 6, 7, 1, 0]).length : Int)).pos = c0'.pos) ∧ ((J1 code (J1 code c (([3, 4, 2, 5, 1, 6, 7]).length : Int)) (([4, 3, 5, 2, 6, 7, 1, 0]).length : Int)).seed = c0'.seed))) ∧ (∀ n : Int, ∀ m : Int, ∀ c0 : Cur, (J1f u code c most n m c0) → ((((4 : Nat) = 4) ∧ (PK Tryz.prog 155 76 (.sl (.bytes code)) [.int .i64 c0.pos, .int .u64 c0.seed] [.int .i64 ((J1 code c0 (([10, 10, 20, 4]).length : Int)).pos), .int .u64 ((J1 code c0 (([10, 10, 20, 4]).length : Int)).seed)] [.sl (.ints ([10, 10, 20, 4]))] (.one (.d (.int .i64 (([10, 10, 20, 4]).getD (J3 code c0 (([10, 10, 20, 4]).length : Int)).toNat 0))))) ∧ (∃ big' : Int, ∃ c1' : Cur, ∃ O0' : ZI, ∃ D0' : ZR, (J1h u code c most n m c0 big' c1' O0' D0') ∧ (most = most) ∧ (n = n) ∧ (m = m) ∧ ((([10, 10, 20, 4]).getD (J3 code c0 (([10, 10, 20, 4]).length : Int)).toNat 0) = big') ∧ ((.lit u (.sl (.bytes code)) : D) = .lit u (.sl (.bytes code))) ∧ ((J1 code c0 (([10, 10, 20, 4]).length : Int)).pos = c1'.pos) ∧ ((J1 code c0 (([10, 10, 20, 4]).length : Int)).seed = c1'.seed) ∧ ((O0').length = 0) ∧ ((D0').length = 0) ∧ ((0 : Nat) = O0'.length) ∧ ((0 : Nat) = D0'.length))) ∧ (∀ big : Int, ∀ c1 : Cur, ∀ O0 : ZI, ∀ D0 : ZR, (J1h u code c most n m c0 big c1 O0 D0) → ((((∃ a' : Int, ∃ c3' : Cur, ∃ O1' : ZI, ∃ D1' : ZR, (J0q u code c most n m c0 big c1 O0 D0 a' c3' O1' D1') ∧ (most = most) ∧ (n = n) ∧ (m = m) ∧ (big = big) ∧ ((0 : Int) = a') ∧ ((.lit u (.sl (.bytes code)) : D) = .lit u (.sl (.bytes code))) ∧ (c1.pos = c3'.pos) ∧ (c1.seed = c3'.seed) ∧ (O0 = O1') ∧ (D0 = D1') ∧ (O0.length = O1'.length) ∧ (D0.length = D1'.length)) ∧ (∀ a : Int, ∀ c3 : Cur, ∀ O1 : ZI, ∀ D1 : ZR, (J0q u code c most n m c0 big c1 O0 D0 a c3 O1 D1) → ((decide (a < n)) = true → (decide (a < n)) = true) ∧ ((decide (a < n)) = true → (decide (a < n)) = true) ∧ (true = true) ∧ (((decide (a < n)) = true → (decide (a < n)) = true)) ∧ (((decide (a < n)) = false → true = true)) ∧ (((cond (decide (a < n)) (decide (a < most)) false) = true → (true = true) ∧ (PK Tryz.prog 156 76 (.sl (.bytes code)) [.int .i64 c3.pos, .int .u64 c3.seed] [.int .i64 ((J1 code c3 big).pos), .int .u64 ((J1 code c3 big).seed)] [.int .i64 big] (.one (.d (.int .i64 (J3 code c3 big))))) ∧ (O1.length = O1.length) ∧ ((1 : Nat) = 1) ∧ ((O1.length + 1) * 8 ≤ 140737488355328) ∧ (I6 (a + 1)) ∧ (∃ a' : Int, ∃ c3' : Cur, ∃ O1' : ZI, ∃ D1' : ZR, (J0q u code c most n m c0 big c1 O0 D0 a' c3' O1' D1') ∧ (J0x u code c most n m c0 big c1 O0 D0 a' c3' O1' D1' < J0x u code c most n m c0 big c1 O0 D0 a c3 O1 D1) ∧ (most = most) ∧ (n = n) ∧ (m = m) ∧ (big = big) ∧ ((a + 1) = a') ∧ ((.lit u (.sl (.bytes code)) : D) = .lit u (.sl (.bytes code))) ∧ ((J1 code c3 big).pos = c3'.pos) ∧ ((J1 code c3 big).seed = c3'.seed) ∧ ((O1 ++ [(J3 code c3 big)]) = O1') ∧ (D1 = D1') ∧ ((O1.length + 1) = O1'.length) ∧ (D1.length = D1'.length))) ∧ ((cond (decide (a < n)) (decide (a < most)) false) = false → (∃ c4' : Cur, ∃ O2' : ZI, ∃ D2' : ZR, (J1i u code c most n m c0 big c1 O0 D0 c4' O2' D2') ∧ (most = most) ∧ (m = m) ∧ (big = big) ∧ ((.lit u (.sl (.bytes code)) : D) = .lit u (.sl (.bytes code))) ∧ (c3.pos = c4'.pos) ∧ (c3.seed = c4'.seed) ∧ (O1 = O2') ∧ (D1 = D2') ∧ (O1.length = O2'.length) ∧ (D1.length = D2'.length))))))) ∧ (∀ c4 : Cur, ∀ O2 : ZI, ∀ D2 : ZR, (J1i u code c most n m c0 big c1 O0 D0 c4 O2 D2) → ((∃ i' : Int, ∃ c5' : Cur, ∃ O3' : ZI, ∃ D3' : ZR, (J0w u code c most n m c0 big c1 O0 D0 c4 O2 D2 i' c5' O3' D3') ∧ (most = most) ∧ (m = m) ∧ (big = big) ∧ ((0 : Int) = i') ∧ ((.lit u (.sl (.bytes code)) : D) = .lit u (.sl (.bytes code))) ∧ (c4.pos = c5'.pos) ∧ (c4.seed = c5'.seed) ∧ (O2 = O3') ∧ (D2 = D3') ∧ (O2.length = O3'.length) ∧ (D2.length = D3'.length)) ∧ (∀ i : Int, ∀ c5 : Cur, ∀ O3 : ZI, ∀ D3 : ZR, (J0w u code c most n m c0 big c1 O0 D0 c4 O2 D2 i c5 O3 D3) → ((decide (i < m)) = true → (decide (i < m)) = true) ∧ ((decide (i < m)) = true → (decide (i < m)) = true) ∧ (true = true) ∧ (((decide (i < m)) = true → (decide (i < m)) = true)) ∧ (((decide (i < m)) = false → true = true)) ∧ (((cond (decide (i < m)) (decide (i < most)) false) = true → ((∃ row' : ZI, ∃ a2' : Int, ∃ c6' : Cur, (J0r u code c most n m c0 big c1 O0 D0 c4 O2 D2 i c5 O3 D3 row' a2' c6') ∧ (most = most) ∧ (m = m) ∧ (big = big) ∧ (i = i) ∧ ((0 : Nat) = row'.length) ∧ ((0 : Int) = a2') ∧ ([] = row') ∧ ((.lit u (.sl (.bytes code)) : D) = .lit u (.sl (.bytes code))) ∧ (c5.pos = c6'.pos) ∧ (c5.seed = c6'.seed) ∧ (O3.length = O3.length) ∧ (D3.length = D3.length) ∧ (O3 = O3) ∧ (D3 = D3)) ∧ (∀ row : ZI, ∀ a2 : Int, ∀ c6 : Cur, (J0r u code c most n m c0 big c1 O0 D0 c4 O2 D2 i c5 O3 D3 row a2 c6) → (((decide (a2 < (O3.length : Int))) = true → (PK Tryz.prog 156 76 (.sl (.bytes code)) [.int .i64 c6.pos, .int .u64 c6.seed] [.int .i64 ((J1 code c6 big).pos), .int .u64 ((J1 code c6 big).seed)] [.int .i64 big] (.one (.d (.int .i64 (J3 code c6 big))))) ∧ (row.length = row.length) ∧ ((1 : Nat) = 1) ∧ ((row.length + 1) * 8 ≤ 140737488355328) ∧ (I6 (a2 + 1)) ∧ (∃ row' : ZI, ∃ a2' : Int, ∃ c6' : Cur, (J0r u code c most n m c0 big c1 O0 D0 c4 O2 D2 i c5 O3 D3 row' a2' c6') ∧ (J0t u code c most n m c0 big c1 O0 D0 c4 O2 D2 i c5 O3 D3 row' a2' c6' < J0t u code c most n m c0 big c1 O0 D0 c4 O2 D2 i c5 O3 D3 row a2 c6) ∧ (most = most) ∧ (m = m) ∧ (big = big) ∧ (i = i) ∧ ((row.length + 1) = row'.length) ∧ ((a2 + 1) = a2') ∧ ((row ++ [(J3 code c6 big)]) = row') ∧ ((.lit u (.sl (.bytes code)) : D) = .lit u (.sl (.bytes code))) ∧ ((J1 code c6 big).pos = c6'.pos) ∧ ((J1 code c6 big).seed = c6'.seed) ∧ (O3.length = O3.length) ∧ (D3.length = D3.length) ∧ (O3 = O3) ∧ (D3 = D3))) ∧ ((decide (a2 < (O3.length : Int))) = false → (row.length = row.length) ∧ (D3.length = D3.length) ∧ ((1 : Nat) = 1) ∧ (0 < 1) ∧ ((D3.length + 1) * 24 ≤ 140737488355328) ∧ (I6 (i + 1)) ∧ (∃ i' : Int, ∃ c5' : Cur, ∃ O3' : ZI, ∃ D3' : ZR, (J0w u code c most n m c0 big c1 O0 D0 c4 O2 D2 i' c5' O3' D3') ∧ (J0s u code c most n m c0 big c1 O0 D0 c4 O2 D2 i' c5' O3' D3' < J0s u code c most n m c0 big c1 O0 D0 c4 O2 D2 i c5 O3 D3) ∧ (most = most) ∧ (m = m) ∧ (big = big) ∧ ((i + 1) = i') ∧ ((.lit u (.sl (.bytes code)) : D) = .lit u (.sl (.bytes code))) ∧ (c6.pos = c5'.pos) ∧ (c6.seed = c5'.seed) ∧ (O3 = O3') ∧ ((D3 ++ [row]) = D3') ∧ (O3.length = O3'.length) ∧ ((D3.length + 1) = D3'.length))))))) ∧ ((cond (decide (i < m)) (decide (i < most)) false) = false → (∃ O' : ZI, ∃ D' : ZR, ∃ cf' : Cur, (J0f code c most O' D' cf') ∧ (true = true) ∧ ((.lit u (.sl (.bytes code)) : D) = .lit u (.sl (.bytes code))) ∧ (c5.pos = cf'.pos) ∧ (c5.seed = cf'.seed) ∧ (O3.length = O3.length) ∧ ((O3 : ZI) = O') ∧ (D3.length = D3.length) ∧ ((D3 : ZR) = D'))))))))))))
theorem J5I (u : Value) (code : List Nat) (c : Cur) (most : Int) (hb : ∀ x9 ∈ code, x9 < 256) (hc : okC c 3000000) (hm : 0 ≤ most ∧ most ≤ 7)  : J1M u code c most := by
  unfold J1M
  refine ⟨?_, ?_⟩
  ·refine ⟨rfl, ?_, rfl, ?_, ?_⟩
   ·refine JC code c ([3, 4, 2, 5, 1, 6, 7]) ?_ ?_ ?_
    ·exact hb
    ·exact J6 (by assumption) (by omega)
    ·simp
   ·refine JC code (J1 code c (([3, 4, 2, 5, 1, 6, 7]).length : Int)) ([4, 3, 5, 2, 6, 7, 1, 0]) ?_ ?_ ?_
    ·exact hb
    ·exact J6 (Jh (by assumption)) (by omega)
    ·simp
   ·refine ⟨(([3, 4, 2, 5, 1, 6, 7]).getD (J3 code c (([3, 4, 2, 5, 1, 6, 7]).length : Int)).toNat 0), (([4, 3, 5, 2, 6, 7, 1, 0]).getD (J3 code (J1 code c (([3, 4, 2, 5, 1, 6, 7]).length : Int)) (([4, 3, 5, 2, 6, 7, 1, 0]).length : Int)).toNat 0), (J1 code (J1 code c (([3, 4, 2, 5, 1, 6, 7]).length : Int)) (([4, 3, 5, 2, 6, 7, 1, 0]).length : Int)), ?_⟩
    refine ⟨?_, rfl, rfl, rfl, rfl, rfl, rfl⟩
    ·refine ⟨?_, ?_, ?_⟩
     ·exact J8Q (p := fun z => 0 ≤ z ∧ z ≤ 7) [3, 4, 2, 5, 1, 6, 7] code _ (by simp) (by simp)
     ·exact J8Q (p := fun z => 0 ≤ z ∧ z ≤ 7) [4, 3, 5, 2, 6, 7, 1, 0] code _ (by simp) (by simp)
     ·exact J6 (Jh (Jh (by assumption))) (by omega)
  intro n m c0 hJ
  obtain ⟨n1, n2, n7⟩ := hJ
  refine ⟨?_, ?_⟩
  ·refine ⟨rfl, ?_, ?_⟩
   ·refine JC code c0 ([10, 10, 20, 4]) ?_ ?_ ?_
    ·exact hb
    ·exact J6 (by assumption) (by omega)
    ·simp
   ·refine ⟨(([10, 10, 20, 4]).getD (J3 code c0 (([10, 10, 20, 4]).length : Int)).toNat 0), (J1 code c0 (([10, 10, 20, 4]).length : Int)), ([]), ([]), ?_⟩
    refine ⟨?_, rfl, rfl, rfl, rfl, rfl, rfl, rfl, ?_, ?_, rfl, rfl⟩
    ·refine ⟨?_, ?_, ?_, ?_⟩
     ·exact J8Q (p := fun z => 1 ≤ z ∧ z ≤ 20) [10, 10, 20, 4] code _ (by simp) (by simp)
     ·exact J6 (Jh (by assumption)) (by omega)
     ·rfl
     ·rfl
    ·rfl
    rfl
  intro big c1 O0 D0 hJ
  obtain ⟨n3, n4, n5, n6⟩ := hJ
  refine ⟨?_, ?_⟩
  ·refine ⟨?_, ?_⟩
   ·refine ⟨0, c1, O0, D0, ?_⟩
    refine ⟨?_, rfl, rfl, rfl, rfl, rfl, rfl, rfl, rfl, rfl, rfl, rfl, rfl⟩
    ·refine ⟨?_, ?_, ?_, ?_, ?_⟩
     ·omega
     ·omega
     ·(simp_all; done)
     ·assumption
     ·exact J6 (by assumption) (by omega)
   ·intro a c3 O1 D1 hJ
    obtain ⟨h1, h2, h3, h4, h5⟩ := hJ
    refine ⟨id, id, rfl, id, fun _ => rfl, ?_, ?_⟩
    ·intro b1
     refine ⟨rfl, ?_, rfl, rfl, ?_, ?_, ?_⟩
     ·refine Jp code c3 big ?_ ?_
      ·exact hb
      ·exact J6 (by assumption) (by omega)
     ·omega
     ·omega
     refine ⟨(a + 1), (J1 code c3 big), (O1 ++ [(J3 code c3 big)]), D1, ?_⟩
     refine ⟨?_, ?_, rfl, rfl, rfl, rfl, rfl, rfl, rfl, rfl, rfl, rfl, ?_, rfl⟩
     ·refine ⟨?_, ?_, ?_, ?_, ?_⟩
      ·omega
      ·(simp_all <;> omega)
      ·(simp_all <;> omega)
      ·assumption
      ·exact J6 (Jh (by assumption)) (by omega)
     ·(simp only [J0x] at *; simp at *; omega)
     simp
    intro b2
    refine ⟨c3, O1, D1, ?_⟩
    refine ⟨?_, rfl, rfl, rfl, rfl, rfl, rfl, rfl, rfl, rfl, rfl⟩
    ·refine ⟨?_, ?_, ?_⟩
     ·exact J6 (by assumption) (by omega)
     ·omega
     ·assumption
  intro c4 O2 D2 hJ
  obtain ⟨j0, j1, j2⟩ := hJ
  refine ⟨?_, ?_⟩
  ·refine ⟨0, c4, O2, D2, ?_⟩
   refine ⟨?_, rfl, rfl, rfl, rfl, rfl, rfl, rfl, rfl, rfl, rfl, rfl⟩
   ·refine ⟨?_, ?_, ?_, ?_, ?_, ?_⟩
    ·omega
    ·omega
    ·(simp_all; done)
    ·omega
    ·exact J6 (by assumption) (by omega)
    ·(rw [j2]; intro r hr; cases hr)
  intro i c5 O3 D3 hJ
  obtain ⟨k1, k2, k3, k4, k5, k6⟩ := hJ
  refine ⟨id, id, rfl, id, fun _ => rfl, ?_, ?_⟩
  ·intro b3
   refine ⟨?_, ?_⟩
   ·refine ⟨([]), 0, c5, ?_⟩
    refine ⟨?_, rfl, rfl, rfl, rfl, rfl, rfl, ?_, rfl, rfl, rfl, rfl, rfl, rfl, rfl⟩
    ·refine ⟨?_, ?_, ?_, ?_, ?_⟩
     ·omega
     ·omega
     ·rfl
     ·exact J6 (by assumption) (by omega)
     ·(intro r hr; cases hr)
    rfl
   intro row a2 c6 hJ
   obtain ⟨m1, m2, m3, m4, m5⟩ := hJ
   refine ⟨?_, ?_⟩
   ·intro b4
    try simp only [nrmT] at b4
    refine ⟨?_, rfl, rfl, ?_, ?_, ?_⟩
    ·refine Jp code c6 big ?_ ?_
     ·exact hb
     ·exact J6 (by assumption) (by omega)
    ·omega
    ·omega
    refine ⟨(row ++ [(J3 code c6 big)]), (a2 + 1), (J1 code c6 big), ?_⟩
    refine ⟨?_, ?_, rfl, rfl, rfl, rfl, ?_, rfl, rfl, rfl, rfl, rfl, rfl, rfl, rfl, rfl⟩
    ·refine ⟨?_, ?_, ?_, ?_, ?_⟩
     ·omega
     ·omega
     ·(simp_all <;> omega)
     ·exact J6 (Jh (by assumption)) (by omega)
     ·refine J7K (by assumption) ?_
      have v := Jq code c6 (n := big) (by omega)
      omega
    ·(simp only [J0t]; omega)
    simp
   intro b5
   try simp only [nrmT] at b5
   refine ⟨rfl, rfl, rfl, by decide, ?_, ?_, ?_⟩
   ·omega
   ·omega
   refine ⟨(i + 1), c6, O3, (D3 ++ [row]), ?_⟩
   refine ⟨?_, ?_, rfl, rfl, rfl, rfl, rfl, rfl, rfl, rfl, rfl, rfl, ?_⟩
   ·refine ⟨?_, ?_, ?_, ?_, ?_, ?_⟩
    ·omega
    ·(simp_all <;> omega)
    ·(simp_all <;> omega)
    ·omega
    ·exact J6 (by assumption) (by omega)
    ·refine J7K (by assumption) ?_
     exact ⟨by omega, by assumption⟩
   ·(simp only [J0s] at *; simp at *; omega)
   simp
  intro b6
  refine ⟨O3, D3, c5, ?_⟩
  refine ⟨?_, rfl, rfl, rfl, rfl, rfl, rfl, rfl, rfl⟩
  ·refine ⟨?_, ?_⟩
   ·exact J6 (by assumption) (by omega)
   ·exact ⟨by omega, by omega, by assumption⟩
theorem J1k (code : List Nat) (c : Cur) (most : Int) (hb : ∀ x9 ∈ code, x9 < 256) (hc : okC c 3000000) (hm : 0 ≤ most ∧ most ≤ 7) : PKE Tryz.prog 188 76 (.sl (.bytes code)) [.int .i64 c.pos, .int .u64 c.seed] [.int .i64 most] (JN code c most) :=
  pke_by (Q := fun u => J1M u code c most) (by kernel_rfl) Tryz.func188 @Tryz.call188 (by kernel_rfl) J6d (fun u => J5N u code c most) (by kernel_rfl) (fun u => J5I u code c most hb hc hm) (fun u => by kernel_rfl)
abbrev J0l (u : Value) (code : List Nat) (c : Cur) (most : Int) (pl : ZI) (c0 : Cur) (O0 : ZI) (D0 : ZR) (pl2 : ZI) (a : Int) (c1 : Cur) : Prop := (0 ≤ a) ∧ (a ≤ (O0.length : Int)) ∧ (pl2.length = a.toNat) ∧ (∀ y ∈ pl2, 0 ≤ y ∧ y < 20) ∧ (okC c1 (4000000 + 4 * a))
abbrev J0h (u : Value) (code : List Nat) (c : Cur) (most : Int) (pl : ZI) (c0 : Cur) (O0 : ZI) (D0 : ZR) (pl2 : ZI) (a : Int) (c1 : Cur) : Nat := (O0.length - a).toNat
abbrev J19 (u : Value) (code : List Nat) (c : Cur) (most : Int) (pl : ZI) (c0 : Cur) (O0 : ZI) (D0 : ZR) (pl1 : ZI) (c2 : Cur) : Prop := (okC c2 4001000) ∧ (pl1.length = O0.length) ∧ (∀ y ∈ pl1, 0 ≤ y ∧ y < 20)
abbrev J0i (u : Value) (code : List Nat) (c : Cur) (most : Int) (pl : ZI) (c0 : Cur) (O0 : ZI) (D0 : ZR) (pl1 : ZI) (c2 : Cur) (i : Int) (c3 : Cur) (O1 : ZI) (D1 : ZR) : Prop := (0 ≤ i) ∧ (i ≤ (D1.length : Int)) ∧ (drF O1 D1) ∧ (pl1.length = O1.length) ∧ (okC c3 (4001000 + 10 * i))
abbrev J0g (u : Value) (code : List Nat) (c : Cur) (most : Int) (pl : ZI) (c0 : Cur) (O0 : ZI) (D0 : ZR) (pl1 : ZI) (c2 : Cur) (i : Int) (c3 : Cur) (O1 : ZI) (D1 : ZR) : Nat := (D1.length - i).toNat
abbrev J0k (u : Value) (code : List Nat) (c : Cur) (most : Int) (pl : ZI) (c0 : Cur) (O0 : ZI) (D0 : ZR) (pl1 : ZI) (c2 : Cur) (i : Int) (c3 : Cur) (O1 : ZI) (D1 : ZR) (x : Int) (c5 : Cur) (a2 : Int) (D2 : ZR) : Prop := (0 ≤ a2) ∧ (a2 ≤ (O1.length : Int)) ∧ (drF O1 D2) ∧ (D2.length = D1.length)
abbrev J0j (u : Value) (code : List Nat) (c : Cur) (most : Int) (pl : ZI) (c0 : Cur) (O0 : ZI) (D0 : ZR) (pl1 : ZI) (c2 : Cur) (i : Int) (c3 : Cur) (O1 : ZI) (D1 : ZR) (x : Int) (c5 : Cur) (a2 : Int) (D2 : ZR) : Nat := (O1.length - a2).toNat
abbrev J1a (u : Value) (code : List Nat) (c : Cur) (most : Int) (pl : ZI) (c0 : Cur) (O0 : ZI) (D0 : ZR) : Prop := (pl = []) ∧ (okC c0 4000000) ∧ (drF O0 D0)
abbrev J1b (u : Value) (code : List Nat) (c : Cur) (most : Int) (pl : ZI) (c0 : Cur) (O0 : ZI) (D0 : ZR) (pl1 : ZI) (c2 : Cur) (i : Int) (c3 : Cur) (O1 : ZI) (D1 : ZR) (x : Int) (c5 : Cur) : Prop := (0 ≤ x ∧ x < 20) ∧ (okC c5 (4001010 + 10 * i))
abbrev J1u (code : List Nat) (c : Cur) (most : Int) (O : ZI) (D : ZR) (cg : Cur) : Prop := (okC cg 6000000) ∧ (drF O D)
def J1y (code : List Nat) (c : Cur) (most : Int) : Ex := ex3 1 (fun (O : ZI) (D : ZR) (cg : Cur) => J1u code c most O D cg) (fun (O : ZI) (D : ZR) (cg : Cur) => [.int .i64 cg.pos, .int .u64 cg.seed]) (fun (O : ZI) (D : ZR) (cg : Cur) => .agg [.own 3 (.ints O), .mat 3 24 D])
def J5C (f : FuncId) (ds : List D) : Orc := bif Nat.beq f 154 then J2Z ds else .no
def J5D (u : Value) (code : List Nat) (c : Cur) (most : Int) : Ann := .two (.none) (.cut (.exr (.ex [] 2 (JN code c most) (fun g => (fun (Or1 : ZI) (Dr1 : ZR) (cfr1 : Cur) => .ms [] []) (g.1) (g.2.1) (g.2.2)))) (cut4 (fun (pl : ZI) (c0 : Cur) (O0 : ZI) (D0 : ZR) => J1a u code c most pl c0 O0 D0) (fun (pl : ZI) (c0 : Cur) (O0 : ZI) (D0 : ZR) => [(0, .ptr 0 0), (4, .ptr 4 0), (5, .ptr 5 0), (6, .own 1500100 pl.length)]) (fun (pl : ZI) (c0 : Cur) (O0 : ZI) (D0 : ZR) => [(1500100, .arr true 3 (.ints pl)), (0, .box 76 [.d false (.lit u (.sl (.bytes code))), .d true (.int .i64 c0.pos), .d true (.int .u64 c0.seed)]), (4, .box 27 [.d true (.nil), .d true (.nil)]), (1500102, .arr true 3 (.ints O0)), (1500103, .mat 3 24 D0 none), (5, .box 27 [.own 1500102 O0.length, .own 1500103 D0.length])])) (fun g => (fun (pl : ZI) (c0 : Cur) (O0 : ZI) (D0 : ZR) => .cut (.two (.none) (.loop (cut3 (fun (pl2 : ZI) (a : Int) (c1 : Cur) => J0l u code c most pl c0 O0 D0 pl2 a c1) (fun (pl2 : ZI) (a : Int) (c1 : Cur) => [(0, .ptr 0 0), (4, .ptr 4 0), (5, .ptr 5 0), (6, .own 1000000 pl2.length), (7, .d true (.int .i64 a))]) (fun (pl2 : ZI) (a : Int) (c1 : Cur) => [(1000000, .arr true 3 (.ints pl2)), (0, .box 76 [.d false (.lit u (.sl (.bytes code))), .d true (.int .i64 c1.pos), .d true (.int .u64 c1.seed)]), (4, .box 27 [.d true (.nil), .d true (.nil)]), (5, .box 27 [.own 1500102 O0.length, .own 1500103 D0.length]), (1500102, .arr true 3 (.ints O0)), (1500103, .mat 3 24 D0 none)])) (fun g => J0h u code c most pl c0 O0 D0 g.1 g.2.1 g.2.2) (fun g => (fun (pl2 : ZI) (a : Int) (c1 : Cur) => .two (.none) (.two (.mark [] [(2, .cell [.int .i64 ((J1 code c1 20).pos), .int .u64 ((J1 code c1 20).seed)] (.one (.d (.int .i64 (J3 code c1 20)))))]) (.none))) (g.1) (g.2.1) (g.2.2)))) (cut2 (fun (pl1 : ZI) (c2 : Cur) => J19 u code c most pl c0 O0 D0 pl1 c2) (fun (pl1 : ZI) (c2 : Cur) => [(0, .ptr 0 0), (4, .ptr 4 0), (5, .ptr 5 0), (6, .own 1000050 pl1.length)]) (fun (pl1 : ZI) (c2 : Cur) => [(1000050, .arr true 3 (.ints pl1)), (0, .box 76 [.d false (.lit u (.sl (.bytes code))), .d true (.int .i64 c2.pos), .d true (.int .u64 c2.seed)]), (4, .box 27 [.d true (.nil), .d true (.nil)]), (5, .box 27 [.own 1500102 O0.length, .own 1500103 D0.length]), (1500102, .arr true 3 (.ints O0)), (1500103, .mat 3 24 D0 none)])) (fun g => (fun (pl1 : ZI) (c2 : Cur) => .two (.two (.none) (.loop (cut4 (fun (i : Int) (c3 : Cur) (O1 : ZI) (D1 : ZR) => J0i u code c most pl c0 O0 D0 pl1 c2 i c3 O1 D1) (fun (i : Int) (c3 : Cur) (O1 : ZI) (D1 : ZR) => [(0, .ptr 0 0), (4, .ptr 4 0), (5, .ptr 5 0), (6, .own 1000050 pl1.length), (8, .d true (.int .i64 i))]) (fun (i : Int) (c3 : Cur) (O1 : ZI) (D1 : ZR) => [(0, .box 76 [.d false (.lit u (.sl (.bytes code))), .d true (.int .i64 c3.pos), .d true (.int .u64 c3.seed)]), (4, .box 27 [.d true (.nil), .d true (.nil)]), (1000102, .arr true 3 (.ints O1)), (1000103, .mat 3 24 D1 none), (5, .box 27 [.own 1000102 O1.length, .own 1000103 D1.length]), (1000050, .arr true 3 (.ints pl1))])) (fun g => J0g u code c most pl c0 O0 D0 pl1 c2 g.1 g.2.1 g.2.2.1 g.2.2.2) (fun g => (fun (i : Int) (c3 : Cur) (O1 : ZI) (D1 : ZR) => .two (.none) (.two (.cut (.mark [] [(1, .cell [.int .i64 ((J1 code c3 20).pos), .int .u64 ((J1 code c3 20).seed)] (.one (.d (.int .i64 (J3 code c3 20)))))]) (cut2 (fun (x : Int) (c5 : Cur) => J1b u code c most pl c0 O0 D0 pl1 c2 i c3 O1 D1 x c5) (fun (x : Int) (c5 : Cur) => [(0, .ptr 0 0), (4, .ptr 4 0), (5, .ptr 5 0), (6, .own 1000050 pl1.length), (8, .d true (.int .i64 i)), (9, .d true (.int .i64 x))]) (fun (x : Int) (c5 : Cur) => [(0, .box 76 [.d false (.lit u (.sl (.bytes code))), .d true (.int .i64 c5.pos), .d true (.int .u64 c5.seed)]), (4, .box 27 [.d true (.nil), .d true (.nil)]), (5, .box 27 [.own 1000102 O1.length, .own 1000103 D1.length]), (1000050, .arr true 3 (.ints pl1)), (1000102, .arr true 3 (.ints O1)), (1000103, .mat 3 24 D1 none)])) (fun g => (fun (x : Int) (c5 : Cur) => .two (.none) (.loop (cut2 (fun (a2 : Int) (D2 : ZR) => J0k u code c most pl c0 O0 D0 pl1 c2 i c3 O1 D1 x c5 a2 D2) (fun (a2 : Int) (D2 : ZR) => [(0, .ptr 0 0), (4, .ptr 4 0), (5, .ptr 5 0), (6, .own 1000050 pl1.length), (8, .d true (.int .i64 i)), (9, .d true (.int .i64 x)), (10, .d true (.int .i64 a2))]) (fun (a2 : Int) (D2 : ZR) => [(0, .box 76 [.d false (.lit u (.sl (.bytes code))), .d true (.int .i64 c5.pos), .d true (.int .u64 c5.seed)]), (4, .box 27 [.d true (.nil), .d true (.nil)]), (1000201, .mat 3 24 D2 none), (5, .box 27 [.own 1000102 O1.length, .own 1000201 D2.length]), (1000050, .arr true 3 (.ints pl1)), (1000102, .arr true 3 (.ints O1))])) (fun g => J0j u code c most pl c0 O0 D0 pl1 c2 i c3 O1 D1 x c5 g.1 g.2) (fun _ => .none))) (g.1) (g.2))) (.none))) (g.1) (g.2.1) (g.2.2.1) (g.2.2.2)))) (.none)) (g.1) (g.2))) (g.1) (g.2.1) (g.2.2.1) (g.2.2.2)))
def J1r (u : Value) (code : List Nat) (c : Cur) (most : Int) : Prop :=
  (((PKE Tryz.prog 188 76 (.sl (.bytes code)) [.int .i64 c.pos, .int .u64 c.seed] [.int .i64 most] (JN code c most)) ∧ (∀ Or1 : ZI, ∀ Dr1 : ZR, ∀ cfr1 : Cur, J0f code c most Or1 Dr1 cfr1 → ((true = true) ∧ (∃ pl' : ZI, ∃ c0' : Cur, ∃ O0' : ZI, ∃ D0' : ZR, (J1a u code c most pl' c0' O0' D0') ∧ ((0 : Nat) = pl'.length) ∧ ([] = pl') ∧ ((.lit u (.sl (.bytes code)) : D) = .lit u (.sl (.bytes code))) ∧ (cfr1.pos = c0'.pos) ∧ (cfr1.seed = c0'.seed) ∧ (Or1 = O0') ∧ (Dr1 = D0') ∧ (Or1.length = O0'.length) ∧ (Dr1.length = D0'.length))))) ∧ (∀ pl : ZI, ∀ c0 : Cur, ∀ O0 : ZI, ∀ D0 : ZR, (J1a u code c most pl c0 O0 D0) → ((((∃ pl2' : ZI, ∃ a' : Int, ∃ c1' : Cur, (J0l u code c most pl c0 O0 D0 pl2' a' c1') ∧ (pl.length = pl2'.length) ∧ ((0 : Int) = a') ∧ (pl = pl2') ∧ ((.lit u (.sl (.bytes code)) : D) = .lit u (.sl (.bytes code))) ∧ (c0.pos = c1'.pos) ∧ (c0.seed = c1'.seed) ∧ (O0.length = O0.length) ∧ (D0.length = D0.length) ∧ (O0 = O0) ∧ (D0 = D0)) ∧ (∀ pl2 : ZI, ∀ a : Int, ∀ c1 : Cur, (J0l u code c most pl c0 O0 D0 pl2 a c1) → (((decide (a < (O0.length : Int))) = true → (PK Tryz.prog 156 76 (.sl (.bytes code)) [.int .i64 c1.pos, .int .u64 c1.seed] [.int .i64 ((J1 code c1 20).pos), .int .u64 ((J1 code c1 20).seed)] [.int .i64 20] (.one (.d (.int .i64 (J3 code c1 20))))) ∧ (pl2.length = pl2.length) ∧ ((1 : Nat) = 1) ∧ ((pl2.length + 1) * 8 ≤ 140737488355328) ∧ (I6 (a + 1)) ∧ (∃ pl2' : ZI, ∃ a' : Int, ∃ c1' : Cur, (J0l u code c most pl c0 O0 D0 pl2' a' c1') ∧ (J0h u code c most pl c0 O0 D0 pl2' a' c1' < J0h u code c most pl c0 O0 D0 pl2 a c1) ∧ ((pl2.length + 1) = pl2'.length) ∧ ((a + 1) = a') ∧ ((pl2 ++ [(J3 code c1 20)]) = pl2') ∧ ((.lit u (.sl (.bytes code)) : D) = .lit u (.sl (.bytes code))) ∧ ((J1 code c1 20).pos = c1'.pos) ∧ ((J1 code c1 20).seed = c1'.seed) ∧ (O0.length = O0.length) ∧ (D0.length = D0.length) ∧ (O0 = O0) ∧ (D0 = D0))) ∧ ((decide (a < (O0.length : Int))) = false → (∃ pl1' : ZI, ∃ c2' : Cur, (J19 u code c most pl c0 O0 D0 pl1' c2') ∧ (pl2.length = pl1'.length) ∧ (pl2 = pl1') ∧ ((.lit u (.sl (.bytes code)) : D) = .lit u (.sl (.bytes code))) ∧ (c1.pos = c2'.pos) ∧ (c1.seed = c2'.seed) ∧ (O0.length = O0.length) ∧ (D0.length = D0.length) ∧ (O0 = O0) ∧ (D0 = D0))))))) ∧ (∀ pl1 : ZI, ∀ c2 : Cur, (J19 u code c most pl c0 O0 D0 pl1 c2) → ((∃ i' : Int, ∃ c3' : Cur, ∃ O1' : ZI, ∃ D1' : ZR, (J0i u code c most pl c0 O0 D0 pl1 c2 i' c3' O1' D1') ∧ (pl1.length = pl1.length) ∧ ((0 : Int) = i') ∧ ((.lit u (.sl (.bytes code)) : D) = .lit u (.sl (.bytes code))) ∧ (c2.pos = c3'.pos) ∧ (c2.seed = c3'.seed) ∧ (O0 = O1') ∧ (D0 = D1') ∧ (O0.length = O1'.length) ∧ (D0.length = D1'.length) ∧ (pl1 = pl1)) ∧ (∀ i : Int, ∀ c3 : Cur, ∀ O1 : ZI, ∀ D1 : ZR, (J0i u code c most pl c0 O0 D0 pl1 c2 i c3 O1 D1) → (((decide (i < (D1.length : Int))) = true → (((PK Tryz.prog 156 76 (.sl (.bytes code)) [.int .i64 c3.pos, .int .u64 c3.seed] [.int .i64 ((J1 code c3 20).pos), .int .u64 ((J1 code c3 20).seed)] [.int .i64 20] (.one (.d (.int .i64 (J3 code c3 20))))) ∧ (∃ x' : Int, ∃ c5' : Cur, (J1b u code c most pl c0 O0 D0 pl1 c2 i c3 O1 D1 x' c5') ∧ (pl1.length = pl1.length) ∧ (i = i) ∧ ((J3 code c3 20) = x') ∧ ((.lit u (.sl (.bytes code)) : D) = .lit u (.sl (.bytes code))) ∧ ((J1 code c3 20).pos = c5'.pos) ∧ ((J1 code c3 20).seed = c5'.seed) ∧ (O1.length = O1.length) ∧ (D1.length = D1.length) ∧ (pl1 = pl1) ∧ (O1 = O1) ∧ (D1 = D1))) ∧ (∀ x : Int, ∀ c5 : Cur, (J1b u code c most pl c0 O0 D0 pl1 c2 i c3 O1 D1 x c5) → ((∃ a2' : Int, ∃ D2' : ZR, (J0k u code c most pl c0 O0 D0 pl1 c2 i c3 O1 D1 x c5 a2' D2') ∧ (pl1.length = pl1.length) ∧ (i = i) ∧ (x = x) ∧ ((0 : Int) = a2') ∧ ((.lit u (.sl (.bytes code)) : D) = .lit u (.sl (.bytes code))) ∧ (c5.pos = c5.pos) ∧ (c5.seed = c5.seed) ∧ (D1 = D2') ∧ (O1.length = O1.length) ∧ (D1.length = D2'.length) ∧ (pl1 = pl1) ∧ (O1 = O1)) ∧ (∀ a2 : Int, ∀ D2 : ZR, (J0k u code c most pl c0 O0 D0 pl1 c2 i c3 O1 D1 x c5 a2 D2) → (((decide (a2 < (O1.length : Int))) = true → (true = true) ∧ ((0 : Int) ≤ i) ∧ ((i : Int) < (D2.length : Int)) ∧ (i.toNat < D2.length) ∧ ((0 : Int) ≤ a2) ∧ ((a2 : Int) < (pl1.length : Int)) ∧ (a2.toNat < pl1.length) ∧ (I6 (x - (pl1.getD a2.toNat 0))) ∧ ((0 : Int) ≤ a2) ∧ ((a2 : Int) < (pl1.length : Int)) ∧ (a2.toNat < pl1.length) ∧ (I6 ((pl1.getD a2.toNat 0) - x)) ∧ (PC Tryz.prog 154 [.int .i64 (x - (pl1.getD a2.toNat 0)), .int .i64 ((pl1.getD a2.toNat 0) - x)] (.one (.d (.int .i64 (max (x - (pl1.getD a2.toNat 0)) ((pl1.getD a2.toNat 0) - x)))))) ∧ ((0 : Int) ≤ a2) ∧ ((a2 : Int) < (((D2.getD i.toNat []).length) : Int)) ∧ (i.toNat < D2.length) ∧ (a2.toNat < (D2.getD i.toNat []).length) ∧ (I6 (a2 + 1)) ∧ (∃ a2' : Int, ∃ D2' : ZR, (J0k u code c most pl c0 O0 D0 pl1 c2 i c3 O1 D1 x c5 a2' D2') ∧ (J0j u code c most pl c0 O0 D0 pl1 c2 i c3 O1 D1 x c5 a2' D2' < J0j u code c most pl c0 O0 D0 pl1 c2 i c3 O1 D1 x c5 a2 D2) ∧ (pl1.length = pl1.length) ∧ (i = i) ∧ (x = x) ∧ ((a2 + 1) = a2') ∧ ((.lit u (.sl (.bytes code)) : D) = .lit u (.sl (.bytes code))) ∧ (c5.pos = c5.pos) ∧ (c5.seed = c5.seed) ∧ ((D2.set i.toNat ((D2.getD i.toNat []).set a2.toNat (max (x - (pl1.getD a2.toNat 0)) ((pl1.getD a2.toNat 0) - x)))) = D2') ∧ (O1.length = O1.length) ∧ (D2.length = D2'.length) ∧ (pl1 = pl1) ∧ (O1 = O1))) ∧ ((decide (a2 < (O1.length : Int))) = false → (I6 (i + 1)) ∧ (∃ i' : Int, ∃ c3' : Cur, ∃ O1' : ZI, ∃ D1' : ZR, (J0i u code c most pl c0 O0 D0 pl1 c2 i' c3' O1' D1') ∧ (J0g u code c most pl c0 O0 D0 pl1 c2 i' c3' O1' D1' < J0g u code c most pl c0 O0 D0 pl1 c2 i c3 O1 D1) ∧ (pl1.length = pl1.length) ∧ ((i + 1) = i') ∧ ((.lit u (.sl (.bytes code)) : D) = .lit u (.sl (.bytes code))) ∧ (c5.pos = c3'.pos) ∧ (c5.seed = c3'.seed) ∧ (O1 = O1') ∧ (D2 = D1') ∧ (O1.length = O1'.length) ∧ (D2.length = D1'.length) ∧ (pl1 = pl1))))))))) ∧ ((decide (i < (D1.length : Int))) = false → (∃ O' : ZI, ∃ D' : ZR, ∃ cg' : Cur, (J1u code c most O' D' cg') ∧ (true = true) ∧ ((.lit u (.sl (.bytes code)) : D) = .lit u (.sl (.bytes code))) ∧ (c3.pos = cg'.pos) ∧ (c3.seed = cg'.seed) ∧ (O1.length = O1.length) ∧ ((O1 : ZI) = O') ∧ (D1.length = D1.length) ∧ ((D1 : ZR) = D'))))))))))
theorem J5m (u : Value) (code : List Nat) (c : Cur) (most : Int) (hb : ∀ x9 ∈ code, x9 < 256) (hc : okC c 3000000) (hm : 0 ≤ most ∧ most ≤ 7)  : J1r u code c most := by
  unfold J1r
  refine ⟨?_, ?_⟩
  ·refine ⟨?_, ?_⟩
   ·refine J1k code c most ?_ ?_ ?_
    ·exact hb
    ·exact J6 (by assumption) (by omega)
    ·omega
   ·intro Or1 Dr1 cfr1 hQ9
    obtain ⟨f1r1, f2r1⟩ := hQ9
    refine ⟨rfl, ?_⟩
    ·refine ⟨([]), cfr1, Or1, Dr1, ?_⟩
     refine ⟨?_, rfl, ?_, rfl, rfl, rfl, rfl, rfl, rfl, rfl⟩
     ·refine ⟨?_, ?_, ?_⟩
      ·rfl
      ·exact J6 (by assumption) (by omega)
      ·assumption
     rfl
  intro pl c0 O0 D0 hJ
  obtain ⟨p1, p2, d0⟩ := hJ
  refine ⟨?_, ?_⟩
  ·refine ⟨?_, ?_⟩
   ·refine ⟨pl, 0, c0, ?_⟩
    refine ⟨?_, rfl, rfl, rfl, rfl, rfl, rfl, rfl, rfl, rfl, rfl⟩
    ·refine ⟨?_, ?_, ?_, ?_, ?_⟩
     ·omega
     ·omega
     ·(simp_all; done)
     ·(rw [p1]; intro y hy; cases hy)
     ·exact J6 (by assumption) (by omega)
   ·intro pl2 a c1 hJ
    obtain ⟨h1, h2, h3, h4, h5⟩ := hJ
    refine ⟨?_, ?_⟩
    ·intro b1
     try simp only [nrmT] at b1
     refine ⟨?_, rfl, rfl, ?_, ?_, ?_⟩
     ·refine Jp code c1 20 ?_ ?_
      ·exact hb
      ·(have q9 := d0.1; exact J6 (by repeat (first | assumption | apply J6q | apply Jh | apply J0U | exact J7k)) (by omega))
     ·have q := d0.1; omega
     ·(have q := d0.1; omega)
     refine ⟨(pl2 ++ [(J3 code c1 20)]), (a + 1), (J1 code c1 20), ?_⟩
     refine ⟨?_, ?_, ?_, rfl, rfl, rfl, rfl, rfl, rfl, rfl, rfl, rfl⟩
     ·refine ⟨?_, ?_, ?_, ?_, ?_⟩
      ·omega
      ·omega
      ·(simp_all <;> omega)
      ·refine J7K (by assumption) ?_
       exact Jq code c1 (n := 20) (by omega)
      ·exact J6 (Jh (by assumption)) (by omega)
     ·(simp only [J0h]; omega)
     simp
    intro b2
    try simp only [nrmT] at b2
    refine ⟨pl2, c1, ?_⟩
    refine ⟨?_, rfl, rfl, rfl, rfl, rfl, rfl, rfl, rfl, rfl⟩
    ·refine ⟨?_, ?_, ?_⟩
     ·(have q9 := d0.1; exact J6 (by repeat (first | assumption | apply J6q | apply Jh | apply J0U | exact J7k)) (by omega))
     ·omega
     ·assumption
  intro pl1 c2 hJ
  obtain ⟨p4, p5, p3⟩ := hJ
  refine ⟨?_, ?_⟩
  ·refine ⟨0, c2, O0, D0, ?_⟩
   refine ⟨?_, rfl, rfl, rfl, rfl, rfl, rfl, rfl, rfl, rfl, rfl⟩
   ·refine ⟨?_, ?_, ?_, ?_, ?_⟩
    ·omega
    ·omega
    ·assumption
    ·omega
    ·exact J6 (by assumption) (by omega)
  intro i c3 O1 D1 hJ
  obtain ⟨k1, k2, d1, k6, k5⟩ := hJ
  refine ⟨?_, ?_⟩
  ·intro b3
   try simp only [nrmT] at b3
   refine ⟨?_, ?_⟩
   ·refine ⟨?_, ?_⟩
    ·refine Jp code c3 20 ?_ ?_
     ·exact hb
     ·(have q9 := d1.2.1; exact J6 (by repeat (first | assumption | apply J6q | apply Jh | apply J0U | exact J7k)) (by omega))
    ·refine ⟨(J3 code c3 20), (J1 code c3 20), ?_⟩
     refine ⟨?_, rfl, rfl, rfl, rfl, rfl, rfl, rfl, rfl, rfl, rfl, rfl⟩
     ·refine ⟨?_, ?_⟩
      ·exact Jq code _ (n := 20) (by omega)
      ·exact J6 (Jh (by assumption)) (by omega)
   intro x c5 hJ
   obtain ⟨x1, x2⟩ := hJ
   refine ⟨?_, ?_⟩
   ·refine ⟨0, D1, ?_⟩
    refine ⟨?_, rfl, rfl, rfl, rfl, rfl, rfl, rfl, rfl, rfl, rfl, rfl, rfl⟩
    ·refine ⟨?_, ?_, ?_, ?_⟩
     ·omega
     ·have := d1.1; omega
     ·assumption
     ·omega
   intro a2 D2 hJ
   obtain ⟨m1, m2, d2, m3⟩ := hJ
   refine ⟨?_, ?_⟩
   ·intro b4
    try simp only [nrmT] at b4
    refine ⟨rfl, ?_, ?_, ?_, ?_, ?_, ?_, ?_, ?_, ?_, ?_, ?_, J3M (x - (pl1.getD a2.toNat 0)) ((pl1.getD a2.toNat 0) - x), ?_, ?_, ?_, ?_, ?_, ?_⟩
    ·omega
    ·omega
    ·omega
    ·omega
    ·omega
    ·omega
    ·have q := p3 _ (getD_mem (d := 0) (show a2.toNat < pl1.length by omega))
     have q2 := x1
     omega
    ·omega
    ·omega
    ·omega
    ·have q := p3 _ (getD_mem (d := 0) (show a2.toNat < pl1.length by omega))
     have q2 := x1
     omega
    ·omega
    ·have q := (Je d2 (i := i.toNat) (a := a2.toNat) (by omega) (by omega)).1
     omega
    ·omega
    ·have q := (Je d2 (i := i.toNat) (a := a2.toNat) (by omega) (by omega)).1
     omega
    ·(have q := d1.1; have q2 := d1.2.1; omega)
    refine ⟨(a2 + 1), (D2.set i.toNat ((D2.getD i.toNat []).set a2.toNat (max (x - (pl1.getD a2.toNat 0)) ((pl1.getD a2.toNat 0) - x)))), ?_⟩
    refine ⟨?_, ?_, rfl, rfl, rfl, rfl, rfl, rfl, rfl, rfl, rfl, ?_, rfl, rfl⟩
    ·refine ⟨?_, ?_, ?_, ?_⟩
     ·omega
     ·have := d1.1; omega
     ·refine Jbl (by assumption) (by omega) ?_
      have q := p3 _ (getD_mem (d := 0) (show a2.toNat < pl1.length by omega))
      omega
     ·simp; try omega
    ·(simp only [J0j]; omega)
    (simp_all; done)
   intro b5
   try simp only [nrmT] at b5
   refine ⟨?_, ?_⟩
   ·(have q := d1.1; have q2 := d1.2.1; omega)
   refine ⟨(i + 1), c5, O1, D2, ?_⟩
   refine ⟨?_, ?_, rfl, rfl, rfl, rfl, rfl, rfl, rfl, rfl, rfl, rfl⟩
   ·refine ⟨?_, ?_, ?_, ?_, ?_⟩
    ·omega
    ·omega
    ·assumption
    ·have := d1.1; omega
    ·exact J6 (by assumption) (by omega)
   (simp only [J0g]; omega)
  intro b6
  try simp only [nrmT] at b6
  refine ⟨O1, D1, c3, ?_⟩
  refine ⟨?_, rfl, rfl, rfl, rfl, rfl, rfl, rfl, rfl⟩
  ·refine ⟨?_, ?_⟩
   ·(have q9 := d1.2.1; exact J6 (by repeat (first | assumption | apply J6q | apply Jh | apply J0U | exact J7k)) (by omega))
   ·assumption
theorem J5c (code : List Nat) (c : Cur) (most : Int) (hb : ∀ x9 ∈ code, x9 < 256) (hc : okC c 3000000) (hm : 0 ≤ most ∧ most ≤ 7) : PKE Tryz.prog 186 76 (.sl (.bytes code)) [.int .i64 c.pos, .int .u64 c.seed] [.int .i64 most] (J1y code c most) :=
  pke_by (Q := fun u => J1r u code c most) (by kernel_rfl) Tryz.func186 @Tryz.call186 (by kernel_rfl) J5C (fun u => J5D u code c most) (by kernel_rfl) (fun u => J5m u code c most hb hc hm) (fun u => by kernel_rfl)
abbrev J0N (u : Value) (code : List Nat) (c : Cur) (U : ZI) (E : ZR) (aa : Int) (c1 : Cur) (O1 : ZI) (D1 : ZR) : Prop := (D1.length ≤ 8) ∧ (O1.length ≤ 7)
abbrev J0J (u : Value) (code : List Nat) (c : Cur) (U : ZI) (E : ZR) (aa : Int) (c1 : Cur) (O1 : ZI) (D1 : ZR) : Nat := 8 - D1.length
abbrev J1v (u : Value) (code : List Nat) (c : Cur) (U : ZI) (E : ZR) (aa : Int) (c1 : Cur) : Prop := (0 ≤ aa ∧ aa < (U.length : Int)) ∧ (okC c1 7000100)
abbrev Jr (code : List Nat) (c : Cur) (U : ZI) (E : ZR) (O : ZI) (D : ZR) (ch : Cur) : Prop := (okC ch 8000000) ∧ (O.length ≤ 8) ∧ (D.length ≤ 8)
def JQ (code : List Nat) (c : Cur) (U : ZI) (E : ZR) : Ex := ex3 2 (fun (O : ZI) (D : ZR) (ch : Cur) => Jr code c U E O D ch) (fun (O : ZI) (D : ZR) (ch : Cur) => [.int .i64 ch.pos, .int .u64 ch.seed]) (fun (O : ZI) (D : ZR) (ch : Cur) => .agg [.own 3 (.ints O), .mat 3 24 D])
def J6W (f : FuncId) (ds : List D) : Orc := bif Nat.beq f 98 then J2o ds else .no
def J6C (u : Value) (code : List Nat) (c : Cur) (U : ZI) (E : ZR) : Ann := .two (.none) (.two (.none) (.cut (.mark [] [(4, .cell [.int .i64 ((J1 code c (U.length : Int)).pos), .int .u64 ((J1 code c (U.length : Int)).seed)] (.one (.d (.int .i64 (J3 code c (U.length : Int))))))]) (cut2 (fun (aa : Int) (c1 : Cur) => J1v u code c U E aa c1) (fun (aa : Int) (c1 : Cur) => [(0, .ptr 0 0), (3, .ptr 3 0), (4, .ptr 4 0), (5, .d true (.int .i64 aa))]) (fun (aa : Int) (c1 : Cur) => [(0, .box 76 [.d false (.lit u (.sl (.bytes code))), .d true (.int .i64 c1.pos), .d true (.int .u64 c1.seed)]), (3, .box 27 [.own 1 U.length, .own 2 E.length]), (4, .box 27 [.d true (.nil), .d true (.nil)]), (1, .arr true 3 (.ints U)), (2, .mat 3 24 E none)])) (fun g => (fun (aa : Int) (c1 : Cur) => .two (.two (.mark [] [(1, .cell [.int .i64 ((J1 code c1 60).pos), .int .u64 ((J1 code c1 60).seed)] (.one (.d (.int .i64 (J3 code c1 60)))))]) (.two (.none) (.two (.reg [(5, .cell [.int .i64 ((J1 code (J1 code c1 60) (([(-1), 99, 100, 4611686018427387904]).length : Int)).pos), .int .u64 ((J1 code (J1 code c1 60) (([(-1), 99, 100, 4611686018427387904]).length : Int)).seed)] (.one (.d (.int .i64 (([(-1), 99, 100, 4611686018427387904]).getD (J3 code (J1 code c1 60) (([(-1), 99, 100, 4611686018427387904]).length : Int)).toNat 0)))))]) (.two (.none) (.two (.two (.none) (.two (.reg [(7, .cell [.int .i64 ((J1 code (J1 code c1 60) (([(-1), 99, 100, (-9223372036854775808)]).length : Int)).pos), .int .u64 ((J1 code (J1 code c1 60) (([(-1), 99, 100, (-9223372036854775808)]).length : Int)).seed)] (.one (.d (.int .i64 (([(-1), 99, 100, (-9223372036854775808)]).getD (J3 code (J1 code c1 60) (([(-1), 99, 100, (-9223372036854775808)]).length : Int)).toNat 0)))))]) (.none))) (.two (.none) (.two (.none) (.two (.none) (.two (.loop (cut2 (fun (O1 : ZI) (D1 : ZR) => J0N u code c U E aa c1 O1 D1) (fun (O1 : ZI) (D1 : ZR) => [(0, .ptr 0 0), (3, .ptr 3 0), (4, .ptr 4 0)]) (fun (O1 : ZI) (D1 : ZR) => [(0, .box 76 [.d false (.lit u (.sl (.bytes code))), .d true (.int .i64 ((J1 code c1 60).pos)), .d true (.int .u64 ((J1 code c1 60).seed))]), (1000000, .arr true 3 (.ints O1)), (1000001, .mat 3 24 D1 none), (3, .box 27 [.own 1000000 O1.length, .own 1000001 D1.length]), (4, .box 27 [.d true (.nil), .d true (.nil)])])) (fun g => J0J u code c U E aa c1 g.1 g.2) (fun _ => .none)) (.none)))))))))) (.none)) (g.1) (g.2))))
def J2h (u : Value) (code : List Nat) (c : Cur) (U : ZI) (E : ZR) : Prop :=
  ((((U.length : Int) == 0) = true → (∃ O' : ZI, ∃ D' : ZR, ∃ ch' : Cur, (Jr code c U E O' D' ch') ∧ (true = true) ∧ ((.lit u (.sl (.bytes code)) : D) = .lit u (.sl (.bytes code))) ∧ (c.pos = ch'.pos) ∧ (c.seed = ch'.seed) ∧ (U.length = U.length) ∧ ((U : ZI) = O') ∧ (E.length = E.length) ∧ ((E : ZR) = D'))) ∧ (((U.length : Int) == 0) = false → (((PK Tryz.prog 156 76 (.sl (.bytes code)) [.int .i64 c.pos, .int .u64 c.seed] [.int .i64 ((J1 code c (U.length : Int)).pos), .int .u64 ((J1 code c (U.length : Int)).seed)] [.int .i64 (U.length : Int)] (.one (.d (.int .i64 (J3 code c (U.length : Int)))))) ∧ (∃ aa' : Int, ∃ c1' : Cur, (J1v u code c U E aa' c1') ∧ ((J3 code c (U.length : Int)) = aa') ∧ ((.lit u (.sl (.bytes code)) : D) = .lit u (.sl (.bytes code))) ∧ ((J1 code c (U.length : Int)).pos = c1'.pos) ∧ ((J1 code c (U.length : Int)).seed = c1'.seed) ∧ (U.length = U.length) ∧ (E.length = E.length) ∧ (U = U) ∧ (E = E))) ∧ (∀ aa : Int, ∀ c1 : Cur, (J1v u code c U E aa c1) → (PK Tryz.prog 156 76 (.sl (.bytes code)) [.int .i64 c1.pos, .int .u64 c1.seed] [.int .i64 ((J1 code c1 60).pos), .int .u64 ((J1 code c1 60).seed)] [.int .i64 60] (.one (.d (.int .i64 (J3 code c1 60))))) ∧ ((((J3 code c1 60) == 0) = true → (true = true) ∧ ((4 : Nat) = 4) ∧ (PK Tryz.prog 155 76 (.sl (.bytes code)) [.int .i64 ((J1 code c1 60).pos), .int .u64 ((J1 code c1 60).seed)] [.int .i64 ((J1 code (J1 code c1 60) (([(-1), 99, 100, 4611686018427387904]).length : Int)).pos), .int .u64 ((J1 code (J1 code c1 60) (([(-1), 99, 100, 4611686018427387904]).length : Int)).seed)] [.sl (.ints ([(-1), 99, 100, 4611686018427387904]))] (.one (.d (.int .i64 (([(-1), 99, 100, 4611686018427387904]).getD (J3 code (J1 code c1 60) (([(-1), 99, 100, 4611686018427387904]).length : Int)).toNat 0))))) ∧ ((0 : Int) ≤ aa) ∧ ((aa : Int) < (U.length : Int)) ∧ (aa.toNat < U.length) ∧ (∃ O' : ZI, ∃ D' : ZR, ∃ ch' : Cur, (Jr code c U E O' D' ch') ∧ (true = true) ∧ ((.lit u (.sl (.bytes code)) : D) = .lit u (.sl (.bytes code))) ∧ ((J1 code (J1 code c1 60) (([(-1), 99, 100, 4611686018427387904]).length : Int)).pos = ch'.pos) ∧ ((J1 code (J1 code c1 60) (([(-1), 99, 100, 4611686018427387904]).length : Int)).seed = ch'.seed) ∧ (U.length = (U.set aa.toNat (([(-1), 99, 100, 4611686018427387904]).getD (J3 code (J1 code c1 60) (([(-1), 99, 100, 4611686018427387904]).length : Int)).toNat 0)).length) ∧ (((U.set aa.toNat (([(-1), 99, 100, 4611686018427387904]).getD (J3 code (J1 code c1 60) (([(-1), 99, 100, 4611686018427387904]).length : Int)).toNat 0)) : ZI) = O') ∧ (E.length = E.length) ∧ ((E : ZR) = D'))) ∧ (((J3 code c1 60) == 0) = false → ((((J3 code c1 60) == 1) = true → (((decide ((E.length : Int) > 0)) = true → (true = true) ∧ ((0 : Int) ≤ 0) ∧ ((0 : Int) < (E.length : Int)) ∧ (0 < E.length) ∧ ((4 : Nat) = 4) ∧ (PK Tryz.prog 155 76 (.sl (.bytes code)) [.int .i64 ((J1 code c1 60).pos), .int .u64 ((J1 code c1 60).seed)] [.int .i64 ((J1 code (J1 code c1 60) (([(-1), 99, 100, (-9223372036854775808)]).length : Int)).pos), .int .u64 ((J1 code (J1 code c1 60) (([(-1), 99, 100, (-9223372036854775808)]).length : Int)).seed)] [.sl (.ints ([(-1), 99, 100, (-9223372036854775808)]))] (.one (.d (.int .i64 (([(-1), 99, 100, (-9223372036854775808)]).getD (J3 code (J1 code c1 60) (([(-1), 99, 100, (-9223372036854775808)]).length : Int)).toNat 0))))) ∧ ((0 : Int) ≤ aa) ∧ ((aa : Int) < (((E.getD 0 []).length) : Int)) ∧ (0 < E.length) ∧ (aa.toNat < (E.getD 0 []).length) ∧ (∃ O' : ZI, ∃ D' : ZR, ∃ ch' : Cur, (Jr code c U E O' D' ch') ∧ (true = true) ∧ ((.lit u (.sl (.bytes code)) : D) = .lit u (.sl (.bytes code))) ∧ ((J1 code (J1 code c1 60) (([(-1), 99, 100, (-9223372036854775808)]).length : Int)).pos = ch'.pos) ∧ ((J1 code (J1 code c1 60) (([(-1), 99, 100, (-9223372036854775808)]).length : Int)).seed = ch'.seed) ∧ (U.length = U.length) ∧ ((U : ZI) = O') ∧ (E.length = (E.set 0 ((E.getD 0 []).set aa.toNat (([(-1), 99, 100, (-9223372036854775808)]).getD (J3 code (J1 code c1 60) (([(-1), 99, 100, (-9223372036854775808)]).length : Int)).toNat 0))).length) ∧ (((E.set 0 ((E.getD 0 []).set aa.toNat (([(-1), 99, 100, (-9223372036854775808)]).getD (J3 code (J1 code c1 60) (([(-1), 99, 100, (-9223372036854775808)]).length : Int)).toNat 0))) : ZR) = D'))) ∧ ((decide ((E.length : Int) > 0)) = false → (∃ O' : ZI, ∃ D' : ZR, ∃ ch' : Cur, (Jr code c U E O' D' ch') ∧ (true = true) ∧ ((.lit u (.sl (.bytes code)) : D) = .lit u (.sl (.bytes code))) ∧ ((J1 code c1 60).pos = ch'.pos) ∧ ((J1 code c1 60).seed = ch'.seed) ∧ (U.length = U.length) ∧ ((U : ZI) = O') ∧ (E.length = E.length) ∧ ((E : ZR) = D'))))) ∧ (((J3 code c1 60) == 1) = false → ((((J3 code c1 60) == 2) = true → (U.length = U.length) ∧ ((1 : Nat) = 1) ∧ ((U.length + 1) * 8 ≤ 140737488355328) ∧ (∃ O' : ZI, ∃ D' : ZR, ∃ ch' : Cur, (Jr code c U E O' D' ch') ∧ (true = true) ∧ ((.lit u (.sl (.bytes code)) : D) = .lit u (.sl (.bytes code))) ∧ ((J1 code c1 60).pos = ch'.pos) ∧ ((J1 code c1 60).seed = ch'.seed) ∧ ((U.length + 1) = (U ++ [1]).length) ∧ (((U ++ [1]) : ZI) = O') ∧ (E.length = E.length) ∧ ((E : ZR) = D'))) ∧ (((J3 code c1 60) == 2) = false → ((((J3 code c1 60) == 3) = true → ((∃ O1' : ZI, ∃ D1' : ZR, (J0N u code c U E aa c1 O1' D1') ∧ ((.lit u (.sl (.bytes code)) : D) = .lit u (.sl (.bytes code))) ∧ ((J1 code c1 60).pos = (J1 code c1 60).pos) ∧ ((J1 code c1 60).seed = (J1 code c1 60).seed) ∧ (U = O1') ∧ (E = D1') ∧ (U.length = O1'.length) ∧ (E.length = D1'.length)) ∧ (∀ O1 : ZI, ∀ D1 : ZR, (J0N u code c U E aa c1 O1 D1) → (((decide ((D1.length : Int) < 8)) = true → (true = true) ∧ (O1.length = O1.length) ∧ (PC Tryz.prog 98 [.sl (.ints O1)] (.one (.own 3 (.ints O1)))) ∧ (O1.length = O1.length) ∧ (D1.length = D1.length) ∧ ((1 : Nat) = 1) ∧ (0 < 1) ∧ ((D1.length + 1) * 24 ≤ 140737488355328) ∧ (∃ O1' : ZI, ∃ D1' : ZR, (J0N u code c U E aa c1 O1' D1') ∧ (J0J u code c U E aa c1 O1' D1' < J0J u code c U E aa c1 O1 D1) ∧ ((.lit u (.sl (.bytes code)) : D) = .lit u (.sl (.bytes code))) ∧ ((J1 code c1 60).pos = (J1 code c1 60).pos) ∧ ((J1 code c1 60).seed = (J1 code c1 60).seed) ∧ (O1 = O1') ∧ ((D1 ++ [O1]) = D1') ∧ (O1.length = O1'.length) ∧ ((D1.length + 1) = D1'.length))) ∧ ((decide ((D1.length : Int) < 8)) = false → (∃ O' : ZI, ∃ D' : ZR, ∃ ch' : Cur, (Jr code c U E O' D' ch') ∧ (true = true) ∧ ((.lit u (.sl (.bytes code)) : D) = .lit u (.sl (.bytes code))) ∧ ((J1 code c1 60).pos = ch'.pos) ∧ ((J1 code c1 60).seed = ch'.seed) ∧ (O1.length = O1.length) ∧ ((O1 : ZI) = O') ∧ (D1.length = D1.length) ∧ ((D1 : ZR) = D'))))))) ∧ (((J3 code c1 60) == 3) = false → ((((J3 code c1 60) == 4) = true → (∃ O' : ZI, ∃ D' : ZR, ∃ ch' : Cur, (Jr code c U E O' D' ch') ∧ (true = true) ∧ ((.lit u (.sl (.bytes code)) : D) = .lit u (.sl (.bytes code))) ∧ ((J1 code c1 60).pos = ch'.pos) ∧ ((J1 code c1 60).seed = ch'.seed) ∧ (O'.length = 0) ∧ (D'.length = 0))) ∧ (((J3 code c1 60) == 4) = false → (∃ O' : ZI, ∃ D' : ZR, ∃ ch' : Cur, (Jr code c U E O' D' ch') ∧ (true = true) ∧ ((.lit u (.sl (.bytes code)) : D) = .lit u (.sl (.bytes code))) ∧ ((J1 code c1 60).pos = ch'.pos) ∧ ((J1 code c1 60).seed = ch'.seed) ∧ (U.length = U.length) ∧ ((U : ZI) = O') ∧ (E.length = E.length) ∧ ((E : ZR) = D'))))))))))))))))
theorem J5S (u : Value) (code : List Nat) (c : Cur) (U : ZI) (E : ZR) (hb : ∀ x9 ∈ code, x9 < 256) (hc : okC c 7000000) (hf : drF U E)  : J2h u code c U E := by
  unfold J2h
  refine ⟨?_, ?_⟩
  ·intro b1
   try simp only [nrmT] at b1
   refine ⟨U, E, c, ?_⟩
   refine ⟨?_, rfl, rfl, rfl, rfl, rfl, rfl, rfl, rfl⟩
   ·refine ⟨?_, ?_, ?_⟩
    ·exact J6 (by assumption) (by omega)
    ·(have := hf.1; have := hf.2.1; omega)
    ·(have := hf.1; have := hf.2.1; omega)
  intro b2
  try simp only [nrmT] at b2
  refine ⟨?_, ?_⟩
  ·refine ⟨?_, ?_⟩
   ·refine Jp code c (U.length : Int) ?_ ?_
    ·exact hb
    ·exact J6 (by assumption) (by omega)
   ·refine ⟨(J3 code c (U.length : Int)), (J1 code c (U.length : Int)), ?_⟩
    refine ⟨?_, rfl, rfl, rfl, rfl, rfl, rfl, rfl, rfl⟩
    ·refine ⟨?_, ?_⟩
     ·exact Jq code _ (by omega)
     ·exact J6 (Jh (by assumption)) (by omega)
  intro aa c1 hJ
  obtain ⟨a1, a2⟩ := hJ
  refine ⟨?_, ?_, ?_⟩
  ·refine Jp code c1 60 ?_ ?_
   ·exact hb
   ·exact J6 (by assumption) (by omega)
  ·intro b3
   try simp only [nrmT] at b3
   refine ⟨rfl, rfl, ?_, ?_, ?_, ?_, ?_⟩
   ·refine JC code (J1 code c1 60) ([(-1), 99, 100, 4611686018427387904]) ?_ ?_ ?_
    ·exact hb
    ·exact J6 (Jh (by assumption)) (by omega)
    ·simp
   ·omega
   ·omega
   ·omega
   refine ⟨(U.set aa.toNat (([(-1), 99, 100, 4611686018427387904]).getD (J3 code (J1 code c1 60) (([(-1), 99, 100, 4611686018427387904]).length : Int)).toNat 0)), E, (J1 code (J1 code c1 60) (([(-1), 99, 100, 4611686018427387904]).length : Int)), ?_⟩
   refine ⟨?_, rfl, rfl, rfl, rfl, ?_, rfl, rfl, rfl⟩
   ·refine ⟨?_, ?_, ?_⟩
    ·exact J6 (Jh (Jh (by assumption))) (by omega)
    ·(have := hf.1; have := hf.2.1; simp; try omega)
    ·(have := hf.1; have := hf.2.1; omega)
   simp; try omega
  intro b4
  try simp only [nrmT] at b4
  refine ⟨?_, ?_⟩
  ·intro b5
   try simp only [nrmT] at b5
   refine ⟨?_, ?_⟩
   ·intro b6
    try simp only [nrmT] at b6
    refine ⟨rfl, ?_, ?_, ?_, rfl, ?_, ?_, ?_, ?_, ?_, ?_⟩
    ·omega
    ·have := hf.2.1; omega
    ·have := hf.2.1; omega
    ·refine JC code (J1 code c1 60) ([(-1), 99, 100, (-9223372036854775808)]) ?_ ?_ ?_
     ·exact hb
     ·exact J6 (Jh (by assumption)) (by omega)
     ·simp
    ·omega
    ·have q := (Je hf (i := 0) (a := aa.toNat) (by omega) (by omega)).1
     omega
    ·have := hf.2.1; omega
    ·have q := (Je hf (i := 0) (a := aa.toNat) (by omega) (by omega)).1
     omega
    refine ⟨U, (E.set 0 ((E.getD 0 []).set aa.toNat (([(-1), 99, 100, (-9223372036854775808)]).getD (J3 code (J1 code c1 60) (([(-1), 99, 100, (-9223372036854775808)]).length : Int)).toNat 0))), (J1 code (J1 code c1 60) (([(-1), 99, 100, (-9223372036854775808)]).length : Int)), ?_⟩
    refine ⟨?_, rfl, rfl, rfl, rfl, rfl, rfl, ?_, rfl⟩
    ·refine ⟨?_, ?_, ?_⟩
     ·exact J6 (Jh (Jh (by assumption))) (by omega)
     ·(have := hf.1; have := hf.2.1; omega)
     ·(have := hf.1; have := hf.2.1; simp; try omega)
    simp; try omega
   intro b7
   try simp only [nrmT] at b7
   refine ⟨U, E, (J1 code c1 60), ?_⟩
   refine ⟨?_, rfl, rfl, rfl, rfl, rfl, rfl, rfl, rfl⟩
   ·refine ⟨?_, ?_, ?_⟩
    ·exact J6 (Jh (by assumption)) (by omega)
    ·(have := hf.1; have := hf.2.1; omega)
    ·(have := hf.1; have := hf.2.1; omega)
  intro b8
  try simp only [nrmT] at b8
  refine ⟨?_, ?_⟩
  ·intro b9
   try simp only [nrmT] at b9
   refine ⟨rfl, rfl, ?_, ?_⟩
   ·have := hf.1; omega
   refine ⟨(U ++ [1]), E, (J1 code c1 60), ?_⟩
   refine ⟨?_, rfl, rfl, rfl, rfl, ?_, rfl, rfl, rfl⟩
   ·refine ⟨?_, ?_, ?_⟩
    ·exact J6 (Jh (by assumption)) (by omega)
    ·(have := hf.1; have := hf.2.1; simp; try omega)
    ·(have := hf.1; have := hf.2.1; omega)
   simp
  intro b10
  try simp only [nrmT] at b10
  refine ⟨?_, ?_⟩
  ·intro b11
   try simp only [nrmT] at b11
   refine ⟨?_, ?_⟩
   ·refine ⟨U, E, ?_⟩
    refine ⟨?_, rfl, rfl, rfl, rfl, rfl, rfl, rfl⟩
    ·refine ⟨?_, ?_⟩
     ·(have := hf.1; have := hf.2.1; omega)
     ·(have := hf.1; have := hf.2.1; omega)
   intro O1 D1 hJ
   obtain ⟨h1, h2⟩ := hJ
   refine ⟨?_, ?_⟩
   ·intro b12
    try simp only [nrmT] at b12
    refine ⟨rfl, rfl, ?_, rfl, rfl, rfl, by decide, ?_, ?_⟩
    ·refine J29 O1 ?_
     ·omega
    ·omega
    refine ⟨O1, (D1 ++ [O1]), ?_⟩
    refine ⟨?_, ?_, rfl, rfl, rfl, rfl, rfl, rfl, ?_⟩
    ·refine ⟨?_, ?_⟩
     ·(have := hf.1; have := hf.2.1; simp; try omega)
     ·assumption
    ·(simp only [J0J] at *; simp at *; omega)
    simp
   intro b13
   try simp only [nrmT] at b13
   refine ⟨O1, D1, (J1 code c1 60), ?_⟩
   refine ⟨?_, rfl, rfl, rfl, rfl, rfl, rfl, rfl, rfl⟩
   ·refine ⟨?_, ?_, ?_⟩
    ·exact J6 (Jh (by assumption)) (by omega)
    ·(have := hf.1; have := hf.2.1; omega)
    ·assumption
  intro b14
  try simp only [nrmT] at b14
  refine ⟨?_, ?_⟩
  ·intro b15
   try simp only [nrmT] at b15
   refine ⟨[], [], (J1 code c1 60), ?_⟩
   refine ⟨?_, rfl, rfl, rfl, rfl, rfl, rfl⟩
   ·refine ⟨?_, ?_, ?_⟩
    ·exact J6 (Jh (by assumption)) (by omega)
    ·(have := hf.1; have := hf.2.1; simp; try omega)
    ·(have := hf.1; have := hf.2.1; simp; try omega)
  intro b16
  try simp only [nrmT] at b16
  refine ⟨U, E, (J1 code c1 60), ?_⟩
  refine ⟨?_, rfl, rfl, rfl, rfl, rfl, rfl, rfl, rfl⟩
  ·refine ⟨?_, ?_, ?_⟩
   ·exact J6 (Jh (by assumption)) (by omega)
   ·(have := hf.1; have := hf.2.1; omega)
   ·(have := hf.1; have := hf.2.1; omega)
theorem J1q (code : List Nat) (c : Cur) (U : ZI) (E : ZR) (hb : ∀ x9 ∈ code, x9 < 256) (hc : okC c 7000000) (hf : drF U E) : PKV Tryz.prog 232 76 (.sl (.bytes code)) [.int .i64 c.pos, .int .u64 c.seed] 3 U 3 24 E (JQ code c U E) :=
  pkv_by (Q := fun u => J2h u code c U E) (by kernel_rfl) Tryz.func232 @Tryz.call232 (by kernel_rfl) J6W (fun u => J6C u code c U E) (by kernel_rfl) (fun u => J5S u code c U E hb hc hf) (fun u => by kernel_rfl)
theorem Jbv {α : Type} {l : List α} {i : Int} {d : α} (h0 : 0 ≤ i) (h : i < (l.length : Int)) : l.take i.toNat ++ [l.getD i.toNat d] = l.take (i + 1).toNat := (take_step h0 h).symm
abbrev J3z (U : ZI) (E : ZR) (i : Int) (O1 : ZI) (D1 : ZR) : Prop := (0 ≤ i) ∧ (i ≤ (E.length : Int)) ∧ (O1 = U) ∧ (D1 = E.take i.toNat)
abbrev J3y (U : ZI) (E : ZR) (i : Int) (O1 : ZI) (D1 : ZR) : Nat := (E.length - i).toNat
def Jcd (f : FuncId) (ds : List D) : Orc := bif Nat.beq f 98 then J2o ds else .no
def Jcx (U : ZI) (E : ZR) : Ann := .two (.none) (.two (.none) (.two (.two (.none) (.loop (cut3 (fun (i : Int) (O1 : ZI) (D1 : ZR) => J3z U E i O1 D1) (fun (i : Int) (O1 : ZI) (D1 : ZR) => [(1, .ptr 1 0), (2, .ptr 2 0), (3, .ptr 3 0), (4, .d true (.int .i64 i))]) (fun (i : Int) (O1 : ZI) (D1 : ZR) => [(1, .box 27 [.d false (.sl (.ints U)), .d false (.sl (.rows E))]), (2, .box 27 [.d true (.nil), .d true (.nil)]), (1000001, .arr true 3 (.ints O1)), (1000002, .mat 3 24 D1 none), (3, .box 27 [.own 1000001 O1.length, .own 1000002 D1.length])])) (fun g => J3y U E g.1 g.2.1 g.2.2) (fun _ => .none))) (.none)))
def J9n (U : ZI) (E : ZR) : Prop :=
  (PC Tryz.prog 98 [.sl (.ints U)] (.one (.own 3 (.ints U)))) ∧ ((∃ i' : Int, ∃ O1' : ZI, ∃ D1' : ZR, (J3z U E i' O1' D1') ∧ ((0 : Int) = i') ∧ (U = U) ∧ (E = E) ∧ (U = O1') ∧ ((D1').length = 0) ∧ (U.length = O1'.length) ∧ ((0 : Nat) = D1'.length)) ∧ (∀ i : Int, ∀ O1 : ZI, ∀ D1 : ZR, (J3z U E i O1 D1) → (((decide (i < (E.length : Int))) = true → (true = true) ∧ ((0 : Int) ≤ i) ∧ ((i : Int) < E.length) ∧ (i.toNat < E.length) ∧ (PC Tryz.prog 98 [.sl (.ints (E.getD i.toNat []))] (.one (.own 3 (.ints (E.getD i.toNat []))))) ∧ ((E.getD i.toNat []).length = (E.getD i.toNat []).length) ∧ (D1.length = D1.length) ∧ ((1 : Nat) = 1) ∧ (0 < 1) ∧ ((D1.length + 1) * 24 ≤ 140737488355328) ∧ (I6 (i + 1)) ∧ (∃ i' : Int, ∃ O1' : ZI, ∃ D1' : ZR, (J3z U E i' O1' D1') ∧ (J3y U E i' O1' D1' < J3y U E i O1 D1) ∧ ((i + 1) = i') ∧ (U = U) ∧ (E = E) ∧ (O1 = O1') ∧ ((D1 ++ [(E.getD i.toNat [])]) = D1') ∧ (O1.length = O1'.length) ∧ ((D1.length + 1) = D1'.length))) ∧ ((decide (i < (E.length : Int))) = false → ((O1.length = O1.length) ∧ ((O1 : ZI) = U) ∧ (D1.length = D1.length) ∧ ((D1 : ZR) = E))))))
theorem JbY (U : ZI) (E : ZR) (hl : U.length ≤ 1048576) (hd : E.length ≤ 1048576) (hr : ∀ r ∈ E, r.length ≤ 1048576) (w_Open : (U.length : Int) ≤ 9223372036854775807) (w_Dist : (E.length : Int) ≤ 9223372036854775807) (v_Dist : ∀ x9 ∈ E, (x9.length : Int) ≤ 9223372036854775807) : J9n U E := by
  unfold J9n
  refine ⟨?_, ?_, ?_⟩
  ·refine J29 U ?_
   ·omega
  ·refine ⟨0, U, ([]), ?_⟩
   refine ⟨?_, rfl, rfl, rfl, rfl, ?_, rfl, rfl⟩
   ·refine ⟨?_, ?_, ?_, ?_⟩
    ·omega
    ·omega
    ·rfl
    ·simp
   rfl
  intro i O1 D1 hJ
  obtain ⟨h1, h2, h3, h4⟩ := hJ
  refine ⟨?_, ?_⟩
  ·intro b1
   try simp only [nrmT] at b1
   refine ⟨rfl, ?_, ?_, ?_, ?_, rfl, rfl, rfl, by decide, ?_, ?_, ?_⟩
   ·omega
   ·omega
   ·omega
   ·refine J29 (E.getD i.toNat []) ?_
    ·exact hr _ (getD_memI h1 (by omega))
   ·rw [h4, List.length_take]; omega
   ·omega
   refine ⟨(i + 1), O1, (D1 ++ [(E.getD i.toNat [])]), ?_⟩
   refine ⟨?_, ?_, rfl, rfl, rfl, rfl, rfl, rfl, ?_⟩
   ·refine ⟨?_, ?_, ?_, ?_⟩
    ·omega
    ·omega
    ·exact h3
    ·rw [h4]; exact Jbv h1 (by omega)
   ·(simp only [J3y]; omega)
   simp
  intro b2
  try simp only [nrmT] at b2
  refine ⟨rfl, ?_, rfl, ?_⟩
  ·exact h3
  rw [h4, take_all (by omega)]
theorem Jc9 (U : ZI) (E : ZR) (hl : U.length ≤ 1048576) (hd : E.length ≤ 1048576) (hr : ∀ r ∈ E, r.length ≤ 1048576) : PC Tryz.prog 224 [.agg [.sl (.ints U), .sl (.rows E)]] (.agg [.own 3 (.ints U), .mat 3 24 E]) :=
  pc_wf @Tryz.call224 fun hw => pc_by (by kernel_rfl) Tryz.func224 @Tryz.call224 (by kernel_rfl) Jcd (Jcx U E) (by kernel_rfl) (JbY U E hl hd hr hw.1.1 hw.1.2.1.1 hw.1.2.1.2) (by kernel_rfl)
def Jbb : List D → Orc := orcN [none] fun ds => match ds with
  | [.agg [.sl (.ints U), .sl (.rows E)]] => some (.agg [.own 3 (.ints U), .mat 3 24 E])
  | _ => none
/-- A way by two other lengths is shorter. -/
def J2W (D : ZR) (i j a b : Nat) : Bool := decide ((D.getD i []).getD a 0 > (D.getD i []).getD b 0 + (D.getD j []).getD b 0 + (D.getD j []).getD a 0)
def Ja3 (n : Nat) (D : ZR) (i j a : Nat) : Bool := allTo (fun b => !J2W D i j a b) n
def J8R (n : Nat) (D : ZR) (i j : Nat) : Bool := allTo (Ja3 n D i j) n
def J5X (n : Nat) (D : ZR) (i : Nat) : Bool := allTo (J8R n D i) D.length
def J4q (n : Nat) (D : ZR) : Bool := allTo (J5X n D) D.length
def tot (D : ZR) : Int := (D.map fun r => J2H (fun y => y) r).sum
theorem J4w (r : ZI) (D : ZR) : tot (r :: D) = J2H (fun y => y) r + tot D := rfl
theorem J9W : ∀ {l : ZI} {k : Nat} {v : Int}, k < l.length → J2H (fun y => y) (l.set k v) = J2H (fun y => y) l - l.getD k 0 + v
  | x :: r, 0, v, _ => by rw [List.set_cons_zero, J1e, J1e, List.getD_cons_zero]; omega
  | x :: r, k + 1, v, h => by
    rw [List.set_cons_succ, J1e, J1e, List.getD_cons_succ, J9W (by simpa using h)]; omega
theorem Jbp : ∀ {D : ZR} {i : Nat} {r : ZI}, i < D.length → tot (D.set i r) = tot D - J2H (fun y => y) (D.getD i []) + J2H (fun y => y) r
  | x :: D, 0, r, _ => by rw [List.set_cons_zero, J4w, J4w, List.getD_cons_zero]; omega
  | x :: D, k + 1, r, h => by
    rw [List.set_cons_succ, J4w, J4w, List.getD_cons_succ, Jbp (by simpa using h)]; omega
theorem JbJ {D : ZR} (h : ∀ r ∈ D, ∀ x ∈ r, 0 ≤ x) : 0 ≤ tot D := by
  induction D with
  | nil => exact Int.le_refl _
  | cons r D ih =>
    rw [J4w]
    have h1 := JaE (f := fun y => y) (h r List.mem_cons_self)
    have h2 := ih fun r' hr => h r' (List.mem_cons_of_mem _ hr)
    omega
/-- A round under way: nothing was changed and nothing was found, or the sum fell. -/
def Clo (D0 D : ZR) (c : Bool) : Prop := (D = D0 ∧ c = true) ∨ tot D < tot D0
theorem Jat {O : ZI} {D0 D : ZR} (hf : drF O D) {i j a b : Nat} (hi : i < D.length) (hj : j < D.length) (ha : a < O.length) (hb : b < O.length) {c : Bool} (h : Clo D0 D (c && allTo (fun b => !J2W D0 i j a b) b)) :
    drF O (D.set i ((D.getD i []).set a (min ((D.getD i []).getD a 0) ((D.getD i []).getD b 0 + (D.getD j []).getD b 0 + (D.getD j []).getD a 0)))) ∧
    Clo D0 (D.set i ((D.getD i []).set a (min ((D.getD i []).getD a 0) ((D.getD i []).getD b 0 + (D.getD j []).getD b 0 + (D.getD j []).getD a 0)))) (c && allTo (fun b => !J2W D0 i j a b) (b + 1)) := by
  have e1 := Je hf hi ha
  have e2 := Je hf hi hb
  have e3 := Je hf hj hb
  have e4 := Je hf hj ha
  refine ⟨Jbl hf hi (by omega), ?_⟩
  have ht := Jbp (D := D) (i := i) (r := (D.getD i []).set a (min ((D.getD i []).getD a 0) ((D.getD i []).getD b 0 + (D.getD j []).getD b 0 + (D.getD j []).getD a 0))) hi
  rw [J9W (by omega)] at ht
  rcases h with ⟨rfl, hc⟩ | h
  · by_cases hx : (D.getD i []).getD a 0 ≤ (D.getD i []).getD b 0 + (D.getD j []).getD b 0 + (D.getD j []).getD a 0
    · left
      refine ⟨?_, ?_⟩
      · rw [Int.min_eq_left hx]
        have h1 : (D.getD i []).set a ((D.getD i []).getD a 0) = D.getD i [] := by
          rw [Js (show a < (D.getD i []).length by omega)]; exact List.set_getElem_self _
        rw [h1, Js hi]; exact List.set_getElem_self _
      rw [Bool.and_eq_true] at hc ⊢
      refine ⟨hc.1, ?_⟩
      have e : allTo (fun b => !J2W D i j a b) (b + 1) = (allTo (fun b => !J2W D i j a b) b && !J2W D i j a b) := rfl
      rw [e, hc.2, Bool.true_and]
      unfold J2W
      rw [decide_eq_false (by omega)]; rfl
    · right
      rw [Int.min_eq_right (by omega)] at ht ⊢
      omega
  right
  omega
theorem Jdj {D0 D : ZR} {n : Nat} (h : Clo D0 D (allTo (J5X n D0) D0.length)) (hm : J4q n D0 = false) : tot D < tot D0 := by
  rcases h with ⟨_, h⟩ | h
  · unfold J4q at hm
    rw [hm] at h; cases h
  exact h
theorem J3w {D0 D : ZR} {c c' : Bool} (h : Clo D0 D c) (hc : c = true → c' = true) : Clo D0 D c' := by
  rcases h with ⟨h1, h2⟩ | h
  · exact .inl ⟨h1, hc h2⟩
  exact .inr h
abbrev J26 (U : ZI) (E : ZR) (i : Int) : Prop := (0 ≤ i) ∧ (i ≤ (E.length : Int)) ∧ (allTo (J5X U.length E) i.toNat = true)
abbrev J28 (U : ZI) (E : ZR) (i : Int) : Nat := (E.length - i).toNat
abbrev J2c (U : ZI) (E : ZR) (i : Int) (j : Int) : Prop := (0 ≤ j) ∧ (j ≤ (E.length : Int)) ∧ (allTo (J8R U.length E i.toNat) j.toNat = true)
abbrev J27 (U : ZI) (E : ZR) (i : Int) (j : Int) : Nat := (E.length - j).toNat
abbrev J1Y (U : ZI) (E : ZR) (i : Int) (j : Int) (a : Int) : Prop := (0 ≤ a) ∧ (a ≤ (U.length : Int)) ∧ (allTo (Ja3 U.length E i.toNat j.toNat) a.toNat = true)
abbrev J1X (U : ZI) (E : ZR) (i : Int) (j : Int) (a : Int) : Nat := (U.length - a).toNat
abbrev J22 (U : ZI) (E : ZR) (i : Int) (j : Int) (a : Int) (b : Int) : Prop := (0 ≤ b) ∧ (b ≤ (U.length : Int)) ∧ (allTo (fun b => !J2W E i.toNat j.toNat a.toNat b) b.toNat = true)
abbrev J20 (U : ZI) (E : ZR) (i : Int) (j : Int) (a : Int) (b : Int) : Nat := (U.length - b).toNat
def Jah (f : FuncId) (ds : List D) : Orc := .no
def Jal (U : ZI) (E : ZR) : Ann := .two (.none) (.two (.two (.none) (.loop (cut1 (fun (i : Int) => J26 U E i) (fun (i : Int) => [(1, .ptr 1 0), (3, .d true (.int .i64 i))]) (fun (i : Int) => [(1, .box 27 [.d false (.sl (.ints U)), .d false (.sl (.rows E))])])) (fun g => J28 U E g) (fun g => (fun (i : Int) => .two (.none) (.two (.two (.none) (.loop (cut1 (fun (j : Int) => J2c U E i j) (fun (j : Int) => [(1, .ptr 1 0), (3, .d true (.int .i64 i)), (4, .d true (.int .i64 j))]) (fun (j : Int) => [(1, .box 27 [.d false (.sl (.ints U)), .d false (.sl (.rows E))])])) (fun g => J27 U E i g) (fun g => (fun (j : Int) => .two (.none) (.two (.two (.none) (.loop (cut1 (fun (a : Int) => J1Y U E i j a) (fun (a : Int) => [(1, .ptr 1 0), (3, .d true (.int .i64 i)), (4, .d true (.int .i64 j)), (5, .d true (.int .i64 a))]) (fun (a : Int) => [(1, .box 27 [.d false (.sl (.ints U)), .d false (.sl (.rows E))])])) (fun g => J1X U E i j g) (fun g => (fun (a : Int) => .two (.none) (.two (.two (.none) (.loop (cut1 (fun (b : Int) => J22 U E i j a b) (fun (b : Int) => [(1, .ptr 1 0), (3, .d true (.int .i64 i)), (4, .d true (.int .i64 j)), (5, .d true (.int .i64 a)), (6, .d true (.int .i64 b))]) (fun (b : Int) => [(1, .box 27 [.d false (.sl (.ints U)), .d false (.sl (.rows E))])])) (fun g => J20 U E i j a g) (fun _ => .none))) (.none))) g))) (.none))) g))) (.none))) g))) (.none))
def J6g (U : ZI) (E : ZR) : Prop :=
  ((∃ i' : Int, (J26 U E i') ∧ ((0 : Int) = i') ∧ (U = U) ∧ (E = E)) ∧ (∀ i : Int, (J26 U E i) → (((decide (i < (E.length : Int))) = true → ((∃ j' : Int, (J2c U E i j') ∧ (i = i) ∧ ((0 : Int) = j') ∧ (U = U) ∧ (E = E)) ∧ (∀ j : Int, (J2c U E i j) → (((decide (j < (E.length : Int))) = true → ((∃ a' : Int, (J1Y U E i j a') ∧ (i = i) ∧ (j = j) ∧ ((0 : Int) = a') ∧ (U = U) ∧ (E = E)) ∧ (∀ a : Int, (J1Y U E i j a) → (((decide (a < (U.length : Int))) = true → ((∃ b' : Int, (J22 U E i j a b') ∧ (i = i) ∧ (j = j) ∧ (a = a) ∧ ((0 : Int) = b') ∧ (U = U) ∧ (E = E)) ∧ (∀ b : Int, (J22 U E i j a b) → (((decide (b < (U.length : Int))) = true → (true = true) ∧ ((0 : Int) ≤ i) ∧ ((i : Int) < E.length) ∧ (i.toNat < E.length) ∧ ((0 : Int) ≤ a) ∧ ((a : Int) < (E.getD i.toNat []).length) ∧ (a.toNat < (E.getD i.toNat []).length) ∧ ((0 : Int) ≤ i) ∧ ((i : Int) < E.length) ∧ (i.toNat < E.length) ∧ ((0 : Int) ≤ b) ∧ ((b : Int) < (E.getD i.toNat []).length) ∧ (b.toNat < (E.getD i.toNat []).length) ∧ ((0 : Int) ≤ j) ∧ ((j : Int) < E.length) ∧ (j.toNat < E.length) ∧ ((0 : Int) ≤ b) ∧ ((b : Int) < (E.getD j.toNat []).length) ∧ (b.toNat < (E.getD j.toNat []).length) ∧ (I6 (((E.getD i.toNat []).getD b.toNat 0) + ((E.getD j.toNat []).getD b.toNat 0))) ∧ ((0 : Int) ≤ j) ∧ ((j : Int) < E.length) ∧ (j.toNat < E.length) ∧ ((0 : Int) ≤ a) ∧ ((a : Int) < (E.getD j.toNat []).length) ∧ (a.toNat < (E.getD j.toNat []).length) ∧ (I6 ((((E.getD i.toNat []).getD b.toNat 0) + ((E.getD j.toNat []).getD b.toNat 0)) + ((E.getD j.toNat []).getD a.toNat 0))) ∧ (((decide (((E.getD i.toNat []).getD a.toNat 0) > ((((E.getD i.toNat []).getD b.toNat 0) + ((E.getD j.toNat []).getD b.toNat 0)) + ((E.getD j.toNat []).getD a.toNat 0)))) = true → ((false = (J4q U.length E)))) ∧ ((decide (((E.getD i.toNat []).getD a.toNat 0) > ((((E.getD i.toNat []).getD b.toNat 0) + ((E.getD j.toNat []).getD b.toNat 0)) + ((E.getD j.toNat []).getD a.toNat 0)))) = false → (I6 (b + 1)) ∧ (∃ b' : Int, (J22 U E i j a b') ∧ (J20 U E i j a b' < J20 U E i j a b) ∧ (i = i) ∧ (j = j) ∧ (a = a) ∧ ((b + 1) = b') ∧ (U = U) ∧ (E = E))))) ∧ ((decide (b < (U.length : Int))) = false → (I6 (a + 1)) ∧ (∃ a' : Int, (J1Y U E i j a') ∧ (J1X U E i j a' < J1X U E i j a) ∧ (i = i) ∧ (j = j) ∧ ((a + 1) = a') ∧ (U = U) ∧ (E = E))))))) ∧ ((decide (a < (U.length : Int))) = false → (I6 (j + 1)) ∧ (∃ j' : Int, (J2c U E i j') ∧ (J27 U E i j' < J27 U E i j) ∧ (i = i) ∧ ((j + 1) = j') ∧ (U = U) ∧ (E = E))))))) ∧ ((decide (j < (E.length : Int))) = false → (I6 (i + 1)) ∧ (∃ i' : Int, (J26 U E i') ∧ (J28 U E i' < J28 U E i) ∧ ((i + 1) = i') ∧ (U = U) ∧ (E = E))))))) ∧ ((decide (i < (E.length : Int))) = false → ((true = (J4q U.length E)))))))
theorem J9A (U : ZI) (E : ZR) (hm : ∀ i a : Nat, i < E.length → a < U.length → a < (E.getD i []).length ∧ 0 ≤ (E.getD i []).getD a 0 ∧ (E.getD i []).getD a 0 ≤ 99) (w_Open : (U.length : Int) ≤ 9223372036854775807) (w_Dist : (E.length : Int) ≤ 9223372036854775807) (v_Dist : ∀ x9 ∈ E, (x9.length : Int) ≤ 9223372036854775807) : J6g U E := by
  unfold J6g
  refine ⟨?_, ?_⟩
  ·refine ⟨0, ?_⟩
   refine ⟨?_, rfl, rfl, rfl⟩
   ·refine ⟨?_, ?_, ?_⟩
    ·omega
    ·omega
    ·rfl
  intro i hJ
  obtain ⟨h1, h2, h3⟩ := hJ
  refine ⟨?_, ?_⟩
  ·intro b1
   try simp only [nrmT] at b1
   refine ⟨?_, ?_⟩
   ·refine ⟨0, ?_⟩
    refine ⟨?_, rfl, rfl, rfl, rfl⟩
    ·refine ⟨?_, ?_, ?_⟩
     ·omega
     ·omega
     ·rfl
   intro j hJ
   obtain ⟨h4, h5, h6⟩ := hJ
   refine ⟨?_, ?_⟩
   ·intro b2
    try simp only [nrmT] at b2
    refine ⟨?_, ?_⟩
    ·refine ⟨0, ?_⟩
     refine ⟨?_, rfl, rfl, rfl, rfl, rfl⟩
     ·refine ⟨?_, ?_, ?_⟩
      ·omega
      ·omega
      ·rfl
    intro a hJ
    obtain ⟨h7, h8, h9⟩ := hJ
    refine ⟨?_, ?_⟩
    ·intro b3
     try simp only [nrmT] at b3
     refine ⟨?_, ?_⟩
     ·refine ⟨0, ?_⟩
      refine ⟨?_, rfl, rfl, rfl, rfl, rfl, rfl⟩
      ·refine ⟨?_, ?_, ?_⟩
       ·omega
       ·omega
       ·rfl
     intro b hJ
     obtain ⟨k1, k2, k3⟩ := hJ
     refine ⟨?_, ?_⟩
     ·intro b4
      try simp only [nrmT] at b4
      refine ⟨rfl, ?_, ?_, ?_, ?_, ?_, ?_, ?_, ?_, ?_, ?_, ?_, ?_, ?_, ?_, ?_, ?_, ?_, ?_, ?_, ?_, ?_, ?_, ?_, ?_, ?_, ?_, ?_, ?_⟩
      ·omega
      ·omega
      ·omega
      ·omega
      ·have q1 := hm i.toNat a.toNat (by omega) (by omega)
       have q2 := hm i.toNat b.toNat (by omega) (by omega)
       have q3 := hm j.toNat b.toNat (by omega) (by omega)
       have q4 := hm j.toNat a.toNat (by omega) (by omega)
       omega
      ·have q1 := hm i.toNat a.toNat (by omega) (by omega)
       have q2 := hm i.toNat b.toNat (by omega) (by omega)
       have q3 := hm j.toNat b.toNat (by omega) (by omega)
       have q4 := hm j.toNat a.toNat (by omega) (by omega)
       omega
      ·omega
      ·omega
      ·omega
      ·omega
      ·have q1 := hm i.toNat a.toNat (by omega) (by omega)
       have q2 := hm i.toNat b.toNat (by omega) (by omega)
       have q3 := hm j.toNat b.toNat (by omega) (by omega)
       have q4 := hm j.toNat a.toNat (by omega) (by omega)
       omega
      ·have q1 := hm i.toNat a.toNat (by omega) (by omega)
       have q2 := hm i.toNat b.toNat (by omega) (by omega)
       have q3 := hm j.toNat b.toNat (by omega) (by omega)
       have q4 := hm j.toNat a.toNat (by omega) (by omega)
       omega
      ·omega
      ·omega
      ·omega
      ·omega
      ·have q1 := hm i.toNat a.toNat (by omega) (by omega)
       have q2 := hm i.toNat b.toNat (by omega) (by omega)
       have q3 := hm j.toNat b.toNat (by omega) (by omega)
       have q4 := hm j.toNat a.toNat (by omega) (by omega)
       omega
      ·have q1 := hm i.toNat a.toNat (by omega) (by omega)
       have q2 := hm i.toNat b.toNat (by omega) (by omega)
       have q3 := hm j.toNat b.toNat (by omega) (by omega)
       have q4 := hm j.toNat a.toNat (by omega) (by omega)
       omega
      ·have q1 := hm i.toNat a.toNat (by omega) (by omega)
       have q2 := hm i.toNat b.toNat (by omega) (by omega)
       have q3 := hm j.toNat b.toNat (by omega) (by omega)
       have q4 := hm j.toNat a.toNat (by omega) (by omega)
       omega
      ·omega
      ·omega
      ·omega
      ·omega
      ·have q1 := hm i.toNat a.toNat (by omega) (by omega)
       have q2 := hm i.toNat b.toNat (by omega) (by omega)
       have q3 := hm j.toNat b.toNat (by omega) (by omega)
       have q4 := hm j.toNat a.toNat (by omega) (by omega)
       omega
      ·have q1 := hm i.toNat a.toNat (by omega) (by omega)
       have q2 := hm i.toNat b.toNat (by omega) (by omega)
       have q3 := hm j.toNat b.toNat (by omega) (by omega)
       have q4 := hm j.toNat a.toNat (by omega) (by omega)
       omega
      ·have q1 := hm i.toNat a.toNat (by omega) (by omega)
       have q2 := hm i.toNat b.toNat (by omega) (by omega)
       have q3 := hm j.toNat b.toNat (by omega) (by omega)
       have q4 := hm j.toNat a.toNat (by omega) (by omega)
       omega
      ·intro b5
       try simp only [nrmT] at b5
       have e1 : Ja3 U.length E i.toNat j.toNat a.toNat = false := allTo_falseI k1 (by omega) (by unfold J2W; rw [decide_eq_true (by omega)]; rfl)
       have e2 : J8R U.length E i.toNat j.toNat = false := allTo_falseI h7 (by omega) e1
       have e3 : J5X U.length E i.toNat = false := allTo_falseI h4 (by omega) e2
       exact (show J4q U.length E = false from allTo_falseI h1 (by omega) e3).symm
      intro b6
      try simp only [nrmT] at b6
      refine ⟨?_, ?_⟩
      ·omega
      refine ⟨(b + 1), ?_⟩
      refine ⟨?_, ?_, rfl, rfl, rfl, rfl, rfl, rfl⟩
      ·refine ⟨?_, ?_, ?_⟩
       ·omega
       ·omega
       ·refine allTo_step k1 k3 ?_
        unfold J2W
        rw [decide_eq_false (by omega)]; rfl
      (simp only [J20]; omega)
     intro b7
     try simp only [nrmT] at b7
     refine ⟨?_, ?_⟩
     ·omega
     refine ⟨(a + 1), ?_⟩
     refine ⟨?_, ?_, rfl, rfl, rfl, rfl, rfl⟩
     ·refine ⟨?_, ?_, ?_⟩
      ·omega
      ·omega
      ·refine allTo_step h7 h9 ?_
       show allTo _ U.length = true
       rw [← k3]; congr 1; omega
     (simp only [J1X]; omega)
    intro b8
    try simp only [nrmT] at b8
    refine ⟨?_, ?_⟩
    ·omega
    refine ⟨(j + 1), ?_⟩
    refine ⟨?_, ?_, rfl, rfl, rfl, rfl⟩
    ·refine ⟨?_, ?_, ?_⟩
     ·omega
     ·omega
     ·refine allTo_step h4 h6 ?_
      show allTo _ U.length = true
      rw [← h9]; congr 1; omega
    (simp only [J27]; omega)
   intro b9
   try simp only [nrmT] at b9
   refine ⟨?_, ?_⟩
   ·omega
   refine ⟨(i + 1), ?_⟩
   refine ⟨?_, ?_, rfl, rfl, rfl⟩
   ·refine ⟨?_, ?_, ?_⟩
    ·omega
    ·omega
    ·refine allTo_step h1 h3 ?_
     show allTo _ E.length = true
     rw [← h6]; congr 1; omega
   (simp only [J28]; omega)
  intro b10
  try simp only [nrmT] at b10
  unfold J4q
  rw [← h3]; congr 1; omega
theorem J9w (U : ZI) (E : ZR) (hm : ∀ i a : Nat, i < E.length → a < U.length → a < (E.getD i []).length ∧ 0 ≤ (E.getD i []).getD a 0 ∧ (E.getD i []).getD a 0 ≤ 99) : PC Tryz.prog 225 [.agg [.sl (.ints U), .sl (.rows E)]] (.one (.d (.bool (J4q U.length E)))) :=
  pc_wf @Tryz.call225 fun hw => pc_by (by kernel_rfl) Tryz.func225 @Tryz.call225 (by kernel_rfl) Jah (Jal U E) (by kernel_rfl) (J9A U E hm hw.1.1 hw.1.2.1.1 hw.1.2.1.2) (by kernel_rfl)
def J8K : List D → Orc := orcN [none] fun ds => match ds with
  | [.agg [.sl (.ints U), .sl (.rows E)]] => some (.one (.d (.bool (J4q U.length E))))
  | _ => none
abbrev J0V (U : ZI) (E : ZR) (O1 : ZI) (D1 : ZR) : Prop := (drF O1 D1)
abbrev J3X (U : ZI) (E : ZR) (O1 : ZI) (D1 : ZR) : Nat := (tot D1).toNat
abbrev J2E (U : ZI) (E : ZR) (O1 : ZI) (D1 : ZR) (i : Int) (O2 : ZI) (D2 : ZR) : Prop := (O2 = O1) ∧ (0 ≤ i) ∧ (i ≤ (D2.length : Int)) ∧ (drF O1 D2) ∧ (D2.length = D1.length) ∧ (Clo D1 D2 (allTo (J5X O1.length D1) i.toNat))
abbrev J2y (U : ZI) (E : ZR) (O1 : ZI) (D1 : ZR) (i : Int) (O2 : ZI) (D2 : ZR) : Nat := (D2.length - i).toNat
abbrev J2B (U : ZI) (E : ZR) (O1 : ZI) (D1 : ZR) (i : Int) (O2 : ZI) (D2 : ZR) (j : Int) (O3 : ZI) (D3 : ZR) : Prop := (O3 = O1) ∧ (0 ≤ j) ∧ (j ≤ (D3.length : Int)) ∧ (drF O1 D3) ∧ (D3.length = D1.length) ∧ (Clo D1 D3 (allTo (J5X O1.length D1) i.toNat && allTo (J8R O1.length D1 i.toNat) j.toNat))
abbrev J2D (U : ZI) (E : ZR) (O1 : ZI) (D1 : ZR) (i : Int) (O2 : ZI) (D2 : ZR) (j : Int) (O3 : ZI) (D3 : ZR) : Nat := (D3.length - j).toNat
abbrev J2v (U : ZI) (E : ZR) (O1 : ZI) (D1 : ZR) (i : Int) (O2 : ZI) (D2 : ZR) (j : Int) (O3 : ZI) (D3 : ZR) (a : Int) (O4 : ZI) (D4 : ZR) : Prop := (O4 = O1) ∧ (0 ≤ a) ∧ (a ≤ (O1.length : Int)) ∧ (drF O1 D4) ∧ (D4.length = D1.length) ∧ (Clo D1 D4 (allTo (J5X O1.length D1) i.toNat && allTo (J8R O1.length D1 i.toNat) j.toNat && allTo (Ja3 O1.length D1 i.toNat j.toNat) a.toNat))
abbrev J2C (U : ZI) (E : ZR) (O1 : ZI) (D1 : ZR) (i : Int) (O2 : ZI) (D2 : ZR) (j : Int) (O3 : ZI) (D3 : ZR) (a : Int) (O4 : ZI) (D4 : ZR) : Nat := (O1.length - a).toNat
abbrev J2F (U : ZI) (E : ZR) (O1 : ZI) (D1 : ZR) (i : Int) (O2 : ZI) (D2 : ZR) (j : Int) (O3 : ZI) (D3 : ZR) (a : Int) (O4 : ZI) (D4 : ZR) (b : Int) (D5 : ZR) : Prop := (0 ≤ b) ∧ (b ≤ (O1.length : Int)) ∧ (drF O1 D5) ∧ (D5.length = D1.length) ∧ (Clo D1 D5 (allTo (J5X O1.length D1) i.toNat && allTo (J8R O1.length D1 i.toNat) j.toNat && allTo (Ja3 O1.length D1 i.toNat j.toNat) a.toNat && allTo (fun b => !J2W D1 i.toNat j.toNat a.toNat b) b.toNat))
abbrev J2u (U : ZI) (E : ZR) (O1 : ZI) (D1 : ZR) (i : Int) (O2 : ZI) (D2 : ZR) (j : Int) (O3 : ZI) (D3 : ZR) (a : Int) (O4 : ZI) (D4 : ZR) (b : Int) (D5 : ZR) : Nat := (O1.length - b).toNat
abbrev J3L (U : ZI) (E : ZR) (O : ZI) (D : ZR) : Prop := (drF O D)
def J4W (U : ZI) (E : ZR) : Ex := ex2 0 (fun (O : ZI) (D : ZR) => J3L U E O D) (fun (O : ZI) (D : ZR) => []) (fun (O : ZI) (D : ZR) => .agg [.own 3 (.ints O), .mat 3 24 D])
def JaN (f : FuncId) (ds : List D) : Orc := bif Nat.beq f 224 then Jbb ds else bif Nat.beq f 225 then J8K ds else bif Nat.beq f 161 then J3Y ds else .no
def JaW (U : ZI) (E : ZR) : Ann := .two (.none) (.two (.none) (.two (.loop (cut2 (fun (O1 : ZI) (D1 : ZR) => J0V U E O1 D1) (fun (O1 : ZI) (D1 : ZR) => [(2, .ptr 2 0), (3, .ptr 3 0)]) (fun (O1 : ZI) (D1 : ZR) => [(2, .box 27 [.d true (.nil), .d true (.nil)]), (1000000, .arr true 3 (.ints O1)), (1000001, .mat 3 24 D1 none), (3, .box 27 [.own 1000000 O1.length, .own 1000001 D1.length])])) (fun g => J3X U E g.1 g.2) (fun g => (fun (O1 : ZI) (D1 : ZR) => .two (.none) (.two (.none) (.loop (cut3 (fun (i : Int) (O2 : ZI) (D2 : ZR) => J2E U E O1 D1 i O2 D2) (fun (i : Int) (O2 : ZI) (D2 : ZR) => [(2, .ptr 2 0), (3, .ptr 3 0), (4, .d true (.int .i64 i))]) (fun (i : Int) (O2 : ZI) (D2 : ZR) => [(2, .box 27 [.d true (.nil), .d true (.nil)]), (1000101, .arr true 3 (.ints O2)), (1000102, .mat 3 24 D2 none), (3, .box 27 [.own 1000101 O2.length, .own 1000102 D2.length])])) (fun g => J2y U E O1 D1 g.1 g.2.1 g.2.2) (fun g => (fun (i : Int) (O2 : ZI) (D2 : ZR) => .two (.none) (.two (.two (.none) (.loop (cut3 (fun (j : Int) (O3 : ZI) (D3 : ZR) => J2B U E O1 D1 i O2 D2 j O3 D3) (fun (j : Int) (O3 : ZI) (D3 : ZR) => [(2, .ptr 2 0), (3, .ptr 3 0), (4, .d true (.int .i64 i)), (5, .d true (.int .i64 j))]) (fun (j : Int) (O3 : ZI) (D3 : ZR) => [(2, .box 27 [.d true (.nil), .d true (.nil)]), (1000201, .arr true 3 (.ints O3)), (1000202, .mat 3 24 D3 none), (3, .box 27 [.own 1000201 O3.length, .own 1000202 D3.length])])) (fun g => J2D U E O1 D1 i O2 D2 g.1 g.2.1 g.2.2) (fun g => (fun (j : Int) (O3 : ZI) (D3 : ZR) => .two (.none) (.two (.two (.none) (.loop (cut3 (fun (a : Int) (O4 : ZI) (D4 : ZR) => J2v U E O1 D1 i O2 D2 j O3 D3 a O4 D4) (fun (a : Int) (O4 : ZI) (D4 : ZR) => [(2, .ptr 2 0), (3, .ptr 3 0), (4, .d true (.int .i64 i)), (5, .d true (.int .i64 j)), (6, .d true (.int .i64 a))]) (fun (a : Int) (O4 : ZI) (D4 : ZR) => [(2, .box 27 [.d true (.nil), .d true (.nil)]), (1000301, .arr true 3 (.ints O4)), (1000302, .mat 3 24 D4 none), (3, .box 27 [.own 1000301 O4.length, .own 1000302 D4.length])])) (fun g => J2C U E O1 D1 i O2 D2 j O3 D3 g.1 g.2.1 g.2.2) (fun g => (fun (a : Int) (O4 : ZI) (D4 : ZR) => .two (.none) (.two (.two (.none) (.loop (cut2 (fun (b : Int) (D5 : ZR) => J2F U E O1 D1 i O2 D2 j O3 D3 a O4 D4 b D5) (fun (b : Int) (D5 : ZR) => [(2, .ptr 2 0), (3, .ptr 3 0), (4, .d true (.int .i64 i)), (5, .d true (.int .i64 j)), (6, .d true (.int .i64 a)), (7, .d true (.int .i64 b))]) (fun (b : Int) (D5 : ZR) => [(2, .box 27 [.d true (.nil), .d true (.nil)]), (1000401, .mat 3 24 D5 none), (3, .box 27 [.own 1000301 O4.length, .own 1000401 D5.length]), (1000301, .arr true 3 (.ints O4))])) (fun g => J2u U E O1 D1 i O2 D2 j O3 D3 a O4 D4 g.1 g.2) (fun _ => .none))) (.none))) (g.1) (g.2.1) (g.2.2)))) (.none))) (g.1) (g.2.1) (g.2.2)))) (.none))) (g.1) (g.2.1) (g.2.2))))) (g.1) (g.2))) (.none)))
def J70 (U : ZI) (E : ZR) : Prop :=
  (PC Tryz.prog 224 [.agg [.sl (.ints U), .sl (.rows E)]] (.agg [.own 3 (.ints U), .mat 3 24 E])) ∧ ((∃ O1' : ZI, ∃ D1' : ZR, (J0V U E O1' D1') ∧ (U = O1') ∧ (E = D1') ∧ (U.length = O1'.length) ∧ (E.length = D1'.length)) ∧ (∀ O1 : ZI, ∀ D1 : ZR, (J0V U E O1 D1) → (O1.length = O1.length) ∧ (D1.length = D1.length) ∧ (PC Tryz.prog 225 [.agg [.sl (.ints O1), .sl (.rows D1)]] (.one (.d (.bool (J4q O1.length D1))))) ∧ (((!(J4q O1.length D1)) = true → ((∃ i' : Int, ∃ O2' : ZI, ∃ D2' : ZR, (J2E U E O1 D1 i' O2' D2') ∧ ((0 : Int) = i') ∧ (O1 = O2') ∧ (D1 = D2') ∧ (O1.length = O2'.length) ∧ (D1.length = D2'.length)) ∧ (∀ i : Int, ∀ O2 : ZI, ∀ D2 : ZR, (J2E U E O1 D1 i O2 D2) → (((decide (i < (D2.length : Int))) = true → ((∃ j' : Int, ∃ O3' : ZI, ∃ D3' : ZR, (J2B U E O1 D1 i O2 D2 j' O3' D3') ∧ (i = i) ∧ ((0 : Int) = j') ∧ (O2 = O3') ∧ (D2 = D3') ∧ (O2.length = O3'.length) ∧ (D2.length = D3'.length)) ∧ (∀ j : Int, ∀ O3 : ZI, ∀ D3 : ZR, (J2B U E O1 D1 i O2 D2 j O3 D3) → (((decide (j < (D3.length : Int))) = true → ((∃ a' : Int, ∃ O4' : ZI, ∃ D4' : ZR, (J2v U E O1 D1 i O2 D2 j O3 D3 a' O4' D4') ∧ (i = i) ∧ (j = j) ∧ ((0 : Int) = a') ∧ (O3 = O4') ∧ (D3 = D4') ∧ (O3.length = O4'.length) ∧ (D3.length = D4'.length)) ∧ (∀ a : Int, ∀ O4 : ZI, ∀ D4 : ZR, (J2v U E O1 D1 i O2 D2 j O3 D3 a O4 D4) → (((decide (a < (O4.length : Int))) = true → ((∃ b' : Int, ∃ D5' : ZR, (J2F U E O1 D1 i O2 D2 j O3 D3 a O4 D4 b' D5') ∧ (i = i) ∧ (j = j) ∧ (a = a) ∧ ((0 : Int) = b') ∧ (D4 = D5') ∧ (O4.length = O4.length) ∧ (D4.length = D5'.length) ∧ (O4 = O4)) ∧ (∀ b : Int, ∀ D5 : ZR, (J2F U E O1 D1 i O2 D2 j O3 D3 a O4 D4 b D5) → (((decide (b < (O4.length : Int))) = true → (true = true) ∧ ((0 : Int) ≤ i) ∧ ((i : Int) < (D5.length : Int)) ∧ (i.toNat < D5.length) ∧ ((0 : Int) ≤ i) ∧ ((i : Int) < (D5.length : Int)) ∧ (i.toNat < D5.length) ∧ ((0 : Int) ≤ a) ∧ ((a : Int) < (((D5.getD i.toNat []).length) : Int)) ∧ (i.toNat < D5.length) ∧ (a.toNat < (D5.getD i.toNat []).length) ∧ ((0 : Int) ≤ i) ∧ ((i : Int) < (D5.length : Int)) ∧ (i.toNat < D5.length) ∧ ((0 : Int) ≤ b) ∧ ((b : Int) < (((D5.getD i.toNat []).length) : Int)) ∧ (i.toNat < D5.length) ∧ (b.toNat < (D5.getD i.toNat []).length) ∧ ((0 : Int) ≤ j) ∧ ((j : Int) < (D5.length : Int)) ∧ (j.toNat < D5.length) ∧ ((0 : Int) ≤ b) ∧ ((b : Int) < (((D5.getD j.toNat []).length) : Int)) ∧ (j.toNat < D5.length) ∧ (b.toNat < (D5.getD j.toNat []).length) ∧ (I6 (((D5.getD i.toNat []).getD b.toNat 0) + ((D5.getD j.toNat []).getD b.toNat 0))) ∧ ((0 : Int) ≤ j) ∧ ((j : Int) < (D5.length : Int)) ∧ (j.toNat < D5.length) ∧ ((0 : Int) ≤ a) ∧ ((a : Int) < (((D5.getD j.toNat []).length) : Int)) ∧ (j.toNat < D5.length) ∧ (a.toNat < (D5.getD j.toNat []).length) ∧ (I6 ((((D5.getD i.toNat []).getD b.toNat 0) + ((D5.getD j.toNat []).getD b.toNat 0)) + ((D5.getD j.toNat []).getD a.toNat 0))) ∧ (PC Tryz.prog 161 [.int .i64 ((D5.getD i.toNat []).getD a.toNat 0), .int .i64 ((((D5.getD i.toNat []).getD b.toNat 0) + ((D5.getD j.toNat []).getD b.toNat 0)) + ((D5.getD j.toNat []).getD a.toNat 0))] (.one (.d (.int .i64 (min ((D5.getD i.toNat []).getD a.toNat 0) ((((D5.getD i.toNat []).getD b.toNat 0) + ((D5.getD j.toNat []).getD b.toNat 0)) + ((D5.getD j.toNat []).getD a.toNat 0))))))) ∧ ((0 : Int) ≤ a) ∧ ((a : Int) < (((D5.getD i.toNat []).length) : Int)) ∧ (i.toNat < D5.length) ∧ (a.toNat < (D5.getD i.toNat []).length) ∧ (I6 (b + 1)) ∧ (∃ b' : Int, ∃ D5' : ZR, (J2F U E O1 D1 i O2 D2 j O3 D3 a O4 D4 b' D5') ∧ (J2u U E O1 D1 i O2 D2 j O3 D3 a O4 D4 b' D5' < J2u U E O1 D1 i O2 D2 j O3 D3 a O4 D4 b D5) ∧ (i = i) ∧ (j = j) ∧ (a = a) ∧ ((b + 1) = b') ∧ ((D5.set i.toNat ((D5.getD i.toNat []).set a.toNat (min ((D5.getD i.toNat []).getD a.toNat 0) ((((D5.getD i.toNat []).getD b.toNat 0) + ((D5.getD j.toNat []).getD b.toNat 0)) + ((D5.getD j.toNat []).getD a.toNat 0))))) = D5') ∧ (O4.length = O4.length) ∧ (D5.length = D5'.length) ∧ (O4 = O4))) ∧ ((decide (b < (O4.length : Int))) = false → (I6 (a + 1)) ∧ (∃ a' : Int, ∃ O4' : ZI, ∃ D4' : ZR, (J2v U E O1 D1 i O2 D2 j O3 D3 a' O4' D4') ∧ (J2C U E O1 D1 i O2 D2 j O3 D3 a' O4' D4' < J2C U E O1 D1 i O2 D2 j O3 D3 a O4 D4) ∧ (i = i) ∧ (j = j) ∧ ((a + 1) = a') ∧ (O4 = O4') ∧ (D5 = D4') ∧ (O4.length = O4'.length) ∧ (D5.length = D4'.length))))))) ∧ ((decide (a < (O4.length : Int))) = false → (I6 (j + 1)) ∧ (∃ j' : Int, ∃ O3' : ZI, ∃ D3' : ZR, (J2B U E O1 D1 i O2 D2 j' O3' D3') ∧ (J2D U E O1 D1 i O2 D2 j' O3' D3' < J2D U E O1 D1 i O2 D2 j O3 D3) ∧ (i = i) ∧ ((j + 1) = j') ∧ (O4 = O3') ∧ (D4 = D3') ∧ (O4.length = O3'.length) ∧ (D4.length = D3'.length))))))) ∧ ((decide (j < (D3.length : Int))) = false → (I6 (i + 1)) ∧ (∃ i' : Int, ∃ O2' : ZI, ∃ D2' : ZR, (J2E U E O1 D1 i' O2' D2') ∧ (J2y U E O1 D1 i' O2' D2' < J2y U E O1 D1 i O2 D2) ∧ ((i + 1) = i') ∧ (O3 = O2') ∧ (D3 = D2') ∧ (O3.length = O2'.length) ∧ (D3.length = D2'.length))))))) ∧ ((decide (i < (D2.length : Int))) = false → (∃ O1' : ZI, ∃ D1' : ZR, (J0V U E O1' D1') ∧ (J3X U E O1' D1' < J3X U E O1 D1) ∧ (O2 = O1') ∧ (D2 = D1') ∧ (O2.length = O1'.length) ∧ (D2.length = D1'.length))))))) ∧ ((!(J4q O1.length D1)) = false → (∃ O' : ZI, ∃ D' : ZR, (J3L U E O' D') ∧ (O1.length = O1.length) ∧ ((O1 : ZI) = O') ∧ (D1.length = D1.length) ∧ ((D1 : ZR) = D'))))))
theorem Jax (U : ZI) (E : ZR) (hf : drF U E) (w_Open : (U.length : Int) ≤ 9223372036854775807) (w_Dist : (E.length : Int) ≤ 9223372036854775807) (v_Dist : ∀ x9 ∈ E, (x9.length : Int) ≤ 9223372036854775807) : J70 U E := by
  unfold J70
  refine ⟨?_, ?_, ?_⟩
  ·refine Jc9 U E ?_ ?_ ?_
   ·have q := hf.1; have q2 := hf.2.1; omega
   ·have q := hf.1; have q2 := hf.2.1; omega
   ·intro r hr
    have q := (hf.2.2 r hr).1
    have q2 := hf.1
    omega
  ·refine ⟨U, E, ?_⟩
   refine ⟨?_, rfl, rfl, rfl, rfl⟩
   ·unfold J0V
    assumption
  intro O1 D1 hJ
  have d1 := hJ
  refine ⟨rfl, rfl, ?_, ?_, ?_⟩
  ·refine J9w O1 D1 ?_
   ·intro i a hi ha
    have q := Je d1 hi ha
    omega
  ·intro b1
   try simp only [nrmT] at b1
   refine ⟨?_, ?_⟩
   ·refine ⟨0, O1, D1, ?_⟩
    refine ⟨?_, rfl, rfl, rfl, rfl, rfl⟩
    ·refine ⟨?_, ?_, ?_, ?_, ?_, ?_⟩
     ·rfl
     ·omega
     ·omega
     ·assumption
     ·omega
     ·exact .inl ⟨rfl, rfl⟩
   intro i O2 D2 hJ
   obtain ⟨o2, h1, h2, d2, l2, c2⟩ := hJ
   refine ⟨?_, ?_⟩
   ·intro b2
    try simp only [nrmT] at b2
    refine ⟨?_, ?_⟩
    ·refine ⟨0, O2, D2, ?_⟩
     refine ⟨?_, rfl, rfl, rfl, rfl, rfl, rfl⟩
     ·refine ⟨?_, ?_, ?_, ?_, ?_, ?_⟩
      ·assumption
      ·omega
      ·omega
      ·assumption
      ·omega
      ·exact J3w c2 fun h => by rw [h]; rfl
    intro j O3 D3 hJ
    obtain ⟨o3, h4, h5, d3, l3, c3⟩ := hJ
    refine ⟨?_, ?_⟩
    ·intro b3
     try simp only [nrmT] at b3
     refine ⟨?_, ?_⟩
     ·refine ⟨0, O3, D3, ?_⟩
      refine ⟨?_, rfl, rfl, rfl, rfl, rfl, rfl, rfl⟩
      ·refine ⟨?_, ?_, ?_, ?_, ?_, ?_⟩
       ·assumption
       ·omega
       ·omega
       ·assumption
       ·omega
       ·exact J3w c3 fun h => by rw [h]; rfl
     intro a O4 D4 hJ
     obtain ⟨o4, h7, h8, d4, l4, c4⟩ := hJ
     refine ⟨?_, ?_⟩
     ·intro b4
      try simp only [nrmT] at b4
      refine ⟨?_, ?_⟩
      ·refine ⟨0, D4, ?_⟩
       refine ⟨?_, rfl, rfl, rfl, rfl, rfl, rfl, rfl, rfl⟩
       ·refine ⟨?_, ?_, ?_, ?_, ?_⟩
        ·omega
        ·omega
        ·assumption
        ·omega
        ·exact J3w c4 fun h => by rw [h]; rfl
      intro b D5 hJ
      obtain ⟨k1, k2, d5, l5, c5⟩ := hJ
      refine ⟨?_, ?_⟩
      ·intro b5
       try simp only [nrmT] at b5
       refine ⟨rfl, ?_, ?_, ?_, ?_, ?_, ?_, ?_, ?_, ?_, ?_, ?_, ?_, ?_, ?_, ?_, ?_, ?_, ?_, ?_, ?_, ?_, ?_, ?_, ?_, ?_, ?_, ?_, ?_, ?_, ?_, ?_, ?_, ?_, J4v ((D5.getD i.toNat []).getD a.toNat 0) ((((D5.getD i.toNat []).getD b.toNat 0) + ((D5.getD j.toNat []).getD b.toNat 0)) + ((D5.getD j.toNat []).getD a.toNat 0)), ?_, ?_, ?_, ?_, ?_, ?_⟩
       ·omega
       ·omega
       ·omega
       ·omega
       ·omega
       ·omega
       ·omega
       ·have eo := congrArg List.length o4
        have q1 := Je d5 (i := i.toNat) (a := a.toNat) (by omega) (by omega)
        have q2 := Je d5 (i := i.toNat) (a := b.toNat) (by omega) (by omega)
        have q3 := Je d5 (i := j.toNat) (a := b.toNat) (by omega) (by omega)
        have q4 := Je d5 (i := j.toNat) (a := a.toNat) (by omega) (by omega)
        omega
       ·omega
       ·have eo := congrArg List.length o4
        have q1 := Je d5 (i := i.toNat) (a := a.toNat) (by omega) (by omega)
        have q2 := Je d5 (i := i.toNat) (a := b.toNat) (by omega) (by omega)
        have q3 := Je d5 (i := j.toNat) (a := b.toNat) (by omega) (by omega)
        have q4 := Je d5 (i := j.toNat) (a := a.toNat) (by omega) (by omega)
        omega
       ·omega
       ·omega
       ·omega
       ·omega
       ·have eo := congrArg List.length o4
        have q1 := Je d5 (i := i.toNat) (a := a.toNat) (by omega) (by omega)
        have q2 := Je d5 (i := i.toNat) (a := b.toNat) (by omega) (by omega)
        have q3 := Je d5 (i := j.toNat) (a := b.toNat) (by omega) (by omega)
        have q4 := Je d5 (i := j.toNat) (a := a.toNat) (by omega) (by omega)
        omega
       ·omega
       ·have eo := congrArg List.length o4
        have q1 := Je d5 (i := i.toNat) (a := a.toNat) (by omega) (by omega)
        have q2 := Je d5 (i := i.toNat) (a := b.toNat) (by omega) (by omega)
        have q3 := Je d5 (i := j.toNat) (a := b.toNat) (by omega) (by omega)
        have q4 := Je d5 (i := j.toNat) (a := a.toNat) (by omega) (by omega)
        omega
       ·omega
       ·omega
       ·omega
       ·omega
       ·have eo := congrArg List.length o4
        have q1 := Je d5 (i := i.toNat) (a := a.toNat) (by omega) (by omega)
        have q2 := Je d5 (i := i.toNat) (a := b.toNat) (by omega) (by omega)
        have q3 := Je d5 (i := j.toNat) (a := b.toNat) (by omega) (by omega)
        have q4 := Je d5 (i := j.toNat) (a := a.toNat) (by omega) (by omega)
        omega
       ·omega
       ·have eo := congrArg List.length o4
        have q1 := Je d5 (i := i.toNat) (a := a.toNat) (by omega) (by omega)
        have q2 := Je d5 (i := i.toNat) (a := b.toNat) (by omega) (by omega)
        have q3 := Je d5 (i := j.toNat) (a := b.toNat) (by omega) (by omega)
        have q4 := Je d5 (i := j.toNat) (a := a.toNat) (by omega) (by omega)
        omega
       ·have eo := congrArg List.length o4
        have q1 := Je d5 (i := i.toNat) (a := a.toNat) (by omega) (by omega)
        have q2 := Je d5 (i := i.toNat) (a := b.toNat) (by omega) (by omega)
        have q3 := Je d5 (i := j.toNat) (a := b.toNat) (by omega) (by omega)
        have q4 := Je d5 (i := j.toNat) (a := a.toNat) (by omega) (by omega)
        omega
       ·omega
       ·omega
       ·omega
       ·omega
       ·have eo := congrArg List.length o4
        have q1 := Je d5 (i := i.toNat) (a := a.toNat) (by omega) (by omega)
        have q2 := Je d5 (i := i.toNat) (a := b.toNat) (by omega) (by omega)
        have q3 := Je d5 (i := j.toNat) (a := b.toNat) (by omega) (by omega)
        have q4 := Je d5 (i := j.toNat) (a := a.toNat) (by omega) (by omega)
        omega
       ·omega
       ·have eo := congrArg List.length o4
        have q1 := Je d5 (i := i.toNat) (a := a.toNat) (by omega) (by omega)
        have q2 := Je d5 (i := i.toNat) (a := b.toNat) (by omega) (by omega)
        have q3 := Je d5 (i := j.toNat) (a := b.toNat) (by omega) (by omega)
        have q4 := Je d5 (i := j.toNat) (a := a.toNat) (by omega) (by omega)
        omega
       ·have eo := congrArg List.length o4
        have q1 := Je d5 (i := i.toNat) (a := a.toNat) (by omega) (by omega)
        have q2 := Je d5 (i := i.toNat) (a := b.toNat) (by omega) (by omega)
        have q3 := Je d5 (i := j.toNat) (a := b.toNat) (by omega) (by omega)
        have q4 := Je d5 (i := j.toNat) (a := a.toNat) (by omega) (by omega)
        omega
       ·omega
       ·have eo := congrArg List.length o4
        have q1 := Je d5 (i := i.toNat) (a := a.toNat) (by omega) (by omega)
        have q2 := Je d5 (i := i.toNat) (a := b.toNat) (by omega) (by omega)
        have q3 := Je d5 (i := j.toNat) (a := b.toNat) (by omega) (by omega)
        have q4 := Je d5 (i := j.toNat) (a := a.toNat) (by omega) (by omega)
        omega
       ·omega
       ·have eo := congrArg List.length o4
        have q1 := Je d5 (i := i.toNat) (a := a.toNat) (by omega) (by omega)
        have q2 := Je d5 (i := i.toNat) (a := b.toNat) (by omega) (by omega)
        have q3 := Je d5 (i := j.toNat) (a := b.toNat) (by omega) (by omega)
        have q4 := Je d5 (i := j.toNat) (a := a.toNat) (by omega) (by omega)
        omega
       ·(have q := d4.1; have eo := congrArg List.length o4; omega)
       refine ⟨(b + 1), (D5.set i.toNat ((D5.getD i.toNat []).set a.toNat (min ((D5.getD i.toNat []).getD a.toNat 0) ((((D5.getD i.toNat []).getD b.toNat 0) + ((D5.getD j.toNat []).getD b.toNat 0)) + ((D5.getD j.toNat []).getD a.toNat 0))))), ?_⟩
       refine ⟨?_, ?_, rfl, rfl, rfl, rfl, rfl, rfl, ?_, rfl⟩
       ·refine ⟨?_, ?_, ?_, ?_, ?_⟩
        ·omega
        ·(simp_all <;> omega)
        ·have eo := congrArg List.length o4
         have hs := Jat d5 (i := i.toNat) (j := j.toNat) (a := a.toNat) (b := b.toNat) (by omega) (by omega) (by omega) (by omega) c5
         exact hs.1
        ·simp; try omega
        ·have eo := congrArg List.length o4
         have hs := Jat d5 (i := i.toNat) (j := j.toNat) (a := a.toNat) (b := b.toNat) (by omega) (by omega) (by omega) (by omega) c5
         rw [show (b + 1).toNat = b.toNat + 1 by omega]
         exact hs.2
       ·have eo := congrArg List.length o4
        (simp only [J2u]; omega)
       (simp_all; done)
      intro b6
      try simp only [nrmT] at b6
      refine ⟨?_, ?_⟩
      ·(have q := d4.1; have eo := congrArg List.length o4; omega)
      refine ⟨(a + 1), O4, D5, ?_⟩
      refine ⟨?_, ?_, rfl, rfl, rfl, rfl, rfl, rfl, rfl⟩
      ·refine ⟨?_, ?_, ?_, ?_, ?_, ?_⟩
       ·assumption
       ·omega
       ·omega
       ·assumption
       ·omega
       ·have eo := congrArg List.length o4
        refine J3w c5 fun h => ?_
        simp only [Bool.and_eq_true] at h ⊢
        refine ⟨h.1.1, allTo_step h7 h.1.2 ?_⟩
        show allTo _ O1.length = true
        rw [← h.2]; congr 1; omega
      (simp only [J2C]; omega)
     intro b7
     try simp only [nrmT] at b7
     refine ⟨?_, ?_⟩
     ·(have q := d2.2.1; omega)
     refine ⟨(j + 1), O4, D4, ?_⟩
     refine ⟨?_, ?_, rfl, rfl, rfl, rfl, rfl, rfl⟩
     ·refine ⟨?_, ?_, ?_, ?_, ?_, ?_⟩
      ·assumption
      ·omega
      ·omega
      ·assumption
      ·omega
      ·refine J3w c4 fun h => ?_
       simp only [Bool.and_eq_true] at h ⊢
       refine ⟨h.1.1, allTo_step h4 h.1.2 ?_⟩
       show allTo _ O1.length = true
       rw [← h.2]; congr 1
       have eo := congrArg List.length o4
       omega
     (simp only [J2D]; omega)
    intro b8
    try simp only [nrmT] at b8
    refine ⟨?_, ?_⟩
    ·(have q := d2.2.1; omega)
    refine ⟨(i + 1), O3, D3, ?_⟩
    refine ⟨?_, ?_, rfl, rfl, rfl, rfl, rfl⟩
    ·refine ⟨?_, ?_, ?_, ?_, ?_, ?_⟩
     ·assumption
     ·omega
     ·omega
     ·assumption
     ·omega
     ·refine J3w c3 fun h => ?_
      simp only [Bool.and_eq_true] at h
      refine allTo_step h1 h.1 ?_
      show allTo _ D1.length = true
      rw [← h.2]; congr 1; omega
    (simp only [J2y]; omega)
   intro b9
   try simp only [nrmT] at b9
   refine ⟨O2, D2, ?_⟩
   refine ⟨?_, ?_, rfl, rfl, rfl, rfl⟩
   ·unfold J0V
    (rw [o2]; assumption)
   have hlt := Jdj (n := O1.length) (D0 := D1) (D := D2) (by rw [show D1.length = i.toNat by omega]; exact c2) (by simpa using b1)
   have hn := JbJ (D := D2) fun r hr x hx => ((d2.2.2 r hr).2 x hx).1
   show (tot D2).toNat < (tot D1).toNat
   omega
  intro b10
  try simp only [nrmT] at b10
  refine ⟨O1, D1, ?_⟩
  refine ⟨?_, rfl, rfl, rfl, rfl⟩
  ·unfold J3L
   assumption
theorem Jar (U : ZI) (E : ZR) (hf : drF U E) : PE Tryz.prog 187 [.agg [.sl (.ints U), .sl (.rows E)]] (J4W U E) :=
  pe_wf @Tryz.call187 fun hw => pe_by (by kernel_rfl) Tryz.func187 @Tryz.call187 (by kernel_rfl) JaN (JaW U E) (by kernel_rfl) (Jax U E hf hw.1.1 hw.1.2.1.1 hw.1.2.1.2) (by kernel_rfl)
abbrev J0n (code : List Nat) (c : Cur) (most : Int) (O : ZI) (D : ZR) (ck : Cur) : Prop := (okC ck 8000000) ∧ (O.length ≤ 8) ∧ (D.length ≤ 8)
def J2f (code : List Nat) (c : Cur) (most : Int) : Ex := ex3 1 (fun (O : ZI) (D : ZR) (ck : Cur) => J0n code c most O D ck) (fun (O : ZI) (D : ZR) (ck : Cur) => [.int .i64 ck.pos, .int .u64 ck.seed]) (fun (O : ZI) (D : ZR) (ck : Cur) => .one (.d (.agg [.sl (.ints O), .sl (.rows D)])))
def J6t (f : FuncId) (ds : List D) : Orc := .no
def J6S (u : Value) (code : List Nat) (c : Cur) (most : Int) : Ann := .two (.none) (.two (.two (.mark [] [(1, .cell [.int .i64 ((J1 code c 3).pos), .int .u64 ((J1 code c 3).seed)] (.one (.d (.int .i64 (J3 code c 3)))))]) (.two (.none) (.two (.two (.exr (.ex [] 3 (JN code (J1 code c 3) most) (fun g => (fun (Or3 : ZI) (Dr3 : ZR) (cfr3 : Cur) => .ex [] 4 (JQ code cfr3 Or3 Dr3) (fun g => (fun (Or3x4 : ZI) (Dr3x4 : ZR) (chr3x4 : Cur) => .ms [] []) (g.1) (g.2.1) (g.2.2))) (g.1) (g.2.1) (g.2.2)))) (.none)) (.two (.none) (.two (.two (.exr (.ex [] 3 (J1y code (J1 code c 3) most) (fun g => (fun (Or5 : ZI) (Dr5 : ZR) (cgr5 : Cur) => .ex [] 4 (JQ code cgr5 Or5 Dr5) (fun g => (fun (Or5x4 : ZI) (Dr5x4 : ZR) (chr5x4 : Cur) => .ms [] []) (g.1) (g.2.1) (g.2.2))) (g.1) (g.2.1) (g.2.2)))) (.none)) (.none)))))) (.two (.exr (.ex [] 3 (JN code (J1 code c 3) most) (fun g => (fun (Or6 : ZI) (Dr6 : ZR) (cfr6 : Cur) => .ex [] 4 (J4W Or6 Dr6) (fun g => (fun (Or6x4 : ZI) (Dr6x4 : ZR) => .ex [] 5 (JQ code cfr6 Or6x4 Dr6x4) (fun g => (fun (Or6x5 : ZI) (Dr6x5 : ZR) (chr6x5 : Cur) => .ms [] []) (g.1) (g.2.1) (g.2.2))) (g.1) (g.2))) (g.1) (g.2.1) (g.2.2)))) (.none)))
def J2i (u : Value) (code : List Nat) (c : Cur) (most : Int) : Prop :=
  (PK Tryz.prog 156 76 (.sl (.bytes code)) [.int .i64 c.pos, .int .u64 c.seed] [.int .i64 ((J1 code c 3).pos), .int .u64 ((J1 code c 3).seed)] [.int .i64 3] (.one (.d (.int .i64 (J3 code c 3))))) ∧ ((((J3 code c 3) == 0) = true → (PKE Tryz.prog 188 76 (.sl (.bytes code)) [.int .i64 ((J1 code c 3).pos), .int .u64 ((J1 code c 3).seed)] [.int .i64 most] (JN code (J1 code c 3) most)) ∧ (∀ Or3 : ZI, ∀ Dr3 : ZR, ∀ cfr3 : Cur, J0f code (J1 code c 3) most Or3 Dr3 cfr3 → ((true = true) ∧ (Or3.length = Or3.length) ∧ (Dr3.length = Dr3.length) ∧ (PKV Tryz.prog 232 76 (.sl (.bytes code)) [.int .i64 cfr3.pos, .int .u64 cfr3.seed] 3 Or3 3 24 Dr3 (JQ code cfr3 Or3 Dr3)) ∧ (∀ Or3x4 : ZI, ∀ Dr3x4 : ZR, ∀ chr3x4 : Cur, Jr code cfr3 Or3 Dr3 Or3x4 Dr3x4 chr3x4 → ((true = true) ∧ (∃ O' : ZI, ∃ D' : ZR, ∃ ck' : Cur, (J0n code c most O' D' ck') ∧ (true = true) ∧ ((.lit u (.sl (.bytes code)) : D) = .lit u (.sl (.bytes code))) ∧ (chr3x4.pos = ck'.pos) ∧ (chr3x4.seed = ck'.seed) ∧ (Or3x4.length = Or3x4.length) ∧ (Dr3x4.length = Dr3x4.length) ∧ ((.agg [.sl (.ints Or3x4), .sl (.rows Dr3x4)] : D) = .agg [.sl (.ints O'), .sl (.rows D')]))))))) ∧ (((J3 code c 3) == 0) = false → ((((J3 code c 3) == 1) = true → (PKE Tryz.prog 186 76 (.sl (.bytes code)) [.int .i64 ((J1 code c 3).pos), .int .u64 ((J1 code c 3).seed)] [.int .i64 most] (J1y code (J1 code c 3) most)) ∧ (∀ Or5 : ZI, ∀ Dr5 : ZR, ∀ cgr5 : Cur, J1u code (J1 code c 3) most Or5 Dr5 cgr5 → ((true = true) ∧ (Or5.length = Or5.length) ∧ (Dr5.length = Dr5.length) ∧ (PKV Tryz.prog 232 76 (.sl (.bytes code)) [.int .i64 cgr5.pos, .int .u64 cgr5.seed] 3 Or5 3 24 Dr5 (JQ code cgr5 Or5 Dr5)) ∧ (∀ Or5x4 : ZI, ∀ Dr5x4 : ZR, ∀ chr5x4 : Cur, Jr code cgr5 Or5 Dr5 Or5x4 Dr5x4 chr5x4 → ((true = true) ∧ (∃ O' : ZI, ∃ D' : ZR, ∃ ck' : Cur, (J0n code c most O' D' ck') ∧ (true = true) ∧ ((.lit u (.sl (.bytes code)) : D) = .lit u (.sl (.bytes code))) ∧ (chr5x4.pos = ck'.pos) ∧ (chr5x4.seed = ck'.seed) ∧ (Or5x4.length = Or5x4.length) ∧ (Dr5x4.length = Dr5x4.length) ∧ ((.agg [.sl (.ints Or5x4), .sl (.rows Dr5x4)] : D) = .agg [.sl (.ints O'), .sl (.rows D')]))))))) ∧ (((J3 code c 3) == 1) = false → (PKE Tryz.prog 188 76 (.sl (.bytes code)) [.int .i64 ((J1 code c 3).pos), .int .u64 ((J1 code c 3).seed)] [.int .i64 most] (JN code (J1 code c 3) most)) ∧ (∀ Or6 : ZI, ∀ Dr6 : ZR, ∀ cfr6 : Cur, J0f code (J1 code c 3) most Or6 Dr6 cfr6 → ((true = true) ∧ (Or6.length = Or6.length) ∧ (Dr6.length = Dr6.length) ∧ (PE Tryz.prog 187 [.agg [.sl (.ints Or6), .sl (.rows Dr6)]] (J4W Or6 Dr6)) ∧ (∀ Or6x4 : ZI, ∀ Dr6x4 : ZR, J3L Or6 Dr6 Or6x4 Dr6x4 → ((true = true) ∧ (Or6x4.length = Or6x4.length) ∧ (Dr6x4.length = Dr6x4.length) ∧ (PKV Tryz.prog 232 76 (.sl (.bytes code)) [.int .i64 cfr6.pos, .int .u64 cfr6.seed] 3 Or6x4 3 24 Dr6x4 (JQ code cfr6 Or6x4 Dr6x4)) ∧ (∀ Or6x5 : ZI, ∀ Dr6x5 : ZR, ∀ chr6x5 : Cur, Jr code cfr6 Or6x4 Dr6x4 Or6x5 Dr6x5 chr6x5 → ((true = true) ∧ (∃ O' : ZI, ∃ D' : ZR, ∃ ck' : Cur, (J0n code c most O' D' ck') ∧ (true = true) ∧ ((.lit u (.sl (.bytes code)) : D) = .lit u (.sl (.bytes code))) ∧ (chr6x5.pos = ck'.pos) ∧ (chr6x5.seed = ck'.seed) ∧ (Or6x5.length = Or6x5.length) ∧ (Dr6x5.length = Dr6x5.length) ∧ ((.agg [.sl (.ints Or6x5), .sl (.rows Dr6x5)] : D) = .agg [.sl (.ints O'), .sl (.rows D')]))))))))))))
theorem J69 (u : Value) (code : List Nat) (c : Cur) (most : Int) (hb : ∀ x9 ∈ code, x9 < 256) (hc : okC c 2000000) (hm : 0 ≤ most ∧ most ≤ 7)  : J2i u code c most := by
  unfold J2i
  refine ⟨?_, ?_, ?_⟩
  ·refine Jp code c 3 ?_ ?_
   ·exact hb
   ·exact J6 (by assumption) (by omega)
  ·intro b1
   refine ⟨?_, ?_⟩
   ·refine J1k code (J1 code c 3) most ?_ ?_ ?_
    ·exact hb
    ·exact J6 (Jh (by assumption)) (by omega)
    ·omega
   intro Or3 Dr3 cfr3 hQ9
   obtain ⟨f1r3, f2r3⟩ := hQ9
   refine ⟨rfl, rfl, rfl, ?_, ?_⟩
   ·refine J1q code cfr3 Or3 Dr3 ?_ ?_ ?_
    ·exact hb
    ·exact J6 (by assumption) (by omega)
    ·assumption
   intro Or3x4 Dr3x4 chr3x4 hQ9
   obtain ⟨f1r3x4, f2r3x4, f3r3x4⟩ := hQ9
   refine ⟨rfl, ?_⟩
   ·refine ⟨Or3x4, Dr3x4, chr3x4, ?_⟩
    refine ⟨?_, rfl, rfl, rfl, rfl, rfl, rfl, rfl⟩
    ·refine ⟨?_, ?_, ?_⟩
     ·exact J6 (by assumption) (by omega)
     ·assumption
     ·assumption
  intro b2
  refine ⟨?_, ?_⟩
  ·intro b3
   refine ⟨?_, ?_⟩
   ·refine J5c code (J1 code c 3) most ?_ ?_ ?_
    ·exact hb
    ·exact J6 (Jh (by assumption)) (by omega)
    ·omega
   intro Or5 Dr5 cgr5 hQ9
   obtain ⟨f1r5, f2r5⟩ := hQ9
   refine ⟨rfl, rfl, rfl, ?_, ?_⟩
   ·refine J1q code cgr5 Or5 Dr5 ?_ ?_ ?_
    ·exact hb
    ·exact J6 (by assumption) (by omega)
    ·assumption
   intro Or5x4 Dr5x4 chr5x4 hQ9
   obtain ⟨f1r5x4, f2r5x4, f3r5x4⟩ := hQ9
   refine ⟨rfl, ?_⟩
   ·refine ⟨Or5x4, Dr5x4, chr5x4, ?_⟩
    refine ⟨?_, rfl, rfl, rfl, rfl, rfl, rfl, rfl⟩
    ·refine ⟨?_, ?_, ?_⟩
     ·exact J6 (by assumption) (by omega)
     ·assumption
     ·assumption
  intro b4
  refine ⟨?_, ?_⟩
  ·refine J1k code (J1 code c 3) most ?_ ?_ ?_
   ·exact hb
   ·exact J6 (Jh (by assumption)) (by omega)
   ·omega
  intro Or6 Dr6 cfr6 hQ9
  obtain ⟨f1r6, f2r6⟩ := hQ9
  refine ⟨rfl, rfl, rfl, ?_, ?_⟩
  ·refine Jar Or6 Dr6 ?_
   ·assumption
  intro Or6x4 Dr6x4 hQ9
  have f2r6x4 := hQ9
  refine ⟨rfl, rfl, rfl, ?_, ?_⟩
  ·refine J1q code cfr6 Or6x4 Dr6x4 ?_ ?_ ?_
   ·exact hb
   ·exact J6 (by assumption) (by omega)
   ·assumption
  intro Or6x5 Dr6x5 chr6x5 hQ9
  obtain ⟨f1r6x5, f2r6x5, f3r6x5⟩ := hQ9
  refine ⟨rfl, ?_⟩
  ·refine ⟨Or6x5, Dr6x5, chr6x5, ?_⟩
   refine ⟨?_, rfl, rfl, rfl, rfl, rfl, rfl, rfl⟩
   ·refine ⟨?_, ?_, ?_⟩
    ·exact J6 (by assumption) (by omega)
    ·assumption
    ·assumption
theorem J5M (code : List Nat) (c : Cur) (most : Int) (hb : ∀ x9 ∈ code, x9 < 256) (hc : okC c 2000000) (hm : 0 ≤ most ∧ most ≤ 7) : PKE Tryz.prog 209 76 (.sl (.bytes code)) [.int .i64 c.pos, .int .u64 c.seed] [.int .i64 most] (J2f code c most) :=
  pke_by (Q := fun u => J2i u code c most) (by kernel_rfl) Tryz.func209 @Tryz.call209 (by kernel_rfl) J6t (fun u => J6S u code c most) (by kernel_rfl) (fun u => J69 u code c most hb hc hm) (fun u => by kernel_rfl)
abbrev J0W (code : List Nat) (c : Cur) (O : ZI) (D : ZR) (cl : Cur) : Prop := (okC cl 8000000) ∧ (O.length ≤ 8) ∧ (D.length ≤ 8)
def J05 (code : List Nat) (c : Cur) : Ex := ex3 1 (fun (O : ZI) (D : ZR) (cl : Cur) => J0W code c O D cl) (fun (O : ZI) (D : ZR) (cl : Cur) => [.int .i64 cl.pos, .int .u64 cl.seed]) (fun (O : ZI) (D : ZR) (cl : Cur) => .one (.d (.agg [.sl (.ints O), .sl (.rows D)])))
def J7M (f : FuncId) (ds : List D) : Orc := .no
def J8i (u : Value) (code : List Nat) (c : Cur) : Ann := .two (.none) (.two (.exr (.ex [] 1 (J2f code c 7) (fun g => (fun (Or1 : ZI) (Dr1 : ZR) (ckr1 : Cur) => .ms [] []) (g.1) (g.2.1) (g.2.2)))) (.none))
def J3b (u : Value) (code : List Nat) (c : Cur) : Prop :=
  (PKE Tryz.prog 209 76 (.sl (.bytes code)) [.int .i64 c.pos, .int .u64 c.seed] [.int .i64 7] (J2f code c 7)) ∧ (∀ Or1 : ZI, ∀ Dr1 : ZR, ∀ ckr1 : Cur, J0n code c 7 Or1 Dr1 ckr1 → ((true = true) ∧ (∃ O' : ZI, ∃ D' : ZR, ∃ cl' : Cur, (J0W code c O' D' cl') ∧ (true = true) ∧ ((.lit u (.sl (.bytes code)) : D) = .lit u (.sl (.bytes code))) ∧ (ckr1.pos = cl'.pos) ∧ (ckr1.seed = cl'.seed) ∧ ((.agg [.sl (.ints Or1), .sl (.rows Dr1)] : D) = .agg [.sl (.ints O'), .sl (.rows D')]))))
theorem J7l (u : Value) (code : List Nat) (c : Cur) (hb : ∀ x9 ∈ code, x9 < 256) (hc : okC c 2000000)  : J3b u code c := by
  unfold J3b
  refine ⟨?_, ?_⟩
  ·refine J5M code c 7 ?_ ?_ ?_
   ·exact hb
   ·exact J6 (by assumption) (by omega)
   ·omega
  intro Or1 Dr1 ckr1 hQ9
  obtain ⟨f1r1, f2r1, f3r1⟩ := hQ9
  refine ⟨rfl, ?_⟩
  ·refine ⟨Or1, Dr1, ckr1, ?_⟩
   refine ⟨?_, rfl, rfl, rfl, rfl, rfl⟩
   ·refine ⟨?_, ?_, ?_⟩
    ·exact J6 (by assumption) (by omega)
    ·assumption
    ·assumption
theorem J2e (code : List Nat) (c : Cur) (hb : ∀ x9 ∈ code, x9 < 256) (hc : okC c 2000000) : PKE Tryz.prog 133 76 (.sl (.bytes code)) [.int .i64 c.pos, .int .u64 c.seed] [] (J05 code c) :=
  pke_by (Q := fun u => J3b u code c) (by kernel_rfl) Tryz.func133 @Tryz.call133 (by kernel_rfl) J7M (fun u => J8i u code c) (by kernel_rfl) (fun u => J7l u code c hb hc) (fun u => by kernel_rfl)
def n5B (n : Nat) : Int := max 1 (min (n : Int) 3)
def n5V (code : List Nat) (c : Cur) (n : Nat) : Int := if J3 code c 24 = 0 then ([0, 8, -1] : ZI).getD (J3 code (J1 code c 24) 3).toNat 0 else 1 + J3 code (J1 code c 24) (n5B n)
def n5C (code : List Nat) (c : Cur) (n : Nat) : Cur := if J3 code c 24 = 0 then J1 code (J1 code c 24) 3 else J1 code (J1 code c 24) (n5B n)
theorem Jda {code : List Nat} {c : Cur} {n : Nat} {b : Int} (h : okC c b) : okC (n5C code c n) (b + 4) := by
  unfold n5C
  split
  · exact J6 (Jh (Jh h)) (by omega)
  exact J6 (Jh (Jh h)) (by omega)
def J6K (f : FuncId) (ds : List D) : Orc := bif Nat.beq f 161 then J3Y ds else bif Nat.beq f 154 then J2Z ds else .no
def J6A (u : Value) (code : List Nat) (c : Cur) (U : ZI) (E : ZR) : Ann := .two (.none) (.two (.two (.mark [] [(1, .cell [.int .i64 ((J1 code c 24).pos), .int .u64 ((J1 code c 24).seed)] (.one (.d (.bool (J3 code c 24 == 0)))))]) (.two (.two (.mark [] [(2, .cell [.int .i64 ((J1 code (J1 code c 24) (([0, 8, (-1)]).length : Int)).pos), .int .u64 ((J1 code (J1 code c 24) (([0, 8, (-1)]).length : Int)).seed)] (.one (.d (.int .i64 (([0, 8, (-1)]).getD (J3 code (J1 code c 24) (([0, 8, (-1)]).length : Int)).toNat 0)))))]) (.none)) (.none))) (.two (.mark [] [(6, .cell [.int .i64 ((J1 code (J1 code c 24) (max 1 (min (U.length : Int) 3))).pos), .int .u64 ((J1 code (J1 code c 24) (max 1 (min (U.length : Int) 3))).seed)] (.one (.d (.int .i64 (J3 code (J1 code c 24) (max 1 (min (U.length : Int) 3)))))))]) (.none)))
def J2j (u : Value) (code : List Nat) (c : Cur) (U : ZI) (E : ZR) : Prop :=
  (PK Tryz.prog 124 76 (.sl (.bytes code)) [.int .i64 c.pos, .int .u64 c.seed] [.int .i64 ((J1 code c 24).pos), .int .u64 ((J1 code c 24).seed)] [.int .i64 24] (.one (.d (.bool (J3 code c 24 == 0))))) ∧ (((J3 code c 24 == 0) = true → ((3 : Nat) = 3) ∧ (PK Tryz.prog 155 76 (.sl (.bytes code)) [.int .i64 ((J1 code c 24).pos), .int .u64 ((J1 code c 24).seed)] [.int .i64 ((J1 code (J1 code c 24) (([0, 8, (-1)]).length : Int)).pos), .int .u64 ((J1 code (J1 code c 24) (([0, 8, (-1)]).length : Int)).seed)] [.sl (.ints ([0, 8, (-1)]))] (.one (.d (.int .i64 (([0, 8, (-1)]).getD (J3 code (J1 code c 24) (([0, 8, (-1)]).length : Int)).toNat 0))))) ∧ (((.lit u (.sl (.bytes code)) : D) = .lit u (.sl (.bytes code))) ∧ ((J1 code (J1 code c 24) (([0, 8, (-1)]).length : Int)).pos = (n5C code c U.length).pos) ∧ ((J1 code (J1 code c 24) (([0, 8, (-1)]).length : Int)).seed = (n5C code c U.length).seed) ∧ ((([0, 8, (-1)]).getD (J3 code (J1 code c 24) (([0, 8, (-1)]).length : Int)).toNat 0) = (n5V code c U.length)))) ∧ ((J3 code c 24 == 0) = false → (PC Tryz.prog 161 [.int .i64 (U.length : Int), .int .i64 3] (.one (.d (.int .i64 (min (U.length : Int) 3))))) ∧ (PC Tryz.prog 154 [.int .i64 1, .int .i64 (min (U.length : Int) 3)] (.one (.d (.int .i64 (max 1 (min (U.length : Int) 3)))))) ∧ (PK Tryz.prog 156 76 (.sl (.bytes code)) [.int .i64 ((J1 code c 24).pos), .int .u64 ((J1 code c 24).seed)] [.int .i64 ((J1 code (J1 code c 24) (max 1 (min (U.length : Int) 3))).pos), .int .u64 ((J1 code (J1 code c 24) (max 1 (min (U.length : Int) 3))).seed)] [.int .i64 (max 1 (min (U.length : Int) 3))] (.one (.d (.int .i64 (J3 code (J1 code c 24) (max 1 (min (U.length : Int) 3))))))) ∧ (I6 (1 + (J3 code (J1 code c 24) (max 1 (min (U.length : Int) 3))))) ∧ (((.lit u (.sl (.bytes code)) : D) = .lit u (.sl (.bytes code))) ∧ ((J1 code (J1 code c 24) (max 1 (min (U.length : Int) 3))).pos = (n5C code c U.length).pos) ∧ ((J1 code (J1 code c 24) (max 1 (min (U.length : Int) 3))).seed = (n5C code c U.length).seed) ∧ ((1 + (J3 code (J1 code c 24) (max 1 (min (U.length : Int) 3)))) = (n5V code c U.length)))))
theorem J5P (u : Value) (code : List Nat) (c : Cur) (U : ZI) (E : ZR) (hb : ∀ x9 ∈ code, x9 < 256) (hc : okC c 9000100)  : J2j u code c U E := by
  unfold J2j
  refine ⟨?_, ?_, ?_⟩
  ·refine J1W code c 24 ?_ ?_
   ·exact hb
   ·exact J6 (by assumption) (by omega)
  ·intro b1
   try simp only [nrmT] at b1
   refine ⟨rfl, ?_, rfl, ?_, ?_, ?_⟩
   ·refine JC code (J1 code c 24) ([0, 8, (-1)]) ?_ ?_ ?_
    ·exact hb
    ·exact J6 (Jh (by assumption)) (by omega)
    ·simp
   ·unfold n5C; first | (rw [if_pos b1]; rfl) | (rw [if_neg b1]; rfl)
   ·unfold n5C; first | (rw [if_pos b1]; rfl) | (rw [if_neg b1]; rfl)
   unfold n5V; first | (rw [if_pos b1]; rfl) | (rw [if_neg b1]; rfl)
  intro b2
  try simp only [nrmT] at b2
  refine ⟨J4v (U.length : Int) 3, J3M 1 (min (U.length : Int) 3), ?_, ?_, rfl, ?_, ?_, ?_⟩
  ·refine Jp code (J1 code c 24) (max 1 (min (U.length : Int) 3)) ?_ ?_
   ·exact hb
   ·exact J6 (Jh (by assumption)) (by omega)
  ·have v := Jq code (J1 code c 24) (n := max 1 (min (U.length : Int) 3)) (by omega)
   omega
  ·unfold n5C; first | (rw [if_pos b2]; rfl) | (rw [if_neg b2]; rfl)
  ·unfold n5C; first | (rw [if_pos b2]; rfl) | (rw [if_neg b2]; rfl)
  unfold n5V; first | (rw [if_pos b2]; rfl) | (rw [if_neg b2]; rfl)
theorem J5Y (code : List Nat) (c : Cur) (U : ZI) (E : ZR) (hb : ∀ x9 ∈ code, x9 < 256) (hc : okC c 9000100) : PK Tryz.prog 92 76 (.sl (.bytes code)) [.int .i64 c.pos, .int .u64 c.seed] [.int .i64 (n5C code c U.length).pos, .int .u64 (n5C code c U.length).seed] [.agg [.sl (.ints U), .sl (.rows E)]] (.one (.d (.int .i64 (n5V code c U.length)))) :=
  pk_by (Q := fun u => J2j u code c U E) (by kernel_rfl) Tryz.func92 @Tryz.call92 (by kernel_rfl) J6K (fun u => J6A u code c U E) (by kernel_rfl) (fun u => J5P u code c U E hb hc) (fun u => by kernel_rfl)
theorem Jdl {n : Nat} {s : ZI} (h : J2 s 0 ((n : Int) - 1) = true) (hp : 0 < s.length) : s ∈ J5 n := by
  have h1 := JbP h
  unfold chs at h1
  rcases List.mem_append.1 h1 with h1 | h1
  · rw [List.mem_singleton] at h1; subst h1; simp at hp
  exact h1
theorem Jdw {U : ZI} {s : ZI} {k : Int} (h : s ∈ upS U k) : (s.length : Int) ≤ k := by
  have := (List.mem_filter.1 h).2
  simpa using this
theorem JcB {l : ZI} (h : Asc l) : l.Nodup := h.imp fun {a b} hab e => by omega
theorem Jdp {U : ZI} {D : ZR} (hg : J0 U D = true) {r : Int} (hr : 0 ≤ r) {s : ZI} (hs : J2 s 0 ((U.length : Int) - 1) = true) (hp : 0 < s.length) (hle : J7 D s ≤ r) :
    Jc U D r = true ∧ (J4 U D r).length ≤ s.length := by
  have hin : s ∈ J5 (U.length : Int).toNat := by rw [Int.toNat_natCast]; exact Jdl hs hp
  obtain ⟨i, hi, hie⟩ := List.mem_iff_getElem.1 hin
  have hcov : Jc U D r = true := by
    rw [Jc, hg, decide_eq_true hr]
    unfold J3p
    rw [idx_any, List.any_eq_true.2 ⟨_, hin, decide_eq_true hle⟩]
    rfl
  have hci : 0 ≤ J3p U D r := by
    rw [Jc, Bool.and_eq_true, decide_eq_true_eq] at hcov
    exact hcov.2
  have h9 := J9c (p := fun s => decide (J7 D s ≤ r)) (xs := J5 (U.length : Int).toNat) (d := []) (by unfold J3p at hci; exact hci) hi (by rw [Js hi, hie]; exact decide_eq_true hle)
  refine ⟨hcov, ?_⟩
  rw [J4, if_pos hcov]
  have h10 := Jbe (n := (U.length : Int).toNat) (i := (J3p U D r).toNat) (j := i) (by unfold J3p; omega) hi
  rw [Js (d := []) hi, hie] at h10
  exact h10
theorem Jcv {U : ZI} {D : ZR} {r : Int} (hc : Jc U D r = true) : J0 U D = true ∧ 0 ≤ r ∧ J4 U D r ∈ J5 (U.length : Int).toNat ∧ J7 D (J4 U D r) ≤ r := by
  have h := hc
  rw [Jc, Bool.and_eq_true, Bool.and_eq_true, decide_eq_true_eq, decide_eq_true_eq] at h
  have hlt : (J3p U D r).toNat < (J5 (U.length : Int).toNat).length ∧ J7 D ((J5 (U.length : Int).toNat).getD (J3p U D r).toNat []) ≤ r := by
    have h2 := h.2
    unfold J3p at h2 ⊢
    have h3 := decide_eq_true (show idxI (fun s => decide (J7 D s ≤ r)) (J5 (U.length : Int).toNat) ≥ 0 from h2)
    rw [idx_any, List.any_eq_true] at h3
    obtain ⟨s, hs, hle⟩ := h3
    obtain ⟨i, hi, rfl⟩ := List.mem_iff_getElem.1 hs
    have h9 := J9c (p := fun s => decide (J7 D s ≤ r)) (xs := J5 (U.length : Int).toNat) (d := []) h.2 hi (by rw [Js hi]; exact hle)
    have h10 := h.2
    unfold J3p at h10
    exact ⟨by omega, of_decide_eq_true h9.2⟩
  refine ⟨h.1.1, h.1.2, ?_, ?_⟩
  · rw [J4, if_pos hc]; exact getD_mem hlt.1
  rw [J4, if_pos hc]; exact hlt.2
theorem Ja2 {n : Nat} {x : Int} (h : 0 ≤ x ∧ x < (n : Int)) : x ∈ J5r n := by
  have := getD_mem (d := 0) (show x.toNat < (J5r n).length by rw [J5i]; omega)
  rw [JcZ (by omega), Int.toNat_of_nonneg h.1] at this
  exact this
abbrev J0T (code : List Nat) (c1 : Cur) (Oz : ZI) (Dz : ZR) : Prop := (okC c1 8000000) ∧ (Oz.length ≤ 8) ∧ (Dz.length ≤ 8)
abbrev J16 (code : List Nat) (O : ZI) (Ds : ZR) (rr : Int) : Prop := True
def J18 (code : List Nat) : Ex := ex3 0 (fun (O : ZI) (Ds : ZR) (rr : Int) => J16 code O Ds rr) (fun (O : ZI) (Ds : ZR) (rr : Int) => []) (fun (O : ZI) (Ds : ZR) (rr : Int) => .tup [.d (.agg [.sl (.ints O), .sl (.rows Ds)]), .d (.int .i64 rr)])
def J5g (f : FuncId) (ds : List D) : Orc := .no
def J54 (code : List Nat) : Ann := .two (.none) (.two (.none) (.cut (.exr (.ex [] 1 (J05 code J3x) (fun g => (fun (Or2 : ZI) (Dr2 : ZR) (clr2 : Cur) => .ms [] []) (g.1) (g.2.1) (g.2.2)))) (cut3 (fun (c1 : Cur) (Oz : ZI) (Dz : ZR) => J0T code c1 Oz Dz) (fun (c1 : Cur) (Oz : ZI) (Dz : ZR) => [(2, .ptr 2 0), (4, .ptr 8 0), (5, .ptr 5 0)]) (fun (c1 : Cur) (Oz : ZI) (Dz : ZR) => [(2, .box 27 [.d true (.nil), .d true (.nil)]), (8, .box 76 [.d false (.sl (.bytes code)), .d true (.int .i64 c1.pos), .d true (.int .u64 c1.seed)]), (5, .box 27 [.d true (.sl (.ints Oz)), .d true (.sl (.rows Dz))])])) (fun g => (fun (c1 : Cur) (Oz : ZI) (Dz : ZR) => .two (.reg [(3, .cell [.int .i64 ((J1z code c1 Oz Dz).pos), .int .u64 ((J1z code c1 Oz Dz).seed)] (.one (.d (.int .i64 (J3q code c1 Oz Dz)))))]) (.none)) (g.1) (g.2.1) (g.2.2))))
def J2O (code : List Nat) : Prop :=
  (((PKE Tryz.prog 133 76 (.sl (.bytes code)) [.int .i64 0, .int .u64 0] [] (J05 code J3x)) ∧ (∀ Or2 : ZI, ∀ Dr2 : ZR, ∀ clr2 : Cur, J0W code J3x Or2 Dr2 clr2 → ((true = true) ∧ (∃ c1' : Cur, ∃ Oz' : ZI, ∃ Dz' : ZR, (J0T code c1' Oz' Dz') ∧ (code = code) ∧ (clr2.pos = c1'.pos) ∧ (clr2.seed = c1'.seed) ∧ (Or2 = Oz') ∧ (Dr2 = Dz'))))) ∧ (∀ c1 : Cur, ∀ Oz : ZI, ∀ Dz : ZR, (J0T code c1 Oz Dz) → (true = true) ∧ (PK Tryz.prog 147 76 (.sl (.bytes code)) [.int .i64 c1.pos, .int .u64 c1.seed] [.int .i64 ((J1z code c1 Oz Dz).pos), .int .u64 ((J1z code c1 Oz Dz).seed)] [.agg [.sl (.ints Oz), .sl (.rows Dz)]] (.one (.d (.int .i64 (J3q code c1 Oz Dz))))) ∧ (∃ O' : ZI, ∃ Ds' : ZR, ∃ rr' : Int, (J16 code O' Ds' rr') ∧ ((.agg [.sl (.ints Oz), .sl (.rows Dz)] : D) = .agg [.sl (.ints O'), .sl (.rows Ds')]) ∧ ((J3q code c1 Oz Dz) = rr'))))
theorem J4V (code : List Nat) (hb : ∀ x9 ∈ code, x9 < 256) (w_code : (code.length : Int) ≤ 9223372036854775807) : J2O code := by
  unfold J2O
  refine ⟨?_, ?_⟩
  ·refine ⟨?_, ?_⟩
   ·refine J2e code J3x ?_ ?_
    ·exact hb
    ·exact J6 J7k (by omega)
   ·intro Or2 Dr2 clr2 hQ9
    obtain ⟨f1r2, f2r2, f3r2⟩ := hQ9
    refine ⟨rfl, ?_⟩
    ·refine ⟨clr2, Or2, Dr2, ?_⟩
     refine ⟨?_, rfl, rfl, rfl, rfl, rfl⟩
     ·refine ⟨?_, ?_, ?_⟩
      ·exact J6 (by assumption) (by omega)
      ·assumption
      ·assumption
  intro c1 Oz Dz hJ
  obtain ⟨q1, q2, q3⟩ := hJ
  refine ⟨rfl, ?_, ?_⟩
  ·refine J3R code c1 Oz Dz ?_ ?_
   ·exact hb
   ·exact J6 (by assumption) (by omega)
  refine ⟨Oz, Dz, (J3q code c1 Oz Dz), ?_⟩
  refine ⟨?_, rfl, rfl⟩
  ·trivial
theorem J53 (code : List Nat) (hb : ∀ x9 ∈ code, x9 < 256) : PE Tryz.prog 55 [.sl (.bytes code)] (J18 code) :=
  pe_wf @Tryz.call55 fun hw => pe_by (by kernel_rfl) Tryz.func55 @Tryz.call55 (by kernel_rfl) J5g (J54 code) (by kernel_rfl) (J4V code hb hw.1) (by kernel_rfl)
def stN (m : Nat) : Int := min (m : Int) 7
def stQ (m : Nat) : Int := 1 * 2 ^ (stN m).toNat
def stO (code : List Nat) (c : Cur) (m : Nat) : ZI := members (fun k => (1 + J3 code c (stQ m)).toNat.testBit k) (stN m).toNat
def stE (code : List Nat) (c : Cur) (m : Nat) : ZI := if J3 code (J1 code c (stQ m)) 20 = 0 then stO code c m ++ [([-1, 0, stN m] : ZI).getD (J3 code (J1 code (J1 code c (stQ m)) 20) 3).toNat 0] else stO code c m
def stC (code : List Nat) (c : Cur) (m : Nat) : Cur := if J3 code (J1 code c (stQ m)) 20 = 0 then J1 code (J1 code (J1 code c (stQ m)) 20) 3 else J1 code (J1 code c (stQ m)) 20
def stT (code : List Nat) (c : Cur) (m : Nat) : Bool := cond (((stE code c m).length : Int) == 0) (decide (stN m > 0)) false
def stK (code : List Nat) (c : Cur) (m : Nat) : Cur := cond (stT code c m) (J1 code (stC code c m) 6) (stC code c m)
def stH (code : List Nat) (c : Cur) (m : Nat) : Bool := cond (stT code c m) (!(J3 code (stC code c m) 6 == 0)) false
def siE (code : List Nat) (c : Cur) (m : Nat) : ZI := if stH code c m = true then [J3 code (stK code c m) (stN m)] else stE code c m
def siC (code : List Nat) (c : Cur) (m : Nat) : Cur := if stH code c m = true then J1 code (stK code c m) (stN m) else stK code c m
theorem J5a (m : Nat) : 1 ≤ stQ m ∧ stQ m ≤ 128 := by
  have h : ∀ k : Nat, k ≤ 7 → 1 ≤ (1 * 2 ^ k : Int) ∧ (1 * 2 ^ k : Int) ≤ 128 := by decide
  exact h _ (by unfold stN; omega)
theorem J4m (code : List Nat) (c : Cur) (m : Nat) : (stO code c m).length ≤ 7 := by
  have h := members_len_le (fun k => (1 + J3 code c (stQ m)).toNat.testBit k) (stN m).toNat
  unfold stO stN at *
  omega
theorem Jao {code : List Nat} {c : Cur} {m : Nat} {b : Int} (h : okC c b) : okC (stC code c m) (b + 6) := by
  unfold stC
  split
  · exact J6 (Jh (Jh (Jh h))) (by omega)
  exact J6 (Jh (Jh h)) (by omega)
theorem Jas {code : List Nat} {c : Cur} {m : Nat} {b : Int} (h : okC c b) : okC (stK code c m) (b + 8) := by
  unfold stK
  cases stT code c m
  · exact J6 (Jao h) (by omega)
  exact J6 (Jh (Jao h)) (by omega)
theorem Jdy {code : List Nat} {c : Cur} {m : Nat} {b : Int} (h : okC c b) : okC (siC code c m) (b + 10) := by
  unfold siC
  split
  · exact J6 (Jh (Jas h)) (by omega)
  exact J6 (Jas h) (by omega)
abbrev J0u (u : Value) (code : List Nat) (c : Cur) (U : ZI) (E : ZR) (ll : ZI) (c2 : Cur) : Prop := (ll = stE code c U.length) ∧ (c2 = stC code c U.length)
abbrev J2m (u : Value) (code : List Nat) (c : Cur) (U : ZI) (E : ZR) (ll : ZI) (c2 : Cur) (gd : Bool) (c3 : Cur) : Prop := (gd = stH code c U.length) ∧ (c3 = stK code c U.length)
abbrev J1g (u : Value) (code : List Nat) (c : Cur) (U : ZI) (E : ZR) (ll : ZI) (c2 : Cur) (c4 : Cur) : Prop := (stH code c U.length = false) ∧ (c4 = stK code c U.length)
def J8m (f : FuncId) (ds : List D) : Orc := bif Nat.beq f 161 then J3Y ds else .no
def J7Q (u : Value) (code : List Nat) (c : Cur) (U : ZI) (E : ZR) : Ann := .two (.none) (.two (.none) (.two (.mark [(6, .call none (.one (.own 3 (.ints (members (fun k => (1 + (J3 code c ((1 : Int) * 2 ^ ((min (U.length : Int) 7).toNat)))).toNat.testBit k) (min (U.length : Int) 7).toNat)))))] [(4, .cell [.int .i64 ((J1 code c ((1 : Int) * 2 ^ ((min (U.length : Int) 7).toNat))).pos), .int .u64 ((J1 code c ((1 : Int) * 2 ^ ((min (U.length : Int) 7).toNat))).seed)] (.one (.d (.int .i64 (J3 code c ((1 : Int) * 2 ^ ((min (U.length : Int) 7).toNat)))))))]) (.cut (.two (.mark [] [(1, .cell [.int .i64 ((J1 code (J1 code c ((1 : Int) * 2 ^ ((min (U.length : Int) 7).toNat))) 20).pos), .int .u64 ((J1 code (J1 code c ((1 : Int) * 2 ^ ((min (U.length : Int) 7).toNat))) 20).seed)] (.one (.d (.bool (J3 code (J1 code c ((1 : Int) * 2 ^ ((min (U.length : Int) 7).toNat))) 20 == 0)))))]) (.two (.mark [] [(4, .cell [.int .i64 ((J1 code (J1 code (J1 code c ((1 : Int) * 2 ^ ((min (U.length : Int) 7).toNat))) 20) (([(-1), 0, (min (U.length : Int) 7)]).length : Int)).pos), .int .u64 ((J1 code (J1 code (J1 code c ((1 : Int) * 2 ^ ((min (U.length : Int) 7).toNat))) 20) (([(-1), 0, (min (U.length : Int) 7)]).length : Int)).seed)] (.one (.d (.int .i64 (([(-1), 0, (min (U.length : Int) 7)]).getD (J3 code (J1 code (J1 code c ((1 : Int) * 2 ^ ((min (U.length : Int) 7).toNat))) 20) (([(-1), 0, (min (U.length : Int) 7)]).length : Int)).toNat 0)))))]) (.none))) (cut2 (fun (ll : ZI) (c2 : Cur) => J0u u code c U E ll c2) (fun (ll : ZI) (c2 : Cur) => [(0, .ptr 0 0), (5, .d true (.int .i64 (min (U.length : Int) 7))), (6, .own 1600500 ll.length)]) (fun (ll : ZI) (c2 : Cur) => [(1600500, .arr true 3 (.ints ll)), (0, .box 76 [.d false (.lit u (.sl (.bytes code))), .d true (.int .i64 c2.pos), .d true (.int .u64 c2.seed)])])) (fun g => (fun (ll : ZI) (c2 : Cur) => .cut (.cut (.mark [] [(9, .cell [.int .i64 ((J1 code c2 6).pos), .int .u64 ((J1 code c2 6).seed)] (.one (.d (.bool (J3 code c2 6 == 0)))))]) (cut2 (fun (gd : Bool) (c3 : Cur) => J2m u code c U E ll c2 gd c3) (fun (gd : Bool) (c3 : Cur) => [(0, .ptr 0 0), (5, .d true (.int .i64 (min (U.length : Int) 7))), (6, .own 1600500 ll.length), (38, .d true (.bool gd))]) (fun (gd : Bool) (c3 : Cur) => [(0, .box 76 [.d false (.lit u (.sl (.bytes code))), .d true (.int .i64 c3.pos), .d true (.int .u64 c3.seed)]), (1600500, .arr true 3 (.ints ll))])) (fun g => (fun (gd : Bool) (c3 : Cur) => .two (.two (.mark [] [(2, .cell [.int .i64 ((J1 code c3 (min (U.length : Int) 7)).pos), .int .u64 ((J1 code c3 (min (U.length : Int) 7)).seed)] (.one (.d (.int .i64 (J3 code c3 (min (U.length : Int) 7))))))]) (.none)) (.none)) (g.1) (g.2))) (cut1 (fun (c4 : Cur) => J1g u code c U E ll c2 c4) (fun (c4 : Cur) => [(0, .ptr 0 0), (6, .own 1600500 ll.length)]) (fun (c4 : Cur) => [(0, .box 76 [.d false (.lit u (.sl (.bytes code))), .d true (.int .i64 c4.pos), .d true (.int .u64 c4.seed)]), (1600500, .arr true 3 (.ints ll))])) (fun _ => .none)) (g.1) (g.2)))))
def Ju (U : ZI) (ll : ZI) : Bool := (cond ((ll.length : Int) == 0) (decide ((min (U.length : Int) 7) > 0)) false)
def J2V (u : Value) (code : List Nat) (c : Cur) (U : ZI) (E : ZR) : Prop :=
  (PC Tryz.prog 161 [.int .i64 (U.length : Int), .int .i64 7] (.one (.d (.int .i64 (min (U.length : Int) 7))))) ∧ ((0 : Int) ≤ 1) ∧ ((0 : Int) ≤ (min (U.length : Int) 7)) ∧ ((0 : Int) ≤ ((1 : Int) * 2 ^ ((min (U.length : Int) 7).toNat)) ∧ (((1 : Int) * 2 ^ ((min (U.length : Int) 7).toNat)) : Int) ≤ 9223372036854775807) ∧ (PK Tryz.prog 156 76 (.sl (.bytes code)) [.int .i64 c.pos, .int .u64 c.seed] [.int .i64 ((J1 code c ((1 : Int) * 2 ^ ((min (U.length : Int) 7).toNat))).pos), .int .u64 ((J1 code c ((1 : Int) * 2 ^ ((min (U.length : Int) 7).toNat))).seed)] [.int .i64 ((1 : Int) * 2 ^ ((min (U.length : Int) 7).toNat))] (.one (.d (.int .i64 (J3 code c ((1 : Int) * 2 ^ ((min (U.length : Int) 7).toNat))))))) ∧ (I6 (1 + (J3 code c ((1 : Int) * 2 ^ ((min (U.length : Int) 7).toNat))))) ∧ (PC Tryz.prog 142 [.int .i64 (min (U.length : Int) 7), .int .i64 (1 + (J3 code c ((1 : Int) * 2 ^ ((min (U.length : Int) 7).toNat))))] (.one (.own 3 (.ints (members (fun k => (1 + (J3 code c ((1 : Int) * 2 ^ ((min (U.length : Int) 7).toNat)))).toNat.testBit k) (min (U.length : Int) 7).toNat))))) ∧ (((PK Tryz.prog 124 76 (.sl (.bytes code)) [.int .i64 ((J1 code c ((1 : Int) * 2 ^ ((min (U.length : Int) 7).toNat))).pos), .int .u64 ((J1 code c ((1 : Int) * 2 ^ ((min (U.length : Int) 7).toNat))).seed)] [.int .i64 ((J1 code (J1 code c ((1 : Int) * 2 ^ ((min (U.length : Int) 7).toNat))) 20).pos), .int .u64 ((J1 code (J1 code c ((1 : Int) * 2 ^ ((min (U.length : Int) 7).toNat))) 20).seed)] [.int .i64 20] (.one (.d (.bool (J3 code (J1 code c ((1 : Int) * 2 ^ ((min (U.length : Int) 7).toNat))) 20 == 0))))) ∧ (((J3 code (J1 code c ((1 : Int) * 2 ^ ((min (U.length : Int) 7).toNat))) 20 == 0) = true → ((3 : Nat) = 3) ∧ (PK Tryz.prog 155 76 (.sl (.bytes code)) [.int .i64 ((J1 code (J1 code c ((1 : Int) * 2 ^ ((min (U.length : Int) 7).toNat))) 20).pos), .int .u64 ((J1 code (J1 code c ((1 : Int) * 2 ^ ((min (U.length : Int) 7).toNat))) 20).seed)] [.int .i64 ((J1 code (J1 code (J1 code c ((1 : Int) * 2 ^ ((min (U.length : Int) 7).toNat))) 20) (([(-1), 0, (min (U.length : Int) 7)]).length : Int)).pos), .int .u64 ((J1 code (J1 code (J1 code c ((1 : Int) * 2 ^ ((min (U.length : Int) 7).toNat))) 20) (([(-1), 0, (min (U.length : Int) 7)]).length : Int)).seed)] [.sl (.ints ([(-1), 0, (min (U.length : Int) 7)]))] (.one (.d (.int .i64 (([(-1), 0, (min (U.length : Int) 7)]).getD (J3 code (J1 code (J1 code c ((1 : Int) * 2 ^ ((min (U.length : Int) 7).toNat))) 20) (([(-1), 0, (min (U.length : Int) 7)]).length : Int)).toNat 0))))) ∧ ((members (fun k => (1 + (J3 code c ((1 : Int) * 2 ^ ((min (U.length : Int) 7).toNat)))).toNat.testBit k) (min (U.length : Int) 7).toNat).length = (members (fun k => (1 + (J3 code c ((1 : Int) * 2 ^ ((min (U.length : Int) 7).toNat)))).toNat.testBit k) (min (U.length : Int) 7).toNat).length) ∧ ((1 : Nat) = 1) ∧ (((members (fun k => (1 + (J3 code c ((1 : Int) * 2 ^ ((min (U.length : Int) 7).toNat)))).toNat.testBit k) (min (U.length : Int) 7).toNat).length + 1) * 8 ≤ 140737488355328) ∧ (∃ ll' : ZI, ∃ c2' : Cur, (J0u u code c U E ll' c2') ∧ ((min (U.length : Int) 7) = (min (U.length : Int) 7)) ∧ (((members (fun k => (1 + (J3 code c ((1 : Int) * 2 ^ ((min (U.length : Int) 7).toNat)))).toNat.testBit k) (min (U.length : Int) 7).toNat).length + 1) = ll'.length) ∧ ((members (fun k => (1 + (J3 code c ((1 : Int) * 2 ^ ((min (U.length : Int) 7).toNat)))).toNat.testBit k) (min (U.length : Int) 7).toNat ++ [(([(-1), 0, (min (U.length : Int) 7)]).getD (J3 code (J1 code (J1 code c ((1 : Int) * 2 ^ ((min (U.length : Int) 7).toNat))) 20) (([(-1), 0, (min (U.length : Int) 7)]).length : Int)).toNat 0)]) = ll') ∧ ((.lit u (.sl (.bytes code)) : D) = .lit u (.sl (.bytes code))) ∧ ((J1 code (J1 code (J1 code c ((1 : Int) * 2 ^ ((min (U.length : Int) 7).toNat))) 20) (([(-1), 0, (min (U.length : Int) 7)]).length : Int)).pos = c2'.pos) ∧ ((J1 code (J1 code (J1 code c ((1 : Int) * 2 ^ ((min (U.length : Int) 7).toNat))) 20) (([(-1), 0, (min (U.length : Int) 7)]).length : Int)).seed = c2'.seed))) ∧ ((J3 code (J1 code c ((1 : Int) * 2 ^ ((min (U.length : Int) 7).toNat))) 20 == 0) = false → (∃ ll' : ZI, ∃ c2' : Cur, (J0u u code c U E ll' c2') ∧ ((min (U.length : Int) 7) = (min (U.length : Int) 7)) ∧ ((members (fun k => (1 + (J3 code c ((1 : Int) * 2 ^ ((min (U.length : Int) 7).toNat)))).toNat.testBit k) (min (U.length : Int) 7).toNat).length = ll'.length) ∧ (members (fun k => (1 + (J3 code c ((1 : Int) * 2 ^ ((min (U.length : Int) 7).toNat)))).toNat.testBit k) (min (U.length : Int) 7).toNat = ll') ∧ ((.lit u (.sl (.bytes code)) : D) = .lit u (.sl (.bytes code))) ∧ ((J1 code (J1 code c ((1 : Int) * 2 ^ ((min (U.length : Int) 7).toNat))) 20).pos = c2'.pos) ∧ ((J1 code (J1 code c ((1 : Int) * 2 ^ ((min (U.length : Int) 7).toNat))) 20).seed = c2'.seed))))) ∧ (∀ ll : ZI, ∀ c2 : Cur, (J0u u code c U E ll c2) → ((((((ll.length : Int) == 0) = true → ((ll.length : Int) == 0) = true) ∧ (true = true) ∧ ((((ll.length : Int) == 0) = true → ((ll.length : Int) == 0) = true)) ∧ ((((ll.length : Int) == 0) = false → true = true)) ∧ ((Ju U ll) = true → (Ju U ll) = true) ∧ ((Ju U ll) = true → PK Tryz.prog 124 76 (.sl (.bytes code)) [.int .i64 c2.pos, .int .u64 c2.seed] [.int .i64 ((J1 code c2 6).pos), .int .u64 ((J1 code c2 6).seed)] [.int .i64 6] (.one (.d (.bool (J3 code c2 6 == 0))))) ∧ ((Ju U ll) = true → (Ju U ll) = true) ∧ (true = true) ∧ (((Ju U ll) = true → (Ju U ll) = true)) ∧ (((Ju U ll) = false → true = true)) ∧ (∃ gd' : Bool, ∃ c3' : Cur, (J2m u code c U E ll c2 gd' c3') ∧ ((min (U.length : Int) 7) = (min (U.length : Int) 7)) ∧ (ll.length = ll.length) ∧ ((cond (Ju U ll) (!(J3 code c2 6 == 0)) false) = gd') ∧ ((.lit u (.sl (.bytes code)) : D) = .lit u (.sl (.bytes code))) ∧ ((cond (Ju U ll) ((J1 code c2 6).pos) c2.pos) = c3'.pos) ∧ ((cond (Ju U ll) ((J1 code c2 6).seed) c2.seed) = c3'.seed) ∧ (ll = ll))) ∧ (∀ gd : Bool, ∀ c3 : Cur, (J2m u code c U E ll c2 gd c3) → ((gd = true → (PK Tryz.prog 156 76 (.sl (.bytes code)) [.int .i64 c3.pos, .int .u64 c3.seed] [.int .i64 ((J1 code c3 (min (U.length : Int) 7)).pos), .int .u64 ((J1 code c3 (min (U.length : Int) 7)).seed)] [.int .i64 (min (U.length : Int) 7)] (.one (.d (.int .i64 (J3 code c3 (min (U.length : Int) 7)))))) ∧ (((.lit u (.sl (.bytes code)) : D) = .lit u (.sl (.bytes code))) ∧ ((J1 code c3 (min (U.length : Int) 7)).pos = (siC code c U.length).pos) ∧ ((J1 code c3 (min (U.length : Int) 7)).seed = (siC code c U.length).seed) ∧ ((1 : Nat) = 1) ∧ (([(J3 code c3 (min (U.length : Int) 7))] : ZI) = siE code c U.length))) ∧ (gd = false → (∃ c4' : Cur, (J1g u code c U E ll c2 c4') ∧ (ll.length = ll.length) ∧ ((.lit u (.sl (.bytes code)) : D) = .lit u (.sl (.bytes code))) ∧ (c3.pos = c4'.pos) ∧ (c3.seed = c4'.seed) ∧ (ll = ll)))))) ∧ (∀ c4 : Cur, (J1g u code c U E ll c2 c4) → (((.lit u (.sl (.bytes code)) : D) = .lit u (.sl (.bytes code))) ∧ (c4.pos = (siC code c U.length).pos) ∧ (c4.seed = (siC code c U.length).seed) ∧ (ll.length = ll.length) ∧ ((ll : ZI) = siE code c U.length))))))
theorem J7z (u : Value) (code : List Nat) (c : Cur) (U : ZI) (E : ZR) (hb : ∀ x9 ∈ code, x9 < 256) (hc : okC c 9000100)  : J2V u code c U E := by
  unfold J2V Ju
  refine ⟨J4v (U.length : Int) 7, ?_, ?_, ?_, ?_, ?_, ?_, ?_, ?_⟩
  ·omega
  ·omega
  ·have q0 := J5a U.length
   have v := Jq code c (n := stQ U.length) (by omega)
   have hl := J4m code c U.length
   unfold stO at hl
   unfold stQ stN at q0 v hl
   omega
  ·refine Jp code c ((1 : Int) * 2 ^ ((min (U.length : Int) 7).toNat)) ?_ ?_
   ·exact hb
   ·exact J6 (by assumption) (by omega)
  ·have q0 := J5a U.length
   have v := Jq code c (n := stQ U.length) (by omega)
   have hl := J4m code c U.length
   unfold stO at hl
   unfold stQ stN at q0 v hl
   omega
  ·refine J8d (min (U.length : Int) 7) (1 + (J3 code c ((1 : Int) * 2 ^ ((min (U.length : Int) 7).toNat)))) ?_ ?_
   ·omega
   ·have q0 := J5a U.length
    have v := Jq code c (n := stQ U.length) (by omega)
    have hl := J4m code c U.length
    unfold stO at hl
    unfold stQ stN at q0 v hl
    omega
  ·refine ⟨?_, ?_, ?_⟩
   ·refine J1W code (J1 code c ((1 : Int) * 2 ^ ((min (U.length : Int) 7).toNat))) 20 ?_ ?_
    ·exact hb
    ·exact J6 (Jh (by assumption)) (by omega)
   ·intro b1
    try simp only [nrmT] at b1
    refine ⟨rfl, ?_, rfl, rfl, ?_, ?_⟩
    ·refine JC code (J1 code (J1 code c ((1 : Int) * 2 ^ ((min (U.length : Int) 7).toNat))) 20) ([(-1), 0, (min (U.length : Int) 7)]) ?_ ?_ ?_
     ·exact hb
     ·exact J6 (Jh (Jh (by assumption))) (by omega)
     ·simp
    ·have q0 := J5a U.length
     have v := Jq code c (n := stQ U.length) (by omega)
     have hl := J4m code c U.length
     unfold stO at hl
     unfold stQ stN at q0 v hl
     omega
    refine ⟨(members (fun k => (1 + (J3 code c ((1 : Int) * 2 ^ ((min (U.length : Int) 7).toNat)))).toNat.testBit k) (min (U.length : Int) 7).toNat ++ [(([(-1), 0, (min (U.length : Int) 7)]).getD (J3 code (J1 code (J1 code c ((1 : Int) * 2 ^ ((min (U.length : Int) 7).toNat))) 20) (([(-1), 0, (min (U.length : Int) 7)]).length : Int)).toNat 0)]), (J1 code (J1 code (J1 code c ((1 : Int) * 2 ^ ((min (U.length : Int) 7).toNat))) 20) (([(-1), 0, (min (U.length : Int) 7)]).length : Int)), ?_⟩
    refine ⟨?_, rfl, ?_, rfl, rfl, rfl, rfl⟩
    ·refine ⟨?_, ?_⟩
     ·unfold stE stO stQ stN
      (rw [if_pos b1]; rfl)
     ·unfold stC stQ stN
      (rw [if_pos b1]; rfl)
    have q0 := J5a U.length
    have v := Jq code c (n := stQ U.length) (by omega)
    have hl := J4m code c U.length
    unfold stO at hl
    unfold stQ stN at q0 v hl
    (simp; done)
   ·intro b2
    try simp only [nrmT] at b2
    refine ⟨(members (fun k => (1 + (J3 code c ((1 : Int) * 2 ^ ((min (U.length : Int) 7).toNat)))).toNat.testBit k) (min (U.length : Int) 7).toNat), (J1 code (J1 code c ((1 : Int) * 2 ^ ((min (U.length : Int) 7).toNat))) 20), ?_⟩
    refine ⟨?_, rfl, rfl, ?_, rfl, rfl, rfl⟩
    ·refine ⟨?_, ?_⟩
     ·unfold stE stO stQ stN
      (rw [if_neg b2]; done)
     ·unfold stC stQ stN
      (rw [if_neg b2]; done)
    have q0 := J5a U.length
    have v := Jq code c (n := stQ U.length) (by omega)
    have hl := J4m code c U.length
    unfold stO at hl
    unfold stQ stN at q0 v hl
    rfl
  intro ll c2 hJ
  obtain ⟨d1, d2⟩ := hJ
  refine ⟨?_, ?_⟩
  ·refine ⟨?_, ?_⟩
   ·refine ⟨id, rfl, id, fun _ => rfl, id, ?_, id, rfl, id, fun _ => rfl, ?_⟩
    ·intro hg
     refine J1W code c2 6 ?_ ?_
     ·exact hb
     rw [d2]
     exact J6 (Jao hc) (by omega)
    ·refine ⟨(cond (cond ((ll.length : Int) == 0) (decide ((min (U.length : Int) 7) > 0)) false) (!(J3 code c2 6 == 0)) false), (cond (cond ((ll.length : Int) == 0) (decide ((min (U.length : Int) 7) > 0)) false) (J1 code c2 6) c2), ?_⟩
     refine ⟨?_, rfl, rfl, rfl, rfl, J6i _ _ _, J5u _ _ _, rfl⟩
     ·refine ⟨?_, ?_⟩
      ·rw [d1, d2]; rfl
      ·(rw [d1, d2]; rfl)
   ·intro gd c3 hJ
    obtain ⟨d3, d4⟩ := hJ
    refine ⟨?_, ?_⟩
    ·intro b3
     try simp only [nrmT] at b3
     refine ⟨?_, rfl, ?_, ?_, rfl, ?_⟩
     ·refine Jp code c3 (min (U.length : Int) 7) ?_ ?_
      ·exact hb
      ·(rw [d4]; exact J6 (Jas hc) (by omega))
     ·(rw [d4]; unfold siC; rw [if_pos (by rw [← d3]; exact b3)]; rfl)
     ·(rw [d4]; unfold siC; rw [if_pos (by rw [← d3]; exact b3)]; rfl)
     (rw [d4]; unfold siE; rw [if_pos (by rw [← d3]; exact b3)]; rfl)
    intro b4
    try simp only [nrmT] at b4
    refine ⟨c3, ?_⟩
    refine ⟨?_, rfl, rfl, rfl, rfl, rfl⟩
    ·refine ⟨?_, ?_⟩
     ·rw [← d3]; exact b4
     ·exact d4
  intro c4 hJ
  obtain ⟨d5, d6⟩ := hJ
  refine ⟨rfl, ?_, ?_, rfl, ?_⟩
  ·(rw [d6]; unfold siC; rw [if_neg (by rw [d5]; decide)])
  ·(rw [d6]; unfold siC; rw [if_neg (by rw [d5]; decide)])
  (rw [d1]; unfold siE; rw [if_neg (by rw [d5]; decide)])
theorem J7E (code : List Nat) (c : Cur) (U : ZI) (E : ZR) (hb : ∀ x9 ∈ code, x9 < 256) (hc : okC c 9000100) : PK Tryz.prog 123 76 (.sl (.bytes code)) [.int .i64 c.pos, .int .u64 c.seed] [.int .i64 (siC code c U.length).pos, .int .u64 (siC code c U.length).seed] [.agg [.sl (.ints U), .sl (.rows E)]] (.one (.own 3 (.ints (siE code c U.length)))) :=
  pk_by (Q := fun u => J2V u code c U E) (by kernel_rfl) Tryz.func123 @Tryz.call123 (by kernel_rfl) J8m (fun u => J7Q u code c U E) (by kernel_rfl) (fun u => J7z u code c U E hb hc) (fun u => by kernel_rfl)
abbrev J0S (code : List Nat) (c1 : Cur) (Oz : ZI) (Dz : ZR) : Prop := (okC c1 8000000) ∧ (Oz.length ≤ 8) ∧ (Dz.length ≤ 8)
abbrev J1c (code : List Nat) (O : ZI) (Ds : ZR) (ss : ZI) (rr : Int) : Prop := True
def J1d (code : List Nat) : Ex := ex4 0 (fun (O : ZI) (Ds : ZR) (ss : ZI) (rr : Int) => J1c code O Ds ss rr) (fun (O : ZI) (Ds : ZR) (ss : ZI) (rr : Int) => []) (fun (O : ZI) (Ds : ZR) (ss : ZI) (rr : Int) => .tup [.d (.agg [.sl (.ints O), .sl (.rows Ds)]), .d (.sl (.ints ss)), .d (.int .i64 rr)])
def J5b (f : FuncId) (ds : List D) : Orc := .no
def J56 (code : List Nat) : Ann := .two (.none) (.two (.none) (.cut (.exr (.ex [] 1 (J05 code J3x) (fun g => (fun (Or2 : ZI) (Dr2 : ZR) (clr2 : Cur) => .ms [] []) (g.1) (g.2.1) (g.2.2)))) (cut3 (fun (c1 : Cur) (Oz : ZI) (Dz : ZR) => J0S code c1 Oz Dz) (fun (c1 : Cur) (Oz : ZI) (Dz : ZR) => [(2, .ptr 2 0), (5, .ptr 9 0), (6, .ptr 6 0)]) (fun (c1 : Cur) (Oz : ZI) (Dz : ZR) => [(2, .box 27 [.d true (.nil), .d true (.nil)]), (9, .box 76 [.d false (.sl (.bytes code)), .d true (.int .i64 c1.pos), .d true (.int .u64 c1.seed)]), (6, .box 27 [.d true (.sl (.ints Oz)), .d true (.sl (.rows Dz))])])) (fun g => (fun (c1 : Cur) (Oz : ZI) (Dz : ZR) => .two (.reg [(3, .cell [.int .i64 ((siC code c1 Oz.length).pos), .int .u64 ((siC code c1 Oz.length).seed)] (.one (.own 3 (.ints (siE code c1 Oz.length))))), (6, .cell [.int .i64 ((J1z code (siC code c1 Oz.length) Oz Dz).pos), .int .u64 ((J1z code (siC code c1 Oz.length) Oz Dz).seed)] (.one (.d (.int .i64 (J3q code (siC code c1 Oz.length) Oz Dz)))))]) (.none)) (g.1) (g.2.1) (g.2.2))))
def J2M (code : List Nat) : Prop :=
  (((PKE Tryz.prog 133 76 (.sl (.bytes code)) [.int .i64 0, .int .u64 0] [] (J05 code J3x)) ∧ (∀ Or2 : ZI, ∀ Dr2 : ZR, ∀ clr2 : Cur, J0W code J3x Or2 Dr2 clr2 → ((true = true) ∧ (∃ c1' : Cur, ∃ Oz' : ZI, ∃ Dz' : ZR, (J0S code c1' Oz' Dz') ∧ (code = code) ∧ (clr2.pos = c1'.pos) ∧ (clr2.seed = c1'.seed) ∧ (Or2 = Oz') ∧ (Dr2 = Dz'))))) ∧ (∀ c1 : Cur, ∀ Oz : ZI, ∀ Dz : ZR, (J0S code c1 Oz Dz) → (true = true) ∧ (PK Tryz.prog 123 76 (.sl (.bytes code)) [.int .i64 c1.pos, .int .u64 c1.seed] [.int .i64 ((siC code c1 Oz.length).pos), .int .u64 ((siC code c1 Oz.length).seed)] [.agg [.sl (.ints Oz), .sl (.rows Dz)]] (.one (.own 3 (.ints (siE code c1 Oz.length))))) ∧ (PK Tryz.prog 147 76 (.sl (.bytes code)) [.int .i64 ((siC code c1 Oz.length).pos), .int .u64 ((siC code c1 Oz.length).seed)] [.int .i64 ((J1z code (siC code c1 Oz.length) Oz Dz).pos), .int .u64 ((J1z code (siC code c1 Oz.length) Oz Dz).seed)] [.agg [.sl (.ints Oz), .sl (.rows Dz)]] (.one (.d (.int .i64 (J3q code (siC code c1 Oz.length) Oz Dz))))) ∧ (∃ O' : ZI, ∃ Ds' : ZR, ∃ ss' : ZI, ∃ rr' : Int, (J1c code O' Ds' ss' rr') ∧ ((.agg [.sl (.ints Oz), .sl (.rows Dz)] : D) = .agg [.sl (.ints O'), .sl (.rows Ds')]) ∧ ((siE code c1 Oz.length).length = (siE code c1 Oz.length).length) ∧ ((siE code c1 Oz.length : ZI) = ss') ∧ ((J3q code (siC code c1 Oz.length) Oz Dz) = rr'))))
theorem J51 (code : List Nat) (hb : ∀ x9 ∈ code, x9 < 256) (w_code : (code.length : Int) ≤ 9223372036854775807) : J2M code := by
  unfold J2M
  refine ⟨?_, ?_⟩
  ·refine ⟨?_, ?_⟩
   ·refine J2e code J3x ?_ ?_
    ·exact hb
    ·exact J6 J7k (by omega)
   ·intro Or2 Dr2 clr2 hQ9
    obtain ⟨f1r2, f2r2, f3r2⟩ := hQ9
    refine ⟨rfl, ?_⟩
    ·refine ⟨clr2, Or2, Dr2, ?_⟩
     refine ⟨?_, rfl, rfl, rfl, rfl, rfl⟩
     ·refine ⟨?_, ?_, ?_⟩
      ·exact J6 (by assumption) (by omega)
      ·assumption
      ·assumption
  intro c1 Oz Dz hJ
  obtain ⟨q1, q2, q3⟩ := hJ
  refine ⟨rfl, ?_, ?_, ?_⟩
  ·refine J7E code c1 Oz Dz ?_ ?_
   ·exact hb
   ·exact J6 (by assumption) (by omega)
  ·refine J3R code (siC code c1 Oz.length) Oz Dz ?_ ?_
   ·exact hb
   ·exact J6 (Jdy (by assumption)) (by omega)
  refine ⟨Oz, Dz, siE code c1 Oz.length, (J3q code (siC code c1 Oz.length) Oz Dz), ?_⟩
  refine ⟨?_, rfl, rfl, rfl, rfl⟩
  ·trivial
theorem J50 (code : List Nat) (hb : ∀ x9 ∈ code, x9 < 256) : PE Tryz.prog 57 [.sl (.bytes code)] (J1d code) :=
  pe_wf @Tryz.call57 fun hw => pe_by (by kernel_rfl) Tryz.func57 @Tryz.call57 (by kernel_rfl) J5b (J56 code) (by kernel_rfl) (J51 code hb hw.1) (by kernel_rfl)
abbrev J17 (code : List Nat) (c1 : Cur) (Oz : ZI) (Dz : ZR) : Prop := (okC c1 8000000) ∧ (Oz.length ≤ 8) ∧ (Dz.length ≤ 8)
abbrev J1A (code : List Nat) (O : ZI) (Ds : ZR) (kk : Int) (zz : Int) : Prop := True
def J1s (code : List Nat) : Ex := ex4 0 (fun (O : ZI) (Ds : ZR) (kk : Int) (zz : Int) => J1A code O Ds kk zz) (fun (O : ZI) (Ds : ZR) (kk : Int) (zz : Int) => []) (fun (O : ZI) (Ds : ZR) (kk : Int) (zz : Int) => .tup [.d (.agg [.sl (.ints O), .sl (.rows Ds)]), .d (.int .i64 kk), .d (.int .i64 zz)])
def J5H (f : FuncId) (ds : List D) : Orc := .no
def J5G (code : List Nat) : Ann := .two (.none) (.two (.none) (.cut (.exr (.ex [] 1 (J05 code J3x) (fun g => (fun (Or2 : ZI) (Dr2 : ZR) (clr2 : Cur) => .ms [] []) (g.1) (g.2.1) (g.2.2)))) (cut3 (fun (c1 : Cur) (Oz : ZI) (Dz : ZR) => J17 code c1 Oz Dz) (fun (c1 : Cur) (Oz : ZI) (Dz : ZR) => [(2, .ptr 2 0), (5, .ptr 9 0), (6, .ptr 6 0)]) (fun (c1 : Cur) (Oz : ZI) (Dz : ZR) => [(2, .box 27 [.d true (.nil), .d true (.nil)]), (9, .box 76 [.d false (.sl (.bytes code)), .d true (.int .i64 c1.pos), .d true (.int .u64 c1.seed)]), (6, .box 27 [.d true (.sl (.ints Oz)), .d true (.sl (.rows Dz))])])) (fun g => (fun (c1 : Cur) (Oz : ZI) (Dz : ZR) => .two (.reg [(5, .frz), (3, .cell [.int .i64 ((n5C code c1 Oz.length).pos), .int .u64 ((n5C code c1 Oz.length).seed)] (.one (.d (.int .i64 (n5V code c1 Oz.length))))), (7, .cell [.int .i64 ((J1 code (n5C code c1 Oz.length) 24).pos), .int .u64 ((J1 code (n5C code c1 Oz.length) 24).seed)] (.one (.d (.int .i64 (J3 code (n5C code c1 Oz.length) 24))))), (11, .cell [.int .i64 ((J1 code (J1 code (n5C code c1 Oz.length) 24) (((([0, 1, 1, 2, 3, 7, 8, (-1)]).take ((6 + ((J3 code (n5C code c1 Oz.length) 24) / 11)).toNat)).drop 0).length : Int)).pos), .int .u64 ((J1 code (J1 code (n5C code c1 Oz.length) 24) (((([0, 1, 1, 2, 3, 7, 8, (-1)]).take ((6 + ((J3 code (n5C code c1 Oz.length) 24) / 11)).toNat)).drop 0).length : Int)).seed)] (.one (.d (.int .i64 (((([0, 1, 1, 2, 3, 7, 8, (-1)]).take ((6 + ((J3 code (n5C code c1 Oz.length) 24) / 11)).toNat)).drop 0).getD (J3 code (J1 code (n5C code c1 Oz.length) 24) (((([0, 1, 1, 2, 3, 7, 8, (-1)]).take ((6 + ((J3 code (n5C code c1 Oz.length) 24) / 11)).toNat)).drop 0).length : Int)).toNat 0)))))]) (.none)) (g.1) (g.2.1) (g.2.2))))
def J3j (code : List Nat) : Prop :=
  (((PKE Tryz.prog 133 76 (.sl (.bytes code)) [.int .i64 0, .int .u64 0] [] (J05 code J3x)) ∧ (∀ Or2 : ZI, ∀ Dr2 : ZR, ∀ clr2 : Cur, J0W code J3x Or2 Dr2 clr2 → ((true = true) ∧ (∃ c1' : Cur, ∃ Oz' : ZI, ∃ Dz' : ZR, (J17 code c1' Oz' Dz') ∧ (code = code) ∧ (clr2.pos = c1'.pos) ∧ (clr2.seed = c1'.seed) ∧ (Or2 = Oz') ∧ (Dr2 = Dz'))))) ∧ (∀ c1 : Cur, ∀ Oz : ZI, ∀ Dz : ZR, (J17 code c1 Oz Dz) → (true = true) ∧ (PK Tryz.prog 92 76 (.sl (.bytes code)) [.int .i64 c1.pos, .int .u64 c1.seed] [.int .i64 ((n5C code c1 Oz.length).pos), .int .u64 ((n5C code c1 Oz.length).seed)] [.agg [.sl (.ints Oz), .sl (.rows Dz)]] (.one (.d (.int .i64 (n5V code c1 Oz.length))))) ∧ (PK Tryz.prog 156 76 (.sl (.bytes code)) [.int .i64 ((n5C code c1 Oz.length).pos), .int .u64 ((n5C code c1 Oz.length).seed)] [.int .i64 ((J1 code (n5C code c1 Oz.length) 24).pos), .int .u64 ((J1 code (n5C code c1 Oz.length) 24).seed)] [.int .i64 24] (.one (.d (.int .i64 (J3 code (n5C code c1 Oz.length) 24))))) ∧ ((0 : Int) ≤ (J3 code (n5C code c1 Oz.length) 24) ∧ ((J3 code (n5C code c1 Oz.length) 24) : Int) ≤ 9223372036854775807) ∧ ((1 : Int) ≤ 11) ∧ (I6 (6 + ((J3 code (n5C code c1 Oz.length) 24) / 11))) ∧ ((0 : Int) ≤ (6 + ((J3 code (n5C code c1 Oz.length) 24) / 11))) ∧ (((6 + ((J3 code (n5C code c1 Oz.length) 24) / 11)) : Int) ≤ 8) ∧ (PK Tryz.prog 155 76 (.sl (.bytes code)) [.int .i64 ((J1 code (n5C code c1 Oz.length) 24).pos), .int .u64 ((J1 code (n5C code c1 Oz.length) 24).seed)] [.int .i64 ((J1 code (J1 code (n5C code c1 Oz.length) 24) (((([0, 1, 1, 2, 3, 7, 8, (-1)]).take ((6 + ((J3 code (n5C code c1 Oz.length) 24) / 11)).toNat)).drop 0).length : Int)).pos), .int .u64 ((J1 code (J1 code (n5C code c1 Oz.length) 24) (((([0, 1, 1, 2, 3, 7, 8, (-1)]).take ((6 + ((J3 code (n5C code c1 Oz.length) 24) / 11)).toNat)).drop 0).length : Int)).seed)] [.sl (.ints ((([0, 1, 1, 2, 3, 7, 8, (-1)]).take ((6 + ((J3 code (n5C code c1 Oz.length) 24) / 11)).toNat)).drop 0))] (.one (.d (.int .i64 (((([0, 1, 1, 2, 3, 7, 8, (-1)]).take ((6 + ((J3 code (n5C code c1 Oz.length) 24) / 11)).toNat)).drop 0).getD (J3 code (J1 code (n5C code c1 Oz.length) 24) (((([0, 1, 1, 2, 3, 7, 8, (-1)]).take ((6 + ((J3 code (n5C code c1 Oz.length) 24) / 11)).toNat)).drop 0).length : Int)).toNat 0))))) ∧ (∃ O' : ZI, ∃ Ds' : ZR, ∃ kk' : Int, ∃ zz' : Int, (J1A code O' Ds' kk' zz') ∧ ((.agg [.sl (.ints Oz), .sl (.rows Dz)] : D) = .agg [.sl (.ints O'), .sl (.rows Ds')]) ∧ ((n5V code c1 Oz.length) = kk') ∧ ((((([0, 1, 1, 2, 3, 7, 8, (-1)]).take ((6 + ((J3 code (n5C code c1 Oz.length) 24) / 11)).toNat)).drop 0).getD (J3 code (J1 code (n5C code c1 Oz.length) 24) (((([0, 1, 1, 2, 3, 7, 8, (-1)]).take ((6 + ((J3 code (n5C code c1 Oz.length) 24) / 11)).toNat)).drop 0).length : Int)).toNat 0) = zz'))))
theorem J5p (code : List Nat) (hb : ∀ x9 ∈ code, x9 < 256) (w_code : (code.length : Int) ≤ 9223372036854775807) : J3j code := by
  unfold J3j
  refine ⟨?_, ?_⟩
  ·refine ⟨?_, ?_⟩
   ·refine J2e code J3x ?_ ?_
    ·exact hb
    ·exact J6 J7k (by omega)
   ·intro Or2 Dr2 clr2 hQ9
    obtain ⟨f1r2, f2r2, f3r2⟩ := hQ9
    refine ⟨rfl, ?_⟩
    ·refine ⟨clr2, Or2, Dr2, ?_⟩
     refine ⟨?_, rfl, rfl, rfl, rfl, rfl⟩
     ·refine ⟨?_, ?_, ?_⟩
      ·exact J6 (by assumption) (by omega)
      ·assumption
      ·assumption
  intro c1 Oz Dz hJ
  obtain ⟨q1, q2, q3⟩ := hJ
  refine ⟨rfl, ?_, ?_, ?_, ?_, ?_, ?_, ?_, ?_, ?_⟩
  ·refine J5Y code c1 Oz Dz ?_ ?_
   ·exact hb
   ·exact J6 (by assumption) (by omega)
  ·refine Jp code (n5C code c1 Oz.length) 24 ?_ ?_
   ·exact hb
   ·exact J6 (Jda (by assumption)) (by omega)
  ·have v := Jq code (n5C code c1 Oz.length) (n := 24) (by omega)
   omega
  ·omega
  ·have v := Jq code (n5C code c1 Oz.length) (n := 24) (by omega)
   omega
  ·have v := Jq code (n5C code c1 Oz.length) (n := 24) (by omega)
   omega
  ·have v := Jq code (n5C code c1 Oz.length) (n := 24) (by omega)
   omega
  ·refine JC code (J1 code (n5C code c1 Oz.length) 24) ((([0, 1, 1, 2, 3, 7, 8, (-1)]).take ((6 + ((J3 code (n5C code c1 Oz.length) 24) / 11)).toNat)).drop 0) ?_ ?_ ?_
   ·exact hb
   ·exact J6 (Jh (Jda (by assumption))) (by omega)
   ·have v := Jq code (n5C code c1 Oz.length) (n := 24) (by omega)
    (simp only [List.length_take, List.length_drop, List.length_cons, List.length_nil]; omega)
  refine ⟨Oz, Dz, (n5V code c1 Oz.length), (((([0, 1, 1, 2, 3, 7, 8, (-1)]).take ((6 + ((J3 code (n5C code c1 Oz.length) 24) / 11)).toNat)).drop 0).getD (J3 code (J1 code (n5C code c1 Oz.length) 24) (((([0, 1, 1, 2, 3, 7, 8, (-1)]).take ((6 + ((J3 code (n5C code c1 Oz.length) 24) / 11)).toNat)).drop 0).length : Int)).toNat 0), ?_⟩
  refine ⟨?_, rfl, rfl, rfl⟩
  ·trivial
theorem J5h (code : List Nat) (hb : ∀ x9 ∈ code, x9 < 256) : PE Tryz.prog 63 [.sl (.bytes code)] (J1s code) :=
  pe_wf @Tryz.call63 fun hw => pe_by (by kernel_rfl) Tryz.func63 @Tryz.call63 (by kernel_rfl) J5H (J5G code) (by kernel_rfl) (J5p code hb hw.1) (by kernel_rfl)
def J81 (xs : ZI) (b : Int) (i : Nat) : Int := if xs.getD i 0 > b then xs.getD i 0 else b
def Jl (xs : ZI) (k : Nat) : Int := foldTo (J81 xs) 0 k
theorem J52 (xs : ZI) (k : Nat) : Jl xs (k + 1) = J81 xs (Jl xs k) k := rfl
theorem J77 (xs : ZI) : ∀ k, 0 ≤ Jl xs k ∧ (∀ i, i < k → xs.getD i 0 ≤ Jl xs k) ∧ (Jl xs k = 0 ∨ ∃ i, i < k ∧ Jl xs k = xs.getD i 0)
  | 0 => ⟨Int.le_refl _, fun i hi => by omega, .inl rfl⟩
  | k + 1 => by
    obtain ⟨h1, h2, h3⟩ := J77 xs k
    rw [J52]
    unfold J81
    split
    · refine ⟨by omega, fun i hi => ?_, .inr ⟨k, by omega, rfl⟩⟩
      by_cases e : i = k
      · subst e; omega
      have := h2 i (by omega); omega
    refine ⟨h1, fun i hi => ?_, ?_⟩
    · by_cases e : i = k
      · subst e; omega
      · exact h2 i (by omega)
    · rcases h3 with h3 | ⟨i, h3, h4⟩
      · exact .inl h3
      · exact .inr ⟨i, by omega, h4⟩
abbrev J2s (list : ZI) (best : Int) (i : Int) : Prop := (0 ≤ i) ∧ (i ≤ (list.length : Int)) ∧ (best = Jl list i.toNat)
abbrev J12 (list : ZI) (best : Int) (i : Int) : Nat := (list.length - i).toNat
def Jcl (f : FuncId) (ds : List D) : Orc := .no
def JcJ (list : ZI) : Ann := .two (.none) (.two (.none) (.two (.two (.none) (.loop (cut2 (fun (best : Int) (i : Int) => J2s list best i) (fun (best : Int) (i : Int) => [(0, .d false (.sl (.ints list))), (3, .d true (.int .i64 best)), (4, .d true (.int .i64 i))]) (fun (best : Int) (i : Int) => [])) (fun g => J12 list g.1 g.2) (fun _ => .none))) (.none)))
def J9p (list : ZI) : Prop :=
  ((∃ best' : Int, ∃ i' : Int, (J2s list best' i') ∧ (list = list) ∧ ((0 : Int) = best') ∧ ((0 : Int) = i')) ∧ (∀ best : Int, ∀ i : Int, (J2s list best i) → (((decide (i < (list.length : Int))) = true → ((0 : Int) ≤ i) ∧ ((i : Int) < list.length) ∧ (i.toNat < list.length) ∧ (((decide ((list.getD i.toNat 0) > best)) = true → ((0 : Int) ≤ i) ∧ ((i : Int) < list.length) ∧ (i.toNat < list.length) ∧ (I6 (i + 1)) ∧ (∃ best' : Int, ∃ i' : Int, (J2s list best' i') ∧ (J12 list best' i' < J12 list best i) ∧ (list = list) ∧ ((list.getD i.toNat 0) = best') ∧ ((i + 1) = i'))) ∧ ((decide ((list.getD i.toNat 0) > best)) = false → (I6 (i + 1)) ∧ (∃ best' : Int, ∃ i' : Int, (J2s list best' i') ∧ (J12 list best' i' < J12 list best i) ∧ (list = list) ∧ (best = best') ∧ ((i + 1) = i'))))) ∧ ((decide (i < (list.length : Int))) = false → ((best = (Jl list list.length)))))))
theorem JbW (list : ZI)  (w_list : (list.length : Int) ≤ 9223372036854775807) : J9p list := by
  unfold J9p
  refine ⟨?_, ?_⟩
  ·refine ⟨0, 0, ?_⟩
   refine ⟨?_, rfl, rfl, rfl⟩
   ·refine ⟨?_, ?_, ?_⟩
    ·omega
    ·omega
    ·rfl
  intro best i hJ
  obtain ⟨h1, h2, h3⟩ := hJ
  refine ⟨?_, ?_⟩
  ·intro b1
   try simp only [nrmT] at b1
   refine ⟨?_, ?_, ?_, ?_, ?_⟩
   ·omega
   ·omega
   ·omega
   ·intro b2
    try simp only [nrmT] at b2
    refine ⟨?_, ?_, ?_, ?_, ?_⟩
    ·omega
    ·omega
    ·omega
    ·omega
    refine ⟨(list.getD i.toNat 0), (i + 1), ?_⟩
    refine ⟨?_, ?_, rfl, rfl, rfl⟩
    ·refine ⟨?_, ?_, ?_⟩
     ·omega
     ·omega
     ·rw [show (i + 1).toNat = i.toNat + 1 by omega, J52, ← h3]; unfold J81; rw [if_pos b2]
    (simp only [J12]; omega)
   intro b3
   try simp only [nrmT] at b3
   refine ⟨?_, ?_⟩
   ·omega
   refine ⟨best, (i + 1), ?_⟩
   refine ⟨?_, ?_, rfl, rfl, rfl⟩
   ·refine ⟨?_, ?_, ?_⟩
    ·omega
    ·omega
    ·rw [show (i + 1).toNat = i.toNat + 1 by omega, J52, ← h3]; unfold J81; rw [if_neg (by omega)]
   (simp only [J12]; omega)
  intro b4
  try simp only [nrmT] at b4
  rw [h3, show i.toNat = list.length by omega]
theorem JbX (list : ZI)  : PC Tryz.prog 66 [.sl (.ints list)] (.one (.d (.int .i64 (Jl list list.length)))) :=
  pc_wf @Tryz.call66 fun hw => pc_by (by kernel_rfl) Tryz.func66 @Tryz.call66 (by kernel_rfl) Jcl (JcJ list) (by kernel_rfl) (JbW list hw.1) (by kernel_rfl)
def JaZ : List D → Orc := orcN [some .ints] fun ds => match ds with
  | [.sl (.ints list)] => some (.one (.d (.int .i64 (Jl list list.length))))
  | _ => none
def J0C (code : List Nat) (n : Int) : List Nat := code.drop (min n (code.length : Int)).toNat ++ [(min n (code.length : Int)).toNat]
theorem Jbg {code : List Nat} (h : ∀ x ∈ code, x < 256) {n : Int} (hn : 0 ≤ n ∧ n ≤ 8) : ∀ x ∈ J0C code n, x < 256 := fun x hx => by
  rcases List.mem_append.1 hx with hx | hx
  · exact h x (List.mem_of_mem_drop hx)
  rw [List.mem_singleton.1 hx]; omega
def JcQ (f : FuncId) (ds : List D) : Orc := .no
def Jd3 (code : List Nat) (n : Int) : Ann := .none
def Jaf (code : List Nat) (n : Int) : Prop :=
  (((decide (n > (code.length : Int))) = true → ((0 : Int) ≤ (code.length : Int)) ∧ (((code.length : Int) : Int) ≤ code.length) ∧ ((0 : Nat) = 0) ∧ (True) ∧ ((0 + ((code.take code.length).drop ((code.length : Int).toNat)).length) * 1 ≤ 140737488355328) ∧ (0 ≤ (code.length : Int) ∧ (code.length : Int) ≤ 255) ∧ ((0 : Int) ≤ (code.length : Int)) ∧ ((0 + ((code.take code.length).drop ((code.length : Int).toNat)).length) = ([] ++ ((code.take code.length).drop ((code.length : Int).toNat))).length) ∧ ((1 : Nat) = 1) ∧ ((([] ++ ((code.take code.length).drop ((code.length : Int).toNat))).length + 1) * 1 ≤ 140737488355328) ∧ ((((0 + ((code.take code.length).drop ((code.length : Int).toNat)).length) + 1) = (([] ++ ((code.take code.length).drop ((code.length : Int).toNat))) ++ [(code.length : Int).toNat]).length) ∧ (((([] ++ ((code.take code.length).drop ((code.length : Int).toNat))) ++ [(code.length : Int).toNat]) : List Nat) = J0C code n))) ∧ ((decide (n > (code.length : Int))) = false → ((0 : Int) ≤ n) ∧ ((n : Int) ≤ code.length) ∧ ((0 : Nat) = 0) ∧ (True) ∧ ((0 + ((code.take code.length).drop n.toNat).length) * 1 ≤ 140737488355328) ∧ (0 ≤ n ∧ n ≤ 255) ∧ ((0 : Int) ≤ n) ∧ ((0 + ((code.take code.length).drop n.toNat).length) = ([] ++ ((code.take code.length).drop n.toNat)).length) ∧ ((1 : Nat) = 1) ∧ ((([] ++ ((code.take code.length).drop n.toNat)).length + 1) * 1 ≤ 140737488355328) ∧ ((((0 + ((code.take code.length).drop n.toNat).length) + 1) = (([] ++ ((code.take code.length).drop n.toNat)) ++ [n.toNat]).length) ∧ (((([] ++ ((code.take code.length).drop n.toNat)) ++ [n.toNat]) : List Nat) = J0C code n))))
theorem Jcj (code : List Nat) (n : Int) (hn : 0 ≤ n ∧ n ≤ 8) (hl : code.length ≤ 65536) (w_code : (code.length : Int) ≤ 9223372036854775807) : Jaf code n := by
  unfold Jaf
  refine ⟨?_, ?_⟩
  ·intro b1
   try simp only [nrmT] at b1
   refine ⟨?_, ?_, rfl, trivial, ?_, ?_, ?_, ?_, rfl, ?_, ?_, ?_⟩
   ·first | omega | rfl | (intro hg; simp only [nrmT] at hg; omega) | (intro g1 g2; simp [g1, g2]; done) | (intro g1; simp at g1 ⊢; simp [g1]; done) | (simp only [nrmT] at *; omega) | (simp at * <;> omega) | (simp_all <;> omega) | (simp_all; done)
   ·first | omega | rfl | (intro hg; simp only [nrmT] at hg; omega) | (intro g1 g2; simp [g1, g2]; done) | (intro g1; simp at g1 ⊢; simp [g1]; done) | (simp only [nrmT] at *; omega) | (simp at * <;> omega) | (simp_all <;> omega) | (simp_all; done)
   ·first | omega | rfl | (intro hg; simp only [nrmT] at hg; omega) | (intro g1 g2; simp [g1, g2]; done) | (intro g1; simp at g1 ⊢; simp [g1]; done) | (simp only [nrmT] at *; omega) | (simp at * <;> omega) | (simp_all <;> omega) | (simp_all; done)
   ·first | omega | rfl | (intro hg; simp only [nrmT] at hg; omega) | (intro g1 g2; simp [g1, g2]; done) | (intro g1; simp at g1 ⊢; simp [g1]; done) | (simp only [nrmT] at *; omega) | (simp at * <;> omega) | (simp_all <;> omega) | (simp_all; done)
   ·first | omega | rfl | (intro hg; simp only [nrmT] at hg; omega) | (intro g1 g2; simp [g1, g2]; done) | (intro g1; simp at g1 ⊢; simp [g1]; done) | (simp only [nrmT] at *; omega) | (simp at * <;> omega) | (simp_all <;> omega) | (simp_all; done)
   ·first | omega | rfl | (intro hg; simp only [nrmT] at hg; omega) | (intro g1 g2; simp [g1, g2]; done) | (intro g1; simp at g1 ⊢; simp [g1]; done) | (simp only [nrmT] at *; omega) | (simp at * <;> omega) | (simp_all <;> omega) | (simp_all; done)
   ·first | omega | rfl | (intro hg; simp only [nrmT] at hg; omega) | (intro g1 g2; simp [g1, g2]; done) | (intro g1; simp at g1 ⊢; simp [g1]; done) | (simp only [nrmT] at *; omega) | (simp at * <;> omega) | (simp_all <;> omega) | (simp_all; done)
   ·first | omega | rfl | (intro hg; simp only [nrmT] at hg; omega) | (intro g1 g2; simp [g1, g2]; done) | (intro g1; simp at g1 ⊢; simp [g1]; done) | (simp only [nrmT] at *; omega) | (simp at * <;> omega) | (simp_all <;> omega) | (simp_all; done)
   unfold J0C
   first | rw [Int.min_eq_right (by omega)] | rw [Int.min_eq_left (by omega)]
   simp
  intro b2
  try simp only [nrmT] at b2
  refine ⟨?_, ?_, rfl, trivial, ?_, ?_, ?_, ?_, rfl, ?_, ?_, ?_⟩
  ·first | omega | rfl | (intro hg; simp only [nrmT] at hg; omega) | (intro g1 g2; simp [g1, g2]; done) | (intro g1; simp at g1 ⊢; simp [g1]; done) | (simp only [nrmT] at *; omega) | (simp at * <;> omega) | (simp_all <;> omega) | (simp_all; done)
  ·first | omega | rfl | (intro hg; simp only [nrmT] at hg; omega) | (intro g1 g2; simp [g1, g2]; done) | (intro g1; simp at g1 ⊢; simp [g1]; done) | (simp only [nrmT] at *; omega) | (simp at * <;> omega) | (simp_all <;> omega) | (simp_all; done)
  ·first | omega | rfl | (intro hg; simp only [nrmT] at hg; omega) | (intro g1 g2; simp [g1, g2]; done) | (intro g1; simp at g1 ⊢; simp [g1]; done) | (simp only [nrmT] at *; omega) | (simp at * <;> omega) | (simp_all <;> omega) | (simp_all; done)
  ·first | omega | rfl | (intro hg; simp only [nrmT] at hg; omega) | (intro g1 g2; simp [g1, g2]; done) | (intro g1; simp at g1 ⊢; simp [g1]; done) | (simp only [nrmT] at *; omega) | (simp at * <;> omega) | (simp_all <;> omega) | (simp_all; done)
  ·first | omega | rfl | (intro hg; simp only [nrmT] at hg; omega) | (intro g1 g2; simp [g1, g2]; done) | (intro g1; simp at g1 ⊢; simp [g1]; done) | (simp only [nrmT] at *; omega) | (simp at * <;> omega) | (simp_all <;> omega) | (simp_all; done)
  ·first | omega | rfl | (intro hg; simp only [nrmT] at hg; omega) | (intro g1 g2; simp [g1, g2]; done) | (intro g1; simp at g1 ⊢; simp [g1]; done) | (simp only [nrmT] at *; omega) | (simp at * <;> omega) | (simp_all <;> omega) | (simp_all; done)
  ·first | omega | rfl | (intro hg; simp only [nrmT] at hg; omega) | (intro g1 g2; simp [g1, g2]; done) | (intro g1; simp at g1 ⊢; simp [g1]; done) | (simp only [nrmT] at *; omega) | (simp at * <;> omega) | (simp_all <;> omega) | (simp_all; done)
  ·first | omega | rfl | (intro hg; simp only [nrmT] at hg; omega) | (intro g1 g2; simp [g1, g2]; done) | (intro g1; simp at g1 ⊢; simp [g1]; done) | (simp only [nrmT] at *; omega) | (simp at * <;> omega) | (simp_all <;> omega) | (simp_all; done)
  unfold J0C
  first | rw [Int.min_eq_right (by omega)] | rw [Int.min_eq_left (by omega)]
  simp
theorem J9k (code : List Nat) (n : Int) (hn : 0 ≤ n ∧ n ≤ 8) (hl : code.length ≤ 65536) : PC Tryz.prog 58 [.sl (.bytes code), .int .i64 n] (.one (.own 5 (.bytes (J0C code n)))) :=
  pc_wf @Tryz.call58 fun hw => pc_by (by kernel_rfl) Tryz.func58 @Tryz.call58 (by kernel_rfl) JcQ (Jd3 code n) (by kernel_rfl) (Jcj code n hn hl hw.1) (by kernel_rfl)
def JbZ : List D → Orc := orcN [some .bytes, none] fun ds => match ds with
  | [.sl (.bytes code), .int .i64 n] => some (.one (.own 5 (.bytes (J0C code n))))
  | _ => none
theorem JbB (D : ZR) (s : ZI) : (J3D D s).Pairwise fun a b => b ≤ a := by
  have h := List.pairwise_mergeSort (le := fun x9 y9 => !(ltOf J1l) y9 x9) (fun a b c h1 h2 => ?_) (fun a b => ?_) (Jd D s D.length)
  · refine h.imp fun {a b} hab => ?_
    rw [Bool.not_eq_true'] at hab
    exact ltD.1 hab
  · rw [Bool.not_eq_true'] at *
    rw [ltD] at *
    omega
  cases h1 : ltOf J1l b a with
  | false => rfl
  | true =>
    have h2 : ltOf J1l a b = false := by
      rw [ltD]
      by_cases h : a ≤ b
      · exact h
      have := ltD.2 (show b ≤ a by omega)
      rw [this] at h1; cases h1
    rw [h2]; rfl
theorem J5R {D : ZR} {s : ZI} {x : Int} : x ∈ J3D D s ↔ ∃ j, j < D.length ∧ JB D s j = x := by
  unfold J3D
  rw [(List.mergeSort_perm _ _).mem_iff]
  unfold Jd
  rw [List.mem_map]
  simp only [List.mem_range]
theorem J9a (D : ZR) (s : ZI) {z : Int} (hz : 0 ≤ z) : Jg D s z ≤ J7 D s := by
  obtain ⟨h1, h2, _⟩ := J3n D s D.length
  unfold Jg J7
  split
  · exact h1
  obtain ⟨j, hj, e⟩ := J5R.1 (getD_mem (d := 0) (show z.toNat < (J3D D s).length by rw [J4T]; omega))
  rw [← e]; exact h2 j hj
theorem Jb1 {U : ZI} {D : ZR} {s : ZI} (ht : (J0 U D && J2 s 0 ((U.length : Int) - 1) && decide (0 < s.length)) = true) : Jg D s 0 = J7 D s := by
  refine Int.le_antisymm (J9a D s (Int.le_refl _)) ?_
  obtain ⟨h1, h2, h3⟩ := J3n D s D.length
  unfold Jg J7
  split
  · rename_i h
    have : D.length = 0 := by omega
    rw [this]; exact Int.le_refl _
  rename_i h
  have hl : 0 < (J3D D s).length := by rw [J4T]; omega
  obtain ⟨j0, hj0, e0⟩ := J5R.1 (getD_mem (d := 0) hl)
  have hz := (Ja4 ht hj0).1
  simp only [Int.toNat_zero] at *
  rcases h3 with h3 | ⟨j, hj, h3⟩
  · omega
  obtain ⟨i, hi, e⟩ := List.mem_iff_getElem.1 (J5R.2 ⟨j, hj, rfl⟩)
  rw [h3, ← e]
  by_cases q : i = 0
  · subst q; rw [Js hl]; exact Int.le_refl _
  rw [Js hl]
  exact List.pairwise_iff_getElem.1 (JbB D s) 0 i hl hi (by omega)
theorem Jbk {U : ZI} {D : ZR} {s : ZI} (ht : (J0 U D && J2 s 0 ((U.length : Int) - 1) && decide (0 < s.length)) = true) : ∀ k, k ≤ D.length →
    (∀ c, c < s.length → 0 ≤ (J0R D s k).getD c 0 ∧ (J0R D s k).getD c 0 ≤ J2w D s k) ∧ ∀ j, j < k → ∃ c, c < s.length ∧ JB D s j ≤ (J0R D s k).getD c 0
  | 0, _ => ⟨fun c hc => by
      have e : (J0R D s 0).getD c 0 = 0 := by
        show (List.replicate s.length (0 : Int)).getD c 0 = 0
        rw [Js (by rw [List.length_replicate]; exact hc), List.getElem_replicate]
      rw [e]; exact ⟨Int.le_refl _, Int.le_refl _⟩, fun j hj => by omega⟩
  | k + 1, hk => by
    obtain ⟨i1, i2⟩ := Jbk ht k (by omega)
    obtain ⟨_, hs, hp⟩ := Jj ht
    have hst := Jad (E := D) (out := J0R D s k) hs hp k
    have hx := J1U (J0v (row := D.getD k []) hp s.length (Nat.le_refl _))
    have hl := J06 D s k
    have h0 := Ja4 ht (show k < D.length by omega)
    rw [J5n, ← hst, J5o]
    generalize idxI (fun y => J8 (D.getD k []) s s.length == y) s = x at hx
    have hg : ∀ y, ((J0R D s k).set x.toNat (max ((J0R D s k).getD x.toNat 0) (JB D s k))).getD y 0 = if y = x.toNat then max ((J0R D s k).getD x.toNat 0) (JB D s k) else (J0R D s k).getD y 0 := fun y => JcR (by omega)
    refine ⟨fun c hc => ?_, fun j hj => ?_⟩
    · rw [hg]
      have h1 := i1 c hc
      have h2 := i1 x.toNat (by omega)
      split <;> omega
    by_cases e : j = k
    · subst e
      refine ⟨x.toNat, by omega, ?_⟩
      rw [hg, if_pos rfl]; omega
    · obtain ⟨c, hc, h1⟩ := i2 j (by omega)
      refine ⟨c, hc, ?_⟩
      rw [hg]
      split
      · rename_i q; rw [q] at h1; omega
      exact h1
theorem Jd7 {U : ZI} {D : ZR} {s : ZI} (ht : (J0 U D && J2 s 0 ((U.length : Int) - 1) && decide (0 < s.length)) = true) : Jl (Ja U D s) (Ja U D s).length = J7 D s := by
  have e : Ja U D s = J0R D s D.length := by unfold Ja; rw [if_pos ht]
  have hl := J06 D s D.length
  obtain ⟨i1, i2⟩ := Jbk ht D.length (Nat.le_refl _)
  obtain ⟨m1, m2, m3⟩ := J77 (J0R D s D.length) (J0R D s D.length).length
  obtain ⟨r1, r2, r3⟩ := J3n D s D.length
  rw [e]
  unfold J7
  refine Int.le_antisymm ?_ ?_
  · rcases m3 with m3 | ⟨i, m3, m4⟩
    · omega
    · rw [m4]; exact (i1 i (by omega)).2
  rcases r3 with r3 | ⟨j, hj, r3⟩
  · omega
  · obtain ⟨c, hc, h1⟩ := i2 j hj
    have := m2 c (by omega)
    omega
theorem JaO {p : Nat → Bool} {n : Nat} : (members p n).length = n ↔ ∀ k, k < n → p k = true := by
  have h2 : (members p n).Nodup := JcB (asc_members _ _)
  constructor
  · intro h k hk
    have hs := List.Nodup.length_le_of_subset (l₁ := (k : Int) :: members p n) (l₂ := J5r n)
    cases e : p k with
    | true => rfl
    | false =>
      exfalso
      have := hs (List.nodup_cons.2 ⟨fun hm => (by have := (mem_members.1 hm).2.2; rw [Int.toNat_natCast, e] at this; cases this), h2⟩) fun x hx => by
        rcases List.mem_cons.1 hx with hx | hx
        · rw [hx]; exact Ja2 (by omega)
        have := mem_members.1 hx; exact Ja2 (by omega)
      rw [List.length_cons, J5i] at this
      omega
  intro h
  have e : members p n = J5r n := members_congr fun k hk => h k hk
  rw [e, J5i]
theorem JcG {U : ZI} {D : ZR} {s : ZI} {r : Int} (hw : ((J0 U D && J2 s 0 ((U.length : Int) - 1) && decide (0 < s.length)) && !(decide (r < 0))) = true) : (((Jy U D s r).length : Int) == (D.length : Int)) = decide (J7 D s ≤ r) := by
  have e : Jy U D s r = members (fun i => decide (JB D s i ≤ r)) D.length := by unfold Jy; rw [if_pos hw]
  have hr : 0 ≤ r := by
    rw [Bool.and_eq_true] at hw
    have := hw.2
    simp only [Bool.not_eq_true', decide_eq_false_iff_not] at this
    omega
  rw [e, Bool.eq_iff_iff, beq_iff_eq, decide_eq_true_eq, Jdv hr]
  have := JaO (p := fun i => decide (JB D s i ≤ r)) (n := D.length)
  simp only [decide_eq_true_eq] at this
  rw [← this]
  omega
theorem Jce {U : ZI} {D : ZR} {k z : Int} (hc : J9 U D k z = true) :
    (J0 U D && inB k 1 (U.length : Int)) = true ∧ Jz U D k z ≤ JL U D k ∧ (z = 0 → Jz U D k z = JL U D k) := by
  have hmc : (J0 U D && inB k 1 (U.length : Int)) = true := by unfold J9 at hc; rw [Bool.and_eq_true] at hc; exact hc.1
  obtain ⟨hg, hk, hz⟩ := Jf hc
  have e1 : Jz U D k z = Jg D (J7j U D k z) z := by unfold Jz; rw [if_pos hc]
  have e2 : JL U D k = J7 D (J4X U D k) := by unfold JL; rw [if_pos hmc]
  have c1 : J4X U D k ∈ upS U k := J34 (Jn hk)
  have c2 : J7j U D k z ∈ upS U k := J34 (Jn hk)
  have h1 : Jg D (J7j U D k z) z ≤ Jg D (J4X U D k) z := J9q (v := fun s9 => Jg D s9 z) _ c1
  have h2 := J9a D (J4X U D k) hz.1
  refine ⟨hmc, by rw [e1, e2]; omega, fun h0 => ?_⟩
  subst h0
  have h3 : J7 D (J4X U D k) ≤ J7 D (J7j U D k 0) := J9q (v := J7 D) _ c2
  have h4 := Jb1 (JV hg (J1o c2)).1
  rw [e1, e2]; omega
theorem J7H {U : ZI} {D : ZR} {r : Int} (hc : Jc U D r = true) :
    (J0 U D && J2 (J4 U D r) 0 ((U.length : Int) - 1) && decide (0 < (J4 U D r).length)) = true ∧ J7 D (J4 U D r) ≤ r ∧ (J4 U D r).length ≤ 7 ∧
    (((J4 U D r).length : Int) > 1 → (J0 U D && inB (((J4 U D r).length : Int) - 1) 1 (U.length : Int)) = true ∧ r < JL U D (((J4 U D r).length : Int) - 1)) := by
  obtain ⟨hg, hr, c1, c2⟩ := Jcv hc
  obtain ⟨c3, c4⟩ := JV hg c1
  refine ⟨c3, c2, c4, fun h1 => ?_⟩
  obtain ⟨_, hCr, hCp⟩ := Jj c3
  have hln : (J4 U D r).length ≤ U.length := by
    have := JD hCr (by have := Jm hg; omega)
    omega
  have hmc : (J0 U D && inB (((J4 U D r).length : Int) - 1) 1 (U.length : Int)) = true := by
    rw [hg, Bool.true_and]
    unfold inB
    simp
    omega
  refine ⟨hmc, ?_⟩
  have e2 : JL U D (((J4 U D r).length : Int) - 1) = J7 D (J4X U D (((J4 U D r).length : Int) - 1)) := by unfold JL; rw [if_pos hmc]
  rw [e2]
  apply Classical.byContradiction
  intro hno
  have hup : J4X U D (((J4 U D r).length : Int) - 1) ∈ upS U (((J4 U D r).length : Int) - 1) := J34 (Jn (by omega))
  obtain ⟨_, k1, k2⟩ := Jj (JV hg (J1o hup)).1
  have h2 := (Jdp hg hr k1 k2 (by omega)).2
  have h3 := Jdw hup
  omega
abbrev l_FnCoverings_JR3 (code : List Nat) (rr : Int) (Oz : ZI) (Dz : ZR) : Prop := True
abbrev l_FnCoverings_JR6 (code : List Nat) (rr : Int) (Oz : ZI) (Dz : ZR) (st : ZI) (sr : Int) (Og : ZI) (Dg : ZR) : Prop := True
abbrev l_FnCoverings_JR11 (code : List Nat) (rr : Int) (Oz : ZI) (Dz : ZR) (st : ZI) (sr : Int) (Og : ZI) (Dg : ZR) (hk : Int) (hz : Int) (Oh : ZI) (Dh : ZR) : Prop := True
abbrev l_FnCoverings_JR1020 (code : List Nat) (rr : Int) (Oz : ZI) (Dz : ZR) (st : ZI) (sr : Int) (Og : ZI) (Dg : ZR) (hk : Int) (hz : Int) (Oh : ZI) (Dh : ZR) : Prop := True
abbrev l_FnCoverings_JR1024 (code : List Nat) (rr : Int) (Oz : ZI) (Dz : ZR) (st : ZI) (sr : Int) (Og : ZI) (Dg : ZR) (hk : Int) (hz : Int) (Oh : ZI) (Dh : ZR) : Prop := True
def l_FnCoverings_C (f : FuncId) (ds : List D) : Orc := bif Nat.beq f 9 then JbQ ds else bif Nat.beq f 27 then J5E ds else bif Nat.beq f 56 then J5J ds else bif Nat.beq f 58 then JbZ ds else bif Nat.beq f 59 then J5B ds else bif Nat.beq f 60 then J5F ds else bif Nat.beq f 61 then J9Q ds else bif Nat.beq f 62 then J9F ds else bif Nat.beq f 64 then J6X ds else bif Nat.beq f 65 then J6D ds else bif Nat.beq f 23 then Jb7 ds else bif Nat.beq f 24 then J9z ds else bif Nat.beq f 66 then JaZ ds else bif Nat.beq f 13 then J6B ds else .no
def l_FnCoverings_A (code : List Nat) : Ann := .two (.none) (.two (.none) (.cut (.exr (.ex [] 1 (J18 code) (fun g => (fun (Or3 : ZI) (Dsr3 : ZR) (rrr3 : Int) => .ms [] []) (g.1) (g.2.1) (g.2.2)))) (cut3 (fun (rr : Int) (Oz : ZI) (Dz : ZR) => l_FnCoverings_JR3 code rr Oz Dz) (fun (rr : Int) (Oz : ZI) (Dz : ZR) => [(0, .d false (.sl (.bytes code))), (3, .ptr 3 0), (4, .d true (.int .i64 rr))]) (fun (rr : Int) (Oz : ZI) (Dz : ZR) => [(3, .box 27 [.d true (.sl (.ints Oz)), .d true (.sl (.rows Dz))])])) (fun g => (fun (rr : Int) (Oz : ZI) (Dz : ZR) => .two (.none) (.two (.none) (.cut (.exr (.ex [] 2 (J1d (J0C code 1)) (fun g => (fun (Or6 : ZI) (Dsr6 : ZR) (ssr6 : ZI) (rrr6 : Int) => .ms [] []) (g.1) (g.2.1) (g.2.2.1) (g.2.2.2)))) (cut4 (fun (st : ZI) (sr : Int) (Og : ZI) (Dg : ZR) => l_FnCoverings_JR6 code rr Oz Dz st sr Og Dg) (fun (st : ZI) (sr : Int) (Og : ZI) (Dg : ZR) => [(0, .d false (.sl (.bytes code))), (3, .ptr 3 0), (4, .d true (.int .i64 rr)), (5, .d true (.sl (.ints (J4 Oz Dz rr)))), (6, .d true (.bool (Jc Oz Dz rr))), (7, .own 53 ((J4 Oz Dz rr).length)), (8, .d true (.bool (Jc Oz Dz rr))), (9, .ptr 9 0), (10, .d true (.sl (.ints st))), (11, .d true (.int .i64 sr))]) (fun (st : ZI) (sr : Int) (Og : ZI) (Dg : ZR) => [(3, .box 27 [.d true (.sl (.ints Oz)), .d true (.sl (.rows Dz))]), (53, .arr true 3 (.ints (J4 Oz Dz rr))), (9, .box 27 [.d true (.sl (.ints Og)), .d true (.sl (.rows Dg))])])) (fun g => (fun (st : ZI) (sr : Int) (Og : ZI) (Dg : ZR) => .two (.none) (.two (.none) (.two (.none) (.two (.none) (.cut (.exr (.ex [] 2 (J1s (J0C code 2)) (fun g => (fun (Or11 : ZI) (Dsr11 : ZR) (kkr11 : Int) (zzr11 : Int) => .ms [] []) (g.1) (g.2.1) (g.2.2.1) (g.2.2.2)))) (cut4 (fun (hk : Int) (hz : Int) (Oh : ZI) (Dh : ZR) => l_FnCoverings_JR11 code rr Oz Dz st sr Og Dg hk hz Oh Dh) (fun (hk : Int) (hz : Int) (Oh : ZI) (Dh : ZR) => [(3, .ptr 3 0), (4, .d true (.int .i64 rr)), (5, .d true (.sl (.ints (J4 Oz Dz rr)))), (6, .d true (.bool (Jc Oz Dz rr))), (7, .own 53 ((J4 Oz Dz rr).length)), (8, .d true (.bool (Jc Oz Dz rr))), (9, .ptr 9 0), (10, .d true (.sl (.ints st))), (11, .d true (.int .i64 sr)), (12, .own 67 ((Jy Og Dg st sr).length)), (13, .d true (.bool ((J0 Og Dg && J2 st 0 ((Og.length : Int) - 1) && decide (0 < st.length)) && !(decide (sr < 0))))), (14, .d true (.sl (.ints (Jy Og Dg st sr)))), (15, .d true (.bool ((J0 Og Dg && J2 st 0 ((Og.length : Int) - 1) && decide (0 < st.length)) && !(decide (sr < 0))))), (16, .own 80 ((Ja Og Dg st).length)), (17, .d true (.bool (J0 Og Dg && J2 st 0 ((Og.length : Int) - 1) && decide (0 < st.length)))), (18, .d true (.sl (.ints (Ja Og Dg st)))), (19, .d true (.bool (J0 Og Dg && J2 st 0 ((Og.length : Int) - 1) && decide (0 < st.length)))), (20, .ptr 20 0), (21, .d true (.int .i64 hk)), (22, .d true (.int .i64 hz))]) (fun (hk : Int) (hz : Int) (Oh : ZI) (Dh : ZR) => [(3, .box 27 [.d true (.sl (.ints Oz)), .d true (.sl (.rows Dz))]), (53, .arr true 3 (.ints (J4 Oz Dz rr))), (9, .box 27 [.d true (.sl (.ints Og)), .d true (.sl (.rows Dg))]), (67, .arr true 3 (.ints (Jy Og Dg st sr))), (80, .arr true 3 (.ints (Ja Og Dg st))), (20, .box 27 [.d true (.sl (.ints Oh)), .d true (.sl (.rows Dh))])])) (fun g => (fun (hk : Int) (hz : Int) (Oh : ZI) (Dh : ZR) => .two (.none) (.two (.none) (.two (.none) (.cut (.none) (cut0 (l_FnCoverings_JR1020 code rr Oz Dz st sr Og Dg hk hz Oh Dh ) ([(3, .ptr 3 0), (4, .d true (.int .i64 rr)), (5, .d true (.sl (.ints (J4 Oz Dz rr)))), (6, .d true (.bool (Jc Oz Dz rr))), (20, .ptr 20 0), (21, .d true (.int .i64 hk)), (22, .d true (.int .i64 hz)), (24, .d true (.int .i64 (Jz Oh Dh hk hz))), (25, .d true (.bool (J9 Oh Dh hk hz)))]) ([(3, .box 27 [.d true (.sl (.ints Oz)), .d true (.sl (.rows Dz))]), (20, .box 27 [.d true (.sl (.ints Oh)), .d true (.sl (.rows Dh))])])) (fun _ => .cut (.none) (cut0 (l_FnCoverings_JR1024 code rr Oz Dz st sr Og Dg hk hz Oh Dh ) ([(3, .ptr 3 0), (4, .d true (.int .i64 rr)), (5, .d true (.sl (.ints (J4 Oz Dz rr)))), (6, .d true (.bool (Jc Oz Dz rr)))]) ([(3, .box 27 [.d true (.sl (.ints Oz)), .d true (.sl (.rows Dz))])])) (fun _ => .none)))))) (g.1) (g.2.1) (g.2.2.1) (g.2.2.2))))))) (g.1) (g.2.1) (g.2.2.1) (g.2.2.2))))) (g.1) (g.2.1) (g.2.2))))
def l_FnCoverings_e6 (rr : Int) (Oz : ZI) (Dz : ZR) : Bool := (cond ((Jc Oz Dz rr) != (Jc Oz Dz rr)) true (!((J4 Oz Dz rr) == (J4 Oz Dz rr))))
def l_FnCoverings_e2 (rr : Int) (Oz : ZI) (Dz : ZR) (st : ZI) (sr : Int) (Og : ZI) (Dg : ZR) : Bool := (cond (l_FnCoverings_e6 rr Oz Dz) true (((J0 Og Dg && J2 st 0 ((Og.length : Int) - 1) && decide (0 < st.length)) && !(decide (sr < 0))) != ((J0 Og Dg && J2 st 0 ((Og.length : Int) - 1) && decide (0 < st.length)) && !(decide (sr < 0)))))
def l_FnCoverings_e5 (rr : Int) (Oz : ZI) (Dz : ZR) (st : ZI) (sr : Int) (Og : ZI) (Dg : ZR) : Bool := (cond (l_FnCoverings_e2 rr Oz Dz st sr Og Dg) true (!((Jy Og Dg st sr) == (Jy Og Dg st sr))))
def l_FnCoverings_e1 (rr : Int) (Oz : ZI) (Dz : ZR) (st : ZI) (sr : Int) (Og : ZI) (Dg : ZR) : Bool := (cond (l_FnCoverings_e5 rr Oz Dz st sr Og Dg) true ((J0 Og Dg && J2 st 0 ((Og.length : Int) - 1) && decide (0 < st.length)) != (J0 Og Dg && J2 st 0 ((Og.length : Int) - 1) && decide (0 < st.length))))
def l_FnCoverings_e7 (rr : Int) (Oz : ZI) (Dz : ZR) (st : ZI) (sr : Int) (Og : ZI) (Dg : ZR) : Bool := (cond (l_FnCoverings_e1 rr Oz Dz st sr Og Dg) true (!((Ja Og Dg st) == (Ja Og Dg st))))
def l_FnCoverings_e3 (rr : Int) (Oz : ZI) (Dz : ZR) (st : ZI) (sr : Int) (Og : ZI) (Dg : ZR) (hk : Int) (hz : Int) (Oh : ZI) (Dh : ZR) : Bool := (cond (l_FnCoverings_e7 rr Oz Dz st sr Og Dg) true ((Jz Oh Dh hk hz) != (Jz Oh Dh hk hz)))
def l_FnCoverings_e4 (rr : Int) (Oz : ZI) (Dz : ZR) (st : ZI) (sr : Int) (Og : ZI) (Dg : ZR) (hk : Int) (hz : Int) (Oh : ZI) (Dh : ZR) : Bool := (cond (l_FnCoverings_e3 rr Oz Dz st sr Og Dg hk hz Oh Dh) true ((J9 Oh Dh hk hz) != (J9 Oh Dh hk hz)))
def l_FnCoverings_e8 (st : ZI) (sr : Int) (Og : ZI) (Dg : ZR) : Bool := (cond ((Jl (Ja Og Dg st) (Ja Og Dg st).length) != (if (J0 Og Dg && J2 st 0 ((Og.length : Int) - 1) && decide (0 < st.length)) = true then J7 Dg st else 0)) true (cond ((J0 Og Dg && J2 st 0 ((Og.length : Int) - 1) && decide (0 < st.length)) && !(decide (sr < 0))) (((((Jy Og Dg st sr).length) : Int) == (Dg.length : Int)) != (decide ((if (J0 Og Dg && J2 st 0 ((Og.length : Int) - 1) && decide (0 < st.length)) = true then J7 Dg st else 0) ≤ sr))) false))
set_option maxRecDepth 100000 in
def l_FnCoverings_P (code : List Nat) : Prop :=
  (PC Tryz.prog 9 [.sl (.bytes code)] (.one (.d (.bool (decide ((code.length : Int) > 65536)))))) ∧ (((decide ((code.length : Int) > 65536)) = true → ((true = true))) ∧ ((decide ((code.length : Int) > 65536)) = false → (((PE Tryz.prog 55 [.sl (.bytes code)] (J18 code)) ∧ (∀ Or3 : ZI, ∀ Dsr3 : ZR, ∀ rrr3 : Int, J16 code Or3 Dsr3 rrr3 → ((true = true) ∧ (∃ rr' : Int, ∃ Oz' : ZI, ∃ Dz' : ZR, (l_FnCoverings_JR3 code rr' Oz' Dz') ∧ (code = code) ∧ (rrr3 = rr') ∧ (Or3 = Oz') ∧ (Dsr3 = Dz'))))) ∧ (∀ rr : Int, ∀ Oz : ZI, ∀ Dz : ZR, (l_FnCoverings_JR3 code rr Oz Dz) → (PC Tryz.prog 27 [.agg [.sl (.ints Oz), .sl (.rows Dz)], .int .i64 rr] (.tup [.d (.sl (.ints (J4 Oz Dz rr))), .d (.bool (Jc Oz Dz rr))])) ∧ (PC Tryz.prog 56 [.agg [.sl (.ints Oz), .sl (.rows Dz)], .int .i64 rr] (.tup [.own 3 (.ints (J4 Oz Dz rr)), .d (.bool (Jc Oz Dz rr))])) ∧ (((PC Tryz.prog 58 [.sl (.bytes code), .int .i64 1] (.one (.own 5 (.bytes (J0C code 1))))) ∧ ((J0C code 1).length = (J0C code 1).length) ∧ (PE Tryz.prog 57 [.sl (.bytes (J0C code 1))] (J1d (J0C code 1))) ∧ (∀ Or6 : ZI, ∀ Dsr6 : ZR, ∀ ssr6 : ZI, ∀ rrr6 : Int, J1c (J0C code 1) Or6 Dsr6 ssr6 rrr6 → ((true = true) ∧ (∃ st' : ZI, ∃ sr' : Int, ∃ Og' : ZI, ∃ Dg' : ZR, (l_FnCoverings_JR6 code rr Oz Dz st' sr' Og' Dg') ∧ (code = code) ∧ (rr = rr) ∧ ((J4 Oz Dz rr) = (J4 Oz Dz rr)) ∧ ((Jc Oz Dz rr) = (Jc Oz Dz rr)) ∧ ((J4 Oz Dz rr).length = (J4 Oz Dz rr).length) ∧ ((Jc Oz Dz rr) = (Jc Oz Dz rr)) ∧ (ssr6 = st') ∧ (rrr6 = sr') ∧ (Oz = Oz) ∧ (Dz = Dz) ∧ (J4 Oz Dz rr = J4 Oz Dz rr) ∧ (Or6 = Og') ∧ (Dsr6 = Dg'))))) ∧ (∀ st : ZI, ∀ sr : Int, ∀ Og : ZI, ∀ Dg : ZR, (l_FnCoverings_JR6 code rr Oz Dz st sr Og Dg) → (PC Tryz.prog 59 [.agg [.sl (.ints Og), .sl (.rows Dg)], .sl (.ints st), .int .i64 sr] (.tup [.own 3 (.ints (Jy Og Dg st sr)), .d (.bool ((J0 Og Dg && J2 st 0 ((Og.length : Int) - 1) && decide (0 < st.length)) && !(decide (sr < 0))))])) ∧ (PC Tryz.prog 60 [.agg [.sl (.ints Og), .sl (.rows Dg)], .sl (.ints st), .int .i64 sr] (.tup [.d (.sl (.ints (Jy Og Dg st sr))), .d (.bool ((J0 Og Dg && J2 st 0 ((Og.length : Int) - 1) && decide (0 < st.length)) && !(decide (sr < 0))))])) ∧ (PC Tryz.prog 61 [.agg [.sl (.ints Og), .sl (.rows Dg)], .sl (.ints st)] (.tup [.own 3 (.ints (Ja Og Dg st)), .d (.bool (J0 Og Dg && J2 st 0 ((Og.length : Int) - 1) && decide (0 < st.length)))])) ∧ (PC Tryz.prog 62 [.agg [.sl (.ints Og), .sl (.rows Dg)], .sl (.ints st)] (.tup [.d (.sl (.ints (Ja Og Dg st))), .d (.bool (J0 Og Dg && J2 st 0 ((Og.length : Int) - 1) && decide (0 < st.length)))])) ∧ (((PC Tryz.prog 58 [.sl (.bytes code), .int .i64 2] (.one (.own 5 (.bytes (J0C code 2))))) ∧ ((J0C code 2).length = (J0C code 2).length) ∧ (PE Tryz.prog 63 [.sl (.bytes (J0C code 2))] (J1s (J0C code 2))) ∧ (∀ Or11 : ZI, ∀ Dsr11 : ZR, ∀ kkr11 : Int, ∀ zzr11 : Int, J1A (J0C code 2) Or11 Dsr11 kkr11 zzr11 → ((true = true) ∧ (∃ hk' : Int, ∃ hz' : Int, ∃ Oh' : ZI, ∃ Dh' : ZR, (l_FnCoverings_JR11 code rr Oz Dz st sr Og Dg hk' hz' Oh' Dh') ∧ (rr = rr) ∧ ((J4 Oz Dz rr) = (J4 Oz Dz rr)) ∧ ((Jc Oz Dz rr) = (Jc Oz Dz rr)) ∧ ((J4 Oz Dz rr).length = (J4 Oz Dz rr).length) ∧ ((Jc Oz Dz rr) = (Jc Oz Dz rr)) ∧ (st = st) ∧ (sr = sr) ∧ ((Jy Og Dg st sr).length = (Jy Og Dg st sr).length) ∧ (((J0 Og Dg && J2 st 0 ((Og.length : Int) - 1) && decide (0 < st.length)) && !(decide (sr < 0))) = ((J0 Og Dg && J2 st 0 ((Og.length : Int) - 1) && decide (0 < st.length)) && !(decide (sr < 0)))) ∧ ((Jy Og Dg st sr) = (Jy Og Dg st sr)) ∧ (((J0 Og Dg && J2 st 0 ((Og.length : Int) - 1) && decide (0 < st.length)) && !(decide (sr < 0))) = ((J0 Og Dg && J2 st 0 ((Og.length : Int) - 1) && decide (0 < st.length)) && !(decide (sr < 0)))) ∧ ((Ja Og Dg st).length = (Ja Og Dg st).length) ∧ ((J0 Og Dg && J2 st 0 ((Og.length : Int) - 1) && decide (0 < st.length)) = (J0 Og Dg && J2 st 0 ((Og.length : Int) - 1) && decide (0 < st.length))) ∧ ((Ja Og Dg st) = (Ja Og Dg st)) ∧ ((J0 Og Dg && J2 st 0 ((Og.length : Int) - 1) && decide (0 < st.length)) = (J0 Og Dg && J2 st 0 ((Og.length : Int) - 1) && decide (0 < st.length))) ∧ (kkr11 = hk') ∧ (zzr11 = hz') ∧ (Oz = Oz) ∧ (Dz = Dz) ∧ (J4 Oz Dz rr = J4 Oz Dz rr) ∧ (Og = Og) ∧ (Dg = Dg) ∧ (Jy Og Dg st sr = Jy Og Dg st sr) ∧ (Ja Og Dg st = Ja Og Dg st) ∧ (Or11 = Oh') ∧ (Dsr11 = Dh'))))) ∧ (∀ hk : Int, ∀ hz : Int, ∀ Oh : ZI, ∀ Dh : ZR, (l_FnCoverings_JR11 code rr Oz Dz st sr Og Dg hk hz Oh Dh) → (PC Tryz.prog 64 [.agg [.sl (.ints Oh), .sl (.rows Dh)], .int .i64 hk, .int .i64 hz] (.tup [.d (.sl (.ints (J0e Oh Dh hk hz))), .d (.int .i64 (Jz Oh Dh hk hz)), .d (.bool (J9 Oh Dh hk hz))])) ∧ (PC Tryz.prog 65 [.agg [.sl (.ints Oh), .sl (.rows Dh)], .int .i64 hk, .int .i64 hz] (.tup [.own 3 (.ints (J0e Oh Dh hk hz)), .d (.int .i64 (Jz Oh Dh hk hz)), .d (.bool (J9 Oh Dh hk hz))])) ∧ ((!((Jc Oz Dz rr) != (Jc Oz Dz rr))) = true → (!((Jc Oz Dz rr) != (Jc Oz Dz rr))) = true) ∧ ((!((Jc Oz Dz rr) != (Jc Oz Dz rr))) = true → (!((Jc Oz Dz rr) != (Jc Oz Dz rr))) = true) ∧ (((!((Jc Oz Dz rr) != (Jc Oz Dz rr))) = true → (J4 Oz Dz rr).length = (J4 Oz Dz rr).length)) ∧ ((!((Jc Oz Dz rr) != (Jc Oz Dz rr))) = true → PC Tryz.prog 23 [.sl (.ints (J4 Oz Dz rr)), .sl (.ints (J4 Oz Dz rr))] (.one (.d (.bool ((J4 Oz Dz rr) == (J4 Oz Dz rr)))))) ∧ ((!((Jc Oz Dz rr) != (Jc Oz Dz rr))) = true → (!((Jc Oz Dz rr) != (Jc Oz Dz rr))) = true) ∧ (true = true) ∧ ((((Jc Oz Dz rr) != (Jc Oz Dz rr)) = true → true = true)) ∧ ((((Jc Oz Dz rr) != (Jc Oz Dz rr)) = false → (!((Jc Oz Dz rr) != (Jc Oz Dz rr))) = true)) ∧ ((!(l_FnCoverings_e6 rr Oz Dz)) = true → (!(l_FnCoverings_e6 rr Oz Dz)) = true) ∧ ((!(l_FnCoverings_e6 rr Oz Dz)) = true → (!(l_FnCoverings_e6 rr Oz Dz)) = true) ∧ (true = true) ∧ (((l_FnCoverings_e6 rr Oz Dz) = true → true = true)) ∧ (((l_FnCoverings_e6 rr Oz Dz) = false → (!(l_FnCoverings_e6 rr Oz Dz)) = true)) ∧ ((!(l_FnCoverings_e2 rr Oz Dz st sr Og Dg)) = true → (!(l_FnCoverings_e2 rr Oz Dz st sr Og Dg)) = true) ∧ ((!(l_FnCoverings_e2 rr Oz Dz st sr Og Dg)) = true → (!(l_FnCoverings_e2 rr Oz Dz st sr Og Dg)) = true) ∧ (((!(l_FnCoverings_e2 rr Oz Dz st sr Og Dg)) = true → (Jy Og Dg st sr).length = (Jy Og Dg st sr).length)) ∧ ((!(l_FnCoverings_e2 rr Oz Dz st sr Og Dg)) = true → PC Tryz.prog 23 [.sl (.ints (Jy Og Dg st sr)), .sl (.ints (Jy Og Dg st sr))] (.one (.d (.bool ((Jy Og Dg st sr) == (Jy Og Dg st sr)))))) ∧ ((!(l_FnCoverings_e2 rr Oz Dz st sr Og Dg)) = true → (!(l_FnCoverings_e2 rr Oz Dz st sr Og Dg)) = true) ∧ (true = true) ∧ (((l_FnCoverings_e2 rr Oz Dz st sr Og Dg) = true → true = true)) ∧ (((l_FnCoverings_e2 rr Oz Dz st sr Og Dg) = false → (!(l_FnCoverings_e2 rr Oz Dz st sr Og Dg)) = true)) ∧ ((!(l_FnCoverings_e5 rr Oz Dz st sr Og Dg)) = true → (!(l_FnCoverings_e5 rr Oz Dz st sr Og Dg)) = true) ∧ ((!(l_FnCoverings_e5 rr Oz Dz st sr Og Dg)) = true → (!(l_FnCoverings_e5 rr Oz Dz st sr Og Dg)) = true) ∧ (true = true) ∧ (((l_FnCoverings_e5 rr Oz Dz st sr Og Dg) = true → true = true)) ∧ (((l_FnCoverings_e5 rr Oz Dz st sr Og Dg) = false → (!(l_FnCoverings_e5 rr Oz Dz st sr Og Dg)) = true)) ∧ ((!(l_FnCoverings_e1 rr Oz Dz st sr Og Dg)) = true → (!(l_FnCoverings_e1 rr Oz Dz st sr Og Dg)) = true) ∧ ((!(l_FnCoverings_e1 rr Oz Dz st sr Og Dg)) = true → (!(l_FnCoverings_e1 rr Oz Dz st sr Og Dg)) = true) ∧ (((!(l_FnCoverings_e1 rr Oz Dz st sr Og Dg)) = true → (Ja Og Dg st).length = (Ja Og Dg st).length)) ∧ ((!(l_FnCoverings_e1 rr Oz Dz st sr Og Dg)) = true → PC Tryz.prog 23 [.sl (.ints (Ja Og Dg st)), .sl (.ints (Ja Og Dg st))] (.one (.d (.bool ((Ja Og Dg st) == (Ja Og Dg st)))))) ∧ ((!(l_FnCoverings_e1 rr Oz Dz st sr Og Dg)) = true → (!(l_FnCoverings_e1 rr Oz Dz st sr Og Dg)) = true) ∧ (true = true) ∧ (((l_FnCoverings_e1 rr Oz Dz st sr Og Dg) = true → true = true)) ∧ (((l_FnCoverings_e1 rr Oz Dz st sr Og Dg) = false → (!(l_FnCoverings_e1 rr Oz Dz st sr Og Dg)) = true)) ∧ ((!(l_FnCoverings_e7 rr Oz Dz st sr Og Dg)) = true → (!(l_FnCoverings_e7 rr Oz Dz st sr Og Dg)) = true) ∧ ((!(l_FnCoverings_e7 rr Oz Dz st sr Og Dg)) = true → (!(l_FnCoverings_e7 rr Oz Dz st sr Og Dg)) = true) ∧ (true = true) ∧ (((l_FnCoverings_e7 rr Oz Dz st sr Og Dg) = true → true = true)) ∧ (((l_FnCoverings_e7 rr Oz Dz st sr Og Dg) = false → (!(l_FnCoverings_e7 rr Oz Dz st sr Og Dg)) = true)) ∧ ((!(l_FnCoverings_e3 rr Oz Dz st sr Og Dg hk hz Oh Dh)) = true → (!(l_FnCoverings_e3 rr Oz Dz st sr Og Dg hk hz Oh Dh)) = true) ∧ ((!(l_FnCoverings_e3 rr Oz Dz st sr Og Dg hk hz Oh Dh)) = true → (!(l_FnCoverings_e3 rr Oz Dz st sr Og Dg hk hz Oh Dh)) = true) ∧ (true = true) ∧ (((l_FnCoverings_e3 rr Oz Dz st sr Og Dg hk hz Oh Dh) = true → true = true)) ∧ (((l_FnCoverings_e3 rr Oz Dz st sr Og Dg hk hz Oh Dh) = false → (!(l_FnCoverings_e3 rr Oz Dz st sr Og Dg hk hz Oh Dh)) = true)) ∧ ((!(l_FnCoverings_e4 rr Oz Dz st sr Og Dg hk hz Oh Dh)) = true → (!(l_FnCoverings_e4 rr Oz Dz st sr Og Dg hk hz Oh Dh)) = true) ∧ ((!(l_FnCoverings_e4 rr Oz Dz st sr Og Dg hk hz Oh Dh)) = true → (!(l_FnCoverings_e4 rr Oz Dz st sr Og Dg hk hz Oh Dh)) = true) ∧ (((!(l_FnCoverings_e4 rr Oz Dz st sr Og Dg hk hz Oh Dh)) = true → (J0e Oh Dh hk hz).length = (J0e Oh Dh hk hz).length)) ∧ ((!(l_FnCoverings_e4 rr Oz Dz st sr Og Dg hk hz Oh Dh)) = true → PC Tryz.prog 23 [.sl (.ints (J0e Oh Dh hk hz)), .sl (.ints (J0e Oh Dh hk hz))] (.one (.d (.bool ((J0e Oh Dh hk hz) == (J0e Oh Dh hk hz)))))) ∧ ((!(l_FnCoverings_e4 rr Oz Dz st sr Og Dg hk hz Oh Dh)) = true → (!(l_FnCoverings_e4 rr Oz Dz st sr Og Dg hk hz Oh Dh)) = true) ∧ (true = true) ∧ (((l_FnCoverings_e4 rr Oz Dz st sr Og Dg hk hz Oh Dh) = true → true = true)) ∧ (((l_FnCoverings_e4 rr Oz Dz st sr Og Dg hk hz Oh Dh) = false → (!(l_FnCoverings_e4 rr Oz Dz st sr Og Dg hk hz Oh Dh)) = true)) ∧ (((cond (l_FnCoverings_e4 rr Oz Dz st sr Og Dg hk hz Oh Dh) true (!((J0e Oh Dh hk hz) == (J0e Oh Dh hk hz)))) = true → ((false = true))) ∧ ((cond (l_FnCoverings_e4 rr Oz Dz st sr Og Dg hk hz Oh Dh) true (!((J0e Oh Dh hk hz) == (J0e Oh Dh hk hz)))) = false → (((((J0 Og Dg && J2 st 0 ((Og.length : Int) - 1) && decide (0 < st.length)) = true → (PC Tryz.prog 24 [.agg [.sl (.ints Og), .sl (.rows Dg)], .sl (.ints st)] (.tup [.d (.int .i64 (if (J0 Og Dg && J2 st 0 ((Og.length : Int) - 1) && decide (0 < st.length)) = true then J7 Dg st else 0)), .d (.bool (J0 Og Dg && J2 st 0 ((Og.length : Int) - 1) && decide (0 < st.length)))])) ∧ ((Ja Og Dg st).length = (Ja Og Dg st).length) ∧ (PC Tryz.prog 66 [.sl (.ints (Ja Og Dg st))] (.one (.d (.int .i64 (Jl (Ja Og Dg st) (Ja Og Dg st).length))))) ∧ ((!((Jl (Ja Og Dg st) (Ja Og Dg st).length) != (if (J0 Og Dg && J2 st 0 ((Og.length : Int) - 1) && decide (0 < st.length)) = true then J7 Dg st else 0))) = true → (!((Jl (Ja Og Dg st) (Ja Og Dg st).length) != (if (J0 Og Dg && J2 st 0 ((Og.length : Int) - 1) && decide (0 < st.length)) = true then J7 Dg st else 0))) = true) ∧ (((!((Jl (Ja Og Dg st) (Ja Og Dg st).length) != (if (J0 Og Dg && J2 st 0 ((Og.length : Int) - 1) && decide (0 < st.length)) = true then J7 Dg st else 0))) && ((J0 Og Dg && J2 st 0 ((Og.length : Int) - 1) && decide (0 < st.length)) && !(decide (sr < 0)))) = true → ((!((Jl (Ja Og Dg st) (Ja Og Dg st).length) != (if (J0 Og Dg && J2 st 0 ((Og.length : Int) - 1) && decide (0 < st.length)) = true then J7 Dg st else 0))) && ((J0 Og Dg && J2 st 0 ((Og.length : Int) - 1) && decide (0 < st.length)) && !(decide (sr < 0)))) = true) ∧ (((!((Jl (Ja Og Dg st) (Ja Og Dg st).length) != (if (J0 Og Dg && J2 st 0 ((Og.length : Int) - 1) && decide (0 < st.length)) = true then J7 Dg st else 0))) && ((J0 Og Dg && J2 st 0 ((Og.length : Int) - 1) && decide (0 < st.length)) && !(decide (sr < 0)))) = true → ((!((Jl (Ja Og Dg st) (Ja Og Dg st).length) != (if (J0 Og Dg && J2 st 0 ((Og.length : Int) - 1) && decide (0 < st.length)) = true then J7 Dg st else 0))) && ((J0 Og Dg && J2 st 0 ((Og.length : Int) - 1) && decide (0 < st.length)) && !(decide (sr < 0)))) = true) ∧ (((!((Jl (Ja Og Dg st) (Ja Og Dg st).length) != (if (J0 Og Dg && J2 st 0 ((Og.length : Int) - 1) && decide (0 < st.length)) = true then J7 Dg st else 0))) && ((J0 Og Dg && J2 st 0 ((Og.length : Int) - 1) && decide (0 < st.length)) && !(decide (sr < 0)))) = true → ((!((Jl (Ja Og Dg st) (Ja Og Dg st).length) != (if (J0 Og Dg && J2 st 0 ((Og.length : Int) - 1) && decide (0 < st.length)) = true then J7 Dg st else 0))) && ((J0 Og Dg && J2 st 0 ((Og.length : Int) - 1) && decide (0 < st.length)) && !(decide (sr < 0)))) = true) ∧ (((!((Jl (Ja Og Dg st) (Ja Og Dg st).length) != (if (J0 Og Dg && J2 st 0 ((Og.length : Int) - 1) && decide (0 < st.length)) = true then J7 Dg st else 0))) && ((J0 Og Dg && J2 st 0 ((Og.length : Int) - 1) && decide (0 < st.length)) && !(decide (sr < 0)))) = true → ((!((Jl (Ja Og Dg st) (Ja Og Dg st).length) != (if (J0 Og Dg && J2 st 0 ((Og.length : Int) - 1) && decide (0 < st.length)) = true then J7 Dg st else 0))) && ((J0 Og Dg && J2 st 0 ((Og.length : Int) - 1) && decide (0 < st.length)) && !(decide (sr < 0)))) = true) ∧ (((!((Jl (Ja Og Dg st) (Ja Og Dg st).length) != (if (J0 Og Dg && J2 st 0 ((Og.length : Int) - 1) && decide (0 < st.length)) = true then J7 Dg st else 0))) && ((J0 Og Dg && J2 st 0 ((Og.length : Int) - 1) && decide (0 < st.length)) && !(decide (sr < 0)))) = true → ((!((Jl (Ja Og Dg st) (Ja Og Dg st).length) != (if (J0 Og Dg && J2 st 0 ((Og.length : Int) - 1) && decide (0 < st.length)) = true then J7 Dg st else 0))) && ((J0 Og Dg && J2 st 0 ((Og.length : Int) - 1) && decide (0 < st.length)) && !(decide (sr < 0)))) = true) ∧ (((!((Jl (Ja Og Dg st) (Ja Og Dg st).length) != (if (J0 Og Dg && J2 st 0 ((Og.length : Int) - 1) && decide (0 < st.length)) = true then J7 Dg st else 0))) && ((J0 Og Dg && J2 st 0 ((Og.length : Int) - 1) && decide (0 < st.length)) && !(decide (sr < 0)))) = true → ((!((Jl (Ja Og Dg st) (Ja Og Dg st).length) != (if (J0 Og Dg && J2 st 0 ((Og.length : Int) - 1) && decide (0 < st.length)) = true then J7 Dg st else 0))) && ((J0 Og Dg && J2 st 0 ((Og.length : Int) - 1) && decide (0 < st.length)) && !(decide (sr < 0)))) = true) ∧ (((!((Jl (Ja Og Dg st) (Ja Og Dg st).length) != (if (J0 Og Dg && J2 st 0 ((Og.length : Int) - 1) && decide (0 < st.length)) = true then J7 Dg st else 0))) && ((J0 Og Dg && J2 st 0 ((Og.length : Int) - 1) && decide (0 < st.length)) && !(decide (sr < 0)))) = true → ((!((Jl (Ja Og Dg st) (Ja Og Dg st).length) != (if (J0 Og Dg && J2 st 0 ((Og.length : Int) - 1) && decide (0 < st.length)) = true then J7 Dg st else 0))) && ((J0 Og Dg && J2 st 0 ((Og.length : Int) - 1) && decide (0 < st.length)) && !(decide (sr < 0)))) = true) ∧ (((!((Jl (Ja Og Dg st) (Ja Og Dg st).length) != (if (J0 Og Dg && J2 st 0 ((Og.length : Int) - 1) && decide (0 < st.length)) = true then J7 Dg st else 0))) && ((J0 Og Dg && J2 st 0 ((Og.length : Int) - 1) && decide (0 < st.length)) && !(decide (sr < 0)))) = true → ((!((Jl (Ja Og Dg st) (Ja Og Dg st).length) != (if (J0 Og Dg && J2 st 0 ((Og.length : Int) - 1) && decide (0 < st.length)) = true then J7 Dg st else 0))) && ((J0 Og Dg && J2 st 0 ((Og.length : Int) - 1) && decide (0 < st.length)) && !(decide (sr < 0)))) = true) ∧ (((!((Jl (Ja Og Dg st) (Ja Og Dg st).length) != (if (J0 Og Dg && J2 st 0 ((Og.length : Int) - 1) && decide (0 < st.length)) = true then J7 Dg st else 0))) && ((J0 Og Dg && J2 st 0 ((Og.length : Int) - 1) && decide (0 < st.length)) && !(decide (sr < 0)))) = true → ((!((Jl (Ja Og Dg st) (Ja Og Dg st).length) != (if (J0 Og Dg && J2 st 0 ((Og.length : Int) - 1) && decide (0 < st.length)) = true then J7 Dg st else 0))) && ((J0 Og Dg && J2 st 0 ((Og.length : Int) - 1) && decide (0 < st.length)) && !(decide (sr < 0)))) = true) ∧ (((!((Jl (Ja Og Dg st) (Ja Og Dg st).length) != (if (J0 Og Dg && J2 st 0 ((Og.length : Int) - 1) && decide (0 < st.length)) = true then J7 Dg st else 0))) = true → (!((Jl (Ja Og Dg st) (Ja Og Dg st).length) != (if (J0 Og Dg && J2 st 0 ((Og.length : Int) - 1) && decide (0 < st.length)) = true then J7 Dg st else 0))) = true)) ∧ (((!((Jl (Ja Og Dg st) (Ja Og Dg st).length) != (if (J0 Og Dg && J2 st 0 ((Og.length : Int) - 1) && decide (0 < st.length)) = true then J7 Dg st else 0))) = true → ((J0 Og Dg && J2 st 0 ((Og.length : Int) - 1) && decide (0 < st.length)) && !(decide (sr < 0))) = true → ((!((Jl (Ja Og Dg st) (Ja Og Dg st).length) != (if (J0 Og Dg && J2 st 0 ((Og.length : Int) - 1) && decide (0 < st.length)) = true then J7 Dg st else 0))) && ((J0 Og Dg && J2 st 0 ((Og.length : Int) - 1) && decide (0 < st.length)) && !(decide (sr < 0)))) = true)) ∧ (((!((Jl (Ja Og Dg st) (Ja Og Dg st).length) != (if (J0 Og Dg && J2 st 0 ((Og.length : Int) - 1) && decide (0 < st.length)) = true then J7 Dg st else 0))) = true → ((J0 Og Dg && J2 st 0 ((Og.length : Int) - 1) && decide (0 < st.length)) && !(decide (sr < 0))) = false → true = true)) ∧ (true = true) ∧ ((((Jl (Ja Og Dg st) (Ja Og Dg st).length) != (if (J0 Og Dg && J2 st 0 ((Og.length : Int) - 1) && decide (0 < st.length)) = true then J7 Dg st else 0)) = true → true = true)) ∧ ((((Jl (Ja Og Dg st) (Ja Og Dg st).length) != (if (J0 Og Dg && J2 st 0 ((Og.length : Int) - 1) && decide (0 < st.length)) = true then J7 Dg st else 0)) = false → (!((Jl (Ja Og Dg st) (Ja Og Dg st).length) != (if (J0 Og Dg && J2 st 0 ((Og.length : Int) - 1) && decide (0 < st.length)) = true then J7 Dg st else 0))) = true)) ∧ (((l_FnCoverings_e8 st sr Og Dg) = true → ((false = true))) ∧ ((l_FnCoverings_e8 st sr Og Dg) = false → ((l_FnCoverings_JR1020 code rr Oz Dz st sr Og Dg hk hz Oh Dh) ∧ (rr = rr) ∧ ((J4 Oz Dz rr) = (J4 Oz Dz rr)) ∧ ((Jc Oz Dz rr) = (Jc Oz Dz rr)) ∧ (hk = hk) ∧ (hz = hz) ∧ ((Jz Oh Dh hk hz) = (Jz Oh Dh hk hz)) ∧ ((J9 Oh Dh hk hz) = (J9 Oh Dh hk hz)) ∧ (Oz = Oz) ∧ (Dz = Dz) ∧ (Oh = Oh) ∧ (Dh = Dh))))) ∧ ((J0 Og Dg && J2 st 0 ((Og.length : Int) - 1) && decide (0 < st.length)) = false → ((l_FnCoverings_JR1020 code rr Oz Dz st sr Og Dg hk hz Oh Dh) ∧ (rr = rr) ∧ ((J4 Oz Dz rr) = (J4 Oz Dz rr)) ∧ ((Jc Oz Dz rr) = (Jc Oz Dz rr)) ∧ (hk = hk) ∧ (hz = hz) ∧ ((Jz Oh Dh hk hz) = (Jz Oh Dh hk hz)) ∧ ((J9 Oh Dh hk hz) = (J9 Oh Dh hk hz)) ∧ (Oz = Oz) ∧ (Dz = Dz) ∧ (Oh = Oh) ∧ (Dh = Dh))))) ∧ ((l_FnCoverings_JR1020 code rr Oz Dz st sr Og Dg hk hz Oh Dh) → (((((J9 Oh Dh hk hz) = true → (PC Tryz.prog 13 [.agg [.sl (.ints Oh), .sl (.rows Dh)], .int .i64 hk] (.tup [.d (.int .i64 (JL Oh Dh hk)), .d (.bool (J0 Oh Dh && inB hk 1 (Oh.length : Int)))])) ∧ ((!(decide ((Jz Oh Dh hk hz) > (JL Oh Dh hk)))) = true → (!(decide ((Jz Oh Dh hk hz) > (JL Oh Dh hk)))) = true) ∧ ((!(decide ((Jz Oh Dh hk hz) > (JL Oh Dh hk)))) = true → (!(decide ((Jz Oh Dh hk hz) > (JL Oh Dh hk)))) = true) ∧ (((!(decide ((Jz Oh Dh hk hz) > (JL Oh Dh hk)))) && (hz == 0)) = true → ((!(decide ((Jz Oh Dh hk hz) > (JL Oh Dh hk)))) && (hz == 0)) = true) ∧ (((!(decide ((Jz Oh Dh hk hz) > (JL Oh Dh hk)))) && (hz == 0)) = true → ((!(decide ((Jz Oh Dh hk hz) > (JL Oh Dh hk)))) && (hz == 0)) = true) ∧ (((!(decide ((Jz Oh Dh hk hz) > (JL Oh Dh hk)))) = true → (!(decide ((Jz Oh Dh hk hz) > (JL Oh Dh hk)))) = true)) ∧ (((!(decide ((Jz Oh Dh hk hz) > (JL Oh Dh hk)))) = true → (hz == 0) = true → ((!(decide ((Jz Oh Dh hk hz) > (JL Oh Dh hk)))) && (hz == 0)) = true)) ∧ (((!(decide ((Jz Oh Dh hk hz) > (JL Oh Dh hk)))) = true → (hz == 0) = false → true = true)) ∧ (true = true) ∧ (((decide ((Jz Oh Dh hk hz) > (JL Oh Dh hk))) = true → true = true)) ∧ (((decide ((Jz Oh Dh hk hz) > (JL Oh Dh hk))) = false → (!(decide ((Jz Oh Dh hk hz) > (JL Oh Dh hk)))) = true)) ∧ (((cond (decide ((Jz Oh Dh hk hz) > (JL Oh Dh hk))) true (cond (hz == 0) ((Jz Oh Dh hk hz) != (JL Oh Dh hk)) false)) = true → ((false = true))) ∧ ((cond (decide ((Jz Oh Dh hk hz) > (JL Oh Dh hk))) true (cond (hz == 0) ((Jz Oh Dh hk hz) != (JL Oh Dh hk)) false)) = false → ((l_FnCoverings_JR1024 code rr Oz Dz st sr Og Dg hk hz Oh Dh) ∧ (rr = rr) ∧ ((J4 Oz Dz rr) = (J4 Oz Dz rr)) ∧ ((Jc Oz Dz rr) = (Jc Oz Dz rr)) ∧ (Oz = Oz) ∧ (Dz = Dz))))) ∧ ((J9 Oh Dh hk hz) = false → ((l_FnCoverings_JR1024 code rr Oz Dz st sr Og Dg hk hz Oh Dh) ∧ (rr = rr) ∧ ((J4 Oz Dz rr) = (J4 Oz Dz rr)) ∧ ((Jc Oz Dz rr) = (Jc Oz Dz rr)) ∧ (Oz = Oz) ∧ (Dz = Dz))))) ∧ ((l_FnCoverings_JR1024 code rr Oz Dz st sr Og Dg hk hz Oh Dh) → (((!(Jc Oz Dz rr)) = true → ((true = true))) ∧ ((!(Jc Oz Dz rr)) = false → (PC Tryz.prog 24 [.agg [.sl (.ints Oz), .sl (.rows Dz)], .sl (.ints (J4 Oz Dz rr))] (.tup [.d (.int .i64 (if (J0 Oz Dz && J2 (J4 Oz Dz rr) 0 ((Oz.length : Int) - 1) && decide (0 < (J4 Oz Dz rr).length)) = true then J7 Dz (J4 Oz Dz rr) else 0)), .d (.bool (J0 Oz Dz && J2 (J4 Oz Dz rr) 0 ((Oz.length : Int) - 1) && decide (0 < (J4 Oz Dz rr).length)))])) ∧ (((decide ((if (J0 Oz Dz && J2 (J4 Oz Dz rr) 0 ((Oz.length : Int) - 1) && decide (0 < (J4 Oz Dz rr).length)) = true then J7 Dz (J4 Oz Dz rr) else 0) > rr)) = true → ((false = true))) ∧ ((decide ((if (J0 Oz Dz && J2 (J4 Oz Dz rr) 0 ((Oz.length : Int) - 1) && decide (0 < (J4 Oz Dz rr).length)) = true then J7 Dz (J4 Oz Dz rr) else 0) > rr)) = false → (((decide ((((J4 Oz Dz rr).length) : Int) > 1)) = true → (-9223372036854775808 ≤ ((((J4 Oz Dz rr).length) : Int) - 1) ∧ ((((J4 Oz Dz rr).length) : Int) - 1) ≤ 9223372036854775807) ∧ (PC Tryz.prog 13 [.agg [.sl (.ints Oz), .sl (.rows Dz)], .int .i64 ((((J4 Oz Dz rr).length) : Int) - 1)] (.tup [.d (.int .i64 (JL Oz Dz ((((J4 Oz Dz rr).length) : Int) - 1))), .d (.bool (J0 Oz Dz && inB ((((J4 Oz Dz rr).length) : Int) - 1) 1 (Oz.length : Int)))])) ∧ ((J0 Oz Dz && inB ((((J4 Oz Dz rr).length) : Int) - 1) 1 (Oz.length : Int)) = true → (J0 Oz Dz && inB ((((J4 Oz Dz rr).length) : Int) - 1) 1 (Oz.length : Int)) = true) ∧ ((J0 Oz Dz && inB ((((J4 Oz Dz rr).length) : Int) - 1) 1 (Oz.length : Int)) = true → (J0 Oz Dz && inB ((((J4 Oz Dz rr).length) : Int) - 1) 1 (Oz.length : Int)) = true) ∧ (true = true) ∧ (((J0 Oz Dz && inB ((((J4 Oz Dz rr).length) : Int) - 1) 1 (Oz.length : Int)) = true → (J0 Oz Dz && inB ((((J4 Oz Dz rr).length) : Int) - 1) 1 (Oz.length : Int)) = true)) ∧ (((J0 Oz Dz && inB ((((J4 Oz Dz rr).length) : Int) - 1) 1 (Oz.length : Int)) = false → true = true)) ∧ (((cond (J0 Oz Dz && inB ((((J4 Oz Dz rr).length) : Int) - 1) 1 (Oz.length : Int)) (decide ((JL Oz Dz ((((J4 Oz Dz rr).length) : Int) - 1)) > rr)) false) = true))) ∧ ((decide ((((J4 Oz Dz rr).length) : Int) > 1)) = false → ((true = true))))))))))))))))))))))
end Go.Proofs.YtomnmacmlhkceaaGreat
