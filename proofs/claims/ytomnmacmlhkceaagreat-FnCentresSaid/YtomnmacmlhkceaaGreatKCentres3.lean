/- Contracts of the functions that the law reaches. -/
import Derived.Test.YtomnmacmlhkceaaGreatKCentres2
import Derived.KernelRfl
set_option linter.unusedVariables false
set_option linter.unusedSimpArgs false
namespace Go.Proofs.YtomnmacmlhkceaaGreat
open Go

def Jd2 (U : ZI) (E : ZR) : Ann := .two (.none) (.two (.none) (.two (.two (.none) (.loop (cut1 (fun (i : Int) => J2q U E i) (fun (i : Int) => [(1, .ptr 1 0), (14, .d false (.sl (.rows E))), (15, .d true (.int .i64 (E.length : Int))), (16, .d true (.int .i64 i))]) (fun (i : Int) => [(1, .box 27 [.d false (.sl (.ints U)), .d false (.sl (.rows E))])])) (fun g => J2o U E g) (fun g => (fun (i : Int) => .two (.none) (.two (.none) (.two (.two (.none) (.two (.none) (.loop (cut1 (fun (j : Int) => J2v U E i j) (fun (j : Int) => [(1, .ptr 1 0), (5, .d false (.sl (.ints (E.getD i.toNat [])))), (14, .d false (.sl (.rows E))), (15, .d true (.int .i64 (E.length : Int))), (16, .d true (.int .i64 i)), (21, .d false (.sl (.rows E))), (22, .d true (.int .i64 (E.length : Int))), (23, .d true (.int .i64 j))]) (fun (j : Int) => [(1, .box 27 [.d false (.sl (.ints U)), .d false (.sl (.rows E))])])) (fun g => J2t U E i g) (fun g => (fun (j : Int) => .two (.none) (.two (.none) (.two (.two (.none) (.two (.none) (.loop (cut1 (fun (a : Int) => J2f U E i j a) (fun (a : Int) => [(1, .ptr 1 0), (5, .d false (.sl (.ints (E.getD i.toNat [])))), (7, .d false (.sl (.ints (E.getD j.toNat [])))), (14, .d false (.sl (.rows E))), (15, .d true (.int .i64 (E.length : Int))), (16, .d true (.int .i64 i)), (21, .d false (.sl (.rows E))), (22, .d true (.int .i64 (E.length : Int))), (23, .d true (.int .i64 j)), (29, .d true (.int .i64 (U.length : Int))), (30, .d true (.int .i64 a))]) (fun (a : Int) => [(1, .box 27 [.d false (.sl (.ints U)), .d false (.sl (.rows E))])])) (fun g => J2j U E i j g) (fun g => (fun (a : Int) => .two (.none) (.two (.none) (.two (.two (.none) (.two (.none) (.loop (cut1 (fun (b : Int) => J2A U E i j a b) (fun (b : Int) => [(1, .ptr 1 0), (5, .d false (.sl (.ints (E.getD i.toNat [])))), (7, .d false (.sl (.ints (E.getD j.toNat [])))), (8, .d true (.int .i64 a)), (14, .d false (.sl (.rows E))), (15, .d true (.int .i64 (E.length : Int))), (16, .d true (.int .i64 i)), (21, .d false (.sl (.rows E))), (22, .d true (.int .i64 (E.length : Int))), (23, .d true (.int .i64 j)), (29, .d true (.int .i64 (U.length : Int))), (30, .d true (.int .i64 a)), (35, .d true (.int .i64 (U.length : Int))), (36, .d true (.int .i64 b))]) (fun (b : Int) => [(1, .box 27 [.d false (.sl (.ints U)), .d false (.sl (.rows E))])])) (fun g => J2h U E i j a g) (fun _ => .none)))) (.none)))) g)))) (.none)))) g)))) (.none)))) g))) (.none)))
def J7X (U : ZI) (E : ZR) : Prop :=
  (PC Tryz.prog 111 [.agg [.sl (.ints U), .sl (.rows E)]] (.one (.d (.bool (J0 U E))))) ∧ (((!(J0 U E)) = true → ((false = (J0 U E && Jt U.length E)) ∧ (false = (J0 U E)))) ∧ ((!(J0 U E)) = false → ((∃ i' : Int, (J2q U E i') ∧ (E = E) ∧ ((E.length : Int) = (E.length : Int)) ∧ ((0 : Int) = i') ∧ (U = U) ∧ (E = E)) ∧ (∀ i : Int, (J2q U E i) → (((decide (i < (E.length : Int))) = true → ((0 : Int) ≤ i) ∧ ((i : Int) < E.length) ∧ (i.toNat < E.length) ∧ ((∃ j' : Int, (J2v U E i j') ∧ ((E.getD i.toNat []) = (E.getD i.toNat [])) ∧ (E = E) ∧ ((E.length : Int) = (E.length : Int)) ∧ (i = i) ∧ (E = E) ∧ ((E.length : Int) = (E.length : Int)) ∧ ((0 : Int) = j') ∧ (U = U) ∧ (E = E)) ∧ (∀ j : Int, (J2v U E i j) → (((decide (j < (E.length : Int))) = true → ((0 : Int) ≤ j) ∧ ((j : Int) < E.length) ∧ (j.toNat < E.length) ∧ ((∃ a' : Int, (J2f U E i j a') ∧ ((E.getD i.toNat []) = (E.getD i.toNat [])) ∧ ((E.getD j.toNat []) = (E.getD j.toNat [])) ∧ (E = E) ∧ ((E.length : Int) = (E.length : Int)) ∧ (i = i) ∧ (E = E) ∧ ((E.length : Int) = (E.length : Int)) ∧ (j = j) ∧ ((U.length : Int) = (U.length : Int)) ∧ ((0 : Int) = a') ∧ (U = U) ∧ (E = E)) ∧ (∀ a : Int, (J2f U E i j a) → (((decide (a < (U.length : Int))) = true → ((∃ b' : Int, (J2A U E i j a b') ∧ ((E.getD i.toNat []) = (E.getD i.toNat [])) ∧ ((E.getD j.toNat []) = (E.getD j.toNat [])) ∧ (a = a) ∧ (E = E) ∧ ((E.length : Int) = (E.length : Int)) ∧ (i = i) ∧ (E = E) ∧ ((E.length : Int) = (E.length : Int)) ∧ (j = j) ∧ ((U.length : Int) = (U.length : Int)) ∧ (a = a) ∧ ((U.length : Int) = (U.length : Int)) ∧ ((0 : Int) = b') ∧ (U = U) ∧ (E = E)) ∧ (∀ b : Int, (J2A U E i j a b) → (((decide (b < (U.length : Int))) = true → (true = true) ∧ ((0 : Int) ≤ a) ∧ ((a : Int) < (E.getD i.toNat []).length) ∧ (a.toNat < (E.getD i.toNat []).length) ∧ ((0 : Int) ≤ b) ∧ ((b : Int) < (E.getD i.toNat []).length) ∧ (b.toNat < (E.getD i.toNat []).length) ∧ ((0 : Int) ≤ b) ∧ ((b : Int) < (E.getD j.toNat []).length) ∧ (b.toNat < (E.getD j.toNat []).length) ∧ (I6 (((E.getD i.toNat []).getD b.toNat 0) + ((E.getD j.toNat []).getD b.toNat 0))) ∧ ((0 : Int) ≤ a) ∧ ((a : Int) < (E.getD j.toNat []).length) ∧ (a.toNat < (E.getD j.toNat []).length) ∧ (I6 ((((E.getD i.toNat []).getD b.toNat 0) + ((E.getD j.toNat []).getD b.toNat 0)) + ((E.getD j.toNat []).getD a.toNat 0))) ∧ (((decide (((E.getD i.toNat []).getD a.toNat 0) > ((((E.getD i.toNat []).getD b.toNat 0) + ((E.getD j.toNat []).getD b.toNat 0)) + ((E.getD j.toNat []).getD a.toNat 0)))) = true → ((false = (J0 U E && Jt U.length E)) ∧ (true = (J0 U E)))) ∧ ((decide (((E.getD i.toNat []).getD a.toNat 0) > ((((E.getD i.toNat []).getD b.toNat 0) + ((E.getD j.toNat []).getD b.toNat 0)) + ((E.getD j.toNat []).getD a.toNat 0)))) = false → (I6 (b + 1)) ∧ (∃ b' : Int, (J2A U E i j a b') ∧ (J2h U E i j a b' < J2h U E i j a b) ∧ ((E.getD i.toNat []) = (E.getD i.toNat [])) ∧ ((E.getD j.toNat []) = (E.getD j.toNat [])) ∧ (a = a) ∧ (E = E) ∧ ((E.length : Int) = (E.length : Int)) ∧ (i = i) ∧ (E = E) ∧ ((E.length : Int) = (E.length : Int)) ∧ (j = j) ∧ ((U.length : Int) = (U.length : Int)) ∧ (a = a) ∧ ((U.length : Int) = (U.length : Int)) ∧ ((b + 1) = b') ∧ (U = U) ∧ (E = E))))) ∧ ((decide (b < (U.length : Int))) = false → (I6 (a + 1)) ∧ (∃ a' : Int, (J2f U E i j a') ∧ (J2j U E i j a' < J2j U E i j a) ∧ ((E.getD i.toNat []) = (E.getD i.toNat [])) ∧ ((E.getD j.toNat []) = (E.getD j.toNat [])) ∧ (E = E) ∧ ((E.length : Int) = (E.length : Int)) ∧ (i = i) ∧ (E = E) ∧ ((E.length : Int) = (E.length : Int)) ∧ (j = j) ∧ ((U.length : Int) = (U.length : Int)) ∧ ((a + 1) = a') ∧ (U = U) ∧ (E = E))))))) ∧ ((decide (a < (U.length : Int))) = false → (I6 (j + 1)) ∧ (∃ j' : Int, (J2v U E i j') ∧ (J2t U E i j' < J2t U E i j) ∧ ((E.getD i.toNat []) = (E.getD i.toNat [])) ∧ (E = E) ∧ ((E.length : Int) = (E.length : Int)) ∧ (i = i) ∧ (E = E) ∧ ((E.length : Int) = (E.length : Int)) ∧ ((j + 1) = j') ∧ (U = U) ∧ (E = E))))))) ∧ ((decide (j < (E.length : Int))) = false → (I6 (i + 1)) ∧ (∃ i' : Int, (J2q U E i') ∧ (J2o U E i' < J2o U E i) ∧ (E = E) ∧ ((E.length : Int) = (E.length : Int)) ∧ ((i + 1) = i') ∧ (U = U) ∧ (E = E))))))) ∧ ((decide (i < (E.length : Int))) = false → ((true = (J0 U E && Jt U.length E)) ∧ (true = (J0 U E)))))))))
theorem Jc4 (U : ZI) (E : ZR)  (w_Open : (U.length : Int) ≤ 9223372036854775807) (w_Dist : (E.length : Int) ≤ 9223372036854775807) (v_Dist : ∀ x9 ∈ E, (x9.length : Int) ≤ 9223372036854775807) : J7X U E := by
  unfold J7X
  refine ⟨J2a U E, ?_, ?_⟩
  ·intro b1
   try simp only [nrmT] at b1
   refine ⟨?_, ?_⟩
   ·have e1 : J0 U E = false := by simpa using b1
    rw [e1]; rfl
   have e1 : J0 U E = false := by simpa using b1
   exact e1.symm
  intro b2
  try simp only [nrmT] at b2
  refine ⟨?_, ?_⟩
  ·refine ⟨0, ?_⟩
   refine ⟨?_, rfl, rfl, rfl, rfl, rfl⟩
   ·refine ⟨?_, ?_, ?_⟩
    ·omega
    ·omega
    ·rfl
  intro i hJ
  obtain ⟨h1, h2, h3⟩ := hJ
  refine ⟨?_, ?_⟩
  ·intro b3
   try simp only [nrmT] at b3
   refine ⟨?_, ?_, ?_, ?_, ?_⟩
   ·omega
   ·omega
   ·omega
   ·refine ⟨0, ?_⟩
    refine ⟨?_, rfl, rfl, rfl, rfl, rfl, rfl, rfl, rfl, rfl⟩
    ·refine ⟨?_, ?_, ?_⟩
     ·omega
     ·omega
     ·rfl
   intro j hJ
   obtain ⟨h4, h5, h6⟩ := hJ
   refine ⟨?_, ?_⟩
   ·intro b4
    try simp only [nrmT] at b4
    refine ⟨?_, ?_, ?_, ?_, ?_⟩
    ·omega
    ·omega
    ·omega
    ·refine ⟨0, ?_⟩
     refine ⟨?_, rfl, rfl, rfl, rfl, rfl, rfl, rfl, rfl, rfl, rfl, rfl, rfl⟩
     ·refine ⟨?_, ?_, ?_⟩
      ·omega
      ·omega
      ·rfl
    intro a hJ
    obtain ⟨h7, h8, h9⟩ := hJ
    refine ⟨?_, ?_⟩
    ·intro b5
     try simp only [nrmT] at b5
     refine ⟨?_, ?_⟩
     ·refine ⟨0, ?_⟩
      refine ⟨?_, rfl, rfl, rfl, rfl, rfl, rfl, rfl, rfl, rfl, rfl, rfl, rfl, rfl, rfl, rfl⟩
      ·refine ⟨?_, ?_, ?_⟩
       ·omega
       ·omega
       ·rfl
     intro b hJ
     obtain ⟨k1, k2, k3⟩ := hJ
     refine ⟨?_, ?_⟩
     ·intro b6
      try simp only [nrmT] at b6
      refine ⟨rfl, ?_, ?_, ?_, ?_, ?_, ?_, ?_, ?_, ?_, ?_, ?_, ?_, ?_, ?_, ?_, ?_⟩
      ·omega
      ·have hg : J0 U E = true := by simpa using b2
       obtain ⟨g1, g2, g3⟩ := Jb hg
       have r1 := Je hg (i := i.toNat) (by omega)
       have r2 := Je hg (i := j.toNat) (by omega)
       have q1 := r1.2 a.toNat (by omega)
       have q2 := r1.2 b.toNat (by omega)
       have q3 := r2.2 b.toNat (by omega)
       have q4 := r2.2 a.toNat (by omega)
       omega
      ·have hg : J0 U E = true := by simpa using b2
       obtain ⟨g1, g2, g3⟩ := Jb hg
       have r1 := Je hg (i := i.toNat) (by omega)
       have r2 := Je hg (i := j.toNat) (by omega)
       have q1 := r1.2 a.toNat (by omega)
       have q2 := r1.2 b.toNat (by omega)
       have q3 := r2.2 b.toNat (by omega)
       have q4 := r2.2 a.toNat (by omega)
       omega
      ·omega
      ·have hg : J0 U E = true := by simpa using b2
       obtain ⟨g1, g2, g3⟩ := Jb hg
       have r1 := Je hg (i := i.toNat) (by omega)
       have r2 := Je hg (i := j.toNat) (by omega)
       have q1 := r1.2 a.toNat (by omega)
       have q2 := r1.2 b.toNat (by omega)
       have q3 := r2.2 b.toNat (by omega)
       have q4 := r2.2 a.toNat (by omega)
       omega
      ·have hg : J0 U E = true := by simpa using b2
       obtain ⟨g1, g2, g3⟩ := Jb hg
       have r1 := Je hg (i := i.toNat) (by omega)
       have r2 := Je hg (i := j.toNat) (by omega)
       have q1 := r1.2 a.toNat (by omega)
       have q2 := r1.2 b.toNat (by omega)
       have q3 := r2.2 b.toNat (by omega)
       have q4 := r2.2 a.toNat (by omega)
       omega
      ·omega
      ·have hg : J0 U E = true := by simpa using b2
       obtain ⟨g1, g2, g3⟩ := Jb hg
       have r1 := Je hg (i := i.toNat) (by omega)
       have r2 := Je hg (i := j.toNat) (by omega)
       have q1 := r1.2 a.toNat (by omega)
       have q2 := r1.2 b.toNat (by omega)
       have q3 := r2.2 b.toNat (by omega)
       have q4 := r2.2 a.toNat (by omega)
       omega
      ·have hg : J0 U E = true := by simpa using b2
       obtain ⟨g1, g2, g3⟩ := Jb hg
       have r1 := Je hg (i := i.toNat) (by omega)
       have r2 := Je hg (i := j.toNat) (by omega)
       have q1 := r1.2 a.toNat (by omega)
       have q2 := r1.2 b.toNat (by omega)
       have q3 := r2.2 b.toNat (by omega)
       have q4 := r2.2 a.toNat (by omega)
       omega
      ·have hg : J0 U E = true := by simpa using b2
       obtain ⟨g1, g2, g3⟩ := Jb hg
       have r1 := Je hg (i := i.toNat) (by omega)
       have r2 := Je hg (i := j.toNat) (by omega)
       have q1 := r1.2 a.toNat (by omega)
       have q2 := r1.2 b.toNat (by omega)
       have q3 := r2.2 b.toNat (by omega)
       have q4 := r2.2 a.toNat (by omega)
       omega
      ·omega
      ·have hg : J0 U E = true := by simpa using b2
       obtain ⟨g1, g2, g3⟩ := Jb hg
       have r1 := Je hg (i := i.toNat) (by omega)
       have r2 := Je hg (i := j.toNat) (by omega)
       have q1 := r1.2 a.toNat (by omega)
       have q2 := r1.2 b.toNat (by omega)
       have q3 := r2.2 b.toNat (by omega)
       have q4 := r2.2 a.toNat (by omega)
       omega
      ·have hg : J0 U E = true := by simpa using b2
       obtain ⟨g1, g2, g3⟩ := Jb hg
       have r1 := Je hg (i := i.toNat) (by omega)
       have r2 := Je hg (i := j.toNat) (by omega)
       have q1 := r1.2 a.toNat (by omega)
       have q2 := r1.2 b.toNat (by omega)
       have q3 := r2.2 b.toNat (by omega)
       have q4 := r2.2 a.toNat (by omega)
       omega
      ·have hg : J0 U E = true := by simpa using b2
       obtain ⟨g1, g2, g3⟩ := Jb hg
       have r1 := Je hg (i := i.toNat) (by omega)
       have r2 := Je hg (i := j.toNat) (by omega)
       have q1 := r1.2 a.toNat (by omega)
       have q2 := r1.2 b.toNat (by omega)
       have q3 := r2.2 b.toNat (by omega)
       have q4 := r2.2 a.toNat (by omega)
       omega
      ·intro b7
       try simp only [nrmT] at b7
       refine ⟨?_, ?_⟩
       ·have e1 : J8f U.length E i.toNat j.toNat a.toNat = false := allTo_falseI k1 (by omega) (by unfold J1q; rw [decide_eq_true (by omega)]; rfl)
        have e2 : J74 U.length E i.toNat j.toNat = false := allTo_falseI h7 (by omega) e1
        have e3 : J6h U.length E i.toNat = false := allTo_falseI h4 (by omega) e2
        rw [show Jt U.length E = false from allTo_falseI h1 (by omega) e3, Bool.and_false]
       have hg : J0 U E = true := by simpa using b2
       obtain ⟨g1, g2, g3⟩ := Jb hg
       exact hg.symm
      intro b8
      try simp only [nrmT] at b8
      refine ⟨?_, ?_⟩
      ·omega
      refine ⟨(b + 1), ?_⟩
      refine ⟨?_, ?_, rfl, rfl, rfl, rfl, rfl, rfl, rfl, rfl, rfl, rfl, rfl, rfl, rfl, rfl, rfl⟩
      ·refine ⟨?_, ?_, ?_⟩
       ·omega
       ·omega
       ·refine allTo_step k1 k3 ?_
        unfold J1q
        rw [decide_eq_false (by omega)]; rfl
      (simp only [J2h]; omega)
     intro b9
     try simp only [nrmT] at b9
     refine ⟨?_, ?_⟩
     ·omega
     refine ⟨(a + 1), ?_⟩
     refine ⟨?_, ?_, rfl, rfl, rfl, rfl, rfl, rfl, rfl, rfl, rfl, rfl, rfl, rfl⟩
     ·refine ⟨?_, ?_, ?_⟩
      ·omega
      ·omega
      ·refine allTo_step h7 h9 ?_
       show allTo _ U.length = true
       rw [← k3]; congr 1; omega
     (simp only [J2j]; omega)
    intro b10
    try simp only [nrmT] at b10
    refine ⟨?_, ?_⟩
    ·omega
    refine ⟨(j + 1), ?_⟩
    refine ⟨?_, ?_, rfl, rfl, rfl, rfl, rfl, rfl, rfl, rfl, rfl⟩
    ·refine ⟨?_, ?_, ?_⟩
     ·omega
     ·omega
     ·refine allTo_step h4 h6 ?_
      show allTo _ U.length = true
      rw [← h9]; congr 1; omega
    (simp only [J2t]; omega)
   intro b11
   try simp only [nrmT] at b11
   refine ⟨?_, ?_⟩
   ·omega
   refine ⟨(i + 1), ?_⟩
   refine ⟨?_, ?_, rfl, rfl, rfl, rfl, rfl⟩
   ·refine ⟨?_, ?_, ?_⟩
    ·omega
    ·omega
    ·refine allTo_step h1 h3 ?_
     show allTo _ E.length = true
     rw [← h6]; congr 1; omega
   (simp only [J2o]; omega)
  intro b12
  try simp only [nrmT] at b12
  refine ⟨?_, ?_⟩
  ·have hg : J0 U E = true := by simpa using b2
   obtain ⟨g1, g2, g3⟩ := Jb hg
   have hm : Jt U.length E = true := by
     unfold Jt
     rw [← h3]; congr 1; omega
   rw [hg, hm]; rfl
  have hg : J0 U E = true := by simpa using b2
  obtain ⟨g1, g2, g3⟩ := Jb hg
  exact hg.symm
theorem JcA (U : ZI) (E : ZR)  : PC Tryz.prog 25 [.agg [.sl (.ints U), .sl (.rows E)]] (.tup [.d (.bool (J0 U E && Jt U.length E)), .d (.bool (J0 U E))]) :=
  pc_wf @Tryz.call25 fun hw => pc_by (by kernel_rfl) Tryz.func25 @Tryz.call25 (by kernel_rfl) JcL (Jd2 U E) (by kernel_rfl) (Jc4 U E hw.1.1 hw.1.2.1.1 hw.1.2.1.2) (by kernel_rfl)
def Jbv : List D → Orc := orcN [none] fun ds => match ds with
  | [.agg [.sl (.ints U), .sl (.rows E)]] => some (.tup [.d (.bool (J0 U E && Jt U.length E)), .d (.bool (J0 U E))])
  | _ => none
abbrev J0Q (code : List Nat) (c : Cur) (O : ZI) (D : ZR) (cm : Cur) : Prop := (okC cm 9000000) ∧ (O.length ≤ 8) ∧ (D.length ≤ 8)
def J3n (code : List Nat) (c : Cur) : Ex := ex3 1 (fun (O : ZI) (D : ZR) (cm : Cur) => J0Q code c O D cm) (fun (O : ZI) (D : ZR) (cm : Cur) => [.int .i64 cm.pos, .int .u64 cm.seed]) (fun (O : ZI) (D : ZR) (cm : Cur) => .one (.d (.agg [.sl (.ints O), .sl (.rows D)])))
def J9g (f : FuncId) (ds : List D) : Orc := .no
def J9w (u : Value) (code : List Nat) (c : Cur) : Ann := .two (.none) (.two (.two (.mark [] [(1, .cell [.int .i64 ((J1 code c 12).pos), .int .u64 ((J1 code c 12).seed)] (.one (.d (.bool (J4 code c 12 == 0)))))]) (.two (.two (.exr (.ex [] 1 (J47 code (J1 code c 12)) (fun g => (fun (Or2 : ZI) (Dr2 : ZR) (clr2 : Cur) => .ms [] []) (g.1) (g.2.1) (g.2.2)))) (.none)) (.none))) (.two (.two (.mark [] [(1, .cell [.int .i64 ((J1 code (J1 code c 12) 2).pos), .int .u64 ((J1 code (J1 code c 12) 2).seed)] (.one (.d (.bool (J4 code (J1 code c 12) 2 == 0)))))]) (.two (.two (.exr (.ex [] 1 (J0f code (J1 code (J1 code c 12) 2) 7) (fun g => (fun (Or4 : ZI) (Dr4 : ZR) (cgr4 : Cur) => .ms [] []) (g.1) (g.2.1) (g.2.2)))) (.none)) (.none))) (.two (.exr (.ex [] 1 (Jv code (J1 code (J1 code c 12) 2) 7) (fun g => (fun (Or5 : ZI) (Dr5 : ZR) (cfr5 : Cur) => .ex [] 2 (J2P Or5 Dr5) (fun g => (fun (Or5x2 : ZI) (Dr5x2 : ZR) => .ms [] []) (g.1) (g.2))) (g.1) (g.2.1) (g.2.2)))) (.none))))
def J3p (u : Value) (code : List Nat) (c : Cur) : Prop :=
  (PK Tryz.prog 124 76 (.sl (.bytes code)) [.int .i64 c.pos, .int .u64 c.seed] [.int .i64 ((J1 code c 12).pos), .int .u64 ((J1 code c 12).seed)] [.int .i64 12] (.one (.d (.bool (J4 code c 12 == 0))))) ∧ (((J4 code c 12 == 0) = true → (PKE Tryz.prog 133 76 (.sl (.bytes code)) [.int .i64 ((J1 code c 12).pos), .int .u64 ((J1 code c 12).seed)] [] (J47 code (J1 code c 12))) ∧ (∀ Or2 : ZI, ∀ Dr2 : ZR, ∀ clr2 : Cur, J3V code (J1 code c 12) Or2 Dr2 clr2 → ((true = true) ∧ (∃ O' : ZI, ∃ D' : ZR, ∃ cm' : Cur, (J0Q code c O' D' cm') ∧ (true = true) ∧ ((.lit u (.sl (.bytes code)) : D) = .lit u (.sl (.bytes code))) ∧ (clr2.pos = cm'.pos) ∧ (clr2.seed = cm'.seed) ∧ ((.agg [.sl (.ints Or2), .sl (.rows Dr2)] : D) = .agg [.sl (.ints O'), .sl (.rows D')]))))) ∧ ((J4 code c 12 == 0) = false → (PK Tryz.prog 124 76 (.sl (.bytes code)) [.int .i64 ((J1 code c 12).pos), .int .u64 ((J1 code c 12).seed)] [.int .i64 ((J1 code (J1 code c 12) 2).pos), .int .u64 ((J1 code (J1 code c 12) 2).seed)] [.int .i64 2] (.one (.d (.bool (J4 code (J1 code c 12) 2 == 0))))) ∧ (((J4 code (J1 code c 12) 2 == 0) = true → (PKE Tryz.prog 186 76 (.sl (.bytes code)) [.int .i64 ((J1 code (J1 code c 12) 2).pos), .int .u64 ((J1 code (J1 code c 12) 2).seed)] [.int .i64 7] (J0f code (J1 code (J1 code c 12) 2) 7)) ∧ (∀ Or4 : ZI, ∀ Dr4 : ZR, ∀ cgr4 : Cur, J16 code (J1 code (J1 code c 12) 2) 7 Or4 Dr4 cgr4 → ((true = true) ∧ (∃ O' : ZI, ∃ D' : ZR, ∃ cm' : Cur, (J0Q code c O' D' cm') ∧ (true = true) ∧ ((.lit u (.sl (.bytes code)) : D) = .lit u (.sl (.bytes code))) ∧ (cgr4.pos = cm'.pos) ∧ (cgr4.seed = cm'.seed) ∧ (Or4.length = Or4.length) ∧ (Dr4.length = Dr4.length) ∧ ((.agg [.sl (.ints Or4), .sl (.rows Dr4)] : D) = .agg [.sl (.ints O'), .sl (.rows D')]))))) ∧ ((J4 code (J1 code c 12) 2 == 0) = false → (PKE Tryz.prog 188 76 (.sl (.bytes code)) [.int .i64 ((J1 code (J1 code c 12) 2).pos), .int .u64 ((J1 code (J1 code c 12) 2).seed)] [.int .i64 7] (Jv code (J1 code (J1 code c 12) 2) 7)) ∧ (∀ Or5 : ZI, ∀ Dr5 : ZR, ∀ cfr5 : Cur, J04 code (J1 code (J1 code c 12) 2) 7 Or5 Dr5 cfr5 → ((true = true) ∧ (Or5.length = Or5.length) ∧ (Dr5.length = Dr5.length) ∧ (PE Tryz.prog 187 [.agg [.sl (.ints Or5), .sl (.rows Dr5)]] (J2P Or5 Dr5)) ∧ (∀ Or5x2 : ZI, ∀ Dr5x2 : ZR, J2Q Or5 Dr5 Or5x2 Dr5x2 → ((true = true) ∧ (∃ O' : ZI, ∃ D' : ZR, ∃ cm' : Cur, (J0Q code c O' D' cm') ∧ (true = true) ∧ ((.lit u (.sl (.bytes code)) : D) = .lit u (.sl (.bytes code))) ∧ (cfr5.pos = cm'.pos) ∧ (cfr5.seed = cm'.seed) ∧ (Or5x2.length = Or5x2.length) ∧ (Dr5x2.length = Dr5x2.length) ∧ ((.agg [.sl (.ints Or5x2), .sl (.rows Dr5x2)] : D) = .agg [.sl (.ints O'), .sl (.rows D')]))))))))))
theorem J8D (u : Value) (code : List Nat) (c : Cur) (hb : ∀ x9 ∈ code, x9 < 256) (hc : okC c 1000000)  : J3p u code c := by
  unfold J3p
  refine ⟨?_, ?_, ?_⟩
  ·refine J4q code c 12 ?_ ?_
   ·exact hb
   ·exact J7 (by repeat (first | assumption | apply J0h | apply Jf | apply Jy | exact J3m)) (by omega)
  ·intro b1
   try simp only [nrmT] at b1
   refine ⟨?_, ?_⟩
   ·refine J8O code (J1 code c 12) ?_ ?_
    ·exact hb
    ·exact J7 (by repeat (first | assumption | apply J0h | apply Jf | apply Jy | exact J3m)) (by omega)
   intro Or2 Dr2 clr2 hQ9
   obtain ⟨f1r2, f2r2, f3r2⟩ := hQ9
   refine ⟨rfl, ?_⟩
   ·refine ⟨Or2, Dr2, clr2, ?_⟩
    refine ⟨?_, rfl, rfl, rfl, rfl, rfl⟩
    ·refine ⟨?_, ?_, ?_⟩
     ·exact J7 (by repeat (first | assumption | apply J0h | apply Jf | apply Jy | exact J3m)) (by omega)
     ·first | assumption | exact Nat.le_trans (And.left (show drF _ _ by assumption)) (by decide) | exact Nat.le_trans (And.left (And.right (show drF _ _ by assumption))) (by decide)
     ·first | assumption | exact Nat.le_trans (And.left (show drF _ _ by assumption)) (by decide) | exact Nat.le_trans (And.left (And.right (show drF _ _ by assumption))) (by decide)
  intro b2
  try simp only [nrmT] at b2
  refine ⟨?_, ?_, ?_⟩
  ·refine J4q code (J1 code c 12) 2 ?_ ?_
   ·exact hb
   ·exact J7 (by repeat (first | assumption | apply J0h | apply Jf | apply Jy | exact J3m)) (by omega)
  ·intro b3
   try simp only [nrmT] at b3
   refine ⟨?_, ?_⟩
   ·refine J3x code (J1 code (J1 code c 12) 2) 7 ?_ ?_ ?_
    ·exact hb
    ·exact J7 (by repeat (first | assumption | apply J0h | apply Jf | apply Jy | exact J3m)) (by omega)
    ·first | omega | rfl | (intro hg; simp only [nrmT] at hg; omega) | (intro g1 g2; simp [g1, g2]; done) | (intro g1; simp at g1 ⊢; simp [g1]; done) | (simp only [nrmT] at *; omega) | (simp at * <;> omega) | (simp_all <;> omega) | (simp_all; done)
   intro Or4 Dr4 cgr4 hQ9
   obtain ⟨f1r4, f2r4⟩ := hQ9
   refine ⟨rfl, ?_⟩
   ·refine ⟨Or4, Dr4, cgr4, ?_⟩
    refine ⟨?_, rfl, rfl, rfl, rfl, rfl, rfl, rfl⟩
    ·refine ⟨?_, ?_, ?_⟩
     ·exact J7 (by repeat (first | assumption | apply J0h | apply Jf | apply Jy | exact J3m)) (by omega)
     ·first | assumption | exact Nat.le_trans (And.left (show drF _ _ by assumption)) (by decide) | exact Nat.le_trans (And.left (And.right (show drF _ _ by assumption))) (by decide)
     ·first | assumption | exact Nat.le_trans (And.left (show drF _ _ by assumption)) (by decide) | exact Nat.le_trans (And.left (And.right (show drF _ _ by assumption))) (by decide)
  intro b4
  try simp only [nrmT] at b4
  refine ⟨?_, ?_⟩
  ·refine J0J code (J1 code (J1 code c 12) 2) 7 ?_ ?_ ?_
   ·exact hb
   ·exact J7 (by repeat (first | assumption | apply J0h | apply Jf | apply Jy | exact J3m)) (by omega)
   ·first | omega | rfl | (intro hg; simp only [nrmT] at hg; omega) | (intro g1 g2; simp [g1, g2]; done) | (intro g1; simp at g1 ⊢; simp [g1]; done) | (simp only [nrmT] at *; omega) | (simp at * <;> omega) | (simp_all <;> omega) | (simp_all; done)
  intro Or5 Dr5 cfr5 hQ9
  obtain ⟨f1r5, f2r5⟩ := hQ9
  refine ⟨rfl, rfl, rfl, ?_, ?_⟩
  ·refine J7P Or5 Dr5 ?_
   ·assumption
  intro Or5x2 Dr5x2 hQ9
  have f2r5x2 := hQ9
  refine ⟨rfl, ?_⟩
  ·refine ⟨Or5x2, Dr5x2, cfr5, ?_⟩
   refine ⟨?_, rfl, rfl, rfl, rfl, rfl, rfl, rfl⟩
   ·refine ⟨?_, ?_, ?_⟩
    ·exact J7 (by repeat (first | assumption | apply J0h | apply Jf | apply Jy | exact J3m)) (by omega)
    ·first | assumption | exact Nat.le_trans (And.left (show drF _ _ by assumption)) (by decide) | exact Nat.le_trans (And.left (And.right (show drF _ _ by assumption))) (by decide)
    ·first | assumption | exact Nat.le_trans (And.left (show drF _ _ by assumption)) (by decide) | exact Nat.le_trans (And.left (And.right (show drF _ _ by assumption))) (by decide)
theorem J7z (code : List Nat) (c : Cur) (hb : ∀ x9 ∈ code, x9 < 256) (hc : okC c 1000000) : PKE Tryz.prog 91 76 (.sl (.bytes code)) [.int .i64 c.pos, .int .u64 c.seed] [] (J3n code c) :=
  pke_by (Q := fun u => J3p u code c) (by kernel_rfl) Tryz.func91 @Tryz.call91 (by kernel_rfl) J9g (fun u => J9w u code c) (by kernel_rfl) (fun u => J8D u code c hb hc) (fun u => by kernel_rfl)
def n5B (n : Nat) : Int := max 1 (min (n : Int) 3)
def n5V (code : List Nat) (c : Cur) (n : Nat) : Int := if J4 code c 24 = 0 then ([0, 8, -1] : ZI).getD (J4 code (J1 code c 24) 3).toNat 0 else 1 + J4 code (J1 code c 24) (n5B n)
def n5C (code : List Nat) (c : Cur) (n : Nat) : Cur := if J4 code c 24 = 0 then J1 code (J1 code c 24) 3 else J1 code (J1 code c 24) (n5B n)
theorem Jfh {code : List Nat} {c : Cur} {n : Nat} {b : Int} (h : okC c b) : okC (n5C code c n) (b + 4) := by
  unfold n5C
  split
  · exact J7 (Jf (Jf h)) (by omega)
  exact J7 (Jf (Jf h)) (by omega)
def J8L (f : FuncId) (ds : List D) : Orc := bif Nat.beq f 161 then J3h ds else bif Nat.beq f 154 then J5D ds else .no
def J8H (u : Value) (code : List Nat) (c : Cur) (U : ZI) (E : ZR) : Ann := .two (.none) (.two (.two (.mark [] [(1, .cell [.int .i64 ((J1 code c 24).pos), .int .u64 ((J1 code c 24).seed)] (.one (.d (.bool (J4 code c 24 == 0)))))]) (.two (.two (.mark [] [(2, .cell [.int .i64 ((J1 code (J1 code c 24) (([0, 8, (-1)]).length : Int)).pos), .int .u64 ((J1 code (J1 code c 24) (([0, 8, (-1)]).length : Int)).seed)] (.one (.d (.int .i64 (([0, 8, (-1)]).getD (J4 code (J1 code c 24) (([0, 8, (-1)]).length : Int)).toNat 0)))))]) (.none)) (.none))) (.two (.mark [] [(6, .cell [.int .i64 ((J1 code (J1 code c 24) (max 1 (min (U.length : Int) 3))).pos), .int .u64 ((J1 code (J1 code c 24) (max 1 (min (U.length : Int) 3))).seed)] (.one (.d (.int .i64 (J4 code (J1 code c 24) (max 1 (min (U.length : Int) 3)))))))]) (.none)))
def J2K (u : Value) (code : List Nat) (c : Cur) (U : ZI) (E : ZR) : Prop :=
  (PK Tryz.prog 124 76 (.sl (.bytes code)) [.int .i64 c.pos, .int .u64 c.seed] [.int .i64 ((J1 code c 24).pos), .int .u64 ((J1 code c 24).seed)] [.int .i64 24] (.one (.d (.bool (J4 code c 24 == 0))))) ∧ (((J4 code c 24 == 0) = true → ((3 : Nat) = 3) ∧ (PK Tryz.prog 155 76 (.sl (.bytes code)) [.int .i64 ((J1 code c 24).pos), .int .u64 ((J1 code c 24).seed)] [.int .i64 ((J1 code (J1 code c 24) (([0, 8, (-1)]).length : Int)).pos), .int .u64 ((J1 code (J1 code c 24) (([0, 8, (-1)]).length : Int)).seed)] [.sl (.ints ([0, 8, (-1)]))] (.one (.d (.int .i64 (([0, 8, (-1)]).getD (J4 code (J1 code c 24) (([0, 8, (-1)]).length : Int)).toNat 0))))) ∧ (((.lit u (.sl (.bytes code)) : D) = .lit u (.sl (.bytes code))) ∧ ((J1 code (J1 code c 24) (([0, 8, (-1)]).length : Int)).pos = (n5C code c U.length).pos) ∧ ((J1 code (J1 code c 24) (([0, 8, (-1)]).length : Int)).seed = (n5C code c U.length).seed) ∧ ((([0, 8, (-1)]).getD (J4 code (J1 code c 24) (([0, 8, (-1)]).length : Int)).toNat 0) = (n5V code c U.length)))) ∧ ((J4 code c 24 == 0) = false → (PC Tryz.prog 161 [.int .i64 (U.length : Int), .int .i64 3] (.one (.d (.int .i64 (min (U.length : Int) 3))))) ∧ (PC Tryz.prog 154 [.int .i64 1, .int .i64 (min (U.length : Int) 3)] (.one (.d (.int .i64 (max 1 (min (U.length : Int) 3)))))) ∧ (PK Tryz.prog 156 76 (.sl (.bytes code)) [.int .i64 ((J1 code c 24).pos), .int .u64 ((J1 code c 24).seed)] [.int .i64 ((J1 code (J1 code c 24) (max 1 (min (U.length : Int) 3))).pos), .int .u64 ((J1 code (J1 code c 24) (max 1 (min (U.length : Int) 3))).seed)] [.int .i64 (max 1 (min (U.length : Int) 3))] (.one (.d (.int .i64 (J4 code (J1 code c 24) (max 1 (min (U.length : Int) 3))))))) ∧ (I6 (1 + (J4 code (J1 code c 24) (max 1 (min (U.length : Int) 3))))) ∧ (((.lit u (.sl (.bytes code)) : D) = .lit u (.sl (.bytes code))) ∧ ((J1 code (J1 code c 24) (max 1 (min (U.length : Int) 3))).pos = (n5C code c U.length).pos) ∧ ((J1 code (J1 code c 24) (max 1 (min (U.length : Int) 3))).seed = (n5C code c U.length).seed) ∧ ((1 + (J4 code (J1 code c 24) (max 1 (min (U.length : Int) 3)))) = (n5V code c U.length)))))
theorem J83 (u : Value) (code : List Nat) (c : Cur) (U : ZI) (E : ZR) (hb : ∀ x9 ∈ code, x9 < 256) (hc : okC c 9000100)  : J2K u code c U E := by
  unfold J2K
  refine ⟨?_, ?_, ?_⟩
  ·refine J4q code c 24 ?_ ?_
   ·exact hb
   ·exact J7 (by assumption) (by omega)
  ·intro b1
   try simp only [nrmT] at b1
   refine ⟨rfl, ?_, rfl, ?_, ?_, ?_⟩
   ·refine J0g code (J1 code c 24) ([0, 8, (-1)]) ?_ ?_ ?_
    ·exact hb
    ·exact J7 (Jf (by assumption)) (by omega)
    ·simp
   ·unfold n5C; first | (rw [if_pos b1]; rfl) | (rw [if_neg b1]; rfl)
   ·unfold n5C; first | (rw [if_pos b1]; rfl) | (rw [if_neg b1]; rfl)
   unfold n5V; first | (rw [if_pos b1]; rfl) | (rw [if_neg b1]; rfl)
  intro b2
  try simp only [nrmT] at b2
  refine ⟨J3E (U.length : Int) 3, J6k 1 (min (U.length : Int) 3), ?_, ?_, rfl, ?_, ?_, ?_⟩
  ·refine Jz code (J1 code c 24) (max 1 (min (U.length : Int) 3)) ?_ ?_
   ·exact hb
   ·exact J7 (Jf (by assumption)) (by omega)
  ·have v := J1k code (J1 code c 24) (n := max 1 (min (U.length : Int) 3)) (by omega)
   omega
  ·unfold n5C; first | (rw [if_pos b2]; rfl) | (rw [if_neg b2]; rfl)
  ·unfold n5C; first | (rw [if_pos b2]; rfl) | (rw [if_neg b2]; rfl)
  unfold n5V; first | (rw [if_pos b2]; rfl) | (rw [if_neg b2]; rfl)
theorem J8c (code : List Nat) (c : Cur) (U : ZI) (E : ZR) (hb : ∀ x9 ∈ code, x9 < 256) (hc : okC c 9000100) : PK Tryz.prog 92 76 (.sl (.bytes code)) [.int .i64 c.pos, .int .u64 c.seed] [.int .i64 (n5C code c U.length).pos, .int .u64 (n5C code c U.length).seed] [.agg [.sl (.ints U), .sl (.rows E)]] (.one (.d (.int .i64 (n5V code c U.length)))) :=
  pk_by (Q := fun u => J2K u code c U E) (by kernel_rfl) Tryz.func92 @Tryz.call92 (by kernel_rfl) J8L (fun u => J8H u code c U E) (by kernel_rfl) (fun u => J83 u code c U E hb hc) (fun u => by kernel_rfl)
abbrev J0p (code : List Nat) (c1 : Cur) (Oz : ZI) (Dz : ZR) : Prop := (okC c1 9000000)
abbrev J1I (code : List Nat) (O : ZI) (Ds : ZR) (kk : Int) : Prop := True
def J1L (code : List Nat) : Ex := ex3 0 (fun (O : ZI) (Ds : ZR) (kk : Int) => J1I code O Ds kk) (fun (O : ZI) (Ds : ZR) (kk : Int) => []) (fun (O : ZI) (Ds : ZR) (kk : Int) => .tup [.d (.agg [.sl (.ints O), .sl (.rows Ds)]), .d (.int .i64 kk)])
def J7j (f : FuncId) (ds : List D) : Orc := .no
def J7h (code : List Nat) : Ann := .two (.none) (.two (.none) (.cut (.exr (.ex [] 1 (J3n code JcV) (fun g => (fun (Or2 : ZI) (Dr2 : ZR) (cmr2 : Cur) => .ms [] []) (g.1) (g.2.1) (g.2.2)))) (cut3 (fun (c1 : Cur) (Oz : ZI) (Dz : ZR) => J0p code c1 Oz Dz) (fun (c1 : Cur) (Oz : ZI) (Dz : ZR) => [(2, .ptr 2 0), (4, .ptr 8 0), (5, .ptr 5 0)]) (fun (c1 : Cur) (Oz : ZI) (Dz : ZR) => [(2, .box 27 [.d true (.nil), .d true (.nil)]), (8, .box 76 [.d false (.sl (.bytes code)), .d true (.int .i64 c1.pos), .d true (.int .u64 c1.seed)]), (5, .box 27 [.d true (.sl (.ints Oz)), .d true (.sl (.rows Dz))])])) (fun g => (fun (c1 : Cur) (Oz : ZI) (Dz : ZR) => .two (.reg [(3, .cell [.int .i64 ((n5C code c1 Oz.length).pos), .int .u64 ((n5C code c1 Oz.length).seed)] (.one (.d (.int .i64 (n5V code c1 Oz.length)))))]) (.none)) (g.1) (g.2.1) (g.2.2))))
def J4i (code : List Nat) : Prop :=
  (((PKE Tryz.prog 91 76 (.sl (.bytes code)) [.int .i64 0, .int .u64 0] [] (J3n code JcV)) ∧ (∀ Or2 : ZI, ∀ Dr2 : ZR, ∀ cmr2 : Cur, J0Q code JcV Or2 Dr2 cmr2 → ((true = true) ∧ (∃ c1' : Cur, ∃ Oz' : ZI, ∃ Dz' : ZR, (J0p code c1' Oz' Dz') ∧ (code = code) ∧ (cmr2.pos = c1'.pos) ∧ (cmr2.seed = c1'.seed) ∧ (Or2 = Oz') ∧ (Dr2 = Dz'))))) ∧ (∀ c1 : Cur, ∀ Oz : ZI, ∀ Dz : ZR, (J0p code c1 Oz Dz) → (true = true) ∧ (PK Tryz.prog 92 76 (.sl (.bytes code)) [.int .i64 c1.pos, .int .u64 c1.seed] [.int .i64 ((n5C code c1 Oz.length).pos), .int .u64 ((n5C code c1 Oz.length).seed)] [.agg [.sl (.ints Oz), .sl (.rows Dz)]] (.one (.d (.int .i64 (n5V code c1 Oz.length))))) ∧ (∃ O' : ZI, ∃ Ds' : ZR, ∃ kk' : Int, (J1I code O' Ds' kk') ∧ ((.agg [.sl (.ints Oz), .sl (.rows Dz)] : D) = .agg [.sl (.ints O'), .sl (.rows Ds')]) ∧ ((n5V code c1 Oz.length) = kk'))))
theorem J6R (code : List Nat) (hb : ∀ x9 ∈ code, x9 < 256) (w_code : (code.length : Int) ≤ 9223372036854775807) : J4i code := by
  unfold J4i
  refine ⟨?_, ?_⟩
  ·refine ⟨?_, ?_⟩
   ·refine J7z code JcV ?_ ?_
    ·exact hb
    ·exact J7 (by repeat (first | assumption | apply J0h | apply Jfh | apply Jf | apply Jy | exact J3m)) (by omega)
   ·intro Or2 Dr2 cmr2 hQ9
    obtain ⟨f1r2, f2r2, f3r2⟩ := hQ9
    refine ⟨rfl, ?_⟩
    ·refine ⟨cmr2, Or2, Dr2, ?_⟩
     refine ⟨?_, rfl, rfl, rfl, rfl, rfl⟩
     ·unfold J0p
      exact J7 (by repeat (first | assumption | apply J0h | apply Jfh | apply Jf | apply Jy | exact J3m)) (by omega)
  intro c1 Oz Dz hJ
  have q1 := hJ
  refine ⟨rfl, ?_, ?_⟩
  ·refine J8c code c1 Oz Dz ?_ ?_
   ·exact hb
   ·exact J7 (by repeat (first | assumption | apply J0h | apply Jfh | apply Jf | apply Jy | exact J3m)) (by omega)
  refine ⟨Oz, Dz, (n5V code c1 Oz.length), ?_⟩
  refine ⟨?_, rfl, rfl⟩
  ·trivial
theorem J6X (code : List Nat) (hb : ∀ x9 ∈ code, x9 < 256) : PE Tryz.prog 10 [.sl (.bytes code)] (J1L code) :=
  pe_wf @Tryz.call10 fun hw => pe_by (by kernel_rfl) Tryz.func10 @Tryz.call10 (by kernel_rfl) J7j (J7h code) (by kernel_rfl) (J6R code hb hw.1) (by kernel_rfl)
def dst (D : ZR) (c a : Int) : Int := (D.getD c.toNat []).getD a.toNat 0
theorem Jgy {n : Nat} {D : ZR} (h : Jt n D = true) {i j a b : Nat} (hi : i < D.length) (hj : j < D.length) (ha : a < n) (hb : b < n) : (D.getD i []).getD a 0 ≤ (D.getD i []).getD b 0 + (D.getD j []).getD b 0 + (D.getD j []).getD a 0 := by
  have h1 : allTo (J74 n D i) D.length = true := allTo_iff.1 h i hi
  have h2 : allTo (J8f n D i j) n = true := allTo_iff.1 h1 j hj
  have h3 : allTo (fun b => !J1q D i j a b) n = true := allTo_iff.1 h2 a ha
  have h4 := allTo_iff.1 h3 b hb
  unfold J1q at h4
  simp only [Bool.not_eq_true', decide_eq_false_iff_not] at h4
  omega
theorem Jef {n : Nat} {D : ZR} (h : Jt n D = true) {i j a b : Int} (hi : 0 ≤ i ∧ i < (D.length : Int)) (hj : 0 ≤ j ∧ j < (D.length : Int)) (ha : 0 ≤ a ∧ a < (n : Int)) (hb : 0 ≤ b ∧ b < (n : Int)) : dst D i a ≤ dst D i b + dst D j b + dst D j a :=
  Jgy h (by omega) (by omega) (by omega) (by omega)
theorem Jdt {D : ZR} {S L : ZI} {r : Int} (hS : 0 < S.length) (h0 : 0 ≤ r) (hr : J5 D S ≤ r) (hL : ∀ x ∈ L, 0 ≤ x ∧ x < (D.length : Int))
    (hp : ∀ p q, p < q → q < L.length → ∀ a, a ∈ S → dst D (L.getD p 0) a ≤ r → dst D (L.getD q 0) a ≤ r → False) : L.length ≤ S.length := by
  have hre := (Ja8 h0).1 hr
  have hsv : ∀ x ∈ L, Jh (D.getD x.toNat []) S S.length ∈ S ∧ dst D x (Jh (D.getD x.toNat []) S S.length) ≤ r := fun x hx =>
    ⟨J6K hS S.length (Nat.le_refl _), hre x.toNat (by have := hL x hx; omega)⟩
  have hnd : (L.map fun x => Jh (D.getD x.toNat []) S S.length).Nodup := by
    refine List.pairwise_iff_getElem.2 fun p q hp1 hq1 hpq e => ?_
    simp only [List.length_map] at hp1 hq1
    simp only [List.getElem_map] at e
    have h1 := hsv _ (List.getElem_mem hp1)
    have h2 := hsv _ (List.getElem_mem hq1)
    rw [← e] at h2
    refine hp p q hpq hq1 _ h1.1 ?_ ?_
    · rw [Ja hp1]; exact h1.2
    rw [Ja hq1]; exact h2.2
  have hl := List.Nodup.length_le_of_subset hnd (fun y hy => by
    obtain ⟨x, hx, rfl⟩ := List.mem_map.1 hy
    exact (hsv x hx).1 : ∀ y ∈ _, y ∈ S)
  rwa [List.length_map] at hl
theorem Jem {n : Nat} {s : ZI} (h : J2 s 0 ((n : Int) - 1) = true) (hp : 0 < s.length) : s ∈ J6 n := by
  have h1 := JaI h
  unfold chs at h1
  rcases List.mem_append.1 h1 with h1 | h1
  · rw [List.mem_singleton] at h1; subst h1; simp at hp
  exact h1
theorem Jgq {U : ZI} {s : ZI} {k : Int} (h : J2 s 0 ((U.length : Int) - 1) = true) (hp : 0 < s.length) (hk : (s.length : Int) ≤ k) : s ∈ upS U k :=
  List.mem_filter.2 ⟨by rw [Int.toNat_natCast]; exact Jem h hp, by simpa using hk⟩
theorem JgJ {U : ZI} {s : ZI} {k : Int} (h : s ∈ upS U k) : (s.length : Int) ≤ k := by
  have := (List.mem_filter.1 h).2
  simpa using this
theorem J7c {U : ZI} {D : ZR} (hg : J0 U D = true) {cl : ZI} (hc : ∀ c ∈ cl, 0 ≤ c ∧ c < (D.length : Int)) :
    J2 (Jn D cl) 0 ((U.length : Int) - 1) = true ∧ 0 < (Jn D cl).length ∧ (Jn D cl).length ≤ max 1 cl.length ∧
    ∀ c ∈ cl, ∃ a, a ∈ Jn D cl ∧ 0 ≤ a ∧ a < (U.length : Int) ∧ ∀ b : Int, 0 ≤ b ∧ b < (U.length : Int) → dst D c a ≤ dst D c b := by
  obtain ⟨g1, g2, g3⟩ := Jb hg
  unfold Jn
  split
  · rename_i h0
    have : cl = [] := List.eq_nil_of_length_eq_zero h0
    subst this
    refine ⟨J62 (List.pairwise_singleton _ _) (fun x hx => by rw [List.mem_singleton] at hx; omega), by simp, by simp, fun c h => by cases h⟩
  rename_i h0
  have hmem : ∀ c ∈ cl, J0l (D.getD c.toNat []) ∈ J2b D cl cl.length := fun c h => by
    obtain ⟨j, hj, rfl⟩ := List.mem_iff_getElem.1 h
    exact (J5K _).2 ⟨j, hj, by rw [Ja hj]⟩
  refine ⟨J62 (J9K _) (fun x hx => ?_), ?_, ?_, fun c h => ?_⟩
  · obtain ⟨j, hj, rfl⟩ := (J5K _).1 hx
    have := JV hg (hc _ (getD_mem (d := 0) hj))
    omega
  · exact List.length_pos_of_mem (hmem _ (getD_mem (d := 0) (show 0 < cl.length by omega)))
  · have := J9j (E := D) (clients := cl) cl.length
    omega
  have h1 := JV hg (hc c h)
  obtain ⟨rl, _⟩ := Je (i := c.toNat) hg (by have := hc c h; omega)
  have h2 := J6M (D.getD c.toNat []) (D.getD c.toNat []).length (by omega)
  exact ⟨_, hmem c h, h1.1, h1.2.1, fun b hb => h2.2.2.1 b.toNat (by omega)⟩
theorem Jgd {p : Nat → Bool} {n : Nat} (h : allTo p n = false) : ∃ k, k < n ∧ p k = false := by
  apply Classical.byContradiction
  intro hno
  rw [allTo_iff.2 fun k hk => by
    cases e : p k with
    | true => rfl
    | false => exact absurd ⟨k, hk, e⟩ hno] at h
  cases h
theorem Jd8 {n : Nat} {D : ZR} {i j r : Int} : J0q n D i j r = false ↔ ∃ a : Nat, a < n ∧ dst D i a ≤ r ∧ dst D j a ≤ r := by
  constructor
  · intro h
    obtain ⟨a, ha, h1⟩ := Jgd h
    refine ⟨a, ha, ?_⟩
    unfold J2z at h1
    simpa [dst] using h1
  rintro ⟨a, ha, h1, h2⟩
  refine allTo_false ha ?_
  unfold J2z
  simp only [dst, Int.toNat_natCast] at h1 h2
  rw [decide_eq_true h1, decide_eq_true h2]; rfl
theorem J9I {n : Nat} {D : ZR} {L : ZI} {r : Int} (hn : L.Nodup) : J0w n D L r = true ↔ ∀ x y, x ∈ L → y ∈ L → x ≠ y → J0q n D x y r = true := by
  unfold J0w
  constructor
  · intro h x y hx hy hne
    obtain ⟨i, hi, rfl⟩ := List.mem_iff_getElem.1 hx
    obtain ⟨j, hj, rfl⟩ := List.mem_iff_getElem.1 hy
    rcases Nat.lt_trichotomy i j with hij | hij | hij
    · have h1 := allTo_iff.1 (allTo_iff.1 h j hj) i hij
      rw [Jap, Ja hi, Ja hj] at h1
      exact h1
    · subst hij; exact absurd rfl hne
    have h1 := allTo_iff.1 (allTo_iff.1 h i hi) j hij
    rw [Ja hi, Ja hj] at h1
    exact h1
  intro h
  refine allTo_iff.2 fun i hi => allTo_iff.2 fun k hk => ?_
  refine h _ _ (getD_mem hi) (getD_mem (by omega)) fun e => ?_
  rw [Ja hi, Ja (show k < L.length by omega)] at e
  exact List.pairwise_iff_getElem.1 hn k i (by omega) hi hk e.symm
theorem JcH {n : Nat} {D : ZR} {r : Int} : ∀ k, J0w n D (J0i n D r k) r = true ∧ (∃ c, J0i n D r k = lst D.length c) ∧ ∀ c, c < k → J0w n D (lst D.length c) r = true → (lst D.length c).length ≤ (J0i n D r k).length
  | 0 => ⟨rfl, ⟨0, (JcZ _).symm⟩, fun c hc => by omega⟩
  | k + 1 => by
    obtain ⟨h1, h2, h3⟩ := JcH (n := n) (D := D) (r := r) k
    rw [J4R]
    unfold lfF
    split
    · rename_i h
      rw [Bool.and_eq_true, Bool.or_eq_true, Bool.and_eq_true, decide_eq_true_eq, decide_eq_true_eq] at h
      refine ⟨h.2, ⟨k, rfl⟩, fun c hc hf => ?_⟩
      by_cases e : c = k
      · subst e; exact Nat.le_refl _
      have := h3 c (by omega) hf
      omega
    rename_i h
    refine ⟨h1, h2, fun c hc hf => ?_⟩
    by_cases e : c = k
    · subst e
      rw [hf, Bool.and_true, Bool.or_eq_true, Bool.and_eq_true, decide_eq_true_eq, decide_eq_true_eq] at h
      omega
    exact h3 c (by omega) hf
theorem J60 {l : ZI} (h : Asc l) : l.Nodup := h.imp fun {a b} hab e => by omega
theorem J9H (n : Nat) (D : ZR) (r : Int) : J0w n D (J0i n D r (2 ^ D.length)) r = true ∧ Asc (J0i n D r (2 ^ D.length)) ∧ (∀ x ∈ J0i n D r (2 ^ D.length), 0 ≤ x ∧ x < (D.length : Int)) ∧
    ∀ s, J2 s 0 ((D.length : Int) - 1) = true → J0w n D s r = true → s.length ≤ (J0i n D r (2 ^ D.length)).length := by
  obtain ⟨h1, ⟨c, h2⟩, h3⟩ := JcH (n := n) (D := D) (r := r) (2 ^ D.length)
  refine ⟨h1, by rw [h2]; exact Jeq, fun x hx => by rw [h2] at hx; exact Ja6 x hx, fun s hs hf => ?_⟩
  obtain ⟨c2, k1, k2⟩ := Jel.1 (JaI hs)
  rw [← k2] at hf ⊢
  exact h3 c2 k1 hf
theorem Jgz {n : Nat} {D : ZR} {r : Int} {j : Int} (hj : 0 ≤ j ∧ j < (D.length : Int)) : ∃ c, c ∈ J0i n D r (2 ^ D.length) ∧ (j = c ∨ ∃ a : Nat, a < n ∧ dst D c a ≤ r ∧ dst D j a ≤ r) := by
  obtain ⟨h1, h2, h3, h4⟩ := J9H n D r
  generalize J0i n D r (2 ^ D.length) = F at h1 h2 h3 h4
  by_cases hm : j ∈ F
  · exact ⟨j, hm, .inl rfl⟩
  apply Classical.byContradiction
  intro hno
  have hap : ∀ c ∈ F, J0q n D c j r = true := fun c hc => by
    cases e : J0q n D c j r with
    | true => rfl
    | false => exact absurd ⟨c, hc, .inr (Jd8.1 e)⟩ hno
  have hfar : J0w n D (putL F j) r = true := (J9I (J60 (asc_putL h2))).2 fun x y hx hy hne => by
    rcases mem_putL.1 hx with hx1 | hx1
    · rcases mem_putL.1 hy with hy1 | hy1
      · exact absurd (hx1.trans hy1.symm) hne
      · rw [Jap, hx1]; exact hap y hy1
    rcases mem_putL.1 hy with hy1 | hy1
    · rw [hy1]; exact hap x hx1
    · exact (J9I (J60 h2)).1 h1 x y hx1 hy1 hne
  have hl := h4 (putL F j) (J62 (asc_putL h2) fun x hx => by
    rcases mem_putL.1 hx with hx | hx
    · omega
    have := h3 x hx; omega) hfar
  have hl2 := List.Nodup.length_le_of_subset (List.nodup_cons.2 ⟨hm, J60 h2⟩) (fun y hy => by
    rcases List.mem_cons.1 hy with hy | hy
    · exact mem_putL.2 (.inl hy)
    exact mem_putL.2 (.inr hy) : ∀ y ∈ j :: F, y ∈ putL F j)
  rw [List.length_cons] at hl2
  omega
theorem J6Y (D : ZR) (i j : Nat) : ∀ n, foldTo (J3R D i j) 199 n ≤ 199 ∧ (∀ a, a < n → foldTo (J3R D i j) 199 n ≤ (D.getD i []).getD a 0 + (D.getD j []).getD a 0) ∧
    (foldTo (J3R D i j) 199 n = 199 ∨ ∃ a, a < n ∧ foldTo (J3R D i j) 199 n = (D.getD i []).getD a 0 + (D.getD j []).getD a 0)
  | 0 => ⟨Int.le_refl _, fun a ha => by omega, .inl rfl⟩
  | n + 1 => by
    obtain ⟨h1, h2, h3⟩ := J6Y D i j n
    have e : foldTo (J3R D i j) 199 (n + 1) = min (foldTo (J3R D i j) 199 n) ((D.getD i []).getD n 0 + (D.getD j []).getD n 0) := rfl
    rw [e]
    refine ⟨by omega, fun a ha => ?_, ?_⟩
    · by_cases q : a = n
      · subst q; omega
      · have := h2 a (by omega); omega
    by_cases q : foldTo (J3R D i j) 199 n ≤ (D.getD i []).getD n 0 + (D.getD j []).getD n 0
    · rcases h3 with h3 | ⟨a, h3, h4⟩
      · left; omega
      · right; exact ⟨a, by omega, by omega⟩
    · right; exact ⟨n, by omega, by omega⟩
theorem JgK {U : ZI} {D : ZR} (hg : J0 U D = true) {i j a : Int} (hi : 0 ≤ i ∧ i < (D.length : Int)) (ha : 0 ≤ a ∧ a < (U.length : Int)) (hne : i ≠ j) : Jr D i j ≤ dst D i a + dst D j a := by
  unfold Jr
  rw [if_neg hne, (Je hg (i := i.toNat) (by omega)).1]
  exact (J6Y D i.toNat j.toNat U.length).2.1 a.toNat (by omega)
theorem JgF {U : ZI} {D : ZR} (hg : J0 U D = true) {i j : Int} (hi : 0 ≤ i ∧ i < (D.length : Int)) {x : Int} (hx : Jr D i j ≤ x) (h2 : x < 199) : i = j ∨ ∃ a : Int, 0 ≤ a ∧ a < (U.length : Int) ∧ dst D i a + dst D j a ≤ x := by
  by_cases hne : i = j
  · exact .inl hne
  right
  unfold Jr at hx
  rw [if_neg hne, (Je hg (i := i.toNat) (by omega)).1] at hx
  rcases (J6Y D i.toNat j.toNat U.length).2.2 with h | ⟨a, h1, h3⟩
  · omega
  exact ⟨a, by omega, by omega, by rw [h3] at hx; exact hx⟩
theorem J2Z (D : ZR) (c : Int) (out : ZI) : ∀ k, J0x D c out k ≤ 199 ∧ (∀ p, p < k → J0x D c out k ≤ Jr D c (out.getD p 0)) ∧ (J0x D c out k = 199 ∨ ∃ p, p < k ∧ J0x D c out k = Jr D c (out.getD p 0))
  | 0 => ⟨Int.le_refl _, fun a ha => by omega, .inl rfl⟩
  | n + 1 => by
    obtain ⟨h1, h2, h3⟩ := J2Z D c out n
    rw [J4A]
    refine ⟨by omega, fun a ha => ?_, ?_⟩
    · by_cases q : a = n
      · subst q; omega
      · have := h2 a (by omega); omega
    by_cases q : J0x D c out n ≤ Jr D c (out.getD n 0)
    · rcases h3 with h3 | ⟨a, h3, h4⟩
      · left; omega
      · right; exact ⟨a, by omega, by omega⟩
    · right; exact ⟨n, by omega, by omega⟩
theorem J1z {α : Type} {l : List α} {x d : α} {i : Nat} (h : i < l.length) : (l ++ [x]).getD i d = l.getD i d := by
  simp [List.getD_eq_getElem?_getD, List.getElem?_append_left h]
theorem Jad {α : Type} {l : List α} {x d : α} : (l ++ [x]).getD l.length d = x := by
  simp [List.getD_eq_getElem?_getD]
theorem Jgl (D : ZR) (c : Int) (out : ZI) (x : Int) : JA D c (out ++ [x]) ≤ JA D c out := by
  obtain ⟨h1, h2, _⟩ := J2Z D c (out ++ [x]) (out ++ [x]).length
  obtain ⟨_, _, h3⟩ := J2Z D c out out.length
  unfold JA
  rcases h3 with h3 | ⟨p, h3, h4⟩
  · omega
  have h5 := h2 p (by simp; omega)
  rw [J1z h3] at h5
  omega
theorem Jbz {D : ZR} {out : ZI} : ∀ k i : Nat, i < k → out.contains (i : Int) = false → 0 ≤ Jk D out k ∧ JA D i out ≤ JA D (Jk D out k) out
  | k + 1, i, hi, hc => by
    rw [J00]
    unfold J3X
    by_cases e : i = k
    · subst e
      rw [hc]
      split
      · omega
      rename_i h
      simp only [Bool.not_false, Bool.true_and, Bool.or_eq_true, decide_eq_true_eq] at h
      omega
    obtain ⟨h1, h2⟩ := Jbz (D := D) k i (by omega) hc
    split
    · rename_i h
      rw [Bool.and_eq_true, Bool.or_eq_true, decide_eq_true_eq, decide_eq_true_eq] at h
      omega
    exact ⟨h1, h2⟩
/-- Of those that were taken each two are as far J0q as one that was not is from them. -/
def JeQ (D : ZR) (out : ZI) : Prop := ∀ j : Nat, j < D.length → out.contains (j : Int) = false → ∀ p q, p < q → q < out.length → JA D j out ≤ Jr D (out.getD q 0) (out.getD p 0)
theorem Jfq : ∀ (D : ZR) (n : Nat) (out : ZI), JeQ D out → JeQ D (Jm D n out)
  | _, 0, _, h => h
  | D, n + 1, out, h => Jfq D n _ fun j hj hc p q hpq hq => by
    have hc0 : out.contains (j : Int) = false := by
      cases e : out.contains (j : Int) with
      | false => rfl
      | true =>
        rw [show (out ++ [Jk D out D.length]).contains (j : Int) = true from List.contains_iff_mem.2 (List.mem_append.2 (.inl (List.contains_iff_mem.1 e)))] at hc
        cases hc
    have ha := Jgl D j out (Jk D out D.length)
    rw [List.length_append, List.length_singleton] at hq
    by_cases e : q = out.length
    · subst e
      rw [Jad, J1z hpq]
      have h1 := (Jbz (D := D) (out := out) D.length j hj hc0).2
      have h2 := (J2Z D (Jk D out D.length) out out.length).2.1 p hpq
      unfold JA at ha h1 ⊢
      omega
    rw [J1z (by omega), J1z (by omega)]
    have := h j hj hc0 p q hpq (by omega)
    omega
theorem Jgn {U : ZI} {D : ZR} (hg : J0 U D = true) {j a : Nat} (hj : j < D.length) (ha : a < U.length) : (D.getD j []).getD a 0 ∈ J3 D := by
  rw [J3, J66, List.mem_flatten]
  exact .inr ⟨_, getD_mem hj, getD_mem (by rw [(Je hg hj).1]; exact ha)⟩
theorem Jg4 (D : ZR) : Asc (J3 D) := J86 _ _ List.Pairwise.nil
theorem J93 {U : ZI} {D : ZR} (hg : J0 U D = true) {r : Int} : J8 D r = true ↔ ∀ j, j < D.length → ∃ a, a < U.length ∧ (D.getD j []).getD a 0 ≤ r := by
  obtain ⟨g1, g2, g3⟩ := Jb hg
  have hone : ∀ j, j < D.length → (decide (Jq (D.getD j []) ≤ r) = true ↔ ∃ a, a < U.length ∧ (D.getD j []).getD a 0 ≤ r) := fun j hj => by
    have hl := (Je hg hj).1
    obtain ⟨m1, i, m2, m3⟩ := J6P (D.getD j []) (D.getD j []).length (by omega)
    rw [decide_eq_true_eq]
    unfold Jq
    constructor
    · intro h; exact ⟨i, by omega, by omega⟩
    rintro ⟨a, ha, h⟩; have := m1 a (by omega); omega
  unfold J8
  rw [List.all_eq_true]
  constructor
  · intro h j hj
    exact (hone j hj).1 (h _ (getD_mem hj))
  intro h row hr
  obtain ⟨j, hj, rfl⟩ := List.mem_iff_getElem.1 hr
  have := (hone j hj).2 (h j hj)
  rwa [Ja hj] at this
theorem JfR {U : ZI} {D : ZR} {s : ZI} (ht : (J0 U D && J2 s 0 ((U.length : Int) - 1) && decide (0 < s.length)) = true) : 0 ≤ J5 D s ∧ J5 D s ≤ 99 := by
  obtain ⟨h1, h2, h3⟩ := J5w D s D.length
  unfold J5
  rcases h3 with h3 | ⟨j, hj, h3⟩
  · omega
  have := Jde ht hj; omega
theorem Jgt {U : ZI} {D : ZR} (hg : J0 U D = true) {r : Int} (hr : 0 ≤ r) {s : ZI} (hs : J2 s 0 ((U.length : Int) - 1) = true) (hp : 0 < s.length) (hle : J5 D s ≤ r) :
    JK U D r = true ∧ (J0a U D r).length ≤ s.length := by
  have hin : s ∈ J6 (U.length : Int).toNat := by rw [Int.toNat_natCast]; exact Jem hs hp
  obtain ⟨i, hi, hie⟩ := List.mem_iff_getElem.1 hin
  have hcov : JK U D r = true := by
    rw [JK, hg, decide_eq_true hr]
    unfold J6I
    rw [idx_any, List.any_eq_true.2 ⟨_, hin, decide_eq_true hle⟩]
    rfl
  have hci : 0 ≤ J6I U D r := by
    rw [JK, Bool.and_eq_true, decide_eq_true_eq] at hcov
    exact hcov.2
  have h9 := JbY (p := fun s => decide (J5 D s ≤ r)) (xs := J6 (U.length : Int).toNat) (d := []) (by unfold J6I at hci; exact hci) hi (by rw [Ja hi, hie]; exact decide_eq_true hle)
  refine ⟨hcov, ?_⟩
  rw [J0a, if_pos hcov]
  have h10 := JdW (n := (U.length : Int).toNat) (i := (J6I U D r).toNat) (j := i) (by unfold J6I; omega) hi
  rw [Ja (d := []) hi, hie] at h10
  exact h10
theorem Jgc {n : Nat} {x : Int} (h : 0 ≤ x ∧ x < (n : Int)) : x ∈ J51 n := by
  have := getD_mem (d := 0) (show x.toNat < (J51 n).length by rw [J5v]; omega)
  rw [J9t (by omega), Int.toNat_of_nonneg h.1] at this
  exact this
theorem J4U {U : ZI} {D : ZR} {k : Int} (hc : (J0 U D && inB k 1 (U.length : Int)) = true) :
    J0 U D = true ∧ (J0 U D && J2 (Jg U D k) 0 ((U.length : Int) - 1) && decide (0 < (Jg U D k).length)) = true ∧ ((Jg U D k).length : Int) ≤ k ∧ J5 D (Jg U D k) = J9 U D k ∧
    (J0 U D && J2 (fsL U D k) 0 ((U.length : Int) - 1) && decide (0 < (fsL U D k).length)) = true ∧ ((fsL U D k).length : Int) ≤ k ∧ (0 ≤ frL U D k ∧ frL U D k ≤ J9 U D k ∧ J9 U D k ≤ 99) ∧
    J9 U D k ≤ J5 D (fsL U D k) ∧ (0 < D.length → J9 U D k ∈ JI U D) ∧ (Jt U.length D = true → J9 U D k ≤ 3 * frL U D k ∧ J5 D (fsL U D k) ≤ 3 * J9 U D k) ∧
    JK U D (J9 U D k) = true ∧ ((J0a U D (J9 U D k)).length : Int) ≤ k ∧ J5 D (fsL U D k) ≤ 99 := by
  obtain ⟨hg, hk⟩ := (Bool.and_eq_true _ _ ▸ hc : _ ∧ _)
  have hk2 := Jx hk
  obtain ⟨g1, g2, g3⟩ := Jb hg
  have eC : Jg U D k = J0U U D k := by unfold Jg; rw [if_pos hc]
  have eR : J9 U D k = J5 D (J0U U D k) := by unfold J9; rw [if_pos hc]
  have eF : fsL U D k = Jn D (Jm D (min k.toNat D.length) []) := by unfold fsL; rw [if_pos hc]
  have eL : JI U D = J3 D := by unfold JI; rw [if_pos hg]
  have hCup : J0U U D k ∈ upS U k := Jar (J8m hk2)
  have hmin : ∀ s ∈ upS U k, J5 D (J0U U D k) ≤ J5 D s := fun s hs => JfP (v := J5 D) s hs
  rw [eC, eR, eF, eL]
  generalize J0U U D k = C at hCup hmin
  have hC2 := (J1H hg (J6r hCup)).1
  have hCk := JgJ hCup
  obtain ⟨_, hCr, hCp⟩ := J1h hC2
  have hR := JfR hC2
  have hRj := (Ja8 (E := D) (set := C) hR.1).1 (Int.le_refl _)
  have hnear : ∀ c : Int, 0 ≤ c ∧ c < (D.length : Int) → ∃ b, b ∈ C ∧ (0 ≤ b ∧ b < (U.length : Int)) ∧ dst D c b ≤ J5 D C := fun c hcr => by
    obtain ⟨b, hb, e⟩ := Jdc (D := D) hCp c.toNat
    have h1 := J4d hCr b hb
    have h2 := hRj c.toNat (by omega)
    exact ⟨b, hb, by omega, by rw [e] at h2; exact h2⟩
  have hT : ∀ c ∈ Jm D (min k.toNat D.length) [], 0 ≤ c ∧ c < (D.length : Int) := (J6N _ [] (J6H D) (by simp only [List.length_nil]; omega)).inR
  have hTl : (Jm D (min k.toNat D.length) []).length = min k.toNat D.length := by rw [J6b]; simp
  have hTg : JeQ D (Jm D (min k.toNat D.length) []) := Jfq D _ [] fun j hj hcj p q hpq hq => by simp at hq
  obtain ⟨s1, s2, s3, s4⟩ := J7c hg hT
  generalize Jm D (min k.toNat D.length) [] = T at hT hTl hTg s1 s2 s3 s4
  have hS2 : (J0 U D && J2 (Jn D T) 0 ((U.length : Int) - 1) && decide (0 < (Jn D T).length)) = true := by rw [hg, s1, decide_eq_true s2]; rfl
  have hSk : ((Jn D T).length : Int) ≤ k := by omega
  have hSR := JfR hS2
  have hcov := Jgt hg hR.1 hCr hCp (Int.le_refl _)
  have hmem : 0 < D.length → J5 D C ∈ J3 D := fun hD => by
    obtain ⟨h1, h2, h3⟩ := J5w D C D.length
    have hlm : ∀ j, j < D.length → J0D D C j ∈ J3 D := fun j hj => by
      obtain ⟨b, hb, e⟩ := Jdc (D := D) hCp j
      have h1 := J4d hCr b hb
      rw [e]
      exact Jgn hg hj (by omega)
    rcases h3 with h3 | ⟨j, hj, h3⟩
    · have h4 := h2 0 hD
      have h5 := (Jde hC2 hD).1
      have e : J5 D C = J0D D C 0 := by unfold J5; omega
      rw [e]; exact hlm 0 hD
    unfold J5; rw [h3]; exact hlm j hj
  have hlow : 0 ≤ frL U D k ∧ frL U D k ≤ J5 D C ∧ (0 < D.length → frP U D k (frL U D k) = true) := by
    by_cases hD : D.length = 0
    · have : D = [] := List.eq_nil_of_length_eq_zero hD
      subst this
      have e : frL U [] k = 0 := JaQ rfl
      rw [e]
      exact ⟨Int.le_refl _, hR.1, fun h => by simp at h⟩
    have hD : 0 < D.length := by omega
    have hp : frP U D k (J5 D C) = true := by
      unfold frP
      rw [Bool.and_eq_true, decide_eq_true_eq]
      refine ⟨(J93 hg).2 fun j hj => ?_, ?_⟩
      · obtain ⟨b, hb, h1, h2⟩ := hnear j (by omega)
        exact ⟨b.toNat, by omega, h2⟩
      obtain ⟨f1, f2, f3, f4⟩ := J9H U.length D (J5 D C)
      generalize J0i U.length D (J5 D C) (2 ^ D.length) = F at f1 f2 f3 f4
      have := Jdt hCp hR.1 (Int.le_refl _) f3 fun p q hpq hq a ha h1 h2 => by
        have h3 := J4d hCr a ha
        have hne : F.getD p 0 ≠ F.getD q 0 := fun e => by have := JfK f2 p q hpq hq; omega
        have h4 := (J9I (J60 f2)).1 f1 _ _ (getD_mem (d := 0) (show p < F.length by omega)) (getD_mem (d := 0) hq) hne
        rw [Jd8.2 ⟨a.toNat, by omega, by rw [Int.toNat_of_nonneg h3.1]; exact ⟨h1, h2⟩⟩] at h4
        cases h4
      omega
    obtain ⟨i, hi, hie⟩ := List.mem_iff_getElem.1 (hmem hD)
    have hia : decide (idxI (frP U D k) (J3 D) ≥ 0) = true := by rw [idx_any, List.any_eq_true]; exact ⟨_, hmem hD, hp⟩
    have h0 := of_decide_eq_true hia
    have h9 := JbY (p := frP U D k) (xs := J3 D) (d := 0) h0 hi (by rw [Ja hi, hie]; exact hp)
    have e : frL U D k = (J3 D).getD (idxI (frP U D k) (J3 D)).toNat 0 := Jdj hc h0 rfl
    rw [e]
    refine ⟨(JgA hg _ (getD_mem (by omega))).1, ?_, fun _ => h9.2⟩
    rw [← hie, ← Ja (d := 0) hi]
    by_cases q : (idxI (frP U D k) (J3 D)).toNat = i
    · rw [q]; exact Int.le_refl _
    exact Int.le_of_lt (JfK (Jg4 D) _ _ (by omega) hi)
  refine ⟨hg, hC2, hCk, rfl, hS2, hSk, ⟨hlow.1, hlow.2.1, hR.2⟩, hmin _ (Jgq s1 s2 hSk), hmem, fun hm => ⟨?_, ?_⟩, hcov.1, by omega, hSR.2⟩
  · obtain ⟨l1, l2, l3⟩ := hlow
    generalize frL U D k = low at l1 l2 l3
    by_cases hD : D.length = 0
    · have e : J5 D C = 0 := by unfold J5; rw [hD]; rfl
      omega
    have hp := l3 (by omega)
    unfold frP at hp
    rw [Bool.and_eq_true, decide_eq_true_eq, J93 hg] at hp
    have hln := fun (j : Nat) (hj : j < D.length) => Jgz (n := U.length) (D := D) (r := low) (j := (j : Int)) (by omega)
    obtain ⟨f1, f2, f3, f4⟩ := J9H U.length D low
    generalize J0i U.length D low (2 ^ D.length) = F at hp hln f1 f2 f3 f4
    obtain ⟨t1, t2, t3, t4⟩ := J7c hg f3
    refine Int.le_trans (hmin _ (Jgq t1 t2 (by omega))) ((Ja8 (by omega)).2 fun j hj => ?_)
    obtain ⟨c, hcF, hcj⟩ := hln j hj
    have hcr := f3 c hcF
    obtain ⟨s, u1, u2, u3, u4⟩ := t4 c hcF
    obtain ⟨b, v1, v2⟩ := hp.1 c.toNat (by omega)
    have hcs : dst D c s ≤ low := Int.le_trans (u4 b (by omega)) v2
    have hle : J0D D (Jn D F) j ≤ dst D j s := J9O u1 j
    rcases hcj with e | ⟨a, w1, w2, w3⟩
    · rw [e] at hle; omega
    have := Jef hm (i := (j : Int)) (j := c) (a := s) (b := (a : Int)) (by omega) hcr ⟨u2, u3⟩ (by omega)
    omega
  refine (Ja8 (by omega)).2 fun j hj => ?_
  have hjr : (0 : Int) ≤ j ∧ (j : Int) < (D.length : Int) := by omega
  have hsite : ∀ t ∈ T, ∃ s, s ∈ Jn D T ∧ (0 ≤ s ∧ s < (U.length : Int)) ∧ dst D t s ≤ J5 D C := fun t ht => by
    obtain ⟨s, u1, u2, u3, u4⟩ := s4 t ht
    obtain ⟨b, v1, v2, v3⟩ := hnear t (hT t ht)
    exact ⟨s, u1, ⟨u2, u3⟩, Int.le_trans (u4 b v2) v3⟩
  by_cases hjT : (j : Int) ∈ T
  · obtain ⟨s, u1, u2, u3⟩ := hsite _ hjT
    have hle : J0D D (Jn D T) j ≤ dst D j s := J9O u1 j
    omega
  obtain ⟨a1, a2, a3⟩ := J2Z D j T T.length
  by_cases hbig : J0x D j T T.length ≤ 2 * J5 D C
  · rcases a3 with a3 | ⟨p, a3, a4⟩
    · omega
    · have ht := getD_mem (d := 0) a3
      obtain ⟨s, u1, u2, u3⟩ := hsite _ ht
      have hle : J0D D (Jn D T) j ≤ dst D j s := J9O u1 j
      rcases JgF hg hjr (by rw [← a4]; exact hbig) (by omega) with e | ⟨a, w1, w2, w3⟩
      · rw [← e] at ht; exact absurd ht hjT
      have := Jef hm (i := (j : Int)) (j := T.getD p 0) (a := s) (b := a) hjr (hT _ ht) u2 ⟨w1, w2⟩
      omega
  exfalso
  have hgap : ∀ p q, p < q → q < (T ++ [(j : Int)]).length → 2 * J5 D C < Jr D ((T ++ [(j : Int)]).getD q 0) ((T ++ [(j : Int)]).getD p 0) := fun p q hpq hq => by
    rw [List.length_append, List.length_singleton] at hq
    by_cases e : q = T.length
    · subst e
      rw [Jad, J1z hpq]
      have := a2 p hpq
      omega
    rw [J1z (by omega), J1z (by omega)]
    have hno : T.contains (j : Int) = false := by
      cases e2 : T.contains (j : Int) with
      | false => rfl
      | true => exact absurd (List.contains_iff_mem.1 e2) hjT
    have := hTg j hj hno p q hpq (by omega)
    unfold JA at this
    omega
  have hin : ∀ x ∈ T ++ [(j : Int)], 0 ≤ x ∧ x < (D.length : Int) := fun x hx => by
    rcases List.mem_append.1 hx with hx | hx
    · exact hT x hx
    rw [List.mem_singleton.1 hx]; exact hjr
  have hne : ∀ p q, p < q → q < (T ++ [(j : Int)]).length → (T ++ [(j : Int)]).getD q 0 ≠ (T ++ [(j : Int)]).getD p 0 := fun p q hpq hq e => by
    have := hgap p q hpq hq
    rw [e] at this
    unfold Jr at this
    rw [if_pos rfl] at this
    omega
  have h1 := Jdt hCp hR.1 (Int.le_refl _) hin fun p q hpq hq a ha h1 h2 => by
    have h3 := J4d hCr a ha
    have h4 := JgK hg (hin _ (getD_mem (d := 0) hq)) (a := a) (by omega) (hne p q hpq hq)
    have := hgap p q hpq hq
    omega
  have h2 := List.Nodup.length_le_of_subset (l₂ := J51 D.length) (List.pairwise_iff_getElem.2 fun p q hp hq hpq e => by
    have := hne p q hpq hq
    rw [Ja hp, Ja hq] at this
    exact this e.symm) fun x hx => Jgc (hin x hx)
  rw [J5v] at h2
  rw [List.length_append, List.length_singleton] at h1 h2
  omega
abbrev l_FnCentres_JR3 (code : List Nat) (kk : Int) (Oz : ZI) (Dz : ZR) : Prop := True
def l_FnCentres_C (f : FuncId) (ds : List D) : Orc := bif Nat.beq f 9 then JeP ds else bif Nat.beq f 11 then J5b ds else bif Nat.beq f 12 then J8u ds else bif Nat.beq f 13 then J8E ds else bif Nat.beq f 14 then J8G ds else bif Nat.beq f 15 then Jb4 ds else bif Nat.beq f 16 then Jb3 ds else bif Nat.beq f 17 then J6A ds else bif Nat.beq f 18 then J6D ds else bif Nat.beq f 19 then J7n ds else bif Nat.beq f 20 then J7q ds else bif Nat.beq f 21 then Jav ds else bif Nat.beq f 22 then Jae ds else bif Nat.beq f 23 then Jdz ds else bif Nat.beq f 24 then JcC ds else bif Nat.beq f 25 then Jbv ds else bif Nat.beq f 26 then Jfk ds else bif Nat.beq f 27 then J7u ds else .no
def l_FnCentres_A (code : List Nat) : Ann := .two (.none) (.two (.none) (.cut (.exr (.ex [] 1 (J1L code) (fun g => (fun (Or3 : ZI) (Dsr3 : ZR) (kkr3 : Int) => .ms [] []) (g.1) (g.2.1) (g.2.2)))) (cut3 (fun (kk : Int) (Oz : ZI) (Dz : ZR) => l_FnCentres_JR3 code kk Oz Dz) (fun (kk : Int) (Oz : ZI) (Dz : ZR) => [(3, .ptr 3 0), (4, .d true (.int .i64 kk))]) (fun (kk : Int) (Oz : ZI) (Dz : ZR) => [(3, .box 27 [.d true (.sl (.ints Oz)), .d true (.sl (.rows Dz))])])) (fun _ => .none)))
def l_FnCentres_e6 (kk : Int) (Oz : ZI) (Dz : ZR) : Bool := (cond ((if (J0 Oz Dz && J2 (Jg Oz Dz kk) 0 ((Oz.length : Int) - 1) && decide (0 < (Jg Oz Dz kk).length)) = true then J5 Dz (Jg Oz Dz kk) else 0) != (J9 Oz Dz kk)) true (decide ((((Jg Oz Dz kk).length) : Int) > kk)))
def l_FnCentres_e7 (kk : Int) (Oz : ZI) (Dz : ZR) : Bool := (cond ((J0 Oz Dz && inB kk 1 (Oz.length : Int)) != (J0 Oz Dz && inB kk 1 (Oz.length : Int))) true (!((Jg Oz Dz kk) == (Jg Oz Dz kk))))
def l_FnCentres_e4 (kk : Int) (Oz : ZI) (Dz : ZR) : Bool := (cond (cond (l_FnCentres_e7 kk Oz Dz) true ((J9 Oz Dz kk) != (J9 Oz Dz kk))) true ((J0 Oz Dz && inB kk 1 (Oz.length : Int)) != (J0 Oz Dz && inB kk 1 (Oz.length : Int))))
def l_FnCentres_e9 (kk : Int) (Oz : ZI) (Dz : ZR) : Bool := (cond (cond (l_FnCentres_e4 kk Oz Dz) true ((frL Oz Dz kk) != (frL Oz Dz kk))) true ((J0 Oz Dz && inB kk 1 (Oz.length : Int)) != (J0 Oz Dz && inB kk 1 (Oz.length : Int))))
def l_FnCentres_e1 (kk : Int) (Oz : ZI) (Dz : ZR) : Bool := (cond (l_FnCentres_e9 kk Oz Dz) true ((J0 Oz Dz && inB kk 1 (Oz.length : Int)) != (J0 Oz Dz && inB kk 1 (Oz.length : Int))))
def l_FnCentres_e5 (kk : Int) (Oz : ZI) (Dz : ZR) : Bool := (cond (cond (l_FnCentres_e1 kk Oz Dz) true (!((fcL Oz Dz kk) == (fcL Oz Dz kk)))) true ((J0 Oz Dz && inB kk 1 (Oz.length : Int)) != (J0 Oz Dz && inB kk 1 (Oz.length : Int))))
def l_FnCentres_e8 (kk : Int) (Oz : ZI) (Dz : ZR) : Bool := (cond (cond (l_FnCentres_e5 kk Oz Dz) true (!((fsL Oz Dz kk) == (fsL Oz Dz kk)))) true ((J0 Oz Dz) != (J0 Oz Dz)))
def l_FnCentres_e10 (kk : Int) (Oz : ZI) (Dz : ZR) : Bool := (cond (l_FnCentres_e6 kk Oz Dz) true (decide ((((fsL Oz Dz kk).length) : Int) > kk)))
def l_FnCentres_e2 (kk : Int) (Oz : ZI) (Dz : ZR) : Bool := (cond (l_FnCentres_e10 kk Oz Dz) true (decide ((frL Oz Dz kk) > (J9 Oz Dz kk))))
def l_FnCentres_e3 (kk : Int) (Oz : ZI) (Dz : ZR) : Bool := (cond (l_FnCentres_e2 kk Oz Dz) true (cond (decide ((if (J0 Oz Dz && J2 (fsL Oz Dz kk) 0 ((Oz.length : Int) - 1) && decide (0 < (fsL Oz Dz kk).length)) = true then J5 Dz (fsL Oz Dz kk) else 0) < (J9 Oz Dz kk))) (decide ((((fsL Oz Dz kk).length) : Int) ≤ kk)) false))
def l_FnCentres_e11 (kk : Int) (Oz : ZI) (Dz : ZR) : Bool := (cond (J0 Oz Dz && Jt Oz.length Dz) (cond (decide ((J9 Oz Dz kk) > (3 * (frL Oz Dz kk)))) true (decide ((if (J0 Oz Dz && J2 (fsL Oz Dz kk) 0 ((Oz.length : Int) - 1) && decide (0 < (fsL Oz Dz kk).length)) = true then J5 Dz (fsL Oz Dz kk) else 0) > (3 * (J9 Oz Dz kk))))) false)
set_option maxRecDepth 100000 in
def l_FnCentres_P (code : List Nat) : Prop :=
  (PC Tryz.prog 9 [.sl (.bytes code)] (.one (.d (.bool (decide ((code.length : Int) > 65536)))))) ∧ (((decide ((code.length : Int) > 65536)) = true → ((true = true))) ∧ ((decide ((code.length : Int) > 65536)) = false → (((PE Tryz.prog 10 [.sl (.bytes code)] (J1L code)) ∧ (∀ Or3 : ZI, ∀ Dsr3 : ZR, ∀ kkr3 : Int, J1I code Or3 Dsr3 kkr3 → ((true = true) ∧ (∃ kk' : Int, ∃ Oz' : ZI, ∃ Dz' : ZR, (l_FnCentres_JR3 code kk' Oz' Dz') ∧ (kkr3 = kk') ∧ (Or3 = Oz') ∧ (Dsr3 = Dz'))))) ∧ (∀ kk : Int, ∀ Oz : ZI, ∀ Dz : ZR, (l_FnCentres_JR3 code kk Oz Dz) → (PC Tryz.prog 11 [.agg [.sl (.ints Oz), .sl (.rows Dz)], .int .i64 kk] (.tup [.d (.sl (.ints (Jg Oz Dz kk))), .d (.bool (J0 Oz Dz && inB kk 1 (Oz.length : Int)))])) ∧ (PC Tryz.prog 12 [.agg [.sl (.ints Oz), .sl (.rows Dz)], .int .i64 kk] (.tup [.own 3 (.ints (Jg Oz Dz kk)), .d (.bool (J0 Oz Dz && inB kk 1 (Oz.length : Int)))])) ∧ (PC Tryz.prog 13 [.agg [.sl (.ints Oz), .sl (.rows Dz)], .int .i64 kk] (.tup [.d (.int .i64 (J9 Oz Dz kk)), .d (.bool (J0 Oz Dz && inB kk 1 (Oz.length : Int)))])) ∧ (PC Tryz.prog 14 [.agg [.sl (.ints Oz), .sl (.rows Dz)], .int .i64 kk] (.tup [.d (.int .i64 (J9 Oz Dz kk)), .d (.bool (J0 Oz Dz && inB kk 1 (Oz.length : Int)))])) ∧ (PC Tryz.prog 15 [.agg [.sl (.ints Oz), .sl (.rows Dz)], .int .i64 kk] (.tup [.d (.int .i64 (frL Oz Dz kk)), .d (.bool (J0 Oz Dz && inB kk 1 (Oz.length : Int)))])) ∧ (PC Tryz.prog 16 [.agg [.sl (.ints Oz), .sl (.rows Dz)], .int .i64 kk] (.tup [.d (.int .i64 (frL Oz Dz kk)), .d (.bool (J0 Oz Dz && inB kk 1 (Oz.length : Int)))])) ∧ (PC Tryz.prog 17 [.agg [.sl (.ints Oz), .sl (.rows Dz)], .int .i64 kk] (.tup [.own 3 (.ints (fcL Oz Dz kk)), .d (.bool (J0 Oz Dz && inB kk 1 (Oz.length : Int)))])) ∧ (PC Tryz.prog 18 [.agg [.sl (.ints Oz), .sl (.rows Dz)], .int .i64 kk] (.tup [.d (.sl (.ints (fcL Oz Dz kk))), .d (.bool (J0 Oz Dz && inB kk 1 (Oz.length : Int)))])) ∧ (PC Tryz.prog 19 [.agg [.sl (.ints Oz), .sl (.rows Dz)], .int .i64 kk] (.tup [.own 3 (.ints (fsL Oz Dz kk)), .d (.bool (J0 Oz Dz && inB kk 1 (Oz.length : Int)))])) ∧ (PC Tryz.prog 20 [.agg [.sl (.ints Oz), .sl (.rows Dz)], .int .i64 kk] (.tup [.d (.sl (.ints (fsL Oz Dz kk))), .d (.bool (J0 Oz Dz && inB kk 1 (Oz.length : Int)))])) ∧ (PC Tryz.prog 21 [.agg [.sl (.ints Oz), .sl (.rows Dz)]] (.tup [.own 3 (.ints (JI Oz Dz)), .d (.bool (J0 Oz Dz))])) ∧ (PC Tryz.prog 22 [.agg [.sl (.ints Oz), .sl (.rows Dz)]] (.tup [.d (.sl (.ints (JI Oz Dz))), .d (.bool (J0 Oz Dz))])) ∧ ((!((J0 Oz Dz && inB kk 1 (Oz.length : Int)) != (J0 Oz Dz && inB kk 1 (Oz.length : Int)))) = true → (!((J0 Oz Dz && inB kk 1 (Oz.length : Int)) != (J0 Oz Dz && inB kk 1 (Oz.length : Int)))) = true) ∧ ((!((J0 Oz Dz && inB kk 1 (Oz.length : Int)) != (J0 Oz Dz && inB kk 1 (Oz.length : Int)))) = true → (!((J0 Oz Dz && inB kk 1 (Oz.length : Int)) != (J0 Oz Dz && inB kk 1 (Oz.length : Int)))) = true) ∧ (((!((J0 Oz Dz && inB kk 1 (Oz.length : Int)) != (J0 Oz Dz && inB kk 1 (Oz.length : Int)))) = true → (Jg Oz Dz kk).length = (Jg Oz Dz kk).length)) ∧ ((!((J0 Oz Dz && inB kk 1 (Oz.length : Int)) != (J0 Oz Dz && inB kk 1 (Oz.length : Int)))) = true → PC Tryz.prog 23 [.sl (.ints (Jg Oz Dz kk)), .sl (.ints (Jg Oz Dz kk))] (.one (.d (.bool ((Jg Oz Dz kk) == (Jg Oz Dz kk)))))) ∧ ((!((J0 Oz Dz && inB kk 1 (Oz.length : Int)) != (J0 Oz Dz && inB kk 1 (Oz.length : Int)))) = true → (!((J0 Oz Dz && inB kk 1 (Oz.length : Int)) != (J0 Oz Dz && inB kk 1 (Oz.length : Int)))) = true) ∧ (true = true) ∧ ((((J0 Oz Dz && inB kk 1 (Oz.length : Int)) != (J0 Oz Dz && inB kk 1 (Oz.length : Int))) = true → true = true)) ∧ ((((J0 Oz Dz && inB kk 1 (Oz.length : Int)) != (J0 Oz Dz && inB kk 1 (Oz.length : Int))) = false → (!((J0 Oz Dz && inB kk 1 (Oz.length : Int)) != (J0 Oz Dz && inB kk 1 (Oz.length : Int)))) = true)) ∧ ((!(l_FnCentres_e7 kk Oz Dz)) = true → (!(l_FnCentres_e7 kk Oz Dz)) = true) ∧ ((!(l_FnCentres_e7 kk Oz Dz)) = true → (!(l_FnCentres_e7 kk Oz Dz)) = true) ∧ (true = true) ∧ (((l_FnCentres_e7 kk Oz Dz) = true → true = true)) ∧ (((l_FnCentres_e7 kk Oz Dz) = false → (!(l_FnCentres_e7 kk Oz Dz)) = true)) ∧ ((!(cond (l_FnCentres_e7 kk Oz Dz) true ((J9 Oz Dz kk) != (J9 Oz Dz kk)))) = true → (!(cond (l_FnCentres_e7 kk Oz Dz) true ((J9 Oz Dz kk) != (J9 Oz Dz kk)))) = true) ∧ ((!(cond (l_FnCentres_e7 kk Oz Dz) true ((J9 Oz Dz kk) != (J9 Oz Dz kk)))) = true → (!(cond (l_FnCentres_e7 kk Oz Dz) true ((J9 Oz Dz kk) != (J9 Oz Dz kk)))) = true) ∧ (true = true) ∧ (((cond (l_FnCentres_e7 kk Oz Dz) true ((J9 Oz Dz kk) != (J9 Oz Dz kk))) = true → true = true)) ∧ (((cond (l_FnCentres_e7 kk Oz Dz) true ((J9 Oz Dz kk) != (J9 Oz Dz kk))) = false → (!(cond (l_FnCentres_e7 kk Oz Dz) true ((J9 Oz Dz kk) != (J9 Oz Dz kk)))) = true)) ∧ ((!(l_FnCentres_e4 kk Oz Dz)) = true → (!(l_FnCentres_e4 kk Oz Dz)) = true) ∧ ((!(l_FnCentres_e4 kk Oz Dz)) = true → (!(l_FnCentres_e4 kk Oz Dz)) = true) ∧ (true = true) ∧ (((l_FnCentres_e4 kk Oz Dz) = true → true = true)) ∧ (((l_FnCentres_e4 kk Oz Dz) = false → (!(l_FnCentres_e4 kk Oz Dz)) = true)) ∧ ((!(cond (l_FnCentres_e4 kk Oz Dz) true ((frL Oz Dz kk) != (frL Oz Dz kk)))) = true → (!(cond (l_FnCentres_e4 kk Oz Dz) true ((frL Oz Dz kk) != (frL Oz Dz kk)))) = true) ∧ ((!(cond (l_FnCentres_e4 kk Oz Dz) true ((frL Oz Dz kk) != (frL Oz Dz kk)))) = true → (!(cond (l_FnCentres_e4 kk Oz Dz) true ((frL Oz Dz kk) != (frL Oz Dz kk)))) = true) ∧ (true = true) ∧ (((cond (l_FnCentres_e4 kk Oz Dz) true ((frL Oz Dz kk) != (frL Oz Dz kk))) = true → true = true)) ∧ (((cond (l_FnCentres_e4 kk Oz Dz) true ((frL Oz Dz kk) != (frL Oz Dz kk))) = false → (!(cond (l_FnCentres_e4 kk Oz Dz) true ((frL Oz Dz kk) != (frL Oz Dz kk)))) = true)) ∧ ((!(l_FnCentres_e9 kk Oz Dz)) = true → (!(l_FnCentres_e9 kk Oz Dz)) = true) ∧ ((!(l_FnCentres_e9 kk Oz Dz)) = true → (!(l_FnCentres_e9 kk Oz Dz)) = true) ∧ (true = true) ∧ (((l_FnCentres_e9 kk Oz Dz) = true → true = true)) ∧ (((l_FnCentres_e9 kk Oz Dz) = false → (!(l_FnCentres_e9 kk Oz Dz)) = true)) ∧ ((!(l_FnCentres_e1 kk Oz Dz)) = true → (!(l_FnCentres_e1 kk Oz Dz)) = true) ∧ ((!(l_FnCentres_e1 kk Oz Dz)) = true → (!(l_FnCentres_e1 kk Oz Dz)) = true) ∧ (((!(l_FnCentres_e1 kk Oz Dz)) = true → (fcL Oz Dz kk).length = (fcL Oz Dz kk).length)) ∧ ((!(l_FnCentres_e1 kk Oz Dz)) = true → PC Tryz.prog 23 [.sl (.ints (fcL Oz Dz kk)), .sl (.ints (fcL Oz Dz kk))] (.one (.d (.bool ((fcL Oz Dz kk) == (fcL Oz Dz kk)))))) ∧ ((!(l_FnCentres_e1 kk Oz Dz)) = true → (!(l_FnCentres_e1 kk Oz Dz)) = true) ∧ (true = true) ∧ (((l_FnCentres_e1 kk Oz Dz) = true → true = true)) ∧ (((l_FnCentres_e1 kk Oz Dz) = false → (!(l_FnCentres_e1 kk Oz Dz)) = true)) ∧ ((!(cond (l_FnCentres_e1 kk Oz Dz) true (!((fcL Oz Dz kk) == (fcL Oz Dz kk))))) = true → (!(cond (l_FnCentres_e1 kk Oz Dz) true (!((fcL Oz Dz kk) == (fcL Oz Dz kk))))) = true) ∧ ((!(cond (l_FnCentres_e1 kk Oz Dz) true (!((fcL Oz Dz kk) == (fcL Oz Dz kk))))) = true → (!(cond (l_FnCentres_e1 kk Oz Dz) true (!((fcL Oz Dz kk) == (fcL Oz Dz kk))))) = true) ∧ (true = true) ∧ (((cond (l_FnCentres_e1 kk Oz Dz) true (!((fcL Oz Dz kk) == (fcL Oz Dz kk)))) = true → true = true)) ∧ (((cond (l_FnCentres_e1 kk Oz Dz) true (!((fcL Oz Dz kk) == (fcL Oz Dz kk)))) = false → (!(cond (l_FnCentres_e1 kk Oz Dz) true (!((fcL Oz Dz kk) == (fcL Oz Dz kk))))) = true)) ∧ ((!(l_FnCentres_e5 kk Oz Dz)) = true → (!(l_FnCentres_e5 kk Oz Dz)) = true) ∧ ((!(l_FnCentres_e5 kk Oz Dz)) = true → (!(l_FnCentres_e5 kk Oz Dz)) = true) ∧ (((!(l_FnCentres_e5 kk Oz Dz)) = true → (fsL Oz Dz kk).length = (fsL Oz Dz kk).length)) ∧ ((!(l_FnCentres_e5 kk Oz Dz)) = true → PC Tryz.prog 23 [.sl (.ints (fsL Oz Dz kk)), .sl (.ints (fsL Oz Dz kk))] (.one (.d (.bool ((fsL Oz Dz kk) == (fsL Oz Dz kk)))))) ∧ ((!(l_FnCentres_e5 kk Oz Dz)) = true → (!(l_FnCentres_e5 kk Oz Dz)) = true) ∧ (true = true) ∧ (((l_FnCentres_e5 kk Oz Dz) = true → true = true)) ∧ (((l_FnCentres_e5 kk Oz Dz) = false → (!(l_FnCentres_e5 kk Oz Dz)) = true)) ∧ ((!(cond (l_FnCentres_e5 kk Oz Dz) true (!((fsL Oz Dz kk) == (fsL Oz Dz kk))))) = true → (!(cond (l_FnCentres_e5 kk Oz Dz) true (!((fsL Oz Dz kk) == (fsL Oz Dz kk))))) = true) ∧ ((!(cond (l_FnCentres_e5 kk Oz Dz) true (!((fsL Oz Dz kk) == (fsL Oz Dz kk))))) = true → (!(cond (l_FnCentres_e5 kk Oz Dz) true (!((fsL Oz Dz kk) == (fsL Oz Dz kk))))) = true) ∧ (true = true) ∧ (((cond (l_FnCentres_e5 kk Oz Dz) true (!((fsL Oz Dz kk) == (fsL Oz Dz kk)))) = true → true = true)) ∧ (((cond (l_FnCentres_e5 kk Oz Dz) true (!((fsL Oz Dz kk) == (fsL Oz Dz kk)))) = false → (!(cond (l_FnCentres_e5 kk Oz Dz) true (!((fsL Oz Dz kk) == (fsL Oz Dz kk))))) = true)) ∧ ((!(l_FnCentres_e8 kk Oz Dz)) = true → (!(l_FnCentres_e8 kk Oz Dz)) = true) ∧ ((!(l_FnCentres_e8 kk Oz Dz)) = true → (!(l_FnCentres_e8 kk Oz Dz)) = true) ∧ (((!(l_FnCentres_e8 kk Oz Dz)) = true → (JI Oz Dz).length = (JI Oz Dz).length)) ∧ ((!(l_FnCentres_e8 kk Oz Dz)) = true → PC Tryz.prog 23 [.sl (.ints (JI Oz Dz)), .sl (.ints (JI Oz Dz))] (.one (.d (.bool ((JI Oz Dz) == (JI Oz Dz)))))) ∧ ((!(l_FnCentres_e8 kk Oz Dz)) = true → (!(l_FnCentres_e8 kk Oz Dz)) = true) ∧ (true = true) ∧ (((l_FnCentres_e8 kk Oz Dz) = true → true = true)) ∧ (((l_FnCentres_e8 kk Oz Dz) = false → (!(l_FnCentres_e8 kk Oz Dz)) = true)) ∧ (((cond (l_FnCentres_e8 kk Oz Dz) true (!((JI Oz Dz) == (JI Oz Dz)))) = true → ((false = true))) ∧ ((cond (l_FnCentres_e8 kk Oz Dz) true (!((JI Oz Dz) == (JI Oz Dz)))) = false → (((!(J0 Oz Dz && inB kk 1 (Oz.length : Int))) = true → ((true = true))) ∧ ((!(J0 Oz Dz && inB kk 1 (Oz.length : Int))) = false → (PC Tryz.prog 24 [.agg [.sl (.ints Oz), .sl (.rows Dz)], .sl (.ints (Jg Oz Dz kk))] (.tup [.d (.int .i64 (if (J0 Oz Dz && J2 (Jg Oz Dz kk) 0 ((Oz.length : Int) - 1) && decide (0 < (Jg Oz Dz kk).length)) = true then J5 Dz (Jg Oz Dz kk) else 0)), .d (.bool (J0 Oz Dz && J2 (Jg Oz Dz kk) 0 ((Oz.length : Int) - 1) && decide (0 < (Jg Oz Dz kk).length)))])) ∧ ((fsL Oz Dz kk).length = (fsL Oz Dz kk).length) ∧ (PC Tryz.prog 24 [.agg [.sl (.ints Oz), .sl (.rows Dz)], .sl (.ints (fsL Oz Dz kk))] (.tup [.d (.int .i64 (if (J0 Oz Dz && J2 (fsL Oz Dz kk) 0 ((Oz.length : Int) - 1) && decide (0 < (fsL Oz Dz kk).length)) = true then J5 Dz (fsL Oz Dz kk) else 0)), .d (.bool (J0 Oz Dz && J2 (fsL Oz Dz kk) 0 ((Oz.length : Int) - 1) && decide (0 < (fsL Oz Dz kk).length)))])) ∧ (PC Tryz.prog 25 [.agg [.sl (.ints Oz), .sl (.rows Dz)]] (.tup [.d (.bool (J0 Oz Dz && Jt Oz.length Dz)), .d (.bool (J0 Oz Dz))])) ∧ ((!((if (J0 Oz Dz && J2 (Jg Oz Dz kk) 0 ((Oz.length : Int) - 1) && decide (0 < (Jg Oz Dz kk).length)) = true then J5 Dz (Jg Oz Dz kk) else 0) != (J9 Oz Dz kk))) = true → (!((if (J0 Oz Dz && J2 (Jg Oz Dz kk) 0 ((Oz.length : Int) - 1) && decide (0 < (Jg Oz Dz kk).length)) = true then J5 Dz (Jg Oz Dz kk) else 0) != (J9 Oz Dz kk))) = true) ∧ ((!((if (J0 Oz Dz && J2 (Jg Oz Dz kk) 0 ((Oz.length : Int) - 1) && decide (0 < (Jg Oz Dz kk).length)) = true then J5 Dz (Jg Oz Dz kk) else 0) != (J9 Oz Dz kk))) = true → (!((if (J0 Oz Dz && J2 (Jg Oz Dz kk) 0 ((Oz.length : Int) - 1) && decide (0 < (Jg Oz Dz kk).length)) = true then J5 Dz (Jg Oz Dz kk) else 0) != (J9 Oz Dz kk))) = true) ∧ ((!((if (J0 Oz Dz && J2 (Jg Oz Dz kk) 0 ((Oz.length : Int) - 1) && decide (0 < (Jg Oz Dz kk).length)) = true then J5 Dz (Jg Oz Dz kk) else 0) != (J9 Oz Dz kk))) = true → (!((if (J0 Oz Dz && J2 (Jg Oz Dz kk) 0 ((Oz.length : Int) - 1) && decide (0 < (Jg Oz Dz kk).length)) = true then J5 Dz (Jg Oz Dz kk) else 0) != (J9 Oz Dz kk))) = true) ∧ (true = true) ∧ ((((if (J0 Oz Dz && J2 (Jg Oz Dz kk) 0 ((Oz.length : Int) - 1) && decide (0 < (Jg Oz Dz kk).length)) = true then J5 Dz (Jg Oz Dz kk) else 0) != (J9 Oz Dz kk)) = true → true = true)) ∧ ((((if (J0 Oz Dz && J2 (Jg Oz Dz kk) 0 ((Oz.length : Int) - 1) && decide (0 < (Jg Oz Dz kk).length)) = true then J5 Dz (Jg Oz Dz kk) else 0) != (J9 Oz Dz kk)) = false → (!((if (J0 Oz Dz && J2 (Jg Oz Dz kk) 0 ((Oz.length : Int) - 1) && decide (0 < (Jg Oz Dz kk).length)) = true then J5 Dz (Jg Oz Dz kk) else 0) != (J9 Oz Dz kk))) = true)) ∧ ((!(l_FnCentres_e6 kk Oz Dz)) = true → (!(l_FnCentres_e6 kk Oz Dz)) = true) ∧ ((!(l_FnCentres_e6 kk Oz Dz)) = true → (!(l_FnCentres_e6 kk Oz Dz)) = true) ∧ ((!(l_FnCentres_e6 kk Oz Dz)) = true → (!(l_FnCentres_e6 kk Oz Dz)) = true) ∧ (true = true) ∧ (((l_FnCentres_e6 kk Oz Dz) = true → true = true)) ∧ (((l_FnCentres_e6 kk Oz Dz) = false → (!(l_FnCentres_e6 kk Oz Dz)) = true)) ∧ ((!(l_FnCentres_e10 kk Oz Dz)) = true → (!(l_FnCentres_e10 kk Oz Dz)) = true) ∧ ((!(l_FnCentres_e10 kk Oz Dz)) = true → (!(l_FnCentres_e10 kk Oz Dz)) = true) ∧ (true = true) ∧ (((l_FnCentres_e10 kk Oz Dz) = true → true = true)) ∧ (((l_FnCentres_e10 kk Oz Dz) = false → (!(l_FnCentres_e10 kk Oz Dz)) = true)) ∧ ((!(l_FnCentres_e2 kk Oz Dz)) = true → (!(l_FnCentres_e2 kk Oz Dz)) = true) ∧ ((!(l_FnCentres_e2 kk Oz Dz)) = true → (!(l_FnCentres_e2 kk Oz Dz)) = true) ∧ ((!(l_FnCentres_e2 kk Oz Dz)) = true → (!(l_FnCentres_e2 kk Oz Dz)) = true) ∧ (((!(l_FnCentres_e2 kk Oz Dz)) && (decide ((if (J0 Oz Dz && J2 (fsL Oz Dz kk) 0 ((Oz.length : Int) - 1) && decide (0 < (fsL Oz Dz kk).length)) = true then J5 Dz (fsL Oz Dz kk) else 0) < (J9 Oz Dz kk)))) = true → ((!(l_FnCentres_e2 kk Oz Dz)) && (decide ((if (J0 Oz Dz && J2 (fsL Oz Dz kk) 0 ((Oz.length : Int) - 1) && decide (0 < (fsL Oz Dz kk).length)) = true then J5 Dz (fsL Oz Dz kk) else 0) < (J9 Oz Dz kk)))) = true) ∧ (((!(l_FnCentres_e2 kk Oz Dz)) && (decide ((if (J0 Oz Dz && J2 (fsL Oz Dz kk) 0 ((Oz.length : Int) - 1) && decide (0 < (fsL Oz Dz kk).length)) = true then J5 Dz (fsL Oz Dz kk) else 0) < (J9 Oz Dz kk)))) = true → ((!(l_FnCentres_e2 kk Oz Dz)) && (decide ((if (J0 Oz Dz && J2 (fsL Oz Dz kk) 0 ((Oz.length : Int) - 1) && decide (0 < (fsL Oz Dz kk).length)) = true then J5 Dz (fsL Oz Dz kk) else 0) < (J9 Oz Dz kk)))) = true) ∧ (((!(l_FnCentres_e2 kk Oz Dz)) && (decide ((if (J0 Oz Dz && J2 (fsL Oz Dz kk) 0 ((Oz.length : Int) - 1) && decide (0 < (fsL Oz Dz kk).length)) = true then J5 Dz (fsL Oz Dz kk) else 0) < (J9 Oz Dz kk)))) = true → ((!(l_FnCentres_e2 kk Oz Dz)) && (decide ((if (J0 Oz Dz && J2 (fsL Oz Dz kk) 0 ((Oz.length : Int) - 1) && decide (0 < (fsL Oz Dz kk).length)) = true then J5 Dz (fsL Oz Dz kk) else 0) < (J9 Oz Dz kk)))) = true) ∧ (((!(l_FnCentres_e2 kk Oz Dz)) = true → (!(l_FnCentres_e2 kk Oz Dz)) = true)) ∧ (((!(l_FnCentres_e2 kk Oz Dz)) = true → (decide ((if (J0 Oz Dz && J2 (fsL Oz Dz kk) 0 ((Oz.length : Int) - 1) && decide (0 < (fsL Oz Dz kk).length)) = true then J5 Dz (fsL Oz Dz kk) else 0) < (J9 Oz Dz kk))) = true → ((!(l_FnCentres_e2 kk Oz Dz)) && (decide ((if (J0 Oz Dz && J2 (fsL Oz Dz kk) 0 ((Oz.length : Int) - 1) && decide (0 < (fsL Oz Dz kk).length)) = true then J5 Dz (fsL Oz Dz kk) else 0) < (J9 Oz Dz kk)))) = true)) ∧ (((!(l_FnCentres_e2 kk Oz Dz)) = true → (decide ((if (J0 Oz Dz && J2 (fsL Oz Dz kk) 0 ((Oz.length : Int) - 1) && decide (0 < (fsL Oz Dz kk).length)) = true then J5 Dz (fsL Oz Dz kk) else 0) < (J9 Oz Dz kk))) = false → true = true)) ∧ (true = true) ∧ (((l_FnCentres_e2 kk Oz Dz) = true → true = true)) ∧ (((l_FnCentres_e2 kk Oz Dz) = false → (!(l_FnCentres_e2 kk Oz Dz)) = true)) ∧ ((!(l_FnCentres_e3 kk Oz Dz)) = true → (!(l_FnCentres_e3 kk Oz Dz)) = true) ∧ ((!(l_FnCentres_e3 kk Oz Dz)) = true → (!(l_FnCentres_e3 kk Oz Dz)) = true) ∧ ((!(l_FnCentres_e3 kk Oz Dz)) = true → (!(l_FnCentres_e3 kk Oz Dz)) = true) ∧ ((!(l_FnCentres_e3 kk Oz Dz)) = true → (!(l_FnCentres_e3 kk Oz Dz)) = true) ∧ (((!(l_FnCentres_e3 kk Oz Dz)) && (decide ((Dz.length : Int) > 0))) = true → ((!(l_FnCentres_e3 kk Oz Dz)) && (decide ((Dz.length : Int) > 0))) = true) ∧ (((!(l_FnCentres_e3 kk Oz Dz)) && (decide ((Dz.length : Int) > 0))) = true → ((!(l_FnCentres_e3 kk Oz Dz)) && (decide ((Dz.length : Int) > 0))) = true) ∧ ((((!(l_FnCentres_e3 kk Oz Dz)) && (decide ((Dz.length : Int) > 0))) = true → (JI Oz Dz).length = (JI Oz Dz).length)) ∧ (((!(l_FnCentres_e3 kk Oz Dz)) && (decide ((Dz.length : Int) > 0))) = true → PC Tryz.prog 26 [.sl (.ints (JI Oz Dz)), .int .i64 (J9 Oz Dz kk)] (.one (.d (.bool ((JI Oz Dz).contains (J9 Oz Dz kk)))))) ∧ (((!(l_FnCentres_e3 kk Oz Dz)) && (decide ((Dz.length : Int) > 0))) = true → ((!(l_FnCentres_e3 kk Oz Dz)) && (decide ((Dz.length : Int) > 0))) = true) ∧ (((!(l_FnCentres_e3 kk Oz Dz)) = true → (!(l_FnCentres_e3 kk Oz Dz)) = true)) ∧ (((!(l_FnCentres_e3 kk Oz Dz)) = true → (decide ((Dz.length : Int) > 0)) = true → ((!(l_FnCentres_e3 kk Oz Dz)) && (decide ((Dz.length : Int) > 0))) = true)) ∧ (((!(l_FnCentres_e3 kk Oz Dz)) = true → (decide ((Dz.length : Int) > 0)) = false → true = true)) ∧ (true = true) ∧ (((l_FnCentres_e3 kk Oz Dz) = true → true = true)) ∧ (((l_FnCentres_e3 kk Oz Dz) = false → (!(l_FnCentres_e3 kk Oz Dz)) = true)) ∧ (((cond (l_FnCentres_e3 kk Oz Dz) true (cond (decide ((Dz.length : Int) > 0)) (!((JI Oz Dz).contains (J9 Oz Dz kk))) false)) = true → ((false = true))) ∧ ((cond (l_FnCentres_e3 kk Oz Dz) true (cond (decide ((Dz.length : Int) > 0)) (!((JI Oz Dz).contains (J9 Oz Dz kk))) false)) = false → ((J0 Oz Dz && Jt Oz.length Dz) = true → (J0 Oz Dz && Jt Oz.length Dz) = true) ∧ (((J0 Oz Dz && Jt Oz.length Dz) = true → -9223372036854775808 ≤ (3 * (frL Oz Dz kk)) ∧ (3 * (frL Oz Dz kk)) ≤ 9223372036854775807)) ∧ ((J0 Oz Dz && Jt Oz.length Dz) = true → (J0 Oz Dz && Jt Oz.length Dz) = true) ∧ ((J0 Oz Dz && Jt Oz.length Dz) = true → (J0 Oz Dz && Jt Oz.length Dz) = true) ∧ ((J0 Oz Dz && Jt Oz.length Dz) = true → (J0 Oz Dz && Jt Oz.length Dz) = true) ∧ (((J0 Oz Dz && Jt Oz.length Dz) && (!(decide ((J9 Oz Dz kk) > (3 * (frL Oz Dz kk)))))) = true → ((J0 Oz Dz && Jt Oz.length Dz) && (!(decide ((J9 Oz Dz kk) > (3 * (frL Oz Dz kk)))))) = true) ∧ ((((J0 Oz Dz && Jt Oz.length Dz) && (!(decide ((J9 Oz Dz kk) > (3 * (frL Oz Dz kk)))))) = true → -9223372036854775808 ≤ (3 * (J9 Oz Dz kk)) ∧ (3 * (J9 Oz Dz kk)) ≤ 9223372036854775807)) ∧ (((J0 Oz Dz && Jt Oz.length Dz) && (!(decide ((J9 Oz Dz kk) > (3 * (frL Oz Dz kk)))))) = true → ((J0 Oz Dz && Jt Oz.length Dz) && (!(decide ((J9 Oz Dz kk) > (3 * (frL Oz Dz kk)))))) = true) ∧ (((J0 Oz Dz && Jt Oz.length Dz) && (!(decide ((J9 Oz Dz kk) > (3 * (frL Oz Dz kk)))))) = true → ((J0 Oz Dz && Jt Oz.length Dz) && (!(decide ((J9 Oz Dz kk) > (3 * (frL Oz Dz kk)))))) = true) ∧ (((J0 Oz Dz && Jt Oz.length Dz) = true → (J0 Oz Dz && Jt Oz.length Dz) = true)) ∧ (((J0 Oz Dz && Jt Oz.length Dz) = true → (decide ((J9 Oz Dz kk) > (3 * (frL Oz Dz kk)))) = true → true = true)) ∧ (((J0 Oz Dz && Jt Oz.length Dz) = true → (decide ((J9 Oz Dz kk) > (3 * (frL Oz Dz kk)))) = false → ((J0 Oz Dz && Jt Oz.length Dz) && (!(decide ((J9 Oz Dz kk) > (3 * (frL Oz Dz kk)))))) = true)) ∧ (true = true) ∧ (((J0 Oz Dz && Jt Oz.length Dz) = true → (J0 Oz Dz && Jt Oz.length Dz) = true)) ∧ (((J0 Oz Dz && Jt Oz.length Dz) = false → true = true)) ∧ (((l_FnCentres_e11 kk Oz Dz) = true → ((false = true))) ∧ ((l_FnCentres_e11 kk Oz Dz) = false → (PC Tryz.prog 27 [.agg [.sl (.ints Oz), .sl (.rows Dz)], .int .i64 (J9 Oz Dz kk)] (.tup [.d (.sl (.ints (J0a Oz Dz (J9 Oz Dz kk)))), .d (.bool (JK Oz Dz (J9 Oz Dz kk)))])) ∧ ((JK Oz Dz (J9 Oz Dz kk)) = true → (JK Oz Dz (J9 Oz Dz kk)) = true) ∧ ((JK Oz Dz (J9 Oz Dz kk)) = true → (JK Oz Dz (J9 Oz Dz kk)) = true) ∧ ((JK Oz Dz (J9 Oz Dz kk)) = true → (JK Oz Dz (J9 Oz Dz kk)) = true) ∧ (true = true) ∧ (((JK Oz Dz (J9 Oz Dz kk)) = true → (JK Oz Dz (J9 Oz Dz kk)) = true)) ∧ (((JK Oz Dz (J9 Oz Dz kk)) = false → true = true)) ∧ (((cond (JK Oz Dz (J9 Oz Dz kk)) (decide ((((J0a Oz Dz (J9 Oz Dz kk)).length) : Int) ≤ kk)) false) = true))))))))))))))
set_option maxRecDepth 100000 in
theorem l_FnCentres_vc (code : List Nat) (hb : ∀ x9 ∈ code, x9 < 256) (w_code : (code.length : Int) ≤ 9223372036854775807) : l_FnCentres_P code := by
  unfold l_FnCentres_P l_FnCentres_e11 l_FnCentres_e3 l_FnCentres_e2 l_FnCentres_e10 l_FnCentres_e8 l_FnCentres_e5 l_FnCentres_e1 l_FnCentres_e9 l_FnCentres_e4 l_FnCentres_e7 l_FnCentres_e6
  refine ⟨Jg0 code, ?_, ?_⟩
  ·intro b1
   exact rfl
  intro b2
  refine ⟨?_, ?_⟩
  ·refine ⟨?_, ?_⟩
   ·refine J6X code ?_
    ·exact hb
   ·intro Or3 Dsr3 kkr3 hQ9
    refine ⟨rfl, ?_⟩
    ·refine ⟨kkr3, Or3, Dsr3, ?_⟩
     refine ⟨?_, rfl, rfl, rfl⟩
     ·trivial
  intro kk Oz Dz hJ
  refine ⟨J5F Oz Dz kk, J9B Oz Dz kk, J9i Oz Dz kk, J9c Oz Dz kk, Jce Oz Dz kk, Jc9 Oz Dz kk, J73 Oz Dz kk, J6Z Oz Dz kk, J7O Oz Dz kk, J88 Oz Dz kk, JaV Oz Dz, Jb5 Oz Dz, id, id, fun _ => rfl, fun _ => J5g (Jg Oz Dz kk) (Jg Oz Dz kk), id, rfl, fun _ => rfl, ?_, id, id, rfl, fun _ => rfl, ?_, id, id, rfl, fun _ => rfl, ?_, id, id, rfl, fun _ => rfl, ?_, id, id, rfl, fun _ => rfl, ?_, id, id, rfl, fun _ => rfl, ?_, id, id, fun _ => rfl, fun _ => J5g (fcL Oz Dz kk) (fcL Oz Dz kk), id, rfl, fun _ => rfl, ?_, id, id, rfl, fun _ => rfl, ?_, id, id, fun _ => rfl, fun _ => J5g (fsL Oz Dz kk) (fsL Oz Dz kk), id, rfl, fun _ => rfl, ?_, id, id, rfl, fun _ => rfl, ?_, id, id, fun _ => rfl, fun _ => J5g (JI Oz Dz) (JI Oz Dz), id, rfl, fun _ => rfl, ?_, ?_, ?_⟩
  ·(simp_all; done)
  ·(simp_all; done)
  ·(simp_all; done)
  ·(simp_all; done)
  ·(simp_all; done)
  ·(simp_all; done)
  ·(simp_all; done)
  ·(simp_all; done)
  ·(simp_all; done)
  ·(simp_all; done)
  ·(simp_all; done)
  ·intro b3
   exfalso; simp_all
  intro b4
  refine ⟨?_, ?_⟩
  ·intro b5
   exact rfl
  intro b6
  refine ⟨J7y Oz Dz (Jg Oz Dz kk), rfl, J7y Oz Dz (fsL Oz Dz kk), JcA Oz Dz, id, id, id, rfl, fun _ => rfl, ?_, id, id, id, rfl, fun _ => rfl, ?_, id, id, rfl, fun _ => rfl, ?_, id, id, id, id, id, id, id, ?_, fun _ _ => rfl, rfl, fun _ => rfl, ?_, id, id, id, id, id, id, fun _ => rfl, fun _ => JfQ (JI Oz Dz) (J9 Oz Dz kk), id, id, ?_, fun _ _ => rfl, rfl, fun _ => rfl, ?_, ?_, ?_⟩
  ·(simp_all; done)
  ·(simp_all; done)
  ·(simp_all; done)
  ·(simp_all; done)
  ·(simp_all; done)
  ·(intro g1; simp at g1 ⊢; simp [g1]; done)
  ·(simp_all <;> omega)
  ·intro b7
   obtain ⟨m1, m2, m3, m4, m5, m6, m7, m8, m9, m10, m11, m12, m13⟩ := J4U (U := Oz) (D := Dz) (k := kk) (by simpa using b6)
   exfalso
   simp only [if_pos m2, if_pos m5, m4] at b7
   simp at b7
   rcases b7 with h | ⟨h1, h2⟩
   · omega
   exact h2 (m9 (by simpa using h1))
  intro b8
  refine ⟨id, ?_, id, id, id, id, ?_, id, id, id, fun _ _ => rfl, ?_, rfl, id, fun _ => rfl, ?_, ?_⟩
  ·obtain ⟨m1, m2, m3, m4, m5, m6, m7, m8, m9, m10, m11, m12, m13⟩ := J4U (U := Oz) (D := Dz) (k := kk) (by simpa using b6)
   intros
   omega
  ·obtain ⟨m1, m2, m3, m4, m5, m6, m7, m8, m9, m10, m11, m12, m13⟩ := J4U (U := Oz) (D := Dz) (k := kk) (by simpa using b6)
   intros
   omega
  ·(simp_all; done)
  ·intro b9
   obtain ⟨m1, m2, m3, m4, m5, m6, m7, m8, m9, m10, m11, m12, m13⟩ := J4U (U := Oz) (D := Dz) (k := kk) (by simpa using b6)
   exfalso
   simp only [if_pos m5] at b9
   simp at b9
   obtain ⟨h1, h2⟩ := b9
   have := m10 h1.2
   omega
  intro b10
  refine ⟨J7R Oz Dz (J9 Oz Dz kk), id, id, id, rfl, id, fun _ => rfl, ?_⟩
  ·obtain ⟨m1, m2, m3, m4, m5, m6, m7, m8, m9, m10, m11, m12, m13⟩ := J4U (U := Oz) (D := Dz) (k := kk) (by simpa using b6)
   simp [m11, m12]
theorem l_FnCentres_pc (code : List Nat) (hb : ∀ x9 ∈ code, x9 < 256) : PC Tryz.prog 3 [.sl (.bytes code)] (.one (.d (.bool true))) :=
  pc_wf @Tryz.call3 fun hw => pc_by (by kernel_rfl) Tryz.func3 @Tryz.call3 (by kernel_rfl) l_FnCentres_C (l_FnCentres_A code) (by kernel_rfl) (l_FnCentres_vc code hb hw.1) (by kernel_rfl)
end Go.Proofs.YtomnmacmlhkceaaGreat
