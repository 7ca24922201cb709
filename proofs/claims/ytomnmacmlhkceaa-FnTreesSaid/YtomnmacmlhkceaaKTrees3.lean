/- Contracts of the functions that the law reaches. -/
import Derived.Test.YtomnmacmlhkceaaKTrees2
import Derived.KernelRfl
set_option linter.unusedVariables false
set_option linter.unusedSimpArgs false
namespace Go.Proofs.Ytomnmacmlhkceaa
open Go

set_option maxRecDepth 100000 in
theorem l_FnTrees_vc (code : List Nat) (hb : ∀ x9 ∈ code, x9 < 256) (w_code : (code.length : Int) ≤ 9223372036854775807) : l_FnTrees_P code := by
  unfold l_FnTrees_P l_FnTrees_e5 l_FnTrees_e4 l_FnTrees_e2 l_FnTrees_e1 l_FnTrees_e3
  refine ⟨J7R code, ?_, ?_⟩
  ·intro b1
   try simp only [nrmT] at b1
   exact rfl
  intro b2
  try simp only [nrmT] at b2
  refine ⟨?_, ?_⟩
  ·refine ⟨?_, ?_⟩
   ·refine J3q code ?_
    ·exact hb
   ·intro Pr3 Lr3 hQ9
    obtain ⟨f2r3, f3r3⟩ := hQ9
    refine ⟨rfl, ?_⟩
    ·refine ⟨Pr3, Lr3, ?_⟩
     refine ⟨?_, rfl, rfl, rfl⟩
     ·refine ⟨?_, ?_⟩
      ·assumption
      ·assumption
  intro ps ls hJ
  obtain ⟨p1, p2⟩ := hJ
  refine ⟨J5x ps ls, J5C ps ls, id, id, fun _ => J75 (tfO ps ls) (tfD ps ls) (tfO ps ls) (tfD ps ls), id, rfl, fun _ => rfl, ?_, ?_, ?_⟩
  ·intro h; rw [h]; rfl
  ·intro b3
   exfalso; simp at b3
  intro b4
  refine ⟨?_, ?_⟩
  ·refine ⟨?_, ?_⟩
   ·refine J33 code ?_
    ·exact hb
   ·intro Pr8 Wr8 hQ9
    obtain ⟨f2r8, f3r8⟩ := hQ9
    refine ⟨rfl, ?_⟩
    ·refine ⟨Pr8, Wr8, ?_⟩
     refine ⟨?_, rfl, rfl, rfl, rfl, rfl, rfl, rfl⟩
     ·refine ⟨?_, ?_⟩
      ·assumption
      ·assumption
  intro lt wt hJ
  obtain ⟨p3, p4⟩ := hJ
  refine ⟨J2q lt wt, J4g lt wt, id, id, rfl, fun _ => rfl, ?_, ?_, ?_⟩
  ·intro h; rw [h]; rfl
  ·intro b5
   exfalso; simp at b5
  intro b6
  refine ⟨?_, ?_⟩
  ·intro b7
   try simp only [nrmT] at b7
   exact rfl
  intro b8
  try simp only [nrmT] at b8
  refine ⟨J6p (tfO ps ls) (tfD ps ls), ?_, ?_⟩
  ·refine ⟨?_, ?_⟩
   ·refine ⟨([]), 0, ?_⟩
    refine ⟨?_, rfl, rfl, rfl, rfl, rfl, rfl, rfl, rfl, rfl, rfl, ?_, rfl, rfl⟩
    ·refine ⟨?_, ?_⟩
     ·first | omega | rfl | (intro hg; simp only [nrmT] at hg; omega) | (intro g1 g2; simp [g1, g2]; done) | (intro g1; simp at g1 ⊢; simp [g1]; done) | (simp only [nrmT] at *; omega) | (simp at * <;> omega) | (simp_all <;> omega) | (simp_all; done)
     ·rfl
    first | omega | rfl | (intro hg; simp only [nrmT] at hg; omega) | (intro g1 g2; simp [g1, g2]; done) | (intro g1; simp at g1 ⊢; simp [g1]; done) | (simp only [nrmT] at *; omega) | (simp at * <;> omega) | (simp_all <;> omega) | (simp_all; done)
   ·intro ones x hJ
    obtain ⟨h1, h2⟩ := hJ
    refine ⟨?_, ?_⟩
    ·intro b9
     try simp only [nrmT] at b9
     refine ⟨rfl, rfl, ?_, rfl, ?_, ?_, ?_, ?_, ?_, ?_, id, id, id, id, id, ?_, ?_, id, ?_, id, id, ?_, ?_, id, ?_, id, id, ?_, ?_, id, ?_, id, id, ?_, ?_, id, ?_, id, id, id, ?_, fun _ _ => rfl, rfl, fun _ => rfl, ?_, ?_, ?_⟩
     ·have hT : tfB ps ls = true := (by simpa using b8)
      obtain ⟨r1, r2, r3, r4, r5, r6, r7, r8, r9, r10, r11, r12⟩ := J9 hT
      rw [h2, List.length_replicate]; omega
     ·first | omega | rfl | (intro hg; simp only [nrmT] at hg; omega) | (intro g1 g2; simp [g1, g2]; done) | (intro g1; simp at g1 ⊢; simp [g1]; done) | (simp only [nrmT] at *; omega) | (simp at * <;> omega) | (simp_all <;> omega) | (simp_all; done)
     ·first | omega | (have hT : tfB ps ls = true := (by simpa using b8); obtain ⟨r1, r2, r3, r4, r5, r6, r7, r8, r9, r10, r11, r12⟩ := J9 hT; first | omega | (have hrw := r7 x.toNat (by omega); omega) | (have hrw := r7 y.toNat (by omega); omega)) | (have hT : tfB ps ls = true := (by simpa using b8); obtain ⟨r1, r2, r3, r4, r5, r6, r7, r8, r9, r10, r11, r12⟩ := J9 hT; obtain ⟨hM1, hM2⟩ : mjB lt wt = true ∧ lt = ps := (by revert b15; cases mjB lt wt <;> simp); have hM3 : mjR ps wt = true := (by rw [hM2] at hM1; unfold mjB at hM1; rw [Bool.and_eq_true] at hM1; exact hM1.1); obtain ⟨q1, q2, q3, q4, q5, q6⟩ := J5 hM3; omega)
     ·first | omega | (have hT : tfB ps ls = true := (by simpa using b8); obtain ⟨r1, r2, r3, r4, r5, r6, r7, r8, r9, r10, r11, r12⟩ := J9 hT; first | omega | (have hrw := r7 x.toNat (by omega); omega) | (have hrw := r7 y.toNat (by omega); omega)) | (have hT : tfB ps ls = true := (by simpa using b8); obtain ⟨r1, r2, r3, r4, r5, r6, r7, r8, r9, r10, r11, r12⟩ := J9 hT; obtain ⟨hM1, hM2⟩ : mjB lt wt = true ∧ lt = ps := (by revert b15; cases mjB lt wt <;> simp); have hM3 : mjR ps wt = true := (by rw [hM2] at hM1; unfold mjB at hM1; rw [Bool.and_eq_true] at hM1; exact hM1.1); obtain ⟨q1, q2, q3, q4, q5, q6⟩ := J5 hM3; omega)
     ·first | omega | rfl | (intro hg; simp only [nrmT] at hg; omega) | (intro g1 g2; simp [g1, g2]; done) | (intro g1; simp at g1 ⊢; simp [g1]; done) | (simp only [nrmT] at *; omega) | (simp at * <;> omega) | (simp_all <;> omega) | (simp_all; done)
     ·first | omega | (have hT : tfB ps ls = true := (by simpa using b8); obtain ⟨r1, r2, r3, r4, r5, r6, r7, r8, r9, r10, r11, r12⟩ := J9 hT; first | omega | (have hrw := r7 x.toNat (by omega); omega) | (have hrw := r7 y.toNat (by omega); omega)) | (have hT : tfB ps ls = true := (by simpa using b8); obtain ⟨r1, r2, r3, r4, r5, r6, r7, r8, r9, r10, r11, r12⟩ := J9 hT; obtain ⟨hM1, hM2⟩ : mjB lt wt = true ∧ lt = ps := (by revert b15; cases mjB lt wt <;> simp); have hM3 : mjR ps wt = true := (by rw [hM2] at hM1; unfold mjB at hM1; rw [Bool.and_eq_true] at hM1; exact hM1.1); obtain ⟨q1, q2, q3, q4, q5, q6⟩ := J5 hM3; omega)
     ·first | omega | (have hT : tfB ps ls = true := (by simpa using b8); obtain ⟨r1, r2, r3, r4, r5, r6, r7, r8, r9, r10, r11, r12⟩ := J9 hT; first | omega | (have hrw := r7 x.toNat (by omega); omega) | (have hrw := r7 y.toNat (by omega); omega)) | (have hT : tfB ps ls = true := (by simpa using b8); obtain ⟨r1, r2, r3, r4, r5, r6, r7, r8, r9, r10, r11, r12⟩ := J9 hT; obtain ⟨hM1, hM2⟩ : mjB lt wt = true ∧ lt = ps := (by revert b15; cases mjB lt wt <;> simp); have hM3 : mjR ps wt = true := (by rw [hM2] at hM1; unfold mjB at hM1; rw [Bool.and_eq_true] at hM1; exact hM1.1); obtain ⟨q1, q2, q3, q4, q5, q6⟩ := J5 hM3; omega)
     ·intro hg9
      have hx0 : x > 0 := by rw [Bool.and_eq_true, decide_eq_true_eq] at hg9; exact hg9.2
      have hT : tfB ps ls = true := (by simpa using b8)
      obtain ⟨r1, r2, r3, r4, r5, r6, r7, r8, r9, r10, r11, r12⟩ := J9 hT
      have hu := r2 x.toNat (by omega) (by omega)
      unfold upN at hu
      have hrw := r7 x.toNat (by omega)
      omega
     ·intro hg9
      have hx0 : x > 0 := by rw [Bool.and_eq_true, decide_eq_true_eq] at hg9; exact hg9.2
      have hT : tfB ps ls = true := (by simpa using b8)
      obtain ⟨r1, r2, r3, r4, r5, r6, r7, r8, r9, r10, r11, r12⟩ := J9 hT
      have hu := r2 x.toNat (by omega) (by omega)
      unfold upN at hu
      have hrw := r7 x.toNat (by omega)
      omega
     ·intro hg9
      have hx0 : x > 0 := by rw [Bool.and_eq_true, decide_eq_true_eq] at hg9; exact hg9.2
      have hT : tfB ps ls = true := (by simpa using b8)
      obtain ⟨r1, r2, r3, r4, r5, r6, r7, r8, r9, r10, r11, r12⟩ := J9 hT
      have hu := r2 x.toNat (by omega) (by omega)
      unfold upN at hu
      have hrw := r7 x.toNat (by omega)
      omega
     ·intro hg9
      have hx0 : x > 0 := by rw [Bool.and_eq_true, decide_eq_true_eq] at hg9; exact hg9.2
      have hT : tfB ps ls = true := (by simpa using b8)
      obtain ⟨r1, r2, r3, r4, r5, r6, r7, r8, r9, r10, r11, r12⟩ := J9 hT
      have hu := r2 x.toNat (by omega) (by omega)
      unfold upN at hu
      have hrw := r7 x.toNat (by omega)
      omega
     ·intro hg9
      have hx0 : x > 0 := by rw [Bool.and_eq_true, decide_eq_true_eq] at hg9; exact hg9.2
      have hT : tfB ps ls = true := (by simpa using b8)
      obtain ⟨r1, r2, r3, r4, r5, r6, r7, r8, r9, r10, r11, r12⟩ := J9 hT
      have hu := r2 x.toNat (by omega) (by omega)
      unfold upN at hu
      have hrw := r7 x.toNat (by omega)
      omega
     ·intro hg9
      have hx0 : x > 0 := by rw [Bool.and_eq_true, decide_eq_true_eq] at hg9; exact hg9.2
      have hT : tfB ps ls = true := (by simpa using b8)
      obtain ⟨r1, r2, r3, r4, r5, r6, r7, r8, r9, r10, r11, r12⟩ := J9 hT
      have hu := r2 x.toNat (by omega) (by omega)
      unfold upN at hu
      have hrw := r7 x.toNat (by omega)
      omega
     ·intro hg9
      have hx0 : x > 0 := by rw [Bool.and_eq_true, decide_eq_true_eq] at hg9; exact hg9.2
      have hT : tfB ps ls = true := (by simpa using b8)
      obtain ⟨r1, r2, r3, r4, r5, r6, r7, r8, r9, r10, r11, r12⟩ := J9 hT
      have hu := r2 x.toNat (by omega) (by omega)
      unfold upN at hu
      have hrw := r7 x.toNat (by omega)
      omega
     ·intro hg9
      have hx0 : x > 0 := by rw [Bool.and_eq_true, decide_eq_true_eq] at hg9; exact hg9.2
      have hT : tfB ps ls = true := (by simpa using b8)
      obtain ⟨r1, r2, r3, r4, r5, r6, r7, r8, r9, r10, r11, r12⟩ := J9 hT
      have hu := r2 x.toNat (by omega) (by omega)
      unfold upN at hu
      have hrw := r7 x.toNat (by omega)
      omega
     ·intro hg9
      have hx0 : x > 0 := by rw [Bool.and_eq_true, decide_eq_true_eq] at hg9; exact hg9.2
      have hT : tfB ps ls = true := (by simpa using b8)
      obtain ⟨r1, r2, r3, r4, r5, r6, r7, r8, r9, r10, r11, r12⟩ := J9 hT
      have hu := r2 x.toNat (by omega) (by omega)
      unfold upN at hu
      have hrw := r7 x.toNat (by omega)
      omega
     ·intro hg9
      have hx0 : x > 0 := by rw [Bool.and_eq_true, decide_eq_true_eq] at hg9; exact hg9.2
      have hT : tfB ps ls = true := (by simpa using b8)
      obtain ⟨r1, r2, r3, r4, r5, r6, r7, r8, r9, r10, r11, r12⟩ := J9 hT
      have hu := r2 x.toNat (by omega) (by omega)
      unfold upN at hu
      have hrw := r7 x.toNat (by omega)
      omega
     ·intro hg9
      have hx0 : x > 0 := by rw [Bool.and_eq_true, decide_eq_true_eq] at hg9; exact hg9.2
      have hT : tfB ps ls = true := (by simpa using b8)
      obtain ⟨r1, r2, r3, r4, r5, r6, r7, r8, r9, r10, r11, r12⟩ := J9 hT
      have hu := r2 x.toNat (by omega) (by omega)
      unfold upN at hu
      have hrw := r7 x.toNat (by omega)
      omega
     ·intro hg9
      have hx0 : x > 0 := by rw [Bool.and_eq_true, decide_eq_true_eq] at hg9; exact hg9.2
      have hT : tfB ps ls = true := (by simpa using b8)
      obtain ⟨r1, r2, r3, r4, r5, r6, r7, r8, r9, r10, r11, r12⟩ := J9 hT
      have hu := r2 x.toNat (by omega) (by omega)
      unfold upN at hu
      have hrw := r7 x.toNat (by omega)
      omega
     ·intro h8 h9; rw [h8, h9]; rfl
     ·intro h; rw [h]; rfl
     ·intro b10
      have hT : tfB ps ls = true := (by simpa using b8)
      obtain ⟨r1, r2, r3, r4, r5, r6, r7, r8, r9, r10, r11, r12⟩ := J9 hT
      exfalso
      have e1 := r8 x.toNat x.toNat (by omega) (by omega)
      rw [J3f] at e1
      rw [e1] at b10
      by_cases hx0 : x > 0
      · have hu := r2 x.toNat (by omega) (by omega)
        have ee := J8Q r2 (ls := ls) (x := x.toNat) (by omega) (by omega)
        have e2 := r8 x.toNat (upN ps x.toNat) (by omega) (by omega)
        rw [ee] at e2
        unfold upN at e2
        rw [e2] at b10
        simp at b10
      rw [decide_eq_false hx0] at b10
      simp at b10
     intro b11
     refine ⟨?_, ?_⟩
     ·first | omega | rfl | (intro hg; simp only [nrmT] at hg; omega) | (intro g1 g2; simp [g1, g2]; done) | (intro g1; simp at g1 ⊢; simp [g1]; done) | (simp only [nrmT] at *; omega) | (simp at * <;> omega) | (simp_all <;> omega) | (simp_all; done)
     refine ⟨(ones ++ [1]), (x + 1), ?_⟩
     refine ⟨?_, ?_, rfl, rfl, rfl, rfl, rfl, rfl, rfl, rfl, ?_, rfl, rfl, rfl, rfl⟩
     ·refine ⟨?_, ?_⟩
      ·first | omega | rfl | (intro hg; simp only [nrmT] at hg; omega) | (intro g1 g2; simp [g1, g2]; done) | (intro g1; simp at g1 ⊢; simp [g1]; done) | (simp only [nrmT] at *; omega) | (simp at * <;> omega) | (simp_all <;> omega) | (simp_all; done)
      ·rw [h2, show (x + 1).toNat = x.toNat + 1 by omega, List.replicate_succ']
     ·first | (show _ < _; omega) | (simp only [l_FnTrees_mJ0]; omega) | (simp only [l_FnTrees_mJ0] at *; simp at *; omega)
     simp
    intro b12
    try simp only [nrmT] at b12
    refine ⟨ones, ?_⟩
    refine ⟨?_, rfl, rfl, rfl, rfl, rfl, rfl, rfl, rfl, rfl, rfl, rfl⟩
    ·unfold l_FnTrees_JA0
     rw [h2, show x.toNat = ps.length by omega]
  intro one2 hJ
  have h8 := hJ
  refine ⟨rfl, J2q ps one2, J4r (tfO ps ls) (tfD ps ls) 1, rfl, J5D (tfO ps ls) (tfD ps ls) ([(mjN ps one2)]), id, rfl, fun _ => rfl, ?_, id, rfl, fun _ => rfl, ?_, id, rfl, fun _ => rfl, ?_, id, rfl, fun _ => rfl, ?_, id, id, rfl, fun _ => rfl, ?_, ?_, ?_⟩
  ·intro h; rw [h]; rfl
  ·intro h; rw [h]; rfl
  ·intro h; rw [h]; rfl
  ·intro h; rw [h]; rfl
  ·intro h; rw [h]; rfl
  ·intro b13
   have hT : tfB ps ls = true := (by simpa using b8)
   obtain ⟨r1, r2, r3, r4, r5, r6, r7, r8, r9, r10, r11, r12⟩ := J9 hT
   exfalso
   have eo := h8
   obtain ⟨k1, k2, k3, k4⟩ := J1h (J8h r1)
   obtain ⟨y1, y2, y3⟩ := J8V hT k4
   rw [← eo] at k1 k2 k3 y1 y3
   rw [show (((mjN ps one2).toNat : Nat) : Int) = mjN ps one2 by omega] at y1 y3
   rw [y1, if_pos rfl, r4, r9, k1, ← y3] at b13
   rw [r4, Bool.true_and] at y2
   rw [y2] at b13
   simp at b13
  intro b14
  refine ⟨id, id, fun _ => J3a lt ps, rfl, id, fun _ => rfl, ?_, ?_⟩
  ·intro b15
   refine ⟨?_, ?_⟩
   ·refine ⟨(-1), 0, 0, ?_⟩
    refine ⟨?_, rfl, rfl, rfl, rfl, rfl, rfl, rfl, rfl⟩
    ·refine ⟨?_, ?_, ?_⟩
     ·first | omega | rfl | (intro hg; simp only [nrmT] at hg; omega) | (intro g1 g2; simp [g1, g2]; done) | (intro g1; simp at g1 ⊢; simp [g1]; done) | (simp only [nrmT] at *; omega) | (simp at * <;> omega) | (simp_all <;> omega) | (simp_all; done)
     ·exact ⟨fun _ => rfl, fun h => absurd h (Nat.lt_irrefl 0)⟩
     ·have hT : tfB ps ls = true := (by simpa using b8)
      obtain ⟨r1, r2, r3, r4, r5, r6, r7, r8, r9, r10, r11, r12⟩ := J9 hT
      obtain ⟨hM1, hM2⟩ : mjB lt wt = true ∧ lt = ps := by
        revert b15; cases mjB lt wt <;> simp
      have hM3 : mjR ps wt = true := by
        rw [hM2] at hM1
        unfold mjB at hM1
        rw [Bool.and_eq_true] at hM1
        exact hM1.1
      obtain ⟨q1, q2, q3, q4, q5, q6⟩ := J5 hM3
      obtain ⟨k1, k2, k3, k4⟩ := J1h hM3
      rw [← hM2] at k1 k2 k3 k4
      rw [if_neg (by omega)]
   intro least own x2 hJ
   obtain ⟨h3, h4, h5⟩ := hJ
   refine ⟨?_, ?_⟩
   ·intro b16
    try simp only [nrmT] at b16
    refine ⟨?_, ?_⟩
    ·refine ⟨0, 0, ?_⟩
     refine ⟨?_, rfl, rfl, rfl, rfl, rfl, rfl, rfl, rfl, rfl, rfl⟩
     ·refine ⟨?_, ?_⟩
      ·first | omega | rfl | (intro hg; simp only [nrmT] at hg; omega) | (intro g1 g2; simp [g1, g2]; done) | (intro g1; simp at g1 ⊢; simp [g1]; done) | (simp only [nrmT] at *; omega) | (simp at * <;> omega) | (simp_all <;> omega) | (simp_all; done)
      ·rfl
    intro sum y hJ
    obtain ⟨h6, h7⟩ := hJ
    refine ⟨?_, ?_⟩
    ·intro b17
     try simp only [nrmT] at b17
     refine ⟨rfl, ?_, ?_, ?_, ?_, ?_, ?_, ?_, ?_, ?_, ?_, ?_, ?_, ?_⟩
     ·first | omega | rfl | (intro hg; simp only [nrmT] at hg; omega) | (intro g1 g2; simp [g1, g2]; done) | (intro g1; simp at g1 ⊢; simp [g1]; done) | (simp only [nrmT] at *; omega) | (simp at * <;> omega) | (simp_all <;> omega) | (simp_all; done)
     ·first | omega | (have hT : tfB ps ls = true := (by simpa using b8); obtain ⟨r1, r2, r3, r4, r5, r6, r7, r8, r9, r10, r11, r12⟩ := J9 hT; first | omega | (have hrw := r7 x.toNat (by omega); omega) | (have hrw := r7 y.toNat (by omega); omega)) | (have hT : tfB ps ls = true := (by simpa using b8); obtain ⟨r1, r2, r3, r4, r5, r6, r7, r8, r9, r10, r11, r12⟩ := J9 hT; obtain ⟨hM1, hM2⟩ : mjB lt wt = true ∧ lt = ps := (by revert b15; cases mjB lt wt <;> simp); have hM3 : mjR ps wt = true := (by rw [hM2] at hM1; unfold mjB at hM1; rw [Bool.and_eq_true] at hM1; exact hM1.1); obtain ⟨q1, q2, q3, q4, q5, q6⟩ := J5 hM3; omega)
     ·first | omega | (have hT : tfB ps ls = true := (by simpa using b8); obtain ⟨r1, r2, r3, r4, r5, r6, r7, r8, r9, r10, r11, r12⟩ := J9 hT; first | omega | (have hrw := r7 x.toNat (by omega); omega) | (have hrw := r7 y.toNat (by omega); omega)) | (have hT : tfB ps ls = true := (by simpa using b8); obtain ⟨r1, r2, r3, r4, r5, r6, r7, r8, r9, r10, r11, r12⟩ := J9 hT; obtain ⟨hM1, hM2⟩ : mjB lt wt = true ∧ lt = ps := (by revert b15; cases mjB lt wt <;> simp); have hM3 : mjR ps wt = true := (by rw [hM2] at hM1; unfold mjB at hM1; rw [Bool.and_eq_true] at hM1; exact hM1.1); obtain ⟨q1, q2, q3, q4, q5, q6⟩ := J5 hM3; omega)
     ·first | omega | rfl | (intro hg; simp only [nrmT] at hg; omega) | (intro g1 g2; simp [g1, g2]; done) | (intro g1; simp at g1 ⊢; simp [g1]; done) | (simp only [nrmT] at *; omega) | (simp at * <;> omega) | (simp_all <;> omega) | (simp_all; done)
     ·first | omega | (have hT : tfB ps ls = true := (by simpa using b8); obtain ⟨r1, r2, r3, r4, r5, r6, r7, r8, r9, r10, r11, r12⟩ := J9 hT; first | omega | (have hrw := r7 x.toNat (by omega); omega) | (have hrw := r7 y.toNat (by omega); omega)) | (have hT : tfB ps ls = true := (by simpa using b8); obtain ⟨r1, r2, r3, r4, r5, r6, r7, r8, r9, r10, r11, r12⟩ := J9 hT; obtain ⟨hM1, hM2⟩ : mjB lt wt = true ∧ lt = ps := (by revert b15; cases mjB lt wt <;> simp); have hM3 : mjR ps wt = true := (by rw [hM2] at hM1; unfold mjB at hM1; rw [Bool.and_eq_true] at hM1; exact hM1.1); obtain ⟨q1, q2, q3, q4, q5, q6⟩ := J5 hM3; omega)
     ·first | omega | (have hT : tfB ps ls = true := (by simpa using b8); obtain ⟨r1, r2, r3, r4, r5, r6, r7, r8, r9, r10, r11, r12⟩ := J9 hT; first | omega | (have hrw := r7 x.toNat (by omega); omega) | (have hrw := r7 y.toNat (by omega); omega)) | (have hT : tfB ps ls = true := (by simpa using b8); obtain ⟨r1, r2, r3, r4, r5, r6, r7, r8, r9, r10, r11, r12⟩ := J9 hT; obtain ⟨hM1, hM2⟩ : mjB lt wt = true ∧ lt = ps := (by revert b15; cases mjB lt wt <;> simp); have hM3 : mjR ps wt = true := (by rw [hM2] at hM1; unfold mjB at hM1; rw [Bool.and_eq_true] at hM1; exact hM1.1); obtain ⟨q1, q2, q3, q4, q5, q6⟩ := J5 hM3; omega)
     ·first | omega | rfl | (intro hg; simp only [nrmT] at hg; omega) | (intro g1 g2; simp [g1, g2]; done) | (intro g1; simp at g1 ⊢; simp [g1]; done) | (simp only [nrmT] at *; omega) | (simp at * <;> omega) | (simp_all <;> omega) | (simp_all; done)
     ·first | omega | (have hT : tfB ps ls = true := (by simpa using b8); obtain ⟨r1, r2, r3, r4, r5, r6, r7, r8, r9, r10, r11, r12⟩ := J9 hT; first | omega | (have hrw := r7 x.toNat (by omega); omega) | (have hrw := r7 y.toNat (by omega); omega)) | (have hT : tfB ps ls = true := (by simpa using b8); obtain ⟨r1, r2, r3, r4, r5, r6, r7, r8, r9, r10, r11, r12⟩ := J9 hT; obtain ⟨hM1, hM2⟩ : mjB lt wt = true ∧ lt = ps := (by revert b15; cases mjB lt wt <;> simp); have hM3 : mjR ps wt = true := (by rw [hM2] at hM1; unfold mjB at hM1; rw [Bool.and_eq_true] at hM1; exact hM1.1); obtain ⟨q1, q2, q3, q4, q5, q6⟩ := J5 hM3; omega)
     ·first | omega | (have hT : tfB ps ls = true := (by simpa using b8); obtain ⟨r1, r2, r3, r4, r5, r6, r7, r8, r9, r10, r11, r12⟩ := J9 hT; first | omega | (have hrw := r7 x.toNat (by omega); omega) | (have hrw := r7 y.toNat (by omega); omega)) | (have hT : tfB ps ls = true := (by simpa using b8); obtain ⟨r1, r2, r3, r4, r5, r6, r7, r8, r9, r10, r11, r12⟩ := J9 hT; obtain ⟨hM1, hM2⟩ : mjB lt wt = true ∧ lt = ps := (by revert b15; cases mjB lt wt <;> simp); have hM3 : mjR ps wt = true := (by rw [hM2] at hM1; unfold mjB at hM1; rw [Bool.and_eq_true] at hM1; exact hM1.1); obtain ⟨q1, q2, q3, q4, q5, q6⟩ := J5 hM3; omega)
     ·have hT : tfB ps ls = true := (by simpa using b8)
      obtain ⟨r1, r2, r3, r4, r5, r6, r7, r8, r9, r10, r11, r12⟩ := J9 hT
      obtain ⟨hM1, hM2⟩ : mjB lt wt = true ∧ lt = ps := by
        revert b15; cases mjB lt wt <;> simp
      have hM3 : mjR ps wt = true := by
        rw [hM2] at hM1
        unfold mjB at hM1
        rw [Bool.and_eq_true] at hM1
        exact hM1.1
      obtain ⟨q1, q2, q3, q4, q5, q6⟩ := J5 hM3
      obtain ⟨k1, k2, k3, k4⟩ := J1h hM3
      rw [← hM2] at k1 k2 k3 k4
      have wi := J1G r11 (x := x2.toNat) q3
      have hw := q3 y.toNat (by omega)
      have ht := r11 y.toNat x2.toNat
      rw [r8 y.toNat x2.toNat (by omega) (by omega)]
      have m1 := Int.mul_nonneg hw.1 ht.1
      have m2 := Int.mul_le_mul hw.2 ht.2 ht.1 (by omega : (0 : Int) ≤ 99)
      omega
     ·have hT : tfB ps ls = true := (by simpa using b8)
      obtain ⟨r1, r2, r3, r4, r5, r6, r7, r8, r9, r10, r11, r12⟩ := J9 hT
      obtain ⟨hM1, hM2⟩ : mjB lt wt = true ∧ lt = ps := by
        revert b15; cases mjB lt wt <;> simp
      have hM3 : mjR ps wt = true := by
        rw [hM2] at hM1
        unfold mjB at hM1
        rw [Bool.and_eq_true] at hM1
        exact hM1.1
      obtain ⟨q1, q2, q3, q4, q5, q6⟩ := J5 hM3
      obtain ⟨k1, k2, k3, k4⟩ := J1h hM3
      rw [← hM2] at k1 k2 k3 k4
      have wi := J1G r11 (x := x2.toNat) q3
      have hw := q3 y.toNat (by omega)
      have ht := r11 y.toNat x2.toNat
      rw [r8 y.toNat x2.toNat (by omega) (by omega)]
      have m1 := Int.mul_nonneg hw.1 ht.1
      have m2 := Int.mul_le_mul hw.2 ht.2 ht.1 (by omega : (0 : Int) ≤ 99)
      have w1 := wi y.toNat (by omega)
      rw [← h7] at w1
      omega
     ·first | omega | rfl | (intro hg; simp only [nrmT] at hg; omega) | (intro g1 g2; simp [g1, g2]; done) | (intro g1; simp at g1 ⊢; simp [g1]; done) | (simp only [nrmT] at *; omega) | (simp at * <;> omega) | (simp_all <;> omega) | (simp_all; done)
     refine ⟨(sum + ((wt.getD y.toNat 0) * (((tfD ps ls).getD y.toNat []).getD x2.toNat 0))), (y + 1), ?_⟩
     refine ⟨?_, ?_, rfl, rfl, rfl, rfl, rfl, rfl, rfl, rfl, rfl, rfl⟩
     ·refine ⟨?_, ?_⟩
      ·first | omega | rfl | (intro hg; simp only [nrmT] at hg; omega) | (intro g1 g2; simp [g1, g2]; done) | (intro g1; simp at g1 ⊢; simp [g1]; done) | (simp only [nrmT] at *; omega) | (simp at * <;> omega) | (simp_all <;> omega) | (simp_all; done)
      ·have hT : tfB ps ls = true := (by simpa using b8)
       obtain ⟨r1, r2, r3, r4, r5, r6, r7, r8, r9, r10, r11, r12⟩ := J9 hT
       obtain ⟨hM1, hM2⟩ : mjB lt wt = true ∧ lt = ps := by
         revert b15; cases mjB lt wt <;> simp
       have hM3 : mjR ps wt = true := by
         rw [hM2] at hM1
         unfold mjB at hM1
         rw [Bool.and_eq_true] at hM1
         exact hM1.1
       obtain ⟨q1, q2, q3, q4, q5, q6⟩ := J5 hM3
       obtain ⟨k1, k2, k3, k4⟩ := J1h hM3
       rw [← hM2] at k1 k2 k3 k4
       rw [show (y + 1).toNat = y.toNat + 1 by omega, JI, ← h7, r8 y.toNat x2.toNat (by omega) (by omega)]
     first | (show _ < _; omega) | (simp only [l_FnTrees_mJ2]; omega) | (simp only [l_FnTrees_mJ2] at *; simp at *; omega)
    intro b18
    try simp only [nrmT] at b18
    refine ⟨id, id, rfl, fun _ => rfl, ?_, ?_, ?_⟩
    ·intro h; rw [h]; rfl
    ·intro b19
     refine ⟨?_, ?_⟩
     ·intro b20
      try simp only [nrmT] at b20
      refine ⟨?_, ?_⟩
      ·first | omega | rfl | (intro hg; simp only [nrmT] at hg; omega) | (intro g1 g2; simp [g1, g2]; done) | (intro g1; simp at g1 ⊢; simp [g1]; done) | (simp only [nrmT] at *; omega) | (simp at * <;> omega) | (simp_all <;> omega) | (simp_all; done)
      refine ⟨sum, sum, (x2 + 1), ?_⟩
      refine ⟨?_, ?_, rfl, rfl, rfl, rfl, rfl, rfl, rfl, rfl⟩
      ·refine ⟨?_, ?_, ?_⟩
       ·first | omega | rfl | (intro hg; simp only [nrmT] at hg; omega) | (intro g1 g2; simp [g1, g2]; done) | (intro g1; simp at g1 ⊢; simp [g1]; done) | (simp only [nrmT] at *; omega) | (simp at * <;> omega) | (simp_all <;> omega) | (simp_all; done)
       ·have hT : tfB ps ls = true := (by simpa using b8)
        obtain ⟨r1, r2, r3, r4, r5, r6, r7, r8, r9, r10, r11, r12⟩ := J9 hT
        obtain ⟨hM1, hM2⟩ : mjB lt wt = true ∧ lt = ps := by
          revert b15; cases mjB lt wt <;> simp
        have hM3 : mjR ps wt = true := by
          rw [hM2] at hM1
          unfold mjB at hM1
          rw [Bool.and_eq_true] at hM1
          exact hM1.1
        obtain ⟨q1, q2, q3, q4, q5, q6⟩ := J5 hM3
        obtain ⟨k1, k2, k3, k4⟩ := J1h hM3
        rw [← hM2] at k1 k2 k3 k4
        have wi := J1G r11 (x := x2.toNat) q3
        have es : sum = J0y ps ls wt x2.toNat := by rw [h7, show y.toNat = ps.length by omega]; rfl
        have w0 : 0 ≤ J0y ps ls wt x2.toNat := (wi ps.length (Nat.le_refl _)).1
        have st := J25 h4 w0
        rw [show (x2 + 1).toNat = x2.toNat + 1 by omega, es]
        exact st.1 (by rw [← es]; first | (simp_all; done) | (simp_all; omega))
       ·have hT : tfB ps ls = true := (by simpa using b8)
        obtain ⟨r1, r2, r3, r4, r5, r6, r7, r8, r9, r10, r11, r12⟩ := J9 hT
        obtain ⟨hM1, hM2⟩ : mjB lt wt = true ∧ lt = ps := by
          revert b15; cases mjB lt wt <;> simp
        have hM3 : mjR ps wt = true := by
          rw [hM2] at hM1
          unfold mjB at hM1
          rw [Bool.and_eq_true] at hM1
          exact hM1.1
        obtain ⟨q1, q2, q3, q4, q5, q6⟩ := J5 hM3
        obtain ⟨k1, k2, k3, k4⟩ := J1h hM3
        rw [← hM2] at k1 k2 k3 k4
        have wi := J1G r11 (x := x2.toNat) q3
        have es : sum = J0y ps ls wt x2.toNat := by rw [h7, show y.toNat = ps.length by omega]; rfl
        have w0 : 0 ≤ J0y ps ls wt x2.toNat := (wi ps.length (Nat.le_refl _)).1
        have st := J25 h4 w0
        have e9 : x2 = mjN lt wt := by simpa using b20
        rw [if_pos (by omega), es, e9]
      first | (show _ < _; omega) | (simp only [l_FnTrees_mJ1]; omega) | (simp only [l_FnTrees_mJ1] at *; simp at *; omega)
     intro b21
     try simp only [nrmT] at b21
     refine ⟨?_, ?_⟩
     ·first | omega | rfl | (intro hg; simp only [nrmT] at hg; omega) | (intro g1 g2; simp [g1, g2]; done) | (intro g1; simp at g1 ⊢; simp [g1]; done) | (simp only [nrmT] at *; omega) | (simp at * <;> omega) | (simp_all <;> omega) | (simp_all; done)
     refine ⟨sum, own, (x2 + 1), ?_⟩
     refine ⟨?_, ?_, rfl, rfl, rfl, rfl, rfl, rfl, rfl, rfl⟩
     ·refine ⟨?_, ?_, ?_⟩
      ·first | omega | rfl | (intro hg; simp only [nrmT] at hg; omega) | (intro g1 g2; simp [g1, g2]; done) | (intro g1; simp at g1 ⊢; simp [g1]; done) | (simp only [nrmT] at *; omega) | (simp at * <;> omega) | (simp_all <;> omega) | (simp_all; done)
      ·have hT : tfB ps ls = true := (by simpa using b8)
       obtain ⟨r1, r2, r3, r4, r5, r6, r7, r8, r9, r10, r11, r12⟩ := J9 hT
       obtain ⟨hM1, hM2⟩ : mjB lt wt = true ∧ lt = ps := by
         revert b15; cases mjB lt wt <;> simp
       have hM3 : mjR ps wt = true := by
         rw [hM2] at hM1
         unfold mjB at hM1
         rw [Bool.and_eq_true] at hM1
         exact hM1.1
       obtain ⟨q1, q2, q3, q4, q5, q6⟩ := J5 hM3
       obtain ⟨k1, k2, k3, k4⟩ := J1h hM3
       rw [← hM2] at k1 k2 k3 k4
       have wi := J1G r11 (x := x2.toNat) q3
       have es : sum = J0y ps ls wt x2.toNat := by rw [h7, show y.toNat = ps.length by omega]; rfl
       have w0 : 0 ≤ J0y ps ls wt x2.toNat := (wi ps.length (Nat.le_refl _)).1
       have st := J25 h4 w0
       rw [show (x2 + 1).toNat = x2.toNat + 1 by omega, es]
       exact st.1 (by rw [← es]; first | (simp_all; done) | (simp_all; omega))
      ·have e9 : x2 ≠ mjN lt wt := by simpa using b21
       rw [h5]
       by_cases q : mjN lt wt < x2
       · rw [if_pos q, if_pos (by omega)]
       rw [if_neg q, if_neg (by omega)]
     first | (show _ < _; omega) | (simp only [l_FnTrees_mJ1]; omega) | (simp only [l_FnTrees_mJ1] at *; simp at *; omega)
    intro b22
    refine ⟨?_, ?_⟩
    ·intro b23
     try simp only [nrmT] at b23
     refine ⟨?_, ?_⟩
     ·first | omega | rfl | (intro hg; simp only [nrmT] at hg; omega) | (intro g1 g2; simp [g1, g2]; done) | (intro g1; simp at g1 ⊢; simp [g1]; done) | (simp only [nrmT] at *; omega) | (simp at * <;> omega) | (simp_all <;> omega) | (simp_all; done)
     refine ⟨least, sum, (x2 + 1), ?_⟩
     refine ⟨?_, ?_, rfl, rfl, rfl, rfl, rfl, rfl, rfl, rfl⟩
     ·refine ⟨?_, ?_, ?_⟩
      ·first | omega | rfl | (intro hg; simp only [nrmT] at hg; omega) | (intro g1 g2; simp [g1, g2]; done) | (intro g1; simp at g1 ⊢; simp [g1]; done) | (simp only [nrmT] at *; omega) | (simp at * <;> omega) | (simp_all <;> omega) | (simp_all; done)
      ·have hT : tfB ps ls = true := (by simpa using b8)
       obtain ⟨r1, r2, r3, r4, r5, r6, r7, r8, r9, r10, r11, r12⟩ := J9 hT
       obtain ⟨hM1, hM2⟩ : mjB lt wt = true ∧ lt = ps := by
         revert b15; cases mjB lt wt <;> simp
       have hM3 : mjR ps wt = true := by
         rw [hM2] at hM1
         unfold mjB at hM1
         rw [Bool.and_eq_true] at hM1
         exact hM1.1
       obtain ⟨q1, q2, q3, q4, q5, q6⟩ := J5 hM3
       obtain ⟨k1, k2, k3, k4⟩ := J1h hM3
       rw [← hM2] at k1 k2 k3 k4
       have wi := J1G r11 (x := x2.toNat) q3
       have es : sum = J0y ps ls wt x2.toNat := by rw [h7, show y.toNat = ps.length by omega]; rfl
       have w0 : 0 ≤ J0y ps ls wt x2.toNat := (wi ps.length (Nat.le_refl _)).1
       have st := J25 h4 w0
       rw [show (x2 + 1).toNat = x2.toNat + 1 by omega]
       exact st.2 (by rw [← es]; first | (simp_all; done) | (simp_all; omega))
      ·have hT : tfB ps ls = true := (by simpa using b8)
       obtain ⟨r1, r2, r3, r4, r5, r6, r7, r8, r9, r10, r11, r12⟩ := J9 hT
       obtain ⟨hM1, hM2⟩ : mjB lt wt = true ∧ lt = ps := by
         revert b15; cases mjB lt wt <;> simp
       have hM3 : mjR ps wt = true := by
         rw [hM2] at hM1
         unfold mjB at hM1
         rw [Bool.and_eq_true] at hM1
         exact hM1.1
       obtain ⟨q1, q2, q3, q4, q5, q6⟩ := J5 hM3
       obtain ⟨k1, k2, k3, k4⟩ := J1h hM3
       rw [← hM2] at k1 k2 k3 k4
       have wi := J1G r11 (x := x2.toNat) q3
       have es : sum = J0y ps ls wt x2.toNat := by rw [h7, show y.toNat = ps.length by omega]; rfl
       have w0 : 0 ≤ J0y ps ls wt x2.toNat := (wi ps.length (Nat.le_refl _)).1
       have st := J25 h4 w0
       have e9 : x2 = mjN lt wt := by simpa using b23
       rw [if_pos (by omega), es, e9]
     first | (show _ < _; omega) | (simp only [l_FnTrees_mJ1]; omega) | (simp only [l_FnTrees_mJ1] at *; simp at *; omega)
    intro b24
    try simp only [nrmT] at b24
    refine ⟨?_, ?_⟩
    ·first | omega | rfl | (intro hg; simp only [nrmT] at hg; omega) | (intro g1 g2; simp [g1, g2]; done) | (intro g1; simp at g1 ⊢; simp [g1]; done) | (simp only [nrmT] at *; omega) | (simp at * <;> omega) | (simp_all <;> omega) | (simp_all; done)
    refine ⟨least, own, (x2 + 1), ?_⟩
    refine ⟨?_, ?_, rfl, rfl, rfl, rfl, rfl, rfl, rfl, rfl⟩
    ·refine ⟨?_, ?_, ?_⟩
     ·first | omega | rfl | (intro hg; simp only [nrmT] at hg; omega) | (intro g1 g2; simp [g1, g2]; done) | (intro g1; simp at g1 ⊢; simp [g1]; done) | (simp only [nrmT] at *; omega) | (simp at * <;> omega) | (simp_all <;> omega) | (simp_all; done)
     ·have hT : tfB ps ls = true := (by simpa using b8)
      obtain ⟨r1, r2, r3, r4, r5, r6, r7, r8, r9, r10, r11, r12⟩ := J9 hT
      obtain ⟨hM1, hM2⟩ : mjB lt wt = true ∧ lt = ps := by
        revert b15; cases mjB lt wt <;> simp
      have hM3 : mjR ps wt = true := by
        rw [hM2] at hM1
        unfold mjB at hM1
        rw [Bool.and_eq_true] at hM1
        exact hM1.1
      obtain ⟨q1, q2, q3, q4, q5, q6⟩ := J5 hM3
      obtain ⟨k1, k2, k3, k4⟩ := J1h hM3
      rw [← hM2] at k1 k2 k3 k4
      have wi := J1G r11 (x := x2.toNat) q3
      have es : sum = J0y ps ls wt x2.toNat := by rw [h7, show y.toNat = ps.length by omega]; rfl
      have w0 : 0 ≤ J0y ps ls wt x2.toNat := (wi ps.length (Nat.le_refl _)).1
      have st := J25 h4 w0
      rw [show (x2 + 1).toNat = x2.toNat + 1 by omega]
      exact st.2 (by rw [← es]; first | (simp_all; done) | (simp_all; omega))
     ·have e9 : x2 ≠ mjN lt wt := by simpa using b24
      rw [h5]
      by_cases q : mjN lt wt < x2
      · rw [if_pos q, if_pos (by omega)]
      rw [if_neg q, if_neg (by omega)]
    first | (show _ < _; omega) | (simp only [l_FnTrees_mJ1]; omega) | (simp only [l_FnTrees_mJ1] at *; simp at *; omega)
   intro b25
   try simp only [nrmT] at b25
   have hT : tfB ps ls = true := (by simpa using b8)
   obtain ⟨r1, r2, r3, r4, r5, r6, r7, r8, r9, r10, r11, r12⟩ := J9 hT
   obtain ⟨hM1, hM2⟩ : mjB lt wt = true ∧ lt = ps := by
     revert b15; cases mjB lt wt <;> simp
   have hM3 : mjR ps wt = true := by
     rw [hM2] at hM1
     unfold mjB at hM1
     rw [Bool.and_eq_true] at hM1
     exact hM1.1
   obtain ⟨q1, q2, q3, q4, q5, q6⟩ := J5 hM3
   obtain ⟨k1, k2, k3, k4⟩ := J1h hM3
   rw [← hM2] at k1 k2 k3 k4
   rw [beq_iff_eq]
   obtain ⟨_, j2, j3, j4⟩ := J1h hM3
   obtain ⟨_, l2⟩ := h4
   rw [show x2.toNat = ps.length by omega] at l2
   obtain ⟨l3, l4, z, l5, l6⟩ := l2 (by omega)
   rw [hM2] at h5
   rw [h5, if_pos (by omega)]
   have a1 := l4 (mjN ps wt).toNat (by omega)
   have a2 := J6V r2 (ls := ls) (fun z hz => (r10 z hz).1) (fun y hy => (q3 y hy).1) j4 z
   omega
  intro b26
  exact rfl
theorem l_FnTrees_pc (code : List Nat) (hb : ∀ x9 ∈ code, x9 < 256) : PC Try.prog 8 [.sl (.bytes code)] (.one (.d (.bool true))) :=
  pc_wf @Try.call8 fun hw => pc_by (by kernel_rfl) Try.func8 @Try.call8 (by kernel_rfl) l_FnTrees_C (l_FnTrees_A code) (by kernel_rfl) (l_FnTrees_vc code hb hw.1) (by kernel_rfl)
end Go.Proofs.Ytomnmacmlhkceaa
