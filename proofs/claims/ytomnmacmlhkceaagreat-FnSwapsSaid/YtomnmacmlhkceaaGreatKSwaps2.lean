/- Contracts of the functions that the law reaches. -/
import Derived.Test.YtomnmacmlhkceaaGreatKSwaps1
import Derived.KernelRfl
set_option linter.unusedVariables false
set_option linter.unusedSimpArgs false
namespace Go.Proofs.YtomnmacmlhkceaaGreat
open Go

theorem J9q (U : ZI) (E : ZR) (hm : ∀ i a : Nat, i < E.length → a < U.length → a < (E.getD i []).length ∧ 0 ≤ (E.getD i []).getD a 0 ∧ (E.getD i []).getD a 0 ≤ 99) (w_Open : (U.length : Int) ≤ 9223372036854775807) (w_Dist : (E.length : Int) ≤ 9223372036854775807) (v_Dist : ∀ x9 ∈ E, (x9.length : Int) ≤ 9223372036854775807) : J5L U E := by
  unfold J5L
  refine ⟨?_, ?_⟩
  ·refine ⟨0, ?_⟩
   refine ⟨?_, rfl, rfl, rfl⟩
   ·refine ⟨?_, ?_, ?_⟩
    ·omega
    ·omega
    ·rfl
  intro i hJ
  obtain ⟨h1, h2, h3⟩ := hJ
  refine ⟨?_, ?_⟩
  ·intro b1
   try simp only [nrmT] at b1
   refine ⟨?_, ?_⟩
   ·refine ⟨0, ?_⟩
    refine ⟨?_, rfl, rfl, rfl, rfl⟩
    ·refine ⟨?_, ?_, ?_⟩
     ·omega
     ·omega
     ·rfl
   intro j hJ
   obtain ⟨h4, h5, h6⟩ := hJ
   refine ⟨?_, ?_⟩
   ·intro b2
    try simp only [nrmT] at b2
    refine ⟨?_, ?_⟩
    ·refine ⟨0, ?_⟩
     refine ⟨?_, rfl, rfl, rfl, rfl, rfl⟩
     ·refine ⟨?_, ?_, ?_⟩
      ·omega
      ·omega
      ·rfl
    intro a hJ
    obtain ⟨h7, h8, h9⟩ := hJ
    refine ⟨?_, ?_⟩
    ·intro b3
     try simp only [nrmT] at b3
     refine ⟨?_, ?_⟩
     ·refine ⟨0, ?_⟩
      refine ⟨?_, rfl, rfl, rfl, rfl, rfl, rfl⟩
      ·refine ⟨?_, ?_, ?_⟩
       ·omega
       ·omega
       ·rfl
     intro b hJ
     obtain ⟨k1, k2, k3⟩ := hJ
     refine ⟨?_, ?_⟩
     ·intro b4
      try simp only [nrmT] at b4
      refine ⟨rfl, ?_, ?_, ?_, ?_, ?_, ?_, ?_, ?_, ?_, ?_, ?_, ?_, ?_, ?_, ?_, ?_, ?_, ?_, ?_, ?_, ?_, ?_, ?_, ?_, ?_, ?_, ?_, ?_⟩
      ·omega
      ·omega
      ·omega
      ·omega
      ·have q1 := hm i.toNat a.toNat (by omega) (by omega)
       have q2 := hm i.toNat b.toNat (by omega) (by omega)
       have q3 := hm j.toNat b.toNat (by omega) (by omega)
       have q4 := hm j.toNat a.toNat (by omega) (by omega)
       omega
      ·have q1 := hm i.toNat a.toNat (by omega) (by omega)
       have q2 := hm i.toNat b.toNat (by omega) (by omega)
       have q3 := hm j.toNat b.toNat (by omega) (by omega)
       have q4 := hm j.toNat a.toNat (by omega) (by omega)
       omega
      ·omega
      ·omega
      ·omega
      ·omega
      ·have q1 := hm i.toNat a.toNat (by omega) (by omega)
       have q2 := hm i.toNat b.toNat (by omega) (by omega)
       have q3 := hm j.toNat b.toNat (by omega) (by omega)
       have q4 := hm j.toNat a.toNat (by omega) (by omega)
       omega
      ·have q1 := hm i.toNat a.toNat (by omega) (by omega)
       have q2 := hm i.toNat b.toNat (by omega) (by omega)
       have q3 := hm j.toNat b.toNat (by omega) (by omega)
       have q4 := hm j.toNat a.toNat (by omega) (by omega)
       omega
      ·omega
      ·omega
      ·omega
      ·omega
      ·have q1 := hm i.toNat a.toNat (by omega) (by omega)
       have q2 := hm i.toNat b.toNat (by omega) (by omega)
       have q3 := hm j.toNat b.toNat (by omega) (by omega)
       have q4 := hm j.toNat a.toNat (by omega) (by omega)
       omega
      ·have q1 := hm i.toNat a.toNat (by omega) (by omega)
       have q2 := hm i.toNat b.toNat (by omega) (by omega)
       have q3 := hm j.toNat b.toNat (by omega) (by omega)
       have q4 := hm j.toNat a.toNat (by omega) (by omega)
       omega
      ·have q1 := hm i.toNat a.toNat (by omega) (by omega)
       have q2 := hm i.toNat b.toNat (by omega) (by omega)
       have q3 := hm j.toNat b.toNat (by omega) (by omega)
       have q4 := hm j.toNat a.toNat (by omega) (by omega)
       omega
      ·omega
      ·omega
      ·omega
      ·omega
      ·have q1 := hm i.toNat a.toNat (by omega) (by omega)
       have q2 := hm i.toNat b.toNat (by omega) (by omega)
       have q3 := hm j.toNat b.toNat (by omega) (by omega)
       have q4 := hm j.toNat a.toNat (by omega) (by omega)
       omega
      ·have q1 := hm i.toNat a.toNat (by omega) (by omega)
       have q2 := hm i.toNat b.toNat (by omega) (by omega)
       have q3 := hm j.toNat b.toNat (by omega) (by omega)
       have q4 := hm j.toNat a.toNat (by omega) (by omega)
       omega
      ·have q1 := hm i.toNat a.toNat (by omega) (by omega)
       have q2 := hm i.toNat b.toNat (by omega) (by omega)
       have q3 := hm j.toNat b.toNat (by omega) (by omega)
       have q4 := hm j.toNat a.toNat (by omega) (by omega)
       omega
      ·intro b5
       try simp only [nrmT] at b5
       have e1 : J5s U.length E i.toNat j.toNat a.toNat = false := allTo_falseI k1 (by omega) (by unfold J0U; rw [decide_eq_true (by omega)]; rfl)
       have e2 : J4U U.length E i.toNat j.toNat = false := allTo_falseI h7 (by omega) e1
       have e3 : J4G U.length E i.toNat = false := allTo_falseI h4 (by omega) e2
       exact (show JH U.length E = false from allTo_falseI h1 (by omega) e3).symm
      intro b6
      try simp only [nrmT] at b6
      refine ⟨?_, ?_⟩
      ·omega
      refine ⟨(b + 1), ?_⟩
      refine ⟨?_, ?_, rfl, rfl, rfl, rfl, rfl, rfl⟩
      ·refine ⟨?_, ?_, ?_⟩
       ·omega
       ·omega
       ·refine allTo_step k1 k3 ?_
        unfold J0U
        rw [decide_eq_false (by omega)]; rfl
      (simp only [J1C]; omega)
     intro b7
     try simp only [nrmT] at b7
     refine ⟨?_, ?_⟩
     ·omega
     refine ⟨(a + 1), ?_⟩
     refine ⟨?_, ?_, rfl, rfl, rfl, rfl, rfl⟩
     ·refine ⟨?_, ?_, ?_⟩
      ·omega
      ·omega
      ·refine allTo_step h7 h9 ?_
       show allTo _ U.length = true
       rw [← k3]; congr 1; omega
     (simp only [J1G]; omega)
    intro b8
    try simp only [nrmT] at b8
    refine ⟨?_, ?_⟩
    ·omega
    refine ⟨(j + 1), ?_⟩
    refine ⟨?_, ?_, rfl, rfl, rfl, rfl⟩
    ·refine ⟨?_, ?_, ?_⟩
     ·omega
     ·omega
     ·refine allTo_step h4 h6 ?_
      show allTo _ U.length = true
      rw [← h9]; congr 1; omega
    (simp only [J1Q]; omega)
   intro b9
   try simp only [nrmT] at b9
   refine ⟨?_, ?_⟩
   ·omega
   refine ⟨(i + 1), ?_⟩
   refine ⟨?_, ?_, rfl, rfl, rfl⟩
   ·refine ⟨?_, ?_, ?_⟩
    ·omega
    ·omega
    ·refine allTo_step h1 h3 ?_
     show allTo _ E.length = true
     rw [← h6]; congr 1; omega
   (simp only [J1N]; omega)
  intro b10
  try simp only [nrmT] at b10
  unfold JH
  rw [← h3]; congr 1; omega
theorem J95 (U : ZI) (E : ZR) (hm : ∀ i a : Nat, i < E.length → a < U.length → a < (E.getD i []).length ∧ 0 ≤ (E.getD i []).getD a 0 ∧ (E.getD i []).getD a 0 ≤ 99) : PC Tryz.prog 225 [.agg [.sl (.ints U), .sl (.rows E)]] (.one (.d (.bool (JH U.length E)))) :=
  pc_wf @Tryz.call225 fun hw => pc_by (by kernel_rfl) Tryz.func225 @Tryz.call225 (by kernel_rfl) Jaa (J9E U E) (by kernel_rfl) (J9q U E hm hw.1.1 hw.1.2.1.1 hw.1.2.1.2) (by kernel_rfl)
def J8C : List D → Orc := orcN [none] fun ds => match ds with
  | [.agg [.sl (.ints U), .sl (.rows E)]] => some (.one (.d (.bool (JH U.length E))))
  | _ => none
abbrev J0J (U : ZI) (E : ZR) (O1 : ZI) (D1 : ZR) : Prop := (drF O1 D1)
abbrev J3w (U : ZI) (E : ZR) (O1 : ZI) (D1 : ZR) : Nat := (tot D1).toNat
abbrev J2n (U : ZI) (E : ZR) (O1 : ZI) (D1 : ZR) (i : Int) (O2 : ZI) (D2 : ZR) : Prop := (O2 = O1) ∧ (0 ≤ i) ∧ (i ≤ (D2.length : Int)) ∧ (drF O1 D2) ∧ (D2.length = D1.length) ∧ (Clo D1 D2 (allTo (J4G O1.length D1) i.toNat))
abbrev J2l (U : ZI) (E : ZR) (O1 : ZI) (D1 : ZR) (i : Int) (O2 : ZI) (D2 : ZR) : Nat := (D2.length - i).toNat
abbrev J2i (U : ZI) (E : ZR) (O1 : ZI) (D1 : ZR) (i : Int) (O2 : ZI) (D2 : ZR) (j : Int) (O3 : ZI) (D3 : ZR) : Prop := (O3 = O1) ∧ (0 ≤ j) ∧ (j ≤ (D3.length : Int)) ∧ (drF O1 D3) ∧ (D3.length = D1.length) ∧ (Clo D1 D3 (allTo (J4G O1.length D1) i.toNat && allTo (J4U O1.length D1 i.toNat) j.toNat))
abbrev J2g (U : ZI) (E : ZR) (O1 : ZI) (D1 : ZR) (i : Int) (O2 : ZI) (D2 : ZR) (j : Int) (O3 : ZI) (D3 : ZR) : Nat := (D3.length - j).toNat
abbrev J2h (U : ZI) (E : ZR) (O1 : ZI) (D1 : ZR) (i : Int) (O2 : ZI) (D2 : ZR) (j : Int) (O3 : ZI) (D3 : ZR) (a : Int) (O4 : ZI) (D4 : ZR) : Prop := (O4 = O1) ∧ (0 ≤ a) ∧ (a ≤ (O1.length : Int)) ∧ (drF O1 D4) ∧ (D4.length = D1.length) ∧ (Clo D1 D4 (allTo (J4G O1.length D1) i.toNat && allTo (J4U O1.length D1 i.toNat) j.toNat && allTo (J5s O1.length D1 i.toNat j.toNat) a.toNat))
abbrev J2j (U : ZI) (E : ZR) (O1 : ZI) (D1 : ZR) (i : Int) (O2 : ZI) (D2 : ZR) (j : Int) (O3 : ZI) (D3 : ZR) (a : Int) (O4 : ZI) (D4 : ZR) : Nat := (O1.length - a).toNat
abbrev J2e (U : ZI) (E : ZR) (O1 : ZI) (D1 : ZR) (i : Int) (O2 : ZI) (D2 : ZR) (j : Int) (O3 : ZI) (D3 : ZR) (a : Int) (O4 : ZI) (D4 : ZR) (b : Int) (D5 : ZR) : Prop := (0 ≤ b) ∧ (b ≤ (O1.length : Int)) ∧ (drF O1 D5) ∧ (D5.length = D1.length) ∧ (Clo D1 D5 (allTo (J4G O1.length D1) i.toNat && allTo (J4U O1.length D1 i.toNat) j.toNat && allTo (J5s O1.length D1 i.toNat j.toNat) a.toNat && allTo (fun b => !J0U D1 i.toNat j.toNat a.toNat b) b.toNat))
abbrev J2f (U : ZI) (E : ZR) (O1 : ZI) (D1 : ZR) (i : Int) (O2 : ZI) (D2 : ZR) (j : Int) (O3 : ZI) (D3 : ZR) (a : Int) (O4 : ZI) (D4 : ZR) (b : Int) (D5 : ZR) : Nat := (O1.length - b).toNat
abbrev J2c (U : ZI) (E : ZR) (O : ZI) (D : ZR) : Prop := (drF O D)
def J2b (U : ZI) (E : ZR) : Ex := ex2 0 (fun (O : ZI) (D : ZR) => J2c U E O D) (fun (O : ZI) (D : ZR) => []) (fun (O : ZI) (D : ZR) => .agg [.own 3 (.ints O), .mat 3 24 D])
def JaJ (f : FuncId) (ds : List D) : Orc := bif Nat.beq f 224 then JaE ds else bif Nat.beq f 225 then J8C ds else bif Nat.beq f 161 then J52 ds else .no
def Jay (U : ZI) (E : ZR) : Ann := .two (.none) (.two (.none) (.two (.loop (cut2 (fun (O1 : ZI) (D1 : ZR) => J0J U E O1 D1) (fun (O1 : ZI) (D1 : ZR) => [(2, .ptr 2 0), (3, .ptr 3 0)]) (fun (O1 : ZI) (D1 : ZR) => [(2, .box 27 [.d true (.nil), .d true (.nil)]), (1000000, .arr true 3 (.ints O1)), (1000001, .mat 3 24 D1 none), (3, .box 27 [.own 1000000 O1.length, .own 1000001 D1.length])])) (fun g => J3w U E g.1 g.2) (fun g => (fun (O1 : ZI) (D1 : ZR) => .two (.none) (.two (.none) (.loop (cut3 (fun (i : Int) (O2 : ZI) (D2 : ZR) => J2n U E O1 D1 i O2 D2) (fun (i : Int) (O2 : ZI) (D2 : ZR) => [(2, .ptr 2 0), (3, .ptr 3 0), (4, .d true (.int .i64 i))]) (fun (i : Int) (O2 : ZI) (D2 : ZR) => [(2, .box 27 [.d true (.nil), .d true (.nil)]), (1000101, .arr true 3 (.ints O2)), (1000102, .mat 3 24 D2 none), (3, .box 27 [.own 1000101 O2.length, .own 1000102 D2.length])])) (fun g => J2l U E O1 D1 g.1 g.2.1 g.2.2) (fun g => (fun (i : Int) (O2 : ZI) (D2 : ZR) => .two (.none) (.two (.two (.none) (.loop (cut3 (fun (j : Int) (O3 : ZI) (D3 : ZR) => J2i U E O1 D1 i O2 D2 j O3 D3) (fun (j : Int) (O3 : ZI) (D3 : ZR) => [(2, .ptr 2 0), (3, .ptr 3 0), (4, .d true (.int .i64 i)), (5, .d true (.int .i64 j))]) (fun (j : Int) (O3 : ZI) (D3 : ZR) => [(2, .box 27 [.d true (.nil), .d true (.nil)]), (1000201, .arr true 3 (.ints O3)), (1000202, .mat 3 24 D3 none), (3, .box 27 [.own 1000201 O3.length, .own 1000202 D3.length])])) (fun g => J2g U E O1 D1 i O2 D2 g.1 g.2.1 g.2.2) (fun g => (fun (j : Int) (O3 : ZI) (D3 : ZR) => .two (.none) (.two (.two (.none) (.loop (cut3 (fun (a : Int) (O4 : ZI) (D4 : ZR) => J2h U E O1 D1 i O2 D2 j O3 D3 a O4 D4) (fun (a : Int) (O4 : ZI) (D4 : ZR) => [(2, .ptr 2 0), (3, .ptr 3 0), (4, .d true (.int .i64 i)), (5, .d true (.int .i64 j)), (6, .d true (.int .i64 a))]) (fun (a : Int) (O4 : ZI) (D4 : ZR) => [(2, .box 27 [.d true (.nil), .d true (.nil)]), (1000301, .arr true 3 (.ints O4)), (1000302, .mat 3 24 D4 none), (3, .box 27 [.own 1000301 O4.length, .own 1000302 D4.length])])) (fun g => J2j U E O1 D1 i O2 D2 j O3 D3 g.1 g.2.1 g.2.2) (fun g => (fun (a : Int) (O4 : ZI) (D4 : ZR) => .two (.none) (.two (.two (.none) (.loop (cut2 (fun (b : Int) (D5 : ZR) => J2e U E O1 D1 i O2 D2 j O3 D3 a O4 D4 b D5) (fun (b : Int) (D5 : ZR) => [(2, .ptr 2 0), (3, .ptr 3 0), (4, .d true (.int .i64 i)), (5, .d true (.int .i64 j)), (6, .d true (.int .i64 a)), (7, .d true (.int .i64 b))]) (fun (b : Int) (D5 : ZR) => [(2, .box 27 [.d true (.nil), .d true (.nil)]), (1000401, .mat 3 24 D5 none), (3, .box 27 [.own 1000301 O4.length, .own 1000401 D5.length]), (1000301, .arr true 3 (.ints O4))])) (fun g => J2f U E O1 D1 i O2 D2 j O3 D3 a O4 D4 g.1 g.2) (fun _ => .none))) (.none))) (g.1) (g.2.1) (g.2.2)))) (.none))) (g.1) (g.2.1) (g.2.2)))) (.none))) (g.1) (g.2.1) (g.2.2))))) (g.1) (g.2))) (.none)))
def J6B (U : ZI) (E : ZR) : Prop :=
  (PC Tryz.prog 224 [.agg [.sl (.ints U), .sl (.rows E)]] (.agg [.own 3 (.ints U), .mat 3 24 E])) ∧ ((∃ O1' : ZI, ∃ D1' : ZR, (J0J U E O1' D1') ∧ (U = O1') ∧ (E = D1') ∧ (U.length = O1'.length) ∧ (E.length = D1'.length)) ∧ (∀ O1 : ZI, ∀ D1 : ZR, (J0J U E O1 D1) → (O1.length = O1.length) ∧ (D1.length = D1.length) ∧ (PC Tryz.prog 225 [.agg [.sl (.ints O1), .sl (.rows D1)]] (.one (.d (.bool (JH O1.length D1))))) ∧ (((!(JH O1.length D1)) = true → ((∃ i' : Int, ∃ O2' : ZI, ∃ D2' : ZR, (J2n U E O1 D1 i' O2' D2') ∧ ((0 : Int) = i') ∧ (O1 = O2') ∧ (D1 = D2') ∧ (O1.length = O2'.length) ∧ (D1.length = D2'.length)) ∧ (∀ i : Int, ∀ O2 : ZI, ∀ D2 : ZR, (J2n U E O1 D1 i O2 D2) → (((decide (i < (D2.length : Int))) = true → ((∃ j' : Int, ∃ O3' : ZI, ∃ D3' : ZR, (J2i U E O1 D1 i O2 D2 j' O3' D3') ∧ (i = i) ∧ ((0 : Int) = j') ∧ (O2 = O3') ∧ (D2 = D3') ∧ (O2.length = O3'.length) ∧ (D2.length = D3'.length)) ∧ (∀ j : Int, ∀ O3 : ZI, ∀ D3 : ZR, (J2i U E O1 D1 i O2 D2 j O3 D3) → (((decide (j < (D3.length : Int))) = true → ((∃ a' : Int, ∃ O4' : ZI, ∃ D4' : ZR, (J2h U E O1 D1 i O2 D2 j O3 D3 a' O4' D4') ∧ (i = i) ∧ (j = j) ∧ ((0 : Int) = a') ∧ (O3 = O4') ∧ (D3 = D4') ∧ (O3.length = O4'.length) ∧ (D3.length = D4'.length)) ∧ (∀ a : Int, ∀ O4 : ZI, ∀ D4 : ZR, (J2h U E O1 D1 i O2 D2 j O3 D3 a O4 D4) → (((decide (a < (O4.length : Int))) = true → ((∃ b' : Int, ∃ D5' : ZR, (J2e U E O1 D1 i O2 D2 j O3 D3 a O4 D4 b' D5') ∧ (i = i) ∧ (j = j) ∧ (a = a) ∧ ((0 : Int) = b') ∧ (D4 = D5') ∧ (O4.length = O4.length) ∧ (D4.length = D5'.length) ∧ (O4 = O4)) ∧ (∀ b : Int, ∀ D5 : ZR, (J2e U E O1 D1 i O2 D2 j O3 D3 a O4 D4 b D5) → (((decide (b < (O4.length : Int))) = true → (true = true) ∧ ((0 : Int) ≤ i) ∧ ((i : Int) < (D5.length : Int)) ∧ (i.toNat < D5.length) ∧ ((0 : Int) ≤ i) ∧ ((i : Int) < (D5.length : Int)) ∧ (i.toNat < D5.length) ∧ ((0 : Int) ≤ a) ∧ ((a : Int) < (((D5.getD i.toNat []).length) : Int)) ∧ (i.toNat < D5.length) ∧ (a.toNat < (D5.getD i.toNat []).length) ∧ ((0 : Int) ≤ i) ∧ ((i : Int) < (D5.length : Int)) ∧ (i.toNat < D5.length) ∧ ((0 : Int) ≤ b) ∧ ((b : Int) < (((D5.getD i.toNat []).length) : Int)) ∧ (i.toNat < D5.length) ∧ (b.toNat < (D5.getD i.toNat []).length) ∧ ((0 : Int) ≤ j) ∧ ((j : Int) < (D5.length : Int)) ∧ (j.toNat < D5.length) ∧ ((0 : Int) ≤ b) ∧ ((b : Int) < (((D5.getD j.toNat []).length) : Int)) ∧ (j.toNat < D5.length) ∧ (b.toNat < (D5.getD j.toNat []).length) ∧ (I6 (((D5.getD i.toNat []).getD b.toNat 0) + ((D5.getD j.toNat []).getD b.toNat 0))) ∧ ((0 : Int) ≤ j) ∧ ((j : Int) < (D5.length : Int)) ∧ (j.toNat < D5.length) ∧ ((0 : Int) ≤ a) ∧ ((a : Int) < (((D5.getD j.toNat []).length) : Int)) ∧ (j.toNat < D5.length) ∧ (a.toNat < (D5.getD j.toNat []).length) ∧ (I6 ((((D5.getD i.toNat []).getD b.toNat 0) + ((D5.getD j.toNat []).getD b.toNat 0)) + ((D5.getD j.toNat []).getD a.toNat 0))) ∧ (PC Tryz.prog 161 [.int .i64 ((D5.getD i.toNat []).getD a.toNat 0), .int .i64 ((((D5.getD i.toNat []).getD b.toNat 0) + ((D5.getD j.toNat []).getD b.toNat 0)) + ((D5.getD j.toNat []).getD a.toNat 0))] (.one (.d (.int .i64 (min ((D5.getD i.toNat []).getD a.toNat 0) ((((D5.getD i.toNat []).getD b.toNat 0) + ((D5.getD j.toNat []).getD b.toNat 0)) + ((D5.getD j.toNat []).getD a.toNat 0))))))) ∧ ((0 : Int) ≤ a) ∧ ((a : Int) < (((D5.getD i.toNat []).length) : Int)) ∧ (i.toNat < D5.length) ∧ (a.toNat < (D5.getD i.toNat []).length) ∧ (I6 (b + 1)) ∧ (∃ b' : Int, ∃ D5' : ZR, (J2e U E O1 D1 i O2 D2 j O3 D3 a O4 D4 b' D5') ∧ (J2f U E O1 D1 i O2 D2 j O3 D3 a O4 D4 b' D5' < J2f U E O1 D1 i O2 D2 j O3 D3 a O4 D4 b D5) ∧ (i = i) ∧ (j = j) ∧ (a = a) ∧ ((b + 1) = b') ∧ ((D5.set i.toNat ((D5.getD i.toNat []).set a.toNat (min ((D5.getD i.toNat []).getD a.toNat 0) ((((D5.getD i.toNat []).getD b.toNat 0) + ((D5.getD j.toNat []).getD b.toNat 0)) + ((D5.getD j.toNat []).getD a.toNat 0))))) = D5') ∧ (O4.length = O4.length) ∧ (D5.length = D5'.length) ∧ (O4 = O4))) ∧ ((decide (b < (O4.length : Int))) = false → (I6 (a + 1)) ∧ (∃ a' : Int, ∃ O4' : ZI, ∃ D4' : ZR, (J2h U E O1 D1 i O2 D2 j O3 D3 a' O4' D4') ∧ (J2j U E O1 D1 i O2 D2 j O3 D3 a' O4' D4' < J2j U E O1 D1 i O2 D2 j O3 D3 a O4 D4) ∧ (i = i) ∧ (j = j) ∧ ((a + 1) = a') ∧ (O4 = O4') ∧ (D5 = D4') ∧ (O4.length = O4'.length) ∧ (D5.length = D4'.length))))))) ∧ ((decide (a < (O4.length : Int))) = false → (I6 (j + 1)) ∧ (∃ j' : Int, ∃ O3' : ZI, ∃ D3' : ZR, (J2i U E O1 D1 i O2 D2 j' O3' D3') ∧ (J2g U E O1 D1 i O2 D2 j' O3' D3' < J2g U E O1 D1 i O2 D2 j O3 D3) ∧ (i = i) ∧ ((j + 1) = j') ∧ (O4 = O3') ∧ (D4 = D3') ∧ (O4.length = O3'.length) ∧ (D4.length = D3'.length))))))) ∧ ((decide (j < (D3.length : Int))) = false → (I6 (i + 1)) ∧ (∃ i' : Int, ∃ O2' : ZI, ∃ D2' : ZR, (J2n U E O1 D1 i' O2' D2') ∧ (J2l U E O1 D1 i' O2' D2' < J2l U E O1 D1 i O2 D2) ∧ ((i + 1) = i') ∧ (O3 = O2') ∧ (D3 = D2') ∧ (O3.length = O2'.length) ∧ (D3.length = D2'.length))))))) ∧ ((decide (i < (D2.length : Int))) = false → (∃ O1' : ZI, ∃ D1' : ZR, (J0J U E O1' D1') ∧ (J3w U E O1' D1' < J3w U E O1 D1) ∧ (O2 = O1') ∧ (D2 = D1') ∧ (O2.length = O1'.length) ∧ (D2.length = D1'.length))))))) ∧ ((!(JH O1.length D1)) = false → (∃ O' : ZI, ∃ D' : ZR, (J2c U E O' D') ∧ (O1.length = O1.length) ∧ ((O1 : ZI) = O') ∧ (D1.length = D1.length) ∧ ((D1 : ZR) = D'))))))
theorem Jae (U : ZI) (E : ZR) (hf : drF U E) (w_Open : (U.length : Int) ≤ 9223372036854775807) (w_Dist : (E.length : Int) ≤ 9223372036854775807) (v_Dist : ∀ x9 ∈ E, (x9.length : Int) ≤ 9223372036854775807) : J6B U E := by
  unfold J6B
  refine ⟨?_, ?_, ?_⟩
  ·refine Jb3 U E ?_ ?_ ?_
   ·have q := hf.1; have q2 := hf.2.1; omega
   ·have q := hf.1; have q2 := hf.2.1; omega
   ·intro r hr
    have q := (hf.2.2 r hr).1
    have q2 := hf.1
    omega
  ·refine ⟨U, E, ?_⟩
   refine ⟨?_, rfl, rfl, rfl, rfl⟩
   ·unfold J0J
    assumption
  intro O1 D1 hJ
  have d1 := hJ
  refine ⟨rfl, rfl, ?_, ?_, ?_⟩
  ·refine J95 O1 D1 ?_
   ·intro i a hi ha
    have q := Jc d1 hi ha
    omega
  ·intro b1
   try simp only [nrmT] at b1
   refine ⟨?_, ?_⟩
   ·refine ⟨0, O1, D1, ?_⟩
    refine ⟨?_, rfl, rfl, rfl, rfl, rfl⟩
    ·refine ⟨?_, ?_, ?_, ?_, ?_, ?_⟩
     ·rfl
     ·omega
     ·omega
     ·assumption
     ·omega
     ·exact .inl ⟨rfl, rfl⟩
   intro i O2 D2 hJ
   obtain ⟨o2, h1, h2, d2, l2, c2⟩ := hJ
   refine ⟨?_, ?_⟩
   ·intro b2
    try simp only [nrmT] at b2
    refine ⟨?_, ?_⟩
    ·refine ⟨0, O2, D2, ?_⟩
     refine ⟨?_, rfl, rfl, rfl, rfl, rfl, rfl⟩
     ·refine ⟨?_, ?_, ?_, ?_, ?_, ?_⟩
      ·assumption
      ·omega
      ·omega
      ·assumption
      ·omega
      ·exact J38 c2 fun h => by rw [h]; rfl
    intro j O3 D3 hJ
    obtain ⟨o3, h4, h5, d3, l3, c3⟩ := hJ
    refine ⟨?_, ?_⟩
    ·intro b3
     try simp only [nrmT] at b3
     refine ⟨?_, ?_⟩
     ·refine ⟨0, O3, D3, ?_⟩
      refine ⟨?_, rfl, rfl, rfl, rfl, rfl, rfl, rfl⟩
      ·refine ⟨?_, ?_, ?_, ?_, ?_, ?_⟩
       ·assumption
       ·omega
       ·omega
       ·assumption
       ·omega
       ·exact J38 c3 fun h => by rw [h]; rfl
     intro a O4 D4 hJ
     obtain ⟨o4, h7, h8, d4, l4, c4⟩ := hJ
     refine ⟨?_, ?_⟩
     ·intro b4
      try simp only [nrmT] at b4
      refine ⟨?_, ?_⟩
      ·refine ⟨0, D4, ?_⟩
       refine ⟨?_, rfl, rfl, rfl, rfl, rfl, rfl, rfl, rfl⟩
       ·refine ⟨?_, ?_, ?_, ?_, ?_⟩
        ·omega
        ·omega
        ·assumption
        ·omega
        ·exact J38 c4 fun h => by rw [h]; rfl
      intro b D5 hJ
      obtain ⟨k1, k2, d5, l5, c5⟩ := hJ
      refine ⟨?_, ?_⟩
      ·intro b5
       try simp only [nrmT] at b5
       refine ⟨rfl, ?_, ?_, ?_, ?_, ?_, ?_, ?_, ?_, ?_, ?_, ?_, ?_, ?_, ?_, ?_, ?_, ?_, ?_, ?_, ?_, ?_, ?_, ?_, ?_, ?_, ?_, ?_, ?_, ?_, ?_, ?_, ?_, ?_, J5x ((D5.getD i.toNat []).getD a.toNat 0) ((((D5.getD i.toNat []).getD b.toNat 0) + ((D5.getD j.toNat []).getD b.toNat 0)) + ((D5.getD j.toNat []).getD a.toNat 0)), ?_, ?_, ?_, ?_, ?_, ?_⟩
       ·omega
       ·omega
       ·omega
       ·omega
       ·omega
       ·omega
       ·omega
       ·have eo := congrArg List.length o4
        have q1 := Jc d5 (i := i.toNat) (a := a.toNat) (by omega) (by omega)
        have q2 := Jc d5 (i := i.toNat) (a := b.toNat) (by omega) (by omega)
        have q3 := Jc d5 (i := j.toNat) (a := b.toNat) (by omega) (by omega)
        have q4 := Jc d5 (i := j.toNat) (a := a.toNat) (by omega) (by omega)
        omega
       ·omega
       ·have eo := congrArg List.length o4
        have q1 := Jc d5 (i := i.toNat) (a := a.toNat) (by omega) (by omega)
        have q2 := Jc d5 (i := i.toNat) (a := b.toNat) (by omega) (by omega)
        have q3 := Jc d5 (i := j.toNat) (a := b.toNat) (by omega) (by omega)
        have q4 := Jc d5 (i := j.toNat) (a := a.toNat) (by omega) (by omega)
        omega
       ·omega
       ·omega
       ·omega
       ·omega
       ·have eo := congrArg List.length o4
        have q1 := Jc d5 (i := i.toNat) (a := a.toNat) (by omega) (by omega)
        have q2 := Jc d5 (i := i.toNat) (a := b.toNat) (by omega) (by omega)
        have q3 := Jc d5 (i := j.toNat) (a := b.toNat) (by omega) (by omega)
        have q4 := Jc d5 (i := j.toNat) (a := a.toNat) (by omega) (by omega)
        omega
       ·omega
       ·have eo := congrArg List.length o4
        have q1 := Jc d5 (i := i.toNat) (a := a.toNat) (by omega) (by omega)
        have q2 := Jc d5 (i := i.toNat) (a := b.toNat) (by omega) (by omega)
        have q3 := Jc d5 (i := j.toNat) (a := b.toNat) (by omega) (by omega)
        have q4 := Jc d5 (i := j.toNat) (a := a.toNat) (by omega) (by omega)
        omega
       ·omega
       ·omega
       ·omega
       ·omega
       ·have eo := congrArg List.length o4
        have q1 := Jc d5 (i := i.toNat) (a := a.toNat) (by omega) (by omega)
        have q2 := Jc d5 (i := i.toNat) (a := b.toNat) (by omega) (by omega)
        have q3 := Jc d5 (i := j.toNat) (a := b.toNat) (by omega) (by omega)
        have q4 := Jc d5 (i := j.toNat) (a := a.toNat) (by omega) (by omega)
        omega
       ·omega
       ·have eo := congrArg List.length o4
        have q1 := Jc d5 (i := i.toNat) (a := a.toNat) (by omega) (by omega)
        have q2 := Jc d5 (i := i.toNat) (a := b.toNat) (by omega) (by omega)
        have q3 := Jc d5 (i := j.toNat) (a := b.toNat) (by omega) (by omega)
        have q4 := Jc d5 (i := j.toNat) (a := a.toNat) (by omega) (by omega)
        omega
       ·have eo := congrArg List.length o4
        have q1 := Jc d5 (i := i.toNat) (a := a.toNat) (by omega) (by omega)
        have q2 := Jc d5 (i := i.toNat) (a := b.toNat) (by omega) (by omega)
        have q3 := Jc d5 (i := j.toNat) (a := b.toNat) (by omega) (by omega)
        have q4 := Jc d5 (i := j.toNat) (a := a.toNat) (by omega) (by omega)
        omega
       ·omega
       ·omega
       ·omega
       ·omega
       ·have eo := congrArg List.length o4
        have q1 := Jc d5 (i := i.toNat) (a := a.toNat) (by omega) (by omega)
        have q2 := Jc d5 (i := i.toNat) (a := b.toNat) (by omega) (by omega)
        have q3 := Jc d5 (i := j.toNat) (a := b.toNat) (by omega) (by omega)
        have q4 := Jc d5 (i := j.toNat) (a := a.toNat) (by omega) (by omega)
        omega
       ·omega
       ·have eo := congrArg List.length o4
        have q1 := Jc d5 (i := i.toNat) (a := a.toNat) (by omega) (by omega)
        have q2 := Jc d5 (i := i.toNat) (a := b.toNat) (by omega) (by omega)
        have q3 := Jc d5 (i := j.toNat) (a := b.toNat) (by omega) (by omega)
        have q4 := Jc d5 (i := j.toNat) (a := a.toNat) (by omega) (by omega)
        omega
       ·have eo := congrArg List.length o4
        have q1 := Jc d5 (i := i.toNat) (a := a.toNat) (by omega) (by omega)
        have q2 := Jc d5 (i := i.toNat) (a := b.toNat) (by omega) (by omega)
        have q3 := Jc d5 (i := j.toNat) (a := b.toNat) (by omega) (by omega)
        have q4 := Jc d5 (i := j.toNat) (a := a.toNat) (by omega) (by omega)
        omega
       ·omega
       ·have eo := congrArg List.length o4
        have q1 := Jc d5 (i := i.toNat) (a := a.toNat) (by omega) (by omega)
        have q2 := Jc d5 (i := i.toNat) (a := b.toNat) (by omega) (by omega)
        have q3 := Jc d5 (i := j.toNat) (a := b.toNat) (by omega) (by omega)
        have q4 := Jc d5 (i := j.toNat) (a := a.toNat) (by omega) (by omega)
        omega
       ·omega
       ·have eo := congrArg List.length o4
        have q1 := Jc d5 (i := i.toNat) (a := a.toNat) (by omega) (by omega)
        have q2 := Jc d5 (i := i.toNat) (a := b.toNat) (by omega) (by omega)
        have q3 := Jc d5 (i := j.toNat) (a := b.toNat) (by omega) (by omega)
        have q4 := Jc d5 (i := j.toNat) (a := a.toNat) (by omega) (by omega)
        omega
       ·(have q := d4.1; have eo := congrArg List.length o4; omega)
       refine ⟨(b + 1), (D5.set i.toNat ((D5.getD i.toNat []).set a.toNat (min ((D5.getD i.toNat []).getD a.toNat 0) ((((D5.getD i.toNat []).getD b.toNat 0) + ((D5.getD j.toNat []).getD b.toNat 0)) + ((D5.getD j.toNat []).getD a.toNat 0))))), ?_⟩
       refine ⟨?_, ?_, rfl, rfl, rfl, rfl, rfl, rfl, ?_, rfl⟩
       ·refine ⟨?_, ?_, ?_, ?_, ?_⟩
        ·omega
        ·(simp_all <;> omega)
        ·have eo := congrArg List.length o4
         have hs := Ja7 d5 (i := i.toNat) (j := j.toNat) (a := a.toNat) (b := b.toNat) (by omega) (by omega) (by omega) (by omega) c5
         exact hs.1
        ·simp; try omega
        ·have eo := congrArg List.length o4
         have hs := Ja7 d5 (i := i.toNat) (j := j.toNat) (a := a.toNat) (b := b.toNat) (by omega) (by omega) (by omega) (by omega) c5
         rw [show (b + 1).toNat = b.toNat + 1 by omega]
         exact hs.2
       ·have eo := congrArg List.length o4
        (simp only [J2f]; omega)
       (simp_all; done)
      intro b6
      try simp only [nrmT] at b6
      refine ⟨?_, ?_⟩
      ·(have q := d4.1; have eo := congrArg List.length o4; omega)
      refine ⟨(a + 1), O4, D5, ?_⟩
      refine ⟨?_, ?_, rfl, rfl, rfl, rfl, rfl, rfl, rfl⟩
      ·refine ⟨?_, ?_, ?_, ?_, ?_, ?_⟩
       ·assumption
       ·omega
       ·omega
       ·assumption
       ·omega
       ·have eo := congrArg List.length o4
        refine J38 c5 fun h => ?_
        simp only [Bool.and_eq_true] at h ⊢
        refine ⟨h.1.1, allTo_step h7 h.1.2 ?_⟩
        show allTo _ O1.length = true
        rw [← h.2]; congr 1; omega
      (simp only [J2j]; omega)
     intro b7
     try simp only [nrmT] at b7
     refine ⟨?_, ?_⟩
     ·(have q := d2.2.1; omega)
     refine ⟨(j + 1), O4, D4, ?_⟩
     refine ⟨?_, ?_, rfl, rfl, rfl, rfl, rfl, rfl⟩
     ·refine ⟨?_, ?_, ?_, ?_, ?_, ?_⟩
      ·assumption
      ·omega
      ·omega
      ·assumption
      ·omega
      ·refine J38 c4 fun h => ?_
       simp only [Bool.and_eq_true] at h ⊢
       refine ⟨h.1.1, allTo_step h4 h.1.2 ?_⟩
       show allTo _ O1.length = true
       rw [← h.2]; congr 1
       have eo := congrArg List.length o4
       omega
     (simp only [J2g]; omega)
    intro b8
    try simp only [nrmT] at b8
    refine ⟨?_, ?_⟩
    ·(have q := d2.2.1; omega)
    refine ⟨(i + 1), O3, D3, ?_⟩
    refine ⟨?_, ?_, rfl, rfl, rfl, rfl, rfl⟩
    ·refine ⟨?_, ?_, ?_, ?_, ?_, ?_⟩
     ·assumption
     ·omega
     ·omega
     ·assumption
     ·omega
     ·refine J38 c3 fun h => ?_
      simp only [Bool.and_eq_true] at h
      refine allTo_step h1 h.1 ?_
      show allTo _ D1.length = true
      rw [← h.2]; congr 1; omega
    (simp only [J2l]; omega)
   intro b9
   try simp only [nrmT] at b9
   refine ⟨O2, D2, ?_⟩
   refine ⟨?_, ?_, rfl, rfl, rfl, rfl⟩
   ·unfold J0J
    (rw [o2]; assumption)
   have hlt := JcI (n := O1.length) (D0 := D1) (D := D2) (by rw [show D1.length = i.toNat by omega]; exact c2) (by simpa using b1)
   have hn := Jb8 (D := D2) fun r hr x hx => ((d2.2.2 r hr).2 x hx).1
   show (tot D2).toNat < (tot D1).toNat
   omega
  intro b10
  try simp only [nrmT] at b10
  refine ⟨O1, D1, ?_⟩
  refine ⟨?_, rfl, rfl, rfl, rfl⟩
  ·unfold J2c
   assumption
theorem J5C (U : ZI) (E : ZR) (hf : drF U E) : PE Tryz.prog 187 [.agg [.sl (.ints U), .sl (.rows E)]] (J2b U E) :=
  pe_wf @Tryz.call187 fun hw => pe_by (by kernel_rfl) Tryz.func187 @Tryz.call187 (by kernel_rfl) JaJ (Jay U E) (by kernel_rfl) (Jae U E hf hw.1.1 hw.1.2.1.1 hw.1.2.1.2) (by kernel_rfl)
abbrev J0g (code : List Nat) (c : Cur) (most : Int) (O : ZI) (D : ZR) (ck : Cur) : Prop := (okC ck 8000000) ∧ (O.length ≤ 8) ∧ (D.length ≤ 8)
def J1Z (code : List Nat) (c : Cur) (most : Int) : Ex := ex3 1 (fun (O : ZI) (D : ZR) (ck : Cur) => J0g code c most O D ck) (fun (O : ZI) (D : ZR) (ck : Cur) => [.int .i64 ck.pos, .int .u64 ck.seed]) (fun (O : ZI) (D : ZR) (ck : Cur) => .one (.d (.agg [.sl (.ints O), .sl (.rows D)])))
def J65 (f : FuncId) (ds : List D) : Orc := .no
def J6n (u : Value) (code : List Nat) (c : Cur) (most : Int) : Ann := .two (.none) (.two (.two (.mark [] [(1, .cell [.int .i64 ((J1 code c 3).pos), .int .u64 ((J1 code c 3).seed)] (.one (.d (.int .i64 (J3 code c 3)))))]) (.two (.none) (.two (.two (.exr (.ex [] 3 (Js code (J1 code c 3) most) (fun g => (fun (Or3 : ZI) (Dr3 : ZR) (cfr3 : Cur) => .ex [] 4 (JL code cfr3 Or3 Dr3) (fun g => (fun (Or3x4 : ZI) (Dr3x4 : ZR) (chr3x4 : Cur) => .ms [] []) (g.1) (g.2.1) (g.2.2))) (g.1) (g.2.1) (g.2.2)))) (.none)) (.two (.none) (.two (.two (.exr (.ex [] 3 (J00 code (J1 code c 3) most) (fun g => (fun (Or5 : ZI) (Dr5 : ZR) (cgr5 : Cur) => .ex [] 4 (JL code cgr5 Or5 Dr5) (fun g => (fun (Or5x4 : ZI) (Dr5x4 : ZR) (chr5x4 : Cur) => .ms [] []) (g.1) (g.2.1) (g.2.2))) (g.1) (g.2.1) (g.2.2)))) (.none)) (.none)))))) (.two (.exr (.ex [] 3 (Js code (J1 code c 3) most) (fun g => (fun (Or6 : ZI) (Dr6 : ZR) (cfr6 : Cur) => .ex [] 4 (J2b Or6 Dr6) (fun g => (fun (Or6x4 : ZI) (Dr6x4 : ZR) => .ex [] 5 (JL code cfr6 Or6x4 Dr6x4) (fun g => (fun (Or6x5 : ZI) (Dr6x5 : ZR) (chr6x5 : Cur) => .ms [] []) (g.1) (g.2.1) (g.2.2))) (g.1) (g.2))) (g.1) (g.2.1) (g.2.2)))) (.none)))
def J23 (u : Value) (code : List Nat) (c : Cur) (most : Int) : Prop :=
  (PK Tryz.prog 156 76 (.sl (.bytes code)) [.int .i64 c.pos, .int .u64 c.seed] [.int .i64 ((J1 code c 3).pos), .int .u64 ((J1 code c 3).seed)] [.int .i64 3] (.one (.d (.int .i64 (J3 code c 3))))) ∧ ((((J3 code c 3) == 0) = true → (PKE Tryz.prog 188 76 (.sl (.bytes code)) [.int .i64 ((J1 code c 3).pos), .int .u64 ((J1 code c 3).seed)] [.int .i64 most] (Js code (J1 code c 3) most)) ∧ (∀ Or3 : ZI, ∀ Dr3 : ZR, ∀ cfr3 : Cur, JU code (J1 code c 3) most Or3 Dr3 cfr3 → ((true = true) ∧ (Or3.length = Or3.length) ∧ (Dr3.length = Dr3.length) ∧ (PKV Tryz.prog 232 76 (.sl (.bytes code)) [.int .i64 cfr3.pos, .int .u64 cfr3.seed] 3 Or3 3 24 Dr3 (JL code cfr3 Or3 Dr3)) ∧ (∀ Or3x4 : ZI, ∀ Dr3x4 : ZR, ∀ chr3x4 : Cur, Jj code cfr3 Or3 Dr3 Or3x4 Dr3x4 chr3x4 → ((true = true) ∧ (∃ O' : ZI, ∃ D' : ZR, ∃ ck' : Cur, (J0g code c most O' D' ck') ∧ (true = true) ∧ ((.lit u (.sl (.bytes code)) : D) = .lit u (.sl (.bytes code))) ∧ (chr3x4.pos = ck'.pos) ∧ (chr3x4.seed = ck'.seed) ∧ (Or3x4.length = Or3x4.length) ∧ (Dr3x4.length = Dr3x4.length) ∧ ((.agg [.sl (.ints Or3x4), .sl (.rows Dr3x4)] : D) = .agg [.sl (.ints O'), .sl (.rows D')]))))))) ∧ (((J3 code c 3) == 0) = false → ((((J3 code c 3) == 1) = true → (PKE Tryz.prog 186 76 (.sl (.bytes code)) [.int .i64 ((J1 code c 3).pos), .int .u64 ((J1 code c 3).seed)] [.int .i64 most] (J00 code (J1 code c 3) most)) ∧ (∀ Or5 : ZI, ∀ Dr5 : ZR, ∀ cgr5 : Cur, J0E code (J1 code c 3) most Or5 Dr5 cgr5 → ((true = true) ∧ (Or5.length = Or5.length) ∧ (Dr5.length = Dr5.length) ∧ (PKV Tryz.prog 232 76 (.sl (.bytes code)) [.int .i64 cgr5.pos, .int .u64 cgr5.seed] 3 Or5 3 24 Dr5 (JL code cgr5 Or5 Dr5)) ∧ (∀ Or5x4 : ZI, ∀ Dr5x4 : ZR, ∀ chr5x4 : Cur, Jj code cgr5 Or5 Dr5 Or5x4 Dr5x4 chr5x4 → ((true = true) ∧ (∃ O' : ZI, ∃ D' : ZR, ∃ ck' : Cur, (J0g code c most O' D' ck') ∧ (true = true) ∧ ((.lit u (.sl (.bytes code)) : D) = .lit u (.sl (.bytes code))) ∧ (chr5x4.pos = ck'.pos) ∧ (chr5x4.seed = ck'.seed) ∧ (Or5x4.length = Or5x4.length) ∧ (Dr5x4.length = Dr5x4.length) ∧ ((.agg [.sl (.ints Or5x4), .sl (.rows Dr5x4)] : D) = .agg [.sl (.ints O'), .sl (.rows D')]))))))) ∧ (((J3 code c 3) == 1) = false → (PKE Tryz.prog 188 76 (.sl (.bytes code)) [.int .i64 ((J1 code c 3).pos), .int .u64 ((J1 code c 3).seed)] [.int .i64 most] (Js code (J1 code c 3) most)) ∧ (∀ Or6 : ZI, ∀ Dr6 : ZR, ∀ cfr6 : Cur, JU code (J1 code c 3) most Or6 Dr6 cfr6 → ((true = true) ∧ (Or6.length = Or6.length) ∧ (Dr6.length = Dr6.length) ∧ (PE Tryz.prog 187 [.agg [.sl (.ints Or6), .sl (.rows Dr6)]] (J2b Or6 Dr6)) ∧ (∀ Or6x4 : ZI, ∀ Dr6x4 : ZR, J2c Or6 Dr6 Or6x4 Dr6x4 → ((true = true) ∧ (Or6x4.length = Or6x4.length) ∧ (Dr6x4.length = Dr6x4.length) ∧ (PKV Tryz.prog 232 76 (.sl (.bytes code)) [.int .i64 cfr6.pos, .int .u64 cfr6.seed] 3 Or6x4 3 24 Dr6x4 (JL code cfr6 Or6x4 Dr6x4)) ∧ (∀ Or6x5 : ZI, ∀ Dr6x5 : ZR, ∀ chr6x5 : Cur, Jj code cfr6 Or6x4 Dr6x4 Or6x5 Dr6x5 chr6x5 → ((true = true) ∧ (∃ O' : ZI, ∃ D' : ZR, ∃ ck' : Cur, (J0g code c most O' D' ck') ∧ (true = true) ∧ ((.lit u (.sl (.bytes code)) : D) = .lit u (.sl (.bytes code))) ∧ (chr6x5.pos = ck'.pos) ∧ (chr6x5.seed = ck'.seed) ∧ (Or6x5.length = Or6x5.length) ∧ (Dr6x5.length = Dr6x5.length) ∧ ((.agg [.sl (.ints Or6x5), .sl (.rows Dr6x5)] : D) = .agg [.sl (.ints O'), .sl (.rows D')]))))))))))))
theorem J5R (u : Value) (code : List Nat) (c : Cur) (most : Int) (hb : ∀ x9 ∈ code, x9 < 256) (hc : okC c 2000000) (hm : 0 ≤ most ∧ most ≤ 7)  : J23 u code c most := by
  unfold J23
  refine ⟨?_, ?_, ?_⟩
  ·refine Jg code c 3 ?_ ?_
   ·exact hb
   ·exact J6 (by assumption) (by omega)
  ·intro b1
   refine ⟨?_, ?_⟩
   ·refine J0q code (J1 code c 3) most ?_ ?_ ?_
    ·exact hb
    ·exact J6 (Jb (by assumption)) (by omega)
    ·omega
   intro Or3 Dr3 cfr3 hQ9
   obtain ⟨f1r3, f2r3⟩ := hQ9
   refine ⟨rfl, rfl, rfl, ?_, ?_⟩
   ·refine J1k code cfr3 Or3 Dr3 ?_ ?_ ?_
    ·exact hb
    ·exact J6 (by assumption) (by omega)
    ·assumption
   intro Or3x4 Dr3x4 chr3x4 hQ9
   obtain ⟨f1r3x4, f2r3x4, f3r3x4⟩ := hQ9
   refine ⟨rfl, ?_⟩
   ·refine ⟨Or3x4, Dr3x4, chr3x4, ?_⟩
    refine ⟨?_, rfl, rfl, rfl, rfl, rfl, rfl, rfl⟩
    ·refine ⟨?_, ?_, ?_⟩
     ·exact J6 (by assumption) (by omega)
     ·assumption
     ·assumption
  intro b2
  refine ⟨?_, ?_⟩
  ·intro b3
   refine ⟨?_, ?_⟩
   ·refine J2G code (J1 code c 3) most ?_ ?_ ?_
    ·exact hb
    ·exact J6 (Jb (by assumption)) (by omega)
    ·omega
   intro Or5 Dr5 cgr5 hQ9
   obtain ⟨f1r5, f2r5⟩ := hQ9
   refine ⟨rfl, rfl, rfl, ?_, ?_⟩
   ·refine J1k code cgr5 Or5 Dr5 ?_ ?_ ?_
    ·exact hb
    ·exact J6 (by assumption) (by omega)
    ·assumption
   intro Or5x4 Dr5x4 chr5x4 hQ9
   obtain ⟨f1r5x4, f2r5x4, f3r5x4⟩ := hQ9
   refine ⟨rfl, ?_⟩
   ·refine ⟨Or5x4, Dr5x4, chr5x4, ?_⟩
    refine ⟨?_, rfl, rfl, rfl, rfl, rfl, rfl, rfl⟩
    ·refine ⟨?_, ?_, ?_⟩
     ·exact J6 (by assumption) (by omega)
     ·assumption
     ·assumption
  intro b4
  refine ⟨?_, ?_⟩
  ·refine J0q code (J1 code c 3) most ?_ ?_ ?_
   ·exact hb
   ·exact J6 (Jb (by assumption)) (by omega)
   ·omega
  intro Or6 Dr6 cfr6 hQ9
  obtain ⟨f1r6, f2r6⟩ := hQ9
  refine ⟨rfl, rfl, rfl, ?_, ?_⟩
  ·refine J5C Or6 Dr6 ?_
   ·assumption
  intro Or6x4 Dr6x4 hQ9
  have f2r6x4 := hQ9
  refine ⟨rfl, rfl, rfl, ?_, ?_⟩
  ·refine J1k code cfr6 Or6x4 Dr6x4 ?_ ?_ ?_
   ·exact hb
   ·exact J6 (by assumption) (by omega)
   ·assumption
  intro Or6x5 Dr6x5 chr6x5 hQ9
  obtain ⟨f1r6x5, f2r6x5, f3r6x5⟩ := hQ9
  refine ⟨rfl, ?_⟩
  ·refine ⟨Or6x5, Dr6x5, chr6x5, ?_⟩
   refine ⟨?_, rfl, rfl, rfl, rfl, rfl, rfl, rfl⟩
   ·refine ⟨?_, ?_, ?_⟩
    ·exact J6 (by assumption) (by omega)
    ·assumption
    ·assumption
theorem J5b (code : List Nat) (c : Cur) (most : Int) (hb : ∀ x9 ∈ code, x9 < 256) (hc : okC c 2000000) (hm : 0 ≤ most ∧ most ≤ 7) : PKE Tryz.prog 209 76 (.sl (.bytes code)) [.int .i64 c.pos, .int .u64 c.seed] [.int .i64 most] (J1Z code c most) :=
  pke_by (Q := fun u => J23 u code c most) (by kernel_rfl) Tryz.func209 @Tryz.call209 (by kernel_rfl) J65 (fun u => J6n u code c most) (by kernel_rfl) (fun u => J5R u code c most hb hc hm) (fun u => by kernel_rfl)
abbrev J1r (code : List Nat) (c : Cur) (O : ZI) (D : ZR) (cl : Cur) : Prop := (okC cl 8000000) ∧ (O.length ≤ 8) ∧ (D.length ≤ 8)
def J0N (code : List Nat) (c : Cur) : Ex := ex3 1 (fun (O : ZI) (D : ZR) (cl : Cur) => J1r code c O D cl) (fun (O : ZI) (D : ZR) (cl : Cur) => [.int .i64 cl.pos, .int .u64 cl.seed]) (fun (O : ZI) (D : ZR) (cl : Cur) => .one (.d (.agg [.sl (.ints O), .sl (.rows D)])))
def J83 (f : FuncId) (ds : List D) : Orc := .no
def J7w (u : Value) (code : List Nat) (c : Cur) : Ann := .two (.none) (.two (.exr (.ex [] 1 (J1Z code c 7) (fun g => (fun (Or1 : ZI) (Dr1 : ZR) (ckr1 : Cur) => .ms [] []) (g.1) (g.2.1) (g.2.2)))) (.none))
def J2Q (u : Value) (code : List Nat) (c : Cur) : Prop :=
  (PKE Tryz.prog 209 76 (.sl (.bytes code)) [.int .i64 c.pos, .int .u64 c.seed] [.int .i64 7] (J1Z code c 7)) ∧ (∀ Or1 : ZI, ∀ Dr1 : ZR, ∀ ckr1 : Cur, J0g code c 7 Or1 Dr1 ckr1 → ((true = true) ∧ (∃ O' : ZI, ∃ D' : ZR, ∃ cl' : Cur, (J1r code c O' D' cl') ∧ (true = true) ∧ ((.lit u (.sl (.bytes code)) : D) = .lit u (.sl (.bytes code))) ∧ (ckr1.pos = cl'.pos) ∧ (ckr1.seed = cl'.seed) ∧ ((.agg [.sl (.ints Or1), .sl (.rows Dr1)] : D) = .agg [.sl (.ints O'), .sl (.rows D')]))))
theorem J6M (u : Value) (code : List Nat) (c : Cur) (hb : ∀ x9 ∈ code, x9 < 256) (hc : okC c 2000000)  : J2Q u code c := by
  unfold J2Q
  refine ⟨?_, ?_⟩
  ·refine J5b code c 7 ?_ ?_ ?_
   ·exact hb
   ·exact J6 (by assumption) (by omega)
   ·omega
  intro Or1 Dr1 ckr1 hQ9
  obtain ⟨f1r1, f2r1, f3r1⟩ := hQ9
  refine ⟨rfl, ?_⟩
  ·refine ⟨Or1, Dr1, ckr1, ?_⟩
   refine ⟨?_, rfl, rfl, rfl, rfl, rfl⟩
   ·refine ⟨?_, ?_, ?_⟩
    ·exact J6 (by assumption) (by omega)
    ·assumption
    ·assumption
theorem J3G (code : List Nat) (c : Cur) (hb : ∀ x9 ∈ code, x9 < 256) (hc : okC c 2000000) : PKE Tryz.prog 133 76 (.sl (.bytes code)) [.int .i64 c.pos, .int .u64 c.seed] [] (J0N code c) :=
  pke_by (Q := fun u => J2Q u code c) (by kernel_rfl) Tryz.func133 @Tryz.call133 (by kernel_rfl) J83 (fun u => J7w u code c) (by kernel_rfl) (fun u => J6M u code c hb hc) (fun u => by kernel_rfl)
theorem J4W {D : ZR} {s : ZI} {a : Int} (ha : a ∈ s) (j : Nat) : Jo D s j ≤ (D.getD j []).getD a.toNat 0 := by
  obtain ⟨i, hi, e⟩ := List.mem_iff_getElem.1 ha
  have h := J8W (D.getD j []) s s.length i hi
  rw [JZ hi, e] at h
  exact h
theorem Jcj {D : ZR} {s : ZI} (hp : 0 < s.length) (j : Nat) : ∃ a, a ∈ s ∧ Jo D s j = (D.getD j []).getD a.toNat 0 :=
  ⟨_, J3J hp s.length (Nat.le_refl _), rfl⟩
theorem JbM {D : ZR} {s t : ZI} (ht : 0 < t.length) (h : ∀ x ∈ t, x ∈ s) (j : Nat) : Jo D s j ≤ Jo D t j := by
  obtain ⟨a, h1, h2⟩ := Jcj (D := D) ht j
  rw [h2]
  exact J4W (h a h1) j
theorem J8P {xs ys : ZI} : ∀ k, (∀ j, j < k → xs.getD j 0 ≤ ys.getD j 0) → J2z xs k ≤ J2z ys k
  | 0, _ => Int.le_refl _
  | k + 1, h => by
    have h1 := J8P k fun j hj => h j (by omega)
    have h2 := h k (by omega)
    rw [J3r, J3r]; omega
theorem Jcg {D : ZR} {s t : ZI} (h : ∀ j, j < D.length → Jo D s j ≤ Jo D t j) : J5 D s ≤ J5 D t :=
  J8P _ fun j hj => by rw [J3L _ _ _ _ hj, J3L _ _ _ _ hj]; exact h j hj
abbrev J1I (U : ZI) (E : ZR) (i : Int) : Prop := (0 ≤ i) ∧ (i ≤ (E.length : Int)) ∧ (allTo (J4G U.length E) i.toNat = true)
abbrev J1E (U : ZI) (E : ZR) (i : Int) : Nat := (E.length - i).toNat
abbrev J1S (U : ZI) (E : ZR) (i : Int) (j : Int) : Prop := (0 ≤ j) ∧ (j ≤ (E.length : Int)) ∧ (allTo (J4U U.length E i.toNat) j.toNat = true)
abbrev J1O (U : ZI) (E : ZR) (i : Int) (j : Int) : Nat := (E.length - j).toNat
abbrev J1R (U : ZI) (E : ZR) (i : Int) (j : Int) (a : Int) : Prop := (0 ≤ a) ∧ (a ≤ (U.length : Int)) ∧ (allTo (J5s U.length E i.toNat j.toNat) a.toNat = true)
abbrev J1V (U : ZI) (E : ZR) (i : Int) (j : Int) (a : Int) : Nat := (U.length - a).toNat
abbrev J1U (U : ZI) (E : ZR) (i : Int) (j : Int) (a : Int) (b : Int) : Prop := (0 ≤ b) ∧ (b ≤ (U.length : Int)) ∧ (allTo (fun b => !J0U E i.toNat j.toNat a.toNat b) b.toNat = true)
abbrev J1F (U : ZI) (E : ZR) (i : Int) (j : Int) (a : Int) (b : Int) : Nat := (U.length - b).toNat
def J9Z (f : FuncId) (ds : List D) : Orc := bif Nat.beq f 111 then J3x ds else .no
def J9Q (U : ZI) (E : ZR) : Ann := .two (.none) (.two (.none) (.two (.two (.none) (.loop (cut1 (fun (i : Int) => J1I U E i) (fun (i : Int) => [(1, .ptr 1 0), (14, .d false (.sl (.rows E))), (15, .d true (.int .i64 (E.length : Int))), (16, .d true (.int .i64 i))]) (fun (i : Int) => [(1, .box 27 [.d false (.sl (.ints U)), .d false (.sl (.rows E))])])) (fun g => J1E U E g) (fun g => (fun (i : Int) => .two (.none) (.two (.none) (.two (.two (.none) (.two (.none) (.loop (cut1 (fun (j : Int) => J1S U E i j) (fun (j : Int) => [(1, .ptr 1 0), (5, .d false (.sl (.ints (E.getD i.toNat [])))), (14, .d false (.sl (.rows E))), (15, .d true (.int .i64 (E.length : Int))), (16, .d true (.int .i64 i)), (21, .d false (.sl (.rows E))), (22, .d true (.int .i64 (E.length : Int))), (23, .d true (.int .i64 j))]) (fun (j : Int) => [(1, .box 27 [.d false (.sl (.ints U)), .d false (.sl (.rows E))])])) (fun g => J1O U E i g) (fun g => (fun (j : Int) => .two (.none) (.two (.none) (.two (.two (.none) (.two (.none) (.loop (cut1 (fun (a : Int) => J1R U E i j a) (fun (a : Int) => [(1, .ptr 1 0), (5, .d false (.sl (.ints (E.getD i.toNat [])))), (7, .d false (.sl (.ints (E.getD j.toNat [])))), (14, .d false (.sl (.rows E))), (15, .d true (.int .i64 (E.length : Int))), (16, .d true (.int .i64 i)), (21, .d false (.sl (.rows E))), (22, .d true (.int .i64 (E.length : Int))), (23, .d true (.int .i64 j)), (29, .d true (.int .i64 (U.length : Int))), (30, .d true (.int .i64 a))]) (fun (a : Int) => [(1, .box 27 [.d false (.sl (.ints U)), .d false (.sl (.rows E))])])) (fun g => J1V U E i j g) (fun g => (fun (a : Int) => .two (.none) (.two (.none) (.two (.two (.none) (.two (.none) (.loop (cut1 (fun (b : Int) => J1U U E i j a b) (fun (b : Int) => [(1, .ptr 1 0), (5, .d false (.sl (.ints (E.getD i.toNat [])))), (7, .d false (.sl (.ints (E.getD j.toNat [])))), (8, .d true (.int .i64 a)), (14, .d false (.sl (.rows E))), (15, .d true (.int .i64 (E.length : Int))), (16, .d true (.int .i64 i)), (21, .d false (.sl (.rows E))), (22, .d true (.int .i64 (E.length : Int))), (23, .d true (.int .i64 j)), (29, .d true (.int .i64 (U.length : Int))), (30, .d true (.int .i64 a)), (35, .d true (.int .i64 (U.length : Int))), (36, .d true (.int .i64 b))]) (fun (b : Int) => [(1, .box 27 [.d false (.sl (.ints U)), .d false (.sl (.rows E))])])) (fun g => J1F U E i j a g) (fun _ => .none)))) (.none)))) g)))) (.none)))) g)))) (.none)))) g))) (.none)))
def J5m (U : ZI) (E : ZR) : Prop :=
  (PC Tryz.prog 111 [.agg [.sl (.ints U), .sl (.rows E)]] (.one (.d (.bool (J0 U E))))) ∧ (((!(J0 U E)) = true → ((false = (J0 U E && JH U.length E)) ∧ (false = (J0 U E)))) ∧ ((!(J0 U E)) = false → ((∃ i' : Int, (J1I U E i') ∧ (E = E) ∧ ((E.length : Int) = (E.length : Int)) ∧ ((0 : Int) = i') ∧ (U = U) ∧ (E = E)) ∧ (∀ i : Int, (J1I U E i) → (((decide (i < (E.length : Int))) = true → ((0 : Int) ≤ i) ∧ ((i : Int) < E.length) ∧ (i.toNat < E.length) ∧ ((∃ j' : Int, (J1S U E i j') ∧ ((E.getD i.toNat []) = (E.getD i.toNat [])) ∧ (E = E) ∧ ((E.length : Int) = (E.length : Int)) ∧ (i = i) ∧ (E = E) ∧ ((E.length : Int) = (E.length : Int)) ∧ ((0 : Int) = j') ∧ (U = U) ∧ (E = E)) ∧ (∀ j : Int, (J1S U E i j) → (((decide (j < (E.length : Int))) = true → ((0 : Int) ≤ j) ∧ ((j : Int) < E.length) ∧ (j.toNat < E.length) ∧ ((∃ a' : Int, (J1R U E i j a') ∧ ((E.getD i.toNat []) = (E.getD i.toNat [])) ∧ ((E.getD j.toNat []) = (E.getD j.toNat [])) ∧ (E = E) ∧ ((E.length : Int) = (E.length : Int)) ∧ (i = i) ∧ (E = E) ∧ ((E.length : Int) = (E.length : Int)) ∧ (j = j) ∧ ((U.length : Int) = (U.length : Int)) ∧ ((0 : Int) = a') ∧ (U = U) ∧ (E = E)) ∧ (∀ a : Int, (J1R U E i j a) → (((decide (a < (U.length : Int))) = true → ((∃ b' : Int, (J1U U E i j a b') ∧ ((E.getD i.toNat []) = (E.getD i.toNat [])) ∧ ((E.getD j.toNat []) = (E.getD j.toNat [])) ∧ (a = a) ∧ (E = E) ∧ ((E.length : Int) = (E.length : Int)) ∧ (i = i) ∧ (E = E) ∧ ((E.length : Int) = (E.length : Int)) ∧ (j = j) ∧ ((U.length : Int) = (U.length : Int)) ∧ (a = a) ∧ ((U.length : Int) = (U.length : Int)) ∧ ((0 : Int) = b') ∧ (U = U) ∧ (E = E)) ∧ (∀ b : Int, (J1U U E i j a b) → (((decide (b < (U.length : Int))) = true → (true = true) ∧ ((0 : Int) ≤ a) ∧ ((a : Int) < (E.getD i.toNat []).length) ∧ (a.toNat < (E.getD i.toNat []).length) ∧ ((0 : Int) ≤ b) ∧ ((b : Int) < (E.getD i.toNat []).length) ∧ (b.toNat < (E.getD i.toNat []).length) ∧ ((0 : Int) ≤ b) ∧ ((b : Int) < (E.getD j.toNat []).length) ∧ (b.toNat < (E.getD j.toNat []).length) ∧ (I6 (((E.getD i.toNat []).getD b.toNat 0) + ((E.getD j.toNat []).getD b.toNat 0))) ∧ ((0 : Int) ≤ a) ∧ ((a : Int) < (E.getD j.toNat []).length) ∧ (a.toNat < (E.getD j.toNat []).length) ∧ (I6 ((((E.getD i.toNat []).getD b.toNat 0) + ((E.getD j.toNat []).getD b.toNat 0)) + ((E.getD j.toNat []).getD a.toNat 0))) ∧ (((decide (((E.getD i.toNat []).getD a.toNat 0) > ((((E.getD i.toNat []).getD b.toNat 0) + ((E.getD j.toNat []).getD b.toNat 0)) + ((E.getD j.toNat []).getD a.toNat 0)))) = true → ((false = (J0 U E && JH U.length E)) ∧ (true = (J0 U E)))) ∧ ((decide (((E.getD i.toNat []).getD a.toNat 0) > ((((E.getD i.toNat []).getD b.toNat 0) + ((E.getD j.toNat []).getD b.toNat 0)) + ((E.getD j.toNat []).getD a.toNat 0)))) = false → (I6 (b + 1)) ∧ (∃ b' : Int, (J1U U E i j a b') ∧ (J1F U E i j a b' < J1F U E i j a b) ∧ ((E.getD i.toNat []) = (E.getD i.toNat [])) ∧ ((E.getD j.toNat []) = (E.getD j.toNat [])) ∧ (a = a) ∧ (E = E) ∧ ((E.length : Int) = (E.length : Int)) ∧ (i = i) ∧ (E = E) ∧ ((E.length : Int) = (E.length : Int)) ∧ (j = j) ∧ ((U.length : Int) = (U.length : Int)) ∧ (a = a) ∧ ((U.length : Int) = (U.length : Int)) ∧ ((b + 1) = b') ∧ (U = U) ∧ (E = E))))) ∧ ((decide (b < (U.length : Int))) = false → (I6 (a + 1)) ∧ (∃ a' : Int, (J1R U E i j a') ∧ (J1V U E i j a' < J1V U E i j a) ∧ ((E.getD i.toNat []) = (E.getD i.toNat [])) ∧ ((E.getD j.toNat []) = (E.getD j.toNat [])) ∧ (E = E) ∧ ((E.length : Int) = (E.length : Int)) ∧ (i = i) ∧ (E = E) ∧ ((E.length : Int) = (E.length : Int)) ∧ (j = j) ∧ ((U.length : Int) = (U.length : Int)) ∧ ((a + 1) = a') ∧ (U = U) ∧ (E = E))))))) ∧ ((decide (a < (U.length : Int))) = false → (I6 (j + 1)) ∧ (∃ j' : Int, (J1S U E i j') ∧ (J1O U E i j' < J1O U E i j) ∧ ((E.getD i.toNat []) = (E.getD i.toNat [])) ∧ (E = E) ∧ ((E.length : Int) = (E.length : Int)) ∧ (i = i) ∧ (E = E) ∧ ((E.length : Int) = (E.length : Int)) ∧ ((j + 1) = j') ∧ (U = U) ∧ (E = E))))))) ∧ ((decide (j < (E.length : Int))) = false → (I6 (i + 1)) ∧ (∃ i' : Int, (J1I U E i') ∧ (J1E U E i' < J1E U E i) ∧ (E = E) ∧ ((E.length : Int) = (E.length : Int)) ∧ ((i + 1) = i') ∧ (U = U) ∧ (E = E))))))) ∧ ((decide (i < (E.length : Int))) = false → ((true = (J0 U E && JH U.length E)) ∧ (true = (J0 U E)))))))))
theorem J9m (U : ZI) (E : ZR)  (w_Open : (U.length : Int) ≤ 9223372036854775807) (w_Dist : (E.length : Int) ≤ 9223372036854775807) (v_Dist : ∀ x9 ∈ E, (x9.length : Int) ≤ 9223372036854775807) : J5m U E := by
  unfold J5m
  refine ⟨J46 U E, ?_, ?_⟩
  ·intro b1
   try simp only [nrmT] at b1
   refine ⟨?_, ?_⟩
   ·have e1 : J0 U E = false := by simpa using b1
    rw [e1]; rfl
   have e1 : J0 U E = false := by simpa using b1
   exact e1.symm
  intro b2
  try simp only [nrmT] at b2
  refine ⟨?_, ?_⟩
  ·refine ⟨0, ?_⟩
   refine ⟨?_, rfl, rfl, rfl, rfl, rfl⟩
   ·refine ⟨?_, ?_, ?_⟩
    ·omega
    ·omega
    ·rfl
  intro i hJ
  obtain ⟨h1, h2, h3⟩ := hJ
  refine ⟨?_, ?_⟩
  ·intro b3
   try simp only [nrmT] at b3
   refine ⟨?_, ?_, ?_, ?_, ?_⟩
   ·omega
   ·omega
   ·omega
   ·refine ⟨0, ?_⟩
    refine ⟨?_, rfl, rfl, rfl, rfl, rfl, rfl, rfl, rfl, rfl⟩
    ·refine ⟨?_, ?_, ?_⟩
     ·omega
     ·omega
     ·rfl
   intro j hJ
   obtain ⟨h4, h5, h6⟩ := hJ
   refine ⟨?_, ?_⟩
   ·intro b4
    try simp only [nrmT] at b4
    refine ⟨?_, ?_, ?_, ?_, ?_⟩
    ·omega
    ·omega
    ·omega
    ·refine ⟨0, ?_⟩
     refine ⟨?_, rfl, rfl, rfl, rfl, rfl, rfl, rfl, rfl, rfl, rfl, rfl, rfl⟩
     ·refine ⟨?_, ?_, ?_⟩
      ·omega
      ·omega
      ·rfl
    intro a hJ
    obtain ⟨h7, h8, h9⟩ := hJ
    refine ⟨?_, ?_⟩
    ·intro b5
     try simp only [nrmT] at b5
     refine ⟨?_, ?_⟩
     ·refine ⟨0, ?_⟩
      refine ⟨?_, rfl, rfl, rfl, rfl, rfl, rfl, rfl, rfl, rfl, rfl, rfl, rfl, rfl, rfl, rfl⟩
      ·refine ⟨?_, ?_, ?_⟩
       ·omega
       ·omega
       ·rfl
     intro b hJ
     obtain ⟨k1, k2, k3⟩ := hJ
     refine ⟨?_, ?_⟩
     ·intro b6
      try simp only [nrmT] at b6
      refine ⟨rfl, ?_, ?_, ?_, ?_, ?_, ?_, ?_, ?_, ?_, ?_, ?_, ?_, ?_, ?_, ?_, ?_⟩
      ·omega
      ·have hg : J0 U E = true := by simpa using b2
       obtain ⟨g1, g2, g3⟩ := J9 hg
       have r1 := Jv hg (i := i.toNat) (by omega)
       have r2 := Jv hg (i := j.toNat) (by omega)
       have q1 := r1.2 a.toNat (by omega)
       have q2 := r1.2 b.toNat (by omega)
       have q3 := r2.2 b.toNat (by omega)
       have q4 := r2.2 a.toNat (by omega)
       omega
      ·have hg : J0 U E = true := by simpa using b2
       obtain ⟨g1, g2, g3⟩ := J9 hg
       have r1 := Jv hg (i := i.toNat) (by omega)
       have r2 := Jv hg (i := j.toNat) (by omega)
       have q1 := r1.2 a.toNat (by omega)
       have q2 := r1.2 b.toNat (by omega)
       have q3 := r2.2 b.toNat (by omega)
       have q4 := r2.2 a.toNat (by omega)
       omega
      ·omega
      ·have hg : J0 U E = true := by simpa using b2
       obtain ⟨g1, g2, g3⟩ := J9 hg
       have r1 := Jv hg (i := i.toNat) (by omega)
       have r2 := Jv hg (i := j.toNat) (by omega)
       have q1 := r1.2 a.toNat (by omega)
       have q2 := r1.2 b.toNat (by omega)
       have q3 := r2.2 b.toNat (by omega)
       have q4 := r2.2 a.toNat (by omega)
       omega
      ·have hg : J0 U E = true := by simpa using b2
       obtain ⟨g1, g2, g3⟩ := J9 hg
       have r1 := Jv hg (i := i.toNat) (by omega)
       have r2 := Jv hg (i := j.toNat) (by omega)
       have q1 := r1.2 a.toNat (by omega)
       have q2 := r1.2 b.toNat (by omega)
       have q3 := r2.2 b.toNat (by omega)
       have q4 := r2.2 a.toNat (by omega)
       omega
      ·omega
      ·have hg : J0 U E = true := by simpa using b2
       obtain ⟨g1, g2, g3⟩ := J9 hg
       have r1 := Jv hg (i := i.toNat) (by omega)
       have r2 := Jv hg (i := j.toNat) (by omega)
       have q1 := r1.2 a.toNat (by omega)
       have q2 := r1.2 b.toNat (by omega)
       have q3 := r2.2 b.toNat (by omega)
       have q4 := r2.2 a.toNat (by omega)
       omega
      ·have hg : J0 U E = true := by simpa using b2
       obtain ⟨g1, g2, g3⟩ := J9 hg
       have r1 := Jv hg (i := i.toNat) (by omega)
       have r2 := Jv hg (i := j.toNat) (by omega)
       have q1 := r1.2 a.toNat (by omega)
       have q2 := r1.2 b.toNat (by omega)
       have q3 := r2.2 b.toNat (by omega)
       have q4 := r2.2 a.toNat (by omega)
       omega
      ·have hg : J0 U E = true := by simpa using b2
       obtain ⟨g1, g2, g3⟩ := J9 hg
       have r1 := Jv hg (i := i.toNat) (by omega)
       have r2 := Jv hg (i := j.toNat) (by omega)
       have q1 := r1.2 a.toNat (by omega)
       have q2 := r1.2 b.toNat (by omega)
       have q3 := r2.2 b.toNat (by omega)
       have q4 := r2.2 a.toNat (by omega)
       omega
      ·omega
      ·have hg : J0 U E = true := by simpa using b2
       obtain ⟨g1, g2, g3⟩ := J9 hg
       have r1 := Jv hg (i := i.toNat) (by omega)
       have r2 := Jv hg (i := j.toNat) (by omega)
       have q1 := r1.2 a.toNat (by omega)
       have q2 := r1.2 b.toNat (by omega)
       have q3 := r2.2 b.toNat (by omega)
       have q4 := r2.2 a.toNat (by omega)
       omega
      ·have hg : J0 U E = true := by simpa using b2
       obtain ⟨g1, g2, g3⟩ := J9 hg
       have r1 := Jv hg (i := i.toNat) (by omega)
       have r2 := Jv hg (i := j.toNat) (by omega)
       have q1 := r1.2 a.toNat (by omega)
       have q2 := r1.2 b.toNat (by omega)
       have q3 := r2.2 b.toNat (by omega)
       have q4 := r2.2 a.toNat (by omega)
       omega
      ·have hg : J0 U E = true := by simpa using b2
       obtain ⟨g1, g2, g3⟩ := J9 hg
       have r1 := Jv hg (i := i.toNat) (by omega)
       have r2 := Jv hg (i := j.toNat) (by omega)
       have q1 := r1.2 a.toNat (by omega)
       have q2 := r1.2 b.toNat (by omega)
       have q3 := r2.2 b.toNat (by omega)
       have q4 := r2.2 a.toNat (by omega)
       omega
      ·intro b7
       try simp only [nrmT] at b7
       refine ⟨?_, ?_⟩
       ·have e1 : J5s U.length E i.toNat j.toNat a.toNat = false := allTo_falseI k1 (by omega) (by unfold J0U; rw [decide_eq_true (by omega)]; rfl)
        have e2 : J4U U.length E i.toNat j.toNat = false := allTo_falseI h7 (by omega) e1
        have e3 : J4G U.length E i.toNat = false := allTo_falseI h4 (by omega) e2
        rw [show JH U.length E = false from allTo_falseI h1 (by omega) e3, Bool.and_false]
       have hg : J0 U E = true := by simpa using b2
       obtain ⟨g1, g2, g3⟩ := J9 hg
       exact hg.symm
      intro b8
      try simp only [nrmT] at b8
      refine ⟨?_, ?_⟩
      ·omega
      refine ⟨(b + 1), ?_⟩
      refine ⟨?_, ?_, rfl, rfl, rfl, rfl, rfl, rfl, rfl, rfl, rfl, rfl, rfl, rfl, rfl, rfl, rfl⟩
      ·refine ⟨?_, ?_, ?_⟩
       ·omega
       ·omega
       ·refine allTo_step k1 k3 ?_
        unfold J0U
        rw [decide_eq_false (by omega)]; rfl
      (simp only [J1F]; omega)
     intro b9
     try simp only [nrmT] at b9
     refine ⟨?_, ?_⟩
     ·omega
     refine ⟨(a + 1), ?_⟩
     refine ⟨?_, ?_, rfl, rfl, rfl, rfl, rfl, rfl, rfl, rfl, rfl, rfl, rfl, rfl⟩
     ·refine ⟨?_, ?_, ?_⟩
      ·omega
      ·omega
      ·refine allTo_step h7 h9 ?_
       show allTo _ U.length = true
       rw [← k3]; congr 1; omega
     (simp only [J1V]; omega)
    intro b10
    try simp only [nrmT] at b10
    refine ⟨?_, ?_⟩
    ·omega
    refine ⟨(j + 1), ?_⟩
    refine ⟨?_, ?_, rfl, rfl, rfl, rfl, rfl, rfl, rfl, rfl, rfl⟩
    ·refine ⟨?_, ?_, ?_⟩
     ·omega
     ·omega
     ·refine allTo_step h4 h6 ?_
      show allTo _ U.length = true
      rw [← h9]; congr 1; omega
    (simp only [J1O]; omega)
   intro b11
   try simp only [nrmT] at b11
   refine ⟨?_, ?_⟩
   ·omega
   refine ⟨(i + 1), ?_⟩
   refine ⟨?_, ?_, rfl, rfl, rfl, rfl, rfl⟩
   ·refine ⟨?_, ?_, ?_⟩
    ·omega
    ·omega
    ·refine allTo_step h1 h3 ?_
     show allTo _ E.length = true
     rw [← h6]; congr 1; omega
   (simp only [J1E]; omega)
  intro b12
  try simp only [nrmT] at b12
  refine ⟨?_, ?_⟩
  ·have hg : J0 U E = true := by simpa using b2
   obtain ⟨g1, g2, g3⟩ := J9 hg
   have hm : JH U.length E = true := by
     unfold JH
     rw [← h3]; congr 1; omega
   rw [hg, hm]; rfl
  have hg : J0 U E = true := by simpa using b2
  obtain ⟨g1, g2, g3⟩ := J9 hg
  exact hg.symm
theorem J97 (U : ZI) (E : ZR)  : PC Tryz.prog 25 [.agg [.sl (.ints U), .sl (.rows E)]] (.tup [.d (.bool (J0 U E && JH U.length E)), .d (.bool (J0 U E))]) :=
  pc_wf @Tryz.call25 fun hw => pc_by (by kernel_rfl) Tryz.func25 @Tryz.call25 (by kernel_rfl) J9Z (J9Q U E) (by kernel_rfl) (J9m U E hw.1.1 hw.1.2.1.1 hw.1.2.1.2) (by kernel_rfl)
def J8A : List D → Orc := orcN [none] fun ds => match ds with
  | [.agg [.sl (.ints U), .sl (.rows E)]] => some (.tup [.d (.bool (J0 U E && JH U.length E)), .d (.bool (J0 U E))])
  | _ => none
abbrev J04 (code : List Nat) (c : Cur) (O : ZI) (D : ZR) (cm : Cur) : Prop := (okC cm 9000000) ∧ (O.length ≤ 8) ∧ (D.length ≤ 8)
def J0y (code : List Nat) (c : Cur) : Ex := ex3 1 (fun (O : ZI) (D : ZR) (cm : Cur) => J04 code c O D cm) (fun (O : ZI) (D : ZR) (cm : Cur) => [.int .i64 cm.pos, .int .u64 cm.seed]) (fun (O : ZI) (D : ZR) (cm : Cur) => .one (.d (.agg [.sl (.ints O), .sl (.rows D)])))
def J79 (f : FuncId) (ds : List D) : Orc := .no
def J6N (u : Value) (code : List Nat) (c : Cur) : Ann := .two (.none) (.two (.two (.mark [] [(1, .cell [.int .i64 ((J1 code c 12).pos), .int .u64 ((J1 code c 12).seed)] (.one (.d (.bool (J3 code c 12 == 0)))))]) (.two (.two (.exr (.ex [] 1 (J0N code (J1 code c 12)) (fun g => (fun (Or2 : ZI) (Dr2 : ZR) (clr2 : Cur) => .ms [] []) (g.1) (g.2.1) (g.2.2)))) (.none)) (.none))) (.two (.two (.mark [] [(1, .cell [.int .i64 ((J1 code (J1 code c 12) 2).pos), .int .u64 ((J1 code (J1 code c 12) 2).seed)] (.one (.d (.bool (J3 code (J1 code c 12) 2 == 0)))))]) (.two (.two (.exr (.ex [] 1 (J00 code (J1 code (J1 code c 12) 2) 7) (fun g => (fun (Or4 : ZI) (Dr4 : ZR) (cgr4 : Cur) => .ms [] []) (g.1) (g.2.1) (g.2.2)))) (.none)) (.none))) (.two (.exr (.ex [] 1 (Js code (J1 code (J1 code c 12) 2) 7) (fun g => (fun (Or5 : ZI) (Dr5 : ZR) (cfr5 : Cur) => .ex [] 2 (J2b Or5 Dr5) (fun g => (fun (Or5x2 : ZI) (Dr5x2 : ZR) => .ms [] []) (g.1) (g.2))) (g.1) (g.2.1) (g.2.2)))) (.none))))
def J2r (u : Value) (code : List Nat) (c : Cur) : Prop :=
  (PK Tryz.prog 124 76 (.sl (.bytes code)) [.int .i64 c.pos, .int .u64 c.seed] [.int .i64 ((J1 code c 12).pos), .int .u64 ((J1 code c 12).seed)] [.int .i64 12] (.one (.d (.bool (J3 code c 12 == 0))))) ∧ (((J3 code c 12 == 0) = true → (PKE Tryz.prog 133 76 (.sl (.bytes code)) [.int .i64 ((J1 code c 12).pos), .int .u64 ((J1 code c 12).seed)] [] (J0N code (J1 code c 12))) ∧ (∀ Or2 : ZI, ∀ Dr2 : ZR, ∀ clr2 : Cur, J1r code (J1 code c 12) Or2 Dr2 clr2 → ((true = true) ∧ (∃ O' : ZI, ∃ D' : ZR, ∃ cm' : Cur, (J04 code c O' D' cm') ∧ (true = true) ∧ ((.lit u (.sl (.bytes code)) : D) = .lit u (.sl (.bytes code))) ∧ (clr2.pos = cm'.pos) ∧ (clr2.seed = cm'.seed) ∧ ((.agg [.sl (.ints Or2), .sl (.rows Dr2)] : D) = .agg [.sl (.ints O'), .sl (.rows D')]))))) ∧ ((J3 code c 12 == 0) = false → (PK Tryz.prog 124 76 (.sl (.bytes code)) [.int .i64 ((J1 code c 12).pos), .int .u64 ((J1 code c 12).seed)] [.int .i64 ((J1 code (J1 code c 12) 2).pos), .int .u64 ((J1 code (J1 code c 12) 2).seed)] [.int .i64 2] (.one (.d (.bool (J3 code (J1 code c 12) 2 == 0))))) ∧ (((J3 code (J1 code c 12) 2 == 0) = true → (PKE Tryz.prog 186 76 (.sl (.bytes code)) [.int .i64 ((J1 code (J1 code c 12) 2).pos), .int .u64 ((J1 code (J1 code c 12) 2).seed)] [.int .i64 7] (J00 code (J1 code (J1 code c 12) 2) 7)) ∧ (∀ Or4 : ZI, ∀ Dr4 : ZR, ∀ cgr4 : Cur, J0E code (J1 code (J1 code c 12) 2) 7 Or4 Dr4 cgr4 → ((true = true) ∧ (∃ O' : ZI, ∃ D' : ZR, ∃ cm' : Cur, (J04 code c O' D' cm') ∧ (true = true) ∧ ((.lit u (.sl (.bytes code)) : D) = .lit u (.sl (.bytes code))) ∧ (cgr4.pos = cm'.pos) ∧ (cgr4.seed = cm'.seed) ∧ (Or4.length = Or4.length) ∧ (Dr4.length = Dr4.length) ∧ ((.agg [.sl (.ints Or4), .sl (.rows Dr4)] : D) = .agg [.sl (.ints O'), .sl (.rows D')]))))) ∧ ((J3 code (J1 code c 12) 2 == 0) = false → (PKE Tryz.prog 188 76 (.sl (.bytes code)) [.int .i64 ((J1 code (J1 code c 12) 2).pos), .int .u64 ((J1 code (J1 code c 12) 2).seed)] [.int .i64 7] (Js code (J1 code (J1 code c 12) 2) 7)) ∧ (∀ Or5 : ZI, ∀ Dr5 : ZR, ∀ cfr5 : Cur, JU code (J1 code (J1 code c 12) 2) 7 Or5 Dr5 cfr5 → ((true = true) ∧ (Or5.length = Or5.length) ∧ (Dr5.length = Dr5.length) ∧ (PE Tryz.prog 187 [.agg [.sl (.ints Or5), .sl (.rows Dr5)]] (J2b Or5 Dr5)) ∧ (∀ Or5x2 : ZI, ∀ Dr5x2 : ZR, J2c Or5 Dr5 Or5x2 Dr5x2 → ((true = true) ∧ (∃ O' : ZI, ∃ D' : ZR, ∃ cm' : Cur, (J04 code c O' D' cm') ∧ (true = true) ∧ ((.lit u (.sl (.bytes code)) : D) = .lit u (.sl (.bytes code))) ∧ (cfr5.pos = cm'.pos) ∧ (cfr5.seed = cm'.seed) ∧ (Or5x2.length = Or5x2.length) ∧ (Dr5x2.length = Dr5x2.length) ∧ ((.agg [.sl (.ints Or5x2), .sl (.rows Dr5x2)] : D) = .agg [.sl (.ints O'), .sl (.rows D')]))))))))))
theorem J63 (u : Value) (code : List Nat) (c : Cur) (hb : ∀ x9 ∈ code, x9 < 256) (hc : okC c 1000000)  : J2r u code c := by
  unfold J2r
  refine ⟨?_, ?_, ?_⟩
  ·refine J0W code c 12 ?_ ?_
   ·exact hb
   ·exact J6 (by assumption) (by omega)
  ·intro b1
   refine ⟨?_, ?_⟩
   ·refine J3G code (J1 code c 12) ?_ ?_
    ·exact hb
    ·exact J6 (Jb (by assumption)) (by omega)
   intro Or2 Dr2 clr2 hQ9
   obtain ⟨f1r2, f2r2, f3r2⟩ := hQ9
   refine ⟨rfl, ?_⟩
   ·refine ⟨Or2, Dr2, clr2, ?_⟩
    refine ⟨?_, rfl, rfl, rfl, rfl, rfl⟩
    ·refine ⟨?_, ?_, ?_⟩
     ·exact J6 (by assumption) (by omega)
     ·assumption
     ·assumption
  intro b2
  refine ⟨?_, ?_, ?_⟩
  ·refine J0W code (J1 code c 12) 2 ?_ ?_
   ·exact hb
   ·exact J6 (Jb (by assumption)) (by omega)
  ·intro b3
   refine ⟨?_, ?_⟩
   ·refine J2G code (J1 code (J1 code c 12) 2) 7 ?_ ?_ ?_
    ·exact hb
    ·exact J6 (Jb (Jb (by assumption))) (by omega)
    ·omega
   intro Or4 Dr4 cgr4 hQ9
   obtain ⟨f1r4, f2r4⟩ := hQ9
   refine ⟨rfl, ?_⟩
   ·refine ⟨Or4, Dr4, cgr4, ?_⟩
    refine ⟨?_, rfl, rfl, rfl, rfl, rfl, rfl, rfl⟩
    ·refine ⟨?_, ?_, ?_⟩
     ·exact J6 (by assumption) (by omega)
     ·exact Nat.le_trans (And.left (show drF _ _ by assumption)) (by decide)
     ·exact Nat.le_trans (And.left (And.right (show drF _ _ by assumption))) (by decide)
  intro b4
  refine ⟨?_, ?_⟩
  ·refine J0q code (J1 code (J1 code c 12) 2) 7 ?_ ?_ ?_
   ·exact hb
   ·exact J6 (Jb (Jb (by assumption))) (by omega)
   ·omega
  intro Or5 Dr5 cfr5 hQ9
  obtain ⟨f1r5, f2r5⟩ := hQ9
  refine ⟨rfl, rfl, rfl, ?_, ?_⟩
  ·refine J5C Or5 Dr5 ?_
   ·assumption
  intro Or5x2 Dr5x2 hQ9
  have f2r5x2 := hQ9
  refine ⟨rfl, ?_⟩
  ·refine ⟨Or5x2, Dr5x2, cfr5, ?_⟩
   refine ⟨?_, rfl, rfl, rfl, rfl, rfl, rfl, rfl⟩
   ·refine ⟨?_, ?_, ?_⟩
    ·exact J6 (by assumption) (by omega)
    ·exact Nat.le_trans (And.left (show drF _ _ by assumption)) (by decide)
    ·exact Nat.le_trans (And.left (And.right (show drF _ _ by assumption))) (by decide)
theorem J3t (code : List Nat) (c : Cur) (hb : ∀ x9 ∈ code, x9 < 256) (hc : okC c 1000000) : PKE Tryz.prog 91 76 (.sl (.bytes code)) [.int .i64 c.pos, .int .u64 c.seed] [] (J0y code c) :=
  pke_by (Q := fun u => J2r u code c) (by kernel_rfl) Tryz.func91 @Tryz.call91 (by kernel_rfl) J79 (fun u => J6N u code c) (by kernel_rfl) (fun u => J63 u code c hb hc) (fun u => by kernel_rfl)
def n5B (n : Nat) : Int := max 1 (min (n : Int) 3)
def n5C (code : List Nat) (c : Cur) (n : Nat) : Cur := if J3 code c 24 = 0 then J1 code (J1 code c 24) 3 else J1 code (J1 code c 24) (n5B n)
theorem Jd4 {code : List Nat} {c : Cur} {n : Nat} {b : Int} (h : okC c b) : okC (n5C code c n) (b + 4) := by
  unfold n5C
  split
  · exact J6 (Jb (Jb h)) (by omega)
  exact J6 (Jb (Jb h)) (by omega)
def dst (D : ZR) (c a : Int) : Int := (D.getD c.toNat []).getD a.toNat 0
theorem JcH {n : Nat} {D : ZR} (h : JH n D = true) {i j a b : Nat} (hi : i < D.length) (hj : j < D.length) (ha : a < n) (hb : b < n) : (D.getD i []).getD a 0 ≤ (D.getD i []).getD b 0 + (D.getD j []).getD b 0 + (D.getD j []).getD a 0 := by
  have h1 : allTo (J4U n D i) D.length = true := allTo_iff.1 h i hi
  have h2 : allTo (J5s n D i j) n = true := allTo_iff.1 h1 j hj
  have h3 : allTo (fun b => !J0U D i j a b) n = true := allTo_iff.1 h2 a ha
  have h4 := allTo_iff.1 h3 b hb
  unfold J0U at h4
  simp only [Bool.not_eq_true', decide_eq_false_iff_not] at h4
  omega
theorem JcS {n : Nat} {D : ZR} (h : JH n D = true) {i j a b : Int} (hi : 0 ≤ i ∧ i < (D.length : Int)) (hj : 0 ≤ j ∧ j < (D.length : Int)) (ha : 0 ≤ a ∧ a < (n : Int)) (hb : 0 ≤ b ∧ b < (n : Int)) : dst D i a ≤ dst D i b + dst D j b + dst D j a :=
  JcH h (by omega) (by omega) (by omega) (by omega)
theorem J3q {l : ZI} (h : Asc l) : l.Nodup := h.imp fun {a b} hab e => by omega
def stN (m : Nat) : Int := min (m : Int) 7
def stQ (m : Nat) : Int := 1 * 2 ^ (stN m).toNat
def stO (code : List Nat) (c : Cur) (m : Nat) : ZI := members (fun k => (1 + J3 code c (stQ m)).toNat.testBit k) (stN m).toNat
def stE (code : List Nat) (c : Cur) (m : Nat) : ZI := if J3 code (J1 code c (stQ m)) 20 = 0 then stO code c m ++ [([-1, 0, stN m] : ZI).getD (J3 code (J1 code (J1 code c (stQ m)) 20) 3).toNat 0] else stO code c m
def stC (code : List Nat) (c : Cur) (m : Nat) : Cur := if J3 code (J1 code c (stQ m)) 20 = 0 then J1 code (J1 code (J1 code c (stQ m)) 20) 3 else J1 code (J1 code c (stQ m)) 20
def stT (code : List Nat) (c : Cur) (m : Nat) : Bool := cond (((stE code c m).length : Int) == 0) (decide (stN m > 0)) false
def stK (code : List Nat) (c : Cur) (m : Nat) : Cur := cond (stT code c m) (J1 code (stC code c m) 6) (stC code c m)
def stH (code : List Nat) (c : Cur) (m : Nat) : Bool := cond (stT code c m) (!(J3 code (stC code c m) 6 == 0)) false
def siE (code : List Nat) (c : Cur) (m : Nat) : ZI := if stH code c m = true then [J3 code (stK code c m) (stN m)] else stE code c m
def siC (code : List Nat) (c : Cur) (m : Nat) : Cur := if stH code c m = true then J1 code (stK code c m) (stN m) else stK code c m
theorem J4I (m : Nat) : 1 ≤ stQ m ∧ stQ m ≤ 128 := by
  have h : ∀ k : Nat, k ≤ 7 → 1 ≤ (1 * 2 ^ k : Int) ∧ (1 * 2 ^ k : Int) ≤ 128 := by decide
  exact h _ (by unfold stN; omega)
theorem J3V (code : List Nat) (c : Cur) (m : Nat) : (stO code c m).length ≤ 7 := by
  have h := members_len_le (fun k => (1 + J3 code c (stQ m)).toNat.testBit k) (stN m).toNat
  unfold stO stN at *
  omega
theorem Jaf {code : List Nat} {c : Cur} {m : Nat} {b : Int} (h : okC c b) : okC (stC code c m) (b + 6) := by
  unfold stC
  split
  · exact J6 (Jb (Jb (Jb h))) (by omega)
  exact J6 (Jb (Jb h)) (by omega)
theorem J9F {code : List Nat} {c : Cur} {m : Nat} {b : Int} (h : okC c b) : okC (stK code c m) (b + 8) := by
  unfold stK
  cases stT code c m
  · exact J6 (Jaf h) (by omega)
  exact J6 (Jb (Jaf h)) (by omega)
theorem JcD {code : List Nat} {c : Cur} {m : Nat} {b : Int} (h : okC c b) : okC (siC code c m) (b + 10) := by
  unfold siC
  split
  · exact J6 (Jb (J9F h)) (by omega)
  exact J6 (J9F h) (by omega)
abbrev J0o (u : Value) (code : List Nat) (c : Cur) (U : ZI) (E : ZR) (ll : ZI) (c2 : Cur) : Prop := (ll = stE code c U.length) ∧ (c2 = stC code c U.length)
abbrev J25 (u : Value) (code : List Nat) (c : Cur) (U : ZI) (E : ZR) (ll : ZI) (c2 : Cur) (gd : Bool) (c3 : Cur) : Prop := (gd = stH code c U.length) ∧ (c3 = stK code c U.length)
abbrev J1b (u : Value) (code : List Nat) (c : Cur) (U : ZI) (E : ZR) (ll : ZI) (c2 : Cur) (c4 : Cur) : Prop := (stH code c U.length = false) ∧ (c4 = stK code c U.length)
def J7S (f : FuncId) (ds : List D) : Orc := bif Nat.beq f 161 then J52 ds else .no
def J7q (u : Value) (code : List Nat) (c : Cur) (U : ZI) (E : ZR) : Ann := .two (.none) (.two (.none) (.two (.mark [(6, .call none (.one (.own 3 (.ints (members (fun k => (1 + (J3 code c ((1 : Int) * 2 ^ ((min (U.length : Int) 7).toNat)))).toNat.testBit k) (min (U.length : Int) 7).toNat)))))] [(4, .cell [.int .i64 ((J1 code c ((1 : Int) * 2 ^ ((min (U.length : Int) 7).toNat))).pos), .int .u64 ((J1 code c ((1 : Int) * 2 ^ ((min (U.length : Int) 7).toNat))).seed)] (.one (.d (.int .i64 (J3 code c ((1 : Int) * 2 ^ ((min (U.length : Int) 7).toNat)))))))]) (.cut (.two (.mark [] [(1, .cell [.int .i64 ((J1 code (J1 code c ((1 : Int) * 2 ^ ((min (U.length : Int) 7).toNat))) 20).pos), .int .u64 ((J1 code (J1 code c ((1 : Int) * 2 ^ ((min (U.length : Int) 7).toNat))) 20).seed)] (.one (.d (.bool (J3 code (J1 code c ((1 : Int) * 2 ^ ((min (U.length : Int) 7).toNat))) 20 == 0)))))]) (.two (.mark [] [(4, .cell [.int .i64 ((J1 code (J1 code (J1 code c ((1 : Int) * 2 ^ ((min (U.length : Int) 7).toNat))) 20) (([(-1), 0, (min (U.length : Int) 7)]).length : Int)).pos), .int .u64 ((J1 code (J1 code (J1 code c ((1 : Int) * 2 ^ ((min (U.length : Int) 7).toNat))) 20) (([(-1), 0, (min (U.length : Int) 7)]).length : Int)).seed)] (.one (.d (.int .i64 (([(-1), 0, (min (U.length : Int) 7)]).getD (J3 code (J1 code (J1 code c ((1 : Int) * 2 ^ ((min (U.length : Int) 7).toNat))) 20) (([(-1), 0, (min (U.length : Int) 7)]).length : Int)).toNat 0)))))]) (.none))) (cut2 (fun (ll : ZI) (c2 : Cur) => J0o u code c U E ll c2) (fun (ll : ZI) (c2 : Cur) => [(0, .ptr 0 0), (5, .d true (.int .i64 (min (U.length : Int) 7))), (6, .own 1600500 ll.length)]) (fun (ll : ZI) (c2 : Cur) => [(1600500, .arr true 3 (.ints ll)), (0, .box 76 [.d false (.lit u (.sl (.bytes code))), .d true (.int .i64 c2.pos), .d true (.int .u64 c2.seed)])])) (fun g => (fun (ll : ZI) (c2 : Cur) => .cut (.cut (.mark [] [(9, .cell [.int .i64 ((J1 code c2 6).pos), .int .u64 ((J1 code c2 6).seed)] (.one (.d (.bool (J3 code c2 6 == 0)))))]) (cut2 (fun (gd : Bool) (c3 : Cur) => J25 u code c U E ll c2 gd c3) (fun (gd : Bool) (c3 : Cur) => [(0, .ptr 0 0), (5, .d true (.int .i64 (min (U.length : Int) 7))), (6, .own 1600500 ll.length), (38, .d true (.bool gd))]) (fun (gd : Bool) (c3 : Cur) => [(0, .box 76 [.d false (.lit u (.sl (.bytes code))), .d true (.int .i64 c3.pos), .d true (.int .u64 c3.seed)]), (1600500, .arr true 3 (.ints ll))])) (fun g => (fun (gd : Bool) (c3 : Cur) => .two (.two (.mark [] [(2, .cell [.int .i64 ((J1 code c3 (min (U.length : Int) 7)).pos), .int .u64 ((J1 code c3 (min (U.length : Int) 7)).seed)] (.one (.d (.int .i64 (J3 code c3 (min (U.length : Int) 7))))))]) (.none)) (.none)) (g.1) (g.2))) (cut1 (fun (c4 : Cur) => J1b u code c U E ll c2 c4) (fun (c4 : Cur) => [(0, .ptr 0 0), (6, .own 1600500 ll.length)]) (fun (c4 : Cur) => [(0, .box 76 [.d false (.lit u (.sl (.bytes code))), .d true (.int .i64 c4.pos), .d true (.int .u64 c4.seed)]), (1600500, .arr true 3 (.ints ll))])) (fun _ => .none)) (g.1) (g.2)))))
def Jl (U : ZI) (ll : ZI) : Bool := (cond ((ll.length : Int) == 0) (decide ((min (U.length : Int) 7) > 0)) false)
def J2P (u : Value) (code : List Nat) (c : Cur) (U : ZI) (E : ZR) : Prop :=
  (PC Tryz.prog 161 [.int .i64 (U.length : Int), .int .i64 7] (.one (.d (.int .i64 (min (U.length : Int) 7))))) ∧ ((0 : Int) ≤ 1) ∧ ((0 : Int) ≤ (min (U.length : Int) 7)) ∧ ((0 : Int) ≤ ((1 : Int) * 2 ^ ((min (U.length : Int) 7).toNat)) ∧ (((1 : Int) * 2 ^ ((min (U.length : Int) 7).toNat)) : Int) ≤ 9223372036854775807) ∧ (PK Tryz.prog 156 76 (.sl (.bytes code)) [.int .i64 c.pos, .int .u64 c.seed] [.int .i64 ((J1 code c ((1 : Int) * 2 ^ ((min (U.length : Int) 7).toNat))).pos), .int .u64 ((J1 code c ((1 : Int) * 2 ^ ((min (U.length : Int) 7).toNat))).seed)] [.int .i64 ((1 : Int) * 2 ^ ((min (U.length : Int) 7).toNat))] (.one (.d (.int .i64 (J3 code c ((1 : Int) * 2 ^ ((min (U.length : Int) 7).toNat))))))) ∧ (I6 (1 + (J3 code c ((1 : Int) * 2 ^ ((min (U.length : Int) 7).toNat))))) ∧ (PC Tryz.prog 142 [.int .i64 (min (U.length : Int) 7), .int .i64 (1 + (J3 code c ((1 : Int) * 2 ^ ((min (U.length : Int) 7).toNat))))] (.one (.own 3 (.ints (members (fun k => (1 + (J3 code c ((1 : Int) * 2 ^ ((min (U.length : Int) 7).toNat)))).toNat.testBit k) (min (U.length : Int) 7).toNat))))) ∧ (((PK Tryz.prog 124 76 (.sl (.bytes code)) [.int .i64 ((J1 code c ((1 : Int) * 2 ^ ((min (U.length : Int) 7).toNat))).pos), .int .u64 ((J1 code c ((1 : Int) * 2 ^ ((min (U.length : Int) 7).toNat))).seed)] [.int .i64 ((J1 code (J1 code c ((1 : Int) * 2 ^ ((min (U.length : Int) 7).toNat))) 20).pos), .int .u64 ((J1 code (J1 code c ((1 : Int) * 2 ^ ((min (U.length : Int) 7).toNat))) 20).seed)] [.int .i64 20] (.one (.d (.bool (J3 code (J1 code c ((1 : Int) * 2 ^ ((min (U.length : Int) 7).toNat))) 20 == 0))))) ∧ (((J3 code (J1 code c ((1 : Int) * 2 ^ ((min (U.length : Int) 7).toNat))) 20 == 0) = true → ((3 : Nat) = 3) ∧ (PK Tryz.prog 155 76 (.sl (.bytes code)) [.int .i64 ((J1 code (J1 code c ((1 : Int) * 2 ^ ((min (U.length : Int) 7).toNat))) 20).pos), .int .u64 ((J1 code (J1 code c ((1 : Int) * 2 ^ ((min (U.length : Int) 7).toNat))) 20).seed)] [.int .i64 ((J1 code (J1 code (J1 code c ((1 : Int) * 2 ^ ((min (U.length : Int) 7).toNat))) 20) (([(-1), 0, (min (U.length : Int) 7)]).length : Int)).pos), .int .u64 ((J1 code (J1 code (J1 code c ((1 : Int) * 2 ^ ((min (U.length : Int) 7).toNat))) 20) (([(-1), 0, (min (U.length : Int) 7)]).length : Int)).seed)] [.sl (.ints ([(-1), 0, (min (U.length : Int) 7)]))] (.one (.d (.int .i64 (([(-1), 0, (min (U.length : Int) 7)]).getD (J3 code (J1 code (J1 code c ((1 : Int) * 2 ^ ((min (U.length : Int) 7).toNat))) 20) (([(-1), 0, (min (U.length : Int) 7)]).length : Int)).toNat 0))))) ∧ ((members (fun k => (1 + (J3 code c ((1 : Int) * 2 ^ ((min (U.length : Int) 7).toNat)))).toNat.testBit k) (min (U.length : Int) 7).toNat).length = (members (fun k => (1 + (J3 code c ((1 : Int) * 2 ^ ((min (U.length : Int) 7).toNat)))).toNat.testBit k) (min (U.length : Int) 7).toNat).length) ∧ ((1 : Nat) = 1) ∧ (((members (fun k => (1 + (J3 code c ((1 : Int) * 2 ^ ((min (U.length : Int) 7).toNat)))).toNat.testBit k) (min (U.length : Int) 7).toNat).length + 1) * 8 ≤ 140737488355328) ∧ (∃ ll' : ZI, ∃ c2' : Cur, (J0o u code c U E ll' c2') ∧ ((min (U.length : Int) 7) = (min (U.length : Int) 7)) ∧ (((members (fun k => (1 + (J3 code c ((1 : Int) * 2 ^ ((min (U.length : Int) 7).toNat)))).toNat.testBit k) (min (U.length : Int) 7).toNat).length + 1) = ll'.length) ∧ ((members (fun k => (1 + (J3 code c ((1 : Int) * 2 ^ ((min (U.length : Int) 7).toNat)))).toNat.testBit k) (min (U.length : Int) 7).toNat ++ [(([(-1), 0, (min (U.length : Int) 7)]).getD (J3 code (J1 code (J1 code c ((1 : Int) * 2 ^ ((min (U.length : Int) 7).toNat))) 20) (([(-1), 0, (min (U.length : Int) 7)]).length : Int)).toNat 0)]) = ll') ∧ ((.lit u (.sl (.bytes code)) : D) = .lit u (.sl (.bytes code))) ∧ ((J1 code (J1 code (J1 code c ((1 : Int) * 2 ^ ((min (U.length : Int) 7).toNat))) 20) (([(-1), 0, (min (U.length : Int) 7)]).length : Int)).pos = c2'.pos) ∧ ((J1 code (J1 code (J1 code c ((1 : Int) * 2 ^ ((min (U.length : Int) 7).toNat))) 20) (([(-1), 0, (min (U.length : Int) 7)]).length : Int)).seed = c2'.seed))) ∧ ((J3 code (J1 code c ((1 : Int) * 2 ^ ((min (U.length : Int) 7).toNat))) 20 == 0) = false → (∃ ll' : ZI, ∃ c2' : Cur, (J0o u code c U E ll' c2') ∧ ((min (U.length : Int) 7) = (min (U.length : Int) 7)) ∧ ((members (fun k => (1 + (J3 code c ((1 : Int) * 2 ^ ((min (U.length : Int) 7).toNat)))).toNat.testBit k) (min (U.length : Int) 7).toNat).length = ll'.length) ∧ (members (fun k => (1 + (J3 code c ((1 : Int) * 2 ^ ((min (U.length : Int) 7).toNat)))).toNat.testBit k) (min (U.length : Int) 7).toNat = ll') ∧ ((.lit u (.sl (.bytes code)) : D) = .lit u (.sl (.bytes code))) ∧ ((J1 code (J1 code c ((1 : Int) * 2 ^ ((min (U.length : Int) 7).toNat))) 20).pos = c2'.pos) ∧ ((J1 code (J1 code c ((1 : Int) * 2 ^ ((min (U.length : Int) 7).toNat))) 20).seed = c2'.seed))))) ∧ (∀ ll : ZI, ∀ c2 : Cur, (J0o u code c U E ll c2) → ((((((ll.length : Int) == 0) = true → ((ll.length : Int) == 0) = true) ∧ (true = true) ∧ ((((ll.length : Int) == 0) = true → ((ll.length : Int) == 0) = true)) ∧ ((((ll.length : Int) == 0) = false → true = true)) ∧ ((Jl U ll) = true → (Jl U ll) = true) ∧ ((Jl U ll) = true → PK Tryz.prog 124 76 (.sl (.bytes code)) [.int .i64 c2.pos, .int .u64 c2.seed] [.int .i64 ((J1 code c2 6).pos), .int .u64 ((J1 code c2 6).seed)] [.int .i64 6] (.one (.d (.bool (J3 code c2 6 == 0))))) ∧ ((Jl U ll) = true → (Jl U ll) = true) ∧ (true = true) ∧ (((Jl U ll) = true → (Jl U ll) = true)) ∧ (((Jl U ll) = false → true = true)) ∧ (∃ gd' : Bool, ∃ c3' : Cur, (J25 u code c U E ll c2 gd' c3') ∧ ((min (U.length : Int) 7) = (min (U.length : Int) 7)) ∧ (ll.length = ll.length) ∧ ((cond (Jl U ll) (!(J3 code c2 6 == 0)) false) = gd') ∧ ((.lit u (.sl (.bytes code)) : D) = .lit u (.sl (.bytes code))) ∧ ((cond (Jl U ll) ((J1 code c2 6).pos) c2.pos) = c3'.pos) ∧ ((cond (Jl U ll) ((J1 code c2 6).seed) c2.seed) = c3'.seed) ∧ (ll = ll))) ∧ (∀ gd : Bool, ∀ c3 : Cur, (J25 u code c U E ll c2 gd c3) → ((gd = true → (PK Tryz.prog 156 76 (.sl (.bytes code)) [.int .i64 c3.pos, .int .u64 c3.seed] [.int .i64 ((J1 code c3 (min (U.length : Int) 7)).pos), .int .u64 ((J1 code c3 (min (U.length : Int) 7)).seed)] [.int .i64 (min (U.length : Int) 7)] (.one (.d (.int .i64 (J3 code c3 (min (U.length : Int) 7)))))) ∧ (((.lit u (.sl (.bytes code)) : D) = .lit u (.sl (.bytes code))) ∧ ((J1 code c3 (min (U.length : Int) 7)).pos = (siC code c U.length).pos) ∧ ((J1 code c3 (min (U.length : Int) 7)).seed = (siC code c U.length).seed) ∧ ((1 : Nat) = 1) ∧ (([(J3 code c3 (min (U.length : Int) 7))] : ZI) = siE code c U.length))) ∧ (gd = false → (∃ c4' : Cur, (J1b u code c U E ll c2 c4') ∧ (ll.length = ll.length) ∧ ((.lit u (.sl (.bytes code)) : D) = .lit u (.sl (.bytes code))) ∧ (c3.pos = c4'.pos) ∧ (c3.seed = c4'.seed) ∧ (ll = ll)))))) ∧ (∀ c4 : Cur, (J1b u code c U E ll c2 c4) → (((.lit u (.sl (.bytes code)) : D) = .lit u (.sl (.bytes code))) ∧ (c4.pos = (siC code c U.length).pos) ∧ (c4.seed = (siC code c U.length).seed) ∧ (ll.length = ll.length) ∧ ((ll : ZI) = siE code c U.length))))))
theorem J6Y (u : Value) (code : List Nat) (c : Cur) (U : ZI) (E : ZR) (hb : ∀ x9 ∈ code, x9 < 256) (hc : okC c 9000100)  : J2P u code c U E := by
  unfold J2P Jl
  refine ⟨J5x (U.length : Int) 7, ?_, ?_, ?_, ?_, ?_, ?_, ?_, ?_⟩
  ·omega
  ·omega
  ·have q0 := J4I U.length
   have v := Jn code c (n := stQ U.length) (by omega)
   have hl := J3V code c U.length
   unfold stO at hl
   unfold stQ stN at q0 v hl
   omega
  ·refine Jg code c ((1 : Int) * 2 ^ ((min (U.length : Int) 7).toNat)) ?_ ?_
   ·exact hb
   ·exact J6 (by assumption) (by omega)
  ·have q0 := J4I U.length
   have v := Jn code c (n := stQ U.length) (by omega)
   have hl := J3V code c U.length
   unfold stO at hl
   unfold stQ stN at q0 v hl
   omega
  ·refine J7H (min (U.length : Int) 7) (1 + (J3 code c ((1 : Int) * 2 ^ ((min (U.length : Int) 7).toNat)))) ?_ ?_
   ·omega
   ·have q0 := J4I U.length
    have v := Jn code c (n := stQ U.length) (by omega)
    have hl := J3V code c U.length
    unfold stO at hl
    unfold stQ stN at q0 v hl
    omega
  ·refine ⟨?_, ?_, ?_⟩
   ·refine J0W code (J1 code c ((1 : Int) * 2 ^ ((min (U.length : Int) 7).toNat))) 20 ?_ ?_
    ·exact hb
    ·exact J6 (Jb (by assumption)) (by omega)
   ·intro b1
    try simp only [nrmT] at b1
    refine ⟨rfl, ?_, rfl, rfl, ?_, ?_⟩
    ·refine J02 code (J1 code (J1 code c ((1 : Int) * 2 ^ ((min (U.length : Int) 7).toNat))) 20) ([(-1), 0, (min (U.length : Int) 7)]) ?_ ?_ ?_
     ·exact hb
     ·exact J6 (Jb (Jb (by assumption))) (by omega)
     ·simp
    ·have q0 := J4I U.length
     have v := Jn code c (n := stQ U.length) (by omega)
     have hl := J3V code c U.length
     unfold stO at hl
     unfold stQ stN at q0 v hl
     omega
    refine ⟨(members (fun k => (1 + (J3 code c ((1 : Int) * 2 ^ ((min (U.length : Int) 7).toNat)))).toNat.testBit k) (min (U.length : Int) 7).toNat ++ [(([(-1), 0, (min (U.length : Int) 7)]).getD (J3 code (J1 code (J1 code c ((1 : Int) * 2 ^ ((min (U.length : Int) 7).toNat))) 20) (([(-1), 0, (min (U.length : Int) 7)]).length : Int)).toNat 0)]), (J1 code (J1 code (J1 code c ((1 : Int) * 2 ^ ((min (U.length : Int) 7).toNat))) 20) (([(-1), 0, (min (U.length : Int) 7)]).length : Int)), ?_⟩
    refine ⟨?_, rfl, ?_, rfl, rfl, rfl, rfl⟩
    ·refine ⟨?_, ?_⟩
     ·unfold stE stO stQ stN
      (rw [if_pos b1]; rfl)
     ·unfold stC stQ stN
      (rw [if_pos b1]; rfl)
    have q0 := J4I U.length
    have v := Jn code c (n := stQ U.length) (by omega)
    have hl := J3V code c U.length
    unfold stO at hl
    unfold stQ stN at q0 v hl
    (simp; done)
   ·intro b2
    try simp only [nrmT] at b2
    refine ⟨(members (fun k => (1 + (J3 code c ((1 : Int) * 2 ^ ((min (U.length : Int) 7).toNat)))).toNat.testBit k) (min (U.length : Int) 7).toNat), (J1 code (J1 code c ((1 : Int) * 2 ^ ((min (U.length : Int) 7).toNat))) 20), ?_⟩
    refine ⟨?_, rfl, rfl, ?_, rfl, rfl, rfl⟩
    ·refine ⟨?_, ?_⟩
     ·unfold stE stO stQ stN
      (rw [if_neg b2]; done)
     ·unfold stC stQ stN
      (rw [if_neg b2]; done)
    have q0 := J4I U.length
    have v := Jn code c (n := stQ U.length) (by omega)
    have hl := J3V code c U.length
    unfold stO at hl
    unfold stQ stN at q0 v hl
    rfl
  intro ll c2 hJ
  obtain ⟨d1, d2⟩ := hJ
  refine ⟨?_, ?_⟩
  ·refine ⟨?_, ?_⟩
   ·refine ⟨id, rfl, id, fun _ => rfl, id, ?_, id, rfl, id, fun _ => rfl, ?_⟩
    ·intro hg
     refine J0W code c2 6 ?_ ?_
     ·exact hb
     rw [d2]
     exact J6 (Jaf hc) (by omega)
    ·refine ⟨(cond (cond ((ll.length : Int) == 0) (decide ((min (U.length : Int) 7) > 0)) false) (!(J3 code c2 6 == 0)) false), (cond (cond ((ll.length : Int) == 0) (decide ((min (U.length : Int) 7) > 0)) false) (J1 code c2 6) c2), ?_⟩
     refine ⟨?_, rfl, rfl, rfl, rfl, J9R _ _ _, J9d _ _ _, rfl⟩
     ·refine ⟨?_, ?_⟩
      ·rw [d1, d2]; rfl
      ·(rw [d1, d2]; rfl)
   ·intro gd c3 hJ
    obtain ⟨d3, d4⟩ := hJ
    refine ⟨?_, ?_⟩
    ·intro b3
     try simp only [nrmT] at b3
     refine ⟨?_, rfl, ?_, ?_, rfl, ?_⟩
     ·refine Jg code c3 (min (U.length : Int) 7) ?_ ?_
      ·exact hb
      ·(rw [d4]; exact J6 (J9F hc) (by omega))
     ·(rw [d4]; unfold siC; rw [if_pos (by rw [← d3]; exact b3)]; rfl)
     ·(rw [d4]; unfold siC; rw [if_pos (by rw [← d3]; exact b3)]; rfl)
     (rw [d4]; unfold siE; rw [if_pos (by rw [← d3]; exact b3)]; rfl)
    intro b4
    try simp only [nrmT] at b4
    refine ⟨c3, ?_⟩
    refine ⟨?_, rfl, rfl, rfl, rfl, rfl⟩
    ·refine ⟨?_, ?_⟩
     ·rw [← d3]; exact b4
     ·exact d4
  intro c4 hJ
  obtain ⟨d5, d6⟩ := hJ
  refine ⟨rfl, ?_, ?_, rfl, ?_⟩
  ·(rw [d6]; unfold siC; rw [if_neg (by rw [d5]; decide)])
  ·(rw [d6]; unfold siC; rw [if_neg (by rw [d5]; decide)])
  (rw [d1]; unfold siE; rw [if_neg (by rw [d5]; decide)])
theorem J2q (code : List Nat) (c : Cur) (U : ZI) (E : ZR) (hb : ∀ x9 ∈ code, x9 < 256) (hc : okC c 9000100) : PK Tryz.prog 123 76 (.sl (.bytes code)) [.int .i64 c.pos, .int .u64 c.seed] [.int .i64 (siC code c U.length).pos, .int .u64 (siC code c U.length).seed] [.agg [.sl (.ints U), .sl (.rows E)]] (.one (.own 3 (.ints (siE code c U.length)))) :=
  pk_by (Q := fun u => J2P u code c U E) (by kernel_rfl) Tryz.func123 @Tryz.call123 (by kernel_rfl) J7S (fun u => J7q u code c U E) (by kernel_rfl) (fun u => J6Y u code c U E hb hc) (fun u => by kernel_rfl)
theorem Jci {l : ZI} {x : Int} (ha : Asc l) (hx : x ∉ l) : (putL l x).length = l.length + 1 := by
  have h1 := putL_len l x
  have h2 := List.Nodup.length_le_of_subset (List.nodup_cons.2 ⟨hx, J3q ha⟩) (fun y hy => by
    rcases List.mem_cons.1 hy with hy | hy
    · exact mem_putL.2 (.inl hy)
    exact mem_putL.2 (.inr hy) : ∀ y ∈ x :: l, y ∈ putL l x)
  rw [List.length_cons] at h2
  omega
theorem JcE {U : ZI} {D : ZR} (hg : J0 U D = true) {S : ZI} (ha : Asc S) (hr : ∀ x ∈ S, 0 ≤ x ∧ x < (U.length : Int)) {a : Int} (h : 0 ≤ a ∧ a < (U.length : Int)) :
    (J0 U D && J2 (putL S a) 0 ((U.length : Int) - 1) && decide (0 < (putL S a).length)) = true := by
  rw [hg, J8N (asc_putL ha) (fun x hx => by
    rcases mem_putL.1 hx with hx | hx
    · omega
    have := hr x hx; omega), decide_eq_true (List.length_pos_of_mem (mem_putL.2 (.inl rfl)))]
  rfl
theorem Jcy {S : ZI} (ha : Asc S) (hr : ∀ x ∈ S, 0 ≤ x ∧ x < 62) : members (fun k => (bagN S).testBit k) 62 = S := by
  refine asc_ext (asc_members _ _) ha fun x => ?_
  rw [mem_members, bagN_bit fun y hy => (hr y hy).1, List.contains_iff_mem]
  constructor
  · rintro ⟨h1, h2, h3⟩
    rwa [Int.toNat_of_nonneg h1] at h3
  intro hx
  have := hr x hx
  exact ⟨this.1, this.2, by rwa [Int.toNat_of_nonneg this.1]⟩
theorem JcJ {S : ZI} (hr : ∀ x ∈ S, 0 ≤ x) {a : Int} (ha : 0 ≤ a) : bagN (putL S a) = bagN S ||| 2 ^ a.toNat := by
  refine Nat.eq_of_testBit_eq fun i => ?_
  rw [bagN_bit fun y hy => by
    rcases mem_putL.1 hy with hy | hy
    · omega
    exact hr y hy, Nat.testBit_or, bagN_bit hr, Nat.testBit_two_pow, Bool.eq_iff_iff, List.contains_iff_mem, mem_putL, Bool.or_eq_true, List.contains_iff_mem, decide_eq_true_eq]
  constructor
  · rintro (h | h)
    · right; omega
    · exact .inl h
  rintro (h | h)
  · exact .inr h
  · left; omega
theorem JcB {a : Int} (ha : 0 ≤ a ∧ a < 7) : 1 ≤ (1 : Int) * 2 ^ a.toNat ∧ (1 : Int) * 2 ^ a.toNat ≤ 64 := by
  have h : ∀ k : Nat, k < 7 → 1 ≤ (1 * 2 ^ k : Int) ∧ (1 * 2 ^ k : Int) ≤ 64 := by decide
  exact h _ (by omega)
def JO (S : ZI) (x : Int) : ZI := S.filter fun y => !(decide (y = x))
theorem J0s {S : ZI} {x y : Int} : y ∈ JO S x ↔ y ∈ S ∧ y ≠ x := by
  unfold JO
  rw [List.mem_filter]
  simp
theorem J71 {S : ZI} {x : Int} (h : Asc S) : Asc (JO S x) := h.filter _
theorem Jcw {S : ZI} {x : Int} (h : Asc S) (hx : x ∈ S) : (JO S x).length + 1 = S.length := by
  have h1 : S.Nodup := J3q h
  have h2 : (x :: JO S x).Nodup := List.nodup_cons.2 ⟨fun hm => (J0s.1 hm).2 rfl, h1.filter _⟩
  have h3 := List.Nodup.length_le_of_subset h2 (fun y hy => by
    rcases List.mem_cons.1 hy with hy | hy
    · rw [hy]; exact hx
    exact (J0s.1 hy).1 : ∀ y ∈ _, y ∈ S)
  have h4 := List.Nodup.length_le_of_subset h1 (fun y hy => by
    by_cases e : y = x
    · rw [e]; exact List.mem_cons_self
    exact List.mem_cons_of_mem _ (J0s.2 ⟨hy, e⟩) : ∀ y ∈ S, y ∈ x :: JO S x)
  rw [List.length_cons] at h3 h4
  omega
theorem Ja2 {S : ZI} {x : Int} {k : Int} (h0 : 0 ≤ k) (h : k < (S.length : Int)) : JO (S.take (k + 1).toNat) x = if S.getD k.toNat 0 ≠ x then JO (S.take k.toNat) x ++ [S.getD k.toNat 0] else JO (S.take k.toNat) x := by
  rw [take_step (d := 0) h0 h]
  unfold JO
  rw [List.filter_append]
  by_cases e : S.getD k.toNat 0 = x
  · rw [if_neg (fun h => h e), List.filter_cons, if_neg (by rw [e]; simp)]; simp
  rw [if_pos e, List.filter_cons, if_pos (by simp only [Bool.not_eq_true', decide_eq_false_iff_not]; exact e)]; rfl
theorem JcP {S : ZI} (hr : ∀ x ∈ S, 0 ≤ x) {a : Int} (ha : 0 ≤ a) : bagN (JO S a) = bagN S ^^^ (bagN S &&& 2 ^ a.toNat) := by
  refine Nat.eq_of_testBit_eq fun i => ?_
  rw [bagN_bit (fun y hy => hr y (J0s.1 hy).1), Nat.testBit_xor, Nat.testBit_and, bagN_bit hr, Nat.testBit_two_pow]
  have h : (JO S a).contains (i : Int) = (S.contains (i : Int) && !(decide ((i : Int) = a))) := by
    rw [Bool.eq_iff_iff, List.contains_iff_mem, J0s, Bool.and_eq_true, List.contains_iff_mem]
    simp
  rw [h]
  have e : decide ((i : Int) = a) = decide (a.toNat = i) := by
    rw [Bool.eq_iff_iff, decide_eq_true_eq, decide_eq_true_eq]; omega
  rw [e]
  cases S.contains (i : Int) <;> cases decide (a.toNat = i) <;> rfl
def J9h (f : FuncId) (ds : List D) : Orc := bif Nat.beq f 113 then J0Z ds else bif Nat.beq f 125 then J01 ds else .no
def J9w (U : ZI) (E : ZR) (set : ZI) : Ann := .none
def J4Y (U : ZI) (E : ZR) (set : ZI) : Prop :=
  (PC Tryz.prog 113 [.agg [.sl (.ints U), .sl (.rows E)], .sl (.ints set)] (.one (.d (.bool (J0 U E && J2 set 0 ((U.length : Int) - 1) && decide (0 < set.length)))))) ∧ (((!(J0 U E && J2 set 0 ((U.length : Int) - 1) && decide (0 < set.length))) = true → (((0 : Int) = (if (J0 U E && J2 set 0 ((U.length : Int) - 1) && decide (0 < set.length)) = true then J5 E set else 0)) ∧ (false = (J0 U E && J2 set 0 ((U.length : Int) - 1) && decide (0 < set.length))))) ∧ ((!(J0 U E && J2 set 0 ((U.length : Int) - 1) && decide (0 < set.length))) = false → (PC Tryz.prog 125 [.agg [.sl (.ints U), .sl (.rows E)], .sl (.ints set)] (.one (.d (.int .i64 (J5 E set))))) ∧ (((J5 E set) = (if (J0 U E && J2 set 0 ((U.length : Int) - 1) && decide (0 < set.length)) = true then J5 E set else 0)) ∧ (true = (J0 U E && J2 set 0 ((U.length : Int) - 1) && decide (0 < set.length))))))
theorem J8w (U : ZI) (E : ZR) (set : ZI)  (w_Open : (U.length : Int) ≤ 9223372036854775807) (w_Dist : (E.length : Int) ≤ 9223372036854775807) (v_Dist : ∀ x9 ∈ E, (x9.length : Int) ≤ 9223372036854775807) (w_set : (set.length : Int) ≤ 9223372036854775807) : J4Y U E set := by
  unfold J4Y
  refine ⟨J1i U E set, ?_, ?_⟩
  ·intro b1
   try simp only [Bool.not_eq_true', Bool.not_eq_false', Bool.not_not] at b1
   refine ⟨?_, ?_⟩
   ·have hq : (J0 U E && J2 set 0 ((U.length : Int) - 1) && decide (0 < set.length)) = false := by simpa only [Bool.not_eq_true', Bool.not_eq_false', Bool.not_not] using b1
    rw [hq]; rfl
   (simp_all <;> omega)
  intro b2
  try simp only [Bool.not_eq_true', Bool.not_eq_false', Bool.not_not] at b2
  refine ⟨?_, ?_, ?_⟩
  ·refine Jw U E set ?_
   ·omega
  ·have hq : (J0 U E && J2 set 0 ((U.length : Int) - 1) && decide (0 < set.length)) = true := by simpa only [Bool.not_eq_true', Bool.not_eq_false', Bool.not_not] using b2
   rw [if_pos hq]
  (simp_all; done)
theorem J0Y (U : ZI) (E : ZR) (set : ZI)  : PC Tryz.prog 38 [.agg [.sl (.ints U), .sl (.rows E)], .sl (.ints set)] (.tup [.d (.int .i64 (if (J0 U E && J2 set 0 ((U.length : Int) - 1) && decide (0 < set.length)) = true then J5 E set else 0)), .d (.bool (J0 U E && J2 set 0 ((U.length : Int) - 1) && decide (0 < set.length)))]) :=
  pc_wf @Tryz.call38 fun hw => pc_by (by kernel_rfl) Tryz.func38 @Tryz.call38 (by kernel_rfl) J9h (J9w U E set) (by kernel_rfl) (J8w U E set hw.1.1 hw.1.2.1.1 hw.1.2.1.2 hw.2.1) (by kernel_rfl)
def J7N : List D → Orc := orcN [none, some .ints] fun ds => match ds with
  | [.agg [.sl (.ints U), .sl (.rows E)], .sl (.ints set)] => some (.tup [.d (.int .i64 (if (J0 U E && J2 set 0 ((U.length : Int) - 1) && decide (0 < set.length)) = true then J5 E set else 0)), .d (.bool (J0 U E && J2 set 0 ((U.length : Int) - 1) && decide (0 < set.length)))])
  | _ => none
theorem J7y {f : Int → Int} : ∀ l : ZI, 0 < l.length → ∃ x, x ∈ l ∧ ∀ y ∈ l, f x ≤ f y
  | [x], _ => ⟨x, List.mem_cons_self, fun y hy => by rw [List.mem_singleton.1 hy]; exact Int.le_refl _⟩
  | x :: z :: r, _ => by
    obtain ⟨m, h1, h2⟩ := J7y (f := f) (z :: r) (by simp)
    by_cases h : f x ≤ f m
    · refine ⟨x, List.mem_cons_self, fun y hy => ?_⟩
      rcases List.mem_cons.1 hy with hy | hy
      · rw [hy]; exact Int.le_refl _
      exact Int.le_trans h (h2 y hy)
    refine ⟨m, List.mem_cons_of_mem _ h1, fun y hy => ?_⟩
    rcases List.mem_cons.1 hy with hy | hy
    · rw [hy]; omega
    exact h2 y hy
theorem J2F (f g : Int → Int) (l : ZI) : JD (fun x => f x + g x) l = JD f l + JD g l := by
  induction l with
  | nil => rfl
  | cons x r ih => rw [JF, JF, JF, ih]; omega
theorem J2V (v : Int) (l : ZI) : JD (fun _ => v) l = v * (l.length : Int) := by
  induction l with
  | nil => simp [JD]
  | cons x r ih => rw [JF, ih, List.length_cons, Int.natCast_add, Int.mul_add]; simp; omega
/-- As many as fulfil it. -/
def J0Q (p : Int → Bool) (l : ZI) : Int := ((l.filter p).length : Int)
theorem J5j (p : Int → Bool) (x : Int) (r : ZI) : J0Q p (x :: r) = (if p x = true then 1 else 0) + J0Q p r := by
  unfold J0Q
  rw [List.filter_cons]
  split
  · rw [List.length_cons]; omega
  omega
theorem J44 (p : Int → Bool) (v : Int) (l : ZI) : JD (fun x => if p x = true then v else 0) l = v * J0Q p l := by
  induction l with
  | nil => simp [JD, J0Q]
  | cons x r ih =>
    rw [JF, ih, J5j]
    split
    · rw [Int.mul_add]; omega
    simp only [Int.zero_add]
theorem JaT {l : ZI} (hn : l.Nodup) {x : Int} (hx : x ∈ l) : J0Q (fun y => decide (y = x)) l = 1 := by
  induction l with
  | nil => cases hx
  | cons z r ih =>
    rw [List.nodup_cons] at hn
    rw [J5j]
    by_cases e : z = x
    · rw [if_pos (decide_eq_true e)]
      have : J0Q (fun y => decide (y = x)) r = 0 := by
        unfold J0Q
        rw [List.filter_eq_nil_iff.2 fun y hy => by
          rw [decide_eq_true_eq]
          intro h
          exact hn.1 (by rw [e, ← h]; exact hy)]
        rfl
      omega
    rw [if_neg (by rw [decide_eq_true_eq]; exact e)]
    rcases List.mem_cons.1 hx with h | h
    · exact absurd h.symm e
    have := ih hn.2 h; omega
/-- Counted at the images. -/
theorem J9M {S O : ZI} {η w : Int → Int} (hn : S.Nodup) (h : ∀ o ∈ O, η o ∈ S) : JD (fun o => w (η o)) O = JD (fun s => w s * J0Q (fun o => decide (η o = s)) O) S := by
  induction O with
  | nil =>
    have : JD (fun s => w s * J0Q (fun o => decide (η o = s)) []) S = JD (fun _ => 0) S := by
      congr 1
      funext s
      simp [J0Q]
    rw [this, J2V]
    simp [JD]
  | cons x r ih =>
    rw [JF, ih fun o ho => h o (List.mem_cons_of_mem _ ho)]
    have e : (fun s => w s * J0Q (fun o => decide (η o = s)) (x :: r)) = fun s => (if (fun y => decide (y = η x)) s = true then w (η x) else 0) + w s * J0Q (fun o => decide (η o = s)) r := by
      funext s
      rw [J5j, Int.mul_add]
      congr 1
      by_cases q : η x = s
      · subst q; simp
      rw [if_neg (by rw [decide_eq_true_eq]; exact q), if_neg (by rw [decide_eq_true_eq]; exact fun h => q h.symm)]; omega
    rw [e, J2F, J44, JaT hn (h x List.mem_cons_self)]
    omega
/-- Each of O has one of S, none of S more than two, and none that is the next one of another. -/
theorem JcR {S O : ZI} {η : Int → Int} (hS : S.Nodup) (hO : O.Nodup) (hl : S.length = O.length) (hη : ∀ o ∈ O, η o ∈ S) :
    ∃ σ : Int → Int, (∀ o ∈ O, σ o ∈ S ∧ ∀ o' ∈ O, o' ≠ o → η o' ≠ σ o) ∧ ∀ s ∈ S, J0Q (fun o => decide (σ o = s)) O ≤ 2 := by
  let c : Int → Int := fun s => J0Q (fun o => decide (η o = s)) O
  let O2 := O.filter fun o => decide (2 ≤ c (η o))
  let S0 := S.filter fun s => decide (c s = 0)
  have hc0 : ∀ s, 0 ≤ c s := fun s => by show 0 ≤ J0Q _ _; unfold J0Q; omega
  have h1 : JD (fun s => 1 * c s) S = (O.length : Int) := by
    rw [← J9M (w := fun _ => 1) hS hη, J2V]; omega
  have h2 : JD (fun s => (if decide (2 ≤ c s) = true then 1 else 0) * c s) S = (O2.length : Int) := by
    rw [← J9M (w := fun s => if decide (2 ≤ c s) = true then 1 else 0) hS hη]
    have := J44 (fun o => decide (2 ≤ c (η o))) 1 O
    rw [this]
    exact Int.one_mul _
  have h3 := J44 (fun s => decide (c s = 0)) 2 S
  have hlen : (O2.length : Int) ≤ 2 * (S0.length : Int) := by
    have h4 : JD (fun s => (if decide (2 ≤ c s) = true then 1 else 0) * c s) S ≤ JD (fun s => (if decide (c s = 0) = true then 2 else 0) + (1 * c s + (1 * c s + (-2)))) S := J5V fun s _ => by
      have := hc0 s
      by_cases q : c s = 0
      · rw [if_neg (by rw [decide_eq_true_eq]; omega), if_pos (decide_eq_true q)]; omega
      rw [if_neg (show ¬ decide (c s = 0) = true by rw [decide_eq_true_eq]; exact q)]
      by_cases q2 : 2 ≤ c s
      · rw [if_pos (decide_eq_true q2)]; omega
      rw [if_neg (by rw [decide_eq_true_eq]; exact q2)]; omega
    rw [J2F, J2F, J2F, J2V, h1, h2, h3] at h4
    have : J0Q (fun s => decide (c s = 0)) S = (S0.length : Int) := rfl
    omega
  have hS0 : S0.Nodup := hS.filter _
  have hidx : ∀ o ∈ O2, 0 ≤ idxI (fun y => o == y) O2 ∧ idxI (fun y => o == y) O2 < O2.length ∧ O2.getD (idxI (fun y => o == y) O2).toNat 0 = o := fun o ho => Jcv ho
  let σ : Int → Int := fun o => if c (η o) = 1 then η o else S0.getD ((idxI (fun y => o == y) O2).toNat / 2) 0
  have hin2 : ∀ o ∈ O, c (η o) ≠ 1 → o ∈ O2 := fun o ho h => by
    refine List.mem_filter.2 ⟨ho, decide_eq_true ?_⟩
    have : 0 < (O.filter fun o' => decide (η o' = η o)).length := List.length_pos_of_mem (List.mem_filter.2 ⟨ho, decide_eq_true rfl⟩)
    have h0 : c (η o) = ((O.filter fun o' => decide (η o' = η o)).length : Int) := rfl
    omega
  have hlt : ∀ o ∈ O2, (idxI (fun y => o == y) O2).toNat / 2 < S0.length := fun o ho => by have := hidx o ho; omega
  have hs0 : ∀ o ∈ O2, S0.getD ((idxI (fun y => o == y) O2).toNat / 2) 0 ∈ S0 := fun o ho => getD_mem (hlt o ho)
  refine ⟨σ, fun o ho => ?_, fun s hs => ?_⟩
  · by_cases q : c (η o) = 1
    · have e : σ o = η o := if_pos q
      rw [e]
      refine ⟨hη o ho, fun o' ho' hne h => ?_⟩
      have hsub := List.Nodup.length_le_of_subset (l₁ := [o, o']) (l₂ := O.filter fun x => decide (η x = η o)) (List.nodup_cons.2 ⟨fun hm => hne (List.mem_singleton.1 hm).symm, List.nodup_cons.2 ⟨by simp, List.nodup_nil⟩⟩) fun x hx => by
        rcases List.mem_cons.1 hx with hx | hx
        · rw [hx]; exact List.mem_filter.2 ⟨ho, decide_eq_true rfl⟩
        rw [List.mem_singleton.1 hx]; exact List.mem_filter.2 ⟨ho', decide_eq_true h⟩
      have h0 : c (η o) = ((O.filter fun o' => decide (η o' = η o)).length : Int) := rfl
      simp only [List.length_cons, List.length_nil] at hsub
      omega
    · have e : σ o = S0.getD ((idxI (fun y => o == y) O2).toNat / 2) 0 := if_neg q
      have hm := hs0 o (hin2 o ho q)
      rw [← e] at hm
      obtain ⟨hm1, hm2⟩ := List.mem_filter.1 hm
      refine ⟨hm1, fun o' ho' _ h => ?_⟩
      rw [decide_eq_true_eq] at hm2
      have : 0 < (O.filter fun x => decide (η x = σ o)).length := List.length_pos_of_mem (List.mem_filter.2 ⟨ho', decide_eq_true h⟩)
      have h0 : c (σ o) = ((O.filter fun x => decide (η x = σ o)).length : Int) := rfl
      omega
  by_cases q : c s = 0
  · have hsub : ∃ m : Nat, ∀ x ∈ O.filter (fun o => decide (σ o = s)), x ∈ [O2.getD (2 * m) 0, O2.getD (2 * m + 1) 0] := by
      by_cases hsS : s ∈ S0
      · obtain ⟨m, hm, hme⟩ := List.mem_iff_getElem.1 hsS
        refine ⟨m, fun x hx => ?_⟩
        obtain ⟨hx1, hx2⟩ := List.mem_filter.1 hx
        rw [decide_eq_true_eq] at hx2
        by_cases q1 : c (η x) = 1
        · have e : σ x = η x := if_pos q1
          rw [← e, hx2] at q1
          omega
        have e : σ x = S0.getD ((idxI (fun y => x == y) O2).toNat / 2) 0 := if_neg q1
        have h2 := hin2 x hx1 q1
        have hd := hidx x h2
        have hlx := hlt x h2
        have hi : (idxI (fun y => x == y) O2).toNat / 2 = m := by
          apply Classical.byContradiction
          intro hne
          rw [e, JZ hlx, ← hme] at hx2
          rcases Nat.lt_or_gt_of_ne hne with h | h
          · exact List.pairwise_iff_getElem.1 hS0 _ _ hlx hm h hx2
          exact List.pairwise_iff_getElem.1 hS0 _ _ hm hlx h hx2.symm
        rcases Nat.mod_two_eq_zero_or_one (idxI (fun y => x == y) O2).toNat with h | h
        · have : (idxI (fun y => x == y) O2).toNat = 2 * m := by omega
          rw [← hd.2.2, this]; exact List.mem_cons_self
        have : (idxI (fun y => x == y) O2).toNat = 2 * m + 1 := by omega
        rw [← hd.2.2, this]; exact List.mem_cons_of_mem _ List.mem_cons_self
      exact absurd (List.mem_filter.2 ⟨hs, decide_eq_true q⟩) hsS
    obtain ⟨m, hm⟩ := hsub
    have := List.Nodup.length_le_of_subset (hO.filter _) hm
    unfold J0Q
    simp only [List.length_cons, List.length_nil] at this
    omega
  · have hle := List.Nodup.length_le_of_subset (l₁ := O.filter fun o => decide (σ o = s)) (l₂ := O.filter fun o => decide (c (η o) = 1 ∧ η o = s)) (hO.filter _) fun x hx => by
      obtain ⟨hx1, hx2⟩ := List.mem_filter.1 hx
      rw [decide_eq_true_eq] at hx2
      refine List.mem_filter.2 ⟨hx1, decide_eq_true ?_⟩
      by_cases q1 : c (η x) = 1
      · have e : σ x = η x := if_pos q1
        exact ⟨q1, by rw [← e]; exact hx2⟩
      exfalso
      have e : σ x = S0.getD ((idxI (fun y => x == y) O2).toNat / 2) 0 := if_neg q1
      have hm := hs0 x (hin2 x hx1 q1)
      rw [← e, hx2] at hm
      have := (List.mem_filter.1 hm).2
      rw [decide_eq_true_eq] at this
      exact q this
    have h5 : (O.filter fun o => decide (c (η o) = 1 ∧ η o = s)).length ≤ 1 := by
      by_cases q1 : c s = 1
      · have h6 : (O.filter fun o => decide (c (η o) = 1 ∧ η o = s)).length ≤ (O.filter fun o => decide (η o = s)).length := List.Nodup.length_le_of_subset (hO.filter _) fun x hx => by
          obtain ⟨hx1, hx2⟩ := List.mem_filter.1 hx
          rw [decide_eq_true_eq] at hx2
          exact List.mem_filter.2 ⟨hx1, decide_eq_true hx2.2⟩
        have h0 : c s = ((O.filter fun o => decide (η o = s)).length : Int) := rfl
        omega
      rw [List.filter_eq_nil_iff.2 fun x _ => by
        rw [decide_eq_true_eq]
        rintro ⟨a, b⟩
        rw [b] at a
        exact q1 a]
      simp
    unfold J0Q
    omega
theorem J4d (D : ZR) (s : ZI) : J5 D s = J0c (fun j => Jo D s j) D.length := by
  show J0c (fun j => (JW D s D.length).getD j 0) D.length = _
  exact Jbc fun k hk => J3L _ _ _ _ hk
theorem Jbs (g : Int → Nat → Int) (n : Nat) (l : ZI) : JD (fun o => J0c (g o) n) l = J0c (fun j => JD (fun o => g o j) l) n := by
  induction l with
  | nil => exact (J7P n).symm
  | cons x r ih =>
    rw [JF, ih, ← J4D]
    rfl
/-- A set that no swap betters serves at most JcX times as long as any other one of its size. -/
theorem JcX {U : ZI} {D : ZR} (hg : J0 U D = true) (hm : JH U.length D = true) {S O : ZI}
    (hS : (J0 U D && J2 S 0 ((U.length : Int) - 1) && decide (0 < S.length)) = true) (hO : (J0 U D && J2 O 0 ((U.length : Int) - 1) && decide (0 < O.length)) = true) (hl : S.length = O.length)
    (hloc : ∀ s ∈ S, ∀ o : Int, 0 ≤ o ∧ o < (U.length : Int) → J5 D S ≤ J5 D (putL (JO S s) o)) : J5 D S ≤ 5 * J5 D O := by
  obtain ⟨_, hSr, hSp⟩ := J7 hS
  obtain ⟨_, hOr, hOp⟩ := J7 hO
  by_cases hD : D.length = 0
  · rw [J4d, J4d, hD]; exact Int.le_refl _
  have hSm := JC hSr
  have hOm := JC hOr
  let e : Int → Int → Int := fun o s => J7b (fun j : Nat => dst D j o + dst D j s) D.length
  have hex : ∀ o, ∃ s, s ∈ S ∧ ∀ s' ∈ S, e o s ≤ e o s' := fun o => J7y (f := e o) S hSp
  let η : Int → Int := fun o => Classical.choose (hex o)
  have hη : ∀ o, η o ∈ S ∧ ∀ s' ∈ S, e o (η o) ≤ e o s' := fun o => Classical.choose_spec (hex o)
  obtain ⟨σ, hσ1, hσ2⟩ := JcR (J3q (J0L hSr)) (J3q (J0L hOr)) hl (η := η) fun o _ => (hη o).1
  let os : Nat → Int := fun j => Ji (D.getD j []) O O.length
  let ss : Nat → Int := fun j => Ji (D.getD j []) S S.length
  have hos : ∀ j, os j ∈ O := fun j => J3J hOp _ (Nat.le_refl _)
  have hss : ∀ j, ss j ∈ S := fun j => J3J hSp _ (Nat.le_refl _)
  have hlo : ∀ j : Nat, dst D j (os j) = Jo D O j := fun j => rfl
  have hls : ∀ j : Nat, dst D j (ss j) = Jo D S j := fun j => rfl
  have hkey : ∀ o ∈ O, ∀ j, j < D.length → Jo D (putL (JO S (σ o)) o) j ≤ Jo D S j + ((if decide (o = os j) = true then Jo D O j - Jo D S j else 0) + (if decide (σ o = ss j) = true then 2 * Jo D O j else 0)) := fun o ho j hj => by
    have h0 := J48 hO hj
    have h1 := J48 hS hj
    by_cases q : o = os j
    · have hle : Jo D (putL (JO S (σ o)) o) j ≤ dst D j o := J4W (mem_putL.2 (.inl rfl)) j
      rw [if_pos (decide_eq_true q)]
      rw [q, hlo] at hle
      rw [← q] at hle
      split <;> omega
    rw [if_neg (by rw [decide_eq_true_eq]; exact q)]
    by_cases q2 : σ o = ss j
    · rw [if_pos (decide_eq_true q2)]
      have hne := (hσ1 o ho).2 (os j) (hos j) fun h => q h.symm
      have hin : η (os j) ∈ putL (JO S (σ o)) o := mem_putL.2 (.inr (J0s.2 ⟨(hη (os j)).1, hne⟩))
      have hle : Jo D (putL (JO S (σ o)) o) j ≤ dst D j (η (os j)) := J4W hin j
      have h2 := (hη (os j)).2 (ss j) (hss j)
      have h3 := (J5W (fun j : Nat => dst D j (os j) + dst D j (ss j)) D.length (by omega)).1
      obtain ⟨_, j2, hj2, h4⟩ := J5W (fun i : Nat => dst D i (os j) + dst D i (η (os j))) D.length (by omega)
      have h5 := (J5W (fun i : Nat => dst D i (os j) + dst D i (ss j)) D.length (by omega)).1 j hj
      have h6 := JcS hm (i := (j : Int)) (j := (j2 : Int)) (a := η (os j)) (b := os j) (by omega) (by omega) (by have := hSm _ (hη (os j)).1; omega) (by have := hOm _ (hos j); omega)
      have h7 : e (os j) (η (os j)) = dst D j2 (os j) + dst D j2 (η (os j)) := h4
      have h8 : e (os j) (ss j) ≤ dst D j (os j) + dst D j (ss j) := h5
      have h9 := hlo j
      have h10 := hls j
      omega
    rw [if_neg (by rw [decide_eq_true_eq]; exact q2)]
    have hin : ss j ∈ putL (JO S (σ o)) o := mem_putL.2 (.inr (J0s.2 ⟨hss j, fun h => q2 h.symm⟩))
    have hle : Jo D (putL (JO S (σ o)) o) j ≤ dst D j (ss j) := J4W hin j
    rw [hls] at hle
    omega
  have h1 : JD (fun _ => J5 D S) O ≤ JD (fun o => J0c (fun j => Jo D S j + ((if decide (o = os j) = true then Jo D O j - Jo D S j else 0) + (if decide (σ o = ss j) = true then 2 * Jo D O j else 0))) D.length) O := J5V fun o ho => by
    refine Int.le_trans (hloc (σ o) (hσ1 o ho).1 o (by have := hOm o ho; omega)) ?_
    rw [J4d]
    exact J40 _ fun j hj => hkey o ho j hj
  rw [J2V, Jbs] at h1
  have h2 : J0c (fun j => JD (fun o => Jo D S j + ((if decide (o = os j) = true then Jo D O j - Jo D S j else 0) + (if decide (σ o = ss j) = true then 2 * Jo D O j else 0))) O) D.length ≤ J0c (fun j => (O.length : Int) * Jo D S j + (5 * Jo D O j + -1 * Jo D S j)) D.length := J40 _ fun j hj => by
    have h0 := J48 hO hj
    rw [J2F, J2F, J2V, J44 (fun o => decide (o = os j)), J44 (fun o => decide (σ o = ss j)), JaT (J3q (J0L hOr)) (hos j)]
    have h3 := hσ2 (ss j) (hss j)
    have h4 : 2 * Jo D O j * J0Q (fun o => decide (σ o = ss j)) O ≤ 2 * Jo D O j * 2 := Int.mul_le_mul_of_nonneg_left h3 (by omega)
    rw [Int.mul_comm (Jo D S j) (O.length : Int)]
    omega
  rw [J4D, J4D, J4x, J4x, J4x, ← J4d, ← J4d] at h2
  have h3 := Int.le_trans h1 h2
  rw [Int.mul_comm (J5 D S)] at h3
  omega
def swL (S : ZI) (x y : Int) : ZI := putL (JO S x) y
theorem J2O {U : ZI} {D : ZR} {S : ZI} (ht : (J0 U D && J2 S 0 ((U.length : Int) - 1) && decide (0 < S.length)) = true) (x : Int) {y : Int} (hy : 0 ≤ y ∧ y < (U.length : Int)) :
    (J0 U D && J2 (swL S x y) 0 ((U.length : Int) - 1) && decide (0 < (swL S x y).length)) = true := by
  obtain ⟨hg, hr, _⟩ := J7 ht
  exact JcE hg (J71 (J0L hr)) (fun z hz => by have := JC hr z (J0s.1 hz).1; omega) hy
theorem Jd0 {S : ZI} {n : Nat} (hn : n ≤ 7) (ha : Asc S) (hr : ∀ x ∈ S, 0 ≤ x ∧ x < (n : Int)) {x y : Int} (hx : 0 ≤ x) (hy : 0 ≤ y ∧ y < (n : Int)) :
    ((((((bagN S : Nat) : Int).toNat ^^^ (((bagN S : Nat) : Int).toNat &&& ((1 : Int) * 2 ^ x.toNat).toNat) : Nat) : Int).toNat ||| ((1 : Int) * 2 ^ y.toNat).toNat : Nat) : Int) = ((bagN (swL S x y) : Nat) : Int) ∧ bagN (swL S x y) < 128 ∧ members (fun k => (((bagN (swL S x y) : Nat) : Int).toNat.testBit k)) 62 = swL S x y := by
  have hd : ∀ z ∈ JO S x, 0 ≤ z ∧ z < (n : Int) := fun z hz => hr z (J0s.1 hz).1
  have hp : ∀ z ∈ swL S x y, 0 ≤ z ∧ z < (n : Int) := fun z hz => by
    rcases mem_putL.1 hz with h | h
    · omega
    exact hd z h
  have h2 : ∀ z : Int, ((2 : Int) ^ z.toNat).toNat = 2 ^ z.toNat := fun z => by
    rw [show (2 : Int) = ((2 : Nat) : Int) from rfl, ← Int.natCast_pow, Int.toNat_natCast]
  refine ⟨?_, bagN_lt (m := 7) fun z hz => by have := hp z hz; omega, ?_⟩
  · rw [Int.one_mul, Int.one_mul, h2, h2, Int.toNat_natCast, Int.toNat_natCast, ← JcP (fun z hz => (hr z hz).1) hx]
    show _ = ((bagN (putL (JO S x) y) : Nat) : Int)
    rw [JcJ (fun z hz => (hd z hz).1) hy.1]
  rw [Int.toNat_natCast]
  exact Jcy (asc_putL (J71 ha)) fun z hz => by have := hp z hz; omega
def Jf (U : ZI) (D : ZR) (S : ZI) (x y : Int) : Bool := (((J0 U D && J2 S 0 ((U.length : Int) - 1) && decide (0 < S.length)) && S.contains x) && inB y 0 ((U.length : Int) - 1)) && !(S.contains y)
theorem Jx {U : ZI} {D : ZR} {S : ZI} {x y : Int} (h : Jf U D S x y = true) : (J0 U D && J2 S 0 ((U.length : Int) - 1) && decide (0 < S.length)) = true ∧ x ∈ S ∧ (0 ≤ y ∧ y < (U.length : Int)) ∧ y ∉ S ∧ 0 ≤ x ∧ x < (U.length : Int) := by
  unfold Jf at h
  rw [Bool.and_eq_true, Bool.and_eq_true, Bool.and_eq_true] at h
  obtain ⟨⟨⟨h1, h2⟩, h3⟩, h4⟩ := h
  have h5 := J28 h3
  have h6 := List.contains_iff_mem.1 h2
  have h7 := JC (J7 h1).2.1 x h6
  refine ⟨h1, h6, by omega, fun hm => ?_, by omega, by omega⟩
  rw [List.contains_iff_mem.2 hm] at h4
  cases h4
def Jt (U : ZI) (D : ZR) (S : ZI) (x y : Int) : ZI := if Jf U D S x y = true then swL S x y else []
def JG (U : ZI) (D : ZR) (S : ZI) (x y : Int) : Int := if Jf U D S x y = true then J5 D S - J5 D (swL S x y) else 0
abbrev J0f (set : ZI) (site : Int) (out : ZI) (k : Int) : Prop := (0 ≤ k) ∧ (k ≤ (set.length : Int)) ∧ (out = JO (set.take k.toNat) site) ∧ ((out.length : Int) ≤ k)
abbrev JK (set : ZI) (site : Int) (out : ZI) (k : Int) : Nat := (set.length - k).toNat
def J7T (f : FuncId) (ds : List D) : Orc := .no
def J7E (set : ZI) (site : Int) : Ann := .two (.none) (.two (.none) (.two (.two (.none) (.loop (cut2 (fun (out : ZI) (k : Int) => J0f set site out k) (fun (out : ZI) (k : Int) => [(0, .d false (.sl (.ints set))), (1, .d false (.int .i64 site)), (5, .own 1000000 out.length), (6, .d true (.int .i64 k))]) (fun (out : ZI) (k : Int) => [(1000000, .arr true 3 (.ints out))])) (fun g => JK set site g.1 g.2) (fun _ => .none))) (.none)))
def J4E (set : ZI) (site : Int) : Prop :=
  ((∃ out' : ZI, ∃ k' : Int, (J0f set site out' k') ∧ (set = set) ∧ (site = site) ∧ ((0 : Nat) = out'.length) ∧ ((0 : Int) = k') ∧ ([] = out')) ∧ (∀ out : ZI, ∀ k : Int, (J0f set site out k) → (((decide (k < (set.length : Int))) = true → ((0 : Int) ≤ k) ∧ ((k : Int) < set.length) ∧ (k.toNat < set.length) ∧ ((((set.getD k.toNat 0) != site) = true → ((0 : Int) ≤ k) ∧ ((k : Int) < set.length) ∧ (k.toNat < set.length) ∧ (out.length = out.length) ∧ ((1 : Nat) = 1) ∧ ((out.length + 1) * 8 ≤ 140737488355328) ∧ (I6 (k + 1)) ∧ (∃ out' : ZI, ∃ k' : Int, (J0f set site out' k') ∧ (JK set site out' k' < JK set site out k) ∧ (set = set) ∧ (site = site) ∧ ((out.length + 1) = out'.length) ∧ ((k + 1) = k') ∧ ((out ++ [(set.getD k.toNat 0)]) = out'))) ∧ (((set.getD k.toNat 0) != site) = false → (I6 (k + 1)) ∧ (∃ out' : ZI, ∃ k' : Int, (J0f set site out' k') ∧ (JK set site out' k' < JK set site out k) ∧ (set = set) ∧ (site = site) ∧ (out.length = out'.length) ∧ ((k + 1) = k') ∧ (out = out'))))) ∧ ((decide (k < (set.length : Int))) = false → ((out.length = out.length) ∧ ((out : ZI) = (JO set site)))))))
theorem J6J (set : ZI) (site : Int) (hl : set.length ≤ 1048576) (w_set : (set.length : Int) ≤ 9223372036854775807) : J4E set site := by
  unfold J4E
  refine ⟨?_, ?_⟩
  ·refine ⟨([]), 0, ?_⟩
   refine ⟨?_, rfl, rfl, rfl, rfl, ?_⟩
   ·refine ⟨?_, ?_, ?_, ?_⟩
    ·omega
    ·omega
    ·rfl
    ·(simp_all; done)
   rfl
  intro out k hJ
  obtain ⟨h1, h2, h3, h4⟩ := hJ
  refine ⟨?_, ?_⟩
  ·intro b1
   try simp only [nrmT] at b1
   refine ⟨?_, ?_, ?_, ?_, ?_⟩
   ·omega
   ·omega
   ·omega
   ·intro b2
    try simp only [nrmT] at b2
    refine ⟨?_, ?_, ?_, rfl, rfl, ?_, ?_, ?_⟩
    ·omega
    ·omega
    ·omega
    ·omega
    ·omega
    refine ⟨(out ++ [(set.getD k.toNat 0)]), (k + 1), ?_⟩
    refine ⟨?_, ?_, rfl, rfl, ?_, rfl, rfl⟩
    ·refine ⟨?_, ?_, ?_, ?_⟩
     ·omega
     ·omega
     ·rw [Ja2 h1 (by omega), if_pos b2, ← h3]
     ·simp; omega
    ·(simp only [JK]; omega)
    simp
   intro b3
   try simp only [nrmT] at b3
   refine ⟨?_, ?_⟩
   ·omega
   refine ⟨out, (k + 1), ?_⟩
   refine ⟨?_, ?_, rfl, rfl, rfl, rfl, rfl⟩
   ·refine ⟨?_, ?_, ?_, ?_⟩
    ·omega
    ·omega
    ·rw [Ja2 h1 (by omega), if_neg (by rw [b3]; simp), ← h3]
    ·omega
   (simp only [JK]; omega)
  intro b4
  try simp only [nrmT] at b4
  refine ⟨rfl, ?_⟩
  ·rw [h3, take_all (by omega)]
theorem J6R (set : ZI) (site : Int) (hl : set.length ≤ 1048576) : PC Tryz.prog 143 [.sl (.ints set), .int .i64 site] (.one (.d (.sl (.ints (JO set site))))) :=
  pc_wf @Tryz.call143 fun hw => pc_by (by kernel_rfl) Tryz.func143 @Tryz.call143 (by kernel_rfl) J7T (J7E set site) (by kernel_rfl) (J6J set site hl hw.1) (by kernel_rfl)
theorem JcK (S : ZI) (x : Int) : (JO S x).length ≤ S.length := List.length_filter_le _ _
def Jbp (f : FuncId) (ds : List D) : Orc := bif Nat.beq f 140 then Jal ds else .no
def Jbf (set : ZI) (out : Int) (inn : Int) : Ann := .two (.none) (.two (.reg [(2, .call none (.one (.d (.sl (.ints (JO set out))))))]) (.none))
def J7D (set : ZI) (out : Int) (inn : Int) : Prop :=
  (PC Tryz.prog 143 [.sl (.ints set), .int .i64 out] (.one (.d (.sl (.ints (JO set out)))))) ∧ (PCs Tryz.prog 140 [.sl (.ints (JO set out)), .int .i64 inn] 0 (.sl (.ints (putL (JO set out) inn)))) ∧ ((((putL (JO set out) inn) : ZI) = (swL set out inn)))
theorem Jat (set : ZI) (out : Int) (inn : Int) (hl : set.length ≤ 1048576) (w_set : (set.length : Int) ≤ 9223372036854775807) : J7D set out inn := by
  unfold J7D
  refine ⟨?_, ?_, ?_⟩
  ·refine J6R set out ?_
   ·omega
  ·refine JbA (JO set out) inn ?_
   ·have := JcK set out
    omega
  rfl
theorem J6t (set : ZI) (out : Int) (inn : Int) (hl : set.length ≤ 1048576) : PC Tryz.prog 122 [.sl (.ints set), .int .i64 out, .int .i64 inn] (.one (.d (.sl (.ints (swL set out inn))))) :=
  pc_wf @Tryz.call122 fun hw => pc_by (by kernel_rfl) Tryz.func122 @Tryz.call122 (by kernel_rfl) Jbp (Jbf set out inn) (by kernel_rfl) (Jat set out inn hl hw.1) (by kernel_rfl)
def J5y : List D → Orc := orcN [some .ints, none, none] fun ds => match ds with
  | [.sl (.ints set), .int .i64 out, .int .i64 inn] => some (.one (.d (.sl (.ints (swL set out inn)))))
  | _ => none
def Jb2 (f : FuncId) (ds : List D) : Orc := bif Nat.beq f 137 then J9c ds else bif Nat.beq f 122 then J5y ds else .no
def Jbx (U : ZI) (E : ZR) (set : ZI) (out : Int) (inn : Int) : Ann := .none
def J7X (U : ZI) (E : ZR) (set : ZI) (out : Int) (inn : Int) : Prop :=
  (true = true) ∧ (PC Tryz.prog 137 [.agg [.sl (.ints U), .sl (.rows E)], .sl (.ints set)] (.one (.d (.int .i64 (J5 E set))))) ∧ (PC Tryz.prog 122 [.sl (.ints set), .int .i64 out, .int .i64 inn] (.one (.d (.sl (.ints (swL set out inn)))))) ∧ (PC Tryz.prog 137 [.agg [.sl (.ints U), .sl (.rows E)], .sl (.ints (swL set out inn))] (.one (.d (.int .i64 (J5 E (swL set out inn)))))) ∧ (I6 ((J5 E set) - (J5 E (swL set out inn)))) ∧ ((((J5 E set) - (J5 E (swL set out inn))) = (J5 E set - J5 E (swL set out inn))))
theorem Jas (U : ZI) (E : ZR) (set : ZI) (out : Int) (inn : Int) (ht : (J0 U E && J2 set 0 ((U.length : Int) - 1) && decide (0 < set.length)) = true) (hi : 0 ≤ inn ∧ inn < (U.length : Int)) (w_Open : (U.length : Int) ≤ 9223372036854775807) (w_Dist : (E.length : Int) ≤ 9223372036854775807) (v_Dist : ∀ x9 ∈ E, (x9.length : Int) ≤ 9223372036854775807) (w_set : (set.length : Int) ≤ 9223372036854775807) : J7X U E set out inn := by
  unfold J7X
  obtain ⟨hg, hr, hp⟩ := J7 ht
  obtain ⟨g1, g2, g3⟩ := J9 hg
  have hln := J18 hr (by omega)
  refine ⟨rfl, ?_, ?_, ?_, ?_, ?_⟩
  ·refine J5S U E set ?_
   ·exact ht
  ·refine J6t set out inn ?_
   ·omega
  ·refine J5S U E (swL set out inn) ?_
   ·exact J2O ht out hi
  ·have s1 := J8 ht
   have s2 := J8 (J2O ht out hi)
   omega
  omega
theorem J6A (U : ZI) (E : ZR) (set : ZI) (out : Int) (inn : Int) (ht : (J0 U E && J2 set 0 ((U.length : Int) - 1) && decide (0 < set.length)) = true) (hi : 0 ≤ inn ∧ inn < (U.length : Int)) : PC Tryz.prog 130 [.agg [.sl (.ints U), .sl (.rows E)], .sl (.ints set), .int .i64 out, .int .i64 inn] (.one (.d (.int .i64 (J5 E set - J5 E (swL set out inn))))) :=
  pc_wf @Tryz.call130 fun hw => pc_by (by kernel_rfl) Tryz.func130 @Tryz.call130 (by kernel_rfl) Jb2 (Jbx U E set out inn) (by kernel_rfl) (Jas U E set out inn ht hi hw.1.1 hw.1.2.1.1 hw.1.2.1.2 hw.2.1) (by kernel_rfl)
def J5E : List D → Orc := orcN [none, some .ints, none, none] fun ds => match ds with
  | [.agg [.sl (.ints U), .sl (.rows E)], .sl (.ints set), .int .i64 out, .int .i64 inn] => some (.one (.d (.int .i64 (J5 E set - J5 E (swL set out inn)))))
  | _ => none
def Jaw (f : FuncId) (ds : List D) : Orc := bif Nat.beq f 180 then JaI ds else bif Nat.beq f 139 then J8r ds else .no
def JaH (set : ZI) (out : Int) (inn : Int) : Ann := .none
def J6w (set : ZI) (out : Int) (inn : Int) : Prop :=
  (true = true) ∧ (PC Tryz.prog 180 [.sl (.ints set)] (.one (.d (.int .u64 ((bagN set : Nat) : Int))))) ∧ ((0 : Int) ≤ 1) ∧ ((0 : Int) ≤ out) ∧ ((0 : Int) ≤ ((1 : Int) * 2 ^ out.toNat) ∧ (((1 : Int) * 2 ^ out.toNat) : Int) ≤ 18446744073709551615) ∧ ((0 : Int) ≤ ((bagN set : Nat) : Int) ∧ (((bagN set : Nat) : Int) : Int) ≤ 18446744073709551615) ∧ ((0 : Int) ≤ ((1 : Int) * 2 ^ out.toNat) ∧ (((1 : Int) * 2 ^ out.toNat) : Int) ≤ 18446744073709551615) ∧ ((0 : Int) ≤ 1) ∧ ((0 : Int) ≤ inn) ∧ ((0 : Int) ≤ ((1 : Int) * 2 ^ inn.toNat) ∧ (((1 : Int) * 2 ^ inn.toNat) : Int) ≤ 18446744073709551615) ∧ ((0 : Int) ≤ ((((bagN set : Nat) : Int).toNat ^^^ (((bagN set : Nat) : Int).toNat &&& ((1 : Int) * 2 ^ out.toNat).toNat) : Nat) : Int) ∧ (((((bagN set : Nat) : Int).toNat ^^^ (((bagN set : Nat) : Int).toNat &&& ((1 : Int) * 2 ^ out.toNat).toNat) : Nat) : Int) : Int) ≤ 18446744073709551615) ∧ ((0 : Int) ≤ ((1 : Int) * 2 ^ inn.toNat) ∧ (((1 : Int) * 2 ^ inn.toNat) : Int) ≤ 18446744073709551615) ∧ (PC Tryz.prog 139 [.int .u64 ((((((bagN set : Nat) : Int).toNat ^^^ (((bagN set : Nat) : Int).toNat &&& ((1 : Int) * 2 ^ out.toNat).toNat) : Nat) : Int).toNat ||| ((1 : Int) * 2 ^ inn.toNat).toNat : Nat) : Int)] (.one (.own 3 (.ints (members (fun k => ((((((bagN set : Nat) : Int).toNat ^^^ (((bagN set : Nat) : Int).toNat &&& ((1 : Int) * 2 ^ out.toNat).toNat) : Nat) : Int).toNat ||| ((1 : Int) * 2 ^ inn.toNat).toNat : Nat) : Int).toNat.testBit k) 62))))) ∧ (((members (fun k => ((((((bagN set : Nat) : Int).toNat ^^^ (((bagN set : Nat) : Int).toNat &&& ((1 : Int) * 2 ^ out.toNat).toNat) : Nat) : Int).toNat ||| ((1 : Int) * 2 ^ inn.toNat).toNat : Nat) : Int).toNat.testBit k) 62).length = (members (fun k => ((((((bagN set : Nat) : Int).toNat ^^^ (((bagN set : Nat) : Int).toNat &&& ((1 : Int) * 2 ^ out.toNat).toNat) : Nat) : Int).toNat ||| ((1 : Int) * 2 ^ inn.toNat).toNat : Nat) : Int).toNat.testBit k) 62).length) ∧ ((members (fun k => ((((((bagN set : Nat) : Int).toNat ^^^ (((bagN set : Nat) : Int).toNat &&& ((1 : Int) * 2 ^ out.toNat).toNat) : Nat) : Int).toNat ||| ((1 : Int) * 2 ^ inn.toNat).toNat : Nat) : Int).toNat.testBit k) 62 : ZI) = swL set out inn))
theorem J9I (set : ZI) (out : Int) (inn : Int) (ha : Asc set) (hr : ∀ x ∈ set, 0 ≤ x ∧ x < 7) (ho : 0 ≤ out ∧ out < 7) (hi : 0 ≤ inn ∧ inn < 7) (w_set : (set.length : Int) ≤ 9223372036854775807) : J6w set out inn := by
  unfold J6w
  have sb := Jd0 (S := set) (n := 7) (by omega) ha hr ho.1 hi
  have bl := bagN_lt (m := 7) (list := set) (fun x hx => by have := hr x hx; omega)
  have hx : bagN set ^^^ (bagN set &&& ((1 : Int) * 2 ^ out.toNat).toNat) < 128 := Nat.xor_lt_two_pow (n := 7) bl (Nat.lt_of_le_of_lt Nat.and_le_left bl)
  have po := JcB ho
  have pi := JcB hi
  refine ⟨rfl, ?_, ?_, ?_, ?_, ?_, ?_, ?_, ?_, ?_, ?_, ?_, ?_, rfl, ?_⟩
  ·refine Jbh set ?_
   ·intro x hx
    have := hr x hx
    omega
  ·omega
  ·omega
  ·omega
  ·omega
  ·omega
  ·omega
  ·omega
  ·omega
  ·simp only [Int.toNat_natCast]
   omega
  ·omega
  ·refine J9A ((((((bagN set : Nat) : Int).toNat ^^^ (((bagN set : Nat) : Int).toNat &&& ((1 : Int) * 2 ^ out.toNat).toNat) : Nat) : Int).toNat ||| ((1 : Int) * 2 ^ inn.toNat).toNat : Nat) : Int) ?_
   ·rw [sb.1]
    omega
  rw [sb.1]; exact sb.2.2
theorem J4e (set : ZI) (out : Int) (inn : Int) (ha : Asc set) (hr : ∀ x ∈ set, 0 ≤ x ∧ x < 7) (ho : 0 ≤ out ∧ out < 7) (hi : 0 ≤ inn ∧ inn < 7) : PC Tryz.prog 119 [.sl (.ints set), .int .i64 out, .int .i64 inn] (.one (.own 3 (.ints (swL set out inn)))) :=
  pc_wf @Tryz.call119 fun hw => pc_by (by kernel_rfl) Tryz.func119 @Tryz.call119 (by kernel_rfl) Jaw (JaH set out inn) (by kernel_rfl) (J9I set out inn ha hr ho hi hw.1) (by kernel_rfl)
def J3C : List D → Orc := orcN [some .ints, none, none] fun ds => match ds with
  | [.sl (.ints set), .int .i64 out, .int .i64 inn] => some (.one (.own 3 (.ints (swL set out inn))))
  | _ => none
def J9K (f : FuncId) (ds : List D) : Orc := bif Nat.beq f 120 then J3d ds else bif Nat.beq f 128 then J6u ds else bif Nat.beq f 129 then J3R ds else bif Nat.beq f 130 then J5E ds else .no
def Ja0 (U : ZI) (E : ZR) (set : ZI) (out : Int) (inn : Int) : Ann := .none
def Ja (U : ZI) (E : ZR) (set : ZI) (out : Int) : Bool := (cond (!(J0 U E && J2 set 0 ((U.length : Int) - 1) && decide (0 < set.length))) true (!(set.contains out)))
def J5l (U : ZI) (E : ZR) (set : ZI) (out : Int) (inn : Int) : Prop :=
  (PC Tryz.prog 120 [.agg [.sl (.ints U), .sl (.rows E)], .sl (.ints set)] (.one (.d (.bool (J0 U E && J2 set 0 ((U.length : Int) - 1) && decide (0 < set.length)))))) ∧ ((!(!(J0 U E && J2 set 0 ((U.length : Int) - 1) && decide (0 < set.length)))) = true → (!(!(J0 U E && J2 set 0 ((U.length : Int) - 1) && decide (0 < set.length)))) = true) ∧ ((!(!(J0 U E && J2 set 0 ((U.length : Int) - 1) && decide (0 < set.length)))) = true → (!(!(J0 U E && J2 set 0 ((U.length : Int) - 1) && decide (0 < set.length)))) = true) ∧ ((!(!(J0 U E && J2 set 0 ((U.length : Int) - 1) && decide (0 < set.length)))) = true → PC Tryz.prog 128 [.sl (.ints set), .int .i64 out] (.one (.d (.bool (set.contains out))))) ∧ ((!(!(J0 U E && J2 set 0 ((U.length : Int) - 1) && decide (0 < set.length)))) = true → (!(!(J0 U E && J2 set 0 ((U.length : Int) - 1) && decide (0 < set.length)))) = true) ∧ (true = true) ∧ (((!(J0 U E && J2 set 0 ((U.length : Int) - 1) && decide (0 < set.length))) = true → true = true)) ∧ (((!(J0 U E && J2 set 0 ((U.length : Int) - 1) && decide (0 < set.length))) = false → (!(!(J0 U E && J2 set 0 ((U.length : Int) - 1) && decide (0 < set.length)))) = true)) ∧ ((!(Ja U E set out)) = true → (!(Ja U E set out)) = true) ∧ ((!(Ja U E set out)) = true → (!(Ja U E set out)) = true) ∧ ((!(Ja U E set out)) = true → PC Tryz.prog 128 [.sl (.ints set), .int .i64 inn] (.one (.d (.bool (set.contains inn))))) ∧ (true = true) ∧ (((Ja U E set out) = true → true = true)) ∧ (((Ja U E set out) = false → (!(Ja U E set out)) = true)) ∧ ((!(cond (Ja U E set out) true (set.contains inn))) = true → (!(cond (Ja U E set out) true (set.contains inn))) = true) ∧ ((!(cond (Ja U E set out) true (set.contains inn))) = true → (!(cond (Ja U E set out) true (set.contains inn))) = true) ∧ ((!(cond (Ja U E set out) true (set.contains inn))) = true → (!(cond (Ja U E set out) true (set.contains inn))) = true) ∧ (((!(cond (Ja U E set out) true (set.contains inn))) = true → I6 ((U.length : Int) - 1))) ∧ ((!(cond (Ja U E set out) true (set.contains inn))) = true → (!(cond (Ja U E set out) true (set.contains inn))) = true) ∧ ((!(cond (Ja U E set out) true (set.contains inn))) = true → (!(cond (Ja U E set out) true (set.contains inn))) = true) ∧ ((!(cond (Ja U E set out) true (set.contains inn))) = true → PC Tryz.prog 129 [.int .i64 inn, .int .i64 0, .int .i64 ((U.length : Int) - 1)] (.one (.d (.bool (inB inn 0 ((U.length : Int) - 1)))))) ∧ ((!(cond (Ja U E set out) true (set.contains inn))) = true → (!(cond (Ja U E set out) true (set.contains inn))) = true) ∧ (true = true) ∧ (((cond (Ja U E set out) true (set.contains inn)) = true → true = true)) ∧ (((cond (Ja U E set out) true (set.contains inn)) = false → (!(cond (Ja U E set out) true (set.contains inn))) = true)) ∧ (((cond (cond (Ja U E set out) true (set.contains inn)) true (!(inB inn 0 ((U.length : Int) - 1)))) = true → (((0 : Int) = (JG U E set out inn)) ∧ (false = (Jf U E set out inn)))) ∧ ((cond (cond (Ja U E set out) true (set.contains inn)) true (!(inB inn 0 ((U.length : Int) - 1)))) = false → (PC Tryz.prog 130 [.agg [.sl (.ints U), .sl (.rows E)], .sl (.ints set), .int .i64 out, .int .i64 inn] (.one (.d (.int .i64 (J5 E set - J5 E (swL set out inn)))))) ∧ (((J5 E set - J5 E (swL set out inn)) = (JG U E set out inn)) ∧ (true = (Jf U E set out inn)))))
theorem J9a (U : ZI) (E : ZR) (set : ZI) (out : Int) (inn : Int)  (w_Open : (U.length : Int) ≤ 9223372036854775807) (w_Dist : (E.length : Int) ≤ 9223372036854775807) (v_Dist : ∀ x9 ∈ E, (x9.length : Int) ≤ 9223372036854775807) (w_set : (set.length : Int) ≤ 9223372036854775807) : J5l U E set out inn := by
  unfold J5l Ja
  refine ⟨J3K U E set, id, id, fun _ => J4V set out, id, rfl, fun _ => rfl, ?_, id, id, fun _ => J4V set inn, rfl, fun _ => rfl, ?_, id, id, id, ?_, id, id, fun _ => J4y inn 0 ((U.length : Int) - 1), id, rfl, fun _ => rfl, ?_, ?_, ?_⟩
  ·(simp_all; done)
  ·(simp_all; done)
  ·omega
  ·(simp_all; done)
  ·intro b1
   refine ⟨?_, ?_⟩
   ·have hq : Jf U E set out inn = false := by
      unfold Jf
      revert b1; cases (J0 U E && J2 set 0 ((U.length : Int) - 1) && decide (0 < set.length)) <;> cases set.contains out <;> cases inB inn 0 ((U.length : Int) - 1) <;> cases set.contains inn <;> simp
    unfold JG; rw [hq]; rfl
   have hq : Jf U E set out inn = false := by
     unfold Jf
     revert b1; cases (J0 U E && J2 set 0 ((U.length : Int) - 1) && decide (0 < set.length)) <;> cases set.contains out <;> cases inB inn 0 ((U.length : Int) - 1) <;> cases set.contains inn <;> simp
   exact hq.symm
  intro b2
  refine ⟨?_, ?_, ?_⟩
  ·refine J6A U E set out inn ?_ ?_
   ·have hq : Jf U E set out inn = true := by
      unfold Jf
      revert b2; cases (J0 U E && J2 set 0 ((U.length : Int) - 1) && decide (0 < set.length)) <;> cases set.contains out <;> cases inB inn 0 ((U.length : Int) - 1) <;> cases set.contains inn <;> simp
    obtain ⟨q1, q2, q3, q4, q5, q6⟩ := Jx hq
    obtain ⟨hg, hr, hp⟩ := J7 q1
    obtain ⟨g1, g2, g3⟩ := J9 hg
    exact q1
   ·have hq : Jf U E set out inn = true := by
      unfold Jf
      revert b2; cases (J0 U E && J2 set 0 ((U.length : Int) - 1) && decide (0 < set.length)) <;> cases set.contains out <;> cases inB inn 0 ((U.length : Int) - 1) <;> cases set.contains inn <;> simp
    obtain ⟨q1, q2, q3, q4, q5, q6⟩ := Jx hq
    obtain ⟨hg, hr, hp⟩ := J7 q1
    obtain ⟨g1, g2, g3⟩ := J9 hg
    exact q3
  ·have hq : Jf U E set out inn = true := by
     unfold Jf
     revert b2; cases (J0 U E && J2 set 0 ((U.length : Int) - 1) && decide (0 < set.length)) <;> cases set.contains out <;> cases inB inn 0 ((U.length : Int) - 1) <;> cases set.contains inn <;> simp
   obtain ⟨q1, q2, q3, q4, q5, q6⟩ := Jx hq
   obtain ⟨hg, hr, hp⟩ := J7 q1
   obtain ⟨g1, g2, g3⟩ := J9 hg
   unfold JG; rw [if_pos hq]
  have hq : Jf U E set out inn = true := by
    unfold Jf
    revert b2; cases (J0 U E && J2 set 0 ((U.length : Int) - 1) && decide (0 < set.length)) <;> cases set.contains out <;> cases inB inn 0 ((U.length : Int) - 1) <;> cases set.contains inn <;> simp
  obtain ⟨q1, q2, q3, q4, q5, q6⟩ := Jx hq
  obtain ⟨hg, hr, hp⟩ := J7 q1
  obtain ⟨g1, g2, g3⟩ := J9 hg
  exact hq.symm
theorem J96 (U : ZI) (E : ZR) (set : ZI) (out : Int) (inn : Int)  : PC Tryz.prog 42 [.agg [.sl (.ints U), .sl (.rows E)], .sl (.ints set), .int .i64 out, .int .i64 inn] (.tup [.d (.int .i64 (JG U E set out inn)), .d (.bool (Jf U E set out inn))]) :=
  pc_wf @Tryz.call42 fun hw => pc_by (by kernel_rfl) Tryz.func42 @Tryz.call42 (by kernel_rfl) J9K (Ja0 U E set out inn) (by kernel_rfl) (J9a U E set out inn hw.1.1 hw.1.2.1.1 hw.1.2.1.2 hw.2.1) (by kernel_rfl)
def J8g : List D → Orc := orcN [none, some .ints, none, none] fun ds => match ds with
  | [.agg [.sl (.ints U), .sl (.rows E)], .sl (.ints set), .int .i64 out, .int .i64 inn] => some (.tup [.d (.int .i64 (JG U E set out inn)), .d (.bool (Jf U E set out inn))])
  | _ => none
def J9s (f : FuncId) (ds : List D) : Orc := bif Nat.beq f 113 then J0Z ds else bif Nat.beq f 131 then J13 ds else bif Nat.beq f 132 then J1h ds else bif Nat.beq f 119 then J3C ds else .no
def J93 (U : ZI) (E : ZR) (set : ZI) (out : Int) (inn : Int) : Ann := .none
def Jd (U : ZI) (E : ZR) (set : ZI) (out : Int) : Bool := (cond (!(J0 U E && J2 set 0 ((U.length : Int) - 1) && decide (0 < set.length))) true (!(set.contains out)))
def Ju (U : ZI) (E : ZR) (set : ZI) (out : Int) (inn : Int) : Bool := (cond (Jd U E set out) true (!(inB inn 0 ((U.length : Int) - 1))))
def J54 (U : ZI) (E : ZR) (set : ZI) (out : Int) (inn : Int) : Prop :=
  (PC Tryz.prog 113 [.agg [.sl (.ints U), .sl (.rows E)], .sl (.ints set)] (.one (.d (.bool (J0 U E && J2 set 0 ((U.length : Int) - 1) && decide (0 < set.length)))))) ∧ ((!(!(J0 U E && J2 set 0 ((U.length : Int) - 1) && decide (0 < set.length)))) = true → (!(!(J0 U E && J2 set 0 ((U.length : Int) - 1) && decide (0 < set.length)))) = true) ∧ ((!(!(J0 U E && J2 set 0 ((U.length : Int) - 1) && decide (0 < set.length)))) = true → (!(!(J0 U E && J2 set 0 ((U.length : Int) - 1) && decide (0 < set.length)))) = true) ∧ ((!(!(J0 U E && J2 set 0 ((U.length : Int) - 1) && decide (0 < set.length)))) = true → PC Tryz.prog 131 [.sl (.ints set), .int .i64 out] (.one (.d (.bool (set.contains out))))) ∧ ((!(!(J0 U E && J2 set 0 ((U.length : Int) - 1) && decide (0 < set.length)))) = true → (!(!(J0 U E && J2 set 0 ((U.length : Int) - 1) && decide (0 < set.length)))) = true) ∧ (true = true) ∧ (((!(J0 U E && J2 set 0 ((U.length : Int) - 1) && decide (0 < set.length))) = true → true = true)) ∧ (((!(J0 U E && J2 set 0 ((U.length : Int) - 1) && decide (0 < set.length))) = false → (!(!(J0 U E && J2 set 0 ((U.length : Int) - 1) && decide (0 < set.length)))) = true)) ∧ ((!(Jd U E set out)) = true → (!(Jd U E set out)) = true) ∧ ((!(Jd U E set out)) = true → (!(Jd U E set out)) = true) ∧ ((!(Jd U E set out)) = true → (!(Jd U E set out)) = true) ∧ (((!(Jd U E set out)) = true → I6 ((U.length : Int) - 1))) ∧ ((!(Jd U E set out)) = true → (!(Jd U E set out)) = true) ∧ ((!(Jd U E set out)) = true → (!(Jd U E set out)) = true) ∧ ((!(Jd U E set out)) = true → PC Tryz.prog 132 [.int .i64 inn, .int .i64 0, .int .i64 ((U.length : Int) - 1)] (.one (.d (.bool (inB inn 0 ((U.length : Int) - 1)))))) ∧ ((!(Jd U E set out)) = true → (!(Jd U E set out)) = true) ∧ (true = true) ∧ (((Jd U E set out) = true → true = true)) ∧ (((Jd U E set out) = false → (!(Jd U E set out)) = true)) ∧ ((!(Ju U E set out inn)) = true → (!(Ju U E set out inn)) = true) ∧ ((!(Ju U E set out inn)) = true → (!(Ju U E set out inn)) = true) ∧ ((!(Ju U E set out inn)) = true → PC Tryz.prog 131 [.sl (.ints set), .int .i64 inn] (.one (.d (.bool (set.contains inn))))) ∧ (true = true) ∧ (((Ju U E set out inn) = true → true = true)) ∧ (((Ju U E set out inn) = false → (!(Ju U E set out inn)) = true)) ∧ (((cond (Ju U E set out inn) true (set.contains inn)) = true → (((Jt U E set out inn).length = 0) ∧ (false = (Jf U E set out inn)))) ∧ ((cond (Ju U E set out inn) true (set.contains inn)) = false → (PC Tryz.prog 119 [.sl (.ints set), .int .i64 out, .int .i64 inn] (.one (.own 3 (.ints (swL set out inn))))) ∧ (((swL set out inn).length = (swL set out inn).length) ∧ ((swL set out inn : ZI) = Jt U E set out inn) ∧ (true = (Jf U E set out inn)))))
theorem J8s (U : ZI) (E : ZR) (set : ZI) (out : Int) (inn : Int)  (w_Open : (U.length : Int) ≤ 9223372036854775807) (w_Dist : (E.length : Int) ≤ 9223372036854775807) (v_Dist : ∀ x9 ∈ E, (x9.length : Int) ≤ 9223372036854775807) (w_set : (set.length : Int) ≤ 9223372036854775807) : J54 U E set out inn := by
  unfold J54 Ju Jd
  refine ⟨J1i U E set, id, id, fun _ => J06 set out, id, rfl, fun _ => rfl, ?_, id, id, id, ?_, id, id, fun _ => J1t inn 0 ((U.length : Int) - 1), id, rfl, fun _ => rfl, ?_, id, id, fun _ => J06 set inn, rfl, fun _ => rfl, ?_, ?_, ?_⟩
  ·(simp_all; done)
  ·omega
  ·(simp_all; done)
  ·(simp_all; done)
  ·intro b1
   refine ⟨?_, ?_⟩
   ·have hq : Jf U E set out inn = false := by
      unfold Jf
      revert b1; cases (J0 U E && J2 set 0 ((U.length : Int) - 1) && decide (0 < set.length)) <;> cases set.contains out <;> cases inB inn 0 ((U.length : Int) - 1) <;> cases set.contains inn <;> simp
    unfold Jt; rw [hq]; rfl
   have hq : Jf U E set out inn = false := by
     unfold Jf
     revert b1; cases (J0 U E && J2 set 0 ((U.length : Int) - 1) && decide (0 < set.length)) <;> cases set.contains out <;> cases inB inn 0 ((U.length : Int) - 1) <;> cases set.contains inn <;> simp
   exact hq.symm
  intro b2
  refine ⟨?_, rfl, ?_, ?_⟩
  ·refine J4e set out inn ?_ ?_ ?_ ?_
   ·have hq : Jf U E set out inn = true := by
      unfold Jf
      revert b2; cases (J0 U E && J2 set 0 ((U.length : Int) - 1) && decide (0 < set.length)) <;> cases set.contains out <;> cases inB inn 0 ((U.length : Int) - 1) <;> cases set.contains inn <;> simp
    obtain ⟨q1, q2, q3, q4, q5, q6⟩ := Jx hq
    obtain ⟨hg, hr, hp⟩ := J7 q1
    obtain ⟨g1, g2, g3⟩ := J9 hg
    exact J0L hr
   ·have hq : Jf U E set out inn = true := by
      unfold Jf
      revert b2; cases (J0 U E && J2 set 0 ((U.length : Int) - 1) && decide (0 < set.length)) <;> cases set.contains out <;> cases inB inn 0 ((U.length : Int) - 1) <;> cases set.contains inn <;> simp
    obtain ⟨q1, q2, q3, q4, q5, q6⟩ := Jx hq
    obtain ⟨hg, hr, hp⟩ := J7 q1
    obtain ⟨g1, g2, g3⟩ := J9 hg
    intro x hx
    have := JC hr x hx
    omega
   ·have hq : Jf U E set out inn = true := by
      unfold Jf
      revert b2; cases (J0 U E && J2 set 0 ((U.length : Int) - 1) && decide (0 < set.length)) <;> cases set.contains out <;> cases inB inn 0 ((U.length : Int) - 1) <;> cases set.contains inn <;> simp
    obtain ⟨q1, q2, q3, q4, q5, q6⟩ := Jx hq
    obtain ⟨hg, hr, hp⟩ := J7 q1
    obtain ⟨g1, g2, g3⟩ := J9 hg
    omega
   ·have hq : Jf U E set out inn = true := by
      unfold Jf
      revert b2; cases (J0 U E && J2 set 0 ((U.length : Int) - 1) && decide (0 < set.length)) <;> cases set.contains out <;> cases inB inn 0 ((U.length : Int) - 1) <;> cases set.contains inn <;> simp
    obtain ⟨q1, q2, q3, q4, q5, q6⟩ := Jx hq
    obtain ⟨hg, hr, hp⟩ := J7 q1
    obtain ⟨g1, g2, g3⟩ := J9 hg
    omega
  ·have hq : Jf U E set out inn = true := by
     unfold Jf
     revert b2; cases (J0 U E && J2 set 0 ((U.length : Int) - 1) && decide (0 < set.length)) <;> cases set.contains out <;> cases inB inn 0 ((U.length : Int) - 1) <;> cases set.contains inn <;> simp
   obtain ⟨q1, q2, q3, q4, q5, q6⟩ := Jx hq
   obtain ⟨hg, hr, hp⟩ := J7 q1
   obtain ⟨g1, g2, g3⟩ := J9 hg
   unfold Jt; rw [if_pos hq]
  have hq : Jf U E set out inn = true := by
    unfold Jf
    revert b2; cases (J0 U E && J2 set 0 ((U.length : Int) - 1) && decide (0 < set.length)) <;> cases set.contains out <;> cases inB inn 0 ((U.length : Int) - 1) <;> cases set.contains inn <;> simp
  obtain ⟨q1, q2, q3, q4, q5, q6⟩ := Jx hq
  obtain ⟨hg, hr, hp⟩ := J7 q1
  obtain ⟨g1, g2, g3⟩ := J9 hg
  exact hq.symm
theorem J4L (U : ZI) (E : ZR) (set : ZI) (out : Int) (inn : Int)  : PC Tryz.prog 43 [.agg [.sl (.ints U), .sl (.rows E)], .sl (.ints set), .int .i64 out, .int .i64 inn] (.tup [.own 3 (.ints (Jt U E set out inn)), .d (.bool (Jf U E set out inn))]) :=
  pc_wf @Tryz.call43 fun hw => pc_by (by kernel_rfl) Tryz.func43 @Tryz.call43 (by kernel_rfl) J9s (J93 U E set out inn) (by kernel_rfl) (J8s U E set out inn hw.1.1 hw.1.2.1.1 hw.1.2.1.2 hw.2.1) (by kernel_rfl)
def J4z : List D → Orc := orcN [none, some .ints, none, none] fun ds => match ds with
  | [.agg [.sl (.ints U), .sl (.rows E)], .sl (.ints set), .int .i64 out, .int .i64 inn] => some (.tup [.own 3 (.ints (Jt U E set out inn)), .d (.bool (Jf U E set out inn))])
  | _ => none
def Ja8 (f : FuncId) (ds : List D) : Orc := bif Nat.beq f 43 then J4z ds else bif Nat.beq f 125 then J01 ds else .no
def J9X (U : ZI) (E : ZR) (set : ZI) (out : Int) (inn : Int) : Ann := .none
def J5K (U : ZI) (E : ZR) (set : ZI) (out : Int) (inn : Int) : Prop :=
  (PC Tryz.prog 43 [.agg [.sl (.ints U), .sl (.rows E)], .sl (.ints set), .int .i64 out, .int .i64 inn] (.tup [.own 3 (.ints (Jt U E set out inn)), .d (.bool (Jf U E set out inn))])) ∧ (((!(Jf U E set out inn)) = true → (((0 : Int) = (JG U E set out inn)) ∧ (false = (Jf U E set out inn)))) ∧ ((!(Jf U E set out inn)) = false → (true = true) ∧ (PC Tryz.prog 125 [.agg [.sl (.ints U), .sl (.rows E)], .sl (.ints set)] (.one (.d (.int .i64 (J5 E set))))) ∧ ((Jt U E set out inn).length = (Jt U E set out inn).length) ∧ (PC Tryz.prog 125 [.agg [.sl (.ints U), .sl (.rows E)], .sl (.ints (Jt U E set out inn))] (.one (.d (.int .i64 (J5 E (Jt U E set out inn)))))) ∧ (I6 ((J5 E set) - (J5 E (Jt U E set out inn)))) ∧ ((((J5 E set) - (J5 E (Jt U E set out inn))) = (JG U E set out inn)) ∧ (true = (Jf U E set out inn)))))
theorem J9u (U : ZI) (E : ZR) (set : ZI) (out : Int) (inn : Int)  (w_Open : (U.length : Int) ≤ 9223372036854775807) (w_Dist : (E.length : Int) ≤ 9223372036854775807) (v_Dist : ∀ x9 ∈ E, (x9.length : Int) ≤ 9223372036854775807) (w_set : (set.length : Int) ≤ 9223372036854775807) : J5K U E set out inn := by
  unfold J5K
  refine ⟨J4L U E set out inn, ?_, ?_⟩
  ·intro b1
   try simp only [nrmT] at b1
   refine ⟨?_, ?_⟩
   ·unfold JG; rw [b1]; rfl
   exact b1.symm
  intro b2
  try simp only [nrmT] at b2
  refine ⟨rfl, ?_, rfl, ?_, ?_, ?_, ?_⟩
  ·refine Jw U E set ?_
   ·exact (Jx b2).1
  ·refine Jw U E (Jt U E set out inn) ?_
   ·obtain ⟨q1, q2, q3, q4, q5, q6⟩ := Jx b2
    unfold Jt; rw [if_pos b2]
    exact J2O q1 out q3
  ·obtain ⟨q1, q2, q3, q4, q5, q6⟩ := Jx b2
   have s1 := J8 q1
   have s2 := J8 (J2O q1 out q3)
   unfold Jt; rw [if_pos b2]
   omega
  ·unfold JG Jt; rw [if_pos b2, if_pos b2]
  exact b2.symm
theorem J9v (U : ZI) (E : ZR) (set : ZI) (out : Int) (inn : Int)  : PC Tryz.prog 41 [.agg [.sl (.ints U), .sl (.rows E)], .sl (.ints set), .int .i64 out, .int .i64 inn] (.tup [.d (.int .i64 (JG U E set out inn)), .d (.bool (Jf U E set out inn))]) :=
  pc_wf @Tryz.call41 fun hw => pc_by (by kernel_rfl) Tryz.func41 @Tryz.call41 (by kernel_rfl) Ja8 (J9X U E set out inn) (by kernel_rfl) (J9u U E set out inn hw.1.1 hw.1.2.1.1 hw.1.2.1.2 hw.2.1) (by kernel_rfl)
def J8p : List D → Orc := orcN [none, some .ints, none, none] fun ds => match ds with
  | [.agg [.sl (.ints U), .sl (.rows E)], .sl (.ints set), .int .i64 out, .int .i64 inn] => some (.tup [.d (.int .i64 (JG U E set out inn)), .d (.bool (Jf U E set out inn))])
  | _ => none
def fdG (D : ZR) (S : ZI) (s a : Int) : Int := J5 D S - J5 D (swL S s a)
def fdF (D : ZR) (S : ZI) (s : Int) (t : Int × Int × Int) (a : Nat) : Int × Int × Int := if S.contains (a : Int) = true then t else if fdG D S s (a : Int) > t.2.2 then (s, (a : Int), fdG D S s (a : Int)) else t
def fdA (D : ZR) (S : ZI) (s : Int) (t : Int × Int × Int) (k : Nat) : Int × Int × Int := foldTo (fdF D S s) t k
def fdI (D : ZR) (S : ZI) (n k : Nat) : Int × Int × Int := foldTo (fun t i => fdA D S (S.getD i 0) t n) (0, 0, 0) k
def fd (D : ZR) (S : ZI) (n : Nat) : Int × Int × Int := fdI D S n S.length
theorem J2u (D : ZR) (S : ZI) (s : Int) (t : Int × Int × Int) (k : Nat) : fdA D S s t (k + 1) = fdF D S s (fdA D S s t k) k := rfl
theorem J6F (D : ZR) (S : ZI) (n k : Nat) : fdI D S n (k + 1) = fdA D S (S.getD k 0) (fdI D S n k) n := rfl
def Jbk (D : ZR) (S : ZI) (n : Nat) (t : Int × Int × Int) : Prop := 0 ≤ t.2.2 ∧ (t.2.2 = 0 ∨ (t.1 ∈ S ∧ (0 ≤ t.2.1 ∧ t.2.1 < (n : Int)) ∧ t.2.1 ∉ S ∧ t.2.2 = fdG D S t.1 t.2.1))
theorem JbD {D : ZR} {S : ZI} {n : Nat} {s : Int} (hs : s ∈ S) {t : Int × Int × Int} (ht : Jbk D S n t) : ∀ k, k ≤ n → Jbk D S n (fdA D S s t k) ∧ t.2.2 ≤ (fdA D S s t k).2.2 ∧ ∀ a : Nat, a < k → (a : Int) ∉ S → fdG D S s (a : Int) ≤ (fdA D S s t k).2.2
  | 0, _ => ⟨ht, Int.le_refl _, fun a ha => by omega⟩
  | k + 1, hk => by
    obtain ⟨h1, h2, h3⟩ := JbD hs ht k (by omega)
    rw [J2u]
    unfold fdF
    split
    · rename_i hc
      refine ⟨h1, h2, fun a ha hn => ?_⟩
      by_cases e : a = k
      · subst e; exact absurd (List.contains_iff_mem.1 hc) hn
      exact h3 a (by omega) hn
    rename_i hc
    have hn : (k : Int) ∉ S := fun h => hc (List.contains_iff_mem.2 h)
    split
    · rename_i hgt
      refine ⟨⟨?_, .inr ⟨hs, by simp only; omega, hn, rfl⟩⟩, ?_, fun a ha hna => ?_⟩
      · have := h1.1; simp only; omega
      · simp only; omega
      by_cases e : a = k
      · subst e; exact Int.le_refl _
      · have := h3 a (by omega) hna; simp only; omega
    refine ⟨h1, h2, fun a ha hna => ?_⟩
    by_cases e : a = k
    · subst e; omega
    exact h3 a (by omega) hna
theorem Jc2 (D : ZR) (S : ZI) (n : Nat) : ∀ k, k ≤ S.length → Jbk D S n (fdI D S n k) ∧ ∀ i, i < k → ∀ a : Nat, a < n → (a : Int) ∉ S → fdG D S (S.getD i 0) (a : Int) ≤ (fdI D S n k).2.2
  | 0, _ => ⟨⟨Int.le_refl _, .inl rfl⟩, fun i hi => by omega⟩
  | k + 1, hk => by
    obtain ⟨h1, h2⟩ := Jc2 D S n k (by omega)
    rw [J6F]
    obtain ⟨k1, k2, k3⟩ := JbD (getD_mem (d := 0) (show k < S.length by omega)) h1 n (Nat.le_refl _)
    refine ⟨k1, fun i hi a ha hn => ?_⟩
    by_cases e : i = k
    · subst e; exact k3 a ha hn
    have := h2 i (by omega) a ha hn; omega
theorem Jq (D : ZR) (S : ZI) (n : Nat) : Jbk D S n (fd D S n) ∧ ∀ s ∈ S, ∀ a : Int, 0 ≤ a ∧ a < (n : Int) → a ∉ S → fdG D S s a ≤ (fd D S n).2.2 := by
  obtain ⟨h1, h2⟩ := Jc2 D S n S.length (Nat.le_refl _)
  refine ⟨h1, fun s hs a ha hn => ?_⟩
  obtain ⟨i, hi, rfl⟩ := List.mem_iff_getElem.1 hs
  have := h2 i hi a.toNat (by omega) (by rw [Int.toNat_of_nonneg ha.1]; exact hn)
  rw [Int.toNat_of_nonneg ha.1, JZ hi] at this
  exact this
abbrev J2W (U : ZI) (E : ZR) (set : ZI) (o1 : Int) (i1 : Int) (m1 : Int) (i : Int) : Prop := (0 ≤ i ∧ i ≤ (set.length : Int)) ∧ ((o1, i1, m1) = fdI E set U.length i.toNat)
abbrev J2S (U : ZI) (E : ZR) (set : ZI) (o1 : Int) (i1 : Int) (m1 : Int) (i : Int) : Nat := (set.length - i).toNat
abbrev J0V (U : ZI) (E : ZR) (set : ZI) (o1 : Int) (i1 : Int) (m1 : Int) (i : Int) (o2 : Int) (i2 : Int) (m2 : Int) (a : Int) : Prop := (0 ≤ a ∧ a ≤ (U.length : Int)) ∧ ((o2, i2, m2) = fdA E set (set.getD i.toNat 0) (fdI E set U.length i.toNat) a.toNat)
abbrev JP (U : ZI) (E : ZR) (set : ZI) (o1 : Int) (i1 : Int) (m1 : Int) (i : Int) (o2 : Int) (i2 : Int) (m2 : Int) (a : Int) : Nat := (U.length - a).toNat
def Jbl (f : FuncId) (ds : List D) : Orc := bif Nat.beq f 128 then J6u ds else bif Nat.beq f 130 then J5E ds else .no
def Jbb (U : ZI) (E : ZR) (set : ZI) : Ann := .two (.none) (.two (.none) (.two (.two (.none) (.loop (cut4 (fun (o1 : Int) (i1 : Int) (m1 : Int) (i : Int) => J2W U E set o1 i1 m1 i) (fun (o1 : Int) (i1 : Int) (m1 : Int) (i : Int) => [(1, .d false (.sl (.ints set))), (2, .ptr 2 0), (7, .d true (.int .i64 o1)), (8, .d true (.int .i64 i1)), (9, .d true (.int .i64 m1)), (10, .d true (.int .i64 i))]) (fun (o1 : Int) (i1 : Int) (m1 : Int) (i : Int) => [(2, .box 27 [.d false (.sl (.ints U)), .d false (.sl (.rows E))])])) (fun g => J2S U E set g.1 g.2.1 g.2.2.1 g.2.2.2) (fun g => (fun (o1 : Int) (i1 : Int) (m1 : Int) (i : Int) => .two (.none) (.two (.two (.none) (.loop (cut4 (fun (o2 : Int) (i2 : Int) (m2 : Int) (a : Int) => J0V U E set o1 i1 m1 i o2 i2 m2 a) (fun (o2 : Int) (i2 : Int) (m2 : Int) (a : Int) => [(1, .d false (.sl (.ints set))), (2, .ptr 2 0), (7, .d true (.int .i64 o2)), (8, .d true (.int .i64 i2)), (9, .d true (.int .i64 m2)), (10, .d true (.int .i64 i)), (11, .d true (.int .i64 a))]) (fun (o2 : Int) (i2 : Int) (m2 : Int) (a : Int) => [(2, .box 27 [.d false (.sl (.ints U)), .d false (.sl (.rows E))])])) (fun g => JP U E set o1 i1 m1 i g.1 g.2.1 g.2.2.1 g.2.2.2) (fun _ => .none))) (.none))) (g.1) (g.2.1) (g.2.2.1) (g.2.2.2)))) (.none)))
def J7M (U : ZI) (E : ZR) (set : ZI) : Prop :=
  ((∃ o1' : Int, ∃ i1' : Int, ∃ m1' : Int, ∃ i' : Int, (J2W U E set o1' i1' m1' i') ∧ (set = set) ∧ ((0 : Int) = o1') ∧ ((0 : Int) = i1') ∧ ((0 : Int) = m1') ∧ ((0 : Int) = i') ∧ (U = U) ∧ (E = E)) ∧ (∀ o1 : Int, ∀ i1 : Int, ∀ m1 : Int, ∀ i : Int, (J2W U E set o1 i1 m1 i) → (((decide (i < (set.length : Int))) = true → ((∃ o2' : Int, ∃ i2' : Int, ∃ m2' : Int, ∃ a' : Int, (J0V U E set o1 i1 m1 i o2' i2' m2' a') ∧ (set = set) ∧ (o1 = o2') ∧ (i1 = i2') ∧ (m1 = m2') ∧ (i = i) ∧ ((0 : Int) = a') ∧ (U = U) ∧ (E = E)) ∧ (∀ o2 : Int, ∀ i2 : Int, ∀ m2 : Int, ∀ a : Int, (J0V U E set o1 i1 m1 i o2 i2 m2 a) → (((decide (a < (U.length : Int))) = true → (PC Tryz.prog 128 [.sl (.ints set), .int .i64 a] (.one (.d (.bool (set.contains a))))) ∧ (((set.contains a) = true → (I6 (a + 1)) ∧ (∃ o2' : Int, ∃ i2' : Int, ∃ m2' : Int, ∃ a' : Int, (J0V U E set o1 i1 m1 i o2' i2' m2' a') ∧ (JP U E set o1 i1 m1 i o2' i2' m2' a' < JP U E set o1 i1 m1 i o2 i2 m2 a) ∧ (set = set) ∧ (o2 = o2') ∧ (i2 = i2') ∧ (m2 = m2') ∧ (i = i) ∧ ((a + 1) = a') ∧ (U = U) ∧ (E = E))) ∧ ((set.contains a) = false → (true = true) ∧ ((0 : Int) ≤ i) ∧ ((i : Int) < set.length) ∧ (i.toNat < set.length) ∧ (PC Tryz.prog 130 [.agg [.sl (.ints U), .sl (.rows E)], .sl (.ints set), .int .i64 (set.getD i.toNat 0), .int .i64 a] (.one (.d (.int .i64 (J5 E set - J5 E (swL set (set.getD i.toNat 0) a)))))) ∧ (((decide ((J5 E set - J5 E (swL set (set.getD i.toNat 0) a)) > m2)) = true → ((0 : Int) ≤ i) ∧ ((i : Int) < set.length) ∧ (i.toNat < set.length) ∧ (I6 (a + 1)) ∧ (∃ o2' : Int, ∃ i2' : Int, ∃ m2' : Int, ∃ a' : Int, (J0V U E set o1 i1 m1 i o2' i2' m2' a') ∧ (JP U E set o1 i1 m1 i o2' i2' m2' a' < JP U E set o1 i1 m1 i o2 i2 m2 a) ∧ (set = set) ∧ ((set.getD i.toNat 0) = o2') ∧ (a = i2') ∧ ((J5 E set - J5 E (swL set (set.getD i.toNat 0) a)) = m2') ∧ (i = i) ∧ ((a + 1) = a') ∧ (U = U) ∧ (E = E))) ∧ ((decide ((J5 E set - J5 E (swL set (set.getD i.toNat 0) a)) > m2)) = false → (I6 (a + 1)) ∧ (∃ o2' : Int, ∃ i2' : Int, ∃ m2' : Int, ∃ a' : Int, (J0V U E set o1 i1 m1 i o2' i2' m2' a') ∧ (JP U E set o1 i1 m1 i o2' i2' m2' a' < JP U E set o1 i1 m1 i o2 i2 m2 a) ∧ (set = set) ∧ (o2 = o2') ∧ (i2 = i2') ∧ (m2 = m2') ∧ (i = i) ∧ ((a + 1) = a') ∧ (U = U) ∧ (E = E))))))) ∧ ((decide (a < (U.length : Int))) = false → (I6 (i + 1)) ∧ (∃ o1' : Int, ∃ i1' : Int, ∃ m1' : Int, ∃ i' : Int, (J2W U E set o1' i1' m1' i') ∧ (J2S U E set o1' i1' m1' i' < J2S U E set o1 i1 m1 i) ∧ (set = set) ∧ (o2 = o1') ∧ (i2 = i1') ∧ (m2 = m1') ∧ ((i + 1) = i') ∧ (U = U) ∧ (E = E))))))) ∧ ((decide (i < (set.length : Int))) = false → ((o1 = ((fd E set U.length).1)) ∧ (i1 = ((fd E set U.length).2.1)) ∧ (m1 = ((fd E set U.length).2.2)))))))
theorem Jau (U : ZI) (E : ZR) (set : ZI) (ht : (J0 U E && J2 set 0 ((U.length : Int) - 1) && decide (0 < set.length)) = true) (w_Open : (U.length : Int) ≤ 9223372036854775807) (w_Dist : (E.length : Int) ≤ 9223372036854775807) (v_Dist : ∀ x9 ∈ E, (x9.length : Int) ≤ 9223372036854775807) (w_set : (set.length : Int) ≤ 9223372036854775807) : J7M U E set := by
  unfold J7M
  obtain ⟨hg, hr, hp⟩ := J7 ht
  obtain ⟨g1, g2, g3⟩ := J9 hg
  have hln := J18 hr (by omega)
  refine ⟨?_, ?_⟩
  ·refine ⟨0, 0, 0, 0, ?_⟩
   refine ⟨?_, rfl, rfl, rfl, rfl, rfl, rfl, rfl⟩
   ·refine ⟨?_, ?_⟩
    ·omega
    ·rfl
  intro o1 i1 m1 i hJ
  obtain ⟨h0, h1⟩ := hJ
  refine ⟨?_, ?_⟩
  ·intro b1
   try simp only [nrmT] at b1
   refine ⟨?_, ?_⟩
   ·refine ⟨o1, i1, m1, 0, ?_⟩
    refine ⟨?_, rfl, rfl, rfl, rfl, rfl, rfl, rfl, rfl⟩
    ·refine ⟨?_, ?_⟩
     ·omega
     ·exact h1
   intro o2 i2 m2 a hJ
   obtain ⟨h3, h4⟩ := hJ
   refine ⟨?_, ?_⟩
   ·intro b2
    try simp only [nrmT] at b2
    refine ⟨J4V set a, ?_, ?_⟩
    ·intro b3
     try simp only [nrmT] at b3
     refine ⟨?_, ?_⟩
     ·omega
     refine ⟨o2, i2, m2, (a + 1), ?_⟩
     refine ⟨?_, ?_, rfl, rfl, rfl, rfl, rfl, rfl, rfl, rfl⟩
     ·refine ⟨?_, ?_⟩
      ·omega
      ·rw [show (a + 1).toNat = a.toNat + 1 by omega, J2u, ← h4]
       unfold fdF
       rw [show ((a.toNat : Nat) : Int) = a by omega]
       first | rw [if_pos b3] | skip
     (simp only [JP]; omega)
    intro b4
    try simp only [nrmT] at b4
    refine ⟨rfl, ?_, ?_, ?_, ?_, ?_, ?_⟩
    ·omega
    ·omega
    ·omega
    ·refine J6A U E set (set.getD i.toNat 0) a ?_ ?_
     ·exact ht
     ·omega
    ·intro b5
     try simp only [nrmT] at b5
     refine ⟨?_, ?_, ?_, ?_, ?_⟩
     ·omega
     ·omega
     ·omega
     ·omega
     refine ⟨(set.getD i.toNat 0), a, (J5 E set - J5 E (swL set (set.getD i.toNat 0) a)), (a + 1), ?_⟩
     refine ⟨?_, ?_, rfl, rfl, rfl, rfl, rfl, rfl, rfl, rfl⟩
     ·refine ⟨?_, ?_⟩
      ·omega
      ·rw [show (a + 1).toNat = a.toNat + 1 by omega, J2u, ← h4]
       unfold fdF
       rw [show ((a.toNat : Nat) : Int) = a by omega]
       have hgt : fdG E set (set.getD i.toNat 0) a > (o2, i2, m2).2.2 := b5
       rw [if_neg (by rw [b4]; decide), if_pos hgt]
       rfl
     (simp only [JP]; omega)
    intro b6
    try simp only [nrmT] at b6
    refine ⟨?_, ?_⟩
    ·omega
    refine ⟨o2, i2, m2, (a + 1), ?_⟩
    refine ⟨?_, ?_, rfl, rfl, rfl, rfl, rfl, rfl, rfl, rfl⟩
    ·refine ⟨?_, ?_⟩
     ·omega
     ·rw [show (a + 1).toNat = a.toNat + 1 by omega, J2u, ← h4]
      unfold fdF
      rw [show ((a.toNat : Nat) : Int) = a by omega]
      have hgt : ¬ fdG E set (set.getD i.toNat 0) a > (o2, i2, m2).2.2 := by
        show ¬ (J5 E set - J5 E (swL set (set.getD i.toNat 0) a)) > m2
        omega
      rw [if_neg (by rw [b4]; decide), if_neg hgt]
    (simp only [JP]; omega)
   intro b7
   try simp only [nrmT] at b7
   refine ⟨?_, ?_⟩
   ·omega
   refine ⟨o2, i2, m2, (i + 1), ?_⟩
   refine ⟨?_, ?_, rfl, rfl, rfl, rfl, rfl, rfl, rfl⟩
   ·refine ⟨?_, ?_⟩
    ·omega
    ·rw [show (i + 1).toNat = i.toNat + 1 by omega, J6F, h4, show a.toNat = U.length by omega]
   (simp only [J2S]; omega)
  intro b8
  try simp only [nrmT] at b8
  refine ⟨?_, ?_, ?_⟩
  ·have h9 : (o1, i1, m1) = fd E set U.length := by rw [h1, show i.toNat = set.length by omega]; rfl
   rw [← h9]
  ·have h9 : (o1, i1, m1) = fd E set U.length := by rw [h1, show i.toNat = set.length by omega]; rfl
   rw [← h9]
  have h9 : (o1, i1, m1) = fd E set U.length := by rw [h1, show i.toNat = set.length by omega]; rfl
  rw [← h9]
theorem J4F (U : ZI) (E : ZR) (set : ZI) (ht : (J0 U E && J2 set 0 ((U.length : Int) - 1) && decide (0 < set.length)) = true) : PC Tryz.prog 121 [.agg [.sl (.ints U), .sl (.rows E)], .sl (.ints set)] (.tup [.d (.int .i64 ((fd E set U.length).1)), .d (.int .i64 ((fd E set U.length).2.1)), .d (.int .i64 ((fd E set U.length).2.2))]) :=
  pc_wf @Tryz.call121 fun hw => pc_by (by kernel_rfl) Tryz.func121 @Tryz.call121 (by kernel_rfl) Jbl (Jbb U E set) (by kernel_rfl) (Jau U E set ht hw.1.1 hw.1.2.1.1 hw.1.2.1.2 hw.2.1) (by kernel_rfl)
def J4c : List D → Orc := orcN [none, some .ints] fun ds => match ds with
  | [.agg [.sl (.ints U), .sl (.rows E)], .sl (.ints set)] => some (.tup [.d (.int .i64 ((fd E set U.length).1)), .d (.int .i64 ((fd E set U.length).2.1)), .d (.int .i64 ((fd E set U.length).2.2))])
  | _ => none
abbrev J0i (U : ZI) (E : ZR) (set : ZI) (o1 : Int) (i1 : Int) (m1 : Int) (i : Int) : Prop := (0 ≤ i ∧ i ≤ (set.length : Int)) ∧ ((o1, i1, m1) = fdI E set U.length i.toNat)
abbrev J0k (U : ZI) (E : ZR) (set : ZI) (o1 : Int) (i1 : Int) (m1 : Int) (i : Int) : Nat := (set.length - i).toNat
abbrev JI (U : ZI) (E : ZR) (set : ZI) (o1 : Int) (i1 : Int) (m1 : Int) (i : Int) (o2 : Int) (i2 : Int) (m2 : Int) (a : Int) : Prop := (0 ≤ a ∧ a ≤ (U.length : Int)) ∧ ((o2, i2, m2) = fdA E set (set.getD i.toNat 0) (fdI E set U.length i.toNat) a.toNat)
abbrev Jk (U : ZI) (E : ZR) (set : ZI) (o1 : Int) (i1 : Int) (m1 : Int) (i : Int) (o2 : Int) (i2 : Int) (m2 : Int) (a : Int) : Nat := (U.length - a).toNat
def J5n (f : FuncId) (ds : List D) : Orc := bif Nat.beq f 131 then J13 ds else bif Nat.beq f 125 then J01 ds else bif Nat.beq f 119 then J3C ds else .no
def J5A (U : ZI) (E : ZR) (set : ZI) : Ann := .two (.none) (.two (.none) (.two (.two (.none) (.loop (cut4 (fun (o1 : Int) (i1 : Int) (m1 : Int) (i : Int) => J0i U E set o1 i1 m1 i) (fun (o1 : Int) (i1 : Int) (m1 : Int) (i : Int) => [(1, .d false (.sl (.ints set))), (2, .ptr 2 0), (7, .d true (.int .i64 o1)), (8, .d true (.int .i64 i1)), (9, .d true (.int .i64 m1)), (14, .d false (.sl (.ints set))), (15, .d true (.int .i64 (set.length : Int))), (16, .d true (.int .i64 i))]) (fun (o1 : Int) (i1 : Int) (m1 : Int) (i : Int) => [(2, .box 27 [.d false (.sl (.ints U)), .d false (.sl (.rows E))])])) (fun g => J0k U E set g.1 g.2.1 g.2.2.1 g.2.2.2) (fun g => (fun (o1 : Int) (i1 : Int) (m1 : Int) (i : Int) => .two (.none) (.two (.none) (.two (.two (.none) (.two (.none) (.loop (cut4 (fun (o2 : Int) (i2 : Int) (m2 : Int) (a : Int) => JI U E set o1 i1 m1 i o2 i2 m2 a) (fun (o2 : Int) (i2 : Int) (m2 : Int) (a : Int) => [(1, .d false (.sl (.ints set))), (2, .ptr 2 0), (7, .d true (.int .i64 o2)), (8, .d true (.int .i64 i2)), (9, .d true (.int .i64 m2)), (11, .d false (.int .i64 (set.getD i.toNat 0))), (14, .d false (.sl (.ints set))), (15, .d true (.int .i64 (set.length : Int))), (16, .d true (.int .i64 i)), (22, .d true (.int .i64 (U.length : Int))), (23, .d true (.int .i64 a))]) (fun (o2 : Int) (i2 : Int) (m2 : Int) (a : Int) => [(2, .box 27 [.d false (.sl (.ints U)), .d false (.sl (.rows E))])])) (fun g => Jk U E set o1 i1 m1 i g.1 g.2.1 g.2.2.1 g.2.2.2) (fun _ => .none)))) (.none)))) (g.1) (g.2.1) (g.2.2.1) (g.2.2.2)))) (.none)))
def J3u (U : ZI) (E : ZR) (set : ZI) : Prop :=
  ((∃ o1' : Int, ∃ i1' : Int, ∃ m1' : Int, ∃ i' : Int, (J0i U E set o1' i1' m1' i') ∧ (set = set) ∧ ((0 : Int) = o1') ∧ ((0 : Int) = i1') ∧ ((0 : Int) = m1') ∧ (set = set) ∧ ((set.length : Int) = (set.length : Int)) ∧ ((0 : Int) = i') ∧ (U = U) ∧ (E = E)) ∧ (∀ o1 : Int, ∀ i1 : Int, ∀ m1 : Int, ∀ i : Int, (J0i U E set o1 i1 m1 i) → (((decide (i < (set.length : Int))) = true → ((0 : Int) ≤ i) ∧ ((i : Int) < set.length) ∧ (i.toNat < set.length) ∧ ((∃ o2' : Int, ∃ i2' : Int, ∃ m2' : Int, ∃ a' : Int, (JI U E set o1 i1 m1 i o2' i2' m2' a') ∧ (set = set) ∧ (o1 = o2') ∧ (i1 = i2') ∧ (m1 = m2') ∧ ((set.getD i.toNat 0) = (set.getD i.toNat 0)) ∧ (set = set) ∧ ((set.length : Int) = (set.length : Int)) ∧ (i = i) ∧ ((U.length : Int) = (U.length : Int)) ∧ ((0 : Int) = a') ∧ (U = U) ∧ (E = E)) ∧ (∀ o2 : Int, ∀ i2 : Int, ∀ m2 : Int, ∀ a : Int, (JI U E set o1 i1 m1 i o2 i2 m2 a) → (((decide (a < (U.length : Int))) = true → (PC Tryz.prog 131 [.sl (.ints set), .int .i64 a] (.one (.d (.bool (set.contains a))))) ∧ (((set.contains a) = true → (I6 (a + 1)) ∧ (∃ o2' : Int, ∃ i2' : Int, ∃ m2' : Int, ∃ a' : Int, (JI U E set o1 i1 m1 i o2' i2' m2' a') ∧ (Jk U E set o1 i1 m1 i o2' i2' m2' a' < Jk U E set o1 i1 m1 i o2 i2 m2 a) ∧ (set = set) ∧ (o2 = o2') ∧ (i2 = i2') ∧ (m2 = m2') ∧ ((set.getD i.toNat 0) = (set.getD i.toNat 0)) ∧ (set = set) ∧ ((set.length : Int) = (set.length : Int)) ∧ (i = i) ∧ ((U.length : Int) = (U.length : Int)) ∧ ((a + 1) = a') ∧ (U = U) ∧ (E = E))) ∧ ((set.contains a) = false → (true = true) ∧ (PC Tryz.prog 125 [.agg [.sl (.ints U), .sl (.rows E)], .sl (.ints set)] (.one (.d (.int .i64 (J5 E set))))) ∧ (PC Tryz.prog 119 [.sl (.ints set), .int .i64 (set.getD i.toNat 0), .int .i64 a] (.one (.own 3 (.ints (swL set (set.getD i.toNat 0) a))))) ∧ ((swL set (set.getD i.toNat 0) a).length = (swL set (set.getD i.toNat 0) a).length) ∧ (PC Tryz.prog 125 [.agg [.sl (.ints U), .sl (.rows E)], .sl (.ints (swL set (set.getD i.toNat 0) a))] (.one (.d (.int .i64 (J5 E (swL set (set.getD i.toNat 0) a)))))) ∧ (I6 ((J5 E set) - (J5 E (swL set (set.getD i.toNat 0) a)))) ∧ (((decide (((J5 E set) - (J5 E (swL set (set.getD i.toNat 0) a))) > m2)) = true → (I6 (a + 1)) ∧ (∃ o2' : Int, ∃ i2' : Int, ∃ m2' : Int, ∃ a' : Int, (JI U E set o1 i1 m1 i o2' i2' m2' a') ∧ (Jk U E set o1 i1 m1 i o2' i2' m2' a' < Jk U E set o1 i1 m1 i o2 i2 m2 a) ∧ (set = set) ∧ ((set.getD i.toNat 0) = o2') ∧ (a = i2') ∧ (((J5 E set) - (J5 E (swL set (set.getD i.toNat 0) a))) = m2') ∧ ((set.getD i.toNat 0) = (set.getD i.toNat 0)) ∧ (set = set) ∧ ((set.length : Int) = (set.length : Int)) ∧ (i = i) ∧ ((U.length : Int) = (U.length : Int)) ∧ ((a + 1) = a') ∧ (U = U) ∧ (E = E))) ∧ ((decide (((J5 E set) - (J5 E (swL set (set.getD i.toNat 0) a))) > m2)) = false → (I6 (a + 1)) ∧ (∃ o2' : Int, ∃ i2' : Int, ∃ m2' : Int, ∃ a' : Int, (JI U E set o1 i1 m1 i o2' i2' m2' a') ∧ (Jk U E set o1 i1 m1 i o2' i2' m2' a' < Jk U E set o1 i1 m1 i o2 i2 m2 a) ∧ (set = set) ∧ (o2 = o2') ∧ (i2 = i2') ∧ (m2 = m2') ∧ ((set.getD i.toNat 0) = (set.getD i.toNat 0)) ∧ (set = set) ∧ ((set.length : Int) = (set.length : Int)) ∧ (i = i) ∧ ((U.length : Int) = (U.length : Int)) ∧ ((a + 1) = a') ∧ (U = U) ∧ (E = E))))))) ∧ ((decide (a < (U.length : Int))) = false → (I6 (i + 1)) ∧ (∃ o1' : Int, ∃ i1' : Int, ∃ m1' : Int, ∃ i' : Int, (J0i U E set o1' i1' m1' i') ∧ (J0k U E set o1' i1' m1' i' < J0k U E set o1 i1 m1 i) ∧ (set = set) ∧ (o2 = o1') ∧ (i2 = i1') ∧ (m2 = m1') ∧ (set = set) ∧ ((set.length : Int) = (set.length : Int)) ∧ ((i + 1) = i') ∧ (U = U) ∧ (E = E))))))) ∧ ((decide (i < (set.length : Int))) = false → ((o1 = ((fd E set U.length).1)) ∧ (i1 = ((fd E set U.length).2.1)) ∧ ((decide (m1 > 0)) = (decide ((fd E set U.length).2.2 > 0))))))))
theorem J58 (U : ZI) (E : ZR) (set : ZI) (ht : (J0 U E && J2 set 0 ((U.length : Int) - 1) && decide (0 < set.length)) = true) (w_Open : (U.length : Int) ≤ 9223372036854775807) (w_Dist : (E.length : Int) ≤ 9223372036854775807) (v_Dist : ∀ x9 ∈ E, (x9.length : Int) ≤ 9223372036854775807) (w_set : (set.length : Int) ≤ 9223372036854775807) : J3u U E set := by
  unfold J3u
  obtain ⟨hg, hr, hp⟩ := J7 ht
  obtain ⟨g1, g2, g3⟩ := J9 hg
  have hln := J18 hr (by omega)
  refine ⟨?_, ?_⟩
  ·refine ⟨0, 0, 0, 0, ?_⟩
   refine ⟨?_, rfl, rfl, rfl, rfl, rfl, rfl, rfl, rfl, rfl⟩
   ·refine ⟨?_, ?_⟩
    ·omega
    ·rfl
  intro o1 i1 m1 i hJ
  obtain ⟨h0, h1⟩ := hJ
  refine ⟨?_, ?_⟩
  ·intro b1
   try simp only [nrmT] at b1
   refine ⟨?_, ?_, ?_, ?_, ?_⟩
   ·omega
   ·omega
   ·omega
   ·refine ⟨o1, i1, m1, 0, ?_⟩
    refine ⟨?_, rfl, rfl, rfl, rfl, rfl, rfl, rfl, rfl, rfl, rfl, rfl, rfl⟩
    ·refine ⟨?_, ?_⟩
     ·omega
     ·exact h1
   intro o2 i2 m2 a hJ
   obtain ⟨h3, h4⟩ := hJ
   refine ⟨?_, ?_⟩
   ·intro b2
    try simp only [nrmT] at b2
    refine ⟨J06 set a, ?_, ?_⟩
    ·intro b3
     try simp only [nrmT] at b3
     refine ⟨?_, ?_⟩
     ·omega
     refine ⟨o2, i2, m2, (a + 1), ?_⟩
     refine ⟨?_, ?_, rfl, rfl, rfl, rfl, rfl, rfl, rfl, rfl, rfl, rfl, rfl, rfl⟩
     ·refine ⟨?_, ?_⟩
      ·omega
      ·rw [show (a + 1).toNat = a.toNat + 1 by omega, J2u, ← h4]
       unfold fdF
       rw [show ((a.toNat : Nat) : Int) = a by omega]
       first | rw [if_pos b3] | skip
     (simp only [Jk]; omega)
    intro b4
    try simp only [nrmT] at b4
    refine ⟨rfl, ?_, ?_, rfl, ?_, ?_, ?_, ?_⟩
    ·refine Jw U E set ?_
     ·exact ht
    ·refine J4e set (set.getD i.toNat 0) a ?_ ?_ ?_ ?_
     ·exact J0L hr
     ·intro x hx
      have := JC hr x hx
      omega
     ·have := JC hr _ (getD_mem (d := 0) (show i.toNat < set.length by omega))
      omega
     ·omega
    ·refine Jw U E (swL set (set.getD i.toNat 0) a) ?_
     ·exact J2O ht _ (by omega)
    ·have s1 := J8 ht
     have s2 := J8 (J2O ht (set.getD i.toNat 0) (y := a) (by omega))
     omega
    ·intro b5
     try simp only [nrmT] at b5
     refine ⟨?_, ?_⟩
     ·omega
     refine ⟨(set.getD i.toNat 0), a, ((J5 E set) - (J5 E (swL set (set.getD i.toNat 0) a))), (a + 1), ?_⟩
     refine ⟨?_, ?_, rfl, rfl, rfl, rfl, rfl, rfl, rfl, rfl, rfl, rfl, rfl, rfl⟩
     ·refine ⟨?_, ?_⟩
      ·omega
      ·rw [show (a + 1).toNat = a.toNat + 1 by omega, J2u, ← h4]
       unfold fdF
       rw [show ((a.toNat : Nat) : Int) = a by omega]
       have hgt : fdG E set (set.getD i.toNat 0) a > (o2, i2, m2).2.2 := b5
       rw [if_neg (by rw [b4]; decide), if_pos hgt]
       rfl
     (simp only [Jk]; omega)
    intro b6
    try simp only [nrmT] at b6
    refine ⟨?_, ?_⟩
    ·omega
    refine ⟨o2, i2, m2, (a + 1), ?_⟩
    refine ⟨?_, ?_, rfl, rfl, rfl, rfl, rfl, rfl, rfl, rfl, rfl, rfl, rfl, rfl⟩
    ·refine ⟨?_, ?_⟩
     ·omega
     ·rw [show (a + 1).toNat = a.toNat + 1 by omega, J2u, ← h4]
      unfold fdF
      rw [show ((a.toNat : Nat) : Int) = a by omega]
      have hgt : ¬ fdG E set (set.getD i.toNat 0) a > (o2, i2, m2).2.2 := by
        show ¬ (J5 E set - J5 E (swL set (set.getD i.toNat 0) a)) > m2
        omega
      rw [if_neg (by rw [b4]; decide), if_neg hgt]
    (simp only [Jk]; omega)
   intro b7
   try simp only [nrmT] at b7
   refine ⟨?_, ?_⟩
   ·omega
   refine ⟨o2, i2, m2, (i + 1), ?_⟩
   refine ⟨?_, ?_, rfl, rfl, rfl, rfl, rfl, rfl, rfl, rfl, rfl⟩
   ·refine ⟨?_, ?_⟩
    ·omega
    ·rw [show (i + 1).toNat = i.toNat + 1 by omega, J6F, h4, show a.toNat = U.length by omega]
   (simp only [J0k]; omega)
  intro b8
  try simp only [nrmT] at b8
  refine ⟨?_, ?_, ?_⟩
  ·have h9 : (o1, i1, m1) = fd E set U.length := by rw [h1, show i.toNat = set.length by omega]; rfl
   rw [← h9]
  ·have h9 : (o1, i1, m1) = fd E set U.length := by rw [h1, show i.toNat = set.length by omega]; rfl
   rw [← h9]
  have h9 : (o1, i1, m1) = fd E set U.length := by rw [h1, show i.toNat = set.length by omega]; rfl
  rw [← h9]
theorem J1j (U : ZI) (E : ZR) (set : ZI) (ht : (J0 U E && J2 set 0 ((U.length : Int) - 1) && decide (0 < set.length)) = true) : PC Tryz.prog 118 [.agg [.sl (.ints U), .sl (.rows E)], .sl (.ints set)] (.tup [.d (.int .i64 ((fd E set U.length).1)), .d (.int .i64 ((fd E set U.length).2.1)), .d (.bool (decide ((fd E set U.length).2.2 > 0)))]) :=
  pc_wf @Tryz.call118 fun hw => pc_by (by kernel_rfl) Tryz.func118 @Tryz.call118 (by kernel_rfl) J5n (J5A U E set) (by kernel_rfl) (J58 U E set ht hw.1.1 hw.1.2.1.1 hw.1.2.1.2 hw.2.1) (by kernel_rfl)
def J19 : List D → Orc := orcN [none, some .ints] fun ds => match ds with
  | [.agg [.sl (.ints U), .sl (.rows E)], .sl (.ints set)] => some (.tup [.d (.int .i64 ((fd E set U.length).1)), .d (.int .i64 ((fd E set U.length).2.1)), .d (.bool (decide ((fd E set U.length).2.2 > 0)))])
  | _ => none
def J4 (U : ZI) (E : ZR) (set : ZI) : Bool := J0 U E && J2 set 0 ((U.length : Int) - 1) && decide (0 < set.length)
def bwA (U : ZI) (E : ZR) (set : ZI) : Int := if J4 U E set = true then (fd E set U.length).1 else 0
def bwB (U : ZI) (E : ZR) (set : ZI) : Int := if J4 U E set = true then (fd E set U.length).2.1 else 0
def bwC (U : ZI) (E : ZR) (set : ZI) : Bool := J4 U E set && decide ((fd E set U.length).2.2 > 0)
def bwL (U : ZI) (E : ZR) (set : ZI) : Bool := J4 U E set && decide ((fd E set U.length).2.2 = 0)
def J9J (f : FuncId) (ds : List D) : Orc := bif Nat.beq f 120 then J3d ds else bif Nat.beq f 121 then J4c ds else .no
def J9B (U : ZI) (E : ZR) (set : ZI) : Ann := .none
def J5H (U : ZI) (E : ZR) (set : ZI) : Prop :=
  (PC Tryz.prog 120 [.agg [.sl (.ints U), .sl (.rows E)], .sl (.ints set)] (.one (.d (.bool (J0 U E && J2 set 0 ((U.length : Int) - 1) && decide (0 < set.length)))))) ∧ (((!(J0 U E && J2 set 0 ((U.length : Int) - 1) && decide (0 < set.length))) = true → (((0 : Int) = (bwA U E set)) ∧ ((0 : Int) = (bwB U E set)) ∧ (false = (bwC U E set)))) ∧ ((!(J0 U E && J2 set 0 ((U.length : Int) - 1) && decide (0 < set.length))) = false → (PC Tryz.prog 121 [.agg [.sl (.ints U), .sl (.rows E)], .sl (.ints set)] (.tup [.d (.int .i64 ((fd E set U.length).1)), .d (.int .i64 ((fd E set U.length).2.1)), .d (.int .i64 ((fd E set U.length).2.2))])) ∧ ((((fd E set U.length).1) = (bwA U E set)) ∧ (((fd E set U.length).2.1) = (bwB U E set)) ∧ ((decide (((fd E set U.length).2.2) > 0)) = (bwC U E set)))))
theorem J9x (U : ZI) (E : ZR) (set : ZI)  (w_Open : (U.length : Int) ≤ 9223372036854775807) (w_Dist : (E.length : Int) ≤ 9223372036854775807) (v_Dist : ∀ x9 ∈ E, (x9.length : Int) ≤ 9223372036854775807) (w_set : (set.length : Int) ≤ 9223372036854775807) : J5H U E set := by
  unfold J5H
  refine ⟨J3K U E set, ?_, ?_⟩
  ·intro b1
   refine ⟨?_, ?_, ?_⟩
   ·have hq : J4 U E set = false := by
      unfold J4
      simpa only [Bool.not_eq_true', Bool.not_eq_false', Bool.not_not] using b1
    unfold bwA; rw [hq]; rfl
   ·have hq : J4 U E set = false := by
      unfold J4
      simpa only [Bool.not_eq_true', Bool.not_eq_false', Bool.not_not] using b1
    unfold bwB; rw [hq]; rfl
   have hq : J4 U E set = false := by
     unfold J4
     simpa only [Bool.not_eq_true', Bool.not_eq_false', Bool.not_not] using b1
   unfold bwC; rw [hq]; rfl
  intro b2
  refine ⟨?_, ?_, ?_, ?_⟩
  ·refine J4F U E set ?_
   ·have hq : J4 U E set = true := by
      unfold J4
      simpa only [Bool.not_eq_true', Bool.not_eq_false', Bool.not_not] using b2
    exact hq
  ·have hq : J4 U E set = true := by
     unfold J4
     simpa only [Bool.not_eq_true', Bool.not_eq_false', Bool.not_not] using b2
   unfold bwA; rw [if_pos hq]
  ·have hq : J4 U E set = true := by
     unfold J4
     simpa only [Bool.not_eq_true', Bool.not_eq_false', Bool.not_not] using b2
   unfold bwB; rw [if_pos hq]
  have hq : J4 U E set = true := by
    unfold J4
    simpa only [Bool.not_eq_true', Bool.not_eq_false', Bool.not_not] using b2
  unfold bwC; rw [hq]; rfl
theorem J9j (U : ZI) (E : ZR) (set : ZI)  : PC Tryz.prog 34 [.agg [.sl (.ints U), .sl (.rows E)], .sl (.ints set)] (.tup [.d (.int .i64 (bwA U E set)), .d (.int .i64 (bwB U E set)), .d (.bool (bwC U E set))]) :=
  pc_wf @Tryz.call34 fun hw => pc_by (by kernel_rfl) Tryz.func34 @Tryz.call34 (by kernel_rfl) J9J (J9B U E set) (by kernel_rfl) (J9x U E set hw.1.1 hw.1.2.1.1 hw.1.2.1.2 hw.2.1) (by kernel_rfl)
def J8c : List D → Orc := orcN [none, some .ints] fun ds => match ds with
  | [.agg [.sl (.ints U), .sl (.rows E)], .sl (.ints set)] => some (.tup [.d (.int .i64 (bwA U E set)), .d (.int .i64 (bwB U E set)), .d (.bool (bwC U E set))])
  | _ => none
def Ja9 (f : FuncId) (ds : List D) : Orc := bif Nat.beq f 113 then J0Z ds else bif Nat.beq f 118 then J19 ds else .no
def J9Y (U : ZI) (E : ZR) (set : ZI) : Ann := .none
def J5J (U : ZI) (E : ZR) (set : ZI) : Prop :=
  (PC Tryz.prog 113 [.agg [.sl (.ints U), .sl (.rows E)], .sl (.ints set)] (.one (.d (.bool (J0 U E && J2 set 0 ((U.length : Int) - 1) && decide (0 < set.length)))))) ∧ (((!(J0 U E && J2 set 0 ((U.length : Int) - 1) && decide (0 < set.length))) = true → (((0 : Int) = (bwA U E set)) ∧ ((0 : Int) = (bwB U E set)) ∧ (false = (bwC U E set)))) ∧ ((!(J0 U E && J2 set 0 ((U.length : Int) - 1) && decide (0 < set.length))) = false → (PC Tryz.prog 118 [.agg [.sl (.ints U), .sl (.rows E)], .sl (.ints set)] (.tup [.d (.int .i64 ((fd E set U.length).1)), .d (.int .i64 ((fd E set U.length).2.1)), .d (.bool (decide ((fd E set U.length).2.2 > 0)))])) ∧ ((((fd E set U.length).1) = (bwA U E set)) ∧ (((fd E set U.length).2.1) = (bwB U E set)) ∧ ((decide ((fd E set U.length).2.2 > 0)) = (bwC U E set)))))
theorem J9k (U : ZI) (E : ZR) (set : ZI)  (w_Open : (U.length : Int) ≤ 9223372036854775807) (w_Dist : (E.length : Int) ≤ 9223372036854775807) (v_Dist : ∀ x9 ∈ E, (x9.length : Int) ≤ 9223372036854775807) (w_set : (set.length : Int) ≤ 9223372036854775807) : J5J U E set := by
  unfold J5J
  refine ⟨J1i U E set, ?_, ?_⟩
  ·intro b1
   refine ⟨?_, ?_, ?_⟩
   ·have hq : J4 U E set = false := by
      unfold J4
      simpa only [Bool.not_eq_true', Bool.not_eq_false', Bool.not_not] using b1
    unfold bwA; rw [hq]; rfl
   ·have hq : J4 U E set = false := by
      unfold J4
      simpa only [Bool.not_eq_true', Bool.not_eq_false', Bool.not_not] using b1
    unfold bwB; rw [hq]; rfl
   have hq : J4 U E set = false := by
     unfold J4
     simpa only [Bool.not_eq_true', Bool.not_eq_false', Bool.not_not] using b1
   unfold bwC; rw [hq]; rfl
  intro b2
  refine ⟨?_, ?_, ?_, ?_⟩
  ·refine J1j U E set ?_
   ·have hq : J4 U E set = true := by
      unfold J4
      simpa only [Bool.not_eq_true', Bool.not_eq_false', Bool.not_not] using b2
    exact hq
  ·have hq : J4 U E set = true := by
     unfold J4
     simpa only [Bool.not_eq_true', Bool.not_eq_false', Bool.not_not] using b2
   unfold bwA; rw [if_pos hq]
  ·have hq : J4 U E set = true := by
     unfold J4
     simpa only [Bool.not_eq_true', Bool.not_eq_false', Bool.not_not] using b2
   unfold bwB; rw [if_pos hq]
  have hq : J4 U E set = true := by
    unfold J4
    simpa only [Bool.not_eq_true', Bool.not_eq_false', Bool.not_not] using b2
  unfold bwC; rw [hq]; rfl
theorem J9r (U : ZI) (E : ZR) (set : ZI)  : PC Tryz.prog 33 [.agg [.sl (.ints U), .sl (.rows E)], .sl (.ints set)] (.tup [.d (.int .i64 (bwA U E set)), .d (.int .i64 (bwB U E set)), .d (.bool (bwC U E set))]) :=
  pc_wf @Tryz.call33 fun hw => pc_by (by kernel_rfl) Tryz.func33 @Tryz.call33 (by kernel_rfl) Ja9 (J9Y U E set) (by kernel_rfl) (J9k U E set hw.1.1 hw.1.2.1.1 hw.1.2.1.2 hw.2.1) (by kernel_rfl)
def J8y : List D → Orc := orcN [none, some .ints] fun ds => match ds with
  | [.agg [.sl (.ints U), .sl (.rows E)], .sl (.ints set)] => some (.tup [.d (.int .i64 (bwA U E set)), .d (.int .i64 (bwB U E set)), .d (.bool (bwC U E set))])
  | _ => none
def J7o (f : FuncId) (ds : List D) : Orc := bif Nat.beq f 120 then J3d ds else bif Nat.beq f 121 then J4c ds else .no
def J7m (U : ZI) (E : ZR) (set : ZI) : Ann := .none
def J4A (U : ZI) (E : ZR) (set : ZI) : Prop :=
  (PC Tryz.prog 120 [.agg [.sl (.ints U), .sl (.rows E)], .sl (.ints set)] (.one (.d (.bool (J0 U E && J2 set 0 ((U.length : Int) - 1) && decide (0 < set.length)))))) ∧ (((!(J0 U E && J2 set 0 ((U.length : Int) - 1) && decide (0 < set.length))) = true → ((false = (bwL U E set)) ∧ (false = (J4 U E set)))) ∧ ((!(J0 U E && J2 set 0 ((U.length : Int) - 1) && decide (0 < set.length))) = false → (PC Tryz.prog 121 [.agg [.sl (.ints U), .sl (.rows E)], .sl (.ints set)] (.tup [.d (.int .i64 ((fd E set U.length).1)), .d (.int .i64 ((fd E set U.length).2.1)), .d (.int .i64 ((fd E set U.length).2.2))])) ∧ (((((fd E set U.length).2.2) == 0) = (bwL U E set)) ∧ (true = (J4 U E set)))))
theorem J6V (U : ZI) (E : ZR) (set : ZI)  (w_Open : (U.length : Int) ≤ 9223372036854775807) (w_Dist : (E.length : Int) ≤ 9223372036854775807) (v_Dist : ∀ x9 ∈ E, (x9.length : Int) ≤ 9223372036854775807) (w_set : (set.length : Int) ≤ 9223372036854775807) : J4A U E set := by
  unfold J4A
  refine ⟨J3K U E set, ?_, ?_⟩
  ·intro b1
   refine ⟨?_, ?_⟩
   ·have hq : J4 U E set = false := by
      unfold J4
      simpa only [Bool.not_eq_true', Bool.not_eq_false', Bool.not_not] using b1
    unfold bwL; rw [hq]; rfl
   have hq : J4 U E set = false := by
     unfold J4
     simpa only [Bool.not_eq_true', Bool.not_eq_false', Bool.not_not] using b1
   exact hq.symm
  intro b2
  refine ⟨?_, ?_, ?_⟩
  ·refine J4F U E set ?_
   ·have hq : J4 U E set = true := by
      unfold J4
      simpa only [Bool.not_eq_true', Bool.not_eq_false', Bool.not_not] using b2
    exact hq
  ·have hq : J4 U E set = true := by
     unfold J4
     simpa only [Bool.not_eq_true', Bool.not_eq_false', Bool.not_not] using b2
   unfold bwL
   rw [hq, Bool.true_and, Bool.eq_iff_iff]
   have := (Jq E set U.length).1.1
   simp
   done
  have hq : J4 U E set = true := by
    unfold J4
    simpa only [Bool.not_eq_true', Bool.not_eq_false', Bool.not_not] using b2
  exact hq.symm
theorem J6P (U : ZI) (E : ZR) (set : ZI)  : PC Tryz.prog 37 [.agg [.sl (.ints U), .sl (.rows E)], .sl (.ints set)] (.tup [.d (.bool (bwL U E set)), .d (.bool (J4 U E set))]) :=
  pc_wf @Tryz.call37 fun hw => pc_by (by kernel_rfl) Tryz.func37 @Tryz.call37 (by kernel_rfl) J7o (J7m U E set) (by kernel_rfl) (J6V U E set hw.1.1 hw.1.2.1.1 hw.1.2.1.2 hw.2.1) (by kernel_rfl)
def J6j : List D → Orc := orcN [none, some .ints] fun ds => match ds with
  | [.agg [.sl (.ints U), .sl (.rows E)], .sl (.ints set)] => some (.tup [.d (.bool (bwL U E set)), .d (.bool (J4 U E set))])
  | _ => none
def J7x (f : FuncId) (ds : List D) : Orc := bif Nat.beq f 113 then J0Z ds else bif Nat.beq f 118 then J19 ds else .no
def J7v (U : ZI) (E : ZR) (set : ZI) : Ann := .none
def J4q (U : ZI) (E : ZR) (set : ZI) : Prop :=
  (PC Tryz.prog 113 [.agg [.sl (.ints U), .sl (.rows E)], .sl (.ints set)] (.one (.d (.bool (J0 U E && J2 set 0 ((U.length : Int) - 1) && decide (0 < set.length)))))) ∧ (((!(J0 U E && J2 set 0 ((U.length : Int) - 1) && decide (0 < set.length))) = true → ((false = (bwL U E set)) ∧ (false = (J4 U E set)))) ∧ ((!(J0 U E && J2 set 0 ((U.length : Int) - 1) && decide (0 < set.length))) = false → (PC Tryz.prog 118 [.agg [.sl (.ints U), .sl (.rows E)], .sl (.ints set)] (.tup [.d (.int .i64 ((fd E set U.length).1)), .d (.int .i64 ((fd E set U.length).2.1)), .d (.bool (decide ((fd E set U.length).2.2 > 0)))])) ∧ (((!(decide ((fd E set U.length).2.2 > 0))) = (bwL U E set)) ∧ (true = (J4 U E set)))))
theorem J7i (U : ZI) (E : ZR) (set : ZI)  (w_Open : (U.length : Int) ≤ 9223372036854775807) (w_Dist : (E.length : Int) ≤ 9223372036854775807) (v_Dist : ∀ x9 ∈ E, (x9.length : Int) ≤ 9223372036854775807) (w_set : (set.length : Int) ≤ 9223372036854775807) : J4q U E set := by
  unfold J4q
  refine ⟨J1i U E set, ?_, ?_⟩
  ·intro b1
   refine ⟨?_, ?_⟩
   ·have hq : J4 U E set = false := by
      unfold J4
      simpa only [Bool.not_eq_true', Bool.not_eq_false', Bool.not_not] using b1
    unfold bwL; rw [hq]; rfl
   have hq : J4 U E set = false := by
     unfold J4
     simpa only [Bool.not_eq_true', Bool.not_eq_false', Bool.not_not] using b1
   exact hq.symm
  intro b2
  refine ⟨?_, ?_, ?_⟩
  ·refine J1j U E set ?_
   ·have hq : J4 U E set = true := by
      unfold J4
      simpa only [Bool.not_eq_true', Bool.not_eq_false', Bool.not_not] using b2
    exact hq
  ·have hq : J4 U E set = true := by
     unfold J4
     simpa only [Bool.not_eq_true', Bool.not_eq_false', Bool.not_not] using b2
   unfold bwL
   rw [hq, Bool.true_and, Bool.eq_iff_iff]
   have := (Jq E set U.length).1.1
   simp
   omega
  have hq : J4 U E set = true := by
    unfold J4
    simpa only [Bool.not_eq_true', Bool.not_eq_false', Bool.not_not] using b2
  exact hq.symm
theorem J4j (U : ZI) (E : ZR) (set : ZI)  : PC Tryz.prog 36 [.agg [.sl (.ints U), .sl (.rows E)], .sl (.ints set)] (.tup [.d (.bool (bwL U E set)), .d (.bool (J4 U E set))]) :=
  pc_wf @Tryz.call36 fun hw => pc_by (by kernel_rfl) Tryz.func36 @Tryz.call36 (by kernel_rfl) J7x (J7v U E set) (by kernel_rfl) (J7i U E set hw.1.1 hw.1.2.1.1 hw.1.2.1.2 hw.2.1) (by kernel_rfl)
def J6q : List D → Orc := orcN [none, some .ints] fun ds => match ds with
  | [.agg [.sl (.ints U), .sl (.rows E)], .sl (.ints set)] => some (.tup [.d (.bool (bwL U E set)), .d (.bool (J4 U E set))])
  | _ => none
def JaO (f : FuncId) (ds : List D) : Orc := .no
def JaG (l : ZI) : Ann := .none
def J6v (l : ZI) : Prop :=
  ((0 : Nat) = 0) ∧ (True) ∧ ((0 + l.length) * 8 ≤ 140737488355328) ∧ (((0 + l.length) = ([] ++ l).length) ∧ ((([] ++ l) : ZI) = l))
theorem Jai (l : ZI) (hl : l.length ≤ 1048576) (w_l : (l.length : Int) ≤ 9223372036854775807) : J6v l := by
  unfold J6v
  refine ⟨rfl, trivial, ?_, ?_, ?_⟩
  ·omega
  ·(simp_all; done)
  rfl
theorem Jac (l : ZI) (hl : l.length ≤ 1048576) : PC Tryz.prog 98 [.sl (.ints l)] (.one (.d (.sl (.ints l)))) :=
  pc_wf @Tryz.call98 fun hw => pc_by (by kernel_rfl) Tryz.func98 @Tryz.call98 (by kernel_rfl) JaO (JaG l) (by kernel_rfl) (Jai l hl hw.1) (by kernel_rfl)
def swI (D : ZR) (n : Nat) (S : ZI) : Nat → ZI
  | 0 => S
  | c + 1 => swL (swI D n S c) (fd D (swI D n S c) n).1 (fd D (swI D n S c) n).2.1
def swG (D : ZR) (n : Nat) (S : ZI) (c : Nat) : Int := (fd D (swI D n S c) n).2.2
def swC (D : ZR) (n : Nat) (S : ZI) : Int := idxI (fun k : Int => decide (swG D n S k.toNat = 0)) (J3X 1000)
theorem JcV {S : ZI} {x y : Int} (ha : Asc S) (hx : x ∈ S) (hy : y ∉ S) : (swL S x y).length = S.length := by
  unfold swL
  rw [Jci (J71 ha) (fun h => hy (J0s.1 h).1)]
  exact Jcw ha hx
theorem JV {U : ZI} {D : ZR} {S : ZI} (ht : J4 U D S = true) : ∀ c : Nat, (∀ i, i < c → swG D U.length S i ≠ 0) →
    (J0 U D && J2 (swI D U.length S c) 0 ((U.length : Int) - 1) && decide (0 < (swI D U.length S c).length)) = true ∧ (swI D U.length S c).length = S.length ∧ J5 D (swI D U.length S c) + (c : Int) ≤ J5 D S
  | 0, _ => ⟨ht, rfl, by show J5 D S + ((0 : Nat) : Int) ≤ _; omega⟩
  | c + 1, h => by
    obtain ⟨i1, i2, i3⟩ := JV ht c fun i hi => h i (by omega)
    have hc := h c (by omega)
    obtain ⟨f1, f2⟩ := (Jq D (swI D U.length S c) U.length).1
    unfold swG at hc
    rcases f2 with f2 | ⟨f3, f4, f5, f6⟩
    · exact absurd f2 hc
    have ha := J0L (J7 i1).2.1
    refine ⟨J2O i1 _ f4, ?_, ?_⟩
    · show (swL _ _ _).length = _
      rw [JcV ha f3 f5, i2]
    show J5 D (swL _ _ _) + _ ≤ _
    unfold fdG at f6
    omega
def swE (U : ZI) (E : ZR) (set : ZI) : ZI := if J4 U E set = true then swI E U.length set (swC E U.length set).toNat else []
def swN (U : ZI) (E : ZR) (set : ZI) : Int := if J4 U E set = true then swC E U.length set else 0
theorem J7s {D : ZR} {n : Nat} {S : ZI} {c : Int} (h0 : 0 ≤ c) (hc : c < 1000) (h : ∀ i, i < c.toNat → swG D n S i ≠ 0) (hg : swG D n S c.toNat = 0) : c = swC D n S := by
  refine idx_found (p := fun k : Int => decide (swG D n S k.toNat = 0)) (d := 0) h0 (by rw [J4P]; omega) (fun k hk => ?_) ?_
  · rw [J43 (by omega), Int.toNat_natCast]
    exact decide_eq_false (h k hk)
  rw [J43 (by omega), Int.toNat_natCast]
  exact decide_eq_true hg
abbrev J17 (U : ZI) (E : ZR) (set : ZI) (now : ZI) (count : Int) : Prop := (0 ≤ count) ∧ (now = swI E U.length set count.toNat) ∧ (∀ i, i < count.toNat → swG E U.length set i ≠ 0)
abbrev J2y (U : ZI) (E : ZR) (set : ZI) (now : ZI) (count : Int) : Nat := (1000 - count).toNat
def J8j (f : FuncId) (ds : List D) : Orc := bif Nat.beq f 120 then J3d ds else bif Nat.beq f 121 then J4c ds else bif Nat.beq f 122 then J5y ds else .no
def J87 (U : ZI) (E : ZR) (set : ZI) : Ann := .two (.none) (.two (.two (.none) (.two (.two (.reg [(0, .frz)]) (.none)) (.none))) (.two (.reg [(1, .call none (.one (.d (.sl (.ints set)))))]) (.loop (cut2 (fun (now : ZI) (count : Int) => J17 U E set now count) (fun (now : ZI) (count : Int) => [(2, .ptr 2 0), (7, .d true (.sl (.ints now))), (8, .d true (.int .i64 count))]) (fun (now : ZI) (count : Int) => [(2, .box 27 [.d false (.sl (.ints U)), .d false (.sl (.rows E))])])) (fun g => J2y U E set g.1 g.2) (fun _ => .none))))
def J4J (U : ZI) (E : ZR) (set : ZI) : Prop :=
  (PC Tryz.prog 120 [.agg [.sl (.ints U), .sl (.rows E)], .sl (.ints set)] (.one (.d (.bool (J0 U E && J2 set 0 ((U.length : Int) - 1) && decide (0 < set.length)))))) ∧ (((!(J0 U E && J2 set 0 ((U.length : Int) - 1) && decide (0 < set.length))) = true → ((([] : ZI) = (swE U E set)) ∧ ((0 : Int) = (swN U E set)) ∧ (false = (J4 U E set)))) ∧ ((!(J0 U E && J2 set 0 ((U.length : Int) - 1) && decide (0 < set.length))) = false → (PC Tryz.prog 98 [.sl (.ints set)] (.one (.d (.sl (.ints set))))) ∧ ((∃ now' : ZI, ∃ count' : Int, (J17 U E set now' count') ∧ (set = now') ∧ ((0 : Int) = count') ∧ (U = U) ∧ (E = E)) ∧ (∀ now : ZI, ∀ count : Int, (J17 U E set now count) → (PC Tryz.prog 121 [.agg [.sl (.ints U), .sl (.rows E)], .sl (.ints now)] (.tup [.d (.int .i64 ((fd E now U.length).1)), .d (.int .i64 ((fd E now U.length).2.1)), .d (.int .i64 ((fd E now U.length).2.2))])) ∧ (((((fd E now U.length).2.2) == 0) = true → (((now : ZI) = (swE U E set)) ∧ (count = (swN U E set)) ∧ (true = (J4 U E set)))) ∧ ((((fd E now U.length).2.2) == 0) = false → (PC Tryz.prog 122 [.sl (.ints now), .int .i64 ((fd E now U.length).1), .int .i64 ((fd E now U.length).2.1)] (.one (.d (.sl (.ints (swL now ((fd E now U.length).1) ((fd E now U.length).2.1))))))) ∧ (I6 (count + 1)) ∧ (∃ now' : ZI, ∃ count' : Int, (J17 U E set now' count') ∧ (J2y U E set now' count' < J2y U E set now count) ∧ ((swL now ((fd E now U.length).1) ((fd E now U.length).2.1)) = now') ∧ ((count + 1) = count') ∧ (U = U) ∧ (E = E))))))))
theorem J7r (U : ZI) (E : ZR) (set : ZI)  (w_Open : (U.length : Int) ≤ 9223372036854775807) (w_Dist : (E.length : Int) ≤ 9223372036854775807) (v_Dist : ∀ x9 ∈ E, (x9.length : Int) ≤ 9223372036854775807) (w_set : (set.length : Int) ≤ 9223372036854775807) : J4J U E set := by
  unfold J4J
  refine ⟨J3K U E set, ?_, ?_⟩
  ·intro b1
   try simp only [Bool.not_eq_true', Bool.not_eq_false', Bool.not_not] at b1
   refine ⟨?_, ?_, ?_⟩
   ·have hq : J4 U E set = false := by
      unfold J4
      simpa only [Bool.not_eq_true', Bool.not_eq_false', Bool.not_not] using b1
    unfold swE; rw [hq]; rfl
   ·have hq : J4 U E set = false := by
      unfold J4
      simpa only [Bool.not_eq_true', Bool.not_eq_false', Bool.not_not] using b1
    unfold swN; rw [hq]; rfl
   have hq : J4 U E set = false := by
     unfold J4
     simpa only [Bool.not_eq_true', Bool.not_eq_false', Bool.not_not] using b1
   exact hq.symm
  intro b2
  try simp only [Bool.not_eq_true', Bool.not_eq_false', Bool.not_not] at b2
  refine ⟨?_, ?_, ?_⟩
  ·refine Jac set ?_
   ·have hq : J4 U E set = true := by
      unfold J4
      simpa only [Bool.not_eq_true', Bool.not_eq_false', Bool.not_not] using b2
    obtain ⟨hg0, hr0, hp0⟩ := J7 hq
    obtain ⟨g1, g2, g3⟩ := J9 hg0
    have := J18 hr0 (by omega)
    omega
  ·refine ⟨set, 0, ?_⟩
   refine ⟨?_, rfl, rfl, rfl, rfl⟩
   ·refine ⟨?_, ?_, ?_⟩
    ·omega
    ·rfl
    ·intro i hi; exact absurd hi (by simp)
  intro now count hJ
  obtain ⟨h1, h2, h3⟩ := hJ
  refine ⟨?_, ?_, ?_⟩
  ·refine J4F U E now ?_
   ·have hq : J4 U E set = true := by
      unfold J4
      simpa only [Bool.not_eq_true', Bool.not_eq_false', Bool.not_not] using b2
    obtain ⟨hg0, hr0, hp0⟩ := J7 hq
    obtain ⟨g1, g2, g3⟩ := J9 hg0
    obtain ⟨w1, w2, w3⟩ := JV hq count.toNat h3
    rw [← h2] at w1 w2 w3
    have s1 := J8 w1
    have s2 := J8 hq
    obtain ⟨f1, f2⟩ := Jq E now U.length
    exact w1
  ·intro b3
   try simp only [nrmT] at b3
   refine ⟨?_, ?_, ?_⟩
   ·have hq : J4 U E set = true := by
      unfold J4
      simpa only [Bool.not_eq_true', Bool.not_eq_false', Bool.not_not] using b2
    obtain ⟨hg0, hr0, hp0⟩ := J7 hq
    obtain ⟨g1, g2, g3⟩ := J9 hg0
    obtain ⟨w1, w2, w3⟩ := JV hq count.toNat h3
    rw [← h2] at w1 w2 w3
    have s1 := J8 w1
    have s2 := J8 hq
    obtain ⟨f1, f2⟩ := Jq E now U.length
    have hz : swG E U.length set count.toNat = 0 := by
      unfold swG
      rw [← h2]
      exact b3
    have he := J7s h1 (by omega) h3 hz
    unfold swE; rw [if_pos hq, ← he, ← h2]
   ·have hq : J4 U E set = true := by
      unfold J4
      simpa only [Bool.not_eq_true', Bool.not_eq_false', Bool.not_not] using b2
    obtain ⟨hg0, hr0, hp0⟩ := J7 hq
    obtain ⟨g1, g2, g3⟩ := J9 hg0
    obtain ⟨w1, w2, w3⟩ := JV hq count.toNat h3
    rw [← h2] at w1 w2 w3
    have s1 := J8 w1
    have s2 := J8 hq
    obtain ⟨f1, f2⟩ := Jq E now U.length
    have hz : swG E U.length set count.toNat = 0 := by
      unfold swG
      rw [← h2]
      exact b3
    have he := J7s h1 (by omega) h3 hz
    unfold swN; rw [if_pos hq]; exact he
   have hq : J4 U E set = true := by
     unfold J4
     simpa only [Bool.not_eq_true', Bool.not_eq_false', Bool.not_not] using b2
   obtain ⟨hg0, hr0, hp0⟩ := J7 hq
   obtain ⟨g1, g2, g3⟩ := J9 hg0
   exact hq.symm
  intro b4
  try simp only [nrmT] at b4
  refine ⟨?_, ?_, ?_⟩
  ·refine J6t now ((fd E now U.length).1) ((fd E now U.length).2.1) ?_
   ·have hq : J4 U E set = true := by
      unfold J4
      simpa only [Bool.not_eq_true', Bool.not_eq_false', Bool.not_not] using b2
    obtain ⟨hg0, hr0, hp0⟩ := J7 hq
    obtain ⟨g1, g2, g3⟩ := J9 hg0
    obtain ⟨w1, w2, w3⟩ := JV hq count.toNat h3
    rw [← h2] at w1 w2 w3
    have s1 := J8 w1
    have s2 := J8 hq
    obtain ⟨f1, f2⟩ := Jq E now U.length
    have := J18 (J7 w1).2.1 (by omega)
    omega
  ·have hq : J4 U E set = true := by
     unfold J4
     simpa only [Bool.not_eq_true', Bool.not_eq_false', Bool.not_not] using b2
   obtain ⟨hg0, hr0, hp0⟩ := J7 hq
   obtain ⟨g1, g2, g3⟩ := J9 hg0
   obtain ⟨w1, w2, w3⟩ := JV hq count.toNat h3
   rw [← h2] at w1 w2 w3
   have s1 := J8 w1
   have s2 := J8 hq
   obtain ⟨f1, f2⟩ := Jq E now U.length
   omega
  refine ⟨(swL now ((fd E now U.length).1) ((fd E now U.length).2.1)), (count + 1), ?_⟩
  refine ⟨?_, ?_, rfl, rfl, rfl, rfl⟩
  ·refine ⟨?_, ?_, ?_⟩
   ·omega
   ·rw [show (count + 1).toNat = count.toNat + 1 by omega]
    show _ = swL (swI E U.length set count.toNat) _ _
    rw [← h2]
   ·have hq : J4 U E set = true := by
      unfold J4
      simpa only [Bool.not_eq_true', Bool.not_eq_false', Bool.not_not] using b2
    obtain ⟨hg0, hr0, hp0⟩ := J7 hq
    obtain ⟨g1, g2, g3⟩ := J9 hg0
    obtain ⟨w1, w2, w3⟩ := JV hq count.toNat h3
    rw [← h2] at w1 w2 w3
    have s1 := J8 w1
    have s2 := J8 hq
    obtain ⟨f1, f2⟩ := Jq E now U.length
    have hgt : (fd E now U.length).2.2 ≠ 0 := by
      exact b4
    obtain ⟨f3, f4, f5, f6⟩ := f1.2.resolve_left hgt
    have ht1 := J7 w1
    have hmx := JC ht1.2.1 _ f3
    intro i hi
    by_cases e : i = count.toNat
    · rw [e]; unfold swG; rw [← h2]; exact hgt
    exact h3 i (by omega)
  have hq : J4 U E set = true := by
    unfold J4
    simpa only [Bool.not_eq_true', Bool.not_eq_false', Bool.not_not] using b2
  obtain ⟨hg0, hr0, hp0⟩ := J7 hq
  obtain ⟨g1, g2, g3⟩ := J9 hg0
  obtain ⟨w1, w2, w3⟩ := JV hq count.toNat h3
  rw [← h2] at w1 w2 w3
  have s1 := J8 w1
  have s2 := J8 hq
  obtain ⟨f1, f2⟩ := Jq E now U.length
  show (1000 - (count + 1)).toNat < (1000 - count).toNat
  omega
theorem J4s (U : ZI) (E : ZR) (set : ZI)  : PC Tryz.prog 31 [.agg [.sl (.ints U), .sl (.rows E)], .sl (.ints set)] (.tup [.d (.sl (.ints (swE U E set))), .d (.int .i64 (swN U E set)), .d (.bool (J4 U E set))]) :=
  pc_wf @Tryz.call31 fun hw => pc_by (by kernel_rfl) Tryz.func31 @Tryz.call31 (by kernel_rfl) J8j (J87 U E set) (by kernel_rfl) (J7r U E set hw.1.1 hw.1.2.1.1 hw.1.2.1.2 hw.2.1) (by kernel_rfl)
def J4k : List D → Orc := orcN [none, some .ints] fun ds => match ds with
  | [.agg [.sl (.ints U), .sl (.rows E)], .sl (.ints set)] => some (.tup [.d (.sl (.ints (swE U E set))), .d (.int .i64 (swN U E set)), .d (.bool (J4 U E set))])
  | _ => none
abbrev J1a (U : ZI) (E : ZR) (set : ZI) (now : ZI) (count : Int) : Prop := (0 ≤ count) ∧ (now = swI E U.length set count.toNat) ∧ (∀ i, i < count.toNat → swG E U.length set i ≠ 0)
abbrev J2x (U : ZI) (E : ZR) (set : ZI) (now : ZI) (count : Int) : Nat := (1000 - count).toNat
def J8E (f : FuncId) (ds : List D) : Orc := bif Nat.beq f 113 then J0Z ds else bif Nat.beq f 117 then J3U ds else bif Nat.beq f 118 then J19 ds else bif Nat.beq f 119 then J3C ds else .no
def J8v (U : ZI) (E : ZR) (set : ZI) : Ann := .two (.none) (.two (.none) (.two (.none) (.two (.none) (.loop (cut2 (fun (now : ZI) (count : Int) => J1a U E set now count) (fun (now : ZI) (count : Int) => [(2, .ptr 2 0), (7, .own 1000000 now.length), (8, .d true (.int .i64 count))]) (fun (now : ZI) (count : Int) => [(1000000, .arr true 3 (.ints now)), (2, .box 27 [.d false (.sl (.ints U)), .d false (.sl (.rows E))])])) (fun g => J2x U E set g.1 g.2) (fun _ => .none)))))
def J4H (U : ZI) (E : ZR) (set : ZI) : Prop :=
  (PC Tryz.prog 113 [.agg [.sl (.ints U), .sl (.rows E)], .sl (.ints set)] (.one (.d (.bool (J0 U E && J2 set 0 ((U.length : Int) - 1) && decide (0 < set.length)))))) ∧ (((!(J0 U E && J2 set 0 ((U.length : Int) - 1) && decide (0 < set.length))) = true → (((swE U E set).length = 0) ∧ ((0 : Int) = (swN U E set)) ∧ (false = (J4 U E set)))) ∧ ((!(J0 U E && J2 set 0 ((U.length : Int) - 1) && decide (0 < set.length))) = false → (PC Tryz.prog 117 [.sl (.ints set)] (.one (.own 3 (.ints set)))) ∧ ((∃ now' : ZI, ∃ count' : Int, (J1a U E set now' count') ∧ (set.length = now'.length) ∧ ((0 : Int) = count') ∧ (set = now') ∧ (U = U) ∧ (E = E)) ∧ (∀ now : ZI, ∀ count : Int, (J1a U E set now count) → (now.length = now.length) ∧ (PC Tryz.prog 118 [.agg [.sl (.ints U), .sl (.rows E)], .sl (.ints now)] (.tup [.d (.int .i64 ((fd E now U.length).1)), .d (.int .i64 ((fd E now U.length).2.1)), .d (.bool (decide ((fd E now U.length).2.2 > 0)))])) ∧ (((!(decide ((fd E now U.length).2.2 > 0))) = true → ((now.length = now.length) ∧ ((now : ZI) = swE U E set) ∧ (count = (swN U E set)) ∧ (true = (J4 U E set)))) ∧ ((!(decide ((fd E now U.length).2.2 > 0))) = false → (now.length = now.length) ∧ (PC Tryz.prog 119 [.sl (.ints now), .int .i64 ((fd E now U.length).1), .int .i64 ((fd E now U.length).2.1)] (.one (.own 3 (.ints (swL now ((fd E now U.length).1) ((fd E now U.length).2.1)))))) ∧ (I6 (count + 1)) ∧ (∃ now' : ZI, ∃ count' : Int, (J1a U E set now' count') ∧ (J2x U E set now' count' < J2x U E set now count) ∧ ((swL now ((fd E now U.length).1) ((fd E now U.length).2.1)).length = now'.length) ∧ ((count + 1) = count') ∧ (swL now ((fd E now U.length).1) ((fd E now U.length).2.1) = now') ∧ (U = U) ∧ (E = E))))))))
theorem J7k (U : ZI) (E : ZR) (set : ZI)  (w_Open : (U.length : Int) ≤ 9223372036854775807) (w_Dist : (E.length : Int) ≤ 9223372036854775807) (v_Dist : ∀ x9 ∈ E, (x9.length : Int) ≤ 9223372036854775807) (w_set : (set.length : Int) ≤ 9223372036854775807) : J4H U E set := by
  unfold J4H
  refine ⟨J1i U E set, ?_, ?_⟩
  ·intro b1
   try simp only [Bool.not_eq_true', Bool.not_eq_false', Bool.not_not] at b1
   refine ⟨?_, ?_, ?_⟩
   ·have hq : J4 U E set = false := by
      unfold J4
      simpa only [Bool.not_eq_true', Bool.not_eq_false', Bool.not_not] using b1
    unfold swE; rw [hq]; rfl
   ·have hq : J4 U E set = false := by
      unfold J4
      simpa only [Bool.not_eq_true', Bool.not_eq_false', Bool.not_not] using b1
    unfold swN; rw [hq]; rfl
   have hq : J4 U E set = false := by
     unfold J4
     simpa only [Bool.not_eq_true', Bool.not_eq_false', Bool.not_not] using b1
   exact hq.symm
  intro b2
  try simp only [Bool.not_eq_true', Bool.not_eq_false', Bool.not_not] at b2
  refine ⟨?_, ?_, ?_⟩
  ·refine J41 set ?_
   ·have hq : J4 U E set = true := by
      unfold J4
      simpa only [Bool.not_eq_true', Bool.not_eq_false', Bool.not_not] using b2
    obtain ⟨hg0, hr0, hp0⟩ := J7 hq
    obtain ⟨g1, g2, g3⟩ := J9 hg0
    have := J18 hr0 (by omega)
    omega
  ·refine ⟨set, 0, ?_⟩
   refine ⟨?_, rfl, rfl, rfl, rfl, rfl⟩
   ·refine ⟨?_, ?_, ?_⟩
    ·omega
    ·rfl
    ·intro i hi; exact absurd hi (by simp)
  intro now count hJ
  obtain ⟨h1, h2, h3⟩ := hJ
  refine ⟨rfl, ?_, ?_, ?_⟩
  ·refine J1j U E now ?_
   ·have hq : J4 U E set = true := by
      unfold J4
      simpa only [Bool.not_eq_true', Bool.not_eq_false', Bool.not_not] using b2
    obtain ⟨hg0, hr0, hp0⟩ := J7 hq
    obtain ⟨g1, g2, g3⟩ := J9 hg0
    obtain ⟨w1, w2, w3⟩ := JV hq count.toNat h3
    rw [← h2] at w1 w2 w3
    have s1 := J8 w1
    have s2 := J8 hq
    obtain ⟨f1, f2⟩ := Jq E now U.length
    exact w1
  ·intro b3
   try simp only [nrmT] at b3
   refine ⟨rfl, ?_, ?_, ?_⟩
   ·have hq : J4 U E set = true := by
      unfold J4
      simpa only [Bool.not_eq_true', Bool.not_eq_false', Bool.not_not] using b2
    obtain ⟨hg0, hr0, hp0⟩ := J7 hq
    obtain ⟨g1, g2, g3⟩ := J9 hg0
    obtain ⟨w1, w2, w3⟩ := JV hq count.toNat h3
    rw [← h2] at w1 w2 w3
    have s1 := J8 w1
    have s2 := J8 hq
    obtain ⟨f1, f2⟩ := Jq E now U.length
    have hz : swG E U.length set count.toNat = 0 := by
      unfold swG
      rw [← h2]
      (have := f1.1; omega)
    have he := J7s h1 (by omega) h3 hz
    unfold swE; rw [if_pos hq, ← he, ← h2]
   ·have hq : J4 U E set = true := by
      unfold J4
      simpa only [Bool.not_eq_true', Bool.not_eq_false', Bool.not_not] using b2
    obtain ⟨hg0, hr0, hp0⟩ := J7 hq
    obtain ⟨g1, g2, g3⟩ := J9 hg0
    obtain ⟨w1, w2, w3⟩ := JV hq count.toNat h3
    rw [← h2] at w1 w2 w3
    have s1 := J8 w1
    have s2 := J8 hq
    obtain ⟨f1, f2⟩ := Jq E now U.length
    have hz : swG E U.length set count.toNat = 0 := by
      unfold swG
      rw [← h2]
      (have := f1.1; omega)
    have he := J7s h1 (by omega) h3 hz
    unfold swN; rw [if_pos hq]; exact he
   have hq : J4 U E set = true := by
     unfold J4
     simpa only [Bool.not_eq_true', Bool.not_eq_false', Bool.not_not] using b2
   obtain ⟨hg0, hr0, hp0⟩ := J7 hq
   obtain ⟨g1, g2, g3⟩ := J9 hg0
   exact hq.symm
  intro b4
  try simp only [nrmT] at b4
  refine ⟨rfl, ?_, ?_, ?_⟩
  ·refine J4e now ((fd E now U.length).1) ((fd E now U.length).2.1) ?_ ?_ ?_ ?_
   ·have hq : J4 U E set = true := by
      unfold J4
      simpa only [Bool.not_eq_true', Bool.not_eq_false', Bool.not_not] using b2
    obtain ⟨hg0, hr0, hp0⟩ := J7 hq
    obtain ⟨g1, g2, g3⟩ := J9 hg0
    obtain ⟨w1, w2, w3⟩ := JV hq count.toNat h3
    rw [← h2] at w1 w2 w3
    have s1 := J8 w1
    have s2 := J8 hq
    obtain ⟨f1, f2⟩ := Jq E now U.length
    have hgt : (fd E now U.length).2.2 ≠ 0 := by
      (have := f1.1; omega)
    obtain ⟨f3, f4, f5, f6⟩ := f1.2.resolve_left hgt
    have ht1 := J7 w1
    have hmx := JC ht1.2.1 _ f3
    exact J0L ht1.2.1
   ·have hq : J4 U E set = true := by
      unfold J4
      simpa only [Bool.not_eq_true', Bool.not_eq_false', Bool.not_not] using b2
    obtain ⟨hg0, hr0, hp0⟩ := J7 hq
    obtain ⟨g1, g2, g3⟩ := J9 hg0
    obtain ⟨w1, w2, w3⟩ := JV hq count.toNat h3
    rw [← h2] at w1 w2 w3
    have s1 := J8 w1
    have s2 := J8 hq
    obtain ⟨f1, f2⟩ := Jq E now U.length
    have hgt : (fd E now U.length).2.2 ≠ 0 := by
      (have := f1.1; omega)
    obtain ⟨f3, f4, f5, f6⟩ := f1.2.resolve_left hgt
    have ht1 := J7 w1
    have hmx := JC ht1.2.1 _ f3
    intro x hx
    have := JC ht1.2.1 x hx
    omega
   ·have hq : J4 U E set = true := by
      unfold J4
      simpa only [Bool.not_eq_true', Bool.not_eq_false', Bool.not_not] using b2
    obtain ⟨hg0, hr0, hp0⟩ := J7 hq
    obtain ⟨g1, g2, g3⟩ := J9 hg0
    obtain ⟨w1, w2, w3⟩ := JV hq count.toNat h3
    rw [← h2] at w1 w2 w3
    have s1 := J8 w1
    have s2 := J8 hq
    obtain ⟨f1, f2⟩ := Jq E now U.length
    have hgt : (fd E now U.length).2.2 ≠ 0 := by
      (have := f1.1; omega)
    obtain ⟨f3, f4, f5, f6⟩ := f1.2.resolve_left hgt
    have ht1 := J7 w1
    have hmx := JC ht1.2.1 _ f3
    omega
   ·have hq : J4 U E set = true := by
      unfold J4
      simpa only [Bool.not_eq_true', Bool.not_eq_false', Bool.not_not] using b2
    obtain ⟨hg0, hr0, hp0⟩ := J7 hq
    obtain ⟨g1, g2, g3⟩ := J9 hg0
    obtain ⟨w1, w2, w3⟩ := JV hq count.toNat h3
    rw [← h2] at w1 w2 w3
    have s1 := J8 w1
    have s2 := J8 hq
    obtain ⟨f1, f2⟩ := Jq E now U.length
    have hgt : (fd E now U.length).2.2 ≠ 0 := by
      (have := f1.1; omega)
    obtain ⟨f3, f4, f5, f6⟩ := f1.2.resolve_left hgt
    have ht1 := J7 w1
    have hmx := JC ht1.2.1 _ f3
    omega
  ·have hq : J4 U E set = true := by
     unfold J4
     simpa only [Bool.not_eq_true', Bool.not_eq_false', Bool.not_not] using b2
   obtain ⟨hg0, hr0, hp0⟩ := J7 hq
   obtain ⟨g1, g2, g3⟩ := J9 hg0
   obtain ⟨w1, w2, w3⟩ := JV hq count.toNat h3
   rw [← h2] at w1 w2 w3
   have s1 := J8 w1
   have s2 := J8 hq
   obtain ⟨f1, f2⟩ := Jq E now U.length
   omega
  refine ⟨(swL now ((fd E now U.length).1) ((fd E now U.length).2.1)), (count + 1), ?_⟩
  refine ⟨?_, ?_, rfl, rfl, ?_, rfl, rfl⟩
  ·refine ⟨?_, ?_, ?_⟩
   ·omega
   ·rw [show (count + 1).toNat = count.toNat + 1 by omega]
    show _ = swL (swI E U.length set count.toNat) _ _
    rw [← h2]
   ·have hq : J4 U E set = true := by
      unfold J4
      simpa only [Bool.not_eq_true', Bool.not_eq_false', Bool.not_not] using b2
    obtain ⟨hg0, hr0, hp0⟩ := J7 hq
    obtain ⟨g1, g2, g3⟩ := J9 hg0
    obtain ⟨w1, w2, w3⟩ := JV hq count.toNat h3
    rw [← h2] at w1 w2 w3
    have s1 := J8 w1
    have s2 := J8 hq
    obtain ⟨f1, f2⟩ := Jq E now U.length
    have hgt : (fd E now U.length).2.2 ≠ 0 := by
      (have := f1.1; omega)
    obtain ⟨f3, f4, f5, f6⟩ := f1.2.resolve_left hgt
    have ht1 := J7 w1
    have hmx := JC ht1.2.1 _ f3
    intro i hi
    by_cases e : i = count.toNat
    · rw [e]; unfold swG; rw [← h2]; exact hgt
    exact h3 i (by omega)
  ·have hq : J4 U E set = true := by
     unfold J4
     simpa only [Bool.not_eq_true', Bool.not_eq_false', Bool.not_not] using b2
   obtain ⟨hg0, hr0, hp0⟩ := J7 hq
   obtain ⟨g1, g2, g3⟩ := J9 hg0
   obtain ⟨w1, w2, w3⟩ := JV hq count.toNat h3
   rw [← h2] at w1 w2 w3
   have s1 := J8 w1
   have s2 := J8 hq
   obtain ⟨f1, f2⟩ := Jq E now U.length
   show (1000 - (count + 1)).toNat < (1000 - count).toNat
   omega
  rfl
theorem J7O (U : ZI) (E : ZR) (set : ZI)  : PC Tryz.prog 30 [.agg [.sl (.ints U), .sl (.rows E)], .sl (.ints set)] (.tup [.own 3 (.ints (swE U E set)), .d (.int .i64 (swN U E set)), .d (.bool (J4 U E set))]) :=
  pc_wf @Tryz.call30 fun hw => pc_by (by kernel_rfl) Tryz.func30 @Tryz.call30 (by kernel_rfl) J8E (J8v U E set) (by kernel_rfl) (J7k U E set hw.1.1 hw.1.2.1.1 hw.1.2.1.2 hw.2.1) (by kernel_rfl)
def J6G : List D → Orc := orcN [none, some .ints] fun ds => match ds with
  | [.agg [.sl (.ints U), .sl (.rows E)], .sl (.ints set)] => some (.tup [.own 3 (.ints (swE U E set)), .d (.int .i64 (swN U E set)), .d (.bool (J4 U E set))])
  | _ => none
abbrev J1z (code : List Nat) (c1 : Cur) (Oz : ZI) (Dz : ZR) : Prop := (okC c1 9000000) ∧ (Oz.length ≤ 8) ∧ (Dz.length ≤ 8)
abbrev J2C (code : List Nat) (O : ZI) (Ds : ZR) (ss : ZI) : Prop := True
def J2p (code : List Nat) : Ex := ex3 0 (fun (O : ZI) (Ds : ZR) (ss : ZI) => J2C code O Ds ss) (fun (O : ZI) (Ds : ZR) (ss : ZI) => []) (fun (O : ZI) (Ds : ZR) (ss : ZI) => .tup [.d (.agg [.sl (.ints O), .sl (.rows Ds)]), .d (.sl (.ints ss))])
def J6U (f : FuncId) (ds : List D) : Orc := .no
def J6T (code : List Nat) : Ann := .two (.none) (.two (.none) (.cut (.exr (.ex [] 1 (J0y code J36) (fun g => (fun (Or2 : ZI) (Dr2 : ZR) (cmr2 : Cur) => .ms [] []) (g.1) (g.2.1) (g.2.2)))) (cut3 (fun (c1 : Cur) (Oz : ZI) (Dz : ZR) => J1z code c1 Oz Dz) (fun (c1 : Cur) (Oz : ZI) (Dz : ZR) => [(2, .ptr 2 0), (4, .ptr 8 0), (5, .ptr 5 0)]) (fun (c1 : Cur) (Oz : ZI) (Dz : ZR) => [(2, .box 27 [.d true (.nil), .d true (.nil)]), (8, .box 76 [.d false (.sl (.bytes code)), .d true (.int .i64 c1.pos), .d true (.int .u64 c1.seed)]), (5, .box 27 [.d true (.sl (.ints Oz)), .d true (.sl (.rows Dz))])])) (fun g => (fun (c1 : Cur) (Oz : ZI) (Dz : ZR) => .two (.reg [(3, .cell [.int .i64 ((siC code c1 Oz.length).pos), .int .u64 ((siC code c1 Oz.length).seed)] (.one (.own 3 (.ints (siE code c1 Oz.length)))))]) (.none)) (g.1) (g.2.1) (g.2.2))))
def J4h (code : List Nat) : Prop :=
  (((PKE Tryz.prog 91 76 (.sl (.bytes code)) [.int .i64 0, .int .u64 0] [] (J0y code J36)) ∧ (∀ Or2 : ZI, ∀ Dr2 : ZR, ∀ cmr2 : Cur, J04 code J36 Or2 Dr2 cmr2 → ((true = true) ∧ (∃ c1' : Cur, ∃ Oz' : ZI, ∃ Dz' : ZR, (J1z code c1' Oz' Dz') ∧ (code = code) ∧ (cmr2.pos = c1'.pos) ∧ (cmr2.seed = c1'.seed) ∧ (Or2 = Oz') ∧ (Dr2 = Dz'))))) ∧ (∀ c1 : Cur, ∀ Oz : ZI, ∀ Dz : ZR, (J1z code c1 Oz Dz) → (true = true) ∧ (PK Tryz.prog 123 76 (.sl (.bytes code)) [.int .i64 c1.pos, .int .u64 c1.seed] [.int .i64 ((siC code c1 Oz.length).pos), .int .u64 ((siC code c1 Oz.length).seed)] [.agg [.sl (.ints Oz), .sl (.rows Dz)]] (.one (.own 3 (.ints (siE code c1 Oz.length))))) ∧ (∃ O' : ZI, ∃ Ds' : ZR, ∃ ss' : ZI, (J2C code O' Ds' ss') ∧ ((.agg [.sl (.ints Oz), .sl (.rows Dz)] : D) = .agg [.sl (.ints O'), .sl (.rows Ds')]) ∧ ((siE code c1 Oz.length).length = (siE code c1 Oz.length).length) ∧ ((siE code c1 Oz.length : ZI) = ss'))))
theorem J6i (code : List Nat) (hb : ∀ x9 ∈ code, x9 < 256) (w_code : (code.length : Int) ≤ 9223372036854775807) : J4h code := by
  unfold J4h
  refine ⟨?_, ?_⟩
  ·refine ⟨?_, ?_⟩
   ·refine J3t code J36 ?_ ?_
    ·exact hb
    ·exact J6 J6Q (by omega)
   ·intro Or2 Dr2 cmr2 hQ9
    obtain ⟨f1r2, f2r2, f3r2⟩ := hQ9
    refine ⟨rfl, ?_⟩
    ·refine ⟨cmr2, Or2, Dr2, ?_⟩
     refine ⟨?_, rfl, rfl, rfl, rfl, rfl⟩
     ·refine ⟨?_, ?_, ?_⟩
      ·exact J6 (by assumption) (by omega)
      ·assumption
      ·assumption
  intro c1 Oz Dz hJ
  obtain ⟨q1, q2, q3⟩ := hJ
  refine ⟨rfl, ?_, ?_⟩
  ·refine J2q code c1 Oz Dz ?_ ?_
   ·exact hb
   ·exact J6 (by assumption) (by omega)
  refine ⟨Oz, Dz, siE code c1 Oz.length, ?_⟩
  refine ⟨?_, rfl, rfl, rfl⟩
  ·trivial
theorem J6e (code : List Nat) (hb : ∀ x9 ∈ code, x9 < 256) : PE Tryz.prog 116 [.sl (.bytes code)] (J2p code) :=
  pe_wf @Tryz.call116 fun hw => pe_by (by kernel_rfl) Tryz.func116 @Tryz.call116 (by kernel_rfl) J6U (J6T code) (by kernel_rfl) (J6i code hb hw.1) (by kernel_rfl)
abbrev J1w (code : List Nat) (O : ZI) (Ds : ZR) (ss : ZI) : Prop := True
def J1u (code : List Nat) : Ex := ex3 0 (fun (O : ZI) (Ds : ZR) (ss : ZI) => J1w code O Ds ss) (fun (O : ZI) (Ds : ZR) (ss : ZI) => []) (fun (O : ZI) (Ds : ZR) (ss : ZI) => .tup [.d (.agg [.sl (.ints O), .sl (.rows Ds)]), .d (.sl (.ints ss))])
def J5F (f : FuncId) (ds : List D) : Orc := .no
def J5k (code : List Nat) : Ann := .two (.none) (.two (.exr (.ex [] 1 (J2p code) (fun g => (fun (Or1 : ZI) (Dsr1 : ZR) (ssr1 : ZI) => .ms [] []) (g.1) (g.2.1) (g.2.2)))) (.none))
def J3v (code : List Nat) : Prop :=
  (PE Tryz.prog 116 [.sl (.bytes code)] (J2p code)) ∧ (∀ Or1 : ZI, ∀ Dsr1 : ZR, ∀ ssr1 : ZI, J2C code Or1 Dsr1 ssr1 → ((true = true) ∧ (∃ O' : ZI, ∃ Ds' : ZR, ∃ ss' : ZI, (J1w code O' Ds' ss') ∧ ((.agg [.sl (.ints Or1), .sl (.rows Dsr1)] : D) = .agg [.sl (.ints O'), .sl (.rows Ds')]) ∧ ((ssr1 : ZI) = ss'))))
theorem J59 (code : List Nat) (hb : ∀ x9 ∈ code, x9 < 256) (w_code : (code.length : Int) ≤ 9223372036854775807) : J3v code := by
  unfold J3v
  refine ⟨?_, ?_⟩
  ·refine J6e code ?_
   ·exact hb
  intro Or1 Dsr1 ssr1 hQ9
  refine ⟨rfl, ?_⟩
  ·refine ⟨Or1, Dsr1, ssr1, ?_⟩
   refine ⟨?_, rfl, rfl⟩
   ·trivial
theorem J5d (code : List Nat) (hb : ∀ x9 ∈ code, x9 < 256) : PE Tryz.prog 29 [.sl (.bytes code)] (J1u code) :=
  pe_wf @Tryz.call29 fun hw => pe_by (by kernel_rfl) Tryz.func29 @Tryz.call29 (by kernel_rfl) J5F (J5k code) (by kernel_rfl) (J59 code hb hw.1) (by kernel_rfl)
abbrev J12 (code : List Nat) (c1 : Cur) (Oz : ZI) (Dz : ZR) : Prop := (okC c1 9000000) ∧ (Oz.length ≤ 8) ∧ (Dz.length ≤ 8)
abbrev J08 (code : List Nat) (c1 : Cur) (Oz : ZI) (Dz : ZR) (s1 : ZI) (c2 : Cur) : Prop := (okC c2 9000100)
abbrev J0X (code : List Nat) (c1 : Cur) (Oz : ZI) (Dz : ZR) (s1 : ZI) (c2 : Cur) (gd : Bool) : Prop := True
abbrev J0D (code : List Nat) (O : ZI) (Ds : ZR) (ss : ZI) : Prop := True
def J1n (code : List Nat) : Ex := ex3 0 (fun (O : ZI) (Ds : ZR) (ss : ZI) => J0D code O Ds ss) (fun (O : ZI) (Ds : ZR) (ss : ZI) => []) (fun (O : ZI) (Ds : ZR) (ss : ZI) => .tup [.d (.agg [.sl (.ints O), .sl (.rows Ds)]), .d (.sl (.ints ss))])
def J55 (f : FuncId) (ds : List D) : Orc := bif Nat.beq f 31 then J4k ds else .no
def J57 (code : List Nat) : Ann := .two (.none) (.two (.none) (.cut (.exr (.ex [] 1 (J0y code J36) (fun g => (fun (Or2 : ZI) (Dr2 : ZR) (cmr2 : Cur) => .ms [] []) (g.1) (g.2.1) (g.2.2)))) (cut3 (fun (c1 : Cur) (Oz : ZI) (Dz : ZR) => J12 code c1 Oz Dz) (fun (c1 : Cur) (Oz : ZI) (Dz : ZR) => [(2, .ptr 2 0), (4, .ptr 12 0), (5, .ptr 5 0)]) (fun (c1 : Cur) (Oz : ZI) (Dz : ZR) => [(2, .box 27 [.d true (.nil), .d true (.nil)]), (12, .box 76 [.d false (.sl (.bytes code)), .d true (.int .i64 c1.pos), .d true (.int .u64 c1.seed)]), (5, .box 27 [.d true (.sl (.ints Oz)), .d true (.sl (.rows Dz))])])) (fun g => (fun (c1 : Cur) (Oz : ZI) (Dz : ZR) => .cut (.mark [] [(2, .cell [.int .i64 ((siC code c1 Oz.length).pos), .int .u64 ((siC code c1 Oz.length).seed)] (.one (.own 3 (.ints (siE code c1 Oz.length)))))]) (cut2 (fun (s1 : ZI) (c2 : Cur) => J08 code c1 Oz Dz s1 c2) (fun (s1 : ZI) (c2 : Cur) => [(2, .ptr 2 0), (4, .ptr 12 0), (5, .ptr 5 0), (6, .own 1500300 s1.length)]) (fun (s1 : ZI) (c2 : Cur) => [(1500300, .arr true 3 (.ints s1)), (2, .box 27 [.d true (.nil), .d true (.nil)]), (12, .box 76 [.d false (.sl (.bytes code)), .d true (.int .i64 c2.pos), .d true (.int .u64 c2.seed)]), (5, .box 27 [.d true (.sl (.ints Oz)), .d true (.sl (.rows Dz))])])) (fun g => (fun (s1 : ZI) (c2 : Cur) => .two (.two (.none) (.cut (.mark [] [(3, .cell [.int .i64 ((J1 code c2 2).pos), .int .u64 ((J1 code c2 2).seed)] (.one (.d (.bool (J3 code c2 2 == 0)))))]) (cut1 (fun (gd : Bool) => J0X code c1 Oz Dz s1 c2 gd) (fun (gd : Bool) => [(2, .ptr 2 0), (5, .ptr 5 0), (6, .own 1500300 s1.length), (7, .d true (.sl (.ints (swE Oz Dz s1)))), (29, .d true (.bool gd))]) (fun (gd : Bool) => [(2, .box 27 [.d true (.nil), .d true (.nil)]), (5, .box 27 [.d true (.sl (.ints Oz)), .d true (.sl (.rows Dz))]), (1500300, .arr true 3 (.ints s1))])) (fun _ => .none))) (.none)) (g.1) (g.2))) (g.1) (g.2.1) (g.2.2))))
def J33 (code : List Nat) : Prop :=
  (((PKE Tryz.prog 91 76 (.sl (.bytes code)) [.int .i64 0, .int .u64 0] [] (J0y code J36)) ∧ (∀ Or2 : ZI, ∀ Dr2 : ZR, ∀ cmr2 : Cur, J04 code J36 Or2 Dr2 cmr2 → ((true = true) ∧ (∃ c1' : Cur, ∃ Oz' : ZI, ∃ Dz' : ZR, (J12 code c1' Oz' Dz') ∧ (code = code) ∧ (cmr2.pos = c1'.pos) ∧ (cmr2.seed = c1'.seed) ∧ (Or2 = Oz') ∧ (Dr2 = Dz'))))) ∧ (∀ c1 : Cur, ∀ Oz : ZI, ∀ Dz : ZR, (J12 code c1 Oz Dz) → (((PK Tryz.prog 123 76 (.sl (.bytes code)) [.int .i64 c1.pos, .int .u64 c1.seed] [.int .i64 ((siC code c1 Oz.length).pos), .int .u64 ((siC code c1 Oz.length).seed)] [.agg [.sl (.ints Oz), .sl (.rows Dz)]] (.one (.own 3 (.ints (siE code c1 Oz.length))))) ∧ (∃ s1' : ZI, ∃ c2' : Cur, (J08 code c1 Oz Dz s1' c2') ∧ ((siE code c1 Oz.length).length = s1'.length) ∧ (siE code c1 Oz.length = s1') ∧ (code = code) ∧ ((siC code c1 Oz.length).pos = c2'.pos) ∧ ((siC code c1 Oz.length).seed = c2'.seed) ∧ (Oz = Oz) ∧ (Dz = Dz))) ∧ (∀ s1 : ZI, ∀ c2 : Cur, (J08 code c1 Oz Dz s1 c2) → (s1.length = s1.length) ∧ (PC Tryz.prog 31 [.agg [.sl (.ints Oz), .sl (.rows Dz)], .sl (.ints s1)] (.tup [.d (.sl (.ints (swE Oz Dz s1))), .d (.int .i64 (swN Oz Dz s1)), .d (.bool (J4 Oz Dz s1))])) ∧ ((((J4 Oz Dz s1) = true → (J4 Oz Dz s1) = true) ∧ ((J4 Oz Dz s1) = true → PK Tryz.prog 124 76 (.sl (.bytes code)) [.int .i64 c2.pos, .int .u64 c2.seed] [.int .i64 ((J1 code c2 2).pos), .int .u64 ((J1 code c2 2).seed)] [.int .i64 2] (.one (.d (.bool (J3 code c2 2 == 0))))) ∧ (true = true) ∧ (((J4 Oz Dz s1) = true → (J4 Oz Dz s1) = true)) ∧ (((J4 Oz Dz s1) = false → true = true)) ∧ (∃ gd' : Bool, (J0X code c1 Oz Dz s1 c2 gd') ∧ (s1.length = s1.length) ∧ ((swE Oz Dz s1) = (swE Oz Dz s1)) ∧ ((cond (J4 Oz Dz s1) (J3 code c2 2 == 0) false) = gd') ∧ (Oz = Oz) ∧ (Dz = Dz) ∧ (s1 = s1))) ∧ (∀ gd : Bool, (J0X code c1 Oz Dz s1 c2 gd) → ((gd = true → (∃ O' : ZI, ∃ Ds' : ZR, ∃ ss' : ZI, (J0D code O' Ds' ss') ∧ ((.agg [.sl (.ints Oz), .sl (.rows Dz)] : D) = .agg [.sl (.ints O'), .sl (.rows Ds')]) ∧ (((swE Oz Dz s1) : ZI) = ss'))) ∧ (gd = false → (∃ O' : ZI, ∃ Ds' : ZR, ∃ ss' : ZI, (J0D code O' Ds' ss') ∧ ((.agg [.sl (.ints Oz), .sl (.rows Dz)] : D) = .agg [.sl (.ints O'), .sl (.rows Ds')]) ∧ (s1.length = s1.length) ∧ ((s1 : ZI) = ss'))))))))))
theorem J4X (code : List Nat) (hb : ∀ x9 ∈ code, x9 < 256) (w_code : (code.length : Int) ≤ 9223372036854775807) : J33 code := by
  unfold J33
  refine ⟨?_, ?_⟩
  ·refine ⟨?_, ?_⟩
   ·refine J3t code J36 ?_ ?_
    ·exact hb
    ·exact J6 J6Q (by omega)
   ·intro Or2 Dr2 cmr2 hQ9
    obtain ⟨f1r2, f2r2, f3r2⟩ := hQ9
    refine ⟨rfl, ?_⟩
    ·refine ⟨cmr2, Or2, Dr2, ?_⟩
     refine ⟨?_, rfl, rfl, rfl, rfl, rfl⟩
     ·refine ⟨?_, ?_, ?_⟩
      ·exact J6 (by assumption) (by omega)
      ·assumption
      ·assumption
  intro c1 Oz Dz hJ
  obtain ⟨q1, q2, q3⟩ := hJ
  refine ⟨?_, ?_⟩
  ·refine ⟨?_, ?_⟩
   ·refine J2q code c1 Oz Dz ?_ ?_
    ·exact hb
    ·exact J6 (by assumption) (by omega)
   ·refine ⟨(siE code c1 Oz.length), (siC code c1 Oz.length), ?_⟩
    refine ⟨?_, rfl, ?_, rfl, rfl, rfl, rfl, rfl⟩
    ·unfold J08
     exact J6 (JcD (by assumption)) (by omega)
    rfl
  intro s1 c2 hJ
  have q4 := hJ
  refine ⟨rfl, J4s Oz Dz s1, ?_, ?_⟩
  ·refine ⟨id, ?_, rfl, id, fun _ => rfl, ?_⟩
   ·intro hg
    refine J0W code c2 2 ?_ ?_
    ·exact hb
    exact J6 (by assumption) (by omega)
   ·refine ⟨(cond (J4 Oz Dz s1) (J3 code c2 2 == 0) false), ?_⟩
    refine ⟨?_, rfl, rfl, rfl, rfl, rfl, rfl⟩
    ·trivial
  intro gd hJ
  refine ⟨?_, ?_⟩
  ·intro b1
   refine ⟨Oz, Dz, (swE Oz Dz s1), ?_⟩
   refine ⟨?_, rfl, rfl⟩
   ·trivial
  intro b2
  refine ⟨Oz, Dz, s1, ?_⟩
  refine ⟨?_, rfl, rfl, rfl⟩
  ·trivial
theorem J4Q (code : List Nat) (hb : ∀ x9 ∈ code, x9 < 256) : PE Tryz.prog 35 [.sl (.bytes code)] (J1n code) :=
  pe_wf @Tryz.call35 fun hw => pe_by (by kernel_rfl) Tryz.func35 @Tryz.call35 (by kernel_rfl) J55 (J57 code) (by kernel_rfl) (J4X code hb hw.1) (by kernel_rfl)
abbrev J1o (code : List Nat) (c1 : Cur) (Oz : ZI) (Dz : ZR) : Prop := (okC c1 8000000) ∧ (Oz.length ≤ 8) ∧ (Dz.length ≤ 8)
abbrev J0B (code : List Nat) (c1 : Cur) (Oz : ZI) (Dz : ZR) (s1 : ZI) (c2 : Cur) : Prop := (okC c2 9000100)
abbrev J21 (code : List Nat) (O : ZI) (Ds : ZR) (ss : ZI) (xx : Int) (yy : Int) : Prop := True
def J26 (code : List Nat) : Ex := ex5 0 (fun (O : ZI) (Ds : ZR) (ss : ZI) (xx : Int) (yy : Int) => J21 code O Ds ss xx yy) (fun (O : ZI) (Ds : ZR) (ss : ZI) (xx : Int) (yy : Int) => []) (fun (O : ZI) (Ds : ZR) (ss : ZI) (xx : Int) (yy : Int) => .tup [.d (.agg [.sl (.ints O), .sl (.rows Ds)]), .d (.sl (.ints ss)), .d (.int .i64 xx), .d (.int .i64 yy)])
def J6r (f : FuncId) (ds : List D) : Orc := .no
def J6o (code : List Nat) : Ann := .two (.none) (.two (.none) (.cut (.exr (.ex [] 1 (J0N code J36) (fun g => (fun (Or2 : ZI) (Dr2 : ZR) (clr2 : Cur) => .ms [] []) (g.1) (g.2.1) (g.2.2)))) (cut3 (fun (c1 : Cur) (Oz : ZI) (Dz : ZR) => J1o code c1 Oz Dz) (fun (c1 : Cur) (Oz : ZI) (Dz : ZR) => [(2, .ptr 2 0), (6, .ptr 11 0), (7, .ptr 7 0)]) (fun (c1 : Cur) (Oz : ZI) (Dz : ZR) => [(2, .box 27 [.d true (.nil), .d true (.nil)]), (11, .box 76 [.d false (.sl (.bytes code)), .d true (.int .i64 c1.pos), .d true (.int .u64 c1.seed)]), (7, .box 27 [.d true (.sl (.ints Oz)), .d true (.sl (.rows Dz))])])) (fun g => (fun (c1 : Cur) (Oz : ZI) (Dz : ZR) => .cut (.mark [] [(2, .cell [.int .i64 ((siC code c1 Oz.length).pos), .int .u64 ((siC code c1 Oz.length).seed)] (.one (.own 3 (.ints (siE code c1 Oz.length)))))]) (cut2 (fun (s1 : ZI) (c2 : Cur) => J0B code c1 Oz Dz s1 c2) (fun (s1 : ZI) (c2 : Cur) => [(2, .ptr 2 0), (6, .ptr 11 0), (7, .ptr 7 0), (8, .own 1500300 s1.length)]) (fun (s1 : ZI) (c2 : Cur) => [(1500300, .arr true 3 (.ints s1)), (2, .box 27 [.d true (.nil), .d true (.nil)]), (11, .box 76 [.d false (.sl (.bytes code)), .d true (.int .i64 c2.pos), .d true (.int .u64 c2.seed)]), (7, .box 27 [.d true (.sl (.ints Oz)), .d true (.sl (.rows Dz))])])) (fun g => (fun (s1 : ZI) (c2 : Cur) => .two (.reg [(3, .cell [.int .i64 ((J1 code c2 8).pos), .int .u64 ((J1 code c2 8).seed)] (.one (.d (.int .i64 (J3 code c2 8))))), (5, .cell [.int .i64 ((J1 code (J1 code c2 8) 2).pos), .int .u64 ((J1 code (J1 code c2 8) 2).seed)] (.one (.d (.int .i64 (J3 code (J1 code c2 8) 2))))), (8, .cell [.int .i64 ((J1 code (J1 code (J1 code c2 8) 2) 8).pos), .int .u64 ((J1 code (J1 code (J1 code c2 8) 2) 8).seed)] (.one (.d (.int .i64 (J3 code (J1 code (J1 code c2 8) 2) 8))))), (10, .cell [.int .i64 ((J1 code (J1 code (J1 code (J1 code c2 8) 2) 8) 2).pos), .int .u64 ((J1 code (J1 code (J1 code (J1 code c2 8) 2) 8) 2).seed)] (.one (.d (.int .i64 (J3 code (J1 code (J1 code (J1 code c2 8) 2) 8) 2)))))]) (.none)) (g.1) (g.2))) (g.1) (g.2.1) (g.2.2))))
def J3F (code : List Nat) : Prop :=
  (((PKE Tryz.prog 133 76 (.sl (.bytes code)) [.int .i64 0, .int .u64 0] [] (J0N code J36)) ∧ (∀ Or2 : ZI, ∀ Dr2 : ZR, ∀ clr2 : Cur, J1r code J36 Or2 Dr2 clr2 → ((true = true) ∧ (∃ c1' : Cur, ∃ Oz' : ZI, ∃ Dz' : ZR, (J1o code c1' Oz' Dz') ∧ (code = code) ∧ (clr2.pos = c1'.pos) ∧ (clr2.seed = c1'.seed) ∧ (Or2 = Oz') ∧ (Dr2 = Dz'))))) ∧ (∀ c1 : Cur, ∀ Oz : ZI, ∀ Dz : ZR, (J1o code c1 Oz Dz) → (((PK Tryz.prog 123 76 (.sl (.bytes code)) [.int .i64 c1.pos, .int .u64 c1.seed] [.int .i64 ((siC code c1 Oz.length).pos), .int .u64 ((siC code c1 Oz.length).seed)] [.agg [.sl (.ints Oz), .sl (.rows Dz)]] (.one (.own 3 (.ints (siE code c1 Oz.length))))) ∧ (∃ s1' : ZI, ∃ c2' : Cur, (J0B code c1 Oz Dz s1' c2') ∧ ((siE code c1 Oz.length).length = s1'.length) ∧ (siE code c1 Oz.length = s1') ∧ (code = code) ∧ ((siC code c1 Oz.length).pos = c2'.pos) ∧ ((siC code c1 Oz.length).seed = c2'.seed) ∧ (Oz = Oz) ∧ (Dz = Dz))) ∧ (∀ s1 : ZI, ∀ c2 : Cur, (J0B code c1 Oz Dz s1 c2) → (true = true) ∧ (PK Tryz.prog 156 76 (.sl (.bytes code)) [.int .i64 c2.pos, .int .u64 c2.seed] [.int .i64 ((J1 code c2 8).pos), .int .u64 ((J1 code c2 8).seed)] [.int .i64 8] (.one (.d (.int .i64 (J3 code c2 8))))) ∧ (PK Tryz.prog 156 76 (.sl (.bytes code)) [.int .i64 ((J1 code c2 8).pos), .int .u64 ((J1 code c2 8).seed)] [.int .i64 ((J1 code (J1 code c2 8) 2).pos), .int .u64 ((J1 code (J1 code c2 8) 2).seed)] [.int .i64 2] (.one (.d (.int .i64 (J3 code (J1 code c2 8) 2))))) ∧ (I6 ((J3 code c2 8) - (J3 code (J1 code c2 8) 2))) ∧ (PK Tryz.prog 156 76 (.sl (.bytes code)) [.int .i64 ((J1 code (J1 code c2 8) 2).pos), .int .u64 ((J1 code (J1 code c2 8) 2).seed)] [.int .i64 ((J1 code (J1 code (J1 code c2 8) 2) 8).pos), .int .u64 ((J1 code (J1 code (J1 code c2 8) 2) 8).seed)] [.int .i64 8] (.one (.d (.int .i64 (J3 code (J1 code (J1 code c2 8) 2) 8))))) ∧ (PK Tryz.prog 156 76 (.sl (.bytes code)) [.int .i64 ((J1 code (J1 code (J1 code c2 8) 2) 8).pos), .int .u64 ((J1 code (J1 code (J1 code c2 8) 2) 8).seed)] [.int .i64 ((J1 code (J1 code (J1 code (J1 code c2 8) 2) 8) 2).pos), .int .u64 ((J1 code (J1 code (J1 code (J1 code c2 8) 2) 8) 2).seed)] [.int .i64 2] (.one (.d (.int .i64 (J3 code (J1 code (J1 code (J1 code c2 8) 2) 8) 2))))) ∧ (I6 ((J3 code (J1 code (J1 code c2 8) 2) 8) - (J3 code (J1 code (J1 code (J1 code c2 8) 2) 8) 2))) ∧ (∃ O' : ZI, ∃ Ds' : ZR, ∃ ss' : ZI, ∃ xx' : Int, ∃ yy' : Int, (J21 code O' Ds' ss' xx' yy') ∧ ((.agg [.sl (.ints Oz), .sl (.rows Dz)] : D) = .agg [.sl (.ints O'), .sl (.rows Ds')]) ∧ (s1.length = s1.length) ∧ ((s1 : ZI) = ss') ∧ (((J3 code c2 8) - (J3 code (J1 code c2 8) 2)) = xx') ∧ (((J3 code (J1 code (J1 code c2 8) 2) 8) - (J3 code (J1 code (J1 code (J1 code c2 8) 2) 8) 2)) = yy'))))))
theorem J5q (code : List Nat) (hb : ∀ x9 ∈ code, x9 < 256) (w_code : (code.length : Int) ≤ 9223372036854775807) : J3F code := by
  unfold J3F
  refine ⟨?_, ?_⟩
  ·refine ⟨?_, ?_⟩
   ·refine J3G code J36 ?_ ?_
    ·exact hb
    ·exact J6 J6Q (by omega)
   ·intro Or2 Dr2 clr2 hQ9
    obtain ⟨f1r2, f2r2, f3r2⟩ := hQ9
    refine ⟨rfl, ?_⟩
    ·refine ⟨clr2, Or2, Dr2, ?_⟩
     refine ⟨?_, rfl, rfl, rfl, rfl, rfl⟩
     ·refine ⟨?_, ?_, ?_⟩
      ·exact J6 (by assumption) (by omega)
      ·assumption
      ·assumption
  intro c1 Oz Dz hJ
  obtain ⟨q1, q2, q3⟩ := hJ
  refine ⟨?_, ?_⟩
  ·refine ⟨?_, ?_⟩
   ·refine J2q code c1 Oz Dz ?_ ?_
    ·exact hb
    ·exact J6 (by assumption) (by omega)
   ·refine ⟨(siE code c1 Oz.length), (siC code c1 Oz.length), ?_⟩
    refine ⟨?_, rfl, ?_, rfl, rfl, rfl, rfl, rfl⟩
    ·unfold J0B
     exact J6 (JcD (by assumption)) (by omega)
    rfl
  intro s1 c2 hJ
  have q4 := hJ
  refine ⟨rfl, ?_, ?_, ?_, ?_, ?_, ?_, ?_⟩
  ·refine Jg code c2 8 ?_ ?_
   ·exact hb
   ·exact J6 (by assumption) (by omega)
  ·refine Jg code (J1 code c2 8) 2 ?_ ?_
   ·exact hb
   ·exact J6 (Jb (by assumption)) (by omega)
  ·have v1 := Jn code c2 (n := 8) (by omega)
   have v2 := Jn code (J1 code c2 8) (n := 2) (by omega)
   have v3 := Jn code (J1 code (J1 code c2 8) 2) (n := 8) (by omega)
   have v4 := Jn code (J1 code (J1 code (J1 code c2 8) 2) 8) (n := 2) (by omega)
   omega
  ·refine Jg code (J1 code (J1 code c2 8) 2) 8 ?_ ?_
   ·exact hb
   ·exact J6 (by repeat (first | assumption | apply Jb)) (by omega)
  ·refine Jg code (J1 code (J1 code (J1 code c2 8) 2) 8) 2 ?_ ?_
   ·exact hb
   ·exact J6 (by repeat (first | assumption | apply Jb)) (by omega)
  ·have v1 := Jn code c2 (n := 8) (by omega)
   have v2 := Jn code (J1 code c2 8) (n := 2) (by omega)
   have v3 := Jn code (J1 code (J1 code c2 8) 2) (n := 8) (by omega)
   have v4 := Jn code (J1 code (J1 code (J1 code c2 8) 2) 8) (n := 2) (by omega)
   omega
  refine ⟨Oz, Dz, s1, ((J3 code c2 8) - (J3 code (J1 code c2 8) 2)), ((J3 code (J1 code (J1 code c2 8) 2) 8) - (J3 code (J1 code (J1 code (J1 code c2 8) 2) 8) 2)), ?_⟩
  refine ⟨?_, rfl, rfl, rfl, rfl, rfl⟩
  ·trivial
theorem J5p (code : List Nat) (hb : ∀ x9 ∈ code, x9 < 256) : PE Tryz.prog 127 [.sl (.bytes code)] (J26 code) :=
  pe_wf @Tryz.call127 fun hw => pe_by (by kernel_rfl) Tryz.func127 @Tryz.call127 (by kernel_rfl) J6r (J6o code) (by kernel_rfl) (J5q code hb hw.1) (by kernel_rfl)
abbrev J2v (code : List Nat) (O : ZI) (Ds : ZR) (ss : ZI) (xx : Int) (yy : Int) : Prop := True
def J2s (code : List Nat) : Ex := ex5 0 (fun (O : ZI) (Ds : ZR) (ss : ZI) (xx : Int) (yy : Int) => J2v code O Ds ss xx yy) (fun (O : ZI) (Ds : ZR) (ss : ZI) (xx : Int) (yy : Int) => []) (fun (O : ZI) (Ds : ZR) (ss : ZI) (xx : Int) (yy : Int) => .tup [.d (.agg [.sl (.ints O), .sl (.rows Ds)]), .d (.sl (.ints ss)), .d (.int .i64 xx), .d (.int .i64 yy)])
def J6S (f : FuncId) (ds : List D) : Orc := .no
def J6I (code : List Nat) : Ann := .two (.none) (.two (.exr (.ex [] 1 (J26 code) (fun g => (fun (Or1 : ZI) (Dsr1 : ZR) (ssr1 : ZI) (xxr1 : Int) (yyr1 : Int) => .ms [] []) (g.1) (g.2.1) (g.2.2.1) (g.2.2.2.1) (g.2.2.2.2)))) (.none))
def J47 (code : List Nat) : Prop :=
  (PE Tryz.prog 127 [.sl (.bytes code)] (J26 code)) ∧ (∀ Or1 : ZI, ∀ Dsr1 : ZR, ∀ ssr1 : ZI, ∀ xxr1 : Int, ∀ yyr1 : Int, J21 code Or1 Dsr1 ssr1 xxr1 yyr1 → ((true = true) ∧ (∃ O' : ZI, ∃ Ds' : ZR, ∃ ss' : ZI, ∃ xx' : Int, ∃ yy' : Int, (J2v code O' Ds' ss' xx' yy') ∧ ((.agg [.sl (.ints Or1), .sl (.rows Dsr1)] : D) = .agg [.sl (.ints O'), .sl (.rows Ds')]) ∧ ((ssr1 : ZI) = ss') ∧ (xxr1 = xx') ∧ (yyr1 = yy'))))
theorem J64 (code : List Nat) (hb : ∀ x9 ∈ code, x9 < 256) (w_code : (code.length : Int) ≤ 9223372036854775807) : J47 code := by
  unfold J47
  refine ⟨?_, ?_⟩
  ·refine J5p code ?_
   ·exact hb
  intro Or1 Dsr1 ssr1 xxr1 yyr1 hQ9
  refine ⟨rfl, ?_⟩
  ·refine ⟨Or1, Dsr1, ssr1, xxr1, yyr1, ?_⟩
   refine ⟨?_, rfl, rfl, rfl, rfl⟩
   ·trivial
theorem J6a (code : List Nat) (hb : ∀ x9 ∈ code, x9 < 256) : PE Tryz.prog 40 [.sl (.bytes code)] (J2s code) :=
  pe_wf @Tryz.call40 fun hw => pe_by (by kernel_rfl) Tryz.func40 @Tryz.call40 (by kernel_rfl) J6S (J6I code) (by kernel_rfl) (J64 code hb hw.1) (by kernel_rfl)
theorem J90 {U : ZI} {D : ZR} {S : ZI} (h : bwL U D S = true) :
    (J0 U D && J2 S 0 ((U.length : Int) - 1) && decide (0 < S.length)) = true ∧ J0 U D = true ∧ (J0 U D && inB (S.length : Int) 1 (U.length : Int)) = true ∧ (0 ≤ J2D U D (S.length : Int) ∧ J2D U D (S.length : Int) ≤ 693) ∧ (JH U.length D = true → J5 D S ≤ 5 * J2D U D (S.length : Int)) := by
  unfold bwL at h
  rw [Bool.and_eq_true, decide_eq_true_eq] at h
  obtain ⟨ht, h0⟩ := h
  have ht : (J0 U D && J2 S 0 ((U.length : Int) - 1) && decide (0 < S.length)) = true := ht
  obtain ⟨hg, hr, hp⟩ := J7 ht
  obtain ⟨g1, g2, g3⟩ := J9 hg
  have hln := J18 hr (by omega)
  have hmc : (J0 U D && inB (S.length : Int) 1 (U.length : Int)) = true := by
    rw [hg, Bool.true_and]
    unfold inB
    simp
    omega
  have hk : 1 ≤ (S.length : Int) ∧ (S.length : Int) ≤ (U.length : Int) := by omega
  have ev : J2D U D (S.length : Int) = J5 D (J2E U D (S.length : Int)) := by unfold J2D; rw [if_pos hmc]
  have hm2 := Jcr (E := D) hg hk
  have hml := Jcq (U := U) (E := D) hk
  have hs := J8 hm2
  refine ⟨ht, hg, hmc, by rw [ev]; exact hs, fun hm => ?_⟩
  rw [ev]
  refine JcX hg hm ht hm2 (by omega) fun s hsS o ho => ?_
  by_cases hoS : o ∈ S
  · refine Jcg fun j _ => JbM (List.length_pos_of_mem (mem_putL.2 (.inl rfl))) (fun x hx => ?_) j
    rcases mem_putL.1 hx with hx | hx
    · rw [hx]; exact hoS
    exact (J0s.1 hx).1
  have := (Jq D S U.length).2 s hsS o ho hoS
  unfold fdG swL at this
  omega
theorem Jcx {U : ZI} {D : ZR} {S : ZI} (ht : J4 U D S = true) :
    (J0 U D && J2 S 0 ((U.length : Int) - 1) && decide (0 < S.length)) = true ∧ (J0 U D && J2 (swE U D S) 0 ((U.length : Int) - 1) && decide (0 < (swE U D S).length)) = true ∧ J4 U D (swE U D S) = true ∧ bwL U D (swE U D S) = true ∧ (swE U D S).length = S.length ∧ J5 D (swE U D S) ≤ J5 D S ∧
    bwC U D S = decide (swN U D S > 0) ∧ decide (J5 D (swE U D S) < J5 D S) = decide (swN U D S > 0) := by
  have ht2 : (J0 U D && J2 S 0 ((U.length : Int) - 1) && decide (0 < S.length)) = true := ht
  have hs := J8 ht2
  have eE : swE U D S = swI D U.length S (swC D U.length S).toNat := by unfold swE; rw [if_pos ht]
  have eN : swN U D S = swC D U.length S := by unfold swN; rw [if_pos ht]
  have hex : ∃ i, i < 1000 ∧ swG D U.length S i = 0 := by
    apply Classical.byContradiction
    intro hno
    have h1 := JV ht 1000 fun i hi h => hno ⟨i, hi, h⟩
    have h2 := J8 h1.1
    omega
  obtain ⟨i0, hi0, hz0⟩ := hex
  have hp0 : (fun k : Int => decide (swG D U.length S k.toNat = 0)) ((J3X 1000).getD i0 0) = true := by
    rw [J43 hi0]
    simp only [Int.toNat_natCast]
    exact decide_eq_true hz0
  have hany : decide (idxI (fun k : Int => decide (swG D U.length S k.toNat = 0)) (J3X 1000) ≥ 0) = true := by
    rw [idx_any, List.any_eq_true]
    exact ⟨_, getD_mem (by rw [J4P]; exact hi0), hp0⟩
  have h0 := of_decide_eq_true hany
  have hf := fun (i : Nat) (hi : i < 1000) (hz : swG D U.length S i = 0) => JbS (p := fun k : Int => decide (swG D U.length S k.toNat = 0)) (xs := J3X 1000) (d := 0) h0 (i := i) (by rw [J4P]; exact hi) (by rw [J43 hi]; simp only [Int.toNat_natCast]; exact decide_eq_true hz)
  have hc : 0 ≤ swC D U.length S := h0
  have hc2 : swC D U.length S ≤ (i0 : Int) := (hf i0 hi0 hz0).1
  have hcz : swG D U.length S (swC D U.length S).toNat = 0 := by
    have := (hf i0 hi0 hz0).2
    have e : (J3X 1000).getD (swC D U.length S).toNat 0 = (((swC D U.length S).toNat : Nat) : Int) := J43 (by omega)
    have h3 : decide (swG D U.length S ((J3X 1000).getD (swC D U.length S).toNat 0).toNat = 0) = true := this
    rw [e, Int.toNat_natCast] at h3
    exact of_decide_eq_true h3
  have hfirst : ∀ i, i < (swC D U.length S).toNat → swG D U.length S i ≠ 0 := fun i hi hz => by
    have : swC D U.length S ≤ (i : Int) := (hf i (by omega) hz).1
    omega
  obtain ⟨w1, w2, w3⟩ := JV ht (swC D U.length S).toNat hfirst
  have hg0 : 0 ≤ (fd D S U.length).2.2 := (Jq D S U.length).1.1
  rw [eE, eN]
  have hpos : (fd D S U.length).2.2 > 0 ↔ swC D U.length S > 0 := by
    constructor
    · intro h
      apply Classical.byContradiction
      intro hn
      rw [show (swC D U.length S).toNat = 0 by omega] at hcz
      have : (fd D S U.length).2.2 = 0 := hcz
      omega
    intro h
    have : (fd D S U.length).2.2 ≠ 0 := hfirst 0 (by omega)
    omega
  refine ⟨ht2, w1, w1, ?_, w2, by omega, ?_, ?_⟩
  · unfold bwL
    rw [show J4 U D (swI D U.length S (swC D U.length S).toNat) = true from w1, Bool.true_and]
    exact decide_eq_true hcz
  · unfold bwC
    rw [ht, Bool.true_and, Bool.eq_iff_iff, decide_eq_true_eq, decide_eq_true_eq]
    exact hpos
  rw [Bool.eq_iff_iff, decide_eq_true_eq, decide_eq_true_eq]
  constructor
  · intro h
    apply Classical.byContradiction
    intro hn
    rw [show (swC D U.length S).toNat = 0 by omega] at h
    exact absurd h (by show ¬ J5 D S < J5 D S; omega)
  intro h; omega
abbrev l_FnSwaps_JR3 (code : List Nat) (st : ZI) (Oz : ZI) (Dz : ZR) : Prop := True
abbrev l_FnSwaps_JR12 (code : List Nat) (st : ZI) (Oz : ZI) (Dz : ZR) (gs : ZI) (Og : ZI) (Dg : ZR) : Prop := True
abbrev l_FnSwaps_JR1023 (code : List Nat) (st : ZI) (Oz : ZI) (Dz : ZR) (gs : ZI) (Og : ZI) (Dg : ZR) : Prop := True
abbrev l_FnSwaps_JR23 (code : List Nat) (st : ZI) (Oz : ZI) (Dz : ZR) (gs : ZI) (Og : ZI) (Dg : ZR) (hs : ZI) (hx : Int) (hy : Int) (Oh : ZI) (Dh : ZR) : Prop := True
abbrev l_FnSwaps_JR1034 (code : List Nat) (st : ZI) (Oz : ZI) (Dz : ZR) (gs : ZI) (Og : ZI) (Dg : ZR) (hs : ZI) (hx : Int) (hy : Int) (Oh : ZI) (Dh : ZR) : Prop := True
def l_FnSwaps_C (f : FuncId) (ds : List D) : Orc := bif Nat.beq f 28 then Jbt ds else bif Nat.beq f 30 then J6G ds else bif Nat.beq f 31 then J4k ds else bif Nat.beq f 32 then JaB ds else bif Nat.beq f 33 then J8y ds else bif Nat.beq f 34 then J8c ds else bif Nat.beq f 36 then J6q ds else bif Nat.beq f 37 then J6j ds else bif Nat.beq f 25 then J8A ds else bif Nat.beq f 38 then J7N ds else bif Nat.beq f 39 then J6f ds else bif Nat.beq f 41 then J8p ds else bif Nat.beq f 42 then J8g ds else bif Nat.beq f 43 then J4z ds else .no
def l_FnSwaps_A (code : List Nat) : Ann := .two (.none) (.two (.none) (.cut (.exr (.ex [] 1 (J1u code) (fun g => (fun (Or3 : ZI) (Dsr3 : ZR) (ssr3 : ZI) => .ms [] []) (g.1) (g.2.1) (g.2.2)))) (cut3 (fun (st : ZI) (Oz : ZI) (Dz : ZR) => l_FnSwaps_JR3 code st Oz Dz) (fun (st : ZI) (Oz : ZI) (Dz : ZR) => [(0, .d false (.sl (.bytes code))), (3, .ptr 3 0), (4, .d true (.sl (.ints st)))]) (fun (st : ZI) (Oz : ZI) (Dz : ZR) => [(3, .box 27 [.d true (.sl (.ints Oz)), .d true (.sl (.rows Dz))])])) (fun g => (fun (st : ZI) (Oz : ZI) (Dz : ZR) => .two (.none) (.two (.none) (.two (.none) (.two (.none) (.cut (.exr (.ex [] 1 (J1n code) (fun g => (fun (Or12 : ZI) (Dsr12 : ZR) (ssr12 : ZI) => .ms [] []) (g.1) (g.2.1) (g.2.2)))) (cut3 (fun (gs : ZI) (Og : ZI) (Dg : ZR) => l_FnSwaps_JR12 code st Oz Dz gs Og Dg) (fun (gs : ZI) (Og : ZI) (Dg : ZR) => [(0, .d false (.sl (.bytes code))), (3, .ptr 3 0), (4, .d true (.sl (.ints st))), (5, .own 59 ((swE Oz Dz st).length)), (6, .d true (.int .i64 (swN Oz Dz st))), (7, .d true (.bool (J4 Oz Dz st))), (13, .d true (.bool (bwC Oz Dz st))), (17, .ptr 17 0), (18, .d true (.sl (.ints gs)))]) (fun (gs : ZI) (Og : ZI) (Dg : ZR) => [(3, .box 27 [.d true (.sl (.ints Oz)), .d true (.sl (.rows Dz))]), (59, .arr true 3 (.ints (swE Oz Dz st))), (17, .box 27 [.d true (.sl (.ints Og)), .d true (.sl (.rows Dg))])])) (fun g => (fun (gs : ZI) (Og : ZI) (Dg : ZR) => .two (.none) (.two (.none) (.cut (.none) (cut0 (l_FnSwaps_JR1023 code st Oz Dz gs Og Dg ) ([(0, .d false (.sl (.bytes code))), (3, .ptr 3 0), (4, .d true (.sl (.ints st))), (5, .own 59 ((swE Oz Dz st).length)), (6, .d true (.int .i64 (swN Oz Dz st))), (7, .d true (.bool (J4 Oz Dz st))), (13, .d true (.bool (bwC Oz Dz st)))]) ([(3, .box 27 [.d true (.sl (.ints Oz)), .d true (.sl (.rows Dz))]), (59, .arr true 3 (.ints (swE Oz Dz st)))])) (fun _ => .cut (.exr (.ex [] 1 (J2s code) (fun g => (fun (Or23 : ZI) (Dsr23 : ZR) (ssr23 : ZI) (xxr23 : Int) (yyr23 : Int) => .ms [] []) (g.1) (g.2.1) (g.2.2.1) (g.2.2.2.1) (g.2.2.2.2)))) (cut5 (fun (hs : ZI) (hx : Int) (hy : Int) (Oh : ZI) (Dh : ZR) => l_FnSwaps_JR23 code st Oz Dz gs Og Dg hs hx hy Oh Dh) (fun (hs : ZI) (hx : Int) (hy : Int) (Oh : ZI) (Dh : ZR) => [(3, .ptr 3 0), (4, .d true (.sl (.ints st))), (5, .own 59 ((swE Oz Dz st).length)), (6, .d true (.int .i64 (swN Oz Dz st))), (7, .d true (.bool (J4 Oz Dz st))), (13, .d true (.bool (bwC Oz Dz st))), (29, .ptr 29 0), (30, .d true (.sl (.ints hs))), (31, .d true (.int .i64 hx)), (32, .d true (.int .i64 hy))]) (fun (hs : ZI) (hx : Int) (hy : Int) (Oh : ZI) (Dh : ZR) => [(3, .box 27 [.d true (.sl (.ints Oz)), .d true (.sl (.rows Dz))]), (59, .arr true 3 (.ints (swE Oz Dz st))), (29, .box 27 [.d true (.sl (.ints Oh)), .d true (.sl (.rows Dh))])])) (fun g => (fun (hs : ZI) (hx : Int) (hy : Int) (Oh : ZI) (Dh : ZR) => .two (.none) (.two (.none) (.cut (.none) (cut0 (l_FnSwaps_JR1034 code st Oz Dz gs Og Dg hs hx hy Oh Dh ) ([(3, .ptr 3 0), (4, .d true (.sl (.ints st))), (5, .own 59 ((swE Oz Dz st).length)), (6, .d true (.int .i64 (swN Oz Dz st))), (7, .d true (.bool (J4 Oz Dz st))), (13, .d true (.bool (bwC Oz Dz st)))]) ([(3, .box 27 [.d true (.sl (.ints Oz)), .d true (.sl (.rows Dz))]), (59, .arr true 3 (.ints (swE Oz Dz st)))])) (fun _ => .none)))) (g.1) (g.2.1) (g.2.2.1) (g.2.2.2.1) (g.2.2.2.2)))))) (g.1) (g.2.1) (g.2.2))))))) (g.1) (g.2.1) (g.2.2))))
def l_FnSwaps_e6 (st : ZI) (Oz : ZI) (Dz : ZR) : Bool := (cond ((J4 Oz Dz st) != (J4 Oz Dz st)) true ((swN Oz Dz st) != (swN Oz Dz st)))
def l_FnSwaps_e8 (st : ZI) (Oz : ZI) (Dz : ZR) : Bool := (cond ((bwA Oz Dz st) != (bwA Oz Dz st)) true ((bwB Oz Dz st) != (bwB Oz Dz st)))
def l_FnSwaps_e9 (hs : ZI) (hx : Int) (hy : Int) (Oh : ZI) (Dh : ZR) : Bool := (cond (!(Jf Oh Dh hs hx hy)) true (!(J0 Oh Dh && J2 hs 0 ((Oh.length : Int) - 1) && decide (0 < hs.length))))
def l_FnSwaps_e4 (hs : ZI) (hx : Int) (hy : Int) (Oh : ZI) (Dh : ZR) : Bool := (cond (l_FnSwaps_e9 hs hx hy Oh Dh) true (!(J0 Oh Dh && J2 (Jt Oh Dh hs hx hy) 0 ((Oh.length : Int) - 1) && decide (0 < (Jt Oh Dh hs hx hy).length))))
def l_FnSwaps_e10 (gs : ZI) (Og : ZI) (Dg : ZR) : Bool := (cond (!(J0 Og Dg)) true (!(J0 Og Dg && J2 gs 0 ((Og.length : Int) - 1) && decide (0 < gs.length))))
def l_FnSwaps_e3 (gs : ZI) (Og : ZI) (Dg : ZR) : Bool := (cond (l_FnSwaps_e10 gs Og Dg) true (!(J0 Og Dg && inB (gs.length : Int) 1 (Og.length : Int))))
def l_FnSwaps_e11 (hs : ZI) (hx : Int) (hy : Int) (Oh : ZI) (Dh : ZR) : Bool := (cond (l_FnSwaps_e4 hs hx hy Oh Dh) true ((JG Oh Dh hs hx hy) != ((if (J0 Oh Dh && J2 hs 0 ((Oh.length : Int) - 1) && decide (0 < hs.length)) = true then J5 Dh hs else 0) - (if (J0 Oh Dh && J2 (Jt Oh Dh hs hx hy) 0 ((Oh.length : Int) - 1) && decide (0 < (Jt Oh Dh hs hx hy).length)) = true then J5 Dh (Jt Oh Dh hs hx hy) else 0))))
def l_FnSwaps_e12 (st : ZI) (Oz : ZI) (Dz : ZR) : Bool := (cond (J4 Oz Dz (swE Oz Dz st)) (J0 Oz Dz && J2 st 0 ((Oz.length : Int) - 1) && decide (0 < st.length)) false)
def l_FnSwaps_e2 (st : ZI) (Oz : ZI) (Dz : ZR) : Bool := (cond (l_FnSwaps_e12 st Oz Dz) (J0 Oz Dz && J2 (swE Oz Dz st) 0 ((Oz.length : Int) - 1) && decide (0 < (swE Oz Dz st).length)) false)
def l_FnSwaps_e7 (st : ZI) (Oz : ZI) (Dz : ZR) : Bool := (cond (cond (l_FnSwaps_e2 st Oz Dz) (bwL Oz Dz (swE Oz Dz st)) false) ((((swE Oz Dz st).length) : Int) == (st.length : Int)) false)
def l_FnSwaps_e1 (st : ZI) (Oz : ZI) (Dz : ZR) : Bool := (cond (l_FnSwaps_e7 st Oz Dz) (decide ((if (J0 Oz Dz && J2 (swE Oz Dz st) 0 ((Oz.length : Int) - 1) && decide (0 < (swE Oz Dz st).length)) = true then J5 Dz (swE Oz Dz st) else 0) ≤ (if (J0 Oz Dz && J2 st 0 ((Oz.length : Int) - 1) && decide (0 < st.length)) = true then J5 Dz st else 0))) false)
def l_FnSwaps_e5 (st : ZI) (Oz : ZI) (Dz : ZR) : Bool := (cond (l_FnSwaps_e1 st Oz Dz) ((bwC Oz Dz st) == (decide ((swN Oz Dz st) > 0))) false)
def l_FnSwaps_e13 (gs : ZI) (Og : ZI) (Dg : ZR) : Bool := (cond (l_FnSwaps_e3 gs Og Dg) true (cond (J0 Og Dg && JH Og.length Dg) (decide ((if (J0 Og Dg && J2 gs 0 ((Og.length : Int) - 1) && decide (0 < gs.length)) = true then J5 Dg gs else 0) > (5 * (J2D Og Dg (gs.length : Int))))) false))
set_option maxRecDepth 100000 in
def l_FnSwaps_P (code : List Nat) : Prop :=
  (PC Tryz.prog 28 [.sl (.bytes code)] (.one (.d (.bool (decide ((code.length : Int) > 65536)))))) ∧ (((decide ((code.length : Int) > 65536)) = true → ((true = true))) ∧ ((decide ((code.length : Int) > 65536)) = false → (((PE Tryz.prog 29 [.sl (.bytes code)] (J1u code)) ∧ (∀ Or3 : ZI, ∀ Dsr3 : ZR, ∀ ssr3 : ZI, J1w code Or3 Dsr3 ssr3 → ((true = true) ∧ (∃ st' : ZI, ∃ Oz' : ZI, ∃ Dz' : ZR, (l_FnSwaps_JR3 code st' Oz' Dz') ∧ (code = code) ∧ (ssr3 = st') ∧ (Or3 = Oz') ∧ (Dsr3 = Dz'))))) ∧ (∀ st : ZI, ∀ Oz : ZI, ∀ Dz : ZR, (l_FnSwaps_JR3 code st Oz Dz) → (PC Tryz.prog 30 [.agg [.sl (.ints Oz), .sl (.rows Dz)], .sl (.ints st)] (.tup [.own 3 (.ints (swE Oz Dz st)), .d (.int .i64 (swN Oz Dz st)), .d (.bool (J4 Oz Dz st))])) ∧ (PC Tryz.prog 31 [.agg [.sl (.ints Oz), .sl (.rows Dz)], .sl (.ints st)] (.tup [.d (.sl (.ints (swE Oz Dz st))), .d (.int .i64 (swN Oz Dz st)), .d (.bool (J4 Oz Dz st))])) ∧ ((!((J4 Oz Dz st) != (J4 Oz Dz st))) = true → (!((J4 Oz Dz st) != (J4 Oz Dz st))) = true) ∧ ((!((J4 Oz Dz st) != (J4 Oz Dz st))) = true → (!((J4 Oz Dz st) != (J4 Oz Dz st))) = true) ∧ (true = true) ∧ ((((J4 Oz Dz st) != (J4 Oz Dz st)) = true → true = true)) ∧ ((((J4 Oz Dz st) != (J4 Oz Dz st)) = false → (!((J4 Oz Dz st) != (J4 Oz Dz st))) = true)) ∧ ((!(l_FnSwaps_e6 st Oz Dz)) = true → (!(l_FnSwaps_e6 st Oz Dz)) = true) ∧ ((!(l_FnSwaps_e6 st Oz Dz)) = true → (!(l_FnSwaps_e6 st Oz Dz)) = true) ∧ (((!(l_FnSwaps_e6 st Oz Dz)) = true → (swE Oz Dz st).length = (swE Oz Dz st).length)) ∧ ((!(l_FnSwaps_e6 st Oz Dz)) = true → PC Tryz.prog 32 [.sl (.ints (swE Oz Dz st)), .sl (.ints (swE Oz Dz st))] (.one (.d (.bool ((swE Oz Dz st) == (swE Oz Dz st)))))) ∧ ((!(l_FnSwaps_e6 st Oz Dz)) = true → (!(l_FnSwaps_e6 st Oz Dz)) = true) ∧ (true = true) ∧ (((l_FnSwaps_e6 st Oz Dz) = true → true = true)) ∧ (((l_FnSwaps_e6 st Oz Dz) = false → (!(l_FnSwaps_e6 st Oz Dz)) = true)) ∧ (((cond (l_FnSwaps_e6 st Oz Dz) true (!((swE Oz Dz st) == (swE Oz Dz st)))) = true → ((false = true))) ∧ ((cond (l_FnSwaps_e6 st Oz Dz) true (!((swE Oz Dz st) == (swE Oz Dz st)))) = false → (PC Tryz.prog 33 [.agg [.sl (.ints Oz), .sl (.rows Dz)], .sl (.ints st)] (.tup [.d (.int .i64 (bwA Oz Dz st)), .d (.int .i64 (bwB Oz Dz st)), .d (.bool (bwC Oz Dz st))])) ∧ (PC Tryz.prog 34 [.agg [.sl (.ints Oz), .sl (.rows Dz)], .sl (.ints st)] (.tup [.d (.int .i64 (bwA Oz Dz st)), .d (.int .i64 (bwB Oz Dz st)), .d (.bool (bwC Oz Dz st))])) ∧ ((!((bwA Oz Dz st) != (bwA Oz Dz st))) = true → (!((bwA Oz Dz st) != (bwA Oz Dz st))) = true) ∧ ((!((bwA Oz Dz st) != (bwA Oz Dz st))) = true → (!((bwA Oz Dz st) != (bwA Oz Dz st))) = true) ∧ (true = true) ∧ ((((bwA Oz Dz st) != (bwA Oz Dz st)) = true → true = true)) ∧ ((((bwA Oz Dz st) != (bwA Oz Dz st)) = false → (!((bwA Oz Dz st) != (bwA Oz Dz st))) = true)) ∧ ((!(l_FnSwaps_e8 st Oz Dz)) = true → (!(l_FnSwaps_e8 st Oz Dz)) = true) ∧ ((!(l_FnSwaps_e8 st Oz Dz)) = true → (!(l_FnSwaps_e8 st Oz Dz)) = true) ∧ (true = true) ∧ (((l_FnSwaps_e8 st Oz Dz) = true → true = true)) ∧ (((l_FnSwaps_e8 st Oz Dz) = false → (!(l_FnSwaps_e8 st Oz Dz)) = true)) ∧ (((cond (l_FnSwaps_e8 st Oz Dz) true ((bwC Oz Dz st) != (bwC Oz Dz st))) = true → ((false = true))) ∧ ((cond (l_FnSwaps_e8 st Oz Dz) true ((bwC Oz Dz st) != (bwC Oz Dz st))) = false → (((PE Tryz.prog 35 [.sl (.bytes code)] (J1n code)) ∧ (∀ Or12 : ZI, ∀ Dsr12 : ZR, ∀ ssr12 : ZI, J0D code Or12 Dsr12 ssr12 → ((true = true) ∧ (∃ gs' : ZI, ∃ Og' : ZI, ∃ Dg' : ZR, (l_FnSwaps_JR12 code st Oz Dz gs' Og' Dg') ∧ (code = code) ∧ (st = st) ∧ ((swE Oz Dz st).length = (swE Oz Dz st).length) ∧ ((swN Oz Dz st) = (swN Oz Dz st)) ∧ ((J4 Oz Dz st) = (J4 Oz Dz st)) ∧ ((bwC Oz Dz st) = (bwC Oz Dz st)) ∧ (ssr12 = gs') ∧ (Oz = Oz) ∧ (Dz = Dz) ∧ (swE Oz Dz st = swE Oz Dz st) ∧ (Or12 = Og') ∧ (Dsr12 = Dg'))))) ∧ (∀ gs : ZI, ∀ Og : ZI, ∀ Dg : ZR, (l_FnSwaps_JR12 code st Oz Dz gs Og Dg) → (PC Tryz.prog 36 [.agg [.sl (.ints Og), .sl (.rows Dg)], .sl (.ints gs)] (.tup [.d (.bool (bwL Og Dg gs)), .d (.bool (J4 Og Dg gs))])) ∧ (PC Tryz.prog 37 [.agg [.sl (.ints Og), .sl (.rows Dg)], .sl (.ints gs)] (.tup [.d (.bool (bwL Og Dg gs)), .d (.bool (J4 Og Dg gs))])) ∧ ((!((bwL Og Dg gs) != (bwL Og Dg gs))) = true → (!((bwL Og Dg gs) != (bwL Og Dg gs))) = true) ∧ ((!((bwL Og Dg gs) != (bwL Og Dg gs))) = true → (!((bwL Og Dg gs) != (bwL Og Dg gs))) = true) ∧ (true = true) ∧ ((((bwL Og Dg gs) != (bwL Og Dg gs)) = true → true = true)) ∧ ((((bwL Og Dg gs) != (bwL Og Dg gs)) = false → (!((bwL Og Dg gs) != (bwL Og Dg gs))) = true)) ∧ (((cond ((bwL Og Dg gs) != (bwL Og Dg gs)) true ((J4 Og Dg gs) != (J4 Og Dg gs))) = true → ((false = true))) ∧ ((cond ((bwL Og Dg gs) != (bwL Og Dg gs)) true ((J4 Og Dg gs) != (J4 Og Dg gs))) = false → (((((bwL Og Dg gs) = true → (PC Tryz.prog 25 [.agg [.sl (.ints Og), .sl (.rows Dg)]] (.tup [.d (.bool (J0 Og Dg && JH Og.length Dg)), .d (.bool (J0 Og Dg))])) ∧ (PC Tryz.prog 38 [.agg [.sl (.ints Og), .sl (.rows Dg)], .sl (.ints gs)] (.tup [.d (.int .i64 (if (J0 Og Dg && J2 gs 0 ((Og.length : Int) - 1) && decide (0 < gs.length)) = true then J5 Dg gs else 0)), .d (.bool (J0 Og Dg && J2 gs 0 ((Og.length : Int) - 1) && decide (0 < gs.length)))])) ∧ (PC Tryz.prog 39 [.agg [.sl (.ints Og), .sl (.rows Dg)], .int .i64 (gs.length : Int)] (.tup [.d (.int .i64 (J2D Og Dg (gs.length : Int))), .d (.bool (J0 Og Dg && inB (gs.length : Int) 1 (Og.length : Int)))])) ∧ ((!(!(J0 Og Dg))) = true → (!(!(J0 Og Dg))) = true) ∧ (true = true) ∧ (((!(J0 Og Dg)) = true → true = true)) ∧ (((!(J0 Og Dg)) = false → (!(!(J0 Og Dg))) = true)) ∧ ((!(l_FnSwaps_e10 gs Og Dg)) = true → (!(l_FnSwaps_e10 gs Og Dg)) = true) ∧ (true = true) ∧ (((l_FnSwaps_e10 gs Og Dg) = true → true = true)) ∧ (((l_FnSwaps_e10 gs Og Dg) = false → (!(l_FnSwaps_e10 gs Og Dg)) = true)) ∧ ((!(l_FnSwaps_e3 gs Og Dg)) = true → (!(l_FnSwaps_e3 gs Og Dg)) = true) ∧ (((!(l_FnSwaps_e3 gs Og Dg)) && (J0 Og Dg && JH Og.length Dg)) = true → ((!(l_FnSwaps_e3 gs Og Dg)) && (J0 Og Dg && JH Og.length Dg)) = true) ∧ ((((!(l_FnSwaps_e3 gs Og Dg)) && (J0 Og Dg && JH Og.length Dg)) = true → -9223372036854775808 ≤ (5 * (J2D Og Dg (gs.length : Int))) ∧ (5 * (J2D Og Dg (gs.length : Int))) ≤ 9223372036854775807)) ∧ (((!(l_FnSwaps_e3 gs Og Dg)) && (J0 Og Dg && JH Og.length Dg)) = true → ((!(l_FnSwaps_e3 gs Og Dg)) && (J0 Og Dg && JH Og.length Dg)) = true) ∧ (((!(l_FnSwaps_e3 gs Og Dg)) && (J0 Og Dg && JH Og.length Dg)) = true → ((!(l_FnSwaps_e3 gs Og Dg)) && (J0 Og Dg && JH Og.length Dg)) = true) ∧ (((!(l_FnSwaps_e3 gs Og Dg)) = true → (!(l_FnSwaps_e3 gs Og Dg)) = true)) ∧ (((!(l_FnSwaps_e3 gs Og Dg)) = true → (J0 Og Dg && JH Og.length Dg) = true → ((!(l_FnSwaps_e3 gs Og Dg)) && (J0 Og Dg && JH Og.length Dg)) = true)) ∧ (((!(l_FnSwaps_e3 gs Og Dg)) = true → (J0 Og Dg && JH Og.length Dg) = false → true = true)) ∧ (true = true) ∧ (((l_FnSwaps_e3 gs Og Dg) = true → true = true)) ∧ (((l_FnSwaps_e3 gs Og Dg) = false → (!(l_FnSwaps_e3 gs Og Dg)) = true)) ∧ (((l_FnSwaps_e13 gs Og Dg) = true → ((false = true))) ∧ ((l_FnSwaps_e13 gs Og Dg) = false → ((l_FnSwaps_JR1023 code st Oz Dz gs Og Dg) ∧ (code = code) ∧ (st = st) ∧ ((swE Oz Dz st).length = (swE Oz Dz st).length) ∧ ((swN Oz Dz st) = (swN Oz Dz st)) ∧ ((J4 Oz Dz st) = (J4 Oz Dz st)) ∧ ((bwC Oz Dz st) = (bwC Oz Dz st)) ∧ (Oz = Oz) ∧ (Dz = Dz) ∧ (swE Oz Dz st = swE Oz Dz st))))) ∧ ((bwL Og Dg gs) = false → ((l_FnSwaps_JR1023 code st Oz Dz gs Og Dg) ∧ (code = code) ∧ (st = st) ∧ ((swE Oz Dz st).length = (swE Oz Dz st).length) ∧ ((swN Oz Dz st) = (swN Oz Dz st)) ∧ ((J4 Oz Dz st) = (J4 Oz Dz st)) ∧ ((bwC Oz Dz st) = (bwC Oz Dz st)) ∧ (Oz = Oz) ∧ (Dz = Dz) ∧ (swE Oz Dz st = swE Oz Dz st))))) ∧ ((l_FnSwaps_JR1023 code st Oz Dz gs Og Dg) → (((PE Tryz.prog 40 [.sl (.bytes code)] (J2s code)) ∧ (∀ Or23 : ZI, ∀ Dsr23 : ZR, ∀ ssr23 : ZI, ∀ xxr23 : Int, ∀ yyr23 : Int, J2v code Or23 Dsr23 ssr23 xxr23 yyr23 → ((true = true) ∧ (∃ hs' : ZI, ∃ hx' : Int, ∃ hy' : Int, ∃ Oh' : ZI, ∃ Dh' : ZR, (l_FnSwaps_JR23 code st Oz Dz gs Og Dg hs' hx' hy' Oh' Dh') ∧ (st = st) ∧ ((swE Oz Dz st).length = (swE Oz Dz st).length) ∧ ((swN Oz Dz st) = (swN Oz Dz st)) ∧ ((J4 Oz Dz st) = (J4 Oz Dz st)) ∧ ((bwC Oz Dz st) = (bwC Oz Dz st)) ∧ (ssr23 = hs') ∧ (xxr23 = hx') ∧ (yyr23 = hy') ∧ (Oz = Oz) ∧ (Dz = Dz) ∧ (swE Oz Dz st = swE Oz Dz st) ∧ (Or23 = Oh') ∧ (Dsr23 = Dh'))))) ∧ (∀ hs : ZI, ∀ hx : Int, ∀ hy : Int, ∀ Oh : ZI, ∀ Dh : ZR, (l_FnSwaps_JR23 code st Oz Dz gs Og Dg hs hx hy Oh Dh) → (PC Tryz.prog 41 [.agg [.sl (.ints Oh), .sl (.rows Dh)], .sl (.ints hs), .int .i64 hx, .int .i64 hy] (.tup [.d (.int .i64 (JG Oh Dh hs hx hy)), .d (.bool (Jf Oh Dh hs hx hy))])) ∧ (PC Tryz.prog 42 [.agg [.sl (.ints Oh), .sl (.rows Dh)], .sl (.ints hs), .int .i64 hx, .int .i64 hy] (.tup [.d (.int .i64 (JG Oh Dh hs hx hy)), .d (.bool (Jf Oh Dh hs hx hy))])) ∧ ((!((JG Oh Dh hs hx hy) != (JG Oh Dh hs hx hy))) = true → (!((JG Oh Dh hs hx hy) != (JG Oh Dh hs hx hy))) = true) ∧ ((!((JG Oh Dh hs hx hy) != (JG Oh Dh hs hx hy))) = true → (!((JG Oh Dh hs hx hy) != (JG Oh Dh hs hx hy))) = true) ∧ (true = true) ∧ ((((JG Oh Dh hs hx hy) != (JG Oh Dh hs hx hy)) = true → true = true)) ∧ ((((JG Oh Dh hs hx hy) != (JG Oh Dh hs hx hy)) = false → (!((JG Oh Dh hs hx hy) != (JG Oh Dh hs hx hy))) = true)) ∧ (((cond ((JG Oh Dh hs hx hy) != (JG Oh Dh hs hx hy)) true ((Jf Oh Dh hs hx hy) != (Jf Oh Dh hs hx hy))) = true → ((false = true))) ∧ ((cond ((JG Oh Dh hs hx hy) != (JG Oh Dh hs hx hy)) true ((Jf Oh Dh hs hx hy) != (Jf Oh Dh hs hx hy))) = false → (((((Jf Oh Dh hs hx hy) = true → (PC Tryz.prog 43 [.agg [.sl (.ints Oh), .sl (.rows Dh)], .sl (.ints hs), .int .i64 hx, .int .i64 hy] (.tup [.own 3 (.ints (Jt Oh Dh hs hx hy)), .d (.bool (Jf Oh Dh hs hx hy))])) ∧ (PC Tryz.prog 38 [.agg [.sl (.ints Oh), .sl (.rows Dh)], .sl (.ints hs)] (.tup [.d (.int .i64 (if (J0 Oh Dh && J2 hs 0 ((Oh.length : Int) - 1) && decide (0 < hs.length)) = true then J5 Dh hs else 0)), .d (.bool (J0 Oh Dh && J2 hs 0 ((Oh.length : Int) - 1) && decide (0 < hs.length)))])) ∧ ((Jt Oh Dh hs hx hy).length = (Jt Oh Dh hs hx hy).length) ∧ (PC Tryz.prog 38 [.agg [.sl (.ints Oh), .sl (.rows Dh)], .sl (.ints (Jt Oh Dh hs hx hy))] (.tup [.d (.int .i64 (if (J0 Oh Dh && J2 (Jt Oh Dh hs hx hy) 0 ((Oh.length : Int) - 1) && decide (0 < (Jt Oh Dh hs hx hy).length)) = true then J5 Dh (Jt Oh Dh hs hx hy) else 0)), .d (.bool (J0 Oh Dh && J2 (Jt Oh Dh hs hx hy) 0 ((Oh.length : Int) - 1) && decide (0 < (Jt Oh Dh hs hx hy).length)))])) ∧ ((!(!(Jf Oh Dh hs hx hy))) = true → (!(!(Jf Oh Dh hs hx hy))) = true) ∧ (true = true) ∧ (((!(Jf Oh Dh hs hx hy)) = true → true = true)) ∧ (((!(Jf Oh Dh hs hx hy)) = false → (!(!(Jf Oh Dh hs hx hy))) = true)) ∧ ((!(l_FnSwaps_e9 hs hx hy Oh Dh)) = true → (!(l_FnSwaps_e9 hs hx hy Oh Dh)) = true) ∧ (true = true) ∧ (((l_FnSwaps_e9 hs hx hy Oh Dh) = true → true = true)) ∧ (((l_FnSwaps_e9 hs hx hy Oh Dh) = false → (!(l_FnSwaps_e9 hs hx hy Oh Dh)) = true)) ∧ ((!(l_FnSwaps_e4 hs hx hy Oh Dh)) = true → (!(l_FnSwaps_e4 hs hx hy Oh Dh)) = true) ∧ ((!(l_FnSwaps_e4 hs hx hy Oh Dh)) = true → (!(l_FnSwaps_e4 hs hx hy Oh Dh)) = true) ∧ (((!(l_FnSwaps_e4 hs hx hy Oh Dh)) = true → -9223372036854775808 ≤ ((if (J0 Oh Dh && J2 hs 0 ((Oh.length : Int) - 1) && decide (0 < hs.length)) = true then J5 Dh hs else 0) - (if (J0 Oh Dh && J2 (Jt Oh Dh hs hx hy) 0 ((Oh.length : Int) - 1) && decide (0 < (Jt Oh Dh hs hx hy).length)) = true then J5 Dh (Jt Oh Dh hs hx hy) else 0)) ∧ ((if (J0 Oh Dh && J2 hs 0 ((Oh.length : Int) - 1) && decide (0 < hs.length)) = true then J5 Dh hs else 0) - (if (J0 Oh Dh && J2 (Jt Oh Dh hs hx hy) 0 ((Oh.length : Int) - 1) && decide (0 < (Jt Oh Dh hs hx hy).length)) = true then J5 Dh (Jt Oh Dh hs hx hy) else 0)) ≤ 9223372036854775807)) ∧ ((!(l_FnSwaps_e4 hs hx hy Oh Dh)) = true → (!(l_FnSwaps_e4 hs hx hy Oh Dh)) = true) ∧ ((!(l_FnSwaps_e4 hs hx hy Oh Dh)) = true → (!(l_FnSwaps_e4 hs hx hy Oh Dh)) = true) ∧ (true = true) ∧ (((l_FnSwaps_e4 hs hx hy Oh Dh) = true → true = true)) ∧ (((l_FnSwaps_e4 hs hx hy Oh Dh) = false → (!(l_FnSwaps_e4 hs hx hy Oh Dh)) = true)) ∧ (((l_FnSwaps_e11 hs hx hy Oh Dh) = true → ((false = true))) ∧ ((l_FnSwaps_e11 hs hx hy Oh Dh) = false → ((l_FnSwaps_JR1034 code st Oz Dz gs Og Dg hs hx hy Oh Dh) ∧ (st = st) ∧ ((swE Oz Dz st).length = (swE Oz Dz st).length) ∧ ((swN Oz Dz st) = (swN Oz Dz st)) ∧ ((J4 Oz Dz st) = (J4 Oz Dz st)) ∧ ((bwC Oz Dz st) = (bwC Oz Dz st)) ∧ (Oz = Oz) ∧ (Dz = Dz) ∧ (swE Oz Dz st = swE Oz Dz st))))) ∧ ((Jf Oh Dh hs hx hy) = false → ((l_FnSwaps_JR1034 code st Oz Dz gs Og Dg hs hx hy Oh Dh) ∧ (st = st) ∧ ((swE Oz Dz st).length = (swE Oz Dz st).length) ∧ ((swN Oz Dz st) = (swN Oz Dz st)) ∧ ((J4 Oz Dz st) = (J4 Oz Dz st)) ∧ ((bwC Oz Dz st) = (bwC Oz Dz st)) ∧ (Oz = Oz) ∧ (Dz = Dz) ∧ (swE Oz Dz st = swE Oz Dz st))))) ∧ ((l_FnSwaps_JR1034 code st Oz Dz gs Og Dg hs hx hy Oh Dh) → (((!(J4 Oz Dz st)) = true → (((!(bwC Oz Dz st)) = true))) ∧ ((!(J4 Oz Dz st)) = false → ((swE Oz Dz st).length = (swE Oz Dz st).length) ∧ (PC Tryz.prog 36 [.agg [.sl (.ints Oz), .sl (.rows Dz)], .sl (.ints (swE Oz Dz st))] (.tup [.d (.bool (bwL Oz Dz (swE Oz Dz st))), .d (.bool (J4 Oz Dz (swE Oz Dz st)))])) ∧ (PC Tryz.prog 38 [.agg [.sl (.ints Oz), .sl (.rows Dz)], .sl (.ints st)] (.tup [.d (.int .i64 (if (J0 Oz Dz && J2 st 0 ((Oz.length : Int) - 1) && decide (0 < st.length)) = true then J5 Dz st else 0)), .d (.bool (J0 Oz Dz && J2 st 0 ((Oz.length : Int) - 1) && decide (0 < st.length)))])) ∧ ((swE Oz Dz st).length = (swE Oz Dz st).length) ∧ (PC Tryz.prog 38 [.agg [.sl (.ints Oz), .sl (.rows Dz)], .sl (.ints (swE Oz Dz st))] (.tup [.d (.int .i64 (if (J0 Oz Dz && J2 (swE Oz Dz st) 0 ((Oz.length : Int) - 1) && decide (0 < (swE Oz Dz st).length)) = true then J5 Dz (swE Oz Dz st) else 0)), .d (.bool (J0 Oz Dz && J2 (swE Oz Dz st) 0 ((Oz.length : Int) - 1) && decide (0 < (swE Oz Dz st).length)))])) ∧ (true = true) ∧ (((J4 Oz Dz (swE Oz Dz st)) = true → (J4 Oz Dz (swE Oz Dz st)) = true)) ∧ (((J4 Oz Dz (swE Oz Dz st)) = false → true = true)) ∧ (true = true) ∧ (((l_FnSwaps_e12 st Oz Dz) = true → (l_FnSwaps_e12 st Oz Dz) = true)) ∧ (((l_FnSwaps_e12 st Oz Dz) = false → true = true)) ∧ (true = true) ∧ (((l_FnSwaps_e2 st Oz Dz) = true → (l_FnSwaps_e2 st Oz Dz) = true)) ∧ (((l_FnSwaps_e2 st Oz Dz) = false → true = true)) ∧ ((cond (l_FnSwaps_e2 st Oz Dz) (bwL Oz Dz (swE Oz Dz st)) false) = true → (cond (l_FnSwaps_e2 st Oz Dz) (bwL Oz Dz (swE Oz Dz st)) false) = true) ∧ ((cond (l_FnSwaps_e2 st Oz Dz) (bwL Oz Dz (swE Oz Dz st)) false) = true → (cond (l_FnSwaps_e2 st Oz Dz) (bwL Oz Dz (swE Oz Dz st)) false) = true) ∧ ((cond (l_FnSwaps_e2 st Oz Dz) (bwL Oz Dz (swE Oz Dz st)) false) = true → (cond (l_FnSwaps_e2 st Oz Dz) (bwL Oz Dz (swE Oz Dz st)) false) = true) ∧ ((cond (l_FnSwaps_e2 st Oz Dz) (bwL Oz Dz (swE Oz Dz st)) false) = true → (cond (l_FnSwaps_e2 st Oz Dz) (bwL Oz Dz (swE Oz Dz st)) false) = true) ∧ (true = true) ∧ (((cond (l_FnSwaps_e2 st Oz Dz) (bwL Oz Dz (swE Oz Dz st)) false) = true → (cond (l_FnSwaps_e2 st Oz Dz) (bwL Oz Dz (swE Oz Dz st)) false) = true)) ∧ (((cond (l_FnSwaps_e2 st Oz Dz) (bwL Oz Dz (swE Oz Dz st)) false) = false → true = true)) ∧ ((l_FnSwaps_e7 st Oz Dz) = true → (l_FnSwaps_e7 st Oz Dz) = true) ∧ ((l_FnSwaps_e7 st Oz Dz) = true → (l_FnSwaps_e7 st Oz Dz) = true) ∧ (true = true) ∧ (((l_FnSwaps_e7 st Oz Dz) = true → (l_FnSwaps_e7 st Oz Dz) = true)) ∧ (((l_FnSwaps_e7 st Oz Dz) = false → true = true)) ∧ ((l_FnSwaps_e1 st Oz Dz) = true → (l_FnSwaps_e1 st Oz Dz) = true) ∧ ((l_FnSwaps_e1 st Oz Dz) = true → (l_FnSwaps_e1 st Oz Dz) = true) ∧ ((l_FnSwaps_e1 st Oz Dz) = true → (l_FnSwaps_e1 st Oz Dz) = true) ∧ (true = true) ∧ (((l_FnSwaps_e1 st Oz Dz) = true → (l_FnSwaps_e1 st Oz Dz) = true)) ∧ (((l_FnSwaps_e1 st Oz Dz) = false → true = true)) ∧ ((l_FnSwaps_e5 st Oz Dz) = true → (l_FnSwaps_e5 st Oz Dz) = true) ∧ ((l_FnSwaps_e5 st Oz Dz) = true → (l_FnSwaps_e5 st Oz Dz) = true) ∧ ((l_FnSwaps_e5 st Oz Dz) = true → (l_FnSwaps_e5 st Oz Dz) = true) ∧ ((l_FnSwaps_e5 st Oz Dz) = true → (l_FnSwaps_e5 st Oz Dz) = true) ∧ ((l_FnSwaps_e5 st Oz Dz) = true → (l_FnSwaps_e5 st Oz Dz) = true) ∧ (true = true) ∧ (((l_FnSwaps_e5 st Oz Dz) = true → (l_FnSwaps_e5 st Oz Dz) = true)) ∧ (((l_FnSwaps_e5 st Oz Dz) = false → true = true)) ∧ (((cond (l_FnSwaps_e5 st Oz Dz) ((decide ((if (J0 Oz Dz && J2 (swE Oz Dz st) 0 ((Oz.length : Int) - 1) && decide (0 < (swE Oz Dz st).length)) = true then J5 Dz (swE Oz Dz st) else 0) < (if (J0 Oz Dz && J2 st 0 ((Oz.length : Int) - 1) && decide (0 < st.length)) = true then J5 Dz st else 0))) == (decide ((swN Oz Dz st) > 0))) false) = true))))))))))))))))))))))))
set_option maxRecDepth 100000 in
theorem l_FnSwaps_vc (code : List Nat) (hb : ∀ x9 ∈ code, x9 < 256) (w_code : (code.length : Int) ≤ 9223372036854775807) : l_FnSwaps_P code := by
  unfold l_FnSwaps_P l_FnSwaps_e13 l_FnSwaps_e5 l_FnSwaps_e1 l_FnSwaps_e7 l_FnSwaps_e2 l_FnSwaps_e12 l_FnSwaps_e11 l_FnSwaps_e3 l_FnSwaps_e10 l_FnSwaps_e4 l_FnSwaps_e9 l_FnSwaps_e8 l_FnSwaps_e6
  refine ⟨Jc7 code, ?_, ?_⟩
  ·intro b1
   exact rfl
  intro b2
  refine ⟨?_, ?_⟩
  ·refine ⟨?_, ?_⟩
   ·refine J5d code ?_
    ·exact hb
   ·intro Or3 Dsr3 ssr3 hQ9
    refine ⟨rfl, ?_⟩
    ·refine ⟨ssr3, Or3, Dsr3, ?_⟩
     refine ⟨?_, rfl, rfl, rfl, rfl⟩
     ·trivial
  intro st Oz Dz hJ
  refine ⟨J7O Oz Dz st, J4s Oz Dz st, id, id, rfl, fun _ => rfl, ?_, id, id, fun _ => rfl, fun _ => JbB (swE Oz Dz st) (swE Oz Dz st), id, rfl, fun _ => rfl, ?_, ?_, ?_⟩
  ·(simp_all; done)
  ·(simp_all; done)
  ·intro b3
   (simp_all; done)
  intro b4
  refine ⟨J9r Oz Dz st, J9j Oz Dz st, id, id, rfl, fun _ => rfl, ?_, id, id, rfl, fun _ => rfl, ?_, ?_, ?_⟩
  ·(simp_all; done)
  ·(simp_all; done)
  ·intro b5
   (simp_all; done)
  intro b6
  refine ⟨?_, ?_⟩
  ·refine ⟨?_, ?_⟩
   ·refine J4Q code ?_
    ·exact hb
   ·intro Or12 Dsr12 ssr12 hQ9
    refine ⟨rfl, ?_⟩
    ·refine ⟨ssr12, Or12, Dsr12, ?_⟩
     refine ⟨?_, rfl, rfl, rfl, rfl, rfl, rfl, rfl, rfl, rfl, rfl, rfl, rfl⟩
     ·trivial
  intro gs Og Dg hJ
  refine ⟨J4j Og Dg gs, J6P Og Dg gs, id, id, rfl, fun _ => rfl, ?_, ?_, ?_⟩
  ·(simp_all; done)
  ·intro b7
   (simp_all; done)
  intro b8
  refine ⟨?_, ?_⟩
  ·refine ⟨?_, ?_⟩
   ·intro b9
    refine ⟨J97 Og Dg, J0Y Og Dg gs, J7g Og Dg (gs.length : Int), id, rfl, fun _ => rfl, ?_, id, rfl, fun _ => rfl, ?_, id, id, ?_, id, id, id, ?_, fun _ _ => rfl, rfl, fun _ => rfl, ?_, ?_, ?_⟩
    ·(simp_all; done)
    ·(simp_all; done)
    ·have m4 := (J90 b9).2.2.2.1
     intros
     omega
    ·(simp_all; done)
    ·(simp_all; done)
    ·intro b10
     exfalso
     obtain ⟨m1, m2, m3, m4, m5⟩ := J90 b9
     rw [if_pos m1, m1, m3, m2] at b10
     simp at b10
     have := m5 b10.1
     omega
    intro b11
    refine ⟨?_, rfl, rfl, rfl, rfl, rfl, rfl, rfl, rfl, rfl⟩
    ·trivial
   ·intro b12
    refine ⟨?_, rfl, rfl, rfl, rfl, rfl, rfl, rfl, rfl, rfl⟩
    ·trivial
  intro  hJ
  refine ⟨?_, ?_⟩
  ·refine ⟨?_, ?_⟩
   ·refine J6a code ?_
    ·exact hb
   ·intro Or23 Dsr23 ssr23 xxr23 yyr23 hQ9
    refine ⟨rfl, ?_⟩
    ·refine ⟨ssr23, xxr23, yyr23, Or23, Dsr23, ?_⟩
     refine ⟨?_, rfl, rfl, rfl, rfl, rfl, rfl, rfl, rfl, rfl, rfl, rfl, rfl, rfl⟩
     ·trivial
  intro hs hx hy Oh Dh hJ
  refine ⟨J9v Oh Dh hs hx hy, J96 Oh Dh hs hx hy, id, id, rfl, fun _ => rfl, ?_, ?_, ?_⟩
  ·(simp_all; done)
  ·intro b13
   (simp_all; done)
  intro b14
  refine ⟨?_, ?_⟩
  ·refine ⟨?_, ?_⟩
   ·intro b15
    refine ⟨J4L Oh Dh hs hx hy, J0Y Oh Dh hs, rfl, J0Y Oh Dh (Jt Oh Dh hs hx hy), id, rfl, fun _ => rfl, ?_, id, rfl, fun _ => rfl, ?_, id, id, ?_, id, id, rfl, fun _ => rfl, ?_, ?_, ?_⟩
    ·(simp_all; done)
    ·(simp_all; done)
    ·obtain ⟨q1, q2, q3, q4, q5, q6⟩ := Jx b15
     have e : Jt Oh Dh hs hx hy = swL hs hx hy := by unfold Jt; rw [if_pos b15]
     have t2 := J2O q1 hx q3
     intros
     rw [e, if_pos q1, if_pos t2]
     have s1 := J8 q1
     have s2 := J8 t2
     omega
    ·(simp_all; done)
    ·intro b16
     exfalso
     obtain ⟨q1, q2, q3, q4, q5, q6⟩ := Jx b15
     have e : Jt Oh Dh hs hx hy = swL hs hx hy := by unfold Jt; rw [if_pos b15]
     have t2 := J2O q1 hx q3
     have eg : JG Oh Dh hs hx hy = J5 Dh hs - J5 Dh (swL hs hx hy) := by unfold JG; rw [if_pos b15]
     rw [e, if_pos q1, if_pos t2, eg, b15, q1, t2] at b16
     simp at b16
    intro b17
    refine ⟨?_, rfl, rfl, rfl, rfl, rfl, rfl, rfl, rfl⟩
    ·trivial
   ·intro b18
    refine ⟨?_, rfl, rfl, rfl, rfl, rfl, rfl, rfl, rfl⟩
    ·trivial
  intro  hJ
  refine ⟨?_, ?_⟩
  ·intro b19
   have hq : J4 Oz Dz st = false := by simpa using b19
   unfold bwC
   rw [hq]; rfl
  intro b20
  refine ⟨rfl, J4j Oz Dz (swE Oz Dz st), J0Y Oz Dz st, rfl, J0Y Oz Dz (swE Oz Dz st), rfl, id, fun _ => rfl, rfl, id, fun _ => rfl, rfl, id, fun _ => rfl, id, id, id, id, rfl, id, fun _ => rfl, id, id, rfl, id, fun _ => rfl, id, id, id, rfl, id, fun _ => rfl, id, id, id, id, id, rfl, id, fun _ => rfl, ?_⟩
  ·obtain ⟨m1, m2, m3, m4, m5, m6, m7, m8⟩ := Jcx (U := Oz) (D := Dz) (S := st) (by simpa using b20)
   rw [if_pos m2, if_pos m1, m3, m1, m2, m4, m5, m7, m8]
   simp [m6]
theorem l_FnSwaps_pc (code : List Nat) (hb : ∀ x9 ∈ code, x9 < 256) : PC Tryz.prog 4 [.sl (.bytes code)] (.one (.d (.bool true))) :=
  pc_wf @Tryz.call4 fun hw => pc_by (by kernel_rfl) Tryz.func4 @Tryz.call4 (by kernel_rfl) l_FnSwaps_C (l_FnSwaps_A code) (by kernel_rfl) (l_FnSwaps_vc code hb hw.1) (by kernel_rfl)
end Go.Proofs.YtomnmacmlhkceaaGreat
