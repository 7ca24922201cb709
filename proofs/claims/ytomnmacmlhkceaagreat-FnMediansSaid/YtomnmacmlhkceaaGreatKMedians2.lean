/- Contracts of the functions that the law reaches. -/
import Derived.Test.YtomnmacmlhkceaaGreatKMedians1
import Derived.KernelRfl
set_option linter.unusedVariables false
set_option linter.unusedSimpArgs false
namespace Go.Proofs.YtomnmacmlhkceaaGreat
open Go

theorem J4L (u : Value) (code : List Nat) (c : Cur) (most : Int) (hb : ∀ x9 ∈ code, x9 < 256) (hc : okC c 3000000) (hm : 0 ≤ most ∧ most ≤ 7)  : J1t u code c most := by
  unfold J1t
  refine ⟨?_, ?_⟩
  ·refine ⟨rfl, ?_, rfl, ?_, ?_⟩
   ·refine JX code c ([3, 4, 2, 5, 1, 6, 7]) ?_ ?_ ?_
    ·exact hb
    ·exact J8 (by assumption) (by omega)
    ·simp
   ·refine JX code (J1 code c (([3, 4, 2, 5, 1, 6, 7]).length : Int)) ([4, 3, 5, 2, 6, 7, 1, 0]) ?_ ?_ ?_
    ·exact hb
    ·exact J8 (Jk (by assumption)) (by omega)
    ·simp
   ·refine ⟨(([3, 4, 2, 5, 1, 6, 7]).getD (J6 code c (([3, 4, 2, 5, 1, 6, 7]).length : Int)).toNat 0), (([4, 3, 5, 2, 6, 7, 1, 0]).getD (J6 code (J1 code c (([3, 4, 2, 5, 1, 6, 7]).length : Int)) (([4, 3, 5, 2, 6, 7, 1, 0]).length : Int)).toNat 0), (J1 code (J1 code c (([3, 4, 2, 5, 1, 6, 7]).length : Int)) (([4, 3, 5, 2, 6, 7, 1, 0]).length : Int)), ?_⟩
    refine ⟨?_, rfl, rfl, rfl, rfl, rfl, rfl⟩
    ·refine ⟨?_, ?_, ?_⟩
     ·exact J7D (p := fun z => 0 ≤ z ∧ z ≤ 7) [3, 4, 2, 5, 1, 6, 7] code _ (by simp) (by simp)
     ·exact J7D (p := fun z => 0 ≤ z ∧ z ≤ 7) [4, 3, 5, 2, 6, 7, 1, 0] code _ (by simp) (by simp)
     ·exact J8 (Jk (Jk (by assumption))) (by omega)
  intro n m c0 hJ
  obtain ⟨n1, n2, n7⟩ := hJ
  refine ⟨?_, ?_⟩
  ·refine ⟨rfl, ?_, ?_⟩
   ·refine JX code c0 ([10, 10, 20, 4]) ?_ ?_ ?_
    ·exact hb
    ·exact J8 (by assumption) (by omega)
    ·simp
   ·refine ⟨(([10, 10, 20, 4]).getD (J6 code c0 (([10, 10, 20, 4]).length : Int)).toNat 0), (J1 code c0 (([10, 10, 20, 4]).length : Int)), ([]), ([]), ?_⟩
    refine ⟨?_, rfl, rfl, rfl, rfl, rfl, rfl, rfl, ?_, ?_, rfl, rfl⟩
    ·refine ⟨?_, ?_, ?_, ?_⟩
     ·exact J7D (p := fun z => 1 ≤ z ∧ z ≤ 20) [10, 10, 20, 4] code _ (by simp) (by simp)
     ·exact J8 (Jk (by assumption)) (by omega)
     ·rfl
     ·rfl
    ·rfl
    rfl
  intro big c1 O0 D0 hJ
  obtain ⟨n3, n4, n5, n6⟩ := hJ
  refine ⟨?_, ?_⟩
  ·refine ⟨?_, ?_⟩
   ·refine ⟨0, c1, O0, D0, ?_⟩
    refine ⟨?_, rfl, rfl, rfl, rfl, rfl, rfl, rfl, rfl, rfl, rfl, rfl, rfl⟩
    ·refine ⟨?_, ?_, ?_, ?_, ?_⟩
     ·omega
     ·omega
     ·(simp_all; done)
     ·assumption
     ·exact J8 (by assumption) (by omega)
   ·intro a c3 O1 D1 hJ
    obtain ⟨h1, h2, h3, h4, h5⟩ := hJ
    refine ⟨id, id, rfl, id, fun _ => rfl, ?_, ?_⟩
    ·intro b1
     refine ⟨rfl, ?_, rfl, rfl, ?_, ?_, ?_⟩
     ·refine Jq code c3 big ?_ ?_
      ·exact hb
      ·exact J8 (by assumption) (by omega)
     ·omega
     ·omega
     refine ⟨(a + 1), (J1 code c3 big), (O1 ++ [(J6 code c3 big)]), D1, ?_⟩
     refine ⟨?_, ?_, rfl, rfl, rfl, rfl, rfl, rfl, rfl, rfl, rfl, rfl, ?_, rfl⟩
     ·refine ⟨?_, ?_, ?_, ?_, ?_⟩
      ·omega
      ·(simp_all <;> omega)
      ·(simp_all <;> omega)
      ·assumption
      ·exact J8 (Jk (by assumption)) (by omega)
     ·(simp only [J0n] at *; simp at *; omega)
     simp
    intro b2
    refine ⟨c3, O1, D1, ?_⟩
    refine ⟨?_, rfl, rfl, rfl, rfl, rfl, rfl, rfl, rfl, rfl, rfl⟩
    ·refine ⟨?_, ?_, ?_⟩
     ·exact J8 (by assumption) (by omega)
     ·omega
     ·assumption
  intro c4 O2 D2 hJ
  obtain ⟨j0, j1, j2⟩ := hJ
  refine ⟨?_, ?_⟩
  ·refine ⟨0, c4, O2, D2, ?_⟩
   refine ⟨?_, rfl, rfl, rfl, rfl, rfl, rfl, rfl, rfl, rfl, rfl, rfl⟩
   ·refine ⟨?_, ?_, ?_, ?_, ?_, ?_⟩
    ·omega
    ·omega
    ·(simp_all; done)
    ·omega
    ·exact J8 (by assumption) (by omega)
    ·(rw [j2]; intro r hr; cases hr)
  intro i c5 O3 D3 hJ
  obtain ⟨k1, k2, k3, k4, k5, k6⟩ := hJ
  refine ⟨id, id, rfl, id, fun _ => rfl, ?_, ?_⟩
  ·intro b3
   refine ⟨?_, ?_⟩
   ·refine ⟨([]), 0, c5, ?_⟩
    refine ⟨?_, rfl, rfl, rfl, rfl, rfl, rfl, ?_, rfl, rfl, rfl, rfl, rfl, rfl, rfl⟩
    ·refine ⟨?_, ?_, ?_, ?_, ?_⟩
     ·omega
     ·omega
     ·rfl
     ·exact J8 (by assumption) (by omega)
     ·(intro r hr; cases hr)
    rfl
   intro row a2 c6 hJ
   obtain ⟨m1, m2, m3, m4, m5⟩ := hJ
   refine ⟨?_, ?_⟩
   ·intro b4
    try simp only [nrmT] at b4
    refine ⟨?_, rfl, rfl, ?_, ?_, ?_⟩
    ·refine Jq code c6 big ?_ ?_
     ·exact hb
     ·exact J8 (by assumption) (by omega)
    ·omega
    ·omega
    refine ⟨(row ++ [(J6 code c6 big)]), (a2 + 1), (J1 code c6 big), ?_⟩
    refine ⟨?_, ?_, rfl, rfl, rfl, rfl, ?_, rfl, rfl, rfl, rfl, rfl, rfl, rfl, rfl, rfl⟩
    ·refine ⟨?_, ?_, ?_, ?_, ?_⟩
     ·omega
     ·omega
     ·(simp_all <;> omega)
     ·exact J8 (Jk (by assumption)) (by omega)
     ·refine J6S (by assumption) ?_
      have v := J0V code c6 (n := big) (by omega)
      omega
    ·(simp only [J0o]; omega)
    simp
   intro b5
   try simp only [nrmT] at b5
   refine ⟨rfl, rfl, rfl, by decide, ?_, ?_, ?_⟩
   ·omega
   ·omega
   refine ⟨(i + 1), c6, O3, (D3 ++ [row]), ?_⟩
   refine ⟨?_, ?_, rfl, rfl, rfl, rfl, rfl, rfl, rfl, rfl, rfl, rfl, ?_⟩
   ·refine ⟨?_, ?_, ?_, ?_, ?_, ?_⟩
    ·omega
    ·(simp_all <;> omega)
    ·(simp_all <;> omega)
    ·omega
    ·exact J8 (by assumption) (by omega)
    ·refine J6S (by assumption) ?_
     exact ⟨by omega, by assumption⟩
   ·(simp only [J0d] at *; simp at *; omega)
   simp
  intro b6
  refine ⟨O3, D3, c5, ?_⟩
  refine ⟨?_, rfl, rfl, rfl, rfl, rfl, rfl, rfl, rfl⟩
  ·refine ⟨?_, ?_⟩
   ·exact J8 (by assumption) (by omega)
   ·exact ⟨by omega, by omega, by assumption⟩
theorem J17 (code : List Nat) (c : Cur) (most : Int) (hb : ∀ x9 ∈ code, x9 < 256) (hc : okC c 3000000) (hm : 0 ≤ most ∧ most ≤ 7) : PKE Tryz.prog 188 76 (.sl (.bytes code)) [.int .i64 c.pos, .int .u64 c.seed] [.int .i64 most] (Jz code c most) :=
  pke_by (Q := fun u => J1t u code c most) (by kernel_rfl) Tryz.func188 @Tryz.call188 (by kernel_rfl) J4T (fun u => J5u u code c most) (by kernel_rfl) (fun u => J4L u code c most hb hc hm) (fun u => by kernel_rfl)
abbrev J05 (u : Value) (code : List Nat) (c : Cur) (most : Int) (pl : ZI) (c0 : Cur) (O0 : ZI) (D0 : ZR) (pl2 : ZI) (a : Int) (c1 : Cur) : Prop := (0 ≤ a) ∧ (a ≤ (O0.length : Int)) ∧ (pl2.length = a.toNat) ∧ (∀ y ∈ pl2, 0 ≤ y ∧ y < 20) ∧ (okC c1 (4000000 + 4 * a))
abbrev J06 (u : Value) (code : List Nat) (c : Cur) (most : Int) (pl : ZI) (c0 : Cur) (O0 : ZI) (D0 : ZR) (pl2 : ZI) (a : Int) (c1 : Cur) : Nat := (O0.length - a).toNat
abbrev J13 (u : Value) (code : List Nat) (c : Cur) (most : Int) (pl : ZI) (c0 : Cur) (O0 : ZI) (D0 : ZR) (pl1 : ZI) (c2 : Cur) : Prop := (okC c2 4001000) ∧ (pl1.length = O0.length) ∧ (∀ y ∈ pl1, 0 ≤ y ∧ y < 20)
abbrev J07 (u : Value) (code : List Nat) (c : Cur) (most : Int) (pl : ZI) (c0 : Cur) (O0 : ZI) (D0 : ZR) (pl1 : ZI) (c2 : Cur) (i : Int) (c3 : Cur) (O1 : ZI) (D1 : ZR) : Prop := (0 ≤ i) ∧ (i ≤ (D1.length : Int)) ∧ (drF O1 D1) ∧ (pl1.length = O1.length) ∧ (okC c3 (4001000 + 10 * i))
abbrev J0a (u : Value) (code : List Nat) (c : Cur) (most : Int) (pl : ZI) (c0 : Cur) (O0 : ZI) (D0 : ZR) (pl1 : ZI) (c2 : Cur) (i : Int) (c3 : Cur) (O1 : ZI) (D1 : ZR) : Nat := (D1.length - i).toNat
abbrev J08 (u : Value) (code : List Nat) (c : Cur) (most : Int) (pl : ZI) (c0 : Cur) (O0 : ZI) (D0 : ZR) (pl1 : ZI) (c2 : Cur) (i : Int) (c3 : Cur) (O1 : ZI) (D1 : ZR) (x : Int) (c5 : Cur) (a2 : Int) (D2 : ZR) : Prop := (0 ≤ a2) ∧ (a2 ≤ (O1.length : Int)) ∧ (drF O1 D2) ∧ (D2.length = D1.length)
abbrev J09 (u : Value) (code : List Nat) (c : Cur) (most : Int) (pl : ZI) (c0 : Cur) (O0 : ZI) (D0 : ZR) (pl1 : ZI) (c2 : Cur) (i : Int) (c3 : Cur) (O1 : ZI) (D1 : ZR) (x : Int) (c5 : Cur) (a2 : Int) (D2 : ZR) : Nat := (O1.length - a2).toNat
abbrev J12 (u : Value) (code : List Nat) (c : Cur) (most : Int) (pl : ZI) (c0 : Cur) (O0 : ZI) (D0 : ZR) : Prop := (pl = []) ∧ (okC c0 4000000) ∧ (drF O0 D0)
abbrev J11 (u : Value) (code : List Nat) (c : Cur) (most : Int) (pl : ZI) (c0 : Cur) (O0 : ZI) (D0 : ZR) (pl1 : ZI) (c2 : Cur) (i : Int) (c3 : Cur) (O1 : ZI) (D1 : ZR) (x : Int) (c5 : Cur) : Prop := (0 ≤ x ∧ x < 20) ∧ (okC c5 (4001010 + 10 * i))
abbrev J1l (code : List Nat) (c : Cur) (most : Int) (O : ZI) (D : ZR) (cg : Cur) : Prop := (okC cg 6000000) ∧ (drF O D)
def J1m (code : List Nat) (c : Cur) (most : Int) : Ex := ex3 1 (fun (O : ZI) (D : ZR) (cg : Cur) => J1l code c most O D cg) (fun (O : ZI) (D : ZR) (cg : Cur) => [.int .i64 cg.pos, .int .u64 cg.seed]) (fun (O : ZI) (D : ZR) (cg : Cur) => .agg [.own 3 (.ints O), .mat 3 24 D])
def J4H (f : FuncId) (ds : List D) : Orc := bif Nat.beq f 154 then J9X ds else .no
def J4D (u : Value) (code : List Nat) (c : Cur) (most : Int) : Ann := .two (.none) (.cut (.exr (.ex [] 2 (Jz code c most) (fun g => (fun (Or1 : ZI) (Dr1 : ZR) (cfr1 : Cur) => .ms [] []) (g.1) (g.2.1) (g.2.2)))) (cut4 (fun (pl : ZI) (c0 : Cur) (O0 : ZI) (D0 : ZR) => J12 u code c most pl c0 O0 D0) (fun (pl : ZI) (c0 : Cur) (O0 : ZI) (D0 : ZR) => [(0, .ptr 0 0), (4, .ptr 4 0), (5, .ptr 5 0), (6, .own 1500100 pl.length)]) (fun (pl : ZI) (c0 : Cur) (O0 : ZI) (D0 : ZR) => [(1500100, .arr true 3 (.ints pl)), (0, .box 76 [.d false (.lit u (.sl (.bytes code))), .d true (.int .i64 c0.pos), .d true (.int .u64 c0.seed)]), (4, .box 27 [.d true (.nil), .d true (.nil)]), (1500102, .arr true 3 (.ints O0)), (1500103, .mat 3 24 D0 none), (5, .box 27 [.own 1500102 O0.length, .own 1500103 D0.length])])) (fun g => (fun (pl : ZI) (c0 : Cur) (O0 : ZI) (D0 : ZR) => .cut (.two (.none) (.loop (cut3 (fun (pl2 : ZI) (a : Int) (c1 : Cur) => J05 u code c most pl c0 O0 D0 pl2 a c1) (fun (pl2 : ZI) (a : Int) (c1 : Cur) => [(0, .ptr 0 0), (4, .ptr 4 0), (5, .ptr 5 0), (6, .own 1000000 pl2.length), (7, .d true (.int .i64 a))]) (fun (pl2 : ZI) (a : Int) (c1 : Cur) => [(1000000, .arr true 3 (.ints pl2)), (0, .box 76 [.d false (.lit u (.sl (.bytes code))), .d true (.int .i64 c1.pos), .d true (.int .u64 c1.seed)]), (4, .box 27 [.d true (.nil), .d true (.nil)]), (5, .box 27 [.own 1500102 O0.length, .own 1500103 D0.length]), (1500102, .arr true 3 (.ints O0)), (1500103, .mat 3 24 D0 none)])) (fun g => J06 u code c most pl c0 O0 D0 g.1 g.2.1 g.2.2) (fun g => (fun (pl2 : ZI) (a : Int) (c1 : Cur) => .two (.none) (.two (.mark [] [(2, .cell [.int .i64 ((J1 code c1 20).pos), .int .u64 ((J1 code c1 20).seed)] (.one (.d (.int .i64 (J6 code c1 20)))))]) (.none))) (g.1) (g.2.1) (g.2.2)))) (cut2 (fun (pl1 : ZI) (c2 : Cur) => J13 u code c most pl c0 O0 D0 pl1 c2) (fun (pl1 : ZI) (c2 : Cur) => [(0, .ptr 0 0), (4, .ptr 4 0), (5, .ptr 5 0), (6, .own 1000050 pl1.length)]) (fun (pl1 : ZI) (c2 : Cur) => [(1000050, .arr true 3 (.ints pl1)), (0, .box 76 [.d false (.lit u (.sl (.bytes code))), .d true (.int .i64 c2.pos), .d true (.int .u64 c2.seed)]), (4, .box 27 [.d true (.nil), .d true (.nil)]), (5, .box 27 [.own 1500102 O0.length, .own 1500103 D0.length]), (1500102, .arr true 3 (.ints O0)), (1500103, .mat 3 24 D0 none)])) (fun g => (fun (pl1 : ZI) (c2 : Cur) => .two (.two (.none) (.loop (cut4 (fun (i : Int) (c3 : Cur) (O1 : ZI) (D1 : ZR) => J07 u code c most pl c0 O0 D0 pl1 c2 i c3 O1 D1) (fun (i : Int) (c3 : Cur) (O1 : ZI) (D1 : ZR) => [(0, .ptr 0 0), (4, .ptr 4 0), (5, .ptr 5 0), (6, .own 1000050 pl1.length), (8, .d true (.int .i64 i))]) (fun (i : Int) (c3 : Cur) (O1 : ZI) (D1 : ZR) => [(0, .box 76 [.d false (.lit u (.sl (.bytes code))), .d true (.int .i64 c3.pos), .d true (.int .u64 c3.seed)]), (4, .box 27 [.d true (.nil), .d true (.nil)]), (1000102, .arr true 3 (.ints O1)), (1000103, .mat 3 24 D1 none), (5, .box 27 [.own 1000102 O1.length, .own 1000103 D1.length]), (1000050, .arr true 3 (.ints pl1))])) (fun g => J0a u code c most pl c0 O0 D0 pl1 c2 g.1 g.2.1 g.2.2.1 g.2.2.2) (fun g => (fun (i : Int) (c3 : Cur) (O1 : ZI) (D1 : ZR) => .two (.none) (.two (.cut (.mark [] [(1, .cell [.int .i64 ((J1 code c3 20).pos), .int .u64 ((J1 code c3 20).seed)] (.one (.d (.int .i64 (J6 code c3 20)))))]) (cut2 (fun (x : Int) (c5 : Cur) => J11 u code c most pl c0 O0 D0 pl1 c2 i c3 O1 D1 x c5) (fun (x : Int) (c5 : Cur) => [(0, .ptr 0 0), (4, .ptr 4 0), (5, .ptr 5 0), (6, .own 1000050 pl1.length), (8, .d true (.int .i64 i)), (9, .d true (.int .i64 x))]) (fun (x : Int) (c5 : Cur) => [(0, .box 76 [.d false (.lit u (.sl (.bytes code))), .d true (.int .i64 c5.pos), .d true (.int .u64 c5.seed)]), (4, .box 27 [.d true (.nil), .d true (.nil)]), (5, .box 27 [.own 1000102 O1.length, .own 1000103 D1.length]), (1000050, .arr true 3 (.ints pl1)), (1000102, .arr true 3 (.ints O1)), (1000103, .mat 3 24 D1 none)])) (fun g => (fun (x : Int) (c5 : Cur) => .two (.none) (.loop (cut2 (fun (a2 : Int) (D2 : ZR) => J08 u code c most pl c0 O0 D0 pl1 c2 i c3 O1 D1 x c5 a2 D2) (fun (a2 : Int) (D2 : ZR) => [(0, .ptr 0 0), (4, .ptr 4 0), (5, .ptr 5 0), (6, .own 1000050 pl1.length), (8, .d true (.int .i64 i)), (9, .d true (.int .i64 x)), (10, .d true (.int .i64 a2))]) (fun (a2 : Int) (D2 : ZR) => [(0, .box 76 [.d false (.lit u (.sl (.bytes code))), .d true (.int .i64 c5.pos), .d true (.int .u64 c5.seed)]), (4, .box 27 [.d true (.nil), .d true (.nil)]), (1000201, .mat 3 24 D2 none), (5, .box 27 [.own 1000102 O1.length, .own 1000201 D2.length]), (1000050, .arr true 3 (.ints pl1)), (1000102, .arr true 3 (.ints O1))])) (fun g => J09 u code c most pl c0 O0 D0 pl1 c2 i c3 O1 D1 x c5 g.1 g.2) (fun _ => .none))) (g.1) (g.2))) (.none))) (g.1) (g.2.1) (g.2.2.1) (g.2.2.2)))) (.none)) (g.1) (g.2))) (g.1) (g.2.1) (g.2.2.1) (g.2.2.2)))
def J1h (u : Value) (code : List Nat) (c : Cur) (most : Int) : Prop :=
  (((PKE Tryz.prog 188 76 (.sl (.bytes code)) [.int .i64 c.pos, .int .u64 c.seed] [.int .i64 most] (Jz code c most)) ∧ (∀ Or1 : ZI, ∀ Dr1 : ZR, ∀ cfr1 : Cur, J04 code c most Or1 Dr1 cfr1 → ((true = true) ∧ (∃ pl' : ZI, ∃ c0' : Cur, ∃ O0' : ZI, ∃ D0' : ZR, (J12 u code c most pl' c0' O0' D0') ∧ ((0 : Nat) = pl'.length) ∧ ([] = pl') ∧ ((.lit u (.sl (.bytes code)) : D) = .lit u (.sl (.bytes code))) ∧ (cfr1.pos = c0'.pos) ∧ (cfr1.seed = c0'.seed) ∧ (Or1 = O0') ∧ (Dr1 = D0') ∧ (Or1.length = O0'.length) ∧ (Dr1.length = D0'.length))))) ∧ (∀ pl : ZI, ∀ c0 : Cur, ∀ O0 : ZI, ∀ D0 : ZR, (J12 u code c most pl c0 O0 D0) → ((((∃ pl2' : ZI, ∃ a' : Int, ∃ c1' : Cur, (J05 u code c most pl c0 O0 D0 pl2' a' c1') ∧ (pl.length = pl2'.length) ∧ ((0 : Int) = a') ∧ (pl = pl2') ∧ ((.lit u (.sl (.bytes code)) : D) = .lit u (.sl (.bytes code))) ∧ (c0.pos = c1'.pos) ∧ (c0.seed = c1'.seed) ∧ (O0.length = O0.length) ∧ (D0.length = D0.length) ∧ (O0 = O0) ∧ (D0 = D0)) ∧ (∀ pl2 : ZI, ∀ a : Int, ∀ c1 : Cur, (J05 u code c most pl c0 O0 D0 pl2 a c1) → (((decide (a < (O0.length : Int))) = true → (PK Tryz.prog 156 76 (.sl (.bytes code)) [.int .i64 c1.pos, .int .u64 c1.seed] [.int .i64 ((J1 code c1 20).pos), .int .u64 ((J1 code c1 20).seed)] [.int .i64 20] (.one (.d (.int .i64 (J6 code c1 20))))) ∧ (pl2.length = pl2.length) ∧ ((1 : Nat) = 1) ∧ ((pl2.length + 1) * 8 ≤ 140737488355328) ∧ (I6 (a + 1)) ∧ (∃ pl2' : ZI, ∃ a' : Int, ∃ c1' : Cur, (J05 u code c most pl c0 O0 D0 pl2' a' c1') ∧ (J06 u code c most pl c0 O0 D0 pl2' a' c1' < J06 u code c most pl c0 O0 D0 pl2 a c1) ∧ ((pl2.length + 1) = pl2'.length) ∧ ((a + 1) = a') ∧ ((pl2 ++ [(J6 code c1 20)]) = pl2') ∧ ((.lit u (.sl (.bytes code)) : D) = .lit u (.sl (.bytes code))) ∧ ((J1 code c1 20).pos = c1'.pos) ∧ ((J1 code c1 20).seed = c1'.seed) ∧ (O0.length = O0.length) ∧ (D0.length = D0.length) ∧ (O0 = O0) ∧ (D0 = D0))) ∧ ((decide (a < (O0.length : Int))) = false → (∃ pl1' : ZI, ∃ c2' : Cur, (J13 u code c most pl c0 O0 D0 pl1' c2') ∧ (pl2.length = pl1'.length) ∧ (pl2 = pl1') ∧ ((.lit u (.sl (.bytes code)) : D) = .lit u (.sl (.bytes code))) ∧ (c1.pos = c2'.pos) ∧ (c1.seed = c2'.seed) ∧ (O0.length = O0.length) ∧ (D0.length = D0.length) ∧ (O0 = O0) ∧ (D0 = D0))))))) ∧ (∀ pl1 : ZI, ∀ c2 : Cur, (J13 u code c most pl c0 O0 D0 pl1 c2) → ((∃ i' : Int, ∃ c3' : Cur, ∃ O1' : ZI, ∃ D1' : ZR, (J07 u code c most pl c0 O0 D0 pl1 c2 i' c3' O1' D1') ∧ (pl1.length = pl1.length) ∧ ((0 : Int) = i') ∧ ((.lit u (.sl (.bytes code)) : D) = .lit u (.sl (.bytes code))) ∧ (c2.pos = c3'.pos) ∧ (c2.seed = c3'.seed) ∧ (O0 = O1') ∧ (D0 = D1') ∧ (O0.length = O1'.length) ∧ (D0.length = D1'.length) ∧ (pl1 = pl1)) ∧ (∀ i : Int, ∀ c3 : Cur, ∀ O1 : ZI, ∀ D1 : ZR, (J07 u code c most pl c0 O0 D0 pl1 c2 i c3 O1 D1) → (((decide (i < (D1.length : Int))) = true → (((PK Tryz.prog 156 76 (.sl (.bytes code)) [.int .i64 c3.pos, .int .u64 c3.seed] [.int .i64 ((J1 code c3 20).pos), .int .u64 ((J1 code c3 20).seed)] [.int .i64 20] (.one (.d (.int .i64 (J6 code c3 20))))) ∧ (∃ x' : Int, ∃ c5' : Cur, (J11 u code c most pl c0 O0 D0 pl1 c2 i c3 O1 D1 x' c5') ∧ (pl1.length = pl1.length) ∧ (i = i) ∧ ((J6 code c3 20) = x') ∧ ((.lit u (.sl (.bytes code)) : D) = .lit u (.sl (.bytes code))) ∧ ((J1 code c3 20).pos = c5'.pos) ∧ ((J1 code c3 20).seed = c5'.seed) ∧ (O1.length = O1.length) ∧ (D1.length = D1.length) ∧ (pl1 = pl1) ∧ (O1 = O1) ∧ (D1 = D1))) ∧ (∀ x : Int, ∀ c5 : Cur, (J11 u code c most pl c0 O0 D0 pl1 c2 i c3 O1 D1 x c5) → ((∃ a2' : Int, ∃ D2' : ZR, (J08 u code c most pl c0 O0 D0 pl1 c2 i c3 O1 D1 x c5 a2' D2') ∧ (pl1.length = pl1.length) ∧ (i = i) ∧ (x = x) ∧ ((0 : Int) = a2') ∧ ((.lit u (.sl (.bytes code)) : D) = .lit u (.sl (.bytes code))) ∧ (c5.pos = c5.pos) ∧ (c5.seed = c5.seed) ∧ (D1 = D2') ∧ (O1.length = O1.length) ∧ (D1.length = D2'.length) ∧ (pl1 = pl1) ∧ (O1 = O1)) ∧ (∀ a2 : Int, ∀ D2 : ZR, (J08 u code c most pl c0 O0 D0 pl1 c2 i c3 O1 D1 x c5 a2 D2) → (((decide (a2 < (O1.length : Int))) = true → (true = true) ∧ ((0 : Int) ≤ i) ∧ ((i : Int) < (D2.length : Int)) ∧ (i.toNat < D2.length) ∧ ((0 : Int) ≤ a2) ∧ ((a2 : Int) < (pl1.length : Int)) ∧ (a2.toNat < pl1.length) ∧ (I6 (x - (pl1.getD a2.toNat 0))) ∧ ((0 : Int) ≤ a2) ∧ ((a2 : Int) < (pl1.length : Int)) ∧ (a2.toNat < pl1.length) ∧ (I6 ((pl1.getD a2.toNat 0) - x)) ∧ (PC Tryz.prog 154 [.int .i64 (x - (pl1.getD a2.toNat 0)), .int .i64 ((pl1.getD a2.toNat 0) - x)] (.one (.d (.int .i64 (max (x - (pl1.getD a2.toNat 0)) ((pl1.getD a2.toNat 0) - x)))))) ∧ ((0 : Int) ≤ a2) ∧ ((a2 : Int) < (((D2.getD i.toNat []).length) : Int)) ∧ (i.toNat < D2.length) ∧ (a2.toNat < (D2.getD i.toNat []).length) ∧ (I6 (a2 + 1)) ∧ (∃ a2' : Int, ∃ D2' : ZR, (J08 u code c most pl c0 O0 D0 pl1 c2 i c3 O1 D1 x c5 a2' D2') ∧ (J09 u code c most pl c0 O0 D0 pl1 c2 i c3 O1 D1 x c5 a2' D2' < J09 u code c most pl c0 O0 D0 pl1 c2 i c3 O1 D1 x c5 a2 D2) ∧ (pl1.length = pl1.length) ∧ (i = i) ∧ (x = x) ∧ ((a2 + 1) = a2') ∧ ((.lit u (.sl (.bytes code)) : D) = .lit u (.sl (.bytes code))) ∧ (c5.pos = c5.pos) ∧ (c5.seed = c5.seed) ∧ ((D2.set i.toNat ((D2.getD i.toNat []).set a2.toNat (max (x - (pl1.getD a2.toNat 0)) ((pl1.getD a2.toNat 0) - x)))) = D2') ∧ (O1.length = O1.length) ∧ (D2.length = D2'.length) ∧ (pl1 = pl1) ∧ (O1 = O1))) ∧ ((decide (a2 < (O1.length : Int))) = false → (I6 (i + 1)) ∧ (∃ i' : Int, ∃ c3' : Cur, ∃ O1' : ZI, ∃ D1' : ZR, (J07 u code c most pl c0 O0 D0 pl1 c2 i' c3' O1' D1') ∧ (J0a u code c most pl c0 O0 D0 pl1 c2 i' c3' O1' D1' < J0a u code c most pl c0 O0 D0 pl1 c2 i c3 O1 D1) ∧ (pl1.length = pl1.length) ∧ ((i + 1) = i') ∧ ((.lit u (.sl (.bytes code)) : D) = .lit u (.sl (.bytes code))) ∧ (c5.pos = c3'.pos) ∧ (c5.seed = c3'.seed) ∧ (O1 = O1') ∧ (D2 = D1') ∧ (O1.length = O1'.length) ∧ (D2.length = D1'.length) ∧ (pl1 = pl1))))))))) ∧ ((decide (i < (D1.length : Int))) = false → (∃ O' : ZI, ∃ D' : ZR, ∃ cg' : Cur, (J1l code c most O' D' cg') ∧ (true = true) ∧ ((.lit u (.sl (.bytes code)) : D) = .lit u (.sl (.bytes code))) ∧ (c3.pos = cg'.pos) ∧ (c3.seed = cg'.seed) ∧ (O1.length = O1.length) ∧ ((O1 : ZI) = O') ∧ (D1.length = D1.length) ∧ ((D1 : ZR) = D'))))))))))
theorem J4m (u : Value) (code : List Nat) (c : Cur) (most : Int) (hb : ∀ x9 ∈ code, x9 < 256) (hc : okC c 3000000) (hm : 0 ≤ most ∧ most ≤ 7)  : J1h u code c most := by
  unfold J1h
  refine ⟨?_, ?_⟩
  ·refine ⟨?_, ?_⟩
   ·refine J17 code c most ?_ ?_ ?_
    ·exact hb
    ·exact J8 (by assumption) (by omega)
    ·omega
   ·intro Or1 Dr1 cfr1 hQ9
    obtain ⟨f1r1, f2r1⟩ := hQ9
    refine ⟨rfl, ?_⟩
    ·refine ⟨([]), cfr1, Or1, Dr1, ?_⟩
     refine ⟨?_, rfl, ?_, rfl, rfl, rfl, rfl, rfl, rfl, rfl⟩
     ·refine ⟨?_, ?_, ?_⟩
      ·rfl
      ·exact J8 (by assumption) (by omega)
      ·assumption
     rfl
  intro pl c0 O0 D0 hJ
  obtain ⟨p1, p2, d0⟩ := hJ
  refine ⟨?_, ?_⟩
  ·refine ⟨?_, ?_⟩
   ·refine ⟨pl, 0, c0, ?_⟩
    refine ⟨?_, rfl, rfl, rfl, rfl, rfl, rfl, rfl, rfl, rfl, rfl⟩
    ·refine ⟨?_, ?_, ?_, ?_, ?_⟩
     ·omega
     ·omega
     ·(simp_all; done)
     ·(rw [p1]; intro y hy; cases hy)
     ·exact J8 (by assumption) (by omega)
   ·intro pl2 a c1 hJ
    obtain ⟨h1, h2, h3, h4, h5⟩ := hJ
    refine ⟨?_, ?_⟩
    ·intro b1
     try simp only [nrmT] at b1
     refine ⟨?_, rfl, rfl, ?_, ?_, ?_⟩
     ·refine Jq code c1 20 ?_ ?_
      ·exact hb
      ·(have q9 := d0.1; exact J8 (by repeat (first | assumption | apply J5x | apply Jk | apply J0F | exact J9g)) (by omega))
     ·have q := d0.1; omega
     ·(have q := d0.1; omega)
     refine ⟨(pl2 ++ [(J6 code c1 20)]), (a + 1), (J1 code c1 20), ?_⟩
     refine ⟨?_, ?_, ?_, rfl, rfl, rfl, rfl, rfl, rfl, rfl, rfl, rfl⟩
     ·refine ⟨?_, ?_, ?_, ?_, ?_⟩
      ·omega
      ·omega
      ·(simp_all <;> omega)
      ·refine J6S (by assumption) ?_
       exact J0V code c1 (n := 20) (by omega)
      ·exact J8 (Jk (by assumption)) (by omega)
     ·(simp only [J06]; omega)
     simp
    intro b2
    try simp only [nrmT] at b2
    refine ⟨pl2, c1, ?_⟩
    refine ⟨?_, rfl, rfl, rfl, rfl, rfl, rfl, rfl, rfl, rfl⟩
    ·refine ⟨?_, ?_, ?_⟩
     ·(have q9 := d0.1; exact J8 (by repeat (first | assumption | apply J5x | apply Jk | apply J0F | exact J9g)) (by omega))
     ·omega
     ·assumption
  intro pl1 c2 hJ
  obtain ⟨p4, p5, p3⟩ := hJ
  refine ⟨?_, ?_⟩
  ·refine ⟨0, c2, O0, D0, ?_⟩
   refine ⟨?_, rfl, rfl, rfl, rfl, rfl, rfl, rfl, rfl, rfl, rfl⟩
   ·refine ⟨?_, ?_, ?_, ?_, ?_⟩
    ·omega
    ·omega
    ·assumption
    ·omega
    ·exact J8 (by assumption) (by omega)
  intro i c3 O1 D1 hJ
  obtain ⟨k1, k2, d1, k6, k5⟩ := hJ
  refine ⟨?_, ?_⟩
  ·intro b3
   try simp only [nrmT] at b3
   refine ⟨?_, ?_⟩
   ·refine ⟨?_, ?_⟩
    ·refine Jq code c3 20 ?_ ?_
     ·exact hb
     ·(have q9 := d1.2.1; exact J8 (by repeat (first | assumption | apply J5x | apply Jk | apply J0F | exact J9g)) (by omega))
    ·refine ⟨(J6 code c3 20), (J1 code c3 20), ?_⟩
     refine ⟨?_, rfl, rfl, rfl, rfl, rfl, rfl, rfl, rfl, rfl, rfl, rfl⟩
     ·refine ⟨?_, ?_⟩
      ·exact J0V code _ (n := 20) (by omega)
      ·exact J8 (Jk (by assumption)) (by omega)
   intro x c5 hJ
   obtain ⟨x1, x2⟩ := hJ
   refine ⟨?_, ?_⟩
   ·refine ⟨0, D1, ?_⟩
    refine ⟨?_, rfl, rfl, rfl, rfl, rfl, rfl, rfl, rfl, rfl, rfl, rfl, rfl⟩
    ·refine ⟨?_, ?_, ?_, ?_⟩
     ·omega
     ·have := d1.1; omega
     ·assumption
     ·omega
   intro a2 D2 hJ
   obtain ⟨m1, m2, d2, m3⟩ := hJ
   refine ⟨?_, ?_⟩
   ·intro b4
    try simp only [nrmT] at b4
    refine ⟨rfl, ?_, ?_, ?_, ?_, ?_, ?_, ?_, ?_, ?_, ?_, ?_, Jaq (x - (pl1.getD a2.toNat 0)) ((pl1.getD a2.toNat 0) - x), ?_, ?_, ?_, ?_, ?_, ?_⟩
    ·omega
    ·omega
    ·omega
    ·omega
    ·omega
    ·omega
    ·have q := p3 _ (getD_mem (d := 0) (show a2.toNat < pl1.length by omega))
     have q2 := x1
     omega
    ·omega
    ·omega
    ·omega
    ·have q := p3 _ (getD_mem (d := 0) (show a2.toNat < pl1.length by omega))
     have q2 := x1
     omega
    ·omega
    ·have q := (Ja d2 (i := i.toNat) (a := a2.toNat) (by omega) (by omega)).1
     omega
    ·omega
    ·have q := (Ja d2 (i := i.toNat) (a := a2.toNat) (by omega) (by omega)).1
     omega
    ·(have q := d1.1; have q2 := d1.2.1; omega)
    refine ⟨(a2 + 1), (D2.set i.toNat ((D2.getD i.toNat []).set a2.toNat (max (x - (pl1.getD a2.toNat 0)) ((pl1.getD a2.toNat 0) - x)))), ?_⟩
    refine ⟨?_, ?_, rfl, rfl, rfl, rfl, rfl, rfl, rfl, rfl, rfl, ?_, rfl, rfl⟩
    ·refine ⟨?_, ?_, ?_, ?_⟩
     ·omega
     ·have := d1.1; omega
     ·refine JaC (by assumption) (by omega) ?_
      have q := p3 _ (getD_mem (d := 0) (show a2.toNat < pl1.length by omega))
      omega
     ·simp; try omega
    ·(simp only [J09]; omega)
    (simp_all; done)
   intro b5
   try simp only [nrmT] at b5
   refine ⟨?_, ?_⟩
   ·(have q := d1.1; have q2 := d1.2.1; omega)
   refine ⟨(i + 1), c5, O1, D2, ?_⟩
   refine ⟨?_, ?_, rfl, rfl, rfl, rfl, rfl, rfl, rfl, rfl, rfl, rfl⟩
   ·refine ⟨?_, ?_, ?_, ?_, ?_⟩
    ·omega
    ·omega
    ·assumption
    ·have := d1.1; omega
    ·exact J8 (by assumption) (by omega)
   (simp only [J0a]; omega)
  intro b6
  try simp only [nrmT] at b6
  refine ⟨O1, D1, c3, ?_⟩
  refine ⟨?_, rfl, rfl, rfl, rfl, rfl, rfl, rfl, rfl⟩
  ·refine ⟨?_, ?_⟩
   ·(have q9 := d1.2.1; exact J8 (by repeat (first | assumption | apply J5x | apply Jk | apply J0F | exact J9g)) (by omega))
   ·assumption
theorem J4i (code : List Nat) (c : Cur) (most : Int) (hb : ∀ x9 ∈ code, x9 < 256) (hc : okC c 3000000) (hm : 0 ≤ most ∧ most ≤ 7) : PKE Tryz.prog 186 76 (.sl (.bytes code)) [.int .i64 c.pos, .int .u64 c.seed] [.int .i64 most] (J1m code c most) :=
  pke_by (Q := fun u => J1h u code c most) (by kernel_rfl) Tryz.func186 @Tryz.call186 (by kernel_rfl) J4H (fun u => J4D u code c most) (by kernel_rfl) (fun u => J4m u code c most hb hc hm) (fun u => by kernel_rfl)
abbrev J0y (u : Value) (code : List Nat) (c : Cur) (U : ZI) (E : ZR) (aa : Int) (c1 : Cur) (O1 : ZI) (D1 : ZR) : Prop := (D1.length ≤ 8) ∧ (O1.length ≤ 7)
abbrev J0z (u : Value) (code : List Nat) (c : Cur) (U : ZI) (E : ZR) (aa : Int) (c1 : Cur) (O1 : ZI) (D1 : ZR) : Nat := 8 - D1.length
abbrev J1j (u : Value) (code : List Nat) (c : Cur) (U : ZI) (E : ZR) (aa : Int) (c1 : Cur) : Prop := (0 ≤ aa ∧ aa < (U.length : Int)) ∧ (okC c1 7000100)
abbrev Jg (code : List Nat) (c : Cur) (U : ZI) (E : ZR) (O : ZI) (D : ZR) (ch : Cur) : Prop := (okC ch 8000000) ∧ (O.length ≤ 8) ∧ (D.length ≤ 8)
def JF (code : List Nat) (c : Cur) (U : ZI) (E : ZR) : Ex := ex3 2 (fun (O : ZI) (D : ZR) (ch : Cur) => Jg code c U E O D ch) (fun (O : ZI) (D : ZR) (ch : Cur) => [.int .i64 ch.pos, .int .u64 ch.seed]) (fun (O : ZI) (D : ZR) (ch : Cur) => .agg [.own 3 (.ints O), .mat 3 24 D])
def J5E (f : FuncId) (ds : List D) : Orc := bif Nat.beq f 98 then J6g ds else .no
def J5Y (u : Value) (code : List Nat) (c : Cur) (U : ZI) (E : ZR) : Ann := .two (.none) (.two (.none) (.cut (.mark [] [(4, .cell [.int .i64 ((J1 code c (U.length : Int)).pos), .int .u64 ((J1 code c (U.length : Int)).seed)] (.one (.d (.int .i64 (J6 code c (U.length : Int))))))]) (cut2 (fun (aa : Int) (c1 : Cur) => J1j u code c U E aa c1) (fun (aa : Int) (c1 : Cur) => [(0, .ptr 0 0), (3, .ptr 3 0), (4, .ptr 4 0), (5, .d true (.int .i64 aa))]) (fun (aa : Int) (c1 : Cur) => [(0, .box 76 [.d false (.lit u (.sl (.bytes code))), .d true (.int .i64 c1.pos), .d true (.int .u64 c1.seed)]), (3, .box 27 [.own 1 U.length, .own 2 E.length]), (4, .box 27 [.d true (.nil), .d true (.nil)]), (1, .arr true 3 (.ints U)), (2, .mat 3 24 E none)])) (fun g => (fun (aa : Int) (c1 : Cur) => .two (.two (.mark [] [(1, .cell [.int .i64 ((J1 code c1 60).pos), .int .u64 ((J1 code c1 60).seed)] (.one (.d (.int .i64 (J6 code c1 60)))))]) (.two (.none) (.two (.reg [(5, .cell [.int .i64 ((J1 code (J1 code c1 60) (([(-1), 99, 100, 4611686018427387904]).length : Int)).pos), .int .u64 ((J1 code (J1 code c1 60) (([(-1), 99, 100, 4611686018427387904]).length : Int)).seed)] (.one (.d (.int .i64 (([(-1), 99, 100, 4611686018427387904]).getD (J6 code (J1 code c1 60) (([(-1), 99, 100, 4611686018427387904]).length : Int)).toNat 0)))))]) (.two (.none) (.two (.two (.none) (.two (.reg [(7, .cell [.int .i64 ((J1 code (J1 code c1 60) (([(-1), 99, 100, (-9223372036854775808)]).length : Int)).pos), .int .u64 ((J1 code (J1 code c1 60) (([(-1), 99, 100, (-9223372036854775808)]).length : Int)).seed)] (.one (.d (.int .i64 (([(-1), 99, 100, (-9223372036854775808)]).getD (J6 code (J1 code c1 60) (([(-1), 99, 100, (-9223372036854775808)]).length : Int)).toNat 0)))))]) (.none))) (.two (.none) (.two (.none) (.two (.none) (.two (.loop (cut2 (fun (O1 : ZI) (D1 : ZR) => J0y u code c U E aa c1 O1 D1) (fun (O1 : ZI) (D1 : ZR) => [(0, .ptr 0 0), (3, .ptr 3 0), (4, .ptr 4 0)]) (fun (O1 : ZI) (D1 : ZR) => [(0, .box 76 [.d false (.lit u (.sl (.bytes code))), .d true (.int .i64 ((J1 code c1 60).pos)), .d true (.int .u64 ((J1 code c1 60).seed))]), (1000000, .arr true 3 (.ints O1)), (1000001, .mat 3 24 D1 none), (3, .box 27 [.own 1000000 O1.length, .own 1000001 D1.length]), (4, .box 27 [.d true (.nil), .d true (.nil)])])) (fun g => J0z u code c U E aa c1 g.1 g.2) (fun _ => .none)) (.none)))))))))) (.none)) (g.1) (g.2))))
def J1V (u : Value) (code : List Nat) (c : Cur) (U : ZI) (E : ZR) : Prop :=
  ((((U.length : Int) == 0) = true → (∃ O' : ZI, ∃ D' : ZR, ∃ ch' : Cur, (Jg code c U E O' D' ch') ∧ (true = true) ∧ ((.lit u (.sl (.bytes code)) : D) = .lit u (.sl (.bytes code))) ∧ (c.pos = ch'.pos) ∧ (c.seed = ch'.seed) ∧ (U.length = U.length) ∧ ((U : ZI) = O') ∧ (E.length = E.length) ∧ ((E : ZR) = D'))) ∧ (((U.length : Int) == 0) = false → (((PK Tryz.prog 156 76 (.sl (.bytes code)) [.int .i64 c.pos, .int .u64 c.seed] [.int .i64 ((J1 code c (U.length : Int)).pos), .int .u64 ((J1 code c (U.length : Int)).seed)] [.int .i64 (U.length : Int)] (.one (.d (.int .i64 (J6 code c (U.length : Int)))))) ∧ (∃ aa' : Int, ∃ c1' : Cur, (J1j u code c U E aa' c1') ∧ ((J6 code c (U.length : Int)) = aa') ∧ ((.lit u (.sl (.bytes code)) : D) = .lit u (.sl (.bytes code))) ∧ ((J1 code c (U.length : Int)).pos = c1'.pos) ∧ ((J1 code c (U.length : Int)).seed = c1'.seed) ∧ (U.length = U.length) ∧ (E.length = E.length) ∧ (U = U) ∧ (E = E))) ∧ (∀ aa : Int, ∀ c1 : Cur, (J1j u code c U E aa c1) → (PK Tryz.prog 156 76 (.sl (.bytes code)) [.int .i64 c1.pos, .int .u64 c1.seed] [.int .i64 ((J1 code c1 60).pos), .int .u64 ((J1 code c1 60).seed)] [.int .i64 60] (.one (.d (.int .i64 (J6 code c1 60))))) ∧ ((((J6 code c1 60) == 0) = true → (true = true) ∧ ((4 : Nat) = 4) ∧ (PK Tryz.prog 155 76 (.sl (.bytes code)) [.int .i64 ((J1 code c1 60).pos), .int .u64 ((J1 code c1 60).seed)] [.int .i64 ((J1 code (J1 code c1 60) (([(-1), 99, 100, 4611686018427387904]).length : Int)).pos), .int .u64 ((J1 code (J1 code c1 60) (([(-1), 99, 100, 4611686018427387904]).length : Int)).seed)] [.sl (.ints ([(-1), 99, 100, 4611686018427387904]))] (.one (.d (.int .i64 (([(-1), 99, 100, 4611686018427387904]).getD (J6 code (J1 code c1 60) (([(-1), 99, 100, 4611686018427387904]).length : Int)).toNat 0))))) ∧ ((0 : Int) ≤ aa) ∧ ((aa : Int) < (U.length : Int)) ∧ (aa.toNat < U.length) ∧ (∃ O' : ZI, ∃ D' : ZR, ∃ ch' : Cur, (Jg code c U E O' D' ch') ∧ (true = true) ∧ ((.lit u (.sl (.bytes code)) : D) = .lit u (.sl (.bytes code))) ∧ ((J1 code (J1 code c1 60) (([(-1), 99, 100, 4611686018427387904]).length : Int)).pos = ch'.pos) ∧ ((J1 code (J1 code c1 60) (([(-1), 99, 100, 4611686018427387904]).length : Int)).seed = ch'.seed) ∧ (U.length = (U.set aa.toNat (([(-1), 99, 100, 4611686018427387904]).getD (J6 code (J1 code c1 60) (([(-1), 99, 100, 4611686018427387904]).length : Int)).toNat 0)).length) ∧ (((U.set aa.toNat (([(-1), 99, 100, 4611686018427387904]).getD (J6 code (J1 code c1 60) (([(-1), 99, 100, 4611686018427387904]).length : Int)).toNat 0)) : ZI) = O') ∧ (E.length = E.length) ∧ ((E : ZR) = D'))) ∧ (((J6 code c1 60) == 0) = false → ((((J6 code c1 60) == 1) = true → (((decide ((E.length : Int) > 0)) = true → (true = true) ∧ ((0 : Int) ≤ 0) ∧ ((0 : Int) < (E.length : Int)) ∧ (0 < E.length) ∧ ((4 : Nat) = 4) ∧ (PK Tryz.prog 155 76 (.sl (.bytes code)) [.int .i64 ((J1 code c1 60).pos), .int .u64 ((J1 code c1 60).seed)] [.int .i64 ((J1 code (J1 code c1 60) (([(-1), 99, 100, (-9223372036854775808)]).length : Int)).pos), .int .u64 ((J1 code (J1 code c1 60) (([(-1), 99, 100, (-9223372036854775808)]).length : Int)).seed)] [.sl (.ints ([(-1), 99, 100, (-9223372036854775808)]))] (.one (.d (.int .i64 (([(-1), 99, 100, (-9223372036854775808)]).getD (J6 code (J1 code c1 60) (([(-1), 99, 100, (-9223372036854775808)]).length : Int)).toNat 0))))) ∧ ((0 : Int) ≤ aa) ∧ ((aa : Int) < (((E.getD 0 []).length) : Int)) ∧ (0 < E.length) ∧ (aa.toNat < (E.getD 0 []).length) ∧ (∃ O' : ZI, ∃ D' : ZR, ∃ ch' : Cur, (Jg code c U E O' D' ch') ∧ (true = true) ∧ ((.lit u (.sl (.bytes code)) : D) = .lit u (.sl (.bytes code))) ∧ ((J1 code (J1 code c1 60) (([(-1), 99, 100, (-9223372036854775808)]).length : Int)).pos = ch'.pos) ∧ ((J1 code (J1 code c1 60) (([(-1), 99, 100, (-9223372036854775808)]).length : Int)).seed = ch'.seed) ∧ (U.length = U.length) ∧ ((U : ZI) = O') ∧ (E.length = (E.set 0 ((E.getD 0 []).set aa.toNat (([(-1), 99, 100, (-9223372036854775808)]).getD (J6 code (J1 code c1 60) (([(-1), 99, 100, (-9223372036854775808)]).length : Int)).toNat 0))).length) ∧ (((E.set 0 ((E.getD 0 []).set aa.toNat (([(-1), 99, 100, (-9223372036854775808)]).getD (J6 code (J1 code c1 60) (([(-1), 99, 100, (-9223372036854775808)]).length : Int)).toNat 0))) : ZR) = D'))) ∧ ((decide ((E.length : Int) > 0)) = false → (∃ O' : ZI, ∃ D' : ZR, ∃ ch' : Cur, (Jg code c U E O' D' ch') ∧ (true = true) ∧ ((.lit u (.sl (.bytes code)) : D) = .lit u (.sl (.bytes code))) ∧ ((J1 code c1 60).pos = ch'.pos) ∧ ((J1 code c1 60).seed = ch'.seed) ∧ (U.length = U.length) ∧ ((U : ZI) = O') ∧ (E.length = E.length) ∧ ((E : ZR) = D'))))) ∧ (((J6 code c1 60) == 1) = false → ((((J6 code c1 60) == 2) = true → (U.length = U.length) ∧ ((1 : Nat) = 1) ∧ ((U.length + 1) * 8 ≤ 140737488355328) ∧ (∃ O' : ZI, ∃ D' : ZR, ∃ ch' : Cur, (Jg code c U E O' D' ch') ∧ (true = true) ∧ ((.lit u (.sl (.bytes code)) : D) = .lit u (.sl (.bytes code))) ∧ ((J1 code c1 60).pos = ch'.pos) ∧ ((J1 code c1 60).seed = ch'.seed) ∧ ((U.length + 1) = (U ++ [1]).length) ∧ (((U ++ [1]) : ZI) = O') ∧ (E.length = E.length) ∧ ((E : ZR) = D'))) ∧ (((J6 code c1 60) == 2) = false → ((((J6 code c1 60) == 3) = true → ((∃ O1' : ZI, ∃ D1' : ZR, (J0y u code c U E aa c1 O1' D1') ∧ ((.lit u (.sl (.bytes code)) : D) = .lit u (.sl (.bytes code))) ∧ ((J1 code c1 60).pos = (J1 code c1 60).pos) ∧ ((J1 code c1 60).seed = (J1 code c1 60).seed) ∧ (U = O1') ∧ (E = D1') ∧ (U.length = O1'.length) ∧ (E.length = D1'.length)) ∧ (∀ O1 : ZI, ∀ D1 : ZR, (J0y u code c U E aa c1 O1 D1) → (((decide ((D1.length : Int) < 8)) = true → (true = true) ∧ (O1.length = O1.length) ∧ (PC Tryz.prog 98 [.sl (.ints O1)] (.one (.own 3 (.ints O1)))) ∧ (O1.length = O1.length) ∧ (D1.length = D1.length) ∧ ((1 : Nat) = 1) ∧ (0 < 1) ∧ ((D1.length + 1) * 24 ≤ 140737488355328) ∧ (∃ O1' : ZI, ∃ D1' : ZR, (J0y u code c U E aa c1 O1' D1') ∧ (J0z u code c U E aa c1 O1' D1' < J0z u code c U E aa c1 O1 D1) ∧ ((.lit u (.sl (.bytes code)) : D) = .lit u (.sl (.bytes code))) ∧ ((J1 code c1 60).pos = (J1 code c1 60).pos) ∧ ((J1 code c1 60).seed = (J1 code c1 60).seed) ∧ (O1 = O1') ∧ ((D1 ++ [O1]) = D1') ∧ (O1.length = O1'.length) ∧ ((D1.length + 1) = D1'.length))) ∧ ((decide ((D1.length : Int) < 8)) = false → (∃ O' : ZI, ∃ D' : ZR, ∃ ch' : Cur, (Jg code c U E O' D' ch') ∧ (true = true) ∧ ((.lit u (.sl (.bytes code)) : D) = .lit u (.sl (.bytes code))) ∧ ((J1 code c1 60).pos = ch'.pos) ∧ ((J1 code c1 60).seed = ch'.seed) ∧ (O1.length = O1.length) ∧ ((O1 : ZI) = O') ∧ (D1.length = D1.length) ∧ ((D1 : ZR) = D'))))))) ∧ (((J6 code c1 60) == 3) = false → ((((J6 code c1 60) == 4) = true → (∃ O' : ZI, ∃ D' : ZR, ∃ ch' : Cur, (Jg code c U E O' D' ch') ∧ (true = true) ∧ ((.lit u (.sl (.bytes code)) : D) = .lit u (.sl (.bytes code))) ∧ ((J1 code c1 60).pos = ch'.pos) ∧ ((J1 code c1 60).seed = ch'.seed) ∧ (O'.length = 0) ∧ (D'.length = 0))) ∧ (((J6 code c1 60) == 4) = false → (∃ O' : ZI, ∃ D' : ZR, ∃ ch' : Cur, (Jg code c U E O' D' ch') ∧ (true = true) ∧ ((.lit u (.sl (.bytes code)) : D) = .lit u (.sl (.bytes code))) ∧ ((J1 code c1 60).pos = ch'.pos) ∧ ((J1 code c1 60).seed = ch'.seed) ∧ (U.length = U.length) ∧ ((U : ZI) = O') ∧ (E.length = E.length) ∧ ((E : ZR) = D'))))))))))))))))
theorem J5r (u : Value) (code : List Nat) (c : Cur) (U : ZI) (E : ZR) (hb : ∀ x9 ∈ code, x9 < 256) (hc : okC c 7000000) (hf : drF U E)  : J1V u code c U E := by
  unfold J1V
  refine ⟨?_, ?_⟩
  ·intro b1
   try simp only [nrmT] at b1
   refine ⟨U, E, c, ?_⟩
   refine ⟨?_, rfl, rfl, rfl, rfl, rfl, rfl, rfl, rfl⟩
   ·refine ⟨?_, ?_, ?_⟩
    ·exact J8 (by assumption) (by omega)
    ·(have := hf.1; have := hf.2.1; omega)
    ·(have := hf.1; have := hf.2.1; omega)
  intro b2
  try simp only [nrmT] at b2
  refine ⟨?_, ?_⟩
  ·refine ⟨?_, ?_⟩
   ·refine Jq code c (U.length : Int) ?_ ?_
    ·exact hb
    ·exact J8 (by assumption) (by omega)
   ·refine ⟨(J6 code c (U.length : Int)), (J1 code c (U.length : Int)), ?_⟩
    refine ⟨?_, rfl, rfl, rfl, rfl, rfl, rfl, rfl, rfl⟩
    ·refine ⟨?_, ?_⟩
     ·exact J0V code _ (by omega)
     ·exact J8 (Jk (by assumption)) (by omega)
  intro aa c1 hJ
  obtain ⟨a1, a2⟩ := hJ
  refine ⟨?_, ?_, ?_⟩
  ·refine Jq code c1 60 ?_ ?_
   ·exact hb
   ·exact J8 (by assumption) (by omega)
  ·intro b3
   try simp only [nrmT] at b3
   refine ⟨rfl, rfl, ?_, ?_, ?_, ?_, ?_⟩
   ·refine JX code (J1 code c1 60) ([(-1), 99, 100, 4611686018427387904]) ?_ ?_ ?_
    ·exact hb
    ·exact J8 (Jk (by assumption)) (by omega)
    ·simp
   ·omega
   ·omega
   ·omega
   refine ⟨(U.set aa.toNat (([(-1), 99, 100, 4611686018427387904]).getD (J6 code (J1 code c1 60) (([(-1), 99, 100, 4611686018427387904]).length : Int)).toNat 0)), E, (J1 code (J1 code c1 60) (([(-1), 99, 100, 4611686018427387904]).length : Int)), ?_⟩
   refine ⟨?_, rfl, rfl, rfl, rfl, ?_, rfl, rfl, rfl⟩
   ·refine ⟨?_, ?_, ?_⟩
    ·exact J8 (Jk (Jk (by assumption))) (by omega)
    ·(have := hf.1; have := hf.2.1; simp; try omega)
    ·(have := hf.1; have := hf.2.1; omega)
   simp; try omega
  intro b4
  try simp only [nrmT] at b4
  refine ⟨?_, ?_⟩
  ·intro b5
   try simp only [nrmT] at b5
   refine ⟨?_, ?_⟩
   ·intro b6
    try simp only [nrmT] at b6
    refine ⟨rfl, ?_, ?_, ?_, rfl, ?_, ?_, ?_, ?_, ?_, ?_⟩
    ·omega
    ·have := hf.2.1; omega
    ·have := hf.2.1; omega
    ·refine JX code (J1 code c1 60) ([(-1), 99, 100, (-9223372036854775808)]) ?_ ?_ ?_
     ·exact hb
     ·exact J8 (Jk (by assumption)) (by omega)
     ·simp
    ·omega
    ·have q := (Ja hf (i := 0) (a := aa.toNat) (by omega) (by omega)).1
     omega
    ·have := hf.2.1; omega
    ·have q := (Ja hf (i := 0) (a := aa.toNat) (by omega) (by omega)).1
     omega
    refine ⟨U, (E.set 0 ((E.getD 0 []).set aa.toNat (([(-1), 99, 100, (-9223372036854775808)]).getD (J6 code (J1 code c1 60) (([(-1), 99, 100, (-9223372036854775808)]).length : Int)).toNat 0))), (J1 code (J1 code c1 60) (([(-1), 99, 100, (-9223372036854775808)]).length : Int)), ?_⟩
    refine ⟨?_, rfl, rfl, rfl, rfl, rfl, rfl, ?_, rfl⟩
    ·refine ⟨?_, ?_, ?_⟩
     ·exact J8 (Jk (Jk (by assumption))) (by omega)
     ·(have := hf.1; have := hf.2.1; omega)
     ·(have := hf.1; have := hf.2.1; simp; try omega)
    simp; try omega
   intro b7
   try simp only [nrmT] at b7
   refine ⟨U, E, (J1 code c1 60), ?_⟩
   refine ⟨?_, rfl, rfl, rfl, rfl, rfl, rfl, rfl, rfl⟩
   ·refine ⟨?_, ?_, ?_⟩
    ·exact J8 (Jk (by assumption)) (by omega)
    ·(have := hf.1; have := hf.2.1; omega)
    ·(have := hf.1; have := hf.2.1; omega)
  intro b8
  try simp only [nrmT] at b8
  refine ⟨?_, ?_⟩
  ·intro b9
   try simp only [nrmT] at b9
   refine ⟨rfl, rfl, ?_, ?_⟩
   ·have := hf.1; omega
   refine ⟨(U ++ [1]), E, (J1 code c1 60), ?_⟩
   refine ⟨?_, rfl, rfl, rfl, rfl, ?_, rfl, rfl, rfl⟩
   ·refine ⟨?_, ?_, ?_⟩
    ·exact J8 (Jk (by assumption)) (by omega)
    ·(have := hf.1; have := hf.2.1; simp; try omega)
    ·(have := hf.1; have := hf.2.1; omega)
   simp
  intro b10
  try simp only [nrmT] at b10
  refine ⟨?_, ?_⟩
  ·intro b11
   try simp only [nrmT] at b11
   refine ⟨?_, ?_⟩
   ·refine ⟨U, E, ?_⟩
    refine ⟨?_, rfl, rfl, rfl, rfl, rfl, rfl, rfl⟩
    ·refine ⟨?_, ?_⟩
     ·(have := hf.1; have := hf.2.1; omega)
     ·(have := hf.1; have := hf.2.1; omega)
   intro O1 D1 hJ
   obtain ⟨h1, h2⟩ := hJ
   refine ⟨?_, ?_⟩
   ·intro b12
    try simp only [nrmT] at b12
    refine ⟨rfl, rfl, ?_, rfl, rfl, rfl, by decide, ?_, ?_⟩
    ·refine J4r O1 ?_
     ·omega
    ·omega
    refine ⟨O1, (D1 ++ [O1]), ?_⟩
    refine ⟨?_, ?_, rfl, rfl, rfl, rfl, rfl, rfl, ?_⟩
    ·refine ⟨?_, ?_⟩
     ·(have := hf.1; have := hf.2.1; simp; try omega)
     ·assumption
    ·(simp only [J0z] at *; simp at *; omega)
    simp
   intro b13
   try simp only [nrmT] at b13
   refine ⟨O1, D1, (J1 code c1 60), ?_⟩
   refine ⟨?_, rfl, rfl, rfl, rfl, rfl, rfl, rfl, rfl⟩
   ·refine ⟨?_, ?_, ?_⟩
    ·exact J8 (Jk (by assumption)) (by omega)
    ·(have := hf.1; have := hf.2.1; omega)
    ·assumption
  intro b14
  try simp only [nrmT] at b14
  refine ⟨?_, ?_⟩
  ·intro b15
   try simp only [nrmT] at b15
   refine ⟨[], [], (J1 code c1 60), ?_⟩
   refine ⟨?_, rfl, rfl, rfl, rfl, rfl, rfl⟩
   ·refine ⟨?_, ?_, ?_⟩
    ·exact J8 (Jk (by assumption)) (by omega)
    ·(have := hf.1; have := hf.2.1; simp; try omega)
    ·(have := hf.1; have := hf.2.1; simp; try omega)
  intro b16
  try simp only [nrmT] at b16
  refine ⟨U, E, (J1 code c1 60), ?_⟩
  refine ⟨?_, rfl, rfl, rfl, rfl, rfl, rfl, rfl, rfl⟩
  ·refine ⟨?_, ?_, ?_⟩
   ·exact J8 (Jk (by assumption)) (by omega)
   ·(have := hf.1; have := hf.2.1; omega)
   ·(have := hf.1; have := hf.2.1; omega)
theorem J1i (code : List Nat) (c : Cur) (U : ZI) (E : ZR) (hb : ∀ x9 ∈ code, x9 < 256) (hc : okC c 7000000) (hf : drF U E) : PKV Tryz.prog 232 76 (.sl (.bytes code)) [.int .i64 c.pos, .int .u64 c.seed] 3 U 3 24 E (JF code c U E) :=
  pkv_by (Q := fun u => J1V u code c U E) (by kernel_rfl) Tryz.func232 @Tryz.call232 (by kernel_rfl) J5E (fun u => J5Y u code c U E) (by kernel_rfl) (fun u => J5r u code c U E hb hc hf) (fun u => by kernel_rfl)
theorem JaX {α : Type} {l : List α} {i : Int} {d : α} (h0 : 0 ≤ i) (h : i < (l.length : Int)) : l.take i.toNat ++ [l.getD i.toNat d] = l.take (i + 1).toNat := (take_step h0 h).symm
abbrev J3b (U : ZI) (E : ZR) (i : Int) (O1 : ZI) (D1 : ZR) : Prop := (0 ≤ i) ∧ (i ≤ (E.length : Int)) ∧ (O1 = U) ∧ (D1 = E.take i.toNat)
abbrev J38 (U : ZI) (E : ZR) (i : Int) (O1 : ZI) (D1 : ZR) : Nat := (E.length - i).toNat
def Jbg (f : FuncId) (ds : List D) : Orc := bif Nat.beq f 98 then J6g ds else .no
def JbL (U : ZI) (E : ZR) : Ann := .two (.none) (.two (.none) (.two (.two (.none) (.loop (cut3 (fun (i : Int) (O1 : ZI) (D1 : ZR) => J3b U E i O1 D1) (fun (i : Int) (O1 : ZI) (D1 : ZR) => [(1, .ptr 1 0), (2, .ptr 2 0), (3, .ptr 3 0), (4, .d true (.int .i64 i))]) (fun (i : Int) (O1 : ZI) (D1 : ZR) => [(1, .box 27 [.d false (.sl (.ints U)), .d false (.sl (.rows E))]), (2, .box 27 [.d true (.nil), .d true (.nil)]), (1000001, .arr true 3 (.ints O1)), (1000002, .mat 3 24 D1 none), (3, .box 27 [.own 1000001 O1.length, .own 1000002 D1.length])])) (fun g => J38 U E g.1 g.2.1 g.2.2) (fun _ => .none))) (.none)))
def J8k (U : ZI) (E : ZR) : Prop :=
  (PC Tryz.prog 98 [.sl (.ints U)] (.one (.own 3 (.ints U)))) ∧ ((∃ i' : Int, ∃ O1' : ZI, ∃ D1' : ZR, (J3b U E i' O1' D1') ∧ ((0 : Int) = i') ∧ (U = U) ∧ (E = E) ∧ (U = O1') ∧ ((D1').length = 0) ∧ (U.length = O1'.length) ∧ ((0 : Nat) = D1'.length)) ∧ (∀ i : Int, ∀ O1 : ZI, ∀ D1 : ZR, (J3b U E i O1 D1) → (((decide (i < (E.length : Int))) = true → (true = true) ∧ ((0 : Int) ≤ i) ∧ ((i : Int) < E.length) ∧ (i.toNat < E.length) ∧ (PC Tryz.prog 98 [.sl (.ints (E.getD i.toNat []))] (.one (.own 3 (.ints (E.getD i.toNat []))))) ∧ ((E.getD i.toNat []).length = (E.getD i.toNat []).length) ∧ (D1.length = D1.length) ∧ ((1 : Nat) = 1) ∧ (0 < 1) ∧ ((D1.length + 1) * 24 ≤ 140737488355328) ∧ (I6 (i + 1)) ∧ (∃ i' : Int, ∃ O1' : ZI, ∃ D1' : ZR, (J3b U E i' O1' D1') ∧ (J38 U E i' O1' D1' < J38 U E i O1 D1) ∧ ((i + 1) = i') ∧ (U = U) ∧ (E = E) ∧ (O1 = O1') ∧ ((D1 ++ [(E.getD i.toNat [])]) = D1') ∧ (O1.length = O1'.length) ∧ ((D1.length + 1) = D1'.length))) ∧ ((decide (i < (E.length : Int))) = false → ((O1.length = O1.length) ∧ ((O1 : ZI) = U) ∧ (D1.length = D1.length) ∧ ((D1 : ZR) = E))))))
theorem Jb4 (U : ZI) (E : ZR) (hl : U.length ≤ 1048576) (hd : E.length ≤ 1048576) (hr : ∀ r ∈ E, r.length ≤ 1048576) (w_Open : (U.length : Int) ≤ 9223372036854775807) (w_Dist : (E.length : Int) ≤ 9223372036854775807) (v_Dist : ∀ x9 ∈ E, (x9.length : Int) ≤ 9223372036854775807) : J8k U E := by
  unfold J8k
  refine ⟨?_, ?_, ?_⟩
  ·refine J4r U ?_
   ·omega
  ·refine ⟨0, U, ([]), ?_⟩
   refine ⟨?_, rfl, rfl, rfl, rfl, ?_, rfl, rfl⟩
   ·refine ⟨?_, ?_, ?_, ?_⟩
    ·omega
    ·omega
    ·rfl
    ·simp
   rfl
  intro i O1 D1 hJ
  obtain ⟨h1, h2, h3, h4⟩ := hJ
  refine ⟨?_, ?_⟩
  ·intro b1
   try simp only [nrmT] at b1
   refine ⟨rfl, ?_, ?_, ?_, ?_, rfl, rfl, rfl, by decide, ?_, ?_, ?_⟩
   ·omega
   ·omega
   ·omega
   ·refine J4r (E.getD i.toNat []) ?_
    ·exact hr _ (getD_memI h1 (by omega))
   ·rw [h4, List.length_take]; omega
   ·omega
   refine ⟨(i + 1), O1, (D1 ++ [(E.getD i.toNat [])]), ?_⟩
   refine ⟨?_, ?_, rfl, rfl, rfl, rfl, rfl, rfl, ?_⟩
   ·refine ⟨?_, ?_, ?_, ?_⟩
    ·omega
    ·omega
    ·exact h3
    ·rw [h4]; exact JaX h1 (by omega)
   ·(simp only [J38]; omega)
   simp
  intro b2
  try simp only [nrmT] at b2
  refine ⟨rfl, ?_, rfl, ?_⟩
  ·exact h3
  rw [h4, take_all (by omega)]
theorem Jbc (U : ZI) (E : ZR) (hl : U.length ≤ 1048576) (hd : E.length ≤ 1048576) (hr : ∀ r ∈ E, r.length ≤ 1048576) : PC Tryz.prog 224 [.agg [.sl (.ints U), .sl (.rows E)]] (.agg [.own 3 (.ints U), .mat 3 24 E]) :=
  pc_wf @Tryz.call224 fun hw => pc_by (by kernel_rfl) Tryz.func224 @Tryz.call224 (by kernel_rfl) Jbg (JbL U E) (by kernel_rfl) (Jb4 U E hl hd hr hw.1.1 hw.1.2.1.1 hw.1.2.1.2) (by kernel_rfl)
def Ja0 : List D → Orc := orcN [none] fun ds => match ds with
  | [.agg [.sl (.ints U), .sl (.rows E)]] => some (.agg [.own 3 (.ints U), .mat 3 24 E])
  | _ => none
/-- A way by two other lengths is shorter. -/
def J2E (D : ZR) (i j a b : Nat) : Bool := decide ((D.getD i []).getD a 0 > (D.getD i []).getD b 0 + (D.getD j []).getD b 0 + (D.getD j []).getD a 0)
def J9u (n : Nat) (D : ZR) (i j a : Nat) : Bool := allTo (fun b => !J2E D i j a b) n
def J84 (n : Nat) (D : ZR) (i j : Nat) : Bool := allTo (J9u n D i j) n
def J5q (n : Nat) (D : ZR) (i : Nat) : Bool := allTo (J84 n D i) D.length
def J3Q (n : Nat) (D : ZR) : Bool := allTo (J5q n D) D.length
def tot (D : ZR) : Int := (D.map fun r => J2m (fun y => y) r).sum
theorem J3J (r : ZI) (D : ZR) : tot (r :: D) = J2m (fun y => y) r + tot D := rfl
theorem J9G : ∀ {l : ZI} {k : Nat} {v : Int}, k < l.length → J2m (fun y => y) (l.set k v) = J2m (fun y => y) l - l.getD k 0 + v
  | x :: r, 0, v, _ => by rw [List.set_cons_zero, J15, J15, List.getD_cons_zero]; omega
  | x :: r, k + 1, v, h => by
    rw [List.set_cons_succ, J15, J15, List.getD_cons_succ, J9G (by simpa using h)]; omega
theorem JaA : ∀ {D : ZR} {i : Nat} {r : ZI}, i < D.length → tot (D.set i r) = tot D - J2m (fun y => y) (D.getD i []) + J2m (fun y => y) r
  | x :: D, 0, r, _ => by rw [List.set_cons_zero, J3J, J3J, List.getD_cons_zero]; omega
  | x :: D, k + 1, r, h => by
    rw [List.set_cons_succ, J3J, J3J, List.getD_cons_succ, JaA (by simpa using h)]; omega
theorem JaR {D : ZR} (h : ∀ r ∈ D, ∀ x ∈ r, 0 ≤ x) : 0 ≤ tot D := by
  induction D with
  | nil => exact Int.le_refl _
  | cons r D ih =>
    rw [J3J]
    have h1 := Jaa (f := fun y => y) (h r List.mem_cons_self)
    have h2 := ih fun r' hr => h r' (List.mem_cons_of_mem _ hr)
    omega
/-- A round under way: nothing was changed and nothing was found, or the sum fell. -/
def Clo (D0 D : ZR) (c : Bool) : Prop := (D = D0 ∧ c = true) ∨ tot D < tot D0
theorem J9b {O : ZI} {D0 D : ZR} (hf : drF O D) {i j a b : Nat} (hi : i < D.length) (hj : j < D.length) (ha : a < O.length) (hb : b < O.length) {c : Bool} (h : Clo D0 D (c && allTo (fun b => !J2E D0 i j a b) b)) :
    drF O (D.set i ((D.getD i []).set a (min ((D.getD i []).getD a 0) ((D.getD i []).getD b 0 + (D.getD j []).getD b 0 + (D.getD j []).getD a 0)))) ∧
    Clo D0 (D.set i ((D.getD i []).set a (min ((D.getD i []).getD a 0) ((D.getD i []).getD b 0 + (D.getD j []).getD b 0 + (D.getD j []).getD a 0)))) (c && allTo (fun b => !J2E D0 i j a b) (b + 1)) := by
  have e1 := Ja hf hi ha
  have e2 := Ja hf hi hb
  have e3 := Ja hf hj hb
  have e4 := Ja hf hj ha
  refine ⟨JaC hf hi (by omega), ?_⟩
  have ht := JaA (D := D) (i := i) (r := (D.getD i []).set a (min ((D.getD i []).getD a 0) ((D.getD i []).getD b 0 + (D.getD j []).getD b 0 + (D.getD j []).getD a 0))) hi
  rw [J9G (by omega)] at ht
  rcases h with ⟨rfl, hc⟩ | h
  · by_cases hx : (D.getD i []).getD a 0 ≤ (D.getD i []).getD b 0 + (D.getD j []).getD b 0 + (D.getD j []).getD a 0
    · left
      refine ⟨?_, ?_⟩
      · rw [Int.min_eq_left hx]
        have h1 : (D.getD i []).set a ((D.getD i []).getD a 0) = D.getD i [] := by
          rw [JG (show a < (D.getD i []).length by omega)]; exact List.set_getElem_self _
        rw [h1, JG hi]; exact List.set_getElem_self _
      rw [Bool.and_eq_true] at hc ⊢
      refine ⟨hc.1, ?_⟩
      have e : allTo (fun b => !J2E D i j a b) (b + 1) = (allTo (fun b => !J2E D i j a b) b && !J2E D i j a b) := rfl
      rw [e, hc.2, Bool.true_and]
      unfold J2E
      rw [decide_eq_false (by omega)]; rfl
    · right
      rw [Int.min_eq_right (by omega)] at ht ⊢
      omega
  right
  omega
theorem Jct {D0 D : ZR} {n : Nat} (h : Clo D0 D (allTo (J5q n D0) D0.length)) (hm : J3Q n D0 = false) : tot D < tot D0 := by
  rcases h with ⟨_, h⟩ | h
  · unfold J3Q at hm
    rw [hm] at h; cases h
  exact h
theorem J2Y {D0 D : ZR} {c c' : Bool} (h : Clo D0 D c) (hc : c = true → c' = true) : Clo D0 D c' := by
  rcases h with ⟨h1, h2⟩ | h
  · exact .inl ⟨h1, hc h2⟩
  exact .inr h
abbrev J1N (U : ZI) (E : ZR) (i : Int) : Prop := (0 ≤ i) ∧ (i ≤ (E.length : Int)) ∧ (allTo (J5q U.length E) i.toNat = true)
abbrev J1F (U : ZI) (E : ZR) (i : Int) : Nat := (E.length - i).toNat
abbrev J1O (U : ZI) (E : ZR) (i : Int) (j : Int) : Prop := (0 ≤ j) ∧ (j ≤ (E.length : Int)) ∧ (allTo (J84 U.length E i.toNat) j.toNat = true)
abbrev J1E (U : ZI) (E : ZR) (i : Int) (j : Int) : Nat := (E.length - j).toNat
abbrev J1M (U : ZI) (E : ZR) (i : Int) (j : Int) (a : Int) : Prop := (0 ≤ a) ∧ (a ≤ (U.length : Int)) ∧ (allTo (J9u U.length E i.toNat j.toNat) a.toNat = true)
abbrev J1G (U : ZI) (E : ZR) (i : Int) (j : Int) (a : Int) : Nat := (U.length - a).toNat
abbrev J1L (U : ZI) (E : ZR) (i : Int) (j : Int) (a : Int) (b : Int) : Prop := (0 ≤ b) ∧ (b ≤ (U.length : Int)) ∧ (allTo (fun b => !J2E E i.toNat j.toNat a.toNat b) b.toNat = true)
abbrev J1Q (U : ZI) (E : ZR) (i : Int) (j : Int) (a : Int) (b : Int) : Nat := (U.length - b).toNat
def J9M (f : FuncId) (ds : List D) : Orc := .no
def J9a (U : ZI) (E : ZR) : Ann := .two (.none) (.two (.two (.none) (.loop (cut1 (fun (i : Int) => J1N U E i) (fun (i : Int) => [(1, .ptr 1 0), (3, .d true (.int .i64 i))]) (fun (i : Int) => [(1, .box 27 [.d false (.sl (.ints U)), .d false (.sl (.rows E))])])) (fun g => J1F U E g) (fun g => (fun (i : Int) => .two (.none) (.two (.two (.none) (.loop (cut1 (fun (j : Int) => J1O U E i j) (fun (j : Int) => [(1, .ptr 1 0), (3, .d true (.int .i64 i)), (4, .d true (.int .i64 j))]) (fun (j : Int) => [(1, .box 27 [.d false (.sl (.ints U)), .d false (.sl (.rows E))])])) (fun g => J1E U E i g) (fun g => (fun (j : Int) => .two (.none) (.two (.two (.none) (.loop (cut1 (fun (a : Int) => J1M U E i j a) (fun (a : Int) => [(1, .ptr 1 0), (3, .d true (.int .i64 i)), (4, .d true (.int .i64 j)), (5, .d true (.int .i64 a))]) (fun (a : Int) => [(1, .box 27 [.d false (.sl (.ints U)), .d false (.sl (.rows E))])])) (fun g => J1G U E i j g) (fun g => (fun (a : Int) => .two (.none) (.two (.two (.none) (.loop (cut1 (fun (b : Int) => J1L U E i j a b) (fun (b : Int) => [(1, .ptr 1 0), (3, .d true (.int .i64 i)), (4, .d true (.int .i64 j)), (5, .d true (.int .i64 a)), (6, .d true (.int .i64 b))]) (fun (b : Int) => [(1, .box 27 [.d false (.sl (.ints U)), .d false (.sl (.rows E))])])) (fun g => J1Q U E i j a g) (fun _ => .none))) (.none))) g))) (.none))) g))) (.none))) g))) (.none))
def J5t (U : ZI) (E : ZR) : Prop :=
  ((∃ i' : Int, (J1N U E i') ∧ ((0 : Int) = i') ∧ (U = U) ∧ (E = E)) ∧ (∀ i : Int, (J1N U E i) → (((decide (i < (E.length : Int))) = true → ((∃ j' : Int, (J1O U E i j') ∧ (i = i) ∧ ((0 : Int) = j') ∧ (U = U) ∧ (E = E)) ∧ (∀ j : Int, (J1O U E i j) → (((decide (j < (E.length : Int))) = true → ((∃ a' : Int, (J1M U E i j a') ∧ (i = i) ∧ (j = j) ∧ ((0 : Int) = a') ∧ (U = U) ∧ (E = E)) ∧ (∀ a : Int, (J1M U E i j a) → (((decide (a < (U.length : Int))) = true → ((∃ b' : Int, (J1L U E i j a b') ∧ (i = i) ∧ (j = j) ∧ (a = a) ∧ ((0 : Int) = b') ∧ (U = U) ∧ (E = E)) ∧ (∀ b : Int, (J1L U E i j a b) → (((decide (b < (U.length : Int))) = true → (true = true) ∧ ((0 : Int) ≤ i) ∧ ((i : Int) < E.length) ∧ (i.toNat < E.length) ∧ ((0 : Int) ≤ a) ∧ ((a : Int) < (E.getD i.toNat []).length) ∧ (a.toNat < (E.getD i.toNat []).length) ∧ ((0 : Int) ≤ i) ∧ ((i : Int) < E.length) ∧ (i.toNat < E.length) ∧ ((0 : Int) ≤ b) ∧ ((b : Int) < (E.getD i.toNat []).length) ∧ (b.toNat < (E.getD i.toNat []).length) ∧ ((0 : Int) ≤ j) ∧ ((j : Int) < E.length) ∧ (j.toNat < E.length) ∧ ((0 : Int) ≤ b) ∧ ((b : Int) < (E.getD j.toNat []).length) ∧ (b.toNat < (E.getD j.toNat []).length) ∧ (I6 (((E.getD i.toNat []).getD b.toNat 0) + ((E.getD j.toNat []).getD b.toNat 0))) ∧ ((0 : Int) ≤ j) ∧ ((j : Int) < E.length) ∧ (j.toNat < E.length) ∧ ((0 : Int) ≤ a) ∧ ((a : Int) < (E.getD j.toNat []).length) ∧ (a.toNat < (E.getD j.toNat []).length) ∧ (I6 ((((E.getD i.toNat []).getD b.toNat 0) + ((E.getD j.toNat []).getD b.toNat 0)) + ((E.getD j.toNat []).getD a.toNat 0))) ∧ (((decide (((E.getD i.toNat []).getD a.toNat 0) > ((((E.getD i.toNat []).getD b.toNat 0) + ((E.getD j.toNat []).getD b.toNat 0)) + ((E.getD j.toNat []).getD a.toNat 0)))) = true → ((false = (J3Q U.length E)))) ∧ ((decide (((E.getD i.toNat []).getD a.toNat 0) > ((((E.getD i.toNat []).getD b.toNat 0) + ((E.getD j.toNat []).getD b.toNat 0)) + ((E.getD j.toNat []).getD a.toNat 0)))) = false → (I6 (b + 1)) ∧ (∃ b' : Int, (J1L U E i j a b') ∧ (J1Q U E i j a b' < J1Q U E i j a b) ∧ (i = i) ∧ (j = j) ∧ (a = a) ∧ ((b + 1) = b') ∧ (U = U) ∧ (E = E))))) ∧ ((decide (b < (U.length : Int))) = false → (I6 (a + 1)) ∧ (∃ a' : Int, (J1M U E i j a') ∧ (J1G U E i j a' < J1G U E i j a) ∧ (i = i) ∧ (j = j) ∧ ((a + 1) = a') ∧ (U = U) ∧ (E = E))))))) ∧ ((decide (a < (U.length : Int))) = false → (I6 (j + 1)) ∧ (∃ j' : Int, (J1O U E i j') ∧ (J1E U E i j' < J1E U E i j) ∧ (i = i) ∧ ((j + 1) = j') ∧ (U = U) ∧ (E = E))))))) ∧ ((decide (j < (E.length : Int))) = false → (I6 (i + 1)) ∧ (∃ i' : Int, (J1N U E i') ∧ (J1F U E i' < J1F U E i) ∧ ((i + 1) = i') ∧ (U = U) ∧ (E = E))))))) ∧ ((decide (i < (E.length : Int))) = false → ((true = (J3Q U.length E)))))))
theorem J8Z (U : ZI) (E : ZR) (hm : ∀ i a : Nat, i < E.length → a < U.length → a < (E.getD i []).length ∧ 0 ≤ (E.getD i []).getD a 0 ∧ (E.getD i []).getD a 0 ≤ 99) (w_Open : (U.length : Int) ≤ 9223372036854775807) (w_Dist : (E.length : Int) ≤ 9223372036854775807) (v_Dist : ∀ x9 ∈ E, (x9.length : Int) ≤ 9223372036854775807) : J5t U E := by
  unfold J5t
  refine ⟨?_, ?_⟩
  ·refine ⟨0, ?_⟩
   refine ⟨?_, rfl, rfl, rfl⟩
   ·refine ⟨?_, ?_, ?_⟩
    ·omega
    ·omega
    ·rfl
  intro i hJ
  obtain ⟨h1, h2, h3⟩ := hJ
  refine ⟨?_, ?_⟩
  ·intro b1
   try simp only [nrmT] at b1
   refine ⟨?_, ?_⟩
   ·refine ⟨0, ?_⟩
    refine ⟨?_, rfl, rfl, rfl, rfl⟩
    ·refine ⟨?_, ?_, ?_⟩
     ·omega
     ·omega
     ·rfl
   intro j hJ
   obtain ⟨h4, h5, h6⟩ := hJ
   refine ⟨?_, ?_⟩
   ·intro b2
    try simp only [nrmT] at b2
    refine ⟨?_, ?_⟩
    ·refine ⟨0, ?_⟩
     refine ⟨?_, rfl, rfl, rfl, rfl, rfl⟩
     ·refine ⟨?_, ?_, ?_⟩
      ·omega
      ·omega
      ·rfl
    intro a hJ
    obtain ⟨h7, h8, h9⟩ := hJ
    refine ⟨?_, ?_⟩
    ·intro b3
     try simp only [nrmT] at b3
     refine ⟨?_, ?_⟩
     ·refine ⟨0, ?_⟩
      refine ⟨?_, rfl, rfl, rfl, rfl, rfl, rfl⟩
      ·refine ⟨?_, ?_, ?_⟩
       ·omega
       ·omega
       ·rfl
     intro b hJ
     obtain ⟨k1, k2, k3⟩ := hJ
     refine ⟨?_, ?_⟩
     ·intro b4
      try simp only [nrmT] at b4
      refine ⟨rfl, ?_, ?_, ?_, ?_, ?_, ?_, ?_, ?_, ?_, ?_, ?_, ?_, ?_, ?_, ?_, ?_, ?_, ?_, ?_, ?_, ?_, ?_, ?_, ?_, ?_, ?_, ?_, ?_⟩
      ·omega
      ·omega
      ·omega
      ·omega
      ·have q1 := hm i.toNat a.toNat (by omega) (by omega)
       have q2 := hm i.toNat b.toNat (by omega) (by omega)
       have q3 := hm j.toNat b.toNat (by omega) (by omega)
       have q4 := hm j.toNat a.toNat (by omega) (by omega)
       omega
      ·have q1 := hm i.toNat a.toNat (by omega) (by omega)
       have q2 := hm i.toNat b.toNat (by omega) (by omega)
       have q3 := hm j.toNat b.toNat (by omega) (by omega)
       have q4 := hm j.toNat a.toNat (by omega) (by omega)
       omega
      ·omega
      ·omega
      ·omega
      ·omega
      ·have q1 := hm i.toNat a.toNat (by omega) (by omega)
       have q2 := hm i.toNat b.toNat (by omega) (by omega)
       have q3 := hm j.toNat b.toNat (by omega) (by omega)
       have q4 := hm j.toNat a.toNat (by omega) (by omega)
       omega
      ·have q1 := hm i.toNat a.toNat (by omega) (by omega)
       have q2 := hm i.toNat b.toNat (by omega) (by omega)
       have q3 := hm j.toNat b.toNat (by omega) (by omega)
       have q4 := hm j.toNat a.toNat (by omega) (by omega)
       omega
      ·omega
      ·omega
      ·omega
      ·omega
      ·have q1 := hm i.toNat a.toNat (by omega) (by omega)
       have q2 := hm i.toNat b.toNat (by omega) (by omega)
       have q3 := hm j.toNat b.toNat (by omega) (by omega)
       have q4 := hm j.toNat a.toNat (by omega) (by omega)
       omega
      ·have q1 := hm i.toNat a.toNat (by omega) (by omega)
       have q2 := hm i.toNat b.toNat (by omega) (by omega)
       have q3 := hm j.toNat b.toNat (by omega) (by omega)
       have q4 := hm j.toNat a.toNat (by omega) (by omega)
       omega
      ·have q1 := hm i.toNat a.toNat (by omega) (by omega)
       have q2 := hm i.toNat b.toNat (by omega) (by omega)
       have q3 := hm j.toNat b.toNat (by omega) (by omega)
       have q4 := hm j.toNat a.toNat (by omega) (by omega)
       omega
      ·omega
      ·omega
      ·omega
      ·omega
      ·have q1 := hm i.toNat a.toNat (by omega) (by omega)
       have q2 := hm i.toNat b.toNat (by omega) (by omega)
       have q3 := hm j.toNat b.toNat (by omega) (by omega)
       have q4 := hm j.toNat a.toNat (by omega) (by omega)
       omega
      ·have q1 := hm i.toNat a.toNat (by omega) (by omega)
       have q2 := hm i.toNat b.toNat (by omega) (by omega)
       have q3 := hm j.toNat b.toNat (by omega) (by omega)
       have q4 := hm j.toNat a.toNat (by omega) (by omega)
       omega
      ·have q1 := hm i.toNat a.toNat (by omega) (by omega)
       have q2 := hm i.toNat b.toNat (by omega) (by omega)
       have q3 := hm j.toNat b.toNat (by omega) (by omega)
       have q4 := hm j.toNat a.toNat (by omega) (by omega)
       omega
      ·intro b5
       try simp only [nrmT] at b5
       have e1 : J9u U.length E i.toNat j.toNat a.toNat = false := allTo_falseI k1 (by omega) (by unfold J2E; rw [decide_eq_true (by omega)]; rfl)
       have e2 : J84 U.length E i.toNat j.toNat = false := allTo_falseI h7 (by omega) e1
       have e3 : J5q U.length E i.toNat = false := allTo_falseI h4 (by omega) e2
       exact (show J3Q U.length E = false from allTo_falseI h1 (by omega) e3).symm
      intro b6
      try simp only [nrmT] at b6
      refine ⟨?_, ?_⟩
      ·omega
      refine ⟨(b + 1), ?_⟩
      refine ⟨?_, ?_, rfl, rfl, rfl, rfl, rfl, rfl⟩
      ·refine ⟨?_, ?_, ?_⟩
       ·omega
       ·omega
       ·refine allTo_step k1 k3 ?_
        unfold J2E
        rw [decide_eq_false (by omega)]; rfl
      (simp only [J1Q]; omega)
     intro b7
     try simp only [nrmT] at b7
     refine ⟨?_, ?_⟩
     ·omega
     refine ⟨(a + 1), ?_⟩
     refine ⟨?_, ?_, rfl, rfl, rfl, rfl, rfl⟩
     ·refine ⟨?_, ?_, ?_⟩
      ·omega
      ·omega
      ·refine allTo_step h7 h9 ?_
       show allTo _ U.length = true
       rw [← k3]; congr 1; omega
     (simp only [J1G]; omega)
    intro b8
    try simp only [nrmT] at b8
    refine ⟨?_, ?_⟩
    ·omega
    refine ⟨(j + 1), ?_⟩
    refine ⟨?_, ?_, rfl, rfl, rfl, rfl⟩
    ·refine ⟨?_, ?_, ?_⟩
     ·omega
     ·omega
     ·refine allTo_step h4 h6 ?_
      show allTo _ U.length = true
      rw [← h9]; congr 1; omega
    (simp only [J1E]; omega)
   intro b9
   try simp only [nrmT] at b9
   refine ⟨?_, ?_⟩
   ·omega
   refine ⟨(i + 1), ?_⟩
   refine ⟨?_, ?_, rfl, rfl, rfl⟩
   ·refine ⟨?_, ?_, ?_⟩
    ·omega
    ·omega
    ·refine allTo_step h1 h3 ?_
     show allTo _ E.length = true
     rw [← h6]; congr 1; omega
   (simp only [J1F]; omega)
  intro b10
  try simp only [nrmT] at b10
  unfold J3Q
  rw [← h3]; congr 1; omega
theorem J95 (U : ZI) (E : ZR) (hm : ∀ i a : Nat, i < E.length → a < U.length → a < (E.getD i []).length ∧ 0 ≤ (E.getD i []).getD a 0 ∧ (E.getD i []).getD a 0 ≤ 99) : PC Tryz.prog 225 [.agg [.sl (.ints U), .sl (.rows E)]] (.one (.d (.bool (J3Q U.length E)))) :=
  pc_wf @Tryz.call225 fun hw => pc_by (by kernel_rfl) Tryz.func225 @Tryz.call225 (by kernel_rfl) J9M (J9a U E) (by kernel_rfl) (J8Z U E hm hw.1.1 hw.1.2.1.1 hw.1.2.1.2) (by kernel_rfl)
def J7S : List D → Orc := orcN [none] fun ds => match ds with
  | [.agg [.sl (.ints U), .sl (.rows E)]] => some (.one (.d (.bool (J3Q U.length E))))
  | _ => none
abbrev J0G (U : ZI) (E : ZR) (O1 : ZI) (D1 : ZR) : Prop := (drF O1 D1)
abbrev J3k (U : ZI) (E : ZR) (O1 : ZI) (D1 : ZR) : Nat := (tot D1).toNat
abbrev J2d (U : ZI) (E : ZR) (O1 : ZI) (D1 : ZR) (i : Int) (O2 : ZI) (D2 : ZR) : Prop := (O2 = O1) ∧ (0 ≤ i) ∧ (i ≤ (D2.length : Int)) ∧ (drF O1 D2) ∧ (D2.length = D1.length) ∧ (Clo D1 D2 (allTo (J5q O1.length D1) i.toNat))
abbrev J29 (U : ZI) (E : ZR) (O1 : ZI) (D1 : ZR) (i : Int) (O2 : ZI) (D2 : ZR) : Nat := (D2.length - i).toNat
abbrev J2g (U : ZI) (E : ZR) (O1 : ZI) (D1 : ZR) (i : Int) (O2 : ZI) (D2 : ZR) (j : Int) (O3 : ZI) (D3 : ZR) : Prop := (O3 = O1) ∧ (0 ≤ j) ∧ (j ≤ (D3.length : Int)) ∧ (drF O1 D3) ∧ (D3.length = D1.length) ∧ (Clo D1 D3 (allTo (J5q O1.length D1) i.toNat && allTo (J84 O1.length D1 i.toNat) j.toNat))
abbrev J25 (U : ZI) (E : ZR) (O1 : ZI) (D1 : ZR) (i : Int) (O2 : ZI) (D2 : ZR) (j : Int) (O3 : ZI) (D3 : ZR) : Nat := (D3.length - j).toNat
abbrev J2e (U : ZI) (E : ZR) (O1 : ZI) (D1 : ZR) (i : Int) (O2 : ZI) (D2 : ZR) (j : Int) (O3 : ZI) (D3 : ZR) (a : Int) (O4 : ZI) (D4 : ZR) : Prop := (O4 = O1) ∧ (0 ≤ a) ∧ (a ≤ (O1.length : Int)) ∧ (drF O1 D4) ∧ (D4.length = D1.length) ∧ (Clo D1 D4 (allTo (J5q O1.length D1) i.toNat && allTo (J84 O1.length D1 i.toNat) j.toNat && allTo (J9u O1.length D1 i.toNat j.toNat) a.toNat))
abbrev J2b (U : ZI) (E : ZR) (O1 : ZI) (D1 : ZR) (i : Int) (O2 : ZI) (D2 : ZR) (j : Int) (O3 : ZI) (D3 : ZR) (a : Int) (O4 : ZI) (D4 : ZR) : Nat := (O1.length - a).toNat
abbrev J28 (U : ZI) (E : ZR) (O1 : ZI) (D1 : ZR) (i : Int) (O2 : ZI) (D2 : ZR) (j : Int) (O3 : ZI) (D3 : ZR) (a : Int) (O4 : ZI) (D4 : ZR) (b : Int) (D5 : ZR) : Prop := (0 ≤ b) ∧ (b ≤ (O1.length : Int)) ∧ (drF O1 D5) ∧ (D5.length = D1.length) ∧ (Clo D1 D5 (allTo (J5q O1.length D1) i.toNat && allTo (J84 O1.length D1 i.toNat) j.toNat && allTo (J9u O1.length D1 i.toNat j.toNat) a.toNat && allTo (fun b => !J2E D1 i.toNat j.toNat a.toNat b) b.toNat))
abbrev J27 (U : ZI) (E : ZR) (O1 : ZI) (D1 : ZR) (i : Int) (O2 : ZI) (D2 : ZR) (j : Int) (O3 : ZI) (D3 : ZR) (a : Int) (O4 : ZI) (D4 : ZR) (b : Int) (D5 : ZR) : Nat := (O1.length - b).toNat
abbrev J36 (U : ZI) (E : ZR) (O : ZI) (D : ZR) : Prop := (drF O D)
def J4c (U : ZI) (E : ZR) : Ex := ex2 0 (fun (O : ZI) (D : ZR) => J36 U E O D) (fun (O : ZI) (D : ZR) => []) (fun (O : ZI) (D : ZR) => .agg [.own 3 (.ints O), .mat 3 24 D])
def Jam (f : FuncId) (ds : List D) : Orc := bif Nat.beq f 224 then Ja0 ds else bif Nat.beq f 225 then J7S ds else bif Nat.beq f 161 then J92 ds else .no
def Jab (U : ZI) (E : ZR) : Ann := .two (.none) (.two (.none) (.two (.loop (cut2 (fun (O1 : ZI) (D1 : ZR) => J0G U E O1 D1) (fun (O1 : ZI) (D1 : ZR) => [(2, .ptr 2 0), (3, .ptr 3 0)]) (fun (O1 : ZI) (D1 : ZR) => [(2, .box 27 [.d true (.nil), .d true (.nil)]), (1000000, .arr true 3 (.ints O1)), (1000001, .mat 3 24 D1 none), (3, .box 27 [.own 1000000 O1.length, .own 1000001 D1.length])])) (fun g => J3k U E g.1 g.2) (fun g => (fun (O1 : ZI) (D1 : ZR) => .two (.none) (.two (.none) (.loop (cut3 (fun (i : Int) (O2 : ZI) (D2 : ZR) => J2d U E O1 D1 i O2 D2) (fun (i : Int) (O2 : ZI) (D2 : ZR) => [(2, .ptr 2 0), (3, .ptr 3 0), (4, .d true (.int .i64 i))]) (fun (i : Int) (O2 : ZI) (D2 : ZR) => [(2, .box 27 [.d true (.nil), .d true (.nil)]), (1000101, .arr true 3 (.ints O2)), (1000102, .mat 3 24 D2 none), (3, .box 27 [.own 1000101 O2.length, .own 1000102 D2.length])])) (fun g => J29 U E O1 D1 g.1 g.2.1 g.2.2) (fun g => (fun (i : Int) (O2 : ZI) (D2 : ZR) => .two (.none) (.two (.two (.none) (.loop (cut3 (fun (j : Int) (O3 : ZI) (D3 : ZR) => J2g U E O1 D1 i O2 D2 j O3 D3) (fun (j : Int) (O3 : ZI) (D3 : ZR) => [(2, .ptr 2 0), (3, .ptr 3 0), (4, .d true (.int .i64 i)), (5, .d true (.int .i64 j))]) (fun (j : Int) (O3 : ZI) (D3 : ZR) => [(2, .box 27 [.d true (.nil), .d true (.nil)]), (1000201, .arr true 3 (.ints O3)), (1000202, .mat 3 24 D3 none), (3, .box 27 [.own 1000201 O3.length, .own 1000202 D3.length])])) (fun g => J25 U E O1 D1 i O2 D2 g.1 g.2.1 g.2.2) (fun g => (fun (j : Int) (O3 : ZI) (D3 : ZR) => .two (.none) (.two (.two (.none) (.loop (cut3 (fun (a : Int) (O4 : ZI) (D4 : ZR) => J2e U E O1 D1 i O2 D2 j O3 D3 a O4 D4) (fun (a : Int) (O4 : ZI) (D4 : ZR) => [(2, .ptr 2 0), (3, .ptr 3 0), (4, .d true (.int .i64 i)), (5, .d true (.int .i64 j)), (6, .d true (.int .i64 a))]) (fun (a : Int) (O4 : ZI) (D4 : ZR) => [(2, .box 27 [.d true (.nil), .d true (.nil)]), (1000301, .arr true 3 (.ints O4)), (1000302, .mat 3 24 D4 none), (3, .box 27 [.own 1000301 O4.length, .own 1000302 D4.length])])) (fun g => J2b U E O1 D1 i O2 D2 j O3 D3 g.1 g.2.1 g.2.2) (fun g => (fun (a : Int) (O4 : ZI) (D4 : ZR) => .two (.none) (.two (.two (.none) (.loop (cut2 (fun (b : Int) (D5 : ZR) => J28 U E O1 D1 i O2 D2 j O3 D3 a O4 D4 b D5) (fun (b : Int) (D5 : ZR) => [(2, .ptr 2 0), (3, .ptr 3 0), (4, .d true (.int .i64 i)), (5, .d true (.int .i64 j)), (6, .d true (.int .i64 a)), (7, .d true (.int .i64 b))]) (fun (b : Int) (D5 : ZR) => [(2, .box 27 [.d true (.nil), .d true (.nil)]), (1000401, .mat 3 24 D5 none), (3, .box 27 [.own 1000301 O4.length, .own 1000401 D5.length]), (1000301, .arr true 3 (.ints O4))])) (fun g => J27 U E O1 D1 i O2 D2 j O3 D3 a O4 D4 g.1 g.2) (fun _ => .none))) (.none))) (g.1) (g.2.1) (g.2.2)))) (.none))) (g.1) (g.2.1) (g.2.2)))) (.none))) (g.1) (g.2.1) (g.2.2))))) (g.1) (g.2))) (.none)))
def J6h (U : ZI) (E : ZR) : Prop :=
  (PC Tryz.prog 224 [.agg [.sl (.ints U), .sl (.rows E)]] (.agg [.own 3 (.ints U), .mat 3 24 E])) ∧ ((∃ O1' : ZI, ∃ D1' : ZR, (J0G U E O1' D1') ∧ (U = O1') ∧ (E = D1') ∧ (U.length = O1'.length) ∧ (E.length = D1'.length)) ∧ (∀ O1 : ZI, ∀ D1 : ZR, (J0G U E O1 D1) → (O1.length = O1.length) ∧ (D1.length = D1.length) ∧ (PC Tryz.prog 225 [.agg [.sl (.ints O1), .sl (.rows D1)]] (.one (.d (.bool (J3Q O1.length D1))))) ∧ (((!(J3Q O1.length D1)) = true → ((∃ i' : Int, ∃ O2' : ZI, ∃ D2' : ZR, (J2d U E O1 D1 i' O2' D2') ∧ ((0 : Int) = i') ∧ (O1 = O2') ∧ (D1 = D2') ∧ (O1.length = O2'.length) ∧ (D1.length = D2'.length)) ∧ (∀ i : Int, ∀ O2 : ZI, ∀ D2 : ZR, (J2d U E O1 D1 i O2 D2) → (((decide (i < (D2.length : Int))) = true → ((∃ j' : Int, ∃ O3' : ZI, ∃ D3' : ZR, (J2g U E O1 D1 i O2 D2 j' O3' D3') ∧ (i = i) ∧ ((0 : Int) = j') ∧ (O2 = O3') ∧ (D2 = D3') ∧ (O2.length = O3'.length) ∧ (D2.length = D3'.length)) ∧ (∀ j : Int, ∀ O3 : ZI, ∀ D3 : ZR, (J2g U E O1 D1 i O2 D2 j O3 D3) → (((decide (j < (D3.length : Int))) = true → ((∃ a' : Int, ∃ O4' : ZI, ∃ D4' : ZR, (J2e U E O1 D1 i O2 D2 j O3 D3 a' O4' D4') ∧ (i = i) ∧ (j = j) ∧ ((0 : Int) = a') ∧ (O3 = O4') ∧ (D3 = D4') ∧ (O3.length = O4'.length) ∧ (D3.length = D4'.length)) ∧ (∀ a : Int, ∀ O4 : ZI, ∀ D4 : ZR, (J2e U E O1 D1 i O2 D2 j O3 D3 a O4 D4) → (((decide (a < (O4.length : Int))) = true → ((∃ b' : Int, ∃ D5' : ZR, (J28 U E O1 D1 i O2 D2 j O3 D3 a O4 D4 b' D5') ∧ (i = i) ∧ (j = j) ∧ (a = a) ∧ ((0 : Int) = b') ∧ (D4 = D5') ∧ (O4.length = O4.length) ∧ (D4.length = D5'.length) ∧ (O4 = O4)) ∧ (∀ b : Int, ∀ D5 : ZR, (J28 U E O1 D1 i O2 D2 j O3 D3 a O4 D4 b D5) → (((decide (b < (O4.length : Int))) = true → (true = true) ∧ ((0 : Int) ≤ i) ∧ ((i : Int) < (D5.length : Int)) ∧ (i.toNat < D5.length) ∧ ((0 : Int) ≤ i) ∧ ((i : Int) < (D5.length : Int)) ∧ (i.toNat < D5.length) ∧ ((0 : Int) ≤ a) ∧ ((a : Int) < (((D5.getD i.toNat []).length) : Int)) ∧ (i.toNat < D5.length) ∧ (a.toNat < (D5.getD i.toNat []).length) ∧ ((0 : Int) ≤ i) ∧ ((i : Int) < (D5.length : Int)) ∧ (i.toNat < D5.length) ∧ ((0 : Int) ≤ b) ∧ ((b : Int) < (((D5.getD i.toNat []).length) : Int)) ∧ (i.toNat < D5.length) ∧ (b.toNat < (D5.getD i.toNat []).length) ∧ ((0 : Int) ≤ j) ∧ ((j : Int) < (D5.length : Int)) ∧ (j.toNat < D5.length) ∧ ((0 : Int) ≤ b) ∧ ((b : Int) < (((D5.getD j.toNat []).length) : Int)) ∧ (j.toNat < D5.length) ∧ (b.toNat < (D5.getD j.toNat []).length) ∧ (I6 (((D5.getD i.toNat []).getD b.toNat 0) + ((D5.getD j.toNat []).getD b.toNat 0))) ∧ ((0 : Int) ≤ j) ∧ ((j : Int) < (D5.length : Int)) ∧ (j.toNat < D5.length) ∧ ((0 : Int) ≤ a) ∧ ((a : Int) < (((D5.getD j.toNat []).length) : Int)) ∧ (j.toNat < D5.length) ∧ (a.toNat < (D5.getD j.toNat []).length) ∧ (I6 ((((D5.getD i.toNat []).getD b.toNat 0) + ((D5.getD j.toNat []).getD b.toNat 0)) + ((D5.getD j.toNat []).getD a.toNat 0))) ∧ (PC Tryz.prog 161 [.int .i64 ((D5.getD i.toNat []).getD a.toNat 0), .int .i64 ((((D5.getD i.toNat []).getD b.toNat 0) + ((D5.getD j.toNat []).getD b.toNat 0)) + ((D5.getD j.toNat []).getD a.toNat 0))] (.one (.d (.int .i64 (min ((D5.getD i.toNat []).getD a.toNat 0) ((((D5.getD i.toNat []).getD b.toNat 0) + ((D5.getD j.toNat []).getD b.toNat 0)) + ((D5.getD j.toNat []).getD a.toNat 0))))))) ∧ ((0 : Int) ≤ a) ∧ ((a : Int) < (((D5.getD i.toNat []).length) : Int)) ∧ (i.toNat < D5.length) ∧ (a.toNat < (D5.getD i.toNat []).length) ∧ (I6 (b + 1)) ∧ (∃ b' : Int, ∃ D5' : ZR, (J28 U E O1 D1 i O2 D2 j O3 D3 a O4 D4 b' D5') ∧ (J27 U E O1 D1 i O2 D2 j O3 D3 a O4 D4 b' D5' < J27 U E O1 D1 i O2 D2 j O3 D3 a O4 D4 b D5) ∧ (i = i) ∧ (j = j) ∧ (a = a) ∧ ((b + 1) = b') ∧ ((D5.set i.toNat ((D5.getD i.toNat []).set a.toNat (min ((D5.getD i.toNat []).getD a.toNat 0) ((((D5.getD i.toNat []).getD b.toNat 0) + ((D5.getD j.toNat []).getD b.toNat 0)) + ((D5.getD j.toNat []).getD a.toNat 0))))) = D5') ∧ (O4.length = O4.length) ∧ (D5.length = D5'.length) ∧ (O4 = O4))) ∧ ((decide (b < (O4.length : Int))) = false → (I6 (a + 1)) ∧ (∃ a' : Int, ∃ O4' : ZI, ∃ D4' : ZR, (J2e U E O1 D1 i O2 D2 j O3 D3 a' O4' D4') ∧ (J2b U E O1 D1 i O2 D2 j O3 D3 a' O4' D4' < J2b U E O1 D1 i O2 D2 j O3 D3 a O4 D4) ∧ (i = i) ∧ (j = j) ∧ ((a + 1) = a') ∧ (O4 = O4') ∧ (D5 = D4') ∧ (O4.length = O4'.length) ∧ (D5.length = D4'.length))))))) ∧ ((decide (a < (O4.length : Int))) = false → (I6 (j + 1)) ∧ (∃ j' : Int, ∃ O3' : ZI, ∃ D3' : ZR, (J2g U E O1 D1 i O2 D2 j' O3' D3') ∧ (J25 U E O1 D1 i O2 D2 j' O3' D3' < J25 U E O1 D1 i O2 D2 j O3 D3) ∧ (i = i) ∧ ((j + 1) = j') ∧ (O4 = O3') ∧ (D4 = D3') ∧ (O4.length = O3'.length) ∧ (D4.length = D3'.length))))))) ∧ ((decide (j < (D3.length : Int))) = false → (I6 (i + 1)) ∧ (∃ i' : Int, ∃ O2' : ZI, ∃ D2' : ZR, (J2d U E O1 D1 i' O2' D2') ∧ (J29 U E O1 D1 i' O2' D2' < J29 U E O1 D1 i O2 D2) ∧ ((i + 1) = i') ∧ (O3 = O2') ∧ (D3 = D2') ∧ (O3.length = O2'.length) ∧ (D3.length = D2'.length))))))) ∧ ((decide (i < (D2.length : Int))) = false → (∃ O1' : ZI, ∃ D1' : ZR, (J0G U E O1' D1') ∧ (J3k U E O1' D1' < J3k U E O1 D1) ∧ (O2 = O1') ∧ (D2 = D1') ∧ (O2.length = O1'.length) ∧ (D2.length = D1'.length))))))) ∧ ((!(J3Q O1.length D1)) = false → (∃ O' : ZI, ∃ D' : ZR, (J36 U E O' D') ∧ (O1.length = O1.length) ∧ ((O1 : ZI) = O') ∧ (D1.length = D1.length) ∧ ((D1 : ZR) = D'))))))
theorem J9o (U : ZI) (E : ZR) (hf : drF U E) (w_Open : (U.length : Int) ≤ 9223372036854775807) (w_Dist : (E.length : Int) ≤ 9223372036854775807) (v_Dist : ∀ x9 ∈ E, (x9.length : Int) ≤ 9223372036854775807) : J6h U E := by
  unfold J6h
  refine ⟨?_, ?_, ?_⟩
  ·refine Jbc U E ?_ ?_ ?_
   ·have q := hf.1; have q2 := hf.2.1; omega
   ·have q := hf.1; have q2 := hf.2.1; omega
   ·intro r hr
    have q := (hf.2.2 r hr).1
    have q2 := hf.1
    omega
  ·refine ⟨U, E, ?_⟩
   refine ⟨?_, rfl, rfl, rfl, rfl⟩
   ·unfold J0G
    assumption
  intro O1 D1 hJ
  have d1 := hJ
  refine ⟨rfl, rfl, ?_, ?_, ?_⟩
  ·refine J95 O1 D1 ?_
   ·intro i a hi ha
    have q := Ja d1 hi ha
    omega
  ·intro b1
   try simp only [nrmT] at b1
   refine ⟨?_, ?_⟩
   ·refine ⟨0, O1, D1, ?_⟩
    refine ⟨?_, rfl, rfl, rfl, rfl, rfl⟩
    ·refine ⟨?_, ?_, ?_, ?_, ?_, ?_⟩
     ·rfl
     ·omega
     ·omega
     ·assumption
     ·omega
     ·exact .inl ⟨rfl, rfl⟩
   intro i O2 D2 hJ
   obtain ⟨o2, h1, h2, d2, l2, c2⟩ := hJ
   refine ⟨?_, ?_⟩
   ·intro b2
    try simp only [nrmT] at b2
    refine ⟨?_, ?_⟩
    ·refine ⟨0, O2, D2, ?_⟩
     refine ⟨?_, rfl, rfl, rfl, rfl, rfl, rfl⟩
     ·refine ⟨?_, ?_, ?_, ?_, ?_, ?_⟩
      ·assumption
      ·omega
      ·omega
      ·assumption
      ·omega
      ·exact J2Y c2 fun h => by rw [h]; rfl
    intro j O3 D3 hJ
    obtain ⟨o3, h4, h5, d3, l3, c3⟩ := hJ
    refine ⟨?_, ?_⟩
    ·intro b3
     try simp only [nrmT] at b3
     refine ⟨?_, ?_⟩
     ·refine ⟨0, O3, D3, ?_⟩
      refine ⟨?_, rfl, rfl, rfl, rfl, rfl, rfl, rfl⟩
      ·refine ⟨?_, ?_, ?_, ?_, ?_, ?_⟩
       ·assumption
       ·omega
       ·omega
       ·assumption
       ·omega
       ·exact J2Y c3 fun h => by rw [h]; rfl
     intro a O4 D4 hJ
     obtain ⟨o4, h7, h8, d4, l4, c4⟩ := hJ
     refine ⟨?_, ?_⟩
     ·intro b4
      try simp only [nrmT] at b4
      refine ⟨?_, ?_⟩
      ·refine ⟨0, D4, ?_⟩
       refine ⟨?_, rfl, rfl, rfl, rfl, rfl, rfl, rfl, rfl⟩
       ·refine ⟨?_, ?_, ?_, ?_, ?_⟩
        ·omega
        ·omega
        ·assumption
        ·omega
        ·exact J2Y c4 fun h => by rw [h]; rfl
      intro b D5 hJ
      obtain ⟨k1, k2, d5, l5, c5⟩ := hJ
      refine ⟨?_, ?_⟩
      ·intro b5
       try simp only [nrmT] at b5
       refine ⟨rfl, ?_, ?_, ?_, ?_, ?_, ?_, ?_, ?_, ?_, ?_, ?_, ?_, ?_, ?_, ?_, ?_, ?_, ?_, ?_, ?_, ?_, ?_, ?_, ?_, ?_, ?_, ?_, ?_, ?_, ?_, ?_, ?_, ?_, J98 ((D5.getD i.toNat []).getD a.toNat 0) ((((D5.getD i.toNat []).getD b.toNat 0) + ((D5.getD j.toNat []).getD b.toNat 0)) + ((D5.getD j.toNat []).getD a.toNat 0)), ?_, ?_, ?_, ?_, ?_, ?_⟩
       ·omega
       ·omega
       ·omega
       ·omega
       ·omega
       ·omega
       ·omega
       ·have eo := congrArg List.length o4
        have q1 := Ja d5 (i := i.toNat) (a := a.toNat) (by omega) (by omega)
        have q2 := Ja d5 (i := i.toNat) (a := b.toNat) (by omega) (by omega)
        have q3 := Ja d5 (i := j.toNat) (a := b.toNat) (by omega) (by omega)
        have q4 := Ja d5 (i := j.toNat) (a := a.toNat) (by omega) (by omega)
        omega
       ·omega
       ·have eo := congrArg List.length o4
        have q1 := Ja d5 (i := i.toNat) (a := a.toNat) (by omega) (by omega)
        have q2 := Ja d5 (i := i.toNat) (a := b.toNat) (by omega) (by omega)
        have q3 := Ja d5 (i := j.toNat) (a := b.toNat) (by omega) (by omega)
        have q4 := Ja d5 (i := j.toNat) (a := a.toNat) (by omega) (by omega)
        omega
       ·omega
       ·omega
       ·omega
       ·omega
       ·have eo := congrArg List.length o4
        have q1 := Ja d5 (i := i.toNat) (a := a.toNat) (by omega) (by omega)
        have q2 := Ja d5 (i := i.toNat) (a := b.toNat) (by omega) (by omega)
        have q3 := Ja d5 (i := j.toNat) (a := b.toNat) (by omega) (by omega)
        have q4 := Ja d5 (i := j.toNat) (a := a.toNat) (by omega) (by omega)
        omega
       ·omega
       ·have eo := congrArg List.length o4
        have q1 := Ja d5 (i := i.toNat) (a := a.toNat) (by omega) (by omega)
        have q2 := Ja d5 (i := i.toNat) (a := b.toNat) (by omega) (by omega)
        have q3 := Ja d5 (i := j.toNat) (a := b.toNat) (by omega) (by omega)
        have q4 := Ja d5 (i := j.toNat) (a := a.toNat) (by omega) (by omega)
        omega
       ·omega
       ·omega
       ·omega
       ·omega
       ·have eo := congrArg List.length o4
        have q1 := Ja d5 (i := i.toNat) (a := a.toNat) (by omega) (by omega)
        have q2 := Ja d5 (i := i.toNat) (a := b.toNat) (by omega) (by omega)
        have q3 := Ja d5 (i := j.toNat) (a := b.toNat) (by omega) (by omega)
        have q4 := Ja d5 (i := j.toNat) (a := a.toNat) (by omega) (by omega)
        omega
       ·omega
       ·have eo := congrArg List.length o4
        have q1 := Ja d5 (i := i.toNat) (a := a.toNat) (by omega) (by omega)
        have q2 := Ja d5 (i := i.toNat) (a := b.toNat) (by omega) (by omega)
        have q3 := Ja d5 (i := j.toNat) (a := b.toNat) (by omega) (by omega)
        have q4 := Ja d5 (i := j.toNat) (a := a.toNat) (by omega) (by omega)
        omega
       ·have eo := congrArg List.length o4
        have q1 := Ja d5 (i := i.toNat) (a := a.toNat) (by omega) (by omega)
        have q2 := Ja d5 (i := i.toNat) (a := b.toNat) (by omega) (by omega)
        have q3 := Ja d5 (i := j.toNat) (a := b.toNat) (by omega) (by omega)
        have q4 := Ja d5 (i := j.toNat) (a := a.toNat) (by omega) (by omega)
        omega
       ·omega
       ·omega
       ·omega
       ·omega
       ·have eo := congrArg List.length o4
        have q1 := Ja d5 (i := i.toNat) (a := a.toNat) (by omega) (by omega)
        have q2 := Ja d5 (i := i.toNat) (a := b.toNat) (by omega) (by omega)
        have q3 := Ja d5 (i := j.toNat) (a := b.toNat) (by omega) (by omega)
        have q4 := Ja d5 (i := j.toNat) (a := a.toNat) (by omega) (by omega)
        omega
       ·omega
       ·have eo := congrArg List.length o4
        have q1 := Ja d5 (i := i.toNat) (a := a.toNat) (by omega) (by omega)
        have q2 := Ja d5 (i := i.toNat) (a := b.toNat) (by omega) (by omega)
        have q3 := Ja d5 (i := j.toNat) (a := b.toNat) (by omega) (by omega)
        have q4 := Ja d5 (i := j.toNat) (a := a.toNat) (by omega) (by omega)
        omega
       ·have eo := congrArg List.length o4
        have q1 := Ja d5 (i := i.toNat) (a := a.toNat) (by omega) (by omega)
        have q2 := Ja d5 (i := i.toNat) (a := b.toNat) (by omega) (by omega)
        have q3 := Ja d5 (i := j.toNat) (a := b.toNat) (by omega) (by omega)
        have q4 := Ja d5 (i := j.toNat) (a := a.toNat) (by omega) (by omega)
        omega
       ·omega
       ·have eo := congrArg List.length o4
        have q1 := Ja d5 (i := i.toNat) (a := a.toNat) (by omega) (by omega)
        have q2 := Ja d5 (i := i.toNat) (a := b.toNat) (by omega) (by omega)
        have q3 := Ja d5 (i := j.toNat) (a := b.toNat) (by omega) (by omega)
        have q4 := Ja d5 (i := j.toNat) (a := a.toNat) (by omega) (by omega)
        omega
       ·omega
       ·have eo := congrArg List.length o4
        have q1 := Ja d5 (i := i.toNat) (a := a.toNat) (by omega) (by omega)
        have q2 := Ja d5 (i := i.toNat) (a := b.toNat) (by omega) (by omega)
        have q3 := Ja d5 (i := j.toNat) (a := b.toNat) (by omega) (by omega)
        have q4 := Ja d5 (i := j.toNat) (a := a.toNat) (by omega) (by omega)
        omega
       ·(have q := d4.1; have eo := congrArg List.length o4; omega)
       refine ⟨(b + 1), (D5.set i.toNat ((D5.getD i.toNat []).set a.toNat (min ((D5.getD i.toNat []).getD a.toNat 0) ((((D5.getD i.toNat []).getD b.toNat 0) + ((D5.getD j.toNat []).getD b.toNat 0)) + ((D5.getD j.toNat []).getD a.toNat 0))))), ?_⟩
       refine ⟨?_, ?_, rfl, rfl, rfl, rfl, rfl, rfl, ?_, rfl⟩
       ·refine ⟨?_, ?_, ?_, ?_, ?_⟩
        ·omega
        ·(simp_all <;> omega)
        ·have eo := congrArg List.length o4
         have hs := J9b d5 (i := i.toNat) (j := j.toNat) (a := a.toNat) (b := b.toNat) (by omega) (by omega) (by omega) (by omega) c5
         exact hs.1
        ·simp; try omega
        ·have eo := congrArg List.length o4
         have hs := J9b d5 (i := i.toNat) (j := j.toNat) (a := a.toNat) (b := b.toNat) (by omega) (by omega) (by omega) (by omega) c5
         rw [show (b + 1).toNat = b.toNat + 1 by omega]
         exact hs.2
       ·have eo := congrArg List.length o4
        (simp only [J27]; omega)
       (simp_all; done)
      intro b6
      try simp only [nrmT] at b6
      refine ⟨?_, ?_⟩
      ·(have q := d4.1; have eo := congrArg List.length o4; omega)
      refine ⟨(a + 1), O4, D5, ?_⟩
      refine ⟨?_, ?_, rfl, rfl, rfl, rfl, rfl, rfl, rfl⟩
      ·refine ⟨?_, ?_, ?_, ?_, ?_, ?_⟩
       ·assumption
       ·omega
       ·omega
       ·assumption
       ·omega
       ·have eo := congrArg List.length o4
        refine J2Y c5 fun h => ?_
        simp only [Bool.and_eq_true] at h ⊢
        refine ⟨h.1.1, allTo_step h7 h.1.2 ?_⟩
        show allTo _ O1.length = true
        rw [← h.2]; congr 1; omega
      (simp only [J2b]; omega)
     intro b7
     try simp only [nrmT] at b7
     refine ⟨?_, ?_⟩
     ·(have q := d2.2.1; omega)
     refine ⟨(j + 1), O4, D4, ?_⟩
     refine ⟨?_, ?_, rfl, rfl, rfl, rfl, rfl, rfl⟩
     ·refine ⟨?_, ?_, ?_, ?_, ?_, ?_⟩
      ·assumption
      ·omega
      ·omega
      ·assumption
      ·omega
      ·refine J2Y c4 fun h => ?_
       simp only [Bool.and_eq_true] at h ⊢
       refine ⟨h.1.1, allTo_step h4 h.1.2 ?_⟩
       show allTo _ O1.length = true
       rw [← h.2]; congr 1
       have eo := congrArg List.length o4
       omega
     (simp only [J25]; omega)
    intro b8
    try simp only [nrmT] at b8
    refine ⟨?_, ?_⟩
    ·(have q := d2.2.1; omega)
    refine ⟨(i + 1), O3, D3, ?_⟩
    refine ⟨?_, ?_, rfl, rfl, rfl, rfl, rfl⟩
    ·refine ⟨?_, ?_, ?_, ?_, ?_, ?_⟩
     ·assumption
     ·omega
     ·omega
     ·assumption
     ·omega
     ·refine J2Y c3 fun h => ?_
      simp only [Bool.and_eq_true] at h
      refine allTo_step h1 h.1 ?_
      show allTo _ D1.length = true
      rw [← h.2]; congr 1; omega
    (simp only [J29]; omega)
   intro b9
   try simp only [nrmT] at b9
   refine ⟨O2, D2, ?_⟩
   refine ⟨?_, ?_, rfl, rfl, rfl, rfl⟩
   ·unfold J0G
    (rw [o2]; assumption)
   have hlt := Jct (n := O1.length) (D0 := D1) (D := D2) (by rw [show D1.length = i.toNat by omega]; exact c2) (by simpa using b1)
   have hn := JaR (D := D2) fun r hr x hx => ((d2.2.2 r hr).2 x hx).1
   show (tot D2).toNat < (tot D1).toNat
   omega
  intro b10
  try simp only [nrmT] at b10
  refine ⟨O1, D1, ?_⟩
  refine ⟨?_, rfl, rfl, rfl, rfl⟩
  ·unfold J36
   assumption
theorem J9e (U : ZI) (E : ZR) (hf : drF U E) : PE Tryz.prog 187 [.agg [.sl (.ints U), .sl (.rows E)]] (J4c U E) :=
  pe_wf @Tryz.call187 fun hw => pe_by (by kernel_rfl) Tryz.func187 @Tryz.call187 (by kernel_rfl) Jam (Jab U E) (by kernel_rfl) (J9o U E hf hw.1.1 hw.1.2.1.1 hw.1.2.1.2) (by kernel_rfl)
abbrev J0c (code : List Nat) (c : Cur) (most : Int) (O : ZI) (D : ZR) (ck : Cur) : Prop := (okC ck 8000000) ∧ (O.length ≤ 8) ∧ (D.length ≤ 8)
def J1Y (code : List Nat) (c : Cur) (most : Int) : Ex := ex3 1 (fun (O : ZI) (D : ZR) (ck : Cur) => J0c code c most O D ck) (fun (O : ZI) (D : ZR) (ck : Cur) => [.int .i64 ck.pos, .int .u64 ck.seed]) (fun (O : ZI) (D : ZR) (ck : Cur) => .one (.d (.agg [.sl (.ints O), .sl (.rows D)])))
def J5M (f : FuncId) (ds : List D) : Orc := .no
def J5V (u : Value) (code : List Nat) (c : Cur) (most : Int) : Ann := .two (.none) (.two (.two (.mark [] [(1, .cell [.int .i64 ((J1 code c 3).pos), .int .u64 ((J1 code c 3).seed)] (.one (.d (.int .i64 (J6 code c 3)))))]) (.two (.none) (.two (.two (.exr (.ex [] 3 (Jz code (J1 code c 3) most) (fun g => (fun (Or3 : ZI) (Dr3 : ZR) (cfr3 : Cur) => .ex [] 4 (JF code cfr3 Or3 Dr3) (fun g => (fun (Or3x4 : ZI) (Dr3x4 : ZR) (chr3x4 : Cur) => .ms [] []) (g.1) (g.2.1) (g.2.2))) (g.1) (g.2.1) (g.2.2)))) (.none)) (.two (.none) (.two (.two (.exr (.ex [] 3 (J1m code (J1 code c 3) most) (fun g => (fun (Or5 : ZI) (Dr5 : ZR) (cgr5 : Cur) => .ex [] 4 (JF code cgr5 Or5 Dr5) (fun g => (fun (Or5x4 : ZI) (Dr5x4 : ZR) (chr5x4 : Cur) => .ms [] []) (g.1) (g.2.1) (g.2.2))) (g.1) (g.2.1) (g.2.2)))) (.none)) (.none)))))) (.two (.exr (.ex [] 3 (Jz code (J1 code c 3) most) (fun g => (fun (Or6 : ZI) (Dr6 : ZR) (cfr6 : Cur) => .ex [] 4 (J4c Or6 Dr6) (fun g => (fun (Or6x4 : ZI) (Dr6x4 : ZR) => .ex [] 5 (JF code cfr6 Or6x4 Dr6x4) (fun g => (fun (Or6x5 : ZI) (Dr6x5 : ZR) (chr6x5 : Cur) => .ms [] []) (g.1) (g.2.1) (g.2.2))) (g.1) (g.2))) (g.1) (g.2.1) (g.2.2)))) (.none)))
def J1U (u : Value) (code : List Nat) (c : Cur) (most : Int) : Prop :=
  (PK Tryz.prog 156 76 (.sl (.bytes code)) [.int .i64 c.pos, .int .u64 c.seed] [.int .i64 ((J1 code c 3).pos), .int .u64 ((J1 code c 3).seed)] [.int .i64 3] (.one (.d (.int .i64 (J6 code c 3))))) ∧ ((((J6 code c 3) == 0) = true → (PKE Tryz.prog 188 76 (.sl (.bytes code)) [.int .i64 ((J1 code c 3).pos), .int .u64 ((J1 code c 3).seed)] [.int .i64 most] (Jz code (J1 code c 3) most)) ∧ (∀ Or3 : ZI, ∀ Dr3 : ZR, ∀ cfr3 : Cur, J04 code (J1 code c 3) most Or3 Dr3 cfr3 → ((true = true) ∧ (Or3.length = Or3.length) ∧ (Dr3.length = Dr3.length) ∧ (PKV Tryz.prog 232 76 (.sl (.bytes code)) [.int .i64 cfr3.pos, .int .u64 cfr3.seed] 3 Or3 3 24 Dr3 (JF code cfr3 Or3 Dr3)) ∧ (∀ Or3x4 : ZI, ∀ Dr3x4 : ZR, ∀ chr3x4 : Cur, Jg code cfr3 Or3 Dr3 Or3x4 Dr3x4 chr3x4 → ((true = true) ∧ (∃ O' : ZI, ∃ D' : ZR, ∃ ck' : Cur, (J0c code c most O' D' ck') ∧ (true = true) ∧ ((.lit u (.sl (.bytes code)) : D) = .lit u (.sl (.bytes code))) ∧ (chr3x4.pos = ck'.pos) ∧ (chr3x4.seed = ck'.seed) ∧ (Or3x4.length = Or3x4.length) ∧ (Dr3x4.length = Dr3x4.length) ∧ ((.agg [.sl (.ints Or3x4), .sl (.rows Dr3x4)] : D) = .agg [.sl (.ints O'), .sl (.rows D')]))))))) ∧ (((J6 code c 3) == 0) = false → ((((J6 code c 3) == 1) = true → (PKE Tryz.prog 186 76 (.sl (.bytes code)) [.int .i64 ((J1 code c 3).pos), .int .u64 ((J1 code c 3).seed)] [.int .i64 most] (J1m code (J1 code c 3) most)) ∧ (∀ Or5 : ZI, ∀ Dr5 : ZR, ∀ cgr5 : Cur, J1l code (J1 code c 3) most Or5 Dr5 cgr5 → ((true = true) ∧ (Or5.length = Or5.length) ∧ (Dr5.length = Dr5.length) ∧ (PKV Tryz.prog 232 76 (.sl (.bytes code)) [.int .i64 cgr5.pos, .int .u64 cgr5.seed] 3 Or5 3 24 Dr5 (JF code cgr5 Or5 Dr5)) ∧ (∀ Or5x4 : ZI, ∀ Dr5x4 : ZR, ∀ chr5x4 : Cur, Jg code cgr5 Or5 Dr5 Or5x4 Dr5x4 chr5x4 → ((true = true) ∧ (∃ O' : ZI, ∃ D' : ZR, ∃ ck' : Cur, (J0c code c most O' D' ck') ∧ (true = true) ∧ ((.lit u (.sl (.bytes code)) : D) = .lit u (.sl (.bytes code))) ∧ (chr5x4.pos = ck'.pos) ∧ (chr5x4.seed = ck'.seed) ∧ (Or5x4.length = Or5x4.length) ∧ (Dr5x4.length = Dr5x4.length) ∧ ((.agg [.sl (.ints Or5x4), .sl (.rows Dr5x4)] : D) = .agg [.sl (.ints O'), .sl (.rows D')]))))))) ∧ (((J6 code c 3) == 1) = false → (PKE Tryz.prog 188 76 (.sl (.bytes code)) [.int .i64 ((J1 code c 3).pos), .int .u64 ((J1 code c 3).seed)] [.int .i64 most] (Jz code (J1 code c 3) most)) ∧ (∀ Or6 : ZI, ∀ Dr6 : ZR, ∀ cfr6 : Cur, J04 code (J1 code c 3) most Or6 Dr6 cfr6 → ((true = true) ∧ (Or6.length = Or6.length) ∧ (Dr6.length = Dr6.length) ∧ (PE Tryz.prog 187 [.agg [.sl (.ints Or6), .sl (.rows Dr6)]] (J4c Or6 Dr6)) ∧ (∀ Or6x4 : ZI, ∀ Dr6x4 : ZR, J36 Or6 Dr6 Or6x4 Dr6x4 → ((true = true) ∧ (Or6x4.length = Or6x4.length) ∧ (Dr6x4.length = Dr6x4.length) ∧ (PKV Tryz.prog 232 76 (.sl (.bytes code)) [.int .i64 cfr6.pos, .int .u64 cfr6.seed] 3 Or6x4 3 24 Dr6x4 (JF code cfr6 Or6x4 Dr6x4)) ∧ (∀ Or6x5 : ZI, ∀ Dr6x5 : ZR, ∀ chr6x5 : Cur, Jg code cfr6 Or6x4 Dr6x4 Or6x5 Dr6x5 chr6x5 → ((true = true) ∧ (∃ O' : ZI, ∃ D' : ZR, ∃ ck' : Cur, (J0c code c most O' D' ck') ∧ (true = true) ∧ ((.lit u (.sl (.bytes code)) : D) = .lit u (.sl (.bytes code))) ∧ (chr6x5.pos = ck'.pos) ∧ (chr6x5.seed = ck'.seed) ∧ (Or6x5.length = Or6x5.length) ∧ (Dr6x5.length = Dr6x5.length) ∧ ((.agg [.sl (.ints Or6x5), .sl (.rows Dr6x5)] : D) = .agg [.sl (.ints O'), .sl (.rows D')]))))))))))))
theorem J5l (u : Value) (code : List Nat) (c : Cur) (most : Int) (hb : ∀ x9 ∈ code, x9 < 256) (hc : okC c 2000000) (hm : 0 ≤ most ∧ most ≤ 7)  : J1U u code c most := by
  unfold J1U
  refine ⟨?_, ?_, ?_⟩
  ·refine Jq code c 3 ?_ ?_
   ·exact hb
   ·exact J8 (by assumption) (by omega)
  ·intro b1
   refine ⟨?_, ?_⟩
   ·refine J17 code (J1 code c 3) most ?_ ?_ ?_
    ·exact hb
    ·exact J8 (Jk (by assumption)) (by omega)
    ·omega
   intro Or3 Dr3 cfr3 hQ9
   obtain ⟨f1r3, f2r3⟩ := hQ9
   refine ⟨rfl, rfl, rfl, ?_, ?_⟩
   ·refine J1i code cfr3 Or3 Dr3 ?_ ?_ ?_
    ·exact hb
    ·exact J8 (by assumption) (by omega)
    ·assumption
   intro Or3x4 Dr3x4 chr3x4 hQ9
   obtain ⟨f1r3x4, f2r3x4, f3r3x4⟩ := hQ9
   refine ⟨rfl, ?_⟩
   ·refine ⟨Or3x4, Dr3x4, chr3x4, ?_⟩
    refine ⟨?_, rfl, rfl, rfl, rfl, rfl, rfl, rfl⟩
    ·refine ⟨?_, ?_, ?_⟩
     ·exact J8 (by assumption) (by omega)
     ·assumption
     ·assumption
  intro b2
  refine ⟨?_, ?_⟩
  ·intro b3
   refine ⟨?_, ?_⟩
   ·refine J4i code (J1 code c 3) most ?_ ?_ ?_
    ·exact hb
    ·exact J8 (Jk (by assumption)) (by omega)
    ·omega
   intro Or5 Dr5 cgr5 hQ9
   obtain ⟨f1r5, f2r5⟩ := hQ9
   refine ⟨rfl, rfl, rfl, ?_, ?_⟩
   ·refine J1i code cgr5 Or5 Dr5 ?_ ?_ ?_
    ·exact hb
    ·exact J8 (by assumption) (by omega)
    ·assumption
   intro Or5x4 Dr5x4 chr5x4 hQ9
   obtain ⟨f1r5x4, f2r5x4, f3r5x4⟩ := hQ9
   refine ⟨rfl, ?_⟩
   ·refine ⟨Or5x4, Dr5x4, chr5x4, ?_⟩
    refine ⟨?_, rfl, rfl, rfl, rfl, rfl, rfl, rfl⟩
    ·refine ⟨?_, ?_, ?_⟩
     ·exact J8 (by assumption) (by omega)
     ·assumption
     ·assumption
  intro b4
  refine ⟨?_, ?_⟩
  ·refine J17 code (J1 code c 3) most ?_ ?_ ?_
   ·exact hb
   ·exact J8 (Jk (by assumption)) (by omega)
   ·omega
  intro Or6 Dr6 cfr6 hQ9
  obtain ⟨f1r6, f2r6⟩ := hQ9
  refine ⟨rfl, rfl, rfl, ?_, ?_⟩
  ·refine J9e Or6 Dr6 ?_
   ·assumption
  intro Or6x4 Dr6x4 hQ9
  have f2r6x4 := hQ9
  refine ⟨rfl, rfl, rfl, ?_, ?_⟩
  ·refine J1i code cfr6 Or6x4 Dr6x4 ?_ ?_ ?_
   ·exact hb
   ·exact J8 (by assumption) (by omega)
   ·assumption
  intro Or6x5 Dr6x5 chr6x5 hQ9
  obtain ⟨f1r6x5, f2r6x5, f3r6x5⟩ := hQ9
  refine ⟨rfl, ?_⟩
  ·refine ⟨Or6x5, Dr6x5, chr6x5, ?_⟩
   refine ⟨?_, rfl, rfl, rfl, rfl, rfl, rfl, rfl⟩
   ·refine ⟨?_, ?_, ?_⟩
    ·exact J8 (by assumption) (by omega)
    ·assumption
    ·assumption
theorem J4G (code : List Nat) (c : Cur) (most : Int) (hb : ∀ x9 ∈ code, x9 < 256) (hc : okC c 2000000) (hm : 0 ≤ most ∧ most ≤ 7) : PKE Tryz.prog 209 76 (.sl (.bytes code)) [.int .i64 c.pos, .int .u64 c.seed] [.int .i64 most] (J1Y code c most) :=
  pke_by (Q := fun u => J1U u code c most) (by kernel_rfl) Tryz.func209 @Tryz.call209 (by kernel_rfl) J5M (fun u => J5V u code c most) (by kernel_rfl) (fun u => J5l u code c most hb hc hm) (fun u => by kernel_rfl)
abbrev J2H (code : List Nat) (c : Cur) (O : ZI) (D : ZR) (cl : Cur) : Prop := (okC cl 8000000) ∧ (O.length ≤ 8) ∧ (D.length ≤ 8)
def J2O (code : List Nat) (c : Cur) : Ex := ex3 1 (fun (O : ZI) (D : ZR) (cl : Cur) => J2H code c O D cl) (fun (O : ZI) (D : ZR) (cl : Cur) => [.int .i64 cl.pos, .int .u64 cl.seed]) (fun (O : ZI) (D : ZR) (cl : Cur) => .one (.d (.agg [.sl (.ints O), .sl (.rows D)])))
def J7c (f : FuncId) (ds : List D) : Orc := .no
def J74 (u : Value) (code : List Nat) (c : Cur) : Ann := .two (.none) (.two (.exr (.ex [] 1 (J1Y code c 7) (fun g => (fun (Or1 : ZI) (Dr1 : ZR) (ckr1 : Cur) => .ms [] []) (g.1) (g.2.1) (g.2.2)))) (.none))
def J2L (u : Value) (code : List Nat) (c : Cur) : Prop :=
  (PKE Tryz.prog 209 76 (.sl (.bytes code)) [.int .i64 c.pos, .int .u64 c.seed] [.int .i64 7] (J1Y code c 7)) ∧ (∀ Or1 : ZI, ∀ Dr1 : ZR, ∀ ckr1 : Cur, J0c code c 7 Or1 Dr1 ckr1 → ((true = true) ∧ (∃ O' : ZI, ∃ D' : ZR, ∃ cl' : Cur, (J2H code c O' D' cl') ∧ (true = true) ∧ ((.lit u (.sl (.bytes code)) : D) = .lit u (.sl (.bytes code))) ∧ (ckr1.pos = cl'.pos) ∧ (ckr1.seed = cl'.seed) ∧ ((.agg [.sl (.ints Or1), .sl (.rows Dr1)] : D) = .agg [.sl (.ints O'), .sl (.rows D')]))))
theorem J6A (u : Value) (code : List Nat) (c : Cur) (hb : ∀ x9 ∈ code, x9 < 256) (hc : okC c 2000000)  : J2L u code c := by
  unfold J2L
  refine ⟨?_, ?_⟩
  ·refine J4G code c 7 ?_ ?_ ?_
   ·exact hb
   ·exact J8 (by assumption) (by omega)
   ·omega
  intro Or1 Dr1 ckr1 hQ9
  obtain ⟨f1r1, f2r1, f3r1⟩ := hQ9
  refine ⟨rfl, ?_⟩
  ·refine ⟨Or1, Dr1, ckr1, ?_⟩
   refine ⟨?_, rfl, rfl, rfl, rfl, rfl⟩
   ·refine ⟨?_, ?_, ?_⟩
    ·exact J8 (by assumption) (by omega)
    ·assumption
    ·assumption
theorem J5H (code : List Nat) (c : Cur) (hb : ∀ x9 ∈ code, x9 < 256) (hc : okC c 2000000) : PKE Tryz.prog 133 76 (.sl (.bytes code)) [.int .i64 c.pos, .int .u64 c.seed] [] (J2O code c) :=
  pke_by (Q := fun u => J2L u code c) (by kernel_rfl) Tryz.func133 @Tryz.call133 (by kernel_rfl) J7c (fun u => J74 u code c) (by kernel_rfl) (fun u => J6A u code c hb hc) (fun u => by kernel_rfl)
theorem JbV {D : ZR} {s : ZI} {a : Int} (ha : a ∈ s) (j : Nat) : J2f D s j ≤ (D.getD j []).getD a.toNat 0 := by
  obtain ⟨i, hi, e⟩ := List.mem_iff_getElem.1 ha
  have h := J8u (D.getD j []) s s.length i hi
  rw [JG hi, e] at h
  exact h
theorem JbX {D : ZR} {s : ZI} (hp : 0 < s.length) (j : Nat) : ∃ a, a ∈ s ∧ J2f D s j = (D.getD j []).getD a.toNat 0 :=
  ⟨_, J70 hp s.length (Nat.le_refl _), rfl⟩
theorem J5o {D : ZR} {s t : ZI} (ht : 0 < t.length) (h : ∀ x ∈ t, x ∈ s) (j : Nat) : J2f D s j ≤ J2f D t j := by
  obtain ⟨a, h1, h2⟩ := JbX (D := D) ht j
  rw [h2]
  exact JbV (h a h1) j
theorem J8i {xs ys : ZI} : ∀ k, (∀ j, j < k → xs.getD j 0 ≤ ys.getD j 0) → J2h xs k ≤ J2h ys k
  | 0, _ => Int.le_refl _
  | k + 1, h => by
    have h1 := J8i k fun j hj => h j (by omega)
    have h2 := h k (by omega)
    rw [J3g, J3g]; omega
theorem J5c {D : ZR} {s t : ZI} (h : ∀ j, j < D.length → J2f D s j ≤ J2f D t j) : J4 D s ≤ J4 D t :=
  J8i _ fun j hj => by rw [J4n _ _ _ _ hj, J4n _ _ _ _ hj]; exact h j hj
theorem Jbm {l : ZI} (h : Asc l) (i j : Nat) (hij : i < j) (hj : j < l.length) : l.getD i 0 < l.getD j 0 := by
  rw [JG hj, JG (show i < l.length by omega)]
  exact List.pairwise_iff_getElem.1 h i j (by omega) hj hij
theorem Jar {s : ZI} {n : Nat} (h : J5 s 0 ((n : Int) - 1) = true) (hl : s.length = n) : ∀ i, i < n → s.getD i 0 = (i : Int) := by
  have ha := J3w h
  have hlo : ∀ i, i < n → (i : Int) ≤ s.getD i 0 := fun i => by
    induction i with
    | zero => intro hi; exact (J16 h _ (getD_mem (d := 0) (by omega))).1
    | succ i ih => intro hi; have h1 := ih (by omega); have h2 := Jbm ha i (i + 1) (by omega) (by omega); omega
  have hhi : ∀ k i, i + k + 1 = n → s.getD i 0 ≤ (i : Int) := fun k => by
    induction k with
    | zero => intro i hi; have := (J16 h _ (getD_mem (d := 0) (show i < s.length by omega))).2; omega
    | succ k ih => intro i hi; have h1 := ih (i + 1) (by omega); have h2 := Jbm ha i (i + 1) (by omega) (by omega); omega
  intro i hi
  have := hlo i hi
  have := hhi (n - 1 - i) i (by omega)
  omega
theorem Jbu {U : ZI} {D : ZR} {s t : ZI} (hs : J5 s 0 ((U.length : Int) - 1) = true) (hl : s.length = U.length) (ht : J5 t 0 ((U.length : Int) - 1) = true) (hp : 0 < t.length) : J4 D s ≤ J4 D t :=
  J5c fun j _ => J5o hp (fun x hx => by
    have h1 := J16 ht x hx
    have h2 := Jar hs hl x.toNat (by omega)
    have h3 := getD_mem (d := 0) (show x.toNat < s.length by omega)
    rw [h2, Int.toNat_of_nonneg h1.1] at h3
    exact h3) j
theorem J58 {U : ZI} {D : ZR} {j : Nat} (h : j < U.length) : (JP U D U.length).getD j 0 = J4 D (Jl U D ((j : Int) + 1)) := tabTo_get h
theorem Jcs {n : Nat} {s : ZI} (h : J5 s 0 ((n : Int) - 1) = true) (hp : 0 < s.length) : s ∈ J7 n := by
  have h1 := JaH h
  unfold chs at h1
  rcases List.mem_append.1 h1 with h1 | h1
  · rw [List.mem_singleton] at h1; subst h1; simp at hp
  exact h1
theorem J8g {l : ZI} (h : Asc l) : l.Nodup := h.imp fun {a b} hab e => by omega
theorem J9K {n : Nat} {x : Int} (h : 0 ≤ x ∧ x < (n : Int)) : x ∈ J1k n := by
  have := getD_mem (d := 0) (show x.toNat < (J1k n).length by rw [J1y]; omega)
  rw [J9h (by omega), Int.toNat_of_nonneg h.1] at this
  exact this
def gmF (D : ZR) (S : ZI) (b : Int) (a : Nat) : Int := if (!(S.contains (a : Int)) && (decide (b < 0) || decide (J4 D (putL S (a : Int)) < J4 D (putL S b)))) = true then (a : Int) else b
def gmB (D : ZR) (S : ZI) (k : Nat) : Int := foldTo (gmF D S) (-1) k
theorem J2o (D : ZR) (S : ZI) (k : Nat) : gmB D S (k + 1) = gmF D S (gmB D S k) k := rfl
theorem JE (D : ZR) (S : ZI) : ∀ k, -1 ≤ gmB D S k ∧ gmB D S k < k
  | 0 => by simp [gmB, foldTo]
  | k + 1 => by
    have := JE D S k
    rw [J2o]
    unfold gmF
    split <;> omega
theorem J7E {D : ZR} {S : ZI} : ∀ k i : Nat, i < k → S.contains (i : Int) = false → 0 ≤ gmB D S k ∧ J4 D (putL S (gmB D S k)) ≤ J4 D (putL S (i : Int))
  | k + 1, i, hi, hc => by
    rw [J2o]
    unfold gmF
    by_cases e : i = k
    · subst e
      rw [hc]
      split
      · omega
      rename_i h
      simp only [Bool.not_false, Bool.true_and, Bool.or_eq_true, decide_eq_true_eq] at h
      omega
    obtain ⟨h1, h2⟩ := J7E (D := D) k i (by omega) hc
    split
    · rename_i h
      rw [Bool.and_eq_true, Bool.or_eq_true, decide_eq_true_eq, decide_eq_true_eq] at h
      omega
    exact ⟨h1, h2⟩
theorem JaD {D : ZR} {S : ZI} : ∀ k, 0 ≤ gmB D S k → S.contains (gmB D S k) = false
  | 0, h => by simp [gmB, foldTo] at h
  | k + 1, h => by
    rw [J2o] at h ⊢
    unfold gmF at h ⊢
    split
    · rename_i hn
      rw [Bool.and_eq_true] at hn
      simpa using hn.1
    rename_i hn
    rw [if_neg hn] at h
    exact JaD k h
def gmS (D : ZR) (n : Nat) : Nat → ZI
  | 0 => []
  | k + 1 => putL (gmS D n k) (gmB D (gmS D n k) n)
def gmO (D : ZR) (n : Nat) : Nat → ZI
  | 0 => []
  | k + 1 => gmO D n k ++ [gmB D (gmS D n k) n]
theorem J9m {l : ZI} {x : Int} (ha : Asc l) (hx : x ∉ l) : (putL l x).length = l.length + 1 := by
  have h1 := putL_len l x
  have h2 := List.Nodup.length_le_of_subset (List.nodup_cons.2 ⟨hx, J8g ha⟩) (fun y hy => by
    rcases List.mem_cons.1 hy with hy | hy
    · exact mem_putL.2 (.inl hy)
    exact mem_putL.2 (.inr hy) : ∀ y ∈ x :: l, y ∈ putL l x)
  rw [List.length_cons] at h2
  omega
/-- There is a site that a smaller set J96. -/
theorem J96 {S : ZI} {n : Nat} (hl : S.length < n) : ∃ i : Nat, i < n ∧ S.contains (i : Int) = false := by
  apply Classical.byContradiction
  intro hno
  have := Jb6 (out := S) (n := n) fun i hi => by
    cases e : S.contains (i : Int) with
    | true => rfl
    | false => exact absurd ⟨i, hi, e⟩ hno
  omega
theorem Jd (D : ZR) (n : Nat) : ∀ k, k ≤ n → Asc (gmS D n k) ∧ (∀ x ∈ gmS D n k, 0 ≤ x ∧ x < (n : Int)) ∧ (gmS D n k).length = k ∧ (gmO D n k).length = k ∧ (∀ x, x ∈ gmO D n k ↔ x ∈ gmS D n k) ∧ (k < n → 0 ≤ gmB D (gmS D n k) n ∧ gmB D (gmS D n k) n < (n : Int) ∧ gmB D (gmS D n k) n ∉ gmS D n k)
  | k, hk => by
    have hb : ∀ S : ZI, S.length < n → 0 ≤ gmB D S n ∧ gmB D S n < (n : Int) ∧ gmB D S n ∉ S := fun S hS => by
      obtain ⟨i, h1, h2⟩ := J96 hS
      have h3 := (J7E (D := D) n i h1 h2).1
      have h4 := JaD n h3
      exact ⟨h3, (JE D S n).2, fun hm => by rw [List.contains_iff_mem.2 hm] at h4; cases h4⟩
    match k, hk with
    | 0, hk => exact ⟨List.Pairwise.nil, fun x hx => (by cases hx), rfl, rfl, fun x => Iff.rfl, fun h => hb [] (by simpa using h)⟩
    | k + 1, hk =>
      obtain ⟨i1, i2, i3, i4, i5, i6⟩ := Jd D n k (by omega)
      obtain ⟨b1, b2, b3⟩ := i6 (by omega)
      have hl : (gmS D n (k + 1)).length = k + 1 := by
        show (putL _ _).length = _
        rw [J9m i1 b3, i3]
      refine ⟨asc_putL i1, fun x hx => ?_, hl, ?_, fun x => ?_, fun h => hb _ (by omega)⟩
      · rcases mem_putL.1 hx with hx | hx
        · omega
        · exact i2 x hx
      · show (_ ++ [_]).length = _
        rw [List.length_append, i4]; rfl
      show x ∈ _ ++ [_] ↔ x ∈ putL _ _
      rw [List.mem_append, List.mem_singleton, mem_putL, i5 x]
      exact Or.comm
theorem J4g {U : ZI} {D : ZR} (hg : J0 U D = true) {S : ZI} (ha : Asc S) (hr : ∀ x ∈ S, 0 ≤ x ∧ x < (U.length : Int)) {a : Int} (h : 0 ≤ a ∧ a < (U.length : Int)) :
    (J0 U D && J5 (putL S a) 0 ((U.length : Int) - 1) && decide (0 < (putL S a).length)) = true := by
  rw [hg, J3e (asc_putL ha) (fun x hx => by
    rcases mem_putL.1 hx with hx | hx
    · omega
    have := hr x hx; omega), decide_eq_true (List.length_pos_of_mem (mem_putL.2 (.inl rfl)))]
  rfl
theorem J6B {S : ZI} (ha : Asc S) (hr : ∀ x ∈ S, 0 ≤ x ∧ x < 62) : members (fun k => (bagN S).testBit k) 62 = S := by
  refine asc_ext (asc_members _ _) ha fun x => ?_
  rw [mem_members, bagN_bit fun y hy => (hr y hy).1, List.contains_iff_mem]
  constructor
  · rintro ⟨h1, h2, h3⟩
    rwa [Int.toNat_of_nonneg h1] at h3
  intro hx
  have := hr x hx
  exact ⟨this.1, this.2, by rwa [Int.toNat_of_nonneg this.1]⟩
theorem Jcr {S : ZI} (hr : ∀ x ∈ S, 0 ≤ x) {a : Int} (ha : 0 ≤ a) : bagN (putL S a) = bagN S ||| 2 ^ a.toNat := by
  refine Nat.eq_of_testBit_eq fun i => ?_
  rw [bagN_bit fun y hy => by
    rcases mem_putL.1 hy with hy | hy
    · omega
    exact hr y hy, Nat.testBit_or, bagN_bit hr, Nat.testBit_two_pow, Bool.eq_iff_iff, List.contains_iff_mem, mem_putL, Bool.or_eq_true, List.contains_iff_mem, decide_eq_true_eq]
  constructor
  · rintro (h | h)
    · right; omega
    · exact .inl h
  rintro (h | h)
  · exact .inr h
  · left; omega
def gmL (U : ZI) (E : ZR) (k : Int) : ZI := if (J0 U E && inB k 1 (U.length : Int)) = true then gmO E U.length k.toNat else []
abbrev J0L (U : ZI) (E : ZR) (k : Int) (out : ZI) (set : ZI) : Prop := (out = gmO E U.length out.length) ∧ (set = gmS E U.length out.length) ∧ ((out.length : Int) ≤ k) ∧ (k ≤ (U.length : Int))
abbrev J0K (U : ZI) (E : ZR) (k : Int) (out : ZI) (set : ZI) : Nat := (k - out.length).toNat
abbrev J02 (U : ZI) (E : ZR) (k : Int) (out : ZI) (set : ZI) (best : Int) (a : Int) : Prop := (0 ≤ a ∧ a ≤ (U.length : Int)) ∧ (best = gmB E set a.toNat)
abbrev JB (U : ZI) (E : ZR) (k : Int) (out : ZI) (set : ZI) (best : Int) (a : Int) : Nat := (U.length - a).toNat
def J6F (f : FuncId) (ds : List D) : Orc := bif Nat.beq f 135 then J47 ds else bif Nat.beq f 128 then Jaf ds else bif Nat.beq f 140 then Jal ds else bif Nat.beq f 137 then J1e ds else .no
def J6k (U : ZI) (E : ZR) (k : Int) : Ann := .two (.none) (.two (.reg [(1, .frz)]) (.two (.none) (.two (.loop (cut2 (fun (out : ZI) (set : ZI) => J0L U E k out set) (fun (out : ZI) (set : ZI) => [(1, .d false (.int .i64 k)), (2, .ptr 2 0), (6, .own 1000000 out.length), (7, .d true (.sl (.ints set)))]) (fun (out : ZI) (set : ZI) => [(1000000, .arr true 3 (.ints out)), (2, .box 27 [.d false (.sl (.ints U)), .d false (.sl (.rows E))])])) (fun g => J0K U E k g.1 g.2) (fun g => (fun (out : ZI) (set : ZI) => .two (.none) (.two (.none) (.two (.two (.none) (.loop (cut2 (fun (best : Int) (a : Int) => J02 U E k out set best a) (fun (best : Int) (a : Int) => [(1, .d false (.int .i64 k)), (2, .ptr 2 0), (6, .own 1000000 out.length), (7, .d true (.sl (.ints set))), (8, .d true (.int .i64 best)), (9, .d true (.int .i64 a))]) (fun (best : Int) (a : Int) => [(2, .box 27 [.d false (.sl (.ints U)), .d false (.sl (.rows E))]), (1000000, .arr true 3 (.ints out))])) (fun g => JB U E k out set g.1 g.2) (fun _ => .none))) (.none)))) (g.1) (g.2))) (.none))))
def J3O (U : ZI) (E : ZR) (k : Int) : Prop :=
  (PC Tryz.prog 135 [.agg [.sl (.ints U), .sl (.rows E)], .int .i64 k] (.one (.d (.bool (J0 U E && inB k 1 (U.length : Int)))))) ∧ (((!(J0 U E && inB k 1 (U.length : Int))) = true → (((0 : Nat) = 0) ∧ (([] : ZI) = gmL U E k) ∧ (false = (J0 U E && inB k 1 (U.length : Int))))) ∧ ((!(J0 U E && inB k 1 (U.length : Int))) = false → ((∃ out' : ZI, ∃ set' : ZI, (J0L U E k out' set') ∧ (k = k) ∧ ((0 : Nat) = out'.length) ∧ ([] = set') ∧ ([] = out') ∧ (U = U) ∧ (E = E)) ∧ (∀ out : ZI, ∀ set : ZI, (J0L U E k out set) → (((decide ((out.length : Int) < k)) = true → ((∃ best' : Int, ∃ a' : Int, (J02 U E k out set best' a') ∧ (k = k) ∧ (out.length = out.length) ∧ (set = set) ∧ (((-1) : Int) = best') ∧ ((0 : Int) = a') ∧ (U = U) ∧ (E = E) ∧ (out = out)) ∧ (∀ best : Int, ∀ a : Int, (J02 U E k out set best a) → (((decide (a < (U.length : Int))) = true → (true = true) ∧ (PC Tryz.prog 128 [.sl (.ints set), .int .i64 a] (.one (.d (.bool (set.contains a))))) ∧ ((!(set.contains a)) = true → (!(set.contains a)) = true) ∧ ((!(set.contains a)) = true → (!(set.contains a)) = true) ∧ (((!(set.contains a)) && (!(decide (best < 0)))) = true → ((!(set.contains a)) && (!(decide (best < 0)))) = true) ∧ (((!(set.contains a)) && (!(decide (best < 0)))) = true → ((!(set.contains a)) && (!(decide (best < 0)))) = true) ∧ (((!(set.contains a)) && (!(decide (best < 0)))) = true → PCs Tryz.prog 140 [.sl (.ints set), .int .i64 a] 0 (.sl (.ints (putL set a)))) ∧ (((!(set.contains a)) && (!(decide (best < 0)))) = true → ((!(set.contains a)) && (!(decide (best < 0)))) = true) ∧ (((!(set.contains a)) && (!(decide (best < 0)))) = true → ((!(set.contains a)) && (!(decide (best < 0)))) = true) ∧ (((!(set.contains a)) && (!(decide (best < 0)))) = true → PC Tryz.prog 137 [.agg [.sl (.ints U), .sl (.rows E)], .sl (.ints (putL set a))] (.one (.d (.int .i64 (J4 E (putL set a)))))) ∧ (((!(set.contains a)) && (!(decide (best < 0)))) = true → ((!(set.contains a)) && (!(decide (best < 0)))) = true) ∧ (((!(set.contains a)) && (!(decide (best < 0)))) = true → ((!(set.contains a)) && (!(decide (best < 0)))) = true) ∧ (((!(set.contains a)) && (!(decide (best < 0)))) = true → PCs Tryz.prog 140 [.sl (.ints set), .int .i64 best] 0 (.sl (.ints (putL set best)))) ∧ (((!(set.contains a)) && (!(decide (best < 0)))) = true → ((!(set.contains a)) && (!(decide (best < 0)))) = true) ∧ (((!(set.contains a)) && (!(decide (best < 0)))) = true → ((!(set.contains a)) && (!(decide (best < 0)))) = true) ∧ (((!(set.contains a)) && (!(decide (best < 0)))) = true → PC Tryz.prog 137 [.agg [.sl (.ints U), .sl (.rows E)], .sl (.ints (putL set best))] (.one (.d (.int .i64 (J4 E (putL set best)))))) ∧ (((!(set.contains a)) && (!(decide (best < 0)))) = true → ((!(set.contains a)) && (!(decide (best < 0)))) = true) ∧ (((!(set.contains a)) && (!(decide (best < 0)))) = true → ((!(set.contains a)) && (!(decide (best < 0)))) = true) ∧ (((!(set.contains a)) = true → (!(set.contains a)) = true)) ∧ (((!(set.contains a)) = true → (decide (best < 0)) = true → true = true)) ∧ (((!(set.contains a)) = true → (decide (best < 0)) = false → ((!(set.contains a)) && (!(decide (best < 0)))) = true)) ∧ (true = true) ∧ (((!(set.contains a)) = true → (!(set.contains a)) = true)) ∧ (((!(set.contains a)) = false → true = true)) ∧ (((cond (!(set.contains a)) (cond (decide (best < 0)) true (decide ((J4 E (putL set a)) < (J4 E (putL set best))))) false) = true → (I6 (a + 1)) ∧ (∃ best' : Int, ∃ a' : Int, (J02 U E k out set best' a') ∧ (JB U E k out set best' a' < JB U E k out set best a) ∧ (k = k) ∧ (out.length = out.length) ∧ (set = set) ∧ (a = best') ∧ ((a + 1) = a') ∧ (U = U) ∧ (E = E) ∧ (out = out))) ∧ ((cond (!(set.contains a)) (cond (decide (best < 0)) true (decide ((J4 E (putL set a)) < (J4 E (putL set best))))) false) = false → (I6 (a + 1)) ∧ (∃ best' : Int, ∃ a' : Int, (J02 U E k out set best' a') ∧ (JB U E k out set best' a' < JB U E k out set best a) ∧ (k = k) ∧ (out.length = out.length) ∧ (set = set) ∧ (best = best') ∧ ((a + 1) = a') ∧ (U = U) ∧ (E = E) ∧ (out = out))))) ∧ ((decide (a < (U.length : Int))) = false → (out.length = out.length) ∧ ((1 : Nat) = 1) ∧ ((out.length + 1) * 8 ≤ 140737488355328) ∧ (PCs Tryz.prog 140 [.sl (.ints set), .int .i64 best] 0 (.sl (.ints (putL set best)))) ∧ (∃ out' : ZI, ∃ set' : ZI, (J0L U E k out' set') ∧ (J0K U E k out' set' < J0K U E k out set) ∧ (k = k) ∧ ((out.length + 1) = out'.length) ∧ ((putL set best) = set') ∧ ((out ++ [best]) = out') ∧ (U = U) ∧ (E = E))))))) ∧ ((decide ((out.length : Int) < k)) = false → ((out.length = out.length) ∧ ((out : ZI) = gmL U E k) ∧ (true = (J0 U E && inB k 1 (U.length : Int))))))))))
theorem J63 (U : ZI) (E : ZR) (k : Int)  (w_Open : (U.length : Int) ≤ 9223372036854775807) (w_Dist : (E.length : Int) ≤ 9223372036854775807) (v_Dist : ∀ x9 ∈ E, (x9.length : Int) ≤ 9223372036854775807) : J3O U E k := by
  unfold J3O
  refine ⟨J4p U E k, ?_, ?_⟩
  ·intro b1
   try simp only [Bool.not_eq_true', Bool.not_eq_false', Bool.not_not] at b1
   refine ⟨rfl, ?_, ?_⟩
   ·have hgk : (J0 U E && inB k 1 (U.length : Int)) = false := by simpa using b1
    unfold gmL; rw [hgk]; rfl
   have hgk : (J0 U E && inB k 1 (U.length : Int)) = false := by simpa using b1
   exact hgk.symm
  intro b2
  try simp only [Bool.not_eq_true', Bool.not_eq_false', Bool.not_not] at b2
  refine ⟨?_, ?_⟩
  ·refine ⟨([]), ([]), ?_⟩
   refine ⟨?_, rfl, rfl, ?_, ?_, rfl, rfl⟩
   ·refine ⟨?_, ?_, ?_, ?_⟩
    ·rfl
    ·rfl
    ·have hgk : (J0 U E && inB k 1 (U.length : Int)) = true := by simpa using b2
     obtain ⟨hg, hk⟩ := (Bool.and_eq_true _ _ ▸ hgk : _ ∧ _)
     have hk2 := J3 hk
     obtain ⟨g1, g2, g3⟩ := J2 hg
     (simp; omega)
    ·have hgk : (J0 U E && inB k 1 (U.length : Int)) = true := by simpa using b2
     obtain ⟨hg, hk⟩ := (Bool.and_eq_true _ _ ▸ hgk : _ ∧ _)
     have hk2 := J3 hk
     obtain ⟨g1, g2, g3⟩ := J2 hg
     omega
   ·rfl
   rfl
  intro out set hJ
  obtain ⟨h1, h2, h3, hq⟩ := hJ
  refine ⟨?_, ?_⟩
  ·intro b3
   try simp only [nrmT] at b3
   refine ⟨?_, ?_⟩
   ·refine ⟨(-1), 0, ?_⟩
    refine ⟨?_, rfl, rfl, rfl, rfl, rfl, rfl, rfl, rfl⟩
    ·refine ⟨?_, ?_⟩
     ·omega
     ·rfl
   intro best a hJ
   obtain ⟨h4, h5⟩ := hJ
   refine ⟨?_, ?_⟩
   ·intro b4
    try simp only [nrmT] at b4
    refine ⟨rfl, JaI set a, id, id, id, id, ?_, id, id, ?_, id, id, ?_, id, id, ?_, id, id, id, fun _ _ => rfl, ?_, rfl, id, fun _ => rfl, ?_, ?_⟩
    ·intro hg
     refine J4u set a ?_
     ·have hgk : (J0 U E && inB k 1 (U.length : Int)) = true := by simpa using b2
      obtain ⟨hg, hk⟩ := (Bool.and_eq_true _ _ ▸ hgk : _ ∧ _)
      have hk2 := J3 hk
      obtain ⟨g1, g2, g3⟩ := J2 hg
      obtain ⟨f1, f2, f3, f4, f5, f6⟩ := Jd E U.length out.length (by omega)
      rw [← h2] at f1 f2 f3 f6
      omega
    ·intro hg
     refine J03 U E (putL set a) ?_
     ·have hgk : (J0 U E && inB k 1 (U.length : Int)) = true := by simpa using b2
      obtain ⟨hg, hk⟩ := (Bool.and_eq_true _ _ ▸ hgk : _ ∧ _)
      have hk2 := J3 hk
      obtain ⟨g1, g2, g3⟩ := J2 hg
      obtain ⟨f1, f2, f3, f4, f5, f6⟩ := Jd E U.length out.length (by omega)
      rw [← h2] at f1 f2 f3 f6
      exact J4g hg f1 f2 (by omega)
    ·intro hg
     refine J4u set best ?_
     ·have hgk : (J0 U E && inB k 1 (U.length : Int)) = true := by simpa using b2
      obtain ⟨hg, hk⟩ := (Bool.and_eq_true _ _ ▸ hgk : _ ∧ _)
      have hk2 := J3 hk
      obtain ⟨g1, g2, g3⟩ := J2 hg
      obtain ⟨f1, f2, f3, f4, f5, f6⟩ := Jd E U.length out.length (by omega)
      rw [← h2] at f1 f2 f3 f6
      omega
    ·intro hg
     refine J03 U E (putL set best) ?_
     ·have hb0 : 0 ≤ best := by
        by_cases h : best < 0
        · rw [decide_eq_true h] at hg; simp at hg
        omega
      have hgk : (J0 U E && inB k 1 (U.length : Int)) = true := by simpa using b2
      obtain ⟨hg, hk⟩ := (Bool.and_eq_true _ _ ▸ hgk : _ ∧ _)
      have hk2 := J3 hk
      obtain ⟨g1, g2, g3⟩ := J2 hg
      obtain ⟨f1, f2, f3, f4, f5, f6⟩ := Jd E U.length out.length (by omega)
      rw [← h2] at f1 f2 f3 f6
      have hb2 := JE E set a.toNat
      rw [← h5] at hb2
      exact J4g hg f1 f2 (by omega)
    ·(intro g1; simp at g1 ⊢; simp [g1]; done)
    ·intro b5
     refine ⟨?_, ?_⟩
     ·omega
     refine ⟨a, (a + 1), ?_⟩
     refine ⟨?_, ?_, rfl, rfl, rfl, rfl, rfl, rfl, rfl, rfl⟩
     ·refine ⟨?_, ?_⟩
      ·omega
      ·rw [show (a + 1).toNat = a.toNat + 1 by omega, J2o, ← h5]
       unfold gmF
       rw [show ((a.toNat : Nat) : Int) = a by omega]
       have hx : (!(set.contains a) && (decide (best < 0) || decide (J4 E (putL set a) < J4 E (putL set best)))) = true := by revert b5; cases set.contains a <;> cases decide (best < 0) <;> simp
       rw [if_pos hx]
     (simp only [JB]; omega)
    intro b6
    refine ⟨?_, ?_⟩
    ·omega
    refine ⟨best, (a + 1), ?_⟩
    refine ⟨?_, ?_, rfl, rfl, rfl, rfl, rfl, rfl, rfl, rfl⟩
    ·refine ⟨?_, ?_⟩
     ·omega
     ·rw [show (a + 1).toNat = a.toNat + 1 by omega, J2o, ← h5]
      unfold gmF
      rw [show ((a.toNat : Nat) : Int) = a by omega]
      have hx : (!(set.contains a) && (decide (best < 0) || decide (J4 E (putL set a) < J4 E (putL set best)))) = false := by revert b6; cases set.contains a <;> cases decide (best < 0) <;> simp
      rw [if_neg (by rw [hx]; decide)]
    (simp only [JB]; omega)
   intro b7
   try simp only [nrmT] at b7
   refine ⟨rfl, rfl, ?_, ?_, ?_⟩
   ·have hgk : (J0 U E && inB k 1 (U.length : Int)) = true := by simpa using b2
    obtain ⟨hg, hk⟩ := (Bool.and_eq_true _ _ ▸ hgk : _ ∧ _)
    have hk2 := J3 hk
    obtain ⟨g1, g2, g3⟩ := J2 hg
    omega
   ·refine J4u set best ?_
    ·have hgk : (J0 U E && inB k 1 (U.length : Int)) = true := by simpa using b2
     obtain ⟨hg, hk⟩ := (Bool.and_eq_true _ _ ▸ hgk : _ ∧ _)
     have hk2 := J3 hk
     obtain ⟨g1, g2, g3⟩ := J2 hg
     obtain ⟨f1, f2, f3, f4, f5, f6⟩ := Jd E U.length out.length (by omega)
     rw [← h2] at f1 f2 f3 f6
     omega
   refine ⟨(out ++ [best]), (putL set best), ?_⟩
   refine ⟨?_, ?_, rfl, ?_, rfl, rfl, rfl, rfl⟩
   ·refine ⟨?_, ?_, ?_, ?_⟩
    ·have e : (out ++ [best]).length = out.length + 1 := by simp
     rw [e]
     rw [show a.toNat = U.length by omega] at h5
     show _ = gmO E U.length out.length ++ [gmB E (gmS E U.length out.length) U.length]
     rw [← h1, ← h2, h5]
    ·have e : (out ++ [best]).length = out.length + 1 := by simp
     rw [e]
     rw [show a.toNat = U.length by omega] at h5
     show _ = putL (gmS E U.length out.length) (gmB E (gmS E U.length out.length) U.length)
     rw [← h2, h5]
    ·have e : (out ++ [best]).length = out.length + 1 := by simp
     rw [e]
     omega
    ·have hgk : (J0 U E && inB k 1 (U.length : Int)) = true := by simpa using b2
     obtain ⟨hg, hk⟩ := (Bool.and_eq_true _ _ ▸ hgk : _ ∧ _)
     have hk2 := J3 hk
     obtain ⟨g1, g2, g3⟩ := J2 hg
     omega
   ·(simp only [J0K] at *; simp at *; omega)
   simp
  intro b8
  try simp only [nrmT] at b8
  refine ⟨rfl, ?_, ?_⟩
  ·have hgk : (J0 U E && inB k 1 (U.length : Int)) = true := by simpa using b2
   obtain ⟨hg, hk⟩ := (Bool.and_eq_true _ _ ▸ hgk : _ ∧ _)
   have hk2 := J3 hk
   obtain ⟨g1, g2, g3⟩ := J2 hg
   unfold gmL; rw [if_pos hgk, show k.toNat = out.length by omega]; exact h1
  have hgk : (J0 U E && inB k 1 (U.length : Int)) = true := by simpa using b2
  obtain ⟨hg, hk⟩ := (Bool.and_eq_true _ _ ▸ hgk : _ ∧ _)
  have hk2 := J3 hk
  obtain ⟨g1, g2, g3⟩ := J2 hg
  exact hgk.symm
theorem J5Q (U : ZI) (E : ZR) (k : Int)  : PC Tryz.prog 49 [.agg [.sl (.ints U), .sl (.rows E)], .int .i64 k] (.tup [.own 3 (.ints (gmL U E k)), .d (.bool (J0 U E && inB k 1 (U.length : Int)))]) :=
  pc_wf @Tryz.call49 fun hw => pc_by (by kernel_rfl) Tryz.func49 @Tryz.call49 (by kernel_rfl) J6F (J6k U E k) (by kernel_rfl) (J63 U E k hw.1.1 hw.1.2.1.1 hw.1.2.1.2) (by kernel_rfl)
def J4W : List D → Orc := orcN [none, none] fun ds => match ds with
  | [.agg [.sl (.ints U), .sl (.rows E)], .int .i64 k] => some (.tup [.own 3 (.ints (gmL U E k)), .d (.bool (J0 U E && inB k 1 (U.length : Int)))])
  | _ => none
theorem JH {a : Int} (ha : 0 ≤ a ∧ a < 7) : 1 ≤ (1 : Int) * 2 ^ a.toNat ∧ (1 : Int) * 2 ^ a.toNat ≤ 64 := by
  have h : ∀ k : Nat, k < 7 → 1 ≤ (1 * 2 ^ k : Int) ∧ (1 * 2 ^ k : Int) ≤ 64 := by decide
  exact h _ (by omega)
theorem JS {D : ZR} {n : Nat} (hn : n ≤ 7) {j : Nat} (hj : j ≤ n) : bagN (gmS D n j) < 128 := by
  obtain ⟨f1, f2, _⟩ := Jd D n j hj
  exact bagN_lt (m := 7) fun x hx => by have := f2 x hx; omega
theorem JbA {D : ZR} {n j : Nat} (hj : j ≤ n) {a : Int} (ha : 0 ≤ a) : (((bagN (gmS D n j) : Nat) : Int).toNat.testBit a.toNat) = (gmS D n j).contains a := by
  obtain ⟨f1, f2, _⟩ := Jd D n j hj
  rw [Int.toNat_natCast, bagN_bit (fun x hx => (f2 x hx).1), Int.toNat_of_nonneg ha]
theorem J1c {D : ZR} {n j : Nat} (hj : j ≤ n) {a : Int} (ha : 0 ≤ a) : ((((bagN (gmS D n j) : Nat) : Int).toNat ||| ((1 : Int) * 2 ^ a.toNat).toNat : Nat) : Int) = ((bagN (putL (gmS D n j) a) : Nat) : Int) := by
  obtain ⟨f1, f2, _⟩ := Jd D n j hj
  rw [Jcr (fun x hx => (f2 x hx).1) ha, Int.one_mul, Int.toNat_natCast]
  have : ((2 : Int) ^ a.toNat).toNat = 2 ^ a.toNat := by
    rw [show (2 : Int) = ((2 : Nat) : Int) from rfl, ← Int.natCast_pow, Int.toNat_natCast]
  rw [this]
theorem J0P {D : ZR} {n j : Nat} (hn : n ≤ 7) (hj : j ≤ n) {a : Int} (ha : 0 ≤ a ∧ a < (n : Int)) : bagN (putL (gmS D n j) a) < 128 ∧ members (fun k => (((bagN (putL (gmS D n j) a) : Nat) : Int).toNat.testBit k)) 62 = putL (gmS D n j) a := by
  obtain ⟨f1, f2, _⟩ := Jd D n j hj
  have hp : ∀ x ∈ putL (gmS D n j) a, 0 ≤ x ∧ x < (n : Int) := fun x hx => by
    rcases mem_putL.1 hx with hx | hx
    · omega
    exact f2 x hx
  rw [Int.toNat_natCast]
  exact ⟨bagN_lt (m := 7) fun x hx => by have := hp x hx; omega, J6B (asc_putL f1) fun x hx => by have := hp x hx; omega⟩
abbrev J0N (U : ZI) (E : ZR) (k : Int) (out : ZI) (taken : Int) (i : Int) : Prop := (out = gmO E U.length i.toNat) ∧ (taken = ((bagN (gmS E U.length i.toNat) : Nat) : Int)) ∧ (0 ≤ i ∧ i ≤ k) ∧ (k ≤ (U.length : Int))
abbrev J0Q (U : ZI) (E : ZR) (k : Int) (out : ZI) (taken : Int) (i : Int) : Nat := (k - i).toNat
abbrev J01 (U : ZI) (E : ZR) (k : Int) (out : ZI) (taken : Int) (i : Int) (best : Int) (a : Int) : Prop := (0 ≤ a ∧ a ≤ (U.length : Int)) ∧ (best = gmB E (gmS E U.length i.toNat) a.toNat)
abbrev JC (U : ZI) (E : ZR) (k : Int) (out : ZI) (taken : Int) (i : Int) (best : Int) (a : Int) : Nat := (U.length - a).toNat
def J6j (f : FuncId) (ds : List D) : Orc := bif Nat.beq f 93 then J0O ds else bif Nat.beq f 138 then J3j ds else bif Nat.beq f 125 then JK ds else .no
def J6Q (U : ZI) (E : ZR) (k : Int) : Ann := .two (.none) (.two (.none) (.two (.none) (.two (.two (.none) (.loop (cut3 (fun (out : ZI) (taken : Int) (i : Int) => J0N U E k out taken i) (fun (out : ZI) (taken : Int) (i : Int) => [(2, .ptr 2 0), (6, .own 1000000 out.length), (7, .d true (.int .u64 taken)), (15, .d false (.int .i64 k)), (16, .d true (.int .i64 i))]) (fun (out : ZI) (taken : Int) (i : Int) => [(1000000, .arr true 3 (.ints out)), (2, .box 27 [.d false (.sl (.ints U)), .d false (.sl (.rows E))])])) (fun g => J0Q U E k g.1 g.2.1 g.2.2) (fun g => (fun (out : ZI) (taken : Int) (i : Int) => .two (.none) (.two (.none) (.two (.two (.none) (.two (.two (.none) (.loop (cut2 (fun (best : Int) (a : Int) => J01 U E k out taken i best a) (fun (best : Int) (a : Int) => [(2, .ptr 2 0), (6, .own 1000000 out.length), (7, .d true (.int .u64 taken)), (8, .d true (.int .i64 best)), (15, .d false (.int .i64 k)), (16, .d true (.int .i64 i)), (20, .d true (.int .i64 (U.length : Int))), (21, .d true (.int .i64 a))]) (fun (best : Int) (a : Int) => [(2, .box 27 [.d false (.sl (.ints U)), .d false (.sl (.rows E))]), (1000000, .arr true 3 (.ints out))])) (fun g => JC U E k out taken i g.1 g.2) (fun g => (fun (best : Int) (a : Int) => .two (.none) (.two (.none) (.two (.two (.none) (.two (.reg [(13, .call none (.one (.d (.sl (.ints (members (fun k => ((taken.toNat ||| ((1 : Int) * 2 ^ a.toNat).toNat : Nat) : Int).toNat.testBit k) 62)))))), (20, .call none (.one (.d (.sl (.ints (members (fun k => ((taken.toNat ||| ((1 : Int) * 2 ^ best.toNat).toNat : Nat) : Int).toNat.testBit k) 62))))))]) (.none))) (.none)))) (g.1) (g.2)))) (.none))) (.none)))) (g.1) (g.2.1) (g.2.2)))) (.none))))
def J1X (E : ZR) (k : Int) (taken : Int) (best : Int) (a : Int) : Bool := (cond (!(taken.toNat.testBit a.toNat)) (cond (decide (best < 0)) true (decide ((J4 E (members (fun k => ((taken.toNat ||| ((1 : Int) * 2 ^ a.toNat).toNat : Nat) : Int).toNat.testBit k) 62)) < (J4 E (members (fun k => ((taken.toNat ||| ((1 : Int) * 2 ^ best.toNat).toNat : Nat) : Int).toNat.testBit k) 62))))) false)
def J3W (U : ZI) (E : ZR) (k : Int) : Prop :=
  (PC Tryz.prog 93 [.agg [.sl (.ints U), .sl (.rows E)], .int .i64 k] (.one (.d (.bool (J0 U E && inB k 1 (U.length : Int)))))) ∧ (((!(J0 U E && inB k 1 (U.length : Int))) = true → (((gmL U E k).length = 0) ∧ (false = (J0 U E && inB k 1 (U.length : Int))))) ∧ ((!(J0 U E && inB k 1 (U.length : Int))) = false → ((∃ out' : ZI, ∃ taken' : Int, ∃ i' : Int, (J0N U E k out' taken' i') ∧ ((0 : Nat) = out'.length) ∧ ((0 : Int) = taken') ∧ (k = k) ∧ ((0 : Int) = i') ∧ ([] = out') ∧ (U = U) ∧ (E = E)) ∧ (∀ out : ZI, ∀ taken : Int, ∀ i : Int, (J0N U E k out taken i) → (((decide (i < k)) = true → ((∃ best' : Int, ∃ a' : Int, (J01 U E k out taken i best' a') ∧ (out.length = out.length) ∧ (taken = taken) ∧ (((-1) : Int) = best') ∧ (k = k) ∧ (i = i) ∧ ((U.length : Int) = (U.length : Int)) ∧ ((0 : Int) = a') ∧ (U = U) ∧ (E = E) ∧ (out = out)) ∧ (∀ best : Int, ∀ a : Int, (J01 U E k out taken i best a) → (((decide (a < (U.length : Int))) = true → (true = true) ∧ (PC Tryz.prog 138 [.int .u64 taken, .int .i64 a] (.one (.d (.bool (taken.toNat.testBit a.toNat))))) ∧ ((!(taken.toNat.testBit a.toNat)) = true → (!(taken.toNat.testBit a.toNat)) = true) ∧ ((!(taken.toNat.testBit a.toNat)) = true → (!(taken.toNat.testBit a.toNat)) = true) ∧ (((!(taken.toNat.testBit a.toNat)) && (!(decide (best < 0)))) = true → ((!(taken.toNat.testBit a.toNat)) && (!(decide (best < 0)))) = true) ∧ ((((!(taken.toNat.testBit a.toNat)) && (!(decide (best < 0)))) = true → (0 : Int) ≤ 1)) ∧ ((((!(taken.toNat.testBit a.toNat)) && (!(decide (best < 0)))) = true → (0 : Int) ≤ a)) ∧ ((((!(taken.toNat.testBit a.toNat)) && (!(decide (best < 0)))) = true → (0 : Int) ≤ ((1 : Int) * 2 ^ a.toNat) ∧ (((1 : Int) * 2 ^ a.toNat) : Int) ≤ 18446744073709551615)) ∧ (((!(taken.toNat.testBit a.toNat)) && (!(decide (best < 0)))) = true → ((!(taken.toNat.testBit a.toNat)) && (!(decide (best < 0)))) = true) ∧ (((!(taken.toNat.testBit a.toNat)) && (!(decide (best < 0)))) = true → ((!(taken.toNat.testBit a.toNat)) && (!(decide (best < 0)))) = true) ∧ ((((!(taken.toNat.testBit a.toNat)) && (!(decide (best < 0)))) = true → (0 : Int) ≤ taken ∧ (taken : Int) ≤ 18446744073709551615)) ∧ ((((!(taken.toNat.testBit a.toNat)) && (!(decide (best < 0)))) = true → (0 : Int) ≤ ((1 : Int) * 2 ^ a.toNat) ∧ (((1 : Int) * 2 ^ a.toNat) : Int) ≤ 18446744073709551615)) ∧ (((!(taken.toNat.testBit a.toNat)) && (!(decide (best < 0)))) = true → ((!(taken.toNat.testBit a.toNat)) && (!(decide (best < 0)))) = true) ∧ (((!(taken.toNat.testBit a.toNat)) && (!(decide (best < 0)))) = true → PC Tryz.prog 139 [.int .u64 ((taken.toNat ||| ((1 : Int) * 2 ^ a.toNat).toNat : Nat) : Int)] (.one (.d (.sl (.ints (members (fun k => ((taken.toNat ||| ((1 : Int) * 2 ^ a.toNat).toNat : Nat) : Int).toNat.testBit k) 62)))))) ∧ (((!(taken.toNat.testBit a.toNat)) && (!(decide (best < 0)))) = true → ((!(taken.toNat.testBit a.toNat)) && (!(decide (best < 0)))) = true) ∧ (((!(taken.toNat.testBit a.toNat)) && (!(decide (best < 0)))) = true → ((!(taken.toNat.testBit a.toNat)) && (!(decide (best < 0)))) = true) ∧ (((!(taken.toNat.testBit a.toNat)) && (!(decide (best < 0)))) = true → PC Tryz.prog 125 [.agg [.sl (.ints U), .sl (.rows E)], .sl (.ints (members (fun k => ((taken.toNat ||| ((1 : Int) * 2 ^ a.toNat).toNat : Nat) : Int).toNat.testBit k) 62))] (.one (.d (.int .i64 (J4 E (members (fun k => ((taken.toNat ||| ((1 : Int) * 2 ^ a.toNat).toNat : Nat) : Int).toNat.testBit k) 62)))))) ∧ (((!(taken.toNat.testBit a.toNat)) && (!(decide (best < 0)))) = true → ((!(taken.toNat.testBit a.toNat)) && (!(decide (best < 0)))) = true) ∧ ((((!(taken.toNat.testBit a.toNat)) && (!(decide (best < 0)))) = true → (0 : Int) ≤ 1)) ∧ ((((!(taken.toNat.testBit a.toNat)) && (!(decide (best < 0)))) = true → (0 : Int) ≤ best)) ∧ ((((!(taken.toNat.testBit a.toNat)) && (!(decide (best < 0)))) = true → (0 : Int) ≤ ((1 : Int) * 2 ^ best.toNat) ∧ (((1 : Int) * 2 ^ best.toNat) : Int) ≤ 18446744073709551615)) ∧ (((!(taken.toNat.testBit a.toNat)) && (!(decide (best < 0)))) = true → ((!(taken.toNat.testBit a.toNat)) && (!(decide (best < 0)))) = true) ∧ (((!(taken.toNat.testBit a.toNat)) && (!(decide (best < 0)))) = true → ((!(taken.toNat.testBit a.toNat)) && (!(decide (best < 0)))) = true) ∧ ((((!(taken.toNat.testBit a.toNat)) && (!(decide (best < 0)))) = true → (0 : Int) ≤ taken ∧ (taken : Int) ≤ 18446744073709551615)) ∧ ((((!(taken.toNat.testBit a.toNat)) && (!(decide (best < 0)))) = true → (0 : Int) ≤ ((1 : Int) * 2 ^ best.toNat) ∧ (((1 : Int) * 2 ^ best.toNat) : Int) ≤ 18446744073709551615)) ∧ (((!(taken.toNat.testBit a.toNat)) && (!(decide (best < 0)))) = true → ((!(taken.toNat.testBit a.toNat)) && (!(decide (best < 0)))) = true) ∧ (((!(taken.toNat.testBit a.toNat)) && (!(decide (best < 0)))) = true → PC Tryz.prog 139 [.int .u64 ((taken.toNat ||| ((1 : Int) * 2 ^ best.toNat).toNat : Nat) : Int)] (.one (.d (.sl (.ints (members (fun k => ((taken.toNat ||| ((1 : Int) * 2 ^ best.toNat).toNat : Nat) : Int).toNat.testBit k) 62)))))) ∧ (((!(taken.toNat.testBit a.toNat)) && (!(decide (best < 0)))) = true → ((!(taken.toNat.testBit a.toNat)) && (!(decide (best < 0)))) = true) ∧ (((!(taken.toNat.testBit a.toNat)) && (!(decide (best < 0)))) = true → ((!(taken.toNat.testBit a.toNat)) && (!(decide (best < 0)))) = true) ∧ (((!(taken.toNat.testBit a.toNat)) && (!(decide (best < 0)))) = true → PC Tryz.prog 125 [.agg [.sl (.ints U), .sl (.rows E)], .sl (.ints (members (fun k => ((taken.toNat ||| ((1 : Int) * 2 ^ best.toNat).toNat : Nat) : Int).toNat.testBit k) 62))] (.one (.d (.int .i64 (J4 E (members (fun k => ((taken.toNat ||| ((1 : Int) * 2 ^ best.toNat).toNat : Nat) : Int).toNat.testBit k) 62)))))) ∧ (((!(taken.toNat.testBit a.toNat)) && (!(decide (best < 0)))) = true → ((!(taken.toNat.testBit a.toNat)) && (!(decide (best < 0)))) = true) ∧ (((!(taken.toNat.testBit a.toNat)) && (!(decide (best < 0)))) = true → ((!(taken.toNat.testBit a.toNat)) && (!(decide (best < 0)))) = true) ∧ (((!(taken.toNat.testBit a.toNat)) = true → (!(taken.toNat.testBit a.toNat)) = true)) ∧ (((!(taken.toNat.testBit a.toNat)) = true → (decide (best < 0)) = true → true = true)) ∧ (((!(taken.toNat.testBit a.toNat)) = true → (decide (best < 0)) = false → ((!(taken.toNat.testBit a.toNat)) && (!(decide (best < 0)))) = true)) ∧ (true = true) ∧ (((!(taken.toNat.testBit a.toNat)) = true → (!(taken.toNat.testBit a.toNat)) = true)) ∧ (((!(taken.toNat.testBit a.toNat)) = false → true = true)) ∧ (((J1X E k taken best a) = true → (I6 (a + 1)) ∧ (∃ best' : Int, ∃ a' : Int, (J01 U E k out taken i best' a') ∧ (JC U E k out taken i best' a' < JC U E k out taken i best a) ∧ (out.length = out.length) ∧ (taken = taken) ∧ (a = best') ∧ (k = k) ∧ (i = i) ∧ ((U.length : Int) = (U.length : Int)) ∧ ((a + 1) = a') ∧ (U = U) ∧ (E = E) ∧ (out = out))) ∧ ((J1X E k taken best a) = false → (I6 (a + 1)) ∧ (∃ best' : Int, ∃ a' : Int, (J01 U E k out taken i best' a') ∧ (JC U E k out taken i best' a' < JC U E k out taken i best a) ∧ (out.length = out.length) ∧ (taken = taken) ∧ (best = best') ∧ (k = k) ∧ (i = i) ∧ ((U.length : Int) = (U.length : Int)) ∧ ((a + 1) = a') ∧ (U = U) ∧ (E = E) ∧ (out = out))))) ∧ ((decide (a < (U.length : Int))) = false → (true = true) ∧ (out.length = out.length) ∧ ((1 : Nat) = 1) ∧ ((out.length + 1) * 8 ≤ 140737488355328) ∧ ((0 : Int) ≤ 1) ∧ ((0 : Int) ≤ best) ∧ ((0 : Int) ≤ ((1 : Int) * 2 ^ best.toNat) ∧ (((1 : Int) * 2 ^ best.toNat) : Int) ≤ 18446744073709551615) ∧ ((0 : Int) ≤ taken ∧ (taken : Int) ≤ 18446744073709551615) ∧ ((0 : Int) ≤ ((1 : Int) * 2 ^ best.toNat) ∧ (((1 : Int) * 2 ^ best.toNat) : Int) ≤ 18446744073709551615) ∧ (I6 (i + 1)) ∧ (∃ out' : ZI, ∃ taken' : Int, ∃ i' : Int, (J0N U E k out' taken' i') ∧ (J0Q U E k out' taken' i' < J0Q U E k out taken i) ∧ ((out.length + 1) = out'.length) ∧ (((taken.toNat ||| ((1 : Int) * 2 ^ best.toNat).toNat : Nat) : Int) = taken') ∧ (k = k) ∧ ((i + 1) = i') ∧ ((out ++ [best]) = out') ∧ (U = U) ∧ (E = E))))))) ∧ ((decide (i < k)) = false → ((out.length = out.length) ∧ ((out : ZI) = gmL U E k) ∧ (true = (J0 U E && inB k 1 (U.length : Int))))))))))
theorem J5W (U : ZI) (E : ZR) (k : Int)  (w_Open : (U.length : Int) ≤ 9223372036854775807) (w_Dist : (E.length : Int) ≤ 9223372036854775807) (v_Dist : ∀ x9 ∈ E, (x9.length : Int) ≤ 9223372036854775807) : J3W U E k := by
  unfold J3W J1X
  refine ⟨J10 U E k, ?_, ?_⟩
  ·intro b1
   try simp only [Bool.not_eq_true', Bool.not_eq_false', Bool.not_not] at b1
   refine ⟨?_, ?_⟩
   ·have hgk : (J0 U E && inB k 1 (U.length : Int)) = false := by simpa using b1
    unfold gmL; rw [hgk]; rfl
   have hgk : (J0 U E && inB k 1 (U.length : Int)) = false := by simpa using b1
   exact hgk.symm
  intro b2
  try simp only [Bool.not_eq_true', Bool.not_eq_false', Bool.not_not] at b2
  refine ⟨?_, ?_⟩
  ·refine ⟨([]), 0, 0, ?_⟩
   refine ⟨?_, rfl, rfl, rfl, rfl, ?_, rfl, rfl⟩
   ·refine ⟨?_, ?_, ?_, ?_⟩
    ·rfl
    ·rfl
    ·have hgk : (J0 U E && inB k 1 (U.length : Int)) = true := by simpa using b2
     obtain ⟨hg, hk⟩ := (Bool.and_eq_true _ _ ▸ hgk : _ ∧ _)
     have hk2 := J3 hk
     obtain ⟨g1, g2, g3⟩ := J2 hg
     omega
    ·have hgk : (J0 U E && inB k 1 (U.length : Int)) = true := by simpa using b2
     obtain ⟨hg, hk⟩ := (Bool.and_eq_true _ _ ▸ hgk : _ ∧ _)
     have hk2 := J3 hk
     obtain ⟨g1, g2, g3⟩ := J2 hg
     omega
   rfl
  intro out taken i hJ
  obtain ⟨h1, h2, h3, hq⟩ := hJ
  refine ⟨?_, ?_⟩
  ·intro b3
   try simp only [nrmT] at b3
   refine ⟨?_, ?_⟩
   ·refine ⟨(-1), 0, ?_⟩
    refine ⟨?_, rfl, rfl, rfl, rfl, rfl, rfl, rfl, rfl, rfl, rfl⟩
    ·refine ⟨?_, ?_⟩
     ·have hgk : (J0 U E && inB k 1 (U.length : Int)) = true := by simpa using b2
      obtain ⟨hg, hk⟩ := (Bool.and_eq_true _ _ ▸ hgk : _ ∧ _)
      have hk2 := J3 hk
      obtain ⟨g1, g2, g3⟩ := J2 hg
      omega
     ·rfl
   intro best a hJ
   obtain ⟨h4, h5⟩ := hJ
   refine ⟨?_, ?_⟩
   ·intro b4
    try simp only [nrmT] at b4
    refine ⟨rfl, ?_, id, id, id, ?_, ?_, ?_, id, id, ?_, ?_, id, ?_, id, id, ?_, id, ?_, ?_, ?_, id, id, ?_, ?_, id, ?_, id, id, ?_, id, id, id, fun _ _ => rfl, ?_, rfl, id, fun _ => rfl, ?_, ?_⟩
    ·refine J3V taken a ?_ ?_
     ·try intro hg
      have hgk : (J0 U E && inB k 1 (U.length : Int)) = true := by simpa using b2
      obtain ⟨hg, hk⟩ := (Bool.and_eq_true _ _ ▸ hgk : _ ∧ _)
      have hk2 := J3 hk
      obtain ⟨g1, g2, g3⟩ := J2 hg
      have hi : i.toNat ≤ U.length := by omega
      obtain ⟨f1, f2, f3, f4, f5, f6⟩ := Jd E U.length i.toNat hi
      have hbg := JS (D := E) g2 hi
      have hb2 := JE E (gmS E U.length i.toNat) a.toNat
      rw [← h5] at hb2
      omega
     ·omega
    ·omega
    ·omega
    ·intro hg
     have hgk : (J0 U E && inB k 1 (U.length : Int)) = true := by simpa using b2
     obtain ⟨hg, hk⟩ := (Bool.and_eq_true _ _ ▸ hgk : _ ∧ _)
     have hk2 := J3 hk
     obtain ⟨g1, g2, g3⟩ := J2 hg
     have hi : i.toNat ≤ U.length := by omega
     obtain ⟨f1, f2, f3, f4, f5, f6⟩ := Jd E U.length i.toNat hi
     have hbg := JS (D := E) g2 hi
     have hb2 := JE E (gmS E U.length i.toNat) a.toNat
     rw [← h5] at hb2
     have o1 := J1c (D := E) hi (a := a) (by omega)
     have o2 := J0P (D := E) g2 hi (a := a) (by omega)
     have o3 := JH (a := a) (by omega)
     omega
    ·try intro hg
     have hgk : (J0 U E && inB k 1 (U.length : Int)) = true := by simpa using b2
     obtain ⟨hg, hk⟩ := (Bool.and_eq_true _ _ ▸ hgk : _ ∧ _)
     have hk2 := J3 hk
     obtain ⟨g1, g2, g3⟩ := J2 hg
     have hi : i.toNat ≤ U.length := by omega
     obtain ⟨f1, f2, f3, f4, f5, f6⟩ := Jd E U.length i.toNat hi
     have hbg := JS (D := E) g2 hi
     have hb2 := JE E (gmS E U.length i.toNat) a.toNat
     rw [← h5] at hb2
     omega
    ·intro hg
     have hgk : (J0 U E && inB k 1 (U.length : Int)) = true := by simpa using b2
     obtain ⟨hg, hk⟩ := (Bool.and_eq_true _ _ ▸ hgk : _ ∧ _)
     have hk2 := J3 hk
     obtain ⟨g1, g2, g3⟩ := J2 hg
     have hi : i.toNat ≤ U.length := by omega
     obtain ⟨f1, f2, f3, f4, f5, f6⟩ := Jd E U.length i.toNat hi
     have hbg := JS (D := E) g2 hi
     have hb2 := JE E (gmS E U.length i.toNat) a.toNat
     rw [← h5] at hb2
     have o1 := J1c (D := E) hi (a := a) (by omega)
     have o2 := J0P (D := E) g2 hi (a := a) (by omega)
     have o3 := JH (a := a) (by omega)
     omega
    ·intro hg
     refine J0H ((taken.toNat ||| ((1 : Int) * 2 ^ a.toNat).toNat : Nat) : Int) ?_
     ·have hgk : (J0 U E && inB k 1 (U.length : Int)) = true := by simpa using b2
      obtain ⟨hg, hk⟩ := (Bool.and_eq_true _ _ ▸ hgk : _ ∧ _)
      have hk2 := J3 hk
      obtain ⟨g1, g2, g3⟩ := J2 hg
      have hi : i.toNat ≤ U.length := by omega
      obtain ⟨f1, f2, f3, f4, f5, f6⟩ := Jd E U.length i.toNat hi
      have hbg := JS (D := E) g2 hi
      have hb2 := JE E (gmS E U.length i.toNat) a.toNat
      rw [← h5] at hb2
      have o1 := J1c (D := E) hi (a := a) (by omega)
      have o2 := J0P (D := E) g2 hi (a := a) (by omega)
      have o3 := JH (a := a) (by omega)
      rw [h2, o1]
      omega
    ·intro hg
     refine Jp U E (members (fun k => ((taken.toNat ||| ((1 : Int) * 2 ^ a.toNat).toNat : Nat) : Int).toNat.testBit k) 62) ?_
     ·have hgk : (J0 U E && inB k 1 (U.length : Int)) = true := by simpa using b2
      obtain ⟨hg, hk⟩ := (Bool.and_eq_true _ _ ▸ hgk : _ ∧ _)
      have hk2 := J3 hk
      obtain ⟨g1, g2, g3⟩ := J2 hg
      have hi : i.toNat ≤ U.length := by omega
      obtain ⟨f1, f2, f3, f4, f5, f6⟩ := Jd E U.length i.toNat hi
      have hbg := JS (D := E) g2 hi
      have hb2 := JE E (gmS E U.length i.toNat) a.toNat
      rw [← h5] at hb2
      have o1 := J1c (D := E) hi (a := a) (by omega)
      have o2 := J0P (D := E) g2 hi (a := a) (by omega)
      have o3 := JH (a := a) (by omega)
      rw [h2, o1, o2.2]
      exact J4g hg f1 f2 (by omega)
    ·omega
    ·intro hg
     have hb0 : 0 ≤ best := by
       by_cases h : best < 0
       · rw [decide_eq_true h] at hg; simp at hg
       omega
     exact hb0
    ·intro hg
     have hb0 : 0 ≤ best := by
       by_cases h : best < 0
       · rw [decide_eq_true h] at hg; simp at hg
       omega
     have hgk : (J0 U E && inB k 1 (U.length : Int)) = true := by simpa using b2
     obtain ⟨hg, hk⟩ := (Bool.and_eq_true _ _ ▸ hgk : _ ∧ _)
     have hk2 := J3 hk
     obtain ⟨g1, g2, g3⟩ := J2 hg
     have hi : i.toNat ≤ U.length := by omega
     obtain ⟨f1, f2, f3, f4, f5, f6⟩ := Jd E U.length i.toNat hi
     have hbg := JS (D := E) g2 hi
     have hb2 := JE E (gmS E U.length i.toNat) a.toNat
     rw [← h5] at hb2
     have o1 := J1c (D := E) hi (a := best) (by omega)
     have o2 := J0P (D := E) g2 hi (a := best) (by omega)
     have o3 := JH (a := best) (by omega)
     omega
    ·try intro hg
     have hgk : (J0 U E && inB k 1 (U.length : Int)) = true := by simpa using b2
     obtain ⟨hg, hk⟩ := (Bool.and_eq_true _ _ ▸ hgk : _ ∧ _)
     have hk2 := J3 hk
     obtain ⟨g1, g2, g3⟩ := J2 hg
     have hi : i.toNat ≤ U.length := by omega
     obtain ⟨f1, f2, f3, f4, f5, f6⟩ := Jd E U.length i.toNat hi
     have hbg := JS (D := E) g2 hi
     have hb2 := JE E (gmS E U.length i.toNat) a.toNat
     rw [← h5] at hb2
     omega
    ·intro hg
     have hb0 : 0 ≤ best := by
       by_cases h : best < 0
       · rw [decide_eq_true h] at hg; simp at hg
       omega
     have hgk : (J0 U E && inB k 1 (U.length : Int)) = true := by simpa using b2
     obtain ⟨hg, hk⟩ := (Bool.and_eq_true _ _ ▸ hgk : _ ∧ _)
     have hk2 := J3 hk
     obtain ⟨g1, g2, g3⟩ := J2 hg
     have hi : i.toNat ≤ U.length := by omega
     obtain ⟨f1, f2, f3, f4, f5, f6⟩ := Jd E U.length i.toNat hi
     have hbg := JS (D := E) g2 hi
     have hb2 := JE E (gmS E U.length i.toNat) a.toNat
     rw [← h5] at hb2
     have o1 := J1c (D := E) hi (a := best) (by omega)
     have o2 := J0P (D := E) g2 hi (a := best) (by omega)
     have o3 := JH (a := best) (by omega)
     omega
    ·intro hg
     refine J0H ((taken.toNat ||| ((1 : Int) * 2 ^ best.toNat).toNat : Nat) : Int) ?_
     ·have hb0 : 0 ≤ best := by
        by_cases h : best < 0
        · rw [decide_eq_true h] at hg; simp at hg
        omega
      have hgk : (J0 U E && inB k 1 (U.length : Int)) = true := by simpa using b2
      obtain ⟨hg, hk⟩ := (Bool.and_eq_true _ _ ▸ hgk : _ ∧ _)
      have hk2 := J3 hk
      obtain ⟨g1, g2, g3⟩ := J2 hg
      have hi : i.toNat ≤ U.length := by omega
      obtain ⟨f1, f2, f3, f4, f5, f6⟩ := Jd E U.length i.toNat hi
      have hbg := JS (D := E) g2 hi
      have hb2 := JE E (gmS E U.length i.toNat) a.toNat
      rw [← h5] at hb2
      have o1 := J1c (D := E) hi (a := best) (by omega)
      have o2 := J0P (D := E) g2 hi (a := best) (by omega)
      have o3 := JH (a := best) (by omega)
      rw [h2, o1]
      omega
    ·intro hg
     refine Jp U E (members (fun k => ((taken.toNat ||| ((1 : Int) * 2 ^ best.toNat).toNat : Nat) : Int).toNat.testBit k) 62) ?_
     ·have hb0 : 0 ≤ best := by
        by_cases h : best < 0
        · rw [decide_eq_true h] at hg; simp at hg
        omega
      have hgk : (J0 U E && inB k 1 (U.length : Int)) = true := by simpa using b2
      obtain ⟨hg, hk⟩ := (Bool.and_eq_true _ _ ▸ hgk : _ ∧ _)
      have hk2 := J3 hk
      obtain ⟨g1, g2, g3⟩ := J2 hg
      have hi : i.toNat ≤ U.length := by omega
      obtain ⟨f1, f2, f3, f4, f5, f6⟩ := Jd E U.length i.toNat hi
      have hbg := JS (D := E) g2 hi
      have hb2 := JE E (gmS E U.length i.toNat) a.toNat
      rw [← h5] at hb2
      have o1 := J1c (D := E) hi (a := best) (by omega)
      have o2 := J0P (D := E) g2 hi (a := best) (by omega)
      have o3 := JH (a := best) (by omega)
      rw [h2, o1, o2.2]
      exact J4g hg f1 f2 (by omega)
    ·(simp_all; done)
    ·intro b5
     refine ⟨?_, ?_⟩
     ·omega
     refine ⟨a, (a + 1), ?_⟩
     refine ⟨?_, ?_, rfl, rfl, rfl, rfl, rfl, rfl, rfl, rfl, rfl, rfl⟩
     ·refine ⟨?_, ?_⟩
      ·omega
      ·have hgk : (J0 U E && inB k 1 (U.length : Int)) = true := by simpa using b2
       obtain ⟨hg, hk⟩ := (Bool.and_eq_true _ _ ▸ hgk : _ ∧ _)
       have hk2 := J3 hk
       obtain ⟨g1, g2, g3⟩ := J2 hg
       have hi : i.toNat ≤ U.length := by omega
       obtain ⟨f1, f2, f3, f4, f5, f6⟩ := Jd E U.length i.toNat hi
       have hbg := JS (D := E) g2 hi
       have hb2 := JE E (gmS E U.length i.toNat) a.toNat
       rw [← h5] at hb2
       rw [show (a + 1).toNat = a.toNat + 1 by omega, J2o, ← h5]
       unfold gmF
       rw [show ((a.toNat : Nat) : Int) = a by omega]
       have hx : (!((gmS E U.length i.toNat).contains a) && (decide (best < 0) || decide (J4 E (putL (gmS E U.length i.toNat) a) < J4 E (putL (gmS E U.length i.toNat) best)))) = true := by
         have oa := J1c (D := E) hi (a := a) (by omega)
         have la := (J0P (D := E) g2 hi (a := a) (by omega)).2
         revert b5
         rw [h2, JbA hi (by omega), oa, la]
         by_cases hb0 : best < 0
         · rw [decide_eq_true hb0]; cases (gmS E U.length i.toNat).contains a <;> simp
         rw [decide_eq_false hb0, J1c (D := E) hi (a := best) (by omega), (J0P (D := E) g2 hi (a := best) (by omega)).2]; cases (gmS E U.length i.toNat).contains a <;> simp
       rw [if_pos hx]
     (simp only [JC]; omega)
    intro b6
    refine ⟨?_, ?_⟩
    ·omega
    refine ⟨best, (a + 1), ?_⟩
    refine ⟨?_, ?_, rfl, rfl, rfl, rfl, rfl, rfl, rfl, rfl, rfl, rfl⟩
    ·refine ⟨?_, ?_⟩
     ·omega
     ·have hgk : (J0 U E && inB k 1 (U.length : Int)) = true := by simpa using b2
      obtain ⟨hg, hk⟩ := (Bool.and_eq_true _ _ ▸ hgk : _ ∧ _)
      have hk2 := J3 hk
      obtain ⟨g1, g2, g3⟩ := J2 hg
      have hi : i.toNat ≤ U.length := by omega
      obtain ⟨f1, f2, f3, f4, f5, f6⟩ := Jd E U.length i.toNat hi
      have hbg := JS (D := E) g2 hi
      have hb2 := JE E (gmS E U.length i.toNat) a.toNat
      rw [← h5] at hb2
      rw [show (a + 1).toNat = a.toNat + 1 by omega, J2o, ← h5]
      unfold gmF
      rw [show ((a.toNat : Nat) : Int) = a by omega]
      have hx : (!((gmS E U.length i.toNat).contains a) && (decide (best < 0) || decide (J4 E (putL (gmS E U.length i.toNat) a) < J4 E (putL (gmS E U.length i.toNat) best)))) = false := by
        have oa := J1c (D := E) hi (a := a) (by omega)
        have la := (J0P (D := E) g2 hi (a := a) (by omega)).2
        revert b6
        rw [h2, JbA hi (by omega), oa, la]
        by_cases hb0 : best < 0
        · rw [decide_eq_true hb0]; cases (gmS E U.length i.toNat).contains a <;> simp
        rw [decide_eq_false hb0, J1c (D := E) hi (a := best) (by omega), (J0P (D := E) g2 hi (a := best) (by omega)).2]; cases (gmS E U.length i.toNat).contains a <;> simp
      rw [if_neg (by rw [hx]; decide)]
    (simp only [JC]; omega)
   intro b7
   try simp only [nrmT] at b7
   refine ⟨rfl, rfl, rfl, ?_, ?_, ?_, ?_, ?_, ?_, ?_, ?_⟩
   ·have hgk : (J0 U E && inB k 1 (U.length : Int)) = true := by simpa using b2
    obtain ⟨hg, hk⟩ := (Bool.and_eq_true _ _ ▸ hgk : _ ∧ _)
    have hk2 := J3 hk
    obtain ⟨g1, g2, g3⟩ := J2 hg
    have hi : i.toNat ≤ U.length := by omega
    obtain ⟨f1, f2, f3, f4, f5, f6⟩ := Jd E U.length i.toNat hi
    have hbg := JS (D := E) g2 hi
    have hb2 := JE E (gmS E U.length i.toNat) a.toNat
    rw [← h5] at hb2
    rw [h1, f4]; omega
   ·omega
   ·have hgk : (J0 U E && inB k 1 (U.length : Int)) = true := by simpa using b2
    obtain ⟨hg, hk⟩ := (Bool.and_eq_true _ _ ▸ hgk : _ ∧ _)
    have hk2 := J3 hk
    obtain ⟨g1, g2, g3⟩ := J2 hg
    have hi : i.toNat ≤ U.length := by omega
    obtain ⟨f1, f2, f3, f4, f5, f6⟩ := Jd E U.length i.toNat hi
    have hbg := JS (D := E) g2 hi
    have hb2 := JE E (gmS E U.length i.toNat) a.toNat
    rw [← h5] at hb2
    have hb0 : 0 ≤ best := by
      have h9 := (f6 (by omega)).1
      rw [h5, show a.toNat = U.length by omega]; exact h9
    exact hb0
   ·have hgk : (J0 U E && inB k 1 (U.length : Int)) = true := by simpa using b2
    obtain ⟨hg, hk⟩ := (Bool.and_eq_true _ _ ▸ hgk : _ ∧ _)
    have hk2 := J3 hk
    obtain ⟨g1, g2, g3⟩ := J2 hg
    have hi : i.toNat ≤ U.length := by omega
    obtain ⟨f1, f2, f3, f4, f5, f6⟩ := Jd E U.length i.toNat hi
    have hbg := JS (D := E) g2 hi
    have hb2 := JE E (gmS E U.length i.toNat) a.toNat
    rw [← h5] at hb2
    have hb0 : 0 ≤ best := by
      have h9 := (f6 (by omega)).1
      rw [h5, show a.toNat = U.length by omega]; exact h9
    have o1 := J1c (D := E) hi (a := best) (by omega)
    have o2 := J0P (D := E) g2 hi (a := best) (by omega)
    have o3 := JH (a := best) (by omega)
    omega
   ·try intro hg
    have hgk : (J0 U E && inB k 1 (U.length : Int)) = true := by simpa using b2
    obtain ⟨hg, hk⟩ := (Bool.and_eq_true _ _ ▸ hgk : _ ∧ _)
    have hk2 := J3 hk
    obtain ⟨g1, g2, g3⟩ := J2 hg
    have hi : i.toNat ≤ U.length := by omega
    obtain ⟨f1, f2, f3, f4, f5, f6⟩ := Jd E U.length i.toNat hi
    have hbg := JS (D := E) g2 hi
    have hb2 := JE E (gmS E U.length i.toNat) a.toNat
    rw [← h5] at hb2
    omega
   ·have hgk : (J0 U E && inB k 1 (U.length : Int)) = true := by simpa using b2
    obtain ⟨hg, hk⟩ := (Bool.and_eq_true _ _ ▸ hgk : _ ∧ _)
    have hk2 := J3 hk
    obtain ⟨g1, g2, g3⟩ := J2 hg
    have hi : i.toNat ≤ U.length := by omega
    obtain ⟨f1, f2, f3, f4, f5, f6⟩ := Jd E U.length i.toNat hi
    have hbg := JS (D := E) g2 hi
    have hb2 := JE E (gmS E U.length i.toNat) a.toNat
    rw [← h5] at hb2
    have hb0 : 0 ≤ best := by
      have h9 := (f6 (by omega)).1
      rw [h5, show a.toNat = U.length by omega]; exact h9
    have o1 := J1c (D := E) hi (a := best) (by omega)
    have o2 := J0P (D := E) g2 hi (a := best) (by omega)
    have o3 := JH (a := best) (by omega)
    omega
   ·omega
   refine ⟨(out ++ [best]), ((taken.toNat ||| ((1 : Int) * 2 ^ best.toNat).toNat : Nat) : Int), (i + 1), ?_⟩
   refine ⟨?_, ?_, ?_, rfl, rfl, rfl, rfl, rfl, rfl⟩
   ·refine ⟨?_, ?_, ?_, ?_⟩
    ·rw [show a.toNat = U.length by omega] at h5
     rw [show (i + 1).toNat = i.toNat + 1 by omega]
     show _ = gmO E U.length i.toNat ++ [gmB E (gmS E U.length i.toNat) U.length]
     rw [← h1, h5]
    ·have hgk : (J0 U E && inB k 1 (U.length : Int)) = true := by simpa using b2
     obtain ⟨hg, hk⟩ := (Bool.and_eq_true _ _ ▸ hgk : _ ∧ _)
     have hk2 := J3 hk
     obtain ⟨g1, g2, g3⟩ := J2 hg
     have hi : i.toNat ≤ U.length := by omega
     obtain ⟨f1, f2, f3, f4, f5, f6⟩ := Jd E U.length i.toNat hi
     have hbg := JS (D := E) g2 hi
     have hb2 := JE E (gmS E U.length i.toNat) a.toNat
     rw [← h5] at hb2
     have hb0 : 0 ≤ best := by
       have h9 := (f6 (by omega)).1
       rw [h5, show a.toNat = U.length by omega]; exact h9
     rw [show a.toNat = U.length by omega] at h5
     rw [show (i + 1).toNat = i.toNat + 1 by omega]
     show _ = ((bagN (putL (gmS E U.length i.toNat) (gmB E (gmS E U.length i.toNat) U.length)) : Nat) : Int)
     rw [h2, ← h5]
     exact J1c hi hb0
    ·omega
    ·have hgk : (J0 U E && inB k 1 (U.length : Int)) = true := by simpa using b2
     obtain ⟨hg, hk⟩ := (Bool.and_eq_true _ _ ▸ hgk : _ ∧ _)
     have hk2 := J3 hk
     obtain ⟨g1, g2, g3⟩ := J2 hg
     omega
   ·(simp only [J0Q]; omega)
   (simp_all; done)
  intro b8
  try simp only [nrmT] at b8
  refine ⟨rfl, ?_, ?_⟩
  ·have hgk : (J0 U E && inB k 1 (U.length : Int)) = true := by simpa using b2
   obtain ⟨hg, hk⟩ := (Bool.and_eq_true _ _ ▸ hgk : _ ∧ _)
   have hk2 := J3 hk
   obtain ⟨g1, g2, g3⟩ := J2 hg
   unfold gmL; rw [if_pos hgk, show k.toNat = i.toNat by omega]; exact h1
  have hgk : (J0 U E && inB k 1 (U.length : Int)) = true := by simpa using b2
  obtain ⟨hg, hk⟩ := (Bool.and_eq_true _ _ ▸ hgk : _ ∧ _)
  have hk2 := J3 hk
  obtain ⟨g1, g2, g3⟩ := J2 hg
  exact hgk.symm
theorem J5O (U : ZI) (E : ZR) (k : Int)  : PC Tryz.prog 48 [.agg [.sl (.ints U), .sl (.rows E)], .int .i64 k] (.tup [.own 3 (.ints (gmL U E k)), .d (.bool (J0 U E && inB k 1 (U.length : Int)))]) :=
  pc_wf @Tryz.call48 fun hw => pc_by (by kernel_rfl) Tryz.func48 @Tryz.call48 (by kernel_rfl) J6j (J6Q U E k) (by kernel_rfl) (J5W U E k hw.1.1 hw.1.2.1.1 hw.1.2.1.2) (by kernel_rfl)
def J5e : List D → Orc := orcN [none, none] fun ds => match ds with
  | [.agg [.sl (.ints U), .sl (.rows E)], .int .i64 k] => some (.tup [.own 3 (.ints (gmL U E k)), .d (.bool (J0 U E && inB k 1 (U.length : Int)))])
  | _ => none
def Jf (S : ZI) (x : Int) : ZI := S.filter fun y => !(decide (y = x))
theorem J0W {S : ZI} {x y : Int} : y ∈ Jf S x ↔ y ∈ S ∧ y ≠ x := by
  unfold Jf
  rw [List.mem_filter]
  simp
theorem J4t {S : ZI} {x : Int} (h : Asc S) : Asc (Jf S x) := h.filter _
theorem J2q {S : ZI} {x : Int} (h : Asc S) (hx : x ∈ S) : (Jf S x).length + 1 = S.length := by
  have h1 : S.Nodup := J8g h
  have h2 : (x :: Jf S x).Nodup := List.nodup_cons.2 ⟨fun hm => (J0W.1 hm).2 rfl, h1.filter _⟩
  have h3 := List.Nodup.length_le_of_subset h2 (fun y hy => by
    rcases List.mem_cons.1 hy with hy | hy
    · rw [hy]; exact hx
    exact (J0W.1 hy).1 : ∀ y ∈ _, y ∈ S)
  have h4 := List.Nodup.length_le_of_subset h1 (fun y hy => by
    by_cases e : y = x
    · rw [e]; exact List.mem_cons_self
    exact List.mem_cons_of_mem _ (J0W.2 ⟨hy, e⟩) : ∀ y ∈ S, y ∈ x :: Jf S x)
  rw [List.length_cons] at h3 h4
  omega
def rvF (D : ZR) (S : ZI) (b : Int) (i : Nat) : Int := if J4 D (Jf S (S.getD i 0)) < J4 D (Jf S b) then S.getD i 0 else b
def J5j (D : ZR) (S : ZI) (k : Nat) : Int := foldTo (rvF D S) (S.getD 0 0) k
def rvB (D : ZR) (S : ZI) : Int := J5j D S S.length
theorem J2u (D : ZR) (S : ZI) (k : Nat) : J5j D S (k + 1) = rvF D S (J5j D S k) k := rfl
theorem JbS (D : ZR) (S : ZI) : J5j D S 1 = S.getD 0 0 := by
  show rvF D S (S.getD 0 0) 0 = _
  unfold rvF
  split <;> rfl
theorem Jw (D : ZR) {S : ZI} (h : 0 < S.length) : ∀ k, k ≤ S.length → J5j D S k ∈ S
  | 0, _ => getD_mem h
  | k + 1, hk => by
    rw [J2u]
    unfold rvF
    split
    · exact getD_mem (by omega)
    exact Jw D h k (by omega)
theorem J9r (D : ZR) (S : ZI) : ∀ k i, i < k → J4 D (Jf S (J5j D S k)) ≤ J4 D (Jf S (S.getD i 0))
  | k + 1, i, hi => by
    rw [J2u]
    have h0 := fun h => J9r D S k i h
    unfold rvF
    by_cases e : i = k
    · subst e; split <;> omega
    have := h0 (by omega)
    split <;> omega
def rvS (D : ZR) (n : Nat) : Nat → ZI
  | 0 => J1k n
  | j + 1 => Jf (rvS D n j) (rvB D (rvS D n j))
theorem J18 (D : ZR) (n : Nat) : ∀ j, j ≤ n → Asc (rvS D n j) ∧ (∀ x ∈ rvS D n j, 0 ≤ x ∧ x < (n : Int)) ∧ (rvS D n j).length = n - j
  | 0, _ => ⟨asc_members _ _, fun x hx => by have := mem_members.1 hx; omega, by show (J1k n).length = _; rw [J1y]; rfl⟩
  | j + 1, hj => by
    obtain ⟨i1, i2, i3⟩ := J18 D n j (by omega)
    refine ⟨J4t i1, fun x hx => i2 x (J0W.1 hx).1, ?_⟩
    have := J2q i1 (Jw D (S := rvS D n j) (by omega) _ (Nat.le_refl _))
    show (Jf _ _).length = _
    unfold rvB
    omega
theorem J5v {U : ZI} {D : ZR} (hg : J0 U D = true) {S : ZI} (ha : Asc S) (hr : ∀ x ∈ S, 0 ≤ x ∧ x < (U.length : Int)) (hl : 2 ≤ S.length) {a : Int} (h : a ∈ S) :
    (J0 U D && J5 (Jf S a) 0 ((U.length : Int) - 1) && decide (0 < (Jf S a).length)) = true := by
  have := J2q ha h
  rw [hg, J3e (J4t ha) (fun x hx => by have := hr x (J0W.1 hx).1; omega), decide_eq_true (show 0 < (Jf S a).length by omega)]
  rfl
def rvL (U : ZI) (E : ZR) (k : Int) : ZI := if (J0 U E && inB k 1 (U.length : Int)) = true then rvS E U.length (U.length - k.toNat) else []
theorem J9y {S : ZI} {x : Int} {k : Int} (h0 : 0 ≤ k) (h : k < (S.length : Int)) : Jf (S.take (k + 1).toNat) x = if S.getD k.toNat 0 ≠ x then Jf (S.take k.toNat) x ++ [S.getD k.toNat 0] else Jf (S.take k.toNat) x := by
  rw [take_step (d := 0) h0 h]
  unfold Jf
  rw [List.filter_append]
  by_cases e : S.getD k.toNat 0 = x
  · rw [if_neg (fun h => h e), List.filter_cons, if_neg (by rw [e]; simp)]; simp
  rw [if_pos e, List.filter_cons, if_pos (by simp only [Bool.not_eq_true', decide_eq_false_iff_not]; exact e)]; rfl
theorem J4k (n : Nat) : members (fun k => ((1 : Int) * 2 ^ ((n : Int)).toNat - 1).toNat.testBit k) ((n : Int)).toNat = J1k n := by
  rw [J1J, Int.toNat_natCast]
  have e : (((2 ^ n : Nat) : Int) - 1).toNat = 2 ^ n - 1 := by omega
  rw [e]
  exact J8m
abbrev J0I (set : ZI) (site : Int) (out : ZI) (k : Int) : Prop := (0 ≤ k) ∧ (k ≤ (set.length : Int)) ∧ (out = Jf (set.take k.toNat) site) ∧ ((out.length : Int) ≤ k)
abbrev JQ (set : ZI) (site : Int) (out : ZI) (k : Int) : Nat := (set.length - k).toNat
def J8C (f : FuncId) (ds : List D) : Orc := .no
def J8X (set : ZI) (site : Int) : Ann := .two (.none) (.two (.none) (.two (.two (.none) (.loop (cut2 (fun (out : ZI) (k : Int) => J0I set site out k) (fun (out : ZI) (k : Int) => [(0, .d false (.sl (.ints set))), (1, .d false (.int .i64 site)), (5, .own 1000000 out.length), (6, .d true (.int .i64 k))]) (fun (out : ZI) (k : Int) => [(1000000, .arr true 3 (.ints out))])) (fun g => JQ set site g.1 g.2) (fun _ => .none))) (.none)))
def J4A (set : ZI) (site : Int) : Prop :=
  ((∃ out' : ZI, ∃ k' : Int, (J0I set site out' k') ∧ (set = set) ∧ (site = site) ∧ ((0 : Nat) = out'.length) ∧ ((0 : Int) = k') ∧ ([] = out')) ∧ (∀ out : ZI, ∀ k : Int, (J0I set site out k) → (((decide (k < (set.length : Int))) = true → ((0 : Int) ≤ k) ∧ ((k : Int) < set.length) ∧ (k.toNat < set.length) ∧ ((((set.getD k.toNat 0) != site) = true → ((0 : Int) ≤ k) ∧ ((k : Int) < set.length) ∧ (k.toNat < set.length) ∧ (out.length = out.length) ∧ ((1 : Nat) = 1) ∧ ((out.length + 1) * 8 ≤ 140737488355328) ∧ (I6 (k + 1)) ∧ (∃ out' : ZI, ∃ k' : Int, (J0I set site out' k') ∧ (JQ set site out' k' < JQ set site out k) ∧ (set = set) ∧ (site = site) ∧ ((out.length + 1) = out'.length) ∧ ((k + 1) = k') ∧ ((out ++ [(set.getD k.toNat 0)]) = out'))) ∧ (((set.getD k.toNat 0) != site) = false → (I6 (k + 1)) ∧ (∃ out' : ZI, ∃ k' : Int, (J0I set site out' k') ∧ (JQ set site out' k' < JQ set site out k) ∧ (set = set) ∧ (site = site) ∧ (out.length = out'.length) ∧ ((k + 1) = k') ∧ (out = out'))))) ∧ ((decide (k < (set.length : Int))) = false → ((out.length = out.length) ∧ ((out : ZI) = Jf set site))))))
theorem J83 (set : ZI) (site : Int) (hl : set.length ≤ 1048576) (w_set : (set.length : Int) ≤ 9223372036854775807) : J4A set site := by
  unfold J4A
  refine ⟨?_, ?_⟩
  ·refine ⟨([]), 0, ?_⟩
   refine ⟨?_, rfl, rfl, rfl, rfl, ?_⟩
   ·refine ⟨?_, ?_, ?_, ?_⟩
    ·omega
    ·omega
    ·rfl
    ·(simp_all; done)
   rfl
  intro out k hJ
  obtain ⟨h1, h2, h3, h4⟩ := hJ
  refine ⟨?_, ?_⟩
  ·intro b1
   try simp only [nrmT] at b1
   refine ⟨?_, ?_, ?_, ?_, ?_⟩
   ·omega
   ·omega
   ·omega
   ·intro b2
    try simp only [nrmT] at b2
    refine ⟨?_, ?_, ?_, rfl, rfl, ?_, ?_, ?_⟩
    ·omega
    ·omega
    ·omega
    ·omega
    ·omega
    refine ⟨(out ++ [(set.getD k.toNat 0)]), (k + 1), ?_⟩
    refine ⟨?_, ?_, rfl, rfl, ?_, rfl, rfl⟩
    ·refine ⟨?_, ?_, ?_, ?_⟩
     ·omega
     ·omega
     ·rw [J9y h1 (by omega), if_pos b2, ← h3]
     ·simp; omega
    ·(simp only [JQ]; omega)
    simp
   intro b3
   try simp only [nrmT] at b3
   refine ⟨?_, ?_⟩
   ·omega
   refine ⟨out, (k + 1), ?_⟩
   refine ⟨?_, ?_, rfl, rfl, rfl, rfl, rfl⟩
   ·refine ⟨?_, ?_, ?_, ?_⟩
    ·omega
    ·omega
    ·rw [J9y h1 (by omega), if_neg (by rw [b3]; simp), ← h3]
    ·omega
   (simp only [JQ]; omega)
  intro b4
  try simp only [nrmT] at b4
  refine ⟨rfl, ?_⟩
  ·rw [h3, take_all (by omega)]
theorem J2W (set : ZI) (site : Int) (hl : set.length ≤ 1048576) : PC Tryz.prog 143 [.sl (.ints set), .int .i64 site] (.one (.own 3 (.ints (Jf set site)))) :=
  pc_wf @Tryz.call143 fun hw => pc_by (by kernel_rfl) Tryz.func143 @Tryz.call143 (by kernel_rfl) J8C (J8X set site) (by kernel_rfl) (J83 set site hl hw.1) (by kernel_rfl)
def J7m : List D → Orc := orcN [some .ints, none] fun ds => match ds with
  | [.sl (.ints set), .int .i64 site] => some (.one (.own 3 (.ints (Jf set site))))
  | _ => none
abbrev J0A (U : ZI) (E : ZR) (k : Int) (set : ZI) : Prop := (set = rvS E U.length (U.length - set.length)) ∧ (k ≤ (set.length : Int)) ∧ (set.length ≤ U.length)
abbrev J1n (U : ZI) (E : ZR) (k : Int) (set : ZI) : Nat := set.length
abbrev JU (U : ZI) (E : ZR) (k : Int) (set : ZI) (best : Int) (i : Int) : Prop := (1 ≤ i ∧ i ≤ (set.length : Int)) ∧ (best = J5j E set i.toNat)
abbrev Jx (U : ZI) (E : ZR) (k : Int) (set : ZI) (best : Int) (i : Int) : Nat := (set.length - i).toNat
def J5J (f : FuncId) (ds : List D) : Orc := bif Nat.beq f 135 then J47 ds else bif Nat.beq f 143 then J7m ds else bif Nat.beq f 137 then J1e ds else .no
def J66 (U : ZI) (E : ZR) (k : Int) : Ann := .two (.none) (.two (.none) (.two (.reg [(8, .call none (.one (.own 3 (.ints (members (fun k => (((1 : Int) * 2 ^ ((U.length : Int).toNat)) - 1).toNat.testBit k) (U.length : Int).toNat)))))]) (.two (.loop (cut1 (fun (set : ZI) => J0A U E k set) (fun (set : ZI) => [(1, .d false (.int .i64 k)), (2, .ptr 2 0), (6, .own 1000000 set.length)]) (fun (set : ZI) => [(1000000, .arr true 3 (.ints set)), (2, .box 27 [.d false (.sl (.ints U)), .d false (.sl (.rows E))])])) (fun g => J1n U E k g) (fun g => (fun (set : ZI) => .two (.none) (.two (.none) (.two (.two (.none) (.loop (cut2 (fun (best : Int) (i : Int) => JU U E k set best i) (fun (best : Int) (i : Int) => [(1, .d false (.int .i64 k)), (2, .ptr 2 0), (6, .own 1000000 set.length), (7, .d true (.int .i64 best)), (8, .d true (.int .i64 i))]) (fun (best : Int) (i : Int) => [(2, .box 27 [.d false (.sl (.ints U)), .d false (.sl (.rows E))]), (1000000, .arr true 3 (.ints set))])) (fun g => Jx U E k set g.1 g.2) (fun _ => .none))) (.none)))) g)) (.none))))
def J3p (U : ZI) (E : ZR) (k : Int) : Prop :=
  (PC Tryz.prog 135 [.agg [.sl (.ints U), .sl (.rows E)], .int .i64 k] (.one (.d (.bool (J0 U E && inB k 1 (U.length : Int)))))) ∧ (((!(J0 U E && inB k 1 (U.length : Int))) = true → (((0 : Nat) = 0) ∧ (([] : ZI) = rvL U E k) ∧ (false = (J0 U E && inB k 1 (U.length : Int))))) ∧ ((!(J0 U E && inB k 1 (U.length : Int))) = false → (true = true) ∧ ((0 : Int) ≤ 1) ∧ ((0 : Int) ≤ (U.length : Int)) ∧ ((0 : Int) ≤ ((1 : Int) * 2 ^ ((U.length : Int).toNat)) ∧ (((1 : Int) * 2 ^ ((U.length : Int).toNat)) : Int) ≤ 9223372036854775807) ∧ (I6 (((1 : Int) * 2 ^ ((U.length : Int).toNat)) - 1)) ∧ (PC Tryz.prog 142 [.int .i64 (U.length : Int), .int .i64 (((1 : Int) * 2 ^ ((U.length : Int).toNat)) - 1)] (.one (.own 3 (.ints (members (fun k => (((1 : Int) * 2 ^ ((U.length : Int).toNat)) - 1).toNat.testBit k) (U.length : Int).toNat))))) ∧ ((∃ set' : ZI, (J0A U E k set') ∧ (k = k) ∧ ((members (fun k => (((1 : Int) * 2 ^ ((U.length : Int).toNat)) - 1).toNat.testBit k) (U.length : Int).toNat).length = set'.length) ∧ (members (fun k => (((1 : Int) * 2 ^ ((U.length : Int).toNat)) - 1).toNat.testBit k) (U.length : Int).toNat = set') ∧ (U = U) ∧ (E = E)) ∧ (∀ set : ZI, (J0A U E k set) → (((decide ((set.length : Int) > k)) = true → ((0 : Int) ≤ 0) ∧ ((0 : Int) < (set.length : Int)) ∧ (0 < set.length) ∧ ((∃ best' : Int, ∃ i' : Int, (JU U E k set best' i') ∧ (k = k) ∧ (set.length = set.length) ∧ ((set.getD 0 0) = best') ∧ ((1 : Int) = i') ∧ (U = U) ∧ (E = E) ∧ (set = set)) ∧ (∀ best : Int, ∀ i : Int, (JU U E k set best i) → (((decide (i < (set.length : Int))) = true → (true = true) ∧ ((0 : Int) ≤ i) ∧ ((i : Int) < (set.length : Int)) ∧ (i.toNat < set.length) ∧ (set.length = set.length) ∧ (PC Tryz.prog 143 [.sl (.ints set), .int .i64 (set.getD i.toNat 0)] (.one (.own 3 (.ints (Jf set (set.getD i.toNat 0)))))) ∧ ((Jf set (set.getD i.toNat 0)).length = (Jf set (set.getD i.toNat 0)).length) ∧ (PC Tryz.prog 137 [.agg [.sl (.ints U), .sl (.rows E)], .sl (.ints (Jf set (set.getD i.toNat 0)))] (.one (.d (.int .i64 (J4 E (Jf set (set.getD i.toNat 0))))))) ∧ (set.length = set.length) ∧ (PC Tryz.prog 143 [.sl (.ints set), .int .i64 best] (.one (.own 3 (.ints (Jf set best))))) ∧ ((Jf set best).length = (Jf set best).length) ∧ (PC Tryz.prog 137 [.agg [.sl (.ints U), .sl (.rows E)], .sl (.ints (Jf set best))] (.one (.d (.int .i64 (J4 E (Jf set best)))))) ∧ (((decide ((J4 E (Jf set (set.getD i.toNat 0))) < (J4 E (Jf set best)))) = true → ((0 : Int) ≤ i) ∧ ((i : Int) < (set.length : Int)) ∧ (i.toNat < set.length) ∧ (I6 (i + 1)) ∧ (∃ best' : Int, ∃ i' : Int, (JU U E k set best' i') ∧ (Jx U E k set best' i' < Jx U E k set best i) ∧ (k = k) ∧ (set.length = set.length) ∧ ((set.getD i.toNat 0) = best') ∧ ((i + 1) = i') ∧ (U = U) ∧ (E = E) ∧ (set = set))) ∧ ((decide ((J4 E (Jf set (set.getD i.toNat 0))) < (J4 E (Jf set best)))) = false → (I6 (i + 1)) ∧ (∃ best' : Int, ∃ i' : Int, (JU U E k set best' i') ∧ (Jx U E k set best' i' < Jx U E k set best i) ∧ (k = k) ∧ (set.length = set.length) ∧ (best = best') ∧ ((i + 1) = i') ∧ (U = U) ∧ (E = E) ∧ (set = set))))) ∧ ((decide (i < (set.length : Int))) = false → (set.length = set.length) ∧ (PC Tryz.prog 143 [.sl (.ints set), .int .i64 best] (.one (.own 3 (.ints (Jf set best))))) ∧ (∃ set' : ZI, (J0A U E k set') ∧ (J1n U E k set' < J1n U E k set) ∧ (k = k) ∧ ((Jf set best).length = set'.length) ∧ (Jf set best = set') ∧ (U = U) ∧ (E = E))))))) ∧ ((decide ((set.length : Int) > k)) = false → ((set.length = set.length) ∧ ((set : ZI) = rvL U E k) ∧ (true = (J0 U E && inB k 1 (U.length : Int))))))))))
theorem J5b (U : ZI) (E : ZR) (k : Int)  (w_Open : (U.length : Int) ≤ 9223372036854775807) (w_Dist : (E.length : Int) ≤ 9223372036854775807) (v_Dist : ∀ x9 ∈ E, (x9.length : Int) ≤ 9223372036854775807) : J3p U E k := by
  unfold J3p
  refine ⟨J4p U E k, ?_, ?_⟩
  ·intro b1
   try simp only [Bool.not_eq_true', Bool.not_eq_false', Bool.not_not] at b1
   refine ⟨rfl, ?_, ?_⟩
   ·have hgk : (J0 U E && inB k 1 (U.length : Int)) = false := by simpa using b1
    unfold rvL; rw [hgk]; rfl
   have hgk : (J0 U E && inB k 1 (U.length : Int)) = false := by simpa using b1
   exact hgk.symm
  intro b2
  try simp only [Bool.not_eq_true', Bool.not_eq_false', Bool.not_not] at b2
  refine ⟨rfl, ?_, ?_, ?_, ?_, ?_, ?_, ?_⟩
  ·omega
  ·omega
  ·have hgk : (J0 U E && inB k 1 (U.length : Int)) = true := by simpa using b2
   obtain ⟨hg, hk⟩ := (Bool.and_eq_true _ _ ▸ hgk : _ ∧ _)
   have hk2 := J3 hk
   obtain ⟨g1, g2, g3⟩ := J2 hg
   have hp2 := Nat.pow_le_pow_right (n := 2) (by omega) g2
   have e0 := J1J U.length
   have pp := Nat.two_pow_pos U.length
   omega
  ·have hgk : (J0 U E && inB k 1 (U.length : Int)) = true := by simpa using b2
   obtain ⟨hg, hk⟩ := (Bool.and_eq_true _ _ ▸ hgk : _ ∧ _)
   have hk2 := J3 hk
   obtain ⟨g1, g2, g3⟩ := J2 hg
   have hp2 := Nat.pow_le_pow_right (n := 2) (by omega) g2
   have e0 := J1J U.length
   have pp := Nat.two_pow_pos U.length
   omega
  ·refine J78 (U.length : Int) (((1 : Int) * 2 ^ ((U.length : Int).toNat)) - 1) ?_ ?_
   ·have hgk : (J0 U E && inB k 1 (U.length : Int)) = true := by simpa using b2
    obtain ⟨hg, hk⟩ := (Bool.and_eq_true _ _ ▸ hgk : _ ∧ _)
    have hk2 := J3 hk
    obtain ⟨g1, g2, g3⟩ := J2 hg
    omega
   ·have hgk : (J0 U E && inB k 1 (U.length : Int)) = true := by simpa using b2
    obtain ⟨hg, hk⟩ := (Bool.and_eq_true _ _ ▸ hgk : _ ∧ _)
    have hk2 := J3 hk
    obtain ⟨g1, g2, g3⟩ := J2 hg
    have hp2 := Nat.pow_le_pow_right (n := 2) (by omega) g2
    have e0 := J1J U.length
    have pp := Nat.two_pow_pos U.length
    omega
  ·refine ⟨(members (fun k => (((1 : Int) * 2 ^ ((U.length : Int).toNat)) - 1).toNat.testBit k) (U.length : Int).toNat), ?_⟩
   refine ⟨?_, rfl, rfl, ?_, rfl, rfl⟩
   ·refine ⟨?_, ?_, ?_⟩
    ·have hgk : (J0 U E && inB k 1 (U.length : Int)) = true := by simpa using b2
     obtain ⟨hg, hk⟩ := (Bool.and_eq_true _ _ ▸ hgk : _ ∧ _)
     have hk2 := J3 hk
     obtain ⟨g1, g2, g3⟩ := J2 hg
     (rw [J4k, J1y]; first | omega | (rw [Nat.sub_self]; rfl))
    ·have hgk : (J0 U E && inB k 1 (U.length : Int)) = true := by simpa using b2
     obtain ⟨hg, hk⟩ := (Bool.and_eq_true _ _ ▸ hgk : _ ∧ _)
     have hk2 := J3 hk
     obtain ⟨g1, g2, g3⟩ := J2 hg
     (rw [J4k, J1y]; first | omega | (rw [Nat.sub_self]; rfl))
    ·have hgk : (J0 U E && inB k 1 (U.length : Int)) = true := by simpa using b2
     obtain ⟨hg, hk⟩ := (Bool.and_eq_true _ _ ▸ hgk : _ ∧ _)
     have hk2 := J3 hk
     obtain ⟨g1, g2, g3⟩ := J2 hg
     (rw [J4k, J1y]; first | omega | (rw [Nat.sub_self]; rfl))
   have hgk : (J0 U E && inB k 1 (U.length : Int)) = true := by simpa using b2
   obtain ⟨hg, hk⟩ := (Bool.and_eq_true _ _ ▸ hgk : _ ∧ _)
   have hk2 := J3 hk
   obtain ⟨g1, g2, g3⟩ := J2 hg
   (rw [J4k]; done)
  intro set hJ
  obtain ⟨h1, h2, h3⟩ := hJ
  refine ⟨?_, ?_⟩
  ·intro b3
   try simp only [nrmT] at b3
   refine ⟨?_, ?_, ?_, ?_, ?_⟩
   ·omega
   ·(simp only [Bool.and_eq_true] at *; have hk2 := J3 (And.right (by assumption)); omega)
   ·(simp only [Bool.and_eq_true] at *; have hk2 := J3 (And.right (by assumption)); omega)
   ·refine ⟨(set.getD 0 0), 1, ?_⟩
    refine ⟨?_, rfl, rfl, rfl, rfl, rfl, rfl, rfl⟩
    ·refine ⟨?_, ?_⟩
     ·(simp only [Bool.and_eq_true] at *; have hk2 := J3 (And.right (by assumption)); omega)
     ·exact (JbS _ _).symm
   intro best i hJ
   obtain ⟨h4, h5⟩ := hJ
   refine ⟨?_, ?_⟩
   ·intro b4
    try simp only [nrmT] at b4
    refine ⟨rfl, ?_, ?_, ?_, rfl, ?_, rfl, ?_, rfl, ?_, rfl, ?_, ?_, ?_⟩
    ·omega
    ·omega
    ·omega
    ·refine J2W set (set.getD i.toNat 0) ?_
     ·have hgk : (J0 U E && inB k 1 (U.length : Int)) = true := by simpa using b2
      obtain ⟨hg, hk⟩ := (Bool.and_eq_true _ _ ▸ hgk : _ ∧ _)
      have hk2 := J3 hk
      obtain ⟨g1, g2, g3⟩ := J2 hg
      omega
    ·refine J03 U E (Jf set (set.getD i.toNat 0)) ?_
     ·have hgk : (J0 U E && inB k 1 (U.length : Int)) = true := by simpa using b2
      obtain ⟨hg, hk⟩ := (Bool.and_eq_true _ _ ▸ hgk : _ ∧ _)
      have hk2 := J3 hk
      obtain ⟨g1, g2, g3⟩ := J2 hg
      obtain ⟨f1, f2, f3⟩ := J18 E U.length (U.length - set.length) (by omega)
      rw [← h1] at f1 f2 f3
      exact J5v hg f1 f2 (by omega) (getD_mem (by omega))
    ·refine J2W set best ?_
     ·have hgk : (J0 U E && inB k 1 (U.length : Int)) = true := by simpa using b2
      obtain ⟨hg, hk⟩ := (Bool.and_eq_true _ _ ▸ hgk : _ ∧ _)
      have hk2 := J3 hk
      obtain ⟨g1, g2, g3⟩ := J2 hg
      omega
    ·refine J03 U E (Jf set best) ?_
     ·have hgk : (J0 U E && inB k 1 (U.length : Int)) = true := by simpa using b2
      obtain ⟨hg, hk⟩ := (Bool.and_eq_true _ _ ▸ hgk : _ ∧ _)
      have hk2 := J3 hk
      obtain ⟨g1, g2, g3⟩ := J2 hg
      obtain ⟨f1, f2, f3⟩ := J18 E U.length (U.length - set.length) (by omega)
      rw [← h1] at f1 f2 f3
      have hbm : best ∈ set := by rw [h5]; exact Jw E (by omega) _ (by omega)
      exact J5v hg f1 f2 (by omega) hbm
    ·intro b5
     try simp only [nrmT] at b5
     refine ⟨?_, ?_, ?_, ?_, ?_⟩
     ·omega
     ·omega
     ·omega
     ·omega
     refine ⟨(set.getD i.toNat 0), (i + 1), ?_⟩
     refine ⟨?_, ?_, rfl, rfl, rfl, rfl, rfl, rfl, rfl⟩
     ·refine ⟨?_, ?_⟩
      ·omega
      ·rw [show (i + 1).toNat = i.toNat + 1 by omega, J2u, ← h5]
       unfold rvF
       rw [if_pos (by simpa using b5)]
     (simp only [Jx]; omega)
    intro b6
    try simp only [nrmT] at b6
    refine ⟨?_, ?_⟩
    ·omega
    refine ⟨best, (i + 1), ?_⟩
    refine ⟨?_, ?_, rfl, rfl, rfl, rfl, rfl, rfl, rfl⟩
    ·refine ⟨?_, ?_⟩
     ·omega
     ·rw [show (i + 1).toNat = i.toNat + 1 by omega, J2u, ← h5]
      unfold rvF
      rw [if_neg (by simpa using b6)]
    (simp only [Jx]; omega)
   intro b7
   try simp only [nrmT] at b7
   refine ⟨rfl, ?_, ?_⟩
   ·refine J2W set best ?_
    ·have hgk : (J0 U E && inB k 1 (U.length : Int)) = true := by simpa using b2
     obtain ⟨hg, hk⟩ := (Bool.and_eq_true _ _ ▸ hgk : _ ∧ _)
     have hk2 := J3 hk
     obtain ⟨g1, g2, g3⟩ := J2 hg
     omega
   refine ⟨(Jf set best), ?_⟩
   refine ⟨?_, ?_, rfl, rfl, ?_, rfl, rfl⟩
   ·refine ⟨?_, ?_, ?_⟩
    ·have hgk : (J0 U E && inB k 1 (U.length : Int)) = true := by simpa using b2
     obtain ⟨hg, hk⟩ := (Bool.and_eq_true _ _ ▸ hgk : _ ∧ _)
     have hk2 := J3 hk
     obtain ⟨g1, g2, g3⟩ := J2 hg
     obtain ⟨f1, f2, f3⟩ := J18 E U.length (U.length - set.length) (by omega)
     rw [← h1] at f1 f2 f3
     have hbm : best ∈ set := by rw [h5]; exact Jw E (by omega) _ (by omega)
     have dl := J2q f1 hbm
     rw [show U.length - (Jf set best).length = (U.length - set.length) + 1 by omega]
     show _ = Jf (rvS E U.length (U.length - set.length)) (rvB E (rvS E U.length (U.length - set.length)))
     rw [← h1]
     unfold rvB
     rw [h5, show i.toNat = set.length by omega]
    ·have hgk : (J0 U E && inB k 1 (U.length : Int)) = true := by simpa using b2
     obtain ⟨hg, hk⟩ := (Bool.and_eq_true _ _ ▸ hgk : _ ∧ _)
     have hk2 := J3 hk
     obtain ⟨g1, g2, g3⟩ := J2 hg
     obtain ⟨f1, f2, f3⟩ := J18 E U.length (U.length - set.length) (by omega)
     rw [← h1] at f1 f2 f3
     have hbm : best ∈ set := by rw [h5]; exact Jw E (by omega) _ (by omega)
     have dl := J2q f1 hbm
     omega
    ·have hgk : (J0 U E && inB k 1 (U.length : Int)) = true := by simpa using b2
     obtain ⟨hg, hk⟩ := (Bool.and_eq_true _ _ ▸ hgk : _ ∧ _)
     have hk2 := J3 hk
     obtain ⟨g1, g2, g3⟩ := J2 hg
     obtain ⟨f1, f2, f3⟩ := J18 E U.length (U.length - set.length) (by omega)
     rw [← h1] at f1 f2 f3
     have hbm : best ∈ set := by rw [h5]; exact Jw E (by omega) _ (by omega)
     have dl := J2q f1 hbm
     omega
   ·have hgk : (J0 U E && inB k 1 (U.length : Int)) = true := by simpa using b2
    obtain ⟨hg, hk⟩ := (Bool.and_eq_true _ _ ▸ hgk : _ ∧ _)
    have hk2 := J3 hk
    obtain ⟨g1, g2, g3⟩ := J2 hg
    obtain ⟨f1, f2, f3⟩ := J18 E U.length (U.length - set.length) (by omega)
    rw [← h1] at f1 f2 f3
    have hbm : best ∈ set := by rw [h5]; exact Jw E (by omega) _ (by omega)
    have dl := J2q f1 hbm
    show (Jf set best).length < set.length
    omega
   rfl
  intro b8
  try simp only [nrmT] at b8
  refine ⟨rfl, ?_, ?_⟩
  ·have hgk : (J0 U E && inB k 1 (U.length : Int)) = true := by simpa using b2
   obtain ⟨hg, hk⟩ := (Bool.and_eq_true _ _ ▸ hgk : _ ∧ _)
   have hk2 := J3 hk
   obtain ⟨g1, g2, g3⟩ := J2 hg
   unfold rvL; rw [if_pos hgk, h1, show U.length - set.length = U.length - k.toNat by omega]
  have hgk : (J0 U E && inB k 1 (U.length : Int)) = true := by simpa using b2
  obtain ⟨hg, hk⟩ := (Bool.and_eq_true _ _ ▸ hgk : _ ∧ _)
  have hk2 := J3 hk
  obtain ⟨g1, g2, g3⟩ := J2 hg
  exact hgk.symm
theorem J5i (U : ZI) (E : ZR) (k : Int)  : PC Tryz.prog 51 [.agg [.sl (.ints U), .sl (.rows E)], .int .i64 k] (.tup [.own 3 (.ints (rvL U E k)), .d (.bool (J0 U E && inB k 1 (U.length : Int)))]) :=
  pc_wf @Tryz.call51 fun hw => pc_by (by kernel_rfl) Tryz.func51 @Tryz.call51 (by kernel_rfl) J5J (J66 U E k) (by kernel_rfl) (J5b U E k hw.1.1 hw.1.2.1.1 hw.1.2.1.2) (by kernel_rfl)
def J4B : List D → Orc := orcN [none, none] fun ds => match ds with
  | [.agg [.sl (.ints U), .sl (.rows E)], .int .i64 k] => some (.tup [.own 3 (.ints (rvL U E k)), .d (.bool (J0 U E && inB k 1 (U.length : Int)))])
  | _ => none
theorem Jcj {S : ZI} (hr : ∀ x ∈ S, 0 ≤ x) {a : Int} (ha : 0 ≤ a) : bagN (Jf S a) = bagN S ^^^ (bagN S &&& 2 ^ a.toNat) := by
  refine Nat.eq_of_testBit_eq fun i => ?_
  rw [bagN_bit (fun y hy => hr y (J0W.1 hy).1), Nat.testBit_xor, Nat.testBit_and, bagN_bit hr, Nat.testBit_two_pow]
  have h : (Jf S a).contains (i : Int) = (S.contains (i : Int) && !(decide ((i : Int) = a))) := by
    rw [Bool.eq_iff_iff, List.contains_iff_mem, J0W, Bool.and_eq_true, List.contains_iff_mem]
    simp
  rw [h]
  have e : decide ((i : Int) = a) = decide (a.toNat = i) := by
    rw [Bool.eq_iff_iff, decide_eq_true_eq, decide_eq_true_eq]; omega
  rw [e]
  cases S.contains (i : Int) <;> cases decide (a.toNat = i) <;> rfl
theorem J8v {S : ZI} (ha : Asc S) (hr : ∀ x ∈ S, 0 ≤ x ∧ x < 8) : J0E (bagN S) = (S.length : Int) := by
  unfold J0E
  have : members (fun k => (bagN S).testBit k) 8 = S := by
    refine asc_ext (asc_members _ _) ha fun x => ?_
    rw [mem_members, bagN_bit fun y hy => (hr y hy).1, List.contains_iff_mem]
    constructor
    · rintro ⟨h1, h2, h3⟩
      rwa [Int.toNat_of_nonneg h1] at h3
    intro hx
    have := hr x hx
    exact ⟨this.1, this.2, by rwa [Int.toNat_of_nonneg this.1]⟩
  rw [this]
theorem Jc7 (n : Nat) : ((1 : Int) * 2 ^ ((n : Int)).toNat - 1) = ((bagN (J1k n) : Nat) : Int) := by
  have h : bagN (J1k n) = 2 ^ n - 1 := by
    refine Nat.eq_of_testBit_eq fun i => ?_
    rw [bagN_bit (list := J1k n) (fun y hy => (mem_members.1 hy).1), Nat.testBit_two_pow_sub_one, Bool.eq_iff_iff, List.contains_iff_mem, decide_eq_true_eq]
    constructor
    · intro hm; have := mem_members.1 hm; omega
    intro hm; exact J9K (by omega)
  rw [h, J1J]
  have := Nat.two_pow_pos n
  omega
/-- What a bag is that holds the sites left. -/
def Jcc (D : ZR) (n : Nat) (k left : Int) : Prop := ∃ j, j ≤ n ∧ left = ((bagN (rvS D n j) : Nat) : Int) ∧ k ≤ ((n - j : Nat) : Int)
theorem Jr {D : ZR} {n : Nat} {k left : Int} (hn : n ≤ 7) (h : Jcc D n k left) : ∃ j, j ≤ n ∧ left = ((bagN (rvS D n j) : Nat) : Int) ∧ k ≤ ((n - j : Nat) : Int) ∧ members (fun k => left.toNat.testBit k) 62 = rvS D n j ∧ J0E left.toNat = ((n - j : Nat) : Int) ∧ (0 ≤ left ∧ left < 128) ∧
    Asc (rvS D n j) ∧ (∀ x ∈ rvS D n j, 0 ≤ x ∧ x < (n : Int)) ∧ (rvS D n j).length = n - j := by
  obtain ⟨j, hj, e, hk⟩ := h
  obtain ⟨f1, f2, f3⟩ := J18 D n j hj
  have hb := bagN_lt (m := 7) (list := rvS D n j) fun x hx => by have := f2 x hx; omega
  refine ⟨j, hj, e, hk, ?_, ?_, by omega, f1, f2, f3⟩
  · rw [e, Int.toNat_natCast]; exact J6B f1 fun x hx => by have := f2 x hx; omega
  rw [e, Int.toNat_natCast, J8v f1 fun x hx => by have := f2 x hx; omega, f3]
theorem JV {D : ZR} {n j : Nat} {left a : Int} (hn : n ≤ 7) (e : left = ((bagN (rvS D n j) : Nat) : Int)) (f1 : Asc (rvS D n j)) (f2 : ∀ x ∈ rvS D n j, 0 ≤ x ∧ x < (n : Int)) (ha : 0 ≤ a) :
    ((left.toNat ^^^ (left.toNat &&& ((1 : Int) * 2 ^ a.toNat).toNat) : Nat) : Int) = ((bagN (Jf (rvS D n j) a) : Nat) : Int) ∧ bagN (Jf (rvS D n j) a) < 128 ∧ members (fun k => ((left.toNat ^^^ (left.toNat &&& ((1 : Int) * 2 ^ a.toNat).toNat) : Nat) : Int).toNat.testBit k) 62 = Jf (rvS D n j) a := by
  have h2 : ((2 : Int) ^ a.toNat).toNat = 2 ^ a.toNat := by
    rw [show (2 : Int) = ((2 : Nat) : Int) from rfl, ← Int.natCast_pow, Int.toNat_natCast]
  have h1 : ((left.toNat ^^^ (left.toNat &&& ((1 : Int) * 2 ^ a.toNat).toNat) : Nat) : Int) = ((bagN (Jf (rvS D n j) a) : Nat) : Int) := by
    rw [Jcj (fun x hx => (f2 x hx).1) ha, Int.one_mul, h2, e, Int.toNat_natCast]
  have hp : ∀ x ∈ Jf (rvS D n j) a, 0 ≤ x ∧ x < (n : Int) := fun x hx => f2 x (J0W.1 hx).1
  refine ⟨h1, bagN_lt (m := 7) fun x hx => by have := hp x hx; omega, ?_⟩
  rw [h1, Int.toNat_natCast]
  exact J6B (J4t f1) fun x hx => by have := hp x hx; omega
abbrev JL (U : ZI) (E : ZR) (k : Int) (left : Int) : Prop := (Jcc E U.length k left)
abbrev J1g (U : ZI) (E : ZR) (k : Int) (left : Int) : Nat := (J0E left.toNat).toNat
abbrev JT (U : ZI) (E : ZR) (k : Int) (left : Int) (best : Int) (i : Int) : Prop := (0 ≤ i ∧ i ≤ ((members (fun k => left.toNat.testBit k) 62).length : Int)) ∧ ((i = 0 ∧ best = -1) ∨ (1 ≤ i ∧ best = J5j E (members (fun k => left.toNat.testBit k) 62) i.toNat))
abbrev Jy (U : ZI) (E : ZR) (k : Int) (left : Int) (best : Int) (i : Int) : Nat := ((members (fun k => left.toNat.testBit k) 62).length - i).toNat
def J5z (f : FuncId) (ds : List D) : Orc := bif Nat.beq f 93 then J0O ds else bif Nat.beq f 141 then J7T ds else bif Nat.beq f 139 then J8a ds else bif Nat.beq f 125 then JK ds else .no
def J5G (U : ZI) (E : ZR) (k : Int) : Ann := .two (.none) (.two (.none) (.two (.none) (.two (.loop (cut1 (fun (left : Int) => JL U E k left) (fun (left : Int) => [(1, .d false (.int .i64 k)), (2, .ptr 2 0), (6, .d true (.int .u64 left))]) (fun (left : Int) => [(2, .box 27 [.d false (.sl (.ints U)), .d false (.sl (.rows E))])])) (fun g => J1g U E k g) (fun g => (fun (left : Int) => .two (.none) (.two (.none) (.two (.two (.none) (.loop (cut2 (fun (best : Int) (i : Int) => JT U E k left best i) (fun (best : Int) (i : Int) => [(1, .d false (.int .i64 k)), (2, .ptr 2 0), (6, .d true (.int .u64 left)), (7, .d true (.int .i64 best)), (24, .own 24 ((members (fun k => left.toNat.testBit k) 62).length)), (25, .d true (.int .i64 (((members (fun k => left.toNat.testBit k) 62).length) : Int))), (26, .d true (.int .i64 i))]) (fun (best : Int) (i : Int) => [(2, .box 27 [.d false (.sl (.ints U)), .d false (.sl (.rows E))]), (24, .arr true 3 (.ints (members (fun k => left.toNat.testBit k) 62)))])) (fun g => Jy U E k left g.1 g.2) (fun g => (fun (best : Int) (i : Int) => .two (.none) (.two (.none) (.two (.two (.none) (.two (.reg [(8, .call none (.one (.d (.sl (.ints (members (fun k => ((left.toNat ^^^ (left.toNat &&& ((1 : Int) * 2 ^ (((members (fun k => left.toNat.testBit k) 62).getD i.toNat 0).toNat)).toNat) : Nat) : Int).toNat.testBit k) 62)))))), (15, .call none (.one (.d (.sl (.ints (members (fun k => ((left.toNat ^^^ (left.toNat &&& ((1 : Int) * 2 ^ best.toNat).toNat) : Nat) : Int).toNat.testBit k) 62))))))]) (.none))) (.none)))) (g.1) (g.2)))) (.none)))) g)) (.none))))
def J1B (E : ZR) (k : Int) (left : Int) (best : Int) (i : Int) : Bool := (cond (decide (best < 0)) true (decide ((J4 E (members (fun k => ((left.toNat ^^^ (left.toNat &&& ((1 : Int) * 2 ^ (((members (fun k => left.toNat.testBit k) 62).getD i.toNat 0).toNat)).toNat) : Nat) : Int).toNat.testBit k) 62)) < (J4 E (members (fun k => ((left.toNat ^^^ (left.toNat &&& ((1 : Int) * 2 ^ best.toNat).toNat) : Nat) : Int).toNat.testBit k) 62)))))
def J3q (U : ZI) (E : ZR) (k : Int) : Prop :=
  (PC Tryz.prog 93 [.agg [.sl (.ints U), .sl (.rows E)], .int .i64 k] (.one (.d (.bool (J0 U E && inB k 1 (U.length : Int)))))) ∧ (((!(J0 U E && inB k 1 (U.length : Int))) = true → (((rvL U E k).length = 0) ∧ (false = (J0 U E && inB k 1 (U.length : Int))))) ∧ ((!(J0 U E && inB k 1 (U.length : Int))) = false → ((0 : Int) ≤ 1) ∧ ((0 : Int) ≤ (U.length : Int)) ∧ ((0 : Int) ≤ ((1 : Int) * 2 ^ ((U.length : Int).toNat)) ∧ (((1 : Int) * 2 ^ ((U.length : Int).toNat)) : Int) ≤ 18446744073709551615) ∧ (0 ≤ (((1 : Int) * 2 ^ ((U.length : Int).toNat)) - 1) ∧ (((1 : Int) * 2 ^ ((U.length : Int).toNat)) - 1) ≤ 18446744073709551615) ∧ ((∃ left' : Int, (JL U E k left') ∧ (k = k) ∧ ((((1 : Int) * 2 ^ ((U.length : Int).toNat)) - 1) = left') ∧ (U = U) ∧ (E = E)) ∧ (∀ left : Int, (JL U E k left) → (PC Tryz.prog 141 [.int .u64 left] (.one (.d (.int .i64 (J0E left.toNat))))) ∧ (((decide ((J0E left.toNat) > k)) = true → (PC Tryz.prog 139 [.int .u64 left] (.one (.own 3 (.ints (members (fun k => left.toNat.testBit k) 62))))) ∧ ((∃ best' : Int, ∃ i' : Int, (JT U E k left best' i') ∧ (k = k) ∧ (left = left) ∧ (((-1) : Int) = best') ∧ ((members (fun k => left.toNat.testBit k) 62).length = (members (fun k => left.toNat.testBit k) 62).length) ∧ ((((members (fun k => left.toNat.testBit k) 62).length) : Int) = (((members (fun k => left.toNat.testBit k) 62).length) : Int)) ∧ ((0 : Int) = i') ∧ (U = U) ∧ (E = E) ∧ (members (fun k => left.toNat.testBit k) 62 = members (fun k => left.toNat.testBit k) 62)) ∧ (∀ best : Int, ∀ i : Int, (JT U E k left best i) → (((decide (i < (((members (fun k => left.toNat.testBit k) 62).length) : Int))) = true → ((0 : Int) ≤ i) ∧ ((i : Int) < (((members (fun k => left.toNat.testBit k) 62).length) : Int)) ∧ (i.toNat < (members (fun k => left.toNat.testBit k) 62).length) ∧ (true = true) ∧ ((!(decide (best < 0))) = true → (!(decide (best < 0))) = true) ∧ (((!(decide (best < 0))) = true → (0 : Int) ≤ 1)) ∧ (((!(decide (best < 0))) = true → (0 : Int) ≤ ((members (fun k => left.toNat.testBit k) 62).getD i.toNat 0))) ∧ (((!(decide (best < 0))) = true → (0 : Int) ≤ ((1 : Int) * 2 ^ (((members (fun k => left.toNat.testBit k) 62).getD i.toNat 0).toNat)) ∧ (((1 : Int) * 2 ^ (((members (fun k => left.toNat.testBit k) 62).getD i.toNat 0).toNat)) : Int) ≤ 18446744073709551615)) ∧ ((!(decide (best < 0))) = true → (!(decide (best < 0))) = true) ∧ ((!(decide (best < 0))) = true → (!(decide (best < 0))) = true) ∧ (((!(decide (best < 0))) = true → (0 : Int) ≤ left ∧ (left : Int) ≤ 18446744073709551615)) ∧ (((!(decide (best < 0))) = true → (0 : Int) ≤ ((1 : Int) * 2 ^ (((members (fun k => left.toNat.testBit k) 62).getD i.toNat 0).toNat)) ∧ (((1 : Int) * 2 ^ (((members (fun k => left.toNat.testBit k) 62).getD i.toNat 0).toNat)) : Int) ≤ 18446744073709551615)) ∧ ((!(decide (best < 0))) = true → (!(decide (best < 0))) = true) ∧ ((!(decide (best < 0))) = true → PC Tryz.prog 139 [.int .u64 ((left.toNat ^^^ (left.toNat &&& ((1 : Int) * 2 ^ (((members (fun k => left.toNat.testBit k) 62).getD i.toNat 0).toNat)).toNat) : Nat) : Int)] (.one (.d (.sl (.ints (members (fun k => ((left.toNat ^^^ (left.toNat &&& ((1 : Int) * 2 ^ (((members (fun k => left.toNat.testBit k) 62).getD i.toNat 0).toNat)).toNat) : Nat) : Int).toNat.testBit k) 62)))))) ∧ ((!(decide (best < 0))) = true → (!(decide (best < 0))) = true) ∧ ((!(decide (best < 0))) = true → (!(decide (best < 0))) = true) ∧ ((!(decide (best < 0))) = true → PC Tryz.prog 125 [.agg [.sl (.ints U), .sl (.rows E)], .sl (.ints (members (fun k => ((left.toNat ^^^ (left.toNat &&& ((1 : Int) * 2 ^ (((members (fun k => left.toNat.testBit k) 62).getD i.toNat 0).toNat)).toNat) : Nat) : Int).toNat.testBit k) 62))] (.one (.d (.int .i64 (J4 E (members (fun k => ((left.toNat ^^^ (left.toNat &&& ((1 : Int) * 2 ^ (((members (fun k => left.toNat.testBit k) 62).getD i.toNat 0).toNat)).toNat) : Nat) : Int).toNat.testBit k) 62)))))) ∧ ((!(decide (best < 0))) = true → (!(decide (best < 0))) = true) ∧ (((!(decide (best < 0))) = true → (0 : Int) ≤ 1)) ∧ (((!(decide (best < 0))) = true → (0 : Int) ≤ best)) ∧ (((!(decide (best < 0))) = true → (0 : Int) ≤ ((1 : Int) * 2 ^ best.toNat) ∧ (((1 : Int) * 2 ^ best.toNat) : Int) ≤ 18446744073709551615)) ∧ ((!(decide (best < 0))) = true → (!(decide (best < 0))) = true) ∧ ((!(decide (best < 0))) = true → (!(decide (best < 0))) = true) ∧ (((!(decide (best < 0))) = true → (0 : Int) ≤ left ∧ (left : Int) ≤ 18446744073709551615)) ∧ (((!(decide (best < 0))) = true → (0 : Int) ≤ ((1 : Int) * 2 ^ best.toNat) ∧ (((1 : Int) * 2 ^ best.toNat) : Int) ≤ 18446744073709551615)) ∧ ((!(decide (best < 0))) = true → (!(decide (best < 0))) = true) ∧ ((!(decide (best < 0))) = true → PC Tryz.prog 139 [.int .u64 ((left.toNat ^^^ (left.toNat &&& ((1 : Int) * 2 ^ best.toNat).toNat) : Nat) : Int)] (.one (.d (.sl (.ints (members (fun k => ((left.toNat ^^^ (left.toNat &&& ((1 : Int) * 2 ^ best.toNat).toNat) : Nat) : Int).toNat.testBit k) 62)))))) ∧ ((!(decide (best < 0))) = true → (!(decide (best < 0))) = true) ∧ ((!(decide (best < 0))) = true → (!(decide (best < 0))) = true) ∧ ((!(decide (best < 0))) = true → PC Tryz.prog 125 [.agg [.sl (.ints U), .sl (.rows E)], .sl (.ints (members (fun k => ((left.toNat ^^^ (left.toNat &&& ((1 : Int) * 2 ^ best.toNat).toNat) : Nat) : Int).toNat.testBit k) 62))] (.one (.d (.int .i64 (J4 E (members (fun k => ((left.toNat ^^^ (left.toNat &&& ((1 : Int) * 2 ^ best.toNat).toNat) : Nat) : Int).toNat.testBit k) 62)))))) ∧ ((!(decide (best < 0))) = true → (!(decide (best < 0))) = true) ∧ ((!(decide (best < 0))) = true → (!(decide (best < 0))) = true) ∧ (true = true) ∧ (((decide (best < 0)) = true → true = true)) ∧ (((decide (best < 0)) = false → (!(decide (best < 0))) = true)) ∧ (((J1B E k left best i) = true → (I6 (i + 1)) ∧ (∃ best' : Int, ∃ i' : Int, (JT U E k left best' i') ∧ (Jy U E k left best' i' < Jy U E k left best i) ∧ (k = k) ∧ (left = left) ∧ (((members (fun k => left.toNat.testBit k) 62).getD i.toNat 0) = best') ∧ ((members (fun k => left.toNat.testBit k) 62).length = (members (fun k => left.toNat.testBit k) 62).length) ∧ ((((members (fun k => left.toNat.testBit k) 62).length) : Int) = (((members (fun k => left.toNat.testBit k) 62).length) : Int)) ∧ ((i + 1) = i') ∧ (U = U) ∧ (E = E) ∧ (members (fun k => left.toNat.testBit k) 62 = members (fun k => left.toNat.testBit k) 62))) ∧ ((J1B E k left best i) = false → (I6 (i + 1)) ∧ (∃ best' : Int, ∃ i' : Int, (JT U E k left best' i') ∧ (Jy U E k left best' i' < Jy U E k left best i) ∧ (k = k) ∧ (left = left) ∧ (best = best') ∧ ((members (fun k => left.toNat.testBit k) 62).length = (members (fun k => left.toNat.testBit k) 62).length) ∧ ((((members (fun k => left.toNat.testBit k) 62).length) : Int) = (((members (fun k => left.toNat.testBit k) 62).length) : Int)) ∧ ((i + 1) = i') ∧ (U = U) ∧ (E = E) ∧ (members (fun k => left.toNat.testBit k) 62 = members (fun k => left.toNat.testBit k) 62))))) ∧ ((decide (i < (((members (fun k => left.toNat.testBit k) 62).length) : Int))) = false → ((0 : Int) ≤ 1) ∧ ((0 : Int) ≤ best) ∧ ((0 : Int) ≤ ((1 : Int) * 2 ^ best.toNat) ∧ (((1 : Int) * 2 ^ best.toNat) : Int) ≤ 18446744073709551615) ∧ ((0 : Int) ≤ left ∧ (left : Int) ≤ 18446744073709551615) ∧ ((0 : Int) ≤ ((1 : Int) * 2 ^ best.toNat) ∧ (((1 : Int) * 2 ^ best.toNat) : Int) ≤ 18446744073709551615) ∧ (∃ left' : Int, (JL U E k left') ∧ (J1g U E k left' < J1g U E k left) ∧ (k = k) ∧ (((left.toNat ^^^ (left.toNat &&& ((1 : Int) * 2 ^ best.toNat).toNat) : Nat) : Int) = left') ∧ (U = U) ∧ (E = E))))))) ∧ ((decide ((J0E left.toNat) > k)) = false → (PC Tryz.prog 139 [.int .u64 left] (.one (.own 3 (.ints (members (fun k => left.toNat.testBit k) 62))))) ∧ (((members (fun k => left.toNat.testBit k) 62).length = (members (fun k => left.toNat.testBit k) 62).length) ∧ ((members (fun k => left.toNat.testBit k) 62 : ZI) = rvL U E k) ∧ (true = (J0 U E && inB k 1 (U.length : Int))))))))))
theorem J5n (U : ZI) (E : ZR) (k : Int)  (w_Open : (U.length : Int) ≤ 9223372036854775807) (w_Dist : (E.length : Int) ≤ 9223372036854775807) (v_Dist : ∀ x9 ∈ E, (x9.length : Int) ≤ 9223372036854775807) : J3q U E k := by
  unfold J3q J1B
  refine ⟨J10 U E k, ?_, ?_⟩
  ·intro b1
   try simp only [Bool.not_eq_true', Bool.not_eq_false', Bool.not_not] at b1
   refine ⟨?_, ?_⟩
   ·have hgk : (J0 U E && inB k 1 (U.length : Int)) = false := by simpa using b1
    unfold rvL; rw [hgk]; rfl
   have hgk : (J0 U E && inB k 1 (U.length : Int)) = false := by simpa using b1
   exact hgk.symm
  intro b2
  try simp only [Bool.not_eq_true', Bool.not_eq_false', Bool.not_not] at b2
  refine ⟨?_, ?_, ?_, ?_, ?_, ?_⟩
  ·omega
  ·omega
  ·have hgk : (J0 U E && inB k 1 (U.length : Int)) = true := by simpa using b2
   obtain ⟨hg, hk⟩ := (Bool.and_eq_true _ _ ▸ hgk : _ ∧ _)
   have hk2 := J3 hk
   obtain ⟨g1, g2, g3⟩ := J2 hg
   have hp2 := Nat.pow_le_pow_right (n := 2) (by omega) g2
   have e0 := J1J U.length
   have pp := Nat.two_pow_pos U.length
   omega
  ·have hgk : (J0 U E && inB k 1 (U.length : Int)) = true := by simpa using b2
   obtain ⟨hg, hk⟩ := (Bool.and_eq_true _ _ ▸ hgk : _ ∧ _)
   have hk2 := J3 hk
   obtain ⟨g1, g2, g3⟩ := J2 hg
   have hp2 := Nat.pow_le_pow_right (n := 2) (by omega) g2
   have e0 := J1J U.length
   have pp := Nat.two_pow_pos U.length
   omega
  ·refine ⟨(((1 : Int) * 2 ^ ((U.length : Int).toNat)) - 1), ?_⟩
   refine ⟨?_, rfl, rfl, rfl, rfl⟩
   ·unfold JL
    have hgk : (J0 U E && inB k 1 (U.length : Int)) = true := by simpa using b2
    obtain ⟨hg, hk⟩ := (Bool.and_eq_true _ _ ▸ hgk : _ ∧ _)
    have hk2 := J3 hk
    obtain ⟨g1, g2, g3⟩ := J2 hg
    exact ⟨0, Nat.zero_le _, Jc7 U.length, by omega⟩
  intro left hJ
  have h1 := hJ
  refine ⟨?_, ?_, ?_⟩
  ·refine J8T left ?_
   ·have hgk : (J0 U E && inB k 1 (U.length : Int)) = true := by simpa using b2
    obtain ⟨hg, hk⟩ := (Bool.and_eq_true _ _ ▸ hgk : _ ∧ _)
    have hk2 := J3 hk
    obtain ⟨g1, g2, g3⟩ := J2 hg
    obtain ⟨j, hj, e1, hkj, e2, e3, e4, f1, f2, f3⟩ := Jr g2 h1
    omega
  ·intro b3
   try simp only [nrmT] at b3
   refine ⟨?_, ?_, ?_⟩
   ·refine J4z left ?_
    ·have hgk : (J0 U E && inB k 1 (U.length : Int)) = true := by simpa using b2
     obtain ⟨hg, hk⟩ := (Bool.and_eq_true _ _ ▸ hgk : _ ∧ _)
     have hk2 := J3 hk
     obtain ⟨g1, g2, g3⟩ := J2 hg
     obtain ⟨j, hj, e1, hkj, e2, e3, e4, f1, f2, f3⟩ := Jr g2 h1
     omega
   ·refine ⟨(-1), 0, ?_⟩
    refine ⟨?_, rfl, rfl, rfl, rfl, rfl, rfl, rfl, rfl, rfl⟩
    ·refine ⟨?_, ?_⟩
     ·omega
     ·exact .inl ⟨rfl, rfl⟩
   intro best i hJ
   obtain ⟨h4, h5⟩ := hJ
   refine ⟨?_, ?_⟩
   ·intro b4
    try simp only [nrmT] at b4
    refine ⟨?_, ?_, ?_, rfl, id, ?_, ?_, ?_, id, id, ?_, ?_, id, ?_, id, id, ?_, id, ?_, ?_, ?_, id, id, ?_, ?_, id, ?_, id, id, ?_, id, id, rfl, fun _ => rfl, ?_, ?_, ?_⟩
    ·omega
    ·omega
    ·omega
    ·omega
    ·intro _
     have hgk : (J0 U E && inB k 1 (U.length : Int)) = true := by simpa using b2
     obtain ⟨hg, hk⟩ := (Bool.and_eq_true _ _ ▸ hgk : _ ∧ _)
     have hk2 := J3 hk
     obtain ⟨g1, g2, g3⟩ := J2 hg
     obtain ⟨j, hj, e1, hkj, e2, e3, e4, f1, f2, f3⟩ := Jr g2 h1
     rw [e2] at h4 h5
     have hil : i.toNat < (rvS E U.length j).length := by first | omega | (simp only [e2] at *; omega)
     have hm := getD_mem (d := 0) hil
     have hx := f2 _ hm
     have o := JV g2 e1 f1 f2 hx.1
     have o3 := JH (a := (rvS E U.length j).getD i.toNat 0) (by omega)
     rw [e2]
     omega
    ·intro _
     have hgk : (J0 U E && inB k 1 (U.length : Int)) = true := by simpa using b2
     obtain ⟨hg, hk⟩ := (Bool.and_eq_true _ _ ▸ hgk : _ ∧ _)
     have hk2 := J3 hk
     obtain ⟨g1, g2, g3⟩ := J2 hg
     obtain ⟨j, hj, e1, hkj, e2, e3, e4, f1, f2, f3⟩ := Jr g2 h1
     rw [e2] at h4 h5
     have hil : i.toNat < (rvS E U.length j).length := by first | omega | (simp only [e2] at *; omega)
     have hm := getD_mem (d := 0) hil
     have hx := f2 _ hm
     have o := JV g2 e1 f1 f2 hx.1
     have o3 := JH (a := (rvS E U.length j).getD i.toNat 0) (by omega)
     rw [e2]
     omega
    ·intro _
     have hgk : (J0 U E && inB k 1 (U.length : Int)) = true := by simpa using b2
     obtain ⟨hg, hk⟩ := (Bool.and_eq_true _ _ ▸ hgk : _ ∧ _)
     have hk2 := J3 hk
     obtain ⟨g1, g2, g3⟩ := J2 hg
     obtain ⟨j, hj, e1, hkj, e2, e3, e4, f1, f2, f3⟩ := Jr g2 h1
     omega
    ·intro _
     have hgk : (J0 U E && inB k 1 (U.length : Int)) = true := by simpa using b2
     obtain ⟨hg, hk⟩ := (Bool.and_eq_true _ _ ▸ hgk : _ ∧ _)
     have hk2 := J3 hk
     obtain ⟨g1, g2, g3⟩ := J2 hg
     obtain ⟨j, hj, e1, hkj, e2, e3, e4, f1, f2, f3⟩ := Jr g2 h1
     rw [e2] at h4 h5
     have hil : i.toNat < (rvS E U.length j).length := by first | omega | (simp only [e2] at *; omega)
     have hm := getD_mem (d := 0) hil
     have hx := f2 _ hm
     have o := JV g2 e1 f1 f2 hx.1
     have o3 := JH (a := (rvS E U.length j).getD i.toNat 0) (by omega)
     rw [e2]
     omega
    ·intro hg
     refine J0H ((left.toNat ^^^ (left.toNat &&& ((1 : Int) * 2 ^ (((members (fun k => left.toNat.testBit k) 62).getD i.toNat 0).toNat)).toNat) : Nat) : Int) ?_
     ·have hgk : (J0 U E && inB k 1 (U.length : Int)) = true := by simpa using b2
      obtain ⟨hg, hk⟩ := (Bool.and_eq_true _ _ ▸ hgk : _ ∧ _)
      have hk2 := J3 hk
      obtain ⟨g1, g2, g3⟩ := J2 hg
      obtain ⟨j, hj, e1, hkj, e2, e3, e4, f1, f2, f3⟩ := Jr g2 h1
      rw [e2] at h4 h5
      have hil : i.toNat < (rvS E U.length j).length := by first | omega | (simp only [e2] at *; omega)
      have hm := getD_mem (d := 0) hil
      have hx := f2 _ hm
      have o := JV g2 e1 f1 f2 hx.1
      have o3 := JH (a := (rvS E U.length j).getD i.toNat 0) (by omega)
      rw [e2, o.1]
      omega
    ·intro hg
     refine Jp U E (members (fun k => ((left.toNat ^^^ (left.toNat &&& ((1 : Int) * 2 ^ (((members (fun k => left.toNat.testBit k) 62).getD i.toNat 0).toNat)).toNat) : Nat) : Int).toNat.testBit k) 62) ?_
     ·have hgk : (J0 U E && inB k 1 (U.length : Int)) = true := by simpa using b2
      obtain ⟨hg, hk⟩ := (Bool.and_eq_true _ _ ▸ hgk : _ ∧ _)
      have hk2 := J3 hk
      obtain ⟨g1, g2, g3⟩ := J2 hg
      obtain ⟨j, hj, e1, hkj, e2, e3, e4, f1, f2, f3⟩ := Jr g2 h1
      rw [e2] at h4 h5
      have hil : i.toNat < (rvS E U.length j).length := by first | omega | (simp only [e2] at *; omega)
      have hm := getD_mem (d := 0) hil
      have hx := f2 _ hm
      have o := JV g2 e1 f1 f2 hx.1
      have o3 := JH (a := (rvS E U.length j).getD i.toNat 0) (by omega)
      rw [e2, o.2.2]
      exact J5v hg f1 f2 (by omega) hm
    ·omega
    ·intro hg
     have hb0 : 0 ≤ best := by
       by_cases h : best < 0
       · rw [decide_eq_true h] at hg; simp at hg
       omega
     exact hb0
    ·intro hg
     have hb0 : 0 ≤ best := by
       by_cases h : best < 0
       · rw [decide_eq_true h] at hg; simp at hg
       omega
     have hgk : (J0 U E && inB k 1 (U.length : Int)) = true := by simpa using b2
     obtain ⟨hg, hk⟩ := (Bool.and_eq_true _ _ ▸ hgk : _ ∧ _)
     have hk2 := J3 hk
     obtain ⟨g1, g2, g3⟩ := J2 hg
     obtain ⟨j, hj, e1, hkj, e2, e3, e4, f1, f2, f3⟩ := Jr g2 h1
     rw [e2] at h4 h5
     have hbm : best ∈ rvS E U.length j := by
       rcases h5 with ⟨_, h⟩ | ⟨h6, h⟩
       · omega
       rw [h]; exact Jw E (by omega) _ (by omega)
     have hx := f2 _ hbm
     have o := JV g2 e1 f1 f2 hx.1
     have o3 := JH (a := best) (by omega)
     omega
    ·intro _
     have hgk : (J0 U E && inB k 1 (U.length : Int)) = true := by simpa using b2
     obtain ⟨hg, hk⟩ := (Bool.and_eq_true _ _ ▸ hgk : _ ∧ _)
     have hk2 := J3 hk
     obtain ⟨g1, g2, g3⟩ := J2 hg
     obtain ⟨j, hj, e1, hkj, e2, e3, e4, f1, f2, f3⟩ := Jr g2 h1
     omega
    ·intro hg
     have hb0 : 0 ≤ best := by
       by_cases h : best < 0
       · rw [decide_eq_true h] at hg; simp at hg
       omega
     have hgk : (J0 U E && inB k 1 (U.length : Int)) = true := by simpa using b2
     obtain ⟨hg, hk⟩ := (Bool.and_eq_true _ _ ▸ hgk : _ ∧ _)
     have hk2 := J3 hk
     obtain ⟨g1, g2, g3⟩ := J2 hg
     obtain ⟨j, hj, e1, hkj, e2, e3, e4, f1, f2, f3⟩ := Jr g2 h1
     rw [e2] at h4 h5
     have hbm : best ∈ rvS E U.length j := by
       rcases h5 with ⟨_, h⟩ | ⟨h6, h⟩
       · omega
       rw [h]; exact Jw E (by omega) _ (by omega)
     have hx := f2 _ hbm
     have o := JV g2 e1 f1 f2 hx.1
     have o3 := JH (a := best) (by omega)
     omega
    ·intro hg
     refine J0H ((left.toNat ^^^ (left.toNat &&& ((1 : Int) * 2 ^ best.toNat).toNat) : Nat) : Int) ?_
     ·have hb0 : 0 ≤ best := by
        by_cases h : best < 0
        · rw [decide_eq_true h] at hg; simp at hg
        omega
      have hgk : (J0 U E && inB k 1 (U.length : Int)) = true := by simpa using b2
      obtain ⟨hg, hk⟩ := (Bool.and_eq_true _ _ ▸ hgk : _ ∧ _)
      have hk2 := J3 hk
      obtain ⟨g1, g2, g3⟩ := J2 hg
      obtain ⟨j, hj, e1, hkj, e2, e3, e4, f1, f2, f3⟩ := Jr g2 h1
      rw [e2] at h4 h5
      have hbm : best ∈ rvS E U.length j := by
        rcases h5 with ⟨_, h⟩ | ⟨h6, h⟩
        · omega
        rw [h]; exact Jw E (by omega) _ (by omega)
      have hx := f2 _ hbm
      have o := JV g2 e1 f1 f2 hx.1
      have o3 := JH (a := best) (by omega)
      rw [o.1]
      omega
    ·intro hg
     refine Jp U E (members (fun k => ((left.toNat ^^^ (left.toNat &&& ((1 : Int) * 2 ^ best.toNat).toNat) : Nat) : Int).toNat.testBit k) 62) ?_
     ·have hb0 : 0 ≤ best := by
        by_cases h : best < 0
        · rw [decide_eq_true h] at hg; simp at hg
        omega
      have hgk : (J0 U E && inB k 1 (U.length : Int)) = true := by simpa using b2
      obtain ⟨hg, hk⟩ := (Bool.and_eq_true _ _ ▸ hgk : _ ∧ _)
      have hk2 := J3 hk
      obtain ⟨g1, g2, g3⟩ := J2 hg
      obtain ⟨j, hj, e1, hkj, e2, e3, e4, f1, f2, f3⟩ := Jr g2 h1
      rw [e2] at h4 h5
      have hbm : best ∈ rvS E U.length j := by
        rcases h5 with ⟨_, h⟩ | ⟨h6, h⟩
        · omega
        rw [h]; exact Jw E (by omega) _ (by omega)
      have hx := f2 _ hbm
      have o := JV g2 e1 f1 f2 hx.1
      have o3 := JH (a := best) (by omega)
      rw [o.2.2]
      exact J5v hg f1 f2 (by omega) hbm
    ·(simp_all; done)
    ·intro b5
     refine ⟨?_, ?_⟩
     ·have hgk : (J0 U E && inB k 1 (U.length : Int)) = true := by simpa using b2
      obtain ⟨hg, hk⟩ := (Bool.and_eq_true _ _ ▸ hgk : _ ∧ _)
      have hk2 := J3 hk
      obtain ⟨g1, g2, g3⟩ := J2 hg
      obtain ⟨j, hj, e1, hkj, e2, e3, e4, f1, f2, f3⟩ := Jr g2 h1
      rw [e2] at h4 h5
      omega
     refine ⟨((members (fun k => left.toNat.testBit k) 62).getD i.toNat 0), (i + 1), ?_⟩
     refine ⟨?_, ?_, rfl, rfl, rfl, rfl, rfl, rfl, rfl, rfl, rfl⟩
     ·refine ⟨?_, ?_⟩
      ·omega
      ·have hgk : (J0 U E && inB k 1 (U.length : Int)) = true := by simpa using b2
       obtain ⟨hg, hk⟩ := (Bool.and_eq_true _ _ ▸ hgk : _ ∧ _)
       have hk2 := J3 hk
       obtain ⟨g1, g2, g3⟩ := J2 hg
       obtain ⟨j, hj, e1, hkj, e2, e3, e4, f1, f2, f3⟩ := Jr g2 h1
       rw [e2] at h4 h5
       have hil : i.toNat < (rvS E U.length j).length := by first | omega | (simp only [e2] at *; omega)
       have hm := getD_mem (d := 0) hil
       have hx := f2 _ hm
       have o := JV g2 e1 f1 f2 hx.1
       have o3 := JH (a := (rvS E U.length j).getD i.toNat 0) (by omega)
       rw [e2] at b5 ⊢
       refine .inr ⟨by omega, ?_⟩
       rw [show (i + 1).toNat = i.toNat + 1 by omega, J2u]
       unfold rvF
       rcases h5 with ⟨h6, h7⟩ | ⟨h6, h7⟩
       · rw [show i.toNat = 0 by omega]
         show _ = if _ then _ else (rvS E U.length j).getD 0 0
         split <;> rfl
       rw [← h7]
       have hbm : best ∈ rvS E U.length j := by rw [h7]; exact Jw E (by omega) _ (by omega)
       have ob := JV g2 e1 f1 f2 (f2 _ hbm).1
       rw [decide_eq_false (show ¬ best < 0 by have := f2 _ hbm; omega), o.2.2, ob.2.2] at b5
       rw [if_pos (by simpa using b5)]
     (simp only [Jy]; omega)
    intro b6
    refine ⟨?_, ?_⟩
    ·have hgk : (J0 U E && inB k 1 (U.length : Int)) = true := by simpa using b2
     obtain ⟨hg, hk⟩ := (Bool.and_eq_true _ _ ▸ hgk : _ ∧ _)
     have hk2 := J3 hk
     obtain ⟨g1, g2, g3⟩ := J2 hg
     obtain ⟨j, hj, e1, hkj, e2, e3, e4, f1, f2, f3⟩ := Jr g2 h1
     rw [e2] at h4 h5
     omega
    refine ⟨best, (i + 1), ?_⟩
    refine ⟨?_, ?_, rfl, rfl, rfl, rfl, rfl, rfl, rfl, rfl, rfl⟩
    ·refine ⟨?_, ?_⟩
     ·omega
     ·have hgk : (J0 U E && inB k 1 (U.length : Int)) = true := by simpa using b2
      obtain ⟨hg, hk⟩ := (Bool.and_eq_true _ _ ▸ hgk : _ ∧ _)
      have hk2 := J3 hk
      obtain ⟨g1, g2, g3⟩ := J2 hg
      obtain ⟨j, hj, e1, hkj, e2, e3, e4, f1, f2, f3⟩ := Jr g2 h1
      rw [e2] at h4 h5
      have hil : i.toNat < (rvS E U.length j).length := by first | omega | (simp only [e2] at *; omega)
      have hm := getD_mem (d := 0) hil
      have hx := f2 _ hm
      have o := JV g2 e1 f1 f2 hx.1
      have o3 := JH (a := (rvS E U.length j).getD i.toNat 0) (by omega)
      rw [e2] at b6 ⊢
      have hn : ¬ best < 0 := fun h => by rw [decide_eq_true h] at b6; simp at b6
      refine .inr ⟨by omega, ?_⟩
      rw [show (i + 1).toNat = i.toNat + 1 by omega, J2u]
      unfold rvF
      rcases h5 with ⟨h6, h7⟩ | ⟨h6, h7⟩
      · omega
      rw [← h7]
      have hbm : best ∈ rvS E U.length j := by rw [h7]; exact Jw E (by omega) _ (by omega)
      have ob := JV g2 e1 f1 f2 (f2 _ hbm).1
      rw [decide_eq_false hn, o.2.2, ob.2.2] at b6
      rw [if_neg (by simpa using b6)]
    (simp only [Jy]; omega)
   intro b7
   try simp only [nrmT] at b7
   refine ⟨?_, ?_, ?_, ?_, ?_, ?_⟩
   ·omega
   ·have hgk : (J0 U E && inB k 1 (U.length : Int)) = true := by simpa using b2
    obtain ⟨hg, hk⟩ := (Bool.and_eq_true _ _ ▸ hgk : _ ∧ _)
    have hk2 := J3 hk
    obtain ⟨g1, g2, g3⟩ := J2 hg
    obtain ⟨j, hj, e1, hkj, e2, e3, e4, f1, f2, f3⟩ := Jr g2 h1
    rw [e2] at h4 h5
    have hil : i = ((rvS E U.length j).length : Int) := by first | omega | (simp only [e2] at *; omega)
    have hbv : best = rvB E (rvS E U.length j) := by
      rcases h5 with ⟨h6, _⟩ | ⟨_, h⟩
      · omega
      rw [h, hil, Int.toNat_natCast]; rfl
    have hbm : best ∈ rvS E U.length j := by rw [hbv]; exact Jw E (by omega) _ (Nat.le_refl _)
    have hx := f2 _ hbm
    have o := JV g2 e1 f1 f2 hx.1
    have o3 := JH (a := best) (by omega)
    exact hx.1
   ·have hgk : (J0 U E && inB k 1 (U.length : Int)) = true := by simpa using b2
    obtain ⟨hg, hk⟩ := (Bool.and_eq_true _ _ ▸ hgk : _ ∧ _)
    have hk2 := J3 hk
    obtain ⟨g1, g2, g3⟩ := J2 hg
    obtain ⟨j, hj, e1, hkj, e2, e3, e4, f1, f2, f3⟩ := Jr g2 h1
    rw [e2] at h4 h5
    have hil : i = ((rvS E U.length j).length : Int) := by first | omega | (simp only [e2] at *; omega)
    have hbv : best = rvB E (rvS E U.length j) := by
      rcases h5 with ⟨h6, _⟩ | ⟨_, h⟩
      · omega
      rw [h, hil, Int.toNat_natCast]; rfl
    have hbm : best ∈ rvS E U.length j := by rw [hbv]; exact Jw E (by omega) _ (Nat.le_refl _)
    have hx := f2 _ hbm
    have o := JV g2 e1 f1 f2 hx.1
    have o3 := JH (a := best) (by omega)
    omega
   ·have hgk : (J0 U E && inB k 1 (U.length : Int)) = true := by simpa using b2
    obtain ⟨hg, hk⟩ := (Bool.and_eq_true _ _ ▸ hgk : _ ∧ _)
    have hk2 := J3 hk
    obtain ⟨g1, g2, g3⟩ := J2 hg
    obtain ⟨j, hj, e1, hkj, e2, e3, e4, f1, f2, f3⟩ := Jr g2 h1
    omega
   ·have hgk : (J0 U E && inB k 1 (U.length : Int)) = true := by simpa using b2
    obtain ⟨hg, hk⟩ := (Bool.and_eq_true _ _ ▸ hgk : _ ∧ _)
    have hk2 := J3 hk
    obtain ⟨g1, g2, g3⟩ := J2 hg
    obtain ⟨j, hj, e1, hkj, e2, e3, e4, f1, f2, f3⟩ := Jr g2 h1
    rw [e2] at h4 h5
    have hil : i = ((rvS E U.length j).length : Int) := by first | omega | (simp only [e2] at *; omega)
    have hbv : best = rvB E (rvS E U.length j) := by
      rcases h5 with ⟨h6, _⟩ | ⟨_, h⟩
      · omega
      rw [h, hil, Int.toNat_natCast]; rfl
    have hbm : best ∈ rvS E U.length j := by rw [hbv]; exact Jw E (by omega) _ (Nat.le_refl _)
    have hx := f2 _ hbm
    have o := JV g2 e1 f1 f2 hx.1
    have o3 := JH (a := best) (by omega)
    omega
   refine ⟨((left.toNat ^^^ (left.toNat &&& ((1 : Int) * 2 ^ best.toNat).toNat) : Nat) : Int), ?_⟩
   refine ⟨?_, ?_, rfl, rfl, rfl, rfl⟩
   ·unfold JL
    have hgk : (J0 U E && inB k 1 (U.length : Int)) = true := by simpa using b2
    obtain ⟨hg, hk⟩ := (Bool.and_eq_true _ _ ▸ hgk : _ ∧ _)
    have hk2 := J3 hk
    obtain ⟨g1, g2, g3⟩ := J2 hg
    obtain ⟨j, hj, e1, hkj, e2, e3, e4, f1, f2, f3⟩ := Jr g2 h1
    rw [e2] at h4 h5
    have hil : i = ((rvS E U.length j).length : Int) := by first | omega | (simp only [e2] at *; omega)
    have hbv : best = rvB E (rvS E U.length j) := by
      rcases h5 with ⟨h6, _⟩ | ⟨_, h⟩
      · omega
      rw [h, hil, Int.toNat_natCast]; rfl
    have hbm : best ∈ rvS E U.length j := by rw [hbv]; exact Jw E (by omega) _ (Nat.le_refl _)
    have hx := f2 _ hbm
    have o := JV g2 e1 f1 f2 hx.1
    have o3 := JH (a := best) (by omega)
    refine ⟨j + 1, by omega, ?_, by omega⟩
    rw [o.1]
    show _ = ((bagN (Jf (rvS E U.length j) (rvB E (rvS E U.length j))) : Nat) : Int)
    rw [← hbv]
   have hgk : (J0 U E && inB k 1 (U.length : Int)) = true := by simpa using b2
   obtain ⟨hg, hk⟩ := (Bool.and_eq_true _ _ ▸ hgk : _ ∧ _)
   have hk2 := J3 hk
   obtain ⟨g1, g2, g3⟩ := J2 hg
   obtain ⟨j, hj, e1, hkj, e2, e3, e4, f1, f2, f3⟩ := Jr g2 h1
   rw [e2] at h4 h5
   have hil : i = ((rvS E U.length j).length : Int) := by first | omega | (simp only [e2] at *; omega)
   have hbv : best = rvB E (rvS E U.length j) := by
     rcases h5 with ⟨h6, _⟩ | ⟨_, h⟩
     · omega
     rw [h, hil, Int.toNat_natCast]; rfl
   have hbm : best ∈ rvS E U.length j := by rw [hbv]; exact Jw E (by omega) _ (Nat.le_refl _)
   have hx := f2 _ hbm
   have o := JV g2 e1 f1 f2 hx.1
   have o3 := JH (a := best) (by omega)
   have dl := J2q f1 hbm
   show (J0E (((left.toNat ^^^ (left.toNat &&& ((1 : Int) * 2 ^ best.toNat).toNat) : Nat) : Int)).toNat).toNat < (J0E left.toNat).toNat
   rw [o.1, Int.toNat_natCast, J8v (J4t f1) (fun x hx => by have := f2 x (J0W.1 hx).1; omega), e3]
   omega
  intro b8
  try simp only [nrmT] at b8
  refine ⟨?_, rfl, ?_, ?_⟩
  ·refine J4z left ?_
   ·have hgk : (J0 U E && inB k 1 (U.length : Int)) = true := by simpa using b2
    obtain ⟨hg, hk⟩ := (Bool.and_eq_true _ _ ▸ hgk : _ ∧ _)
    have hk2 := J3 hk
    obtain ⟨g1, g2, g3⟩ := J2 hg
    obtain ⟨j, hj, e1, hkj, e2, e3, e4, f1, f2, f3⟩ := Jr g2 h1
    omega
  ·have hgk : (J0 U E && inB k 1 (U.length : Int)) = true := by simpa using b2
   obtain ⟨hg, hk⟩ := (Bool.and_eq_true _ _ ▸ hgk : _ ∧ _)
   have hk2 := J3 hk
   obtain ⟨g1, g2, g3⟩ := J2 hg
   obtain ⟨j, hj, e1, hkj, e2, e3, e4, f1, f2, f3⟩ := Jr g2 h1
   rw [e2]
   unfold rvL
   rw [if_pos hgk, show U.length - k.toNat = j by omega]
  have hgk : (J0 U E && inB k 1 (U.length : Int)) = true := by simpa using b2
  obtain ⟨hg, hk⟩ := (Bool.and_eq_true _ _ ▸ hgk : _ ∧ _)
  have hk2 := J3 hk
  obtain ⟨g1, g2, g3⟩ := J2 hg
  exact hgk.symm
theorem J5d (U : ZI) (E : ZR) (k : Int)  : PC Tryz.prog 50 [.agg [.sl (.ints U), .sl (.rows E)], .int .i64 k] (.tup [.own 3 (.ints (rvL U E k)), .d (.bool (J0 U E && inB k 1 (U.length : Int)))]) :=
  pc_wf @Tryz.call50 fun hw => pc_by (by kernel_rfl) Tryz.func50 @Tryz.call50 (by kernel_rfl) J5z (J5G U E k) (by kernel_rfl) (J5n U E k hw.1.1 hw.1.2.1.1 hw.1.2.1.2) (by kernel_rfl)
def J4J : List D → Orc := orcN [none, none] fun ds => match ds with
  | [.agg [.sl (.ints U), .sl (.rows E)], .int .i64 k] => some (.tup [.own 3 (.ints (rvL U E k)), .d (.bool (J0 U E && inB k 1 (U.length : Int)))])
  | _ => none
def cnG (code : List Nat) (c : Cur) (n : Nat) : Bool := cond ((n : Int) == 0) true (J6 code c 20 == 0)
def cnK (code : List Nat) (c : Cur) (n : Nat) : Cur := cond (!((n : Int) == 0)) (J1 code c 20) c
def cnV (code : List Nat) (c : Cur) (n : Nat) : Int := if cnG code c n = true then ([0, -1, 8, (n : Int) + 1] : ZI).getD (J6 code (cnK code c n) 4).toNat 0 else 1 + J6 code (cnK code c n) (n : Int)
def cnC (code : List Nat) (c : Cur) (n : Nat) : Cur := if cnG code c n = true then J1 code (cnK code c n) 4 else J1 code (cnK code c n) (n : Int)
theorem Jbl {code : List Nat} {c : Cur} {n : Nat} {b : Int} (h : okC c b) : okC (cnK code c n) (b + 2) := by
  unfold cnK
  cases (!((n : Int) == 0))
  · exact J8 h (by omega)
  exact Jk h
theorem JcB {code : List Nat} {c : Cur} {n : Nat} (h : cnG code c n = false) : 0 < n := by
  rcases Nat.eq_zero_or_pos n with e | e
  · subst e; cases h
  exact e
abbrev J1b (u : Value) (code : List Nat) (c : Cur) (U : ZI) (E : ZR) (gd : Bool) (c1 : Cur) : Prop := (gd = cnG code c U.length) ∧ (c1 = cnK code c U.length)
abbrev J0C (u : Value) (code : List Nat) (c : Cur) (U : ZI) (E : ZR) (c5 : Cur) : Prop := (cnG code c U.length = false) ∧ (c5 = cnK code c U.length)
def J5f (f : FuncId) (ds : List D) : Orc := .no
def J50 (u : Value) (code : List Nat) (c : Cur) (U : ZI) (E : ZR) : Ann := .two (.none) (.cut (.cut (.mark [] [(6, .cell [.int .i64 ((J1 code c 20).pos), .int .u64 ((J1 code c 20).seed)] (.one (.d (.bool (J6 code c 20 == 0)))))]) (cut2 (fun (gd : Bool) (c1 : Cur) => J1b u code c U E gd c1) (fun (gd : Bool) (c1 : Cur) => [(0, .ptr 0 0), (3, .ptr 3 0), (12, .d true (.bool gd))]) (fun (gd : Bool) (c1 : Cur) => [(0, .box 76 [.d false (.lit u (.sl (.bytes code))), .d true (.int .i64 c1.pos), .d true (.int .u64 c1.seed)]), (3, .box 27 [.d false (.sl (.ints U)), .d false (.sl (.rows E))])])) (fun g => (fun (gd : Bool) (c1 : Cur) => .two (.two (.mark [] [(6, .cell [.int .i64 ((J1 code c1 (([0, (-1), 8, ((U.length : Int) + 1)]).length : Int)).pos), .int .u64 ((J1 code c1 (([0, (-1), 8, ((U.length : Int) + 1)]).length : Int)).seed)] (.one (.d (.int .i64 (([0, (-1), 8, ((U.length : Int) + 1)]).getD (J6 code c1 (([0, (-1), 8, ((U.length : Int) + 1)]).length : Int)).toNat 0)))))]) (.none)) (.none)) (g.1) (g.2))) (cut1 (fun (c5 : Cur) => J0C u code c U E c5) (fun (c5 : Cur) => [(0, .ptr 0 0), (3, .ptr 3 0)]) (fun (c5 : Cur) => [(0, .box 76 [.d false (.lit u (.sl (.bytes code))), .d true (.int .i64 c5.pos), .d true (.int .u64 c5.seed)]), (3, .box 27 [.d false (.sl (.ints U)), .d false (.sl (.rows E))])])) (fun g => (fun (c5 : Cur) => .two (.mark [] [(4, .cell [.int .i64 ((J1 code c5 (U.length : Int)).pos), .int .u64 ((J1 code c5 (U.length : Int)).seed)] (.one (.d (.int .i64 (J6 code c5 (U.length : Int))))))]) (.none)) g))
def J1C (u : Value) (code : List Nat) (c : Cur) (U : ZI) (E : ZR) : Prop :=
  (((((!((U.length : Int) == 0)) = true → (!((U.length : Int) == 0)) = true) ∧ ((!((U.length : Int) == 0)) = true → PK Tryz.prog 124 76 (.sl (.bytes code)) [.int .i64 c.pos, .int .u64 c.seed] [.int .i64 ((J1 code c 20).pos), .int .u64 ((J1 code c 20).seed)] [.int .i64 20] (.one (.d (.bool (J6 code c 20 == 0))))) ∧ (true = true) ∧ ((((U.length : Int) == 0) = true → true = true)) ∧ ((((U.length : Int) == 0) = false → (!((U.length : Int) == 0)) = true)) ∧ (∃ gd' : Bool, ∃ c1' : Cur, (J1b u code c U E gd' c1') ∧ ((cond ((U.length : Int) == 0) true (J6 code c 20 == 0)) = gd') ∧ ((.lit u (.sl (.bytes code)) : D) = .lit u (.sl (.bytes code))) ∧ ((cond (!((U.length : Int) == 0)) ((J1 code c 20).pos) c.pos) = c1'.pos) ∧ ((cond (!((U.length : Int) == 0)) ((J1 code c 20).seed) c.seed) = c1'.seed) ∧ (U = U) ∧ (E = E))) ∧ (∀ gd : Bool, ∀ c1 : Cur, (J1b u code c U E gd c1) → ((gd = true → (I6 ((U.length : Int) + 1)) ∧ ((4 : Nat) = 4) ∧ (PK Tryz.prog 155 76 (.sl (.bytes code)) [.int .i64 c1.pos, .int .u64 c1.seed] [.int .i64 ((J1 code c1 (([0, (-1), 8, ((U.length : Int) + 1)]).length : Int)).pos), .int .u64 ((J1 code c1 (([0, (-1), 8, ((U.length : Int) + 1)]).length : Int)).seed)] [.sl (.ints ([0, (-1), 8, ((U.length : Int) + 1)]))] (.one (.d (.int .i64 (([0, (-1), 8, ((U.length : Int) + 1)]).getD (J6 code c1 (([0, (-1), 8, ((U.length : Int) + 1)]).length : Int)).toNat 0))))) ∧ (((.lit u (.sl (.bytes code)) : D) = .lit u (.sl (.bytes code))) ∧ ((J1 code c1 (([0, (-1), 8, ((U.length : Int) + 1)]).length : Int)).pos = (cnC code c U.length).pos) ∧ ((J1 code c1 (([0, (-1), 8, ((U.length : Int) + 1)]).length : Int)).seed = (cnC code c U.length).seed) ∧ ((([0, (-1), 8, ((U.length : Int) + 1)]).getD (J6 code c1 (([0, (-1), 8, ((U.length : Int) + 1)]).length : Int)).toNat 0) = (cnV code c U.length)))) ∧ (gd = false → (∃ c5' : Cur, (J0C u code c U E c5') ∧ ((.lit u (.sl (.bytes code)) : D) = .lit u (.sl (.bytes code))) ∧ (c1.pos = c5'.pos) ∧ (c1.seed = c5'.seed) ∧ (U = U) ∧ (E = E)))))) ∧ (∀ c5 : Cur, (J0C u code c U E c5) → (PK Tryz.prog 156 76 (.sl (.bytes code)) [.int .i64 c5.pos, .int .u64 c5.seed] [.int .i64 ((J1 code c5 (U.length : Int)).pos), .int .u64 ((J1 code c5 (U.length : Int)).seed)] [.int .i64 (U.length : Int)] (.one (.d (.int .i64 (J6 code c5 (U.length : Int)))))) ∧ (I6 (1 + (J6 code c5 (U.length : Int)))) ∧ (((.lit u (.sl (.bytes code)) : D) = .lit u (.sl (.bytes code))) ∧ ((J1 code c5 (U.length : Int)).pos = (cnC code c U.length).pos) ∧ ((J1 code c5 (U.length : Int)).seed = (cnC code c U.length).seed) ∧ ((1 + (J6 code c5 (U.length : Int))) = (cnV code c U.length)))))
theorem J4C (u : Value) (code : List Nat) (c : Cur) (U : ZI) (E : ZR) (hb : ∀ x9 ∈ code, x9 < 256) (hc : okC c 8000000) (hl : U.length ≤ 8)  : J1C u code c U E := by
  unfold J1C
  refine ⟨?_, ?_⟩
  ·refine ⟨?_, ?_⟩
   ·refine ⟨id, ?_, rfl, fun _ => rfl, ?_, ?_⟩
    ·intro hg
     refine J82 code c 20 ?_ ?_
     ·exact hb
     exact J8 (by assumption) (by omega)
    ·(simp_all; done)
    ·refine ⟨(cond ((U.length : Int) == 0) true (J6 code c 20 == 0)), (cond (!((U.length : Int) == 0)) (J1 code c 20) c), ?_⟩
     refine ⟨?_, rfl, rfl, J9V _ _ _, J8O _ _ _, rfl, rfl⟩
     ·refine ⟨?_, ?_⟩
      ·rfl
      ·rfl
   ·intro gd c1 hJ
    obtain ⟨g1, g2⟩ := hJ
    refine ⟨?_, ?_⟩
    ·intro b1
     refine ⟨?_, rfl, ?_, rfl, ?_, ?_, ?_⟩
     ·omega
     ·refine JX code c1 ([0, (-1), 8, ((U.length : Int) + 1)]) ?_ ?_ ?_
      ·exact hb
      ·(rw [g2]; exact J8 (Jbl hc) (by omega))
      ·simp
     ·rw [g2]; unfold cnC; rw [if_pos (by rw [← g1]; assumption)]; rfl
     ·rw [g2]; unfold cnC; rw [if_pos (by rw [← g1]; assumption)]; rfl
     rw [g2]; unfold cnV; rw [if_pos (by rw [← g1]; assumption)]; rfl
    intro b2
    refine ⟨c1, ?_⟩
    refine ⟨?_, rfl, rfl, rfl, rfl, rfl⟩
    ·refine ⟨?_, ?_⟩
     ·rw [← g1]; assumption
     ·exact g2
  intro c5 hJ
  obtain ⟨g3, g4⟩ := hJ
  refine ⟨?_, ?_, rfl, ?_, ?_, ?_⟩
  ·refine Jq code c5 (U.length : Int) ?_ ?_
   ·exact hb
   ·(rw [g4]; exact J8 (Jbl hc) (by omega))
  ·have v := J0V code c5 (n := (U.length : Int)) (by have := JcB g3; omega)
   omega
  ·rw [g4]; unfold cnC; rw [if_neg (by rw [g3]; decide)]
  ·rw [g4]; unfold cnC; rw [if_neg (by rw [g3]; decide)]
  rw [g4]; unfold cnV; rw [if_neg (by rw [g3]; decide)]
theorem J4I (code : List Nat) (c : Cur) (U : ZI) (E : ZR) (hb : ∀ x9 ∈ code, x9 < 256) (hc : okC c 8000000) (hl : U.length ≤ 8) : PK Tryz.prog 134 76 (.sl (.bytes code)) [.int .i64 c.pos, .int .u64 c.seed] [.int .i64 (cnC code c U.length).pos, .int .u64 (cnC code c U.length).seed] [.agg [.sl (.ints U), .sl (.rows E)]] (.one (.d (.int .i64 (cnV code c U.length)))) :=
  pk_by (Q := fun u => J1C u code c U E) (by kernel_rfl) Tryz.func134 @Tryz.call134 (by kernel_rfl) J5f (fun u => J50 u code c U E) (by kernel_rfl) (fun u => J4C u code c U E hb hc hl) (fun u => by kernel_rfl)
abbrev J1x (code : List Nat) (c1 : Cur) (Oz : ZI) (Dz : ZR) : Prop := (okC c1 8000000) ∧ (Oz.length ≤ 8) ∧ (Dz.length ≤ 8)
abbrev J2s (code : List Nat) (O : ZI) (Ds : ZR) (kk : Int) : Prop := True
def J2j (code : List Nat) : Ex := ex3 0 (fun (O : ZI) (Ds : ZR) (kk : Int) => J2s code O Ds kk) (fun (O : ZI) (Ds : ZR) (kk : Int) => []) (fun (O : ZI) (Ds : ZR) (kk : Int) => .tup [.d (.agg [.sl (.ints O), .sl (.rows Ds)]), .d (.int .i64 kk)])
def J6R (f : FuncId) (ds : List D) : Orc := .no
def J6v (code : List Nat) : Ann := .two (.none) (.two (.none) (.cut (.exr (.ex [] 1 (J2O code J9p) (fun g => (fun (Or2 : ZI) (Dr2 : ZR) (clr2 : Cur) => .ms [] []) (g.1) (g.2.1) (g.2.2)))) (cut3 (fun (c1 : Cur) (Oz : ZI) (Dz : ZR) => J1x code c1 Oz Dz) (fun (c1 : Cur) (Oz : ZI) (Dz : ZR) => [(2, .ptr 2 0), (4, .ptr 8 0), (5, .ptr 5 0)]) (fun (c1 : Cur) (Oz : ZI) (Dz : ZR) => [(2, .box 27 [.d true (.nil), .d true (.nil)]), (8, .box 76 [.d false (.sl (.bytes code)), .d true (.int .i64 c1.pos), .d true (.int .u64 c1.seed)]), (5, .box 27 [.d true (.sl (.ints Oz)), .d true (.sl (.rows Dz))])])) (fun g => (fun (c1 : Cur) (Oz : ZI) (Dz : ZR) => .two (.reg [(3, .cell [.int .i64 ((cnC code c1 Oz.length).pos), .int .u64 ((cnC code c1 Oz.length).seed)] (.one (.d (.int .i64 (cnV code c1 Oz.length)))))]) (.none)) (g.1) (g.2.1) (g.2.2))))
def J3P (code : List Nat) : Prop :=
  (((PKE Tryz.prog 133 76 (.sl (.bytes code)) [.int .i64 0, .int .u64 0] [] (J2O code J9p)) ∧ (∀ Or2 : ZI, ∀ Dr2 : ZR, ∀ clr2 : Cur, J2H code J9p Or2 Dr2 clr2 → ((true = true) ∧ (∃ c1' : Cur, ∃ Oz' : ZI, ∃ Dz' : ZR, (J1x code c1' Oz' Dz') ∧ (code = code) ∧ (clr2.pos = c1'.pos) ∧ (clr2.seed = c1'.seed) ∧ (Or2 = Oz') ∧ (Dr2 = Dz'))))) ∧ (∀ c1 : Cur, ∀ Oz : ZI, ∀ Dz : ZR, (J1x code c1 Oz Dz) → (true = true) ∧ (PK Tryz.prog 134 76 (.sl (.bytes code)) [.int .i64 c1.pos, .int .u64 c1.seed] [.int .i64 ((cnC code c1 Oz.length).pos), .int .u64 ((cnC code c1 Oz.length).seed)] [.agg [.sl (.ints Oz), .sl (.rows Dz)]] (.one (.d (.int .i64 (cnV code c1 Oz.length))))) ∧ (∃ O' : ZI, ∃ Ds' : ZR, ∃ kk' : Int, (J2s code O' Ds' kk') ∧ ((.agg [.sl (.ints Oz), .sl (.rows Dz)] : D) = .agg [.sl (.ints O'), .sl (.rows Ds')]) ∧ ((cnV code c1 Oz.length) = kk'))))
theorem J5y (code : List Nat) (hb : ∀ x9 ∈ code, x9 < 256) (w_code : (code.length : Int) ≤ 9223372036854775807) : J3P code := by
  unfold J3P
  refine ⟨?_, ?_⟩
  ·refine ⟨?_, ?_⟩
   ·refine J5H code J9p ?_ ?_
    ·exact hb
    ·exact J8 J9g (by omega)
   ·intro Or2 Dr2 clr2 hQ9
    obtain ⟨f1r2, f2r2, f3r2⟩ := hQ9
    refine ⟨rfl, ?_⟩
    ·refine ⟨clr2, Or2, Dr2, ?_⟩
     refine ⟨?_, rfl, rfl, rfl, rfl, rfl⟩
     ·refine ⟨?_, ?_, ?_⟩
      ·exact J8 (by assumption) (by omega)
      ·assumption
      ·assumption
  intro c1 Oz Dz hJ
  obtain ⟨q1, q2, q3⟩ := hJ
  refine ⟨rfl, ?_, ?_⟩
  ·refine J4I code c1 Oz Dz ?_ ?_ ?_
   ·exact hb
   ·assumption
   ·assumption
  refine ⟨Oz, Dz, (cnV code c1 Oz.length), ?_⟩
  refine ⟨?_, rfl, rfl⟩
  ·trivial
theorem J5A (code : List Nat) (hb : ∀ x9 ∈ code, x9 < 256) : PE Tryz.prog 44 [.sl (.bytes code)] (J2j code) :=
  pe_wf @Tryz.call44 fun hw => pe_by (by kernel_rfl) Tryz.func44 @Tryz.call44 (by kernel_rfl) J6R (J6v code) (by kernel_rfl) (J5y code hb hw.1) (by kernel_rfl)
def J8E (f : FuncId) (ds : List D) : Orc := bif Nat.beq f 113 then J7Q ds else bif Nat.beq f 125 then JK ds else .no
def J8H (U : ZI) (E : ZR) (set : ZI) : Ann := .none
def J4x (U : ZI) (E : ZR) (set : ZI) : Prop :=
  (PC Tryz.prog 113 [.agg [.sl (.ints U), .sl (.rows E)], .sl (.ints set)] (.one (.d (.bool (J0 U E && J5 set 0 ((U.length : Int) - 1) && decide (0 < set.length)))))) ∧ (((!(J0 U E && J5 set 0 ((U.length : Int) - 1) && decide (0 < set.length))) = true → (((0 : Int) = (if (J0 U E && J5 set 0 ((U.length : Int) - 1) && decide (0 < set.length)) = true then J4 E set else 0)) ∧ (false = (J0 U E && J5 set 0 ((U.length : Int) - 1) && decide (0 < set.length))))) ∧ ((!(J0 U E && J5 set 0 ((U.length : Int) - 1) && decide (0 < set.length))) = false → (PC Tryz.prog 125 [.agg [.sl (.ints U), .sl (.rows E)], .sl (.ints set)] (.one (.d (.int .i64 (J4 E set))))) ∧ (((J4 E set) = (if (J0 U E && J5 set 0 ((U.length : Int) - 1) && decide (0 < set.length)) = true then J4 E set else 0)) ∧ (true = (J0 U E && J5 set 0 ((U.length : Int) - 1) && decide (0 < set.length))))))
theorem J89 (U : ZI) (E : ZR) (set : ZI)  (w_Open : (U.length : Int) ≤ 9223372036854775807) (w_Dist : (E.length : Int) ≤ 9223372036854775807) (v_Dist : ∀ x9 ∈ E, (x9.length : Int) ≤ 9223372036854775807) (w_set : (set.length : Int) ≤ 9223372036854775807) : J4x U E set := by
  unfold J4x
  refine ⟨J8I U E set, ?_, ?_⟩
  ·intro b1
   try simp only [Bool.not_eq_true', Bool.not_eq_false', Bool.not_not] at b1
   refine ⟨?_, ?_⟩
   ·have hq : (J0 U E && J5 set 0 ((U.length : Int) - 1) && decide (0 < set.length)) = false := by simpa only [Bool.not_eq_true', Bool.not_eq_false', Bool.not_not] using b1
    rw [hq]; rfl
   (simp_all <;> omega)
  intro b2
  try simp only [Bool.not_eq_true', Bool.not_eq_false', Bool.not_not] at b2
  refine ⟨?_, ?_, ?_⟩
  ·refine Jp U E set ?_
   ·omega
  ·have hq : (J0 U E && J5 set 0 ((U.length : Int) - 1) && decide (0 < set.length)) = true := by simpa only [Bool.not_eq_true', Bool.not_eq_false', Bool.not_not] using b2
   rw [if_pos hq]
  (simp_all; done)
theorem J31 (U : ZI) (E : ZR) (set : ZI)  : PC Tryz.prog 38 [.agg [.sl (.ints U), .sl (.rows E)], .sl (.ints set)] (.tup [.d (.int .i64 (if (J0 U E && J5 set 0 ((U.length : Int) - 1) && decide (0 < set.length)) = true then J4 E set else 0)), .d (.bool (J0 U E && J5 set 0 ((U.length : Int) - 1) && decide (0 < set.length)))]) :=
  pc_wf @Tryz.call38 fun hw => pc_by (by kernel_rfl) Tryz.func38 @Tryz.call38 (by kernel_rfl) J8E (J8H U E set) (by kernel_rfl) (J89 U E set hw.1.1 hw.1.2.1.1 hw.1.2.1.2 hw.2.1) (by kernel_rfl)
def J7C : List D → Orc := orcN [none, some .ints] fun ds => match ds with
  | [.agg [.sl (.ints U), .sl (.rows E)], .sl (.ints set)] => some (.tup [.d (.int .i64 (if (J0 U E && J5 set 0 ((U.length : Int) - 1) && decide (0 < set.length)) = true then J4 E set else 0)), .d (.bool (J0 U E && J5 set 0 ((U.length : Int) - 1) && decide (0 < set.length)))])
  | _ => none
theorem J6L {U : ZI} {D : ZR} {k : Int} {s : ZI} (hs : J5 s 0 ((U.length : Int) - 1) = true) (hp : 0 < s.length) (hk : (s.length : Int) = k) : J4 D (Jl U D k) ≤ J4 D s :=
  Jbr (v := J4 D) s (List.mem_filter.2 ⟨by rw [Int.toNat_natCast]; exact Jcs hs hp, by simpa using hk⟩)
theorem JbH {U : ZI} {D : ZR} (hg : J0 U D = true) {i : Nat} (h1 : 1 ≤ i) (h2 : i < U.length) : (JP U D U.length).getD i 0 ≤ (JP U D U.length).getD (i - 1) 0 := by
  rw [J58 h2, J58 (show i - 1 < U.length by omega), show ((i - 1 : Nat) : Int) + 1 = (i : Int) by omega]
  obtain ⟨_, r1, r2⟩ := JZ (J4l (E := D) hg (k := (i : Int)) (by omega))
  have hl := J9t (U := U) (E := D) (k := (i : Int)) (by omega)
  generalize Jl U D (i : Int) = S at r1 r2 hl
  obtain ⟨a, ha, hn⟩ := J96 (S := S) (n := U.length) (by omega)
  have hn2 : (a : Int) ∉ S := fun hm => by rw [List.contains_iff_mem.2 hm] at hn; cases hn
  have hS := J16 r1
  have ht := J4g hg (J3w r1) (fun x hx => by have := hS x hx; omega) (a := (a : Int)) (by omega)
  obtain ⟨_, t1, t2⟩ := JZ ht
  refine Int.le_trans (J6L t1 t2 (by rw [J9m (J3w r1) hn2]; omega)) (J5c fun j _ => J5o r2 (fun x hx => mem_putL.2 (.inr hx)) j)
theorem J2k {U : ZI} {D : ZR} {k : Int} (hc : (J0 U D && inB k 1 (U.length : Int)) = true) :
    J0 U D = true ∧ (1 ≤ k ∧ k ≤ (U.length : Int)) ∧ ((Jc U D k).length : Int) = k ∧ ((gmL U D k).length : Int) = k ∧ ((rvL U D k).length : Int) = k ∧
    (J0 U D && J5 (Jc U D k) 0 ((U.length : Int) - 1) && decide (0 < (Jc U D k).length)) = true ∧ (J0 U D && J5 (srt (gmL U D k)) 0 ((U.length : Int) - 1) && decide (0 < (srt (gmL U D k)).length)) = true ∧
    (J0 U D && J5 (rvL U D k) 0 ((U.length : Int) - 1) && decide (0 < (rvL U D k).length)) = true ∧ J4 D (Jc U D k) = Jh U D k ∧ Jh U D k ≤ J4 D (srt (gmL U D k)) ∧ Jh U D k ≤ J4 D (rvL U D k) ∧
    (J9 U D).length = U.length ∧ (J9 U D).getD (k - 1).toNat 0 = Jh U D k ∧ (k = 1 → J4 D (srt (gmL U D k)) = Jh U D k) ∧ ((U.length : Int) - 1 ≤ k → J4 D (rvL U D k) = Jh U D k) := by
  obtain ⟨hg, hk⟩ := (Bool.and_eq_true _ _ ▸ hc : _ ∧ _)
  have hk2 := J3 hk
  obtain ⟨g1, g2, g3⟩ := J2 hg
  have e1 : Jc U D k = Jl U D k := by unfold Jc; rw [if_pos hc]
  have e2 : Jh U D k = J4 D (Jl U D k) := by unfold Jh; rw [if_pos hc]
  have e3 : gmL U D k = gmO D U.length k.toNat := by unfold gmL; rw [if_pos hc]
  have e4 : rvL U D k = rvS D U.length (U.length - k.toNat) := by unfold rvL; rw [if_pos hc]
  have e5 : J9 U D = JP U D U.length := by unfold J9; rw [if_pos hg]
  obtain ⟨f1, f2, f3, f4, f5, f6⟩ := Jd D U.length k.toNat (by omega)
  have e6 : srt (gmL U D k) = gmS D U.length k.toNat := by
    have hin : ∀ y ∈ gmL U D k, 0 ≤ y ∧ y ≤ 1000 := fun y hy => by
      rw [e3, f5 y] at hy
      have := f2 y hy; omega
    refine asc_ext (Jch fun y hy => (hin y hy).1) f1 fun x => ?_
    rw [Jcn hin, e3, f5]
  obtain ⟨r1, r2, r3⟩ := J18 D U.length (U.length - k.toNat) (by omega)
  have hml := J9t (U := U) (E := D) hk2
  have hm2 := J4l (E := D) hg hk2
  obtain ⟨_, hmr, hmp⟩ := JZ hm2
  have hgr := J3e f1 (lo := 0) (hi := (U.length : Int) - 1) fun x hx => by have := f2 x hx; omega
  have hrr := J3e r1 (lo := 0) (hi := (U.length : Int) - 1) fun x hx => by have := r2 x hx; omega
  have hge := J6L (D := D) hgr (by omega) (k := k) (by omega)
  have hre := J6L (D := D) hrr (by omega) (k := k) (by omega)
  rw [e1, e2, e3, e4, e5, ← e3, e6]
  refine ⟨hg, hk2, hml, by rw [e3]; omega, by omega, hm2, by rw [hg, hgr, decide_eq_true (show 0 < (gmS D U.length k.toNat).length by omega)]; rfl, by rw [hg, hrr, decide_eq_true (show 0 < (rvS D U.length (U.length - k.toNat)).length by omega)]; rfl, rfl, hge, hre, J3f _ _ _, ?_, fun h1 => ?_, fun h1 => ?_⟩
  · rw [J58 (show (k - 1).toNat < U.length by omega), show (((k - 1).toNat : Nat) : Int) + 1 = k by omega]
  · refine Int.le_antisymm ?_ hge
    subst h1
    have hs : ∃ a, Jl U D 1 = [a] := by
      match hM : Jl U D 1, hml with
      | [a], _ => exact ⟨a, rfl⟩
    obtain ⟨a, hs⟩ := hs
    rw [hs] at hmr ⊢
    have ha := J16 hmr a List.mem_cons_self
    have hb := (J7E (D := D) (S := []) U.length a.toNat (by omega) rfl).2
    rw [Int.toNat_of_nonneg ha.1] at hb
    exact hb
  refine Int.le_antisymm ?_ hre
  by_cases hn : k = (U.length : Int)
  · rw [show U.length - k.toNat = 0 by omega]
    exact Jbu (s := J1k U.length) (by have := hrr; rw [show U.length - k.toNat = 0 by omega] at this; exact this) (J1y _) hmr hmp
  obtain ⟨a, ha, hna⟩ := J96 (S := Jl U D k) (n := U.length) (by omega)
  have hn2 : (a : Int) ∉ Jl U D k := fun hm => by rw [List.contains_iff_mem.2 hm] at hna; cases hna
  rw [show U.length - k.toNat = 1 by omega]
  show J4 D (Jf (J1k U.length) (rvB D (J1k U.length))) ≤ _
  have hb := J9r D (J1k U.length) (J1k U.length).length a (by rw [J1y]; exact ha)
  rw [J9h ha] at hb
  exact Int.le_trans hb (J5c fun j _ => J5o hmp (fun x hx => J0W.2 ⟨J9K (by have := J16 hmr x hx; omega), fun (e : x = (a : Int)) => hn2 (by rw [← e]; exact hx)⟩) j)
theorem Jck {U : ZI} {D : ZR} {i : Nat} (h1 : 1 ≤ i) (h2 : i < (J9 U D).length) : (J9 U D).getD i 0 ≤ (J9 U D).getD (i - 1) 0 := by
  unfold J9 at h2 ⊢
  split
  · rename_i h
    rw [if_pos h, J3f] at h2
    exact JbH h h1 h2
  exact Int.le_refl _
abbrev l_FnMedians_JJ0 (code : List Nat) (kk : Int) (Oz : ZI) (Dz : ZR) (i : Int) : Prop := (1 ≤ i) ∧ (i ≤ max 1 ((J9 Oz Dz).length : Int))
abbrev l_FnMedians_mJ0 (code : List Nat) (kk : Int) (Oz : ZI) (Dz : ZR) (i : Int) : Nat := ((J9 Oz Dz).length - i).toNat
abbrev l_FnMedians_JR3 (code : List Nat) (kk : Int) (Oz : ZI) (Dz : ZR) : Prop := True
def l_FnMedians_C (f : FuncId) (ds : List D) : Orc := bif Nat.beq f 28 then JaE ds else bif Nat.beq f 45 then J80 ds else bif Nat.beq f 46 then J7X ds else bif Nat.beq f 32 then Ja5 ds else bif Nat.beq f 39 then J5D ds else bif Nat.beq f 47 then J61 ds else bif Nat.beq f 48 then J5e ds else bif Nat.beq f 49 then J4W ds else bif Nat.beq f 50 then J4J ds else bif Nat.beq f 51 then J4B ds else bif Nat.beq f 52 then J65 ds else bif Nat.beq f 53 then J62 ds else bif Nat.beq f 38 then J7C ds else bif Nat.beq f 54 then J8M ds else .no
def l_FnMedians_A (code : List Nat) : Ann := .two (.none) (.two (.none) (.cut (.exr (.ex [] 1 (J2j code) (fun g => (fun (Or3 : ZI) (Dsr3 : ZR) (kkr3 : Int) => .ms [] []) (g.1) (g.2.1) (g.2.2)))) (cut3 (fun (kk : Int) (Oz : ZI) (Dz : ZR) => l_FnMedians_JR3 code kk Oz Dz) (fun (kk : Int) (Oz : ZI) (Dz : ZR) => [(3, .ptr 3 0), (4, .d true (.int .i64 kk))]) (fun (kk : Int) (Oz : ZI) (Dz : ZR) => [(3, .box 27 [.d true (.sl (.ints Oz)), .d true (.sl (.rows Dz))])])) (fun g => (fun (kk : Int) (Oz : ZI) (Dz : ZR) => .two (.none) (.two (.none) (.two (.none) (.two (.none) (.two (.none) (.two (.none) (.two (.none) (.two (.none) (.two (.none) (.two (.none) (.two (.two (.none) (.loop (cut1 (fun (i : Int) => l_FnMedians_JJ0 code kk Oz Dz i) (fun (i : Int) => [(3, .ptr 3 0), (4, .d true (.int .i64 kk)), (5, .d true (.sl (.ints (Jc Oz Dz kk)))), (6, .d true (.bool (J0 Oz Dz && inB kk 1 (Oz.length : Int)))), (9, .d true (.int .i64 (Jh Oz Dz kk))), (13, .own 88 ((gmL Oz Dz kk).length)), (17, .own 114 ((rvL Oz Dz kk).length)), (21, .own 139 ((J9 Oz Dz).length)), (25, .d true (.int .i64 i))]) (fun (i : Int) => [(3, .box 27 [.d true (.sl (.ints Oz)), .d true (.sl (.rows Dz))]), (88, .arr true 3 (.ints (gmL Oz Dz kk))), (114, .arr true 3 (.ints (rvL Oz Dz kk))), (139, .arr true 3 (.ints (J9 Oz Dz)))])) (fun g => l_FnMedians_mJ0 code kk Oz Dz g) (fun _ => .none))) (.none)))))))))))) (g.1) (g.2.1) (g.2.2))))
def l_FnMedians_e3 (kk : Int) (Oz : ZI) (Dz : ZR) : Bool := (cond ((J0 Oz Dz && inB kk 1 (Oz.length : Int)) != (J0 Oz Dz && inB kk 1 (Oz.length : Int))) true ((J0 Oz Dz && inB kk 1 (Oz.length : Int)) != (J0 Oz Dz && inB kk 1 (Oz.length : Int))))
def l_FnMedians_e4 (kk : Int) (Oz : ZI) (Dz : ZR) : Bool := (cond (decide (kk > 1)) true ((if (J0 Oz Dz && J5 (srt (gmL Oz Dz kk)) 0 ((Oz.length : Int) - 1) && decide (0 < (srt (gmL Oz Dz kk)).length)) = true then J4 Dz (srt (gmL Oz Dz kk)) else 0) == (Jh Oz Dz kk)))
def l_FnMedians_e8 (kk : Int) (Oz : ZI) (Dz : ZR) : Bool := (cond (!(J0 Oz Dz && J5 (Jc Oz Dz kk) 0 ((Oz.length : Int) - 1) && decide (0 < (Jc Oz Dz kk).length))) true (!(J0 Oz Dz && J5 (srt (gmL Oz Dz kk)) 0 ((Oz.length : Int) - 1) && decide (0 < (srt (gmL Oz Dz kk)).length))))
def l_FnMedians_e2 (kk : Int) (Oz : ZI) (Dz : ZR) : Bool := (cond (l_FnMedians_e8 kk Oz Dz) true (!(J0 Oz Dz && J5 (rvL Oz Dz kk) 0 ((Oz.length : Int) - 1) && decide (0 < (rvL Oz Dz kk).length))))
def l_FnMedians_e6 (kk : Int) (Oz : ZI) (Dz : ZR) : Bool := (cond (cond (l_FnMedians_e2 kk Oz Dz) true ((((Jc Oz Dz kk).length) : Int) != kk)) true ((((gmL Oz Dz kk).length) : Int) != kk))
def l_FnMedians_e7 (kk : Int) (Oz : ZI) (Dz : ZR) : Bool := (cond (cond (l_FnMedians_e6 kk Oz Dz) true ((((rvL Oz Dz kk).length) : Int) != kk)) true ((if (J0 Oz Dz && J5 (Jc Oz Dz kk) 0 ((Oz.length : Int) - 1) && decide (0 < (Jc Oz Dz kk).length)) = true then J4 Dz (Jc Oz Dz kk) else 0) != (Jh Oz Dz kk)))
def l_FnMedians_e1 (kk : Int) (Oz : ZI) (Dz : ZR) : Bool := (cond (l_FnMedians_e7 kk Oz Dz) true (decide ((if (J0 Oz Dz && J5 (srt (gmL Oz Dz kk)) 0 ((Oz.length : Int) - 1) && decide (0 < (srt (gmL Oz Dz kk)).length)) = true then J4 Dz (srt (gmL Oz Dz kk)) else 0) < (Jh Oz Dz kk))))
def l_FnMedians_e5 (kk : Int) (Oz : ZI) (Dz : ZR) : Bool := (cond (l_FnMedians_e1 kk Oz Dz) true (decide ((if (J0 Oz Dz && J5 (rvL Oz Dz kk) 0 ((Oz.length : Int) - 1) && decide (0 < (rvL Oz Dz kk).length)) = true then J4 Dz (rvL Oz Dz kk) else 0) < (Jh Oz Dz kk))))
def l_FnMedians_e9 (kk : Int) (Oz : ZI) (Dz : ZR) : Bool := (cond ((Jh Oz Dz kk) != (Jh Oz Dz kk)) true ((J0 Oz Dz && inB kk 1 (Oz.length : Int)) != (J0 Oz Dz && inB kk 1 (Oz.length : Int))))
def l_FnMedians_e10 (kk : Int) (Oz : ZI) (Dz : ZR) : Bool := (cond ((J0 Oz Dz && inB kk 1 (Oz.length : Int)) != (J0 Oz Dz && inB kk 1 (Oz.length : Int))) true (!((Jc Oz Dz kk) == (Jc Oz Dz kk))))
set_option maxRecDepth 100000 in
def l_FnMedians_P (code : List Nat) : Prop :=
  (PC Tryz.prog 28 [.sl (.bytes code)] (.one (.d (.bool (decide ((code.length : Int) > 65536)))))) ∧ (((decide ((code.length : Int) > 65536)) = true → ((true = true))) ∧ ((decide ((code.length : Int) > 65536)) = false → (((PE Tryz.prog 44 [.sl (.bytes code)] (J2j code)) ∧ (∀ Or3 : ZI, ∀ Dsr3 : ZR, ∀ kkr3 : Int, J2s code Or3 Dsr3 kkr3 → ((true = true) ∧ (∃ kk' : Int, ∃ Oz' : ZI, ∃ Dz' : ZR, (l_FnMedians_JR3 code kk' Oz' Dz') ∧ (kkr3 = kk') ∧ (Or3 = Oz') ∧ (Dsr3 = Dz'))))) ∧ (∀ kk : Int, ∀ Oz : ZI, ∀ Dz : ZR, (l_FnMedians_JR3 code kk Oz Dz) → (PC Tryz.prog 45 [.agg [.sl (.ints Oz), .sl (.rows Dz)], .int .i64 kk] (.tup [.d (.sl (.ints (Jc Oz Dz kk))), .d (.bool (J0 Oz Dz && inB kk 1 (Oz.length : Int)))])) ∧ (PC Tryz.prog 46 [.agg [.sl (.ints Oz), .sl (.rows Dz)], .int .i64 kk] (.tup [.d (.sl (.ints (Jc Oz Dz kk))), .d (.bool (J0 Oz Dz && inB kk 1 (Oz.length : Int)))])) ∧ ((!((J0 Oz Dz && inB kk 1 (Oz.length : Int)) != (J0 Oz Dz && inB kk 1 (Oz.length : Int)))) = true → (!((J0 Oz Dz && inB kk 1 (Oz.length : Int)) != (J0 Oz Dz && inB kk 1 (Oz.length : Int)))) = true) ∧ ((!((J0 Oz Dz && inB kk 1 (Oz.length : Int)) != (J0 Oz Dz && inB kk 1 (Oz.length : Int)))) = true → (!((J0 Oz Dz && inB kk 1 (Oz.length : Int)) != (J0 Oz Dz && inB kk 1 (Oz.length : Int)))) = true) ∧ ((!((J0 Oz Dz && inB kk 1 (Oz.length : Int)) != (J0 Oz Dz && inB kk 1 (Oz.length : Int)))) = true → PC Tryz.prog 32 [.sl (.ints (Jc Oz Dz kk)), .sl (.ints (Jc Oz Dz kk))] (.one (.d (.bool ((Jc Oz Dz kk) == (Jc Oz Dz kk)))))) ∧ ((!((J0 Oz Dz && inB kk 1 (Oz.length : Int)) != (J0 Oz Dz && inB kk 1 (Oz.length : Int)))) = true → (!((J0 Oz Dz && inB kk 1 (Oz.length : Int)) != (J0 Oz Dz && inB kk 1 (Oz.length : Int)))) = true) ∧ (true = true) ∧ ((((J0 Oz Dz && inB kk 1 (Oz.length : Int)) != (J0 Oz Dz && inB kk 1 (Oz.length : Int))) = true → true = true)) ∧ ((((J0 Oz Dz && inB kk 1 (Oz.length : Int)) != (J0 Oz Dz && inB kk 1 (Oz.length : Int))) = false → (!((J0 Oz Dz && inB kk 1 (Oz.length : Int)) != (J0 Oz Dz && inB kk 1 (Oz.length : Int)))) = true)) ∧ (((l_FnMedians_e10 kk Oz Dz) = true → ((false = true))) ∧ ((l_FnMedians_e10 kk Oz Dz) = false → (PC Tryz.prog 39 [.agg [.sl (.ints Oz), .sl (.rows Dz)], .int .i64 kk] (.tup [.d (.int .i64 (Jh Oz Dz kk)), .d (.bool (J0 Oz Dz && inB kk 1 (Oz.length : Int)))])) ∧ (PC Tryz.prog 47 [.agg [.sl (.ints Oz), .sl (.rows Dz)], .int .i64 kk] (.tup [.d (.int .i64 (Jh Oz Dz kk)), .d (.bool (J0 Oz Dz && inB kk 1 (Oz.length : Int)))])) ∧ ((!((Jh Oz Dz kk) != (Jh Oz Dz kk))) = true → (!((Jh Oz Dz kk) != (Jh Oz Dz kk))) = true) ∧ ((!((Jh Oz Dz kk) != (Jh Oz Dz kk))) = true → (!((Jh Oz Dz kk) != (Jh Oz Dz kk))) = true) ∧ (true = true) ∧ ((((Jh Oz Dz kk) != (Jh Oz Dz kk)) = true → true = true)) ∧ ((((Jh Oz Dz kk) != (Jh Oz Dz kk)) = false → (!((Jh Oz Dz kk) != (Jh Oz Dz kk))) = true)) ∧ ((!(l_FnMedians_e9 kk Oz Dz)) = true → (!(l_FnMedians_e9 kk Oz Dz)) = true) ∧ ((!(l_FnMedians_e9 kk Oz Dz)) = true → (!(l_FnMedians_e9 kk Oz Dz)) = true) ∧ (true = true) ∧ (((l_FnMedians_e9 kk Oz Dz) = true → true = true)) ∧ (((l_FnMedians_e9 kk Oz Dz) = false → (!(l_FnMedians_e9 kk Oz Dz)) = true)) ∧ (((cond (l_FnMedians_e9 kk Oz Dz) true ((J0 Oz Dz && inB kk 1 (Oz.length : Int)) != (J0 Oz Dz && inB kk 1 (Oz.length : Int)))) = true → ((false = true))) ∧ ((cond (l_FnMedians_e9 kk Oz Dz) true ((J0 Oz Dz && inB kk 1 (Oz.length : Int)) != (J0 Oz Dz && inB kk 1 (Oz.length : Int)))) = false → (PC Tryz.prog 48 [.agg [.sl (.ints Oz), .sl (.rows Dz)], .int .i64 kk] (.tup [.own 3 (.ints (gmL Oz Dz kk)), .d (.bool (J0 Oz Dz && inB kk 1 (Oz.length : Int)))])) ∧ (PC Tryz.prog 49 [.agg [.sl (.ints Oz), .sl (.rows Dz)], .int .i64 kk] (.tup [.own 3 (.ints (gmL Oz Dz kk)), .d (.bool (J0 Oz Dz && inB kk 1 (Oz.length : Int)))])) ∧ ((!((J0 Oz Dz && inB kk 1 (Oz.length : Int)) != (J0 Oz Dz && inB kk 1 (Oz.length : Int)))) = true → (!((J0 Oz Dz && inB kk 1 (Oz.length : Int)) != (J0 Oz Dz && inB kk 1 (Oz.length : Int)))) = true) ∧ ((!((J0 Oz Dz && inB kk 1 (Oz.length : Int)) != (J0 Oz Dz && inB kk 1 (Oz.length : Int)))) = true → (!((J0 Oz Dz && inB kk 1 (Oz.length : Int)) != (J0 Oz Dz && inB kk 1 (Oz.length : Int)))) = true) ∧ (true = true) ∧ ((((J0 Oz Dz && inB kk 1 (Oz.length : Int)) != (J0 Oz Dz && inB kk 1 (Oz.length : Int))) = true → true = true)) ∧ ((((J0 Oz Dz && inB kk 1 (Oz.length : Int)) != (J0 Oz Dz && inB kk 1 (Oz.length : Int))) = false → (!((J0 Oz Dz && inB kk 1 (Oz.length : Int)) != (J0 Oz Dz && inB kk 1 (Oz.length : Int)))) = true)) ∧ ((!(l_FnMedians_e3 kk Oz Dz)) = true → (!(l_FnMedians_e3 kk Oz Dz)) = true) ∧ ((!(l_FnMedians_e3 kk Oz Dz)) = true → (!(l_FnMedians_e3 kk Oz Dz)) = true) ∧ (((!(l_FnMedians_e3 kk Oz Dz)) = true → (gmL Oz Dz kk).length = (gmL Oz Dz kk).length)) ∧ (((!(l_FnMedians_e3 kk Oz Dz)) = true → (gmL Oz Dz kk).length = (gmL Oz Dz kk).length)) ∧ ((!(l_FnMedians_e3 kk Oz Dz)) = true → PC Tryz.prog 32 [.sl (.ints (gmL Oz Dz kk)), .sl (.ints (gmL Oz Dz kk))] (.one (.d (.bool ((gmL Oz Dz kk) == (gmL Oz Dz kk)))))) ∧ ((!(l_FnMedians_e3 kk Oz Dz)) = true → (!(l_FnMedians_e3 kk Oz Dz)) = true) ∧ (true = true) ∧ (((l_FnMedians_e3 kk Oz Dz) = true → true = true)) ∧ (((l_FnMedians_e3 kk Oz Dz) = false → (!(l_FnMedians_e3 kk Oz Dz)) = true)) ∧ (((cond (l_FnMedians_e3 kk Oz Dz) true (!((gmL Oz Dz kk) == (gmL Oz Dz kk)))) = true → ((false = true))) ∧ ((cond (l_FnMedians_e3 kk Oz Dz) true (!((gmL Oz Dz kk) == (gmL Oz Dz kk)))) = false → (PC Tryz.prog 50 [.agg [.sl (.ints Oz), .sl (.rows Dz)], .int .i64 kk] (.tup [.own 3 (.ints (rvL Oz Dz kk)), .d (.bool (J0 Oz Dz && inB kk 1 (Oz.length : Int)))])) ∧ (PC Tryz.prog 51 [.agg [.sl (.ints Oz), .sl (.rows Dz)], .int .i64 kk] (.tup [.own 3 (.ints (rvL Oz Dz kk)), .d (.bool (J0 Oz Dz && inB kk 1 (Oz.length : Int)))])) ∧ ((!((J0 Oz Dz && inB kk 1 (Oz.length : Int)) != (J0 Oz Dz && inB kk 1 (Oz.length : Int)))) = true → (!((J0 Oz Dz && inB kk 1 (Oz.length : Int)) != (J0 Oz Dz && inB kk 1 (Oz.length : Int)))) = true) ∧ ((!((J0 Oz Dz && inB kk 1 (Oz.length : Int)) != (J0 Oz Dz && inB kk 1 (Oz.length : Int)))) = true → (!((J0 Oz Dz && inB kk 1 (Oz.length : Int)) != (J0 Oz Dz && inB kk 1 (Oz.length : Int)))) = true) ∧ (true = true) ∧ ((((J0 Oz Dz && inB kk 1 (Oz.length : Int)) != (J0 Oz Dz && inB kk 1 (Oz.length : Int))) = true → true = true)) ∧ ((((J0 Oz Dz && inB kk 1 (Oz.length : Int)) != (J0 Oz Dz && inB kk 1 (Oz.length : Int))) = false → (!((J0 Oz Dz && inB kk 1 (Oz.length : Int)) != (J0 Oz Dz && inB kk 1 (Oz.length : Int)))) = true)) ∧ ((!(l_FnMedians_e3 kk Oz Dz)) = true → (!(l_FnMedians_e3 kk Oz Dz)) = true) ∧ ((!(l_FnMedians_e3 kk Oz Dz)) = true → (!(l_FnMedians_e3 kk Oz Dz)) = true) ∧ (((!(l_FnMedians_e3 kk Oz Dz)) = true → (rvL Oz Dz kk).length = (rvL Oz Dz kk).length)) ∧ (((!(l_FnMedians_e3 kk Oz Dz)) = true → (rvL Oz Dz kk).length = (rvL Oz Dz kk).length)) ∧ ((!(l_FnMedians_e3 kk Oz Dz)) = true → PC Tryz.prog 32 [.sl (.ints (rvL Oz Dz kk)), .sl (.ints (rvL Oz Dz kk))] (.one (.d (.bool ((rvL Oz Dz kk) == (rvL Oz Dz kk)))))) ∧ ((!(l_FnMedians_e3 kk Oz Dz)) = true → (!(l_FnMedians_e3 kk Oz Dz)) = true) ∧ (true = true) ∧ (((l_FnMedians_e3 kk Oz Dz) = true → true = true)) ∧ (((l_FnMedians_e3 kk Oz Dz) = false → (!(l_FnMedians_e3 kk Oz Dz)) = true)) ∧ (((cond (l_FnMedians_e3 kk Oz Dz) true (!((rvL Oz Dz kk) == (rvL Oz Dz kk)))) = true → ((false = true))) ∧ ((cond (l_FnMedians_e3 kk Oz Dz) true (!((rvL Oz Dz kk) == (rvL Oz Dz kk)))) = false → (PC Tryz.prog 52 [.agg [.sl (.ints Oz), .sl (.rows Dz)]] (.tup [.own 3 (.ints (J9 Oz Dz)), .d (.bool (J0 Oz Dz))])) ∧ (PC Tryz.prog 53 [.agg [.sl (.ints Oz), .sl (.rows Dz)]] (.tup [.own 3 (.ints (J9 Oz Dz)), .d (.bool (J0 Oz Dz))])) ∧ ((!((J0 Oz Dz) != (J0 Oz Dz))) = true → (!((J0 Oz Dz) != (J0 Oz Dz))) = true) ∧ ((!((J0 Oz Dz) != (J0 Oz Dz))) = true → (!((J0 Oz Dz) != (J0 Oz Dz))) = true) ∧ (((!((J0 Oz Dz) != (J0 Oz Dz))) = true → (J9 Oz Dz).length = (J9 Oz Dz).length)) ∧ (((!((J0 Oz Dz) != (J0 Oz Dz))) = true → (J9 Oz Dz).length = (J9 Oz Dz).length)) ∧ ((!((J0 Oz Dz) != (J0 Oz Dz))) = true → PC Tryz.prog 32 [.sl (.ints (J9 Oz Dz)), .sl (.ints (J9 Oz Dz))] (.one (.d (.bool ((J9 Oz Dz) == (J9 Oz Dz)))))) ∧ ((!((J0 Oz Dz) != (J0 Oz Dz))) = true → (!((J0 Oz Dz) != (J0 Oz Dz))) = true) ∧ (true = true) ∧ ((((J0 Oz Dz) != (J0 Oz Dz)) = true → true = true)) ∧ ((((J0 Oz Dz) != (J0 Oz Dz)) = false → (!((J0 Oz Dz) != (J0 Oz Dz))) = true)) ∧ (((cond ((J0 Oz Dz) != (J0 Oz Dz)) true (!((J9 Oz Dz) == (J9 Oz Dz)))) = true → ((false = true))) ∧ ((cond ((J0 Oz Dz) != (J0 Oz Dz)) true (!((J9 Oz Dz) == (J9 Oz Dz)))) = false → ((∃ i' : Int, (l_FnMedians_JJ0 code kk Oz Dz i') ∧ (kk = kk) ∧ ((Jc Oz Dz kk) = (Jc Oz Dz kk)) ∧ ((J0 Oz Dz && inB kk 1 (Oz.length : Int)) = (J0 Oz Dz && inB kk 1 (Oz.length : Int))) ∧ ((Jh Oz Dz kk) = (Jh Oz Dz kk)) ∧ ((gmL Oz Dz kk).length = (gmL Oz Dz kk).length) ∧ ((rvL Oz Dz kk).length = (rvL Oz Dz kk).length) ∧ ((J9 Oz Dz).length = (J9 Oz Dz).length) ∧ ((1 : Int) = i') ∧ (Oz = Oz) ∧ (Dz = Dz) ∧ (gmL Oz Dz kk = gmL Oz Dz kk) ∧ (rvL Oz Dz kk = rvL Oz Dz kk) ∧ (J9 Oz Dz = J9 Oz Dz)) ∧ (∀ i : Int, (l_FnMedians_JJ0 code kk Oz Dz i) → (((decide (i < (((J9 Oz Dz).length) : Int))) = true → (true = true) ∧ ((0 : Int) ≤ i) ∧ ((i : Int) < (((J9 Oz Dz).length) : Int)) ∧ (i.toNat < (J9 Oz Dz).length) ∧ (-9223372036854775808 ≤ (i - 1) ∧ (i - 1) ≤ 9223372036854775807) ∧ ((0 : Int) ≤ (i - 1)) ∧ (((i - 1) : Int) < (((J9 Oz Dz).length) : Int)) ∧ ((i - 1).toNat < (J9 Oz Dz).length) ∧ (((decide (((J9 Oz Dz).getD i.toNat 0) > ((J9 Oz Dz).getD ((i - 1).toNat) 0))) = true → ((false = true))) ∧ ((decide (((J9 Oz Dz).getD i.toNat 0) > ((J9 Oz Dz).getD ((i - 1).toNat) 0))) = false → (-9223372036854775808 ≤ (i + 1) ∧ (i + 1) ≤ 9223372036854775807) ∧ (∃ i' : Int, (l_FnMedians_JJ0 code kk Oz Dz i') ∧ (l_FnMedians_mJ0 code kk Oz Dz i' < l_FnMedians_mJ0 code kk Oz Dz i) ∧ (kk = kk) ∧ ((Jc Oz Dz kk) = (Jc Oz Dz kk)) ∧ ((J0 Oz Dz && inB kk 1 (Oz.length : Int)) = (J0 Oz Dz && inB kk 1 (Oz.length : Int))) ∧ ((Jh Oz Dz kk) = (Jh Oz Dz kk)) ∧ ((gmL Oz Dz kk).length = (gmL Oz Dz kk).length) ∧ ((rvL Oz Dz kk).length = (rvL Oz Dz kk).length) ∧ ((J9 Oz Dz).length = (J9 Oz Dz).length) ∧ ((i + 1) = i') ∧ (Oz = Oz) ∧ (Dz = Dz) ∧ (gmL Oz Dz kk = gmL Oz Dz kk) ∧ (rvL Oz Dz kk = rvL Oz Dz kk) ∧ (J9 Oz Dz = J9 Oz Dz))))) ∧ ((decide (i < (((J9 Oz Dz).length) : Int))) = false → (((!(J0 Oz Dz && inB kk 1 (Oz.length : Int))) = true → ((true = true))) ∧ ((!(J0 Oz Dz && inB kk 1 (Oz.length : Int))) = false → (PC Tryz.prog 38 [.agg [.sl (.ints Oz), .sl (.rows Dz)], .sl (.ints (Jc Oz Dz kk))] (.tup [.d (.int .i64 (if (J0 Oz Dz && J5 (Jc Oz Dz kk) 0 ((Oz.length : Int) - 1) && decide (0 < (Jc Oz Dz kk).length)) = true then J4 Dz (Jc Oz Dz kk) else 0)), .d (.bool (J0 Oz Dz && J5 (Jc Oz Dz kk) 0 ((Oz.length : Int) - 1) && decide (0 < (Jc Oz Dz kk).length)))])) ∧ (true = true) ∧ ((gmL Oz Dz kk).length = (gmL Oz Dz kk).length) ∧ (PC Tryz.prog 54 [.sl (.ints (gmL Oz Dz kk))] (.one (.own 3 (.ints (srt (gmL Oz Dz kk)))))) ∧ ((srt (gmL Oz Dz kk)).length = (srt (gmL Oz Dz kk)).length) ∧ (PC Tryz.prog 38 [.agg [.sl (.ints Oz), .sl (.rows Dz)], .sl (.ints (srt (gmL Oz Dz kk)))] (.tup [.d (.int .i64 (if (J0 Oz Dz && J5 (srt (gmL Oz Dz kk)) 0 ((Oz.length : Int) - 1) && decide (0 < (srt (gmL Oz Dz kk)).length)) = true then J4 Dz (srt (gmL Oz Dz kk)) else 0)), .d (.bool (J0 Oz Dz && J5 (srt (gmL Oz Dz kk)) 0 ((Oz.length : Int) - 1) && decide (0 < (srt (gmL Oz Dz kk)).length)))])) ∧ ((rvL Oz Dz kk).length = (rvL Oz Dz kk).length) ∧ (PC Tryz.prog 38 [.agg [.sl (.ints Oz), .sl (.rows Dz)], .sl (.ints (rvL Oz Dz kk))] (.tup [.d (.int .i64 (if (J0 Oz Dz && J5 (rvL Oz Dz kk) 0 ((Oz.length : Int) - 1) && decide (0 < (rvL Oz Dz kk).length)) = true then J4 Dz (rvL Oz Dz kk) else 0)), .d (.bool (J0 Oz Dz && J5 (rvL Oz Dz kk) 0 ((Oz.length : Int) - 1) && decide (0 < (rvL Oz Dz kk).length)))])) ∧ ((!(!(J0 Oz Dz && J5 (Jc Oz Dz kk) 0 ((Oz.length : Int) - 1) && decide (0 < (Jc Oz Dz kk).length)))) = true → (!(!(J0 Oz Dz && J5 (Jc Oz Dz kk) 0 ((Oz.length : Int) - 1) && decide (0 < (Jc Oz Dz kk).length)))) = true) ∧ (true = true) ∧ (((!(J0 Oz Dz && J5 (Jc Oz Dz kk) 0 ((Oz.length : Int) - 1) && decide (0 < (Jc Oz Dz kk).length))) = true → true = true)) ∧ (((!(J0 Oz Dz && J5 (Jc Oz Dz kk) 0 ((Oz.length : Int) - 1) && decide (0 < (Jc Oz Dz kk).length))) = false → (!(!(J0 Oz Dz && J5 (Jc Oz Dz kk) 0 ((Oz.length : Int) - 1) && decide (0 < (Jc Oz Dz kk).length)))) = true)) ∧ ((!(l_FnMedians_e8 kk Oz Dz)) = true → (!(l_FnMedians_e8 kk Oz Dz)) = true) ∧ (true = true) ∧ (((l_FnMedians_e8 kk Oz Dz) = true → true = true)) ∧ (((l_FnMedians_e8 kk Oz Dz) = false → (!(l_FnMedians_e8 kk Oz Dz)) = true)) ∧ ((!(l_FnMedians_e2 kk Oz Dz)) = true → (!(l_FnMedians_e2 kk Oz Dz)) = true) ∧ ((!(l_FnMedians_e2 kk Oz Dz)) = true → (!(l_FnMedians_e2 kk Oz Dz)) = true) ∧ ((!(l_FnMedians_e2 kk Oz Dz)) = true → (!(l_FnMedians_e2 kk Oz Dz)) = true) ∧ (true = true) ∧ (((l_FnMedians_e2 kk Oz Dz) = true → true = true)) ∧ (((l_FnMedians_e2 kk Oz Dz) = false → (!(l_FnMedians_e2 kk Oz Dz)) = true)) ∧ ((!(cond (l_FnMedians_e2 kk Oz Dz) true ((((Jc Oz Dz kk).length) : Int) != kk))) = true → (!(cond (l_FnMedians_e2 kk Oz Dz) true ((((Jc Oz Dz kk).length) : Int) != kk))) = true) ∧ ((!(cond (l_FnMedians_e2 kk Oz Dz) true ((((Jc Oz Dz kk).length) : Int) != kk))) = true → (!(cond (l_FnMedians_e2 kk Oz Dz) true ((((Jc Oz Dz kk).length) : Int) != kk))) = true) ∧ ((!(cond (l_FnMedians_e2 kk Oz Dz) true ((((Jc Oz Dz kk).length) : Int) != kk))) = true → (!(cond (l_FnMedians_e2 kk Oz Dz) true ((((Jc Oz Dz kk).length) : Int) != kk))) = true) ∧ (true = true) ∧ (((cond (l_FnMedians_e2 kk Oz Dz) true ((((Jc Oz Dz kk).length) : Int) != kk)) = true → true = true)) ∧ (((cond (l_FnMedians_e2 kk Oz Dz) true ((((Jc Oz Dz kk).length) : Int) != kk)) = false → (!(cond (l_FnMedians_e2 kk Oz Dz) true ((((Jc Oz Dz kk).length) : Int) != kk))) = true)) ∧ ((!(l_FnMedians_e6 kk Oz Dz)) = true → (!(l_FnMedians_e6 kk Oz Dz)) = true) ∧ ((!(l_FnMedians_e6 kk Oz Dz)) = true → (!(l_FnMedians_e6 kk Oz Dz)) = true) ∧ ((!(l_FnMedians_e6 kk Oz Dz)) = true → (!(l_FnMedians_e6 kk Oz Dz)) = true) ∧ (true = true) ∧ (((l_FnMedians_e6 kk Oz Dz) = true → true = true)) ∧ (((l_FnMedians_e6 kk Oz Dz) = false → (!(l_FnMedians_e6 kk Oz Dz)) = true)) ∧ ((!(cond (l_FnMedians_e6 kk Oz Dz) true ((((rvL Oz Dz kk).length) : Int) != kk))) = true → (!(cond (l_FnMedians_e6 kk Oz Dz) true ((((rvL Oz Dz kk).length) : Int) != kk))) = true) ∧ ((!(cond (l_FnMedians_e6 kk Oz Dz) true ((((rvL Oz Dz kk).length) : Int) != kk))) = true → (!(cond (l_FnMedians_e6 kk Oz Dz) true ((((rvL Oz Dz kk).length) : Int) != kk))) = true) ∧ (true = true) ∧ (((cond (l_FnMedians_e6 kk Oz Dz) true ((((rvL Oz Dz kk).length) : Int) != kk)) = true → true = true)) ∧ (((cond (l_FnMedians_e6 kk Oz Dz) true ((((rvL Oz Dz kk).length) : Int) != kk)) = false → (!(cond (l_FnMedians_e6 kk Oz Dz) true ((((rvL Oz Dz kk).length) : Int) != kk))) = true)) ∧ ((!(l_FnMedians_e7 kk Oz Dz)) = true → (!(l_FnMedians_e7 kk Oz Dz)) = true) ∧ ((!(l_FnMedians_e7 kk Oz Dz)) = true → (!(l_FnMedians_e7 kk Oz Dz)) = true) ∧ (true = true) ∧ (((l_FnMedians_e7 kk Oz Dz) = true → true = true)) ∧ (((l_FnMedians_e7 kk Oz Dz) = false → (!(l_FnMedians_e7 kk Oz Dz)) = true)) ∧ ((!(l_FnMedians_e1 kk Oz Dz)) = true → (!(l_FnMedians_e1 kk Oz Dz)) = true) ∧ ((!(l_FnMedians_e1 kk Oz Dz)) = true → (!(l_FnMedians_e1 kk Oz Dz)) = true) ∧ (true = true) ∧ (((l_FnMedians_e1 kk Oz Dz) = true → true = true)) ∧ (((l_FnMedians_e1 kk Oz Dz) = false → (!(l_FnMedians_e1 kk Oz Dz)) = true)) ∧ ((!(l_FnMedians_e5 kk Oz Dz)) = true → (!(l_FnMedians_e5 kk Oz Dz)) = true) ∧ (((!(l_FnMedians_e5 kk Oz Dz)) = true → -9223372036854775808 ≤ (kk - 1) ∧ (kk - 1) ≤ 9223372036854775807)) ∧ ((!(l_FnMedians_e5 kk Oz Dz)) = true → (!(l_FnMedians_e5 kk Oz Dz)) = true) ∧ ((!(l_FnMedians_e5 kk Oz Dz)) = true → (!(l_FnMedians_e5 kk Oz Dz)) = true) ∧ (((!(l_FnMedians_e5 kk Oz Dz)) = true → (0 : Int) ≤ (kk - 1))) ∧ (((!(l_FnMedians_e5 kk Oz Dz)) = true → ((kk - 1) : Int) < (((J9 Oz Dz).length) : Int))) ∧ ((!(l_FnMedians_e5 kk Oz Dz)) = true → (!(l_FnMedians_e5 kk Oz Dz)) = true) ∧ (((!(l_FnMedians_e5 kk Oz Dz)) = true → (kk - 1).toNat < (J9 Oz Dz).length)) ∧ ((!(l_FnMedians_e5 kk Oz Dz)) = true → (!(l_FnMedians_e5 kk Oz Dz)) = true) ∧ ((!(l_FnMedians_e5 kk Oz Dz)) = true → (!(l_FnMedians_e5 kk Oz Dz)) = true) ∧ (true = true) ∧ (((l_FnMedians_e5 kk Oz Dz) = true → true = true)) ∧ (((l_FnMedians_e5 kk Oz Dz) = false → (!(l_FnMedians_e5 kk Oz Dz)) = true)) ∧ (((cond (l_FnMedians_e5 kk Oz Dz) true (((J9 Oz Dz).getD ((kk - 1).toNat) 0) != (Jh Oz Dz kk))) = true → ((false = true))) ∧ ((cond (l_FnMedians_e5 kk Oz Dz) true (((J9 Oz Dz).getD ((kk - 1).toNat) 0) != (Jh Oz Dz kk))) = false → ((!(decide (kk > 1))) = true → (!(decide (kk > 1))) = true) ∧ ((!(decide (kk > 1))) = true → (!(decide (kk > 1))) = true) ∧ (true = true) ∧ (((decide (kk > 1)) = true → true = true)) ∧ (((decide (kk > 1)) = false → (!(decide (kk > 1))) = true)) ∧ ((l_FnMedians_e4 kk Oz Dz) = true → (l_FnMedians_e4 kk Oz Dz) = true) ∧ ((l_FnMedians_e4 kk Oz Dz) = true → (l_FnMedians_e4 kk Oz Dz) = true) ∧ ((l_FnMedians_e4 kk Oz Dz) = true → (l_FnMedians_e4 kk Oz Dz) = true) ∧ (((l_FnMedians_e4 kk Oz Dz) = true → -9223372036854775808 ≤ ((Oz.length : Int) - 1) ∧ ((Oz.length : Int) - 1) ≤ 9223372036854775807)) ∧ ((l_FnMedians_e4 kk Oz Dz) = true → (l_FnMedians_e4 kk Oz Dz) = true) ∧ ((l_FnMedians_e4 kk Oz Dz) = true → (l_FnMedians_e4 kk Oz Dz) = true) ∧ ((l_FnMedians_e4 kk Oz Dz) = true → (l_FnMedians_e4 kk Oz Dz) = true) ∧ (((l_FnMedians_e4 kk Oz Dz) && (!(decide (kk < ((Oz.length : Int) - 1))))) = true → ((l_FnMedians_e4 kk Oz Dz) && (!(decide (kk < ((Oz.length : Int) - 1))))) = true) ∧ (((l_FnMedians_e4 kk Oz Dz) && (!(decide (kk < ((Oz.length : Int) - 1))))) = true → ((l_FnMedians_e4 kk Oz Dz) && (!(decide (kk < ((Oz.length : Int) - 1))))) = true) ∧ (((l_FnMedians_e4 kk Oz Dz) = true → (l_FnMedians_e4 kk Oz Dz) = true)) ∧ (((l_FnMedians_e4 kk Oz Dz) = true → (decide (kk < ((Oz.length : Int) - 1))) = true → true = true)) ∧ (((l_FnMedians_e4 kk Oz Dz) = true → (decide (kk < ((Oz.length : Int) - 1))) = false → ((l_FnMedians_e4 kk Oz Dz) && (!(decide (kk < ((Oz.length : Int) - 1))))) = true)) ∧ (true = true) ∧ (((l_FnMedians_e4 kk Oz Dz) = true → (l_FnMedians_e4 kk Oz Dz) = true)) ∧ (((l_FnMedians_e4 kk Oz Dz) = false → true = true)) ∧ (((cond (l_FnMedians_e4 kk Oz Dz) (cond (decide (kk < ((Oz.length : Int) - 1))) true ((if (J0 Oz Dz && J5 (rvL Oz Dz kk) 0 ((Oz.length : Int) - 1) && decide (0 < (rvL Oz Dz kk).length)) = true then J4 Dz (rvL Oz Dz kk) else 0) == (Jh Oz Dz kk))) false) = true))))))))))))))))))))))))
set_option maxRecDepth 100000 in
theorem l_FnMedians_vc (code : List Nat) (hb : ∀ x9 ∈ code, x9 < 256) (w_code : (code.length : Int) ≤ 9223372036854775807) : l_FnMedians_P code := by
  unfold l_FnMedians_P l_FnMedians_e10 l_FnMedians_e9 l_FnMedians_e5 l_FnMedians_e1 l_FnMedians_e7 l_FnMedians_e6 l_FnMedians_e2 l_FnMedians_e8 l_FnMedians_e4 l_FnMedians_e3
  refine ⟨JbJ code, ?_, ?_⟩
  ·intro b1
   try simp only [nrmT] at b1
   exact rfl
  intro b2
  try simp only [nrmT] at b2
  refine ⟨?_, ?_⟩
  ·refine ⟨?_, ?_⟩
   ·refine J5A code ?_
    ·exact hb
   ·intro Or3 Dsr3 kkr3 hQ9
    refine ⟨rfl, ?_⟩
    ·refine ⟨kkr3, Or3, Dsr3, ?_⟩
     refine ⟨?_, rfl, rfl, rfl⟩
     ·trivial
  intro kk Oz Dz hJ
  refine ⟨J8F Oz Dz kk, J8U Oz Dz kk, id, id, fun _ => J3D (Jc Oz Dz kk) (Jc Oz Dz kk), id, rfl, fun _ => rfl, ?_, ?_, ?_⟩
  ·(simp_all; done)
  ·intro b3
   (simp_all; done)
  intro b4
  refine ⟨J6X Oz Dz kk, J6U Oz Dz kk, id, id, rfl, fun _ => rfl, ?_, id, id, rfl, fun _ => rfl, ?_, ?_, ?_⟩
  ·(simp_all; done)
  ·(simp_all; done)
  ·intro b5
   (simp_all; done)
  intro b6
  refine ⟨J5O Oz Dz kk, J5Q Oz Dz kk, id, id, rfl, fun _ => rfl, ?_, id, id, fun _ => rfl, fun _ => rfl, fun _ => J3D (gmL Oz Dz kk) (gmL Oz Dz kk), id, rfl, fun _ => rfl, ?_, ?_, ?_⟩
  ·(simp_all; done)
  ·(simp_all; done)
  ·intro b7
   (simp_all; done)
  intro b8
  refine ⟨J5d Oz Dz kk, J5i Oz Dz kk, id, id, rfl, fun _ => rfl, ?_, id, id, fun _ => rfl, fun _ => rfl, fun _ => J3D (rvL Oz Dz kk) (rvL Oz Dz kk), id, rfl, fun _ => rfl, ?_, ?_, ?_⟩
  ·(simp_all; done)
  ·(simp_all; done)
  ·intro b9
   (simp_all; done)
  intro b10
  refine ⟨J6O Oz Dz, J6m Oz Dz, id, id, fun _ => rfl, fun _ => rfl, fun _ => J3D (J9 Oz Dz) (J9 Oz Dz), id, rfl, fun _ => rfl, ?_, ?_, ?_⟩
  ·(simp_all; done)
  ·intro b11
   (simp_all; done)
  intro b12
  refine ⟨?_, ?_⟩
  ·refine ⟨1, ?_⟩
   refine ⟨?_, rfl, rfl, rfl, rfl, rfl, rfl, rfl, rfl, rfl, rfl, rfl, rfl, rfl⟩
   ·refine ⟨?_, ?_⟩
    ·omega
    ·omega
  intro i hJ
  obtain ⟨h1, h2⟩ := hJ
  refine ⟨?_, ?_⟩
  ·intro b13
   try simp only [nrmT] at b13
   refine ⟨rfl, ?_, ?_, ?_, ?_, ?_, ?_, ?_, ?_, ?_⟩
   ·omega
   ·omega
   ·omega
   ·have := @J7k Oz Dz
    omega
   ·omega
   ·omega
   ·omega
   ·intro b14
    try simp only [nrmT] at b14
    exfalso
    have := Jck (U := Oz) (D := Dz) (i := i.toNat) (by omega) (by omega)
    rw [show (i - 1).toNat = i.toNat - 1 by omega] at b14
    omega
   intro b15
   try simp only [nrmT] at b15
   refine ⟨?_, ?_⟩
   ·have := @J7k Oz Dz
    omega
   refine ⟨(i + 1), ?_⟩
   refine ⟨?_, ?_, rfl, rfl, rfl, rfl, rfl, rfl, rfl, rfl, rfl, rfl, rfl, rfl, rfl⟩
   ·refine ⟨?_, ?_⟩
    ·omega
    ·omega
   (simp only [l_FnMedians_mJ0]; omega)
  intro b16
  try simp only [nrmT] at b16
  refine ⟨?_, ?_⟩
  ·intro b17
   try simp only [Bool.not_eq_true', Bool.not_eq_false', Bool.not_not] at b17
   exact rfl
  intro b18
  try simp only [Bool.not_eq_true', Bool.not_eq_false', Bool.not_not] at b18
  refine ⟨J31 Oz Dz (Jc Oz Dz kk), rfl, rfl, J9k (gmL Oz Dz kk), rfl, J31 Oz Dz (srt (gmL Oz Dz kk)), rfl, J31 Oz Dz (rvL Oz Dz kk), id, rfl, fun _ => rfl, ?_, id, rfl, fun _ => rfl, ?_, id, id, id, rfl, fun _ => rfl, ?_, id, id, id, rfl, fun _ => rfl, ?_, id, id, id, rfl, fun _ => rfl, ?_, id, id, rfl, fun _ => rfl, ?_, id, id, rfl, fun _ => rfl, ?_, id, id, rfl, fun _ => rfl, ?_, id, ?_, id, id, ?_, ?_, id, ?_, id, id, rfl, fun _ => rfl, ?_, ?_, ?_⟩
  ·(simp_all; done)
  ·(simp_all; done)
  ·(simp_all; done)
  ·(simp_all; done)
  ·(simp_all; done)
  ·(simp_all; done)
  ·(simp_all; done)
  ·(simp_all; done)
  ·first | (obtain ⟨m1, m2, m3, m4, m5, m6, m7, m8, m9, m10, m11, m12, m13, m14, m15⟩ := J2k (U := Oz) (D := Dz) (k := kk) (by simpa using b18); have g := J2 m1; intros; omega) | first | omega | rfl | (intro hg; simp only [nrmT] at hg; omega) | (intro g1 g2; simp [g1, g2]; done) | (intro g1; simp at g1 ⊢; simp [g1]; done) | (simp only [nrmT] at *; omega) | (simp at * <;> omega) | (simp_all <;> omega) | (simp_all; done)
  ·first | (obtain ⟨m1, m2, m3, m4, m5, m6, m7, m8, m9, m10, m11, m12, m13, m14, m15⟩ := J2k (U := Oz) (D := Dz) (k := kk) (by simpa using b18); have g := J2 m1; intros; omega) | first | omega | rfl | (intro hg; simp only [nrmT] at hg; omega) | (intro g1 g2; simp [g1, g2]; done) | (intro g1; simp at g1 ⊢; simp [g1]; done) | (simp only [nrmT] at *; omega) | (simp at * <;> omega) | (simp_all <;> omega) | (simp_all; done)
  ·first | (obtain ⟨m1, m2, m3, m4, m5, m6, m7, m8, m9, m10, m11, m12, m13, m14, m15⟩ := J2k (U := Oz) (D := Dz) (k := kk) (by simpa using b18); have g := J2 m1; intros; omega) | first | omega | rfl | (intro hg; simp only [nrmT] at hg; omega) | (intro g1 g2; simp [g1, g2]; done) | (intro g1; simp at g1 ⊢; simp [g1]; done) | (simp only [nrmT] at *; omega) | (simp at * <;> omega) | (simp_all <;> omega) | (simp_all; done)
  ·first | (obtain ⟨m1, m2, m3, m4, m5, m6, m7, m8, m9, m10, m11, m12, m13, m14, m15⟩ := J2k (U := Oz) (D := Dz) (k := kk) (by simpa using b18); have g := J2 m1; intros; omega) | first | omega | rfl | (intro hg; simp only [nrmT] at hg; omega) | (intro g1 g2; simp [g1, g2]; done) | (intro g1; simp at g1 ⊢; simp [g1]; done) | (simp only [nrmT] at *; omega) | (simp at * <;> omega) | (simp_all <;> omega) | (simp_all; done)
  ·(simp_all; done)
  ·intro b19
   obtain ⟨m1, m2, m3, m4, m5, m6, m7, m8, m9, m10, m11, m12, m13, m14, m15⟩ := J2k (U := Oz) (D := Dz) (k := kk) (by simpa using b18)
   have g := J2 m1
   exfalso
   rw [if_pos m6, if_pos m7, if_pos m8, m9, m13, m6, m7, m8] at b19
   simp [m3, m4, m5] at b19
   omega
  intro b20
  refine ⟨id, id, rfl, fun _ => rfl, ?_, id, id, id, ?_, id, id, id, id, id, id, fun _ _ => rfl, ?_, rfl, id, fun _ => rfl, ?_⟩
  ·(simp_all; done)
  ·first | (obtain ⟨m1, m2, m3, m4, m5, m6, m7, m8, m9, m10, m11, m12, m13, m14, m15⟩ := J2k (U := Oz) (D := Dz) (k := kk) (by simpa using b18); have g := J2 m1; intros; omega) | first | omega | rfl | (intro hg; simp only [nrmT] at hg; omega) | (intro g1 g2; simp [g1, g2]; done) | (intro g1; simp at g1 ⊢; simp [g1]; done) | (simp only [nrmT] at *; omega) | (simp at * <;> omega) | (simp_all <;> omega) | (simp_all; done)
  ·(simp_all; done)
  obtain ⟨m1, m2, m3, m4, m5, m6, m7, m8, m9, m10, m11, m12, m13, m14, m15⟩ := J2k (U := Oz) (D := Dz) (k := kk) (by simpa using b18)
  have g := J2 m1
  rw [if_pos m7, if_pos m8]
  have a1 : kk > 1 ∨ J4 Dz (srt (gmL Oz Dz kk)) = Jh Oz Dz kk := by
    by_cases h : kk > 1
    · exact .inl h
    exact .inr (m14 (by omega))
  have a2 : kk < (Oz.length : Int) - 1 ∨ J4 Dz (rvL Oz Dz kk) = Jh Oz Dz kk := by
    by_cases h : kk < (Oz.length : Int) - 1
    · exact .inl h
    exact .inr (m15 (by omega))
  rcases a1 with h | h <;> rcases a2 with h2 | h2 <;> simp [h, h2]
theorem l_FnMedians_pc (code : List Nat) (hb : ∀ x9 ∈ code, x9 < 256) : PC Tryz.prog 5 [.sl (.bytes code)] (.one (.d (.bool true))) :=
  pc_wf @Tryz.call5 fun hw => pc_by (by kernel_rfl) Tryz.func5 @Tryz.call5 (by kernel_rfl) l_FnMedians_C (l_FnMedians_A code) (by kernel_rfl) (l_FnMedians_vc code hb hw.1) (by kernel_rfl)
end Go.Proofs.YtomnmacmlhkceaaGreat
