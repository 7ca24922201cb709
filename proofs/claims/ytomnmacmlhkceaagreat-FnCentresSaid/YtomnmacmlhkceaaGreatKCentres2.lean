/- Contracts of the functions that the law reaches. -/
import Derived.Test.YtomnmacmlhkceaaGreatKCentres1
import Derived.KernelRfl
set_option linter.unusedVariables false
set_option linter.unusedSimpArgs false
namespace Go.Proofs.YtomnmacmlhkceaaGreat
open Go

theorem Jbx (xs : ZI)  (w_xs : (xs.length : Int) ≤ 9223372036854775807) : J77 xs := by
  unfold J77
  refine ⟨?_, ?_⟩
  ·refine ⟨0, ?_⟩
   refine ⟨?_, rfl, rfl, rfl, rfl⟩
   ·refine ⟨?_, ?_, ?_⟩
    ·omega
    ·omega
    ·rfl
  intro i hJ
  obtain ⟨h1, h2, h3⟩ := hJ
  refine ⟨?_, ?_⟩
  ·intro b1
   try simp only [nrmT] at b1
   refine ⟨?_, ?_, ?_, ?_, ?_⟩
   ·omega
   ·omega
   ·omega
   ·intro b2
    try simp only [nrmT] at b2
    rw [Jdv h3 (by omega), if_neg (by omega)]
   intro b3
   try simp only [nrmT] at b3
   refine ⟨?_, ?_⟩
   ·omega
   refine ⟨(i + 1), ?_⟩
   refine ⟨?_, ?_, rfl, rfl, rfl, rfl⟩
   ·refine ⟨?_, ?_, ?_⟩
    ·omega
    ·omega
    ·rw [Jdv h3 (by omega), if_pos (by omega), show (i + 1).toNat = i.toNat + 1 by omega]
   (simp only [J1S]; omega)
  intro b4
  try simp only [nrmT] at b4
  exact (Jgw h3 (by omega)).symm
theorem Jbn (xs : ZI)  : PC Tryz.prog 231 [.sl (.ints xs)] (.one (.d (.int .i64 (orI xs)))) :=
  pc_wf @Tryz.call231 fun hw => pc_by (by kernel_rfl) Tryz.func231 @Tryz.call231 (by kernel_rfl) Jcv (Jc8 xs) (by kernel_rfl) (Jbx xs hw.1) (by kernel_rfl)
def Jas : List D → Orc := orcN [some .ints] fun ds => match ds with
  | [.sl (.ints xs)] => some (.one (.d (.int .i64 (orI xs))))
  | _ => none
def J9X (f : FuncId) (ds : List D) : Orc := bif Nat.beq f 216 then J3O ds else bif Nat.beq f 198 then J1x ds else bif Nat.beq f 231 then Jas ds else .no
def Jai (xs : ZI) (ys : ZI) : Ann := .none
def J61 (xs : ZI) (ys : ZI) : Prop :=
  (PC Tryz.prog 216 [.int .i64 (xs.length : Int), .int .i64 (ys.length : Int)] (.one (.d (.int .i64 (J18 (xs.length : Int) (ys.length : Int)))))) ∧ (PC Tryz.prog 198 [.sl (.ints xs), .sl (.ints ys)] (.one (.d (.int .i64 (Jj xs ys))))) ∧ ((2 : Nat) = 2) ∧ (PC Tryz.prog 231 [.sl (.ints ([(J18 (xs.length : Int) (ys.length : Int)), (Jj xs ys)]))] (.one (.d (.int .i64 (orI ([(J18 (xs.length : Int) (ys.length : Int)), (Jj xs ys)])))))) ∧ (((orI ([(J18 (xs.length : Int) (ys.length : Int)), (Jj xs ys)])) = (Js xs ys)))
theorem J9o (xs : ZI) (ys : ZI)  (w_xs : (xs.length : Int) ≤ 9223372036854775807) (w_ys : (ys.length : Int) ≤ 9223372036854775807) : J61 xs ys := by
  unfold J61
  refine ⟨J4k (xs.length : Int) (ys.length : Int), J1F xs ys, rfl, Jbn ([(J18 (xs.length : Int) (ys.length : Int)), (Jj xs ys)]), ?_⟩
  ·rw [Jgu]; rfl
theorem J9Q (xs : ZI) (ys : ZI)  : PC Tryz.prog 205 [.sl (.ints xs), .sl (.ints ys)] (.one (.d (.int .i64 (Js xs ys)))) :=
  pc_wf @Tryz.call205 fun hw => pc_by (by kernel_rfl) Tryz.func205 @Tryz.call205 (by kernel_rfl) J9X (Jai xs ys) (by kernel_rfl) (J9o xs ys hw.1 hw.2.1) (by kernel_rfl)
abbrev J2n (xs : ZI) (ys : ZI) (i : Int) : Prop := (0 ≤ i) ∧ (i ≤ (xs.length : Int)) ∧ (xs.length = ys.length) ∧ (Jj xs ys = Jj (xs.drop i.toNat) (ys.drop i.toNat))
abbrev J2k (xs : ZI) (ys : ZI) (i : Int) : Nat := (xs.length - i).toNat
def Jd7 (f : FuncId) (ds : List D) : Orc := .no
def JcO (xs : ZI) (ys : ZI) : Ann := .two (.none) (.two (.none) (.two (.two (.none) (.loop (cut1 (fun (i : Int) => J2n xs ys i) (fun (i : Int) => [(0, .d false (.sl (.ints xs))), (1, .d false (.sl (.ints ys))), (5, .d true (.int .i64 i))]) (fun (i : Int) => [])) (fun g => J2k xs ys g) (fun _ => .none))) (.none)))
def J7H (xs : ZI) (ys : ZI) : Prop :=
  ((((xs.length : Int) != (ys.length : Int)) = true → (((decide ((xs.length : Int) < (ys.length : Int))) = (decide (Js xs ys < 0))))) ∧ (((xs.length : Int) != (ys.length : Int)) = false → ((∃ i' : Int, (J2n xs ys i') ∧ (xs = xs) ∧ (ys = ys) ∧ ((0 : Int) = i')) ∧ (∀ i : Int, (J2n xs ys i) → (((decide (i < (xs.length : Int))) = true → (true = true) ∧ ((0 : Int) ≤ i) ∧ ((i : Int) < xs.length) ∧ (i.toNat < xs.length) ∧ ((0 : Int) ≤ i) ∧ ((i : Int) < ys.length) ∧ (i.toNat < ys.length) ∧ ((((xs.getD i.toNat 0) != (ys.getD i.toNat 0)) = true → (true = true) ∧ ((0 : Int) ≤ i) ∧ ((i : Int) < xs.length) ∧ (i.toNat < xs.length) ∧ ((0 : Int) ≤ i) ∧ ((i : Int) < ys.length) ∧ (i.toNat < ys.length) ∧ (((decide ((xs.getD i.toNat 0) < (ys.getD i.toNat 0))) = (decide (Js xs ys < 0))))) ∧ (((xs.getD i.toNat 0) != (ys.getD i.toNat 0)) = false → (I6 (i + 1)) ∧ (∃ i' : Int, (J2n xs ys i') ∧ (J2k xs ys i' < J2k xs ys i) ∧ (xs = xs) ∧ (ys = ys) ∧ ((i + 1) = i'))))) ∧ ((decide (i < (xs.length : Int))) = false → ((false = (decide (Js xs ys < 0))))))))))
theorem Jcj (xs : ZI) (ys : ZI)  (w_xs : (xs.length : Int) ≤ 9223372036854775807) (w_ys : (ys.length : Int) ≤ 9223372036854775807) : J7H xs ys := by
  unfold J7H
  refine ⟨?_, ?_⟩
  ·intro b1
   try simp only [nrmT] at b1
   rcases J09 xs ys with h | h | h
   · rw [decide_eq_true h.2, decide_eq_true (by omega)]
   · rw [decide_eq_false (by omega), decide_eq_false (by omega)]
   omega
  intro b2
  try simp only [nrmT] at b2
  refine ⟨?_, ?_⟩
  ·refine ⟨0, ?_⟩
   refine ⟨?_, rfl, rfl, rfl⟩
   ·refine ⟨?_, ?_, ?_, ?_⟩
    ·omega
    ·omega
    ·omega
    ·rfl
  intro i hJ
  obtain ⟨h1, h2, hl, h3⟩ := hJ
  refine ⟨?_, ?_⟩
  ·intro b3
   try simp only [nrmT] at b3
   refine ⟨rfl, ?_, ?_, ?_, ?_, ?_, ?_, ?_, ?_⟩
   ·omega
   ·omega
   ·omega
   ·omega
   ·omega
   ·omega
   ·intro b4
    try simp only [nrmT] at b4
    refine ⟨rfl, ?_, ?_, ?_, ?_, ?_, ?_, ?_⟩
    ·omega
    ·omega
    ·omega
    ·omega
    ·omega
    ·omega
    have h5 : Js xs ys = Jj xs ys := by rcases J09 xs ys with h | h | h <;> first | omega | exact h.2
    rw [h5, J3t h3 (by omega) (by omega)]
    by_cases h6 : xs.getD i.toNat 0 < ys.getD i.toNat 0
    · rw [if_pos h6, decide_eq_true h6]; rfl
    rw [if_neg h6, if_pos (by omega), decide_eq_false h6]; rfl
   intro b5
   try simp only [nrmT] at b5
   refine ⟨?_, ?_⟩
   ·omega
   refine ⟨(i + 1), ?_⟩
   refine ⟨?_, ?_, rfl, rfl, rfl⟩
   ·refine ⟨?_, ?_, ?_, ?_⟩
    ·omega
    ·omega
    ·exact hl
    ·rw [J3t h3 (by omega) (by omega), show (i + 1).toNat = i.toNat + 1 by omega, if_neg (by omega), if_neg (by omega)]
   (simp only [J2k]; omega)
  intro b6
  try simp only [nrmT] at b6
  have h5 : Js xs ys = Jj xs ys := by rcases J09 xs ys with h | h | h <;> first | omega | exact h.2
  rw [h5, J6L h3 (by omega) (by omega) (by omega), if_neg (by omega)]; rfl
theorem Jc3 (xs : ZI) (ys : ZI)  : PC Tryz.prog 211 [.sl (.ints xs), .sl (.ints ys)] (.one (.d (.bool (decide (Js xs ys < 0))))) :=
  pc_wf @Tryz.call211 fun hw => pc_by (by kernel_rfl) Tryz.func211 @Tryz.call211 (by kernel_rfl) Jd7 (JcO xs ys) (by kernel_rfl) (Jcj xs ys hw.1 hw.2.1) (by kernel_rfl)
def Jbg : List D → Orc := orcN [some .ints, some .ints] fun ds => match ds with
  | [.sl (.ints xs), .sl (.ints ys)] => some (.one (.d (.bool (decide (Js xs ys < 0)))))
  | _ => none
theorem J3C (xss : ZR) (hz : xss.length < 4611686018427387904) : PU Tryz.prog 204 24 (.rows xss) (.rows (xss.mergeSort (fun x9 y9 => !(ltOf Js) y9 x9))) [.fn 205 0 []] false :=
  pu_sortFunc Tryz.laySortRows 24 xss (fun x => .sl (.ints x)) Js Jeu JgI 205 (fun x _ y _ => J9Q x y) _ _ rfl rfl rfl (List.length_mergeSort _) (fun _ => rfl) (fun i x h => by simp [Mem.get, h]) (fun i x h => by simp [Mem.get, h]) hz @Tryz.call205
abbrev J0X (b : Int) (out : ZI) (x : Int) : Prop := (0 ≤ x) ∧ (x ≤ 62) ∧ (out = members (fun k => b.toNat.testBit k) x.toNat)
abbrev J03 (b : Int) (out : ZI) (x : Int) : Nat := (62 - x).toNat
def JaX (f : FuncId) (ds : List D) : Orc := bif Nat.beq f 138 then J7d ds else .no
def Jb7 (b : Int) : Ann := .two (.none) (.two (.none) (.two (.two (.none) (.loop (cut2 (fun (out : ZI) (x : Int) => J0X b out x) (fun (out : ZI) (x : Int) => [(0, .d false (.int .u64 b)), (3, .own 1000000 out.length), (4, .d true (.int .i64 x))]) (fun (out : ZI) (x : Int) => [(1000000, .arr true 3 (.ints out))])) (fun g => J03 b g.1 g.2) (fun _ => .none))) (.none)))
def J6C (b : Int) : Prop :=
  ((∃ out' : ZI, ∃ x' : Int, (J0X b out' x') ∧ (b = b) ∧ ((0 : Nat) = out'.length) ∧ ((0 : Int) = x') ∧ ([] = out')) ∧ (∀ out : ZI, ∀ x : Int, (J0X b out x) → ((0 : Int) ≤ b ∧ (b : Int) ≤ 18446744073709551615) ∧ ((0 : Int) ≤ x) ∧ (((decide ((b / 2 ^ x.toNat) > 0)) = true → (PC Tryz.prog 138 [.int .u64 b, .int .i64 x] (.one (.d (.bool (b.toNat.testBit x.toNat))))) ∧ (((b.toNat.testBit x.toNat) = true → (out.length = out.length) ∧ ((1 : Nat) = 1) ∧ ((out.length + 1) * 8 ≤ 140737488355328) ∧ (I6 (x + 1)) ∧ (∃ out' : ZI, ∃ x' : Int, (J0X b out' x') ∧ (J03 b out' x' < J03 b out x) ∧ (b = b) ∧ ((out.length + 1) = out'.length) ∧ ((x + 1) = x') ∧ ((out ++ [x]) = out'))) ∧ ((b.toNat.testBit x.toNat) = false → (I6 (x + 1)) ∧ (∃ out' : ZI, ∃ x' : Int, (J0X b out' x') ∧ (J03 b out' x' < J03 b out x) ∧ (b = b) ∧ (out.length = out'.length) ∧ ((x + 1) = x') ∧ (out = out'))))) ∧ ((decide ((b / 2 ^ x.toNat) > 0)) = false → ((out.length = out.length) ∧ ((out : ZI) = (members (fun k => b.toNat.testBit k) 62)))))))
theorem JaG (b : Int) (hb : 0 ≤ b ∧ b ≤ 4611686018427387903)  : J6C b := by
  unfold J6C
  refine ⟨?_, ?_⟩
  ·refine ⟨([]), 0, ?_⟩
   refine ⟨?_, rfl, rfl, rfl, ?_⟩
   ·refine ⟨?_, ?_, ?_⟩
    ·omega
    ·omega
    ·rfl
   rfl
  intro out x hJ
  obtain ⟨h1, h2, h3⟩ := hJ
  refine ⟨?_, ?_, ?_, ?_⟩
  ·omega
  ·omega
  ·intro b1
   try simp only [nrmT] at b1
   refine ⟨?_, ?_, ?_⟩
   ·refine J7F b x ?_ ?_
    ·omega
    ·omega
   ·intro b2
    try simp only [nrmT] at b2
    refine ⟨rfl, rfl, ?_, ?_, ?_⟩
    ·rw [h3]; have := members_len_le (fun k => b.toNat.testBit k) x.toNat; omega
    ·omega
    refine ⟨(out ++ [x]), (x + 1), ?_⟩
    refine ⟨?_, ?_, rfl, ?_, rfl, rfl⟩
    ·refine ⟨?_, ?_, ?_⟩
     ·omega
     ·have := J7E hb h2 b1; omega
     ·rw [h3, show (x + 1).toNat = x.toNat + 1 by omega, members_succ, b2]; simp; try omega
    ·have := J7E hb h2 b1
     (simp only [J03]; omega)
    (simp_all; done)
   intro b3
   try simp only [nrmT] at b3
   refine ⟨?_, ?_⟩
   ·omega
   refine ⟨out, (x + 1), ?_⟩
   refine ⟨?_, ?_, rfl, rfl, rfl, rfl⟩
   ·refine ⟨?_, ?_, ?_⟩
    ·omega
    ·have := J7E hb h2 b1; omega
    ·rw [h3, show (x + 1).toNat = x.toNat + 1 by omega, members_succ, b3]; simp; try omega
   have := J7E hb h2 b1
   (simp only [J03]; omega)
  intro b4
  try simp only [nrmT] at b4
  refine ⟨rfl, ?_⟩
  ·rw [h3]; refine (J1v (fun k hk => Jei hb.1 (m := x.toNat) (by omega) k hk) 62 (by omega)).symm
theorem JaO (b : Int) (hb : 0 ≤ b ∧ b ≤ 4611686018427387903) : PC Tryz.prog 139 [.int .u64 b] (.one (.d (.sl (.ints (members (fun k => b.toNat.testBit k) 62))))) :=
  pc_wf @Tryz.call139 fun _ => pc_by (by kernel_rfl) Tryz.func139 @Tryz.call139 (by kernel_rfl) JaX (Jb7 b) (by kernel_rfl) (JaG b hb) (by kernel_rfl)
abbrev J5k (n : Int) (out : ZR) (b : Int) : Prop := (1 ≤ b) ∧ (b ≤ ((2 ^ n.toNat : Nat) : Int)) ∧ (out = J3Z n.toNat (b.toNat - 1))
abbrev J5p (n : Int) (out : ZR) (b : Int) : Nat := (((2 ^ n.toNat : Nat) : Int) - b).toNat
abbrev J5e (n : Int) (out2 : ZR) : Prop := (out2 = J3Z n.toNat (2 ^ n.toNat - 1))
def Jgo (f : FuncId) (ds : List D) : Orc := .no
def Jg7 (n : Int) : Ann := .two (.none) (.two (.none) (.cut (.two (.none) (.loop (cut2 (fun (out : ZR) (b : Int) => J5k n out b) (fun (out : ZR) (b : Int) => [(0, .d false (.int .i64 n)), (3, .own 1000000 out.length), (4, .d true (.int .u64 b))]) (fun (out : ZR) (b : Int) => [(1000000, .arr true 24 (.rows out))])) (fun g => J5p n g.1 g.2) (fun g => (fun (out : ZR) (b : Int) => .two (.none) (.two (.reg [(2, .call none (.one (.d (.sl (.ints (members (fun k => b.toNat.testBit k) 62))))))]) (.none))) (g.1) (g.2)))) (cut1 (fun (out2 : ZR) => J5e n out2) (fun (out2 : ZR) => [(3, .own 1000050 out2.length)]) (fun (out2 : ZR) => [(1000050, .arr true 24 (.rows out2))])) (fun g => (fun (out2 : ZR) => .two (.mark [] [(1, .up (.rows (out2.mergeSort (fun x9 y9 => !(ltOf Js) y9 x9))) false)]) (.none)) g)))
def Jdf (n : Int) : Prop :=
  ((((∃ out' : ZR, ∃ b' : Int, (J5k n out' b') ∧ (n = n) ∧ ((0 : Nat) = out'.length) ∧ ((1 : Int) = b') ∧ ([] = out')) ∧ (∀ out : ZR, ∀ b : Int, (J5k n out b) → ((0 : Int) ≤ 1) ∧ ((0 : Int) ≤ n) ∧ ((0 : Int) ≤ ((1 : Int) * 2 ^ n.toNat) ∧ (((1 : Int) * 2 ^ n.toNat) : Int) ≤ 18446744073709551615) ∧ (((decide (b < ((1 : Int) * 2 ^ n.toNat))) = true → (PC Tryz.prog 139 [.int .u64 b] (.one (.d (.sl (.ints (members (fun k => b.toNat.testBit k) 62)))))) ∧ (out.length = out.length) ∧ ((1 : Nat) = 1) ∧ ((out.length + 1) * 24 ≤ 140737488355328) ∧ (0 ≤ (b + 1) ∧ (b + 1) ≤ 18446744073709551615) ∧ (∃ out' : ZR, ∃ b' : Int, (J5k n out' b') ∧ (J5p n out' b' < J5p n out b) ∧ (n = n) ∧ ((out.length + 1) = out'.length) ∧ ((b + 1) = b') ∧ ((out ++ [(members (fun k => b.toNat.testBit k) 62)]) = out'))) ∧ ((decide (b < ((1 : Int) * 2 ^ n.toNat))) = false → (∃ out2' : ZR, (J5e n out2') ∧ (out.length = out2'.length) ∧ (out = out2'))))))) ∧ (∀ out2 : ZR, (J5e n out2) → (out2.length = out2.length) ∧ (PU Tryz.prog 204 24 (.rows out2) (.rows (out2.mergeSort (fun x9 y9 => !(ltOf Js) y9 x9))) [.fn 205 0 []] false) ∧ ((out2.length = (out2.mergeSort (fun x9 y9 => !(ltOf Js) y9 x9)).length) ∧ (((out2.mergeSort (fun x9 y9 => !(ltOf Js) y9 x9)) : ZR) = J6 n.toNat))))
theorem JfC (n : Int) (hn : 0 ≤ n ∧ n ≤ 8)  : Jdf n := by
  unfold Jdf
  have p7 := JaU (n := n.toNat) (by omega)
  have pp := Nat.two_pow_pos n.toNat
  have e0 := J4p n.toNat
  have e1 : ((2 : Int) ^ n.toNat) = ((2 ^ n.toNat : Nat) : Int) := by simp
  refine ⟨?_, ?_⟩
  ·refine ⟨?_, ?_⟩
   ·refine ⟨([]), 1, ?_⟩
    refine ⟨?_, rfl, rfl, rfl, ?_⟩
    ·refine ⟨?_, ?_, ?_⟩
     ·omega
     ·generalize 2 ^ n.toNat = M at *
      omega
     ·rfl
    rfl
   ·intro out b hJ
    obtain ⟨h1, h2, h3⟩ := hJ
    refine ⟨?_, ?_, ?_, ?_, ?_⟩
    ·omega
    ·omega
    ·rw [Int.one_mul, e1]
     generalize 2 ^ n.toNat = M at *
     omega
    ·intro b1
     try simp only [nrmT] at b1
     refine ⟨?_, rfl, rfl, ?_, ?_, ?_⟩
     ·refine JaO b ?_
      ·rw [Int.one_mul, e1] at b1
       generalize 2 ^ n.toNat = M at *
       omega
     ·rw [Int.one_mul, e1] at b1
      rw [h3, J1l]
      generalize 2 ^ n.toNat = M at *
      omega
     ·rw [Int.one_mul, e1] at b1
      generalize 2 ^ n.toNat = M at *
      omega
     refine ⟨(out ++ [(members (fun k => b.toNat.testBit k) 62)]), (b + 1), ?_⟩
     refine ⟨?_, ?_, rfl, ?_, rfl, rfl⟩
     ·refine ⟨?_, ?_, ?_⟩
      ·omega
      ·rw [Int.one_mul, e1] at b1
       generalize 2 ^ n.toNat = M at *
       omega
      ·rw [Int.one_mul, e1] at b1
       have hb : b.toNat < 2 ^ n.toNat := by
         generalize 2 ^ n.toNat = M at *
         omega
       rw [h3, show (b + 1).toNat - 1 = (b.toNat - 1) + 1 by omega, JbN, show b.toNat - 1 + 1 = b.toNat by omega, JgG (n := n.toNat) (by omega) hb]
     ·rw [Int.one_mul, e1] at b1
      (simp only [J5p]; omega)
     first | omega | rfl | (intro hg; simp only [nrmT] at hg; omega) | (intro g1 g2; simp [g1, g2]; done) | (intro g1; simp at g1 ⊢; simp [g1]; done) | (simp only [nrmT] at *; omega) | (simp at * <;> omega) | (simp_all <;> omega) | (simp_all; done)
    intro b2
    try simp only [nrmT] at b2
    refine ⟨out, ?_⟩
    refine ⟨?_, rfl, rfl⟩
    ·unfold J5e
     rw [Int.one_mul, e1] at b2
     have hm : b.toNat - 1 = 2 ^ n.toNat - 1 := by
       generalize 2 ^ n.toNat = M at *
       omega
     rw [h3, hm]
  intro out2 hJ
  have h8 := hJ
  refine ⟨rfl, ?_, ?_, ?_⟩
  ·refine J3C out2 ?_
   ·rw [h8, J1l]
    generalize 2 ^ n.toNat = M at *
    omega
  ·simp
  rw [h8]; rfl
theorem JbE (n : Int) (hn : 0 ≤ n ∧ n ≤ 8) : PC Tryz.prog 115 [.int .i64 n] (.one (.own 24 (.rows (J6 n.toNat)))) :=
  pc_wf @Tryz.call115 fun _ => pc_by (by kernel_rfl) Tryz.func115 @Tryz.call115 (by kernel_rfl) Jgo (Jg7 n) (by kernel_rfl) (JfC n hn) (by kernel_rfl)
def Jah : List D → Orc := orcN [none] fun ds => match ds with
  | [.int .i64 n] => some (.one (.own 24 (.rows (J6 n.toNat))))
  | _ => none
abbrev J4b (n : Int) (out : ZR) (code : Int) : Prop := (1 ≤ code) ∧ (code ≤ ((2 ^ n.toNat : Nat) : Int)) ∧ (out.Perm (J3Z n.toNat (code.toNat - 1))) ∧ (out.Pairwise (fun x9 y9 => ltOf Js y9 x9 = false))
abbrev J3J (n : Int) (out : ZR) (code : Int) : Nat := (((2 ^ n.toNat : Nat) : Int) - code).toNat
abbrev J3L (n : Int) (out : ZR) (code : Int) (k : Int) : Prop := (0 ≤ k) ∧ (k ≤ (out.length : Int)) ∧ (∀ j, k.toNat ≤ j → j < out.length → Js (lst n.toNat code.toNat) (out.getD j []) < 0)
abbrev J3F (n : Int) (out : ZR) (code : Int) (k : Int) : Nat := k.toNat
def JeJ (f : FuncId) (ds : List D) : Orc := bif Nat.beq f 142 then J5C ds else bif Nat.beq f 211 then Jbg ds else .no
def Jfl (n : Int) : Ann := .two (.none) (.two (.reg [(0, .frz)]) (.two (.two (.none) (.loop (cut2 (fun (out : ZR) (code : Int) => J4b n out code) (fun (out : ZR) (code : Int) => [(0, .d false (.int .i64 n)), (3, .d true (.sl (.rows out))), (4, .d true (.int .i64 code))]) (fun (out : ZR) (code : Int) => [])) (fun g => J3J n g.1 g.2) (fun g => (fun (out : ZR) (code : Int) => .two (.none) (.two (.two (.none) (.two (.loop (cut1 (fun (k : Int) => J3L n out code k) (fun (k : Int) => [(0, .d false (.int .i64 n)), (3, .d true (.sl (.rows out))), (4, .d true (.int .i64 code)), (5, .d true (.sl (.ints (members (fun k => code.toNat.testBit k) n.toNat)))), (6, .d true (.int .i64 k))]) (fun (k : Int) => [])) (fun g => J3F n out code g) (fun _ => .none)) (.none))) (.none))) (g.1) (g.2)))) (.none)))
def J9T (n : Int) : Prop :=
  ((∃ out' : ZR, ∃ code' : Int, (J4b n out' code') ∧ (n = n) ∧ ([] = out') ∧ ((1 : Int) = code')) ∧ (∀ out : ZR, ∀ code : Int, (J4b n out code) → ((0 : Int) ≤ 1) ∧ ((0 : Int) ≤ n) ∧ ((0 : Int) ≤ ((1 : Int) * 2 ^ n.toNat) ∧ (((1 : Int) * 2 ^ n.toNat) : Int) ≤ 9223372036854775807) ∧ (((decide (code < ((1 : Int) * 2 ^ n.toNat))) = true → (PC Tryz.prog 142 [.int .i64 n, .int .i64 code] (.one (.d (.sl (.ints (members (fun k => code.toNat.testBit k) n.toNat)))))) ∧ ((∃ k' : Int, (J3L n out code k') ∧ (n = n) ∧ (out = out) ∧ (code = code) ∧ ((members (fun k => code.toNat.testBit k) n.toNat) = (members (fun k => code.toNat.testBit k) n.toNat)) ∧ ((out.length : Int) = k')) ∧ (∀ k : Int, (J3L n out code k) → ((decide (k > 0)) = true → (decide (k > 0)) = true) ∧ (((decide (k > 0)) = true → I6 (k - 1))) ∧ ((decide (k > 0)) = true → (decide (k > 0)) = true) ∧ ((decide (k > 0)) = true → (decide (k > 0)) = true) ∧ (((decide (k > 0)) = true → (0 : Int) ≤ (k - 1))) ∧ (((decide (k > 0)) = true → ((k - 1) : Int) < out.length)) ∧ ((decide (k > 0)) = true → (decide (k > 0)) = true) ∧ (((decide (k > 0)) = true → (k - 1).toNat < out.length)) ∧ ((decide (k > 0)) = true → (decide (k > 0)) = true) ∧ ((decide (k > 0)) = true → (decide (k > 0)) = true) ∧ ((decide (k > 0)) = true → PC Tryz.prog 211 [.sl (.ints (members (fun k => code.toNat.testBit k) n.toNat)), .sl (.ints (out.getD ((k - 1).toNat) []))] (.one (.d (.bool (decide (Js (members (fun k => code.toNat.testBit k) n.toNat) (out.getD ((k - 1).toNat) []) < 0)))))) ∧ (true = true) ∧ (((decide (k > 0)) = true → (decide (k > 0)) = true)) ∧ (((decide (k > 0)) = false → true = true)) ∧ (((cond (decide (k > 0)) (decide (Js (members (fun k => code.toNat.testBit k) n.toNat) (out.getD ((k - 1).toNat) []) < 0)) false) = true → (I6 (k - 1)) ∧ (∃ k' : Int, (J3L n out code k') ∧ (J3F n out code k' < J3F n out code k) ∧ (n = n) ∧ (out = out) ∧ (code = code) ∧ ((members (fun k => code.toNat.testBit k) n.toNat) = (members (fun k => code.toNat.testBit k) n.toNat)) ∧ ((k - 1) = k'))) ∧ ((cond (decide (k > 0)) (decide (Js (members (fun k => code.toNat.testBit k) n.toNat) (out.getD ((k - 1).toNat) []) < 0)) false) = false → (true = true) ∧ ((0 : Int) ≤ k) ∧ ((k : Int) ≤ out.length) ∧ ((0 : Nat) = 0) ∧ (True) ∧ ((0 + ((out.take k.toNat).drop 0).length) * 24 ≤ 140737488355328) ∧ ((0 + ((out.take k.toNat).drop 0).length) = ([] ++ ((out.take k.toNat).drop 0)).length) ∧ ((1 : Nat) = 1) ∧ ((([] ++ ((out.take k.toNat).drop 0)).length + 1) * 24 ≤ 140737488355328) ∧ ((0 : Int) ≤ k) ∧ ((k : Int) ≤ out.length) ∧ (((0 + ((out.take k.toNat).drop 0).length) + 1) = (([] ++ ((out.take k.toNat).drop 0)) ++ [(members (fun k => code.toNat.testBit k) n.toNat)]).length) ∧ (True) ∧ (((([] ++ ((out.take k.toNat).drop 0)) ++ [(members (fun k => code.toNat.testBit k) n.toNat)]).length + ((out.take out.length).drop k.toNat).length) * 24 ≤ 140737488355328) ∧ (I6 (code + 1)) ∧ (∃ out' : ZR, ∃ code' : Int, (J4b n out' code') ∧ (J3J n out' code' < J3J n out code) ∧ (n = n) ∧ ((((0 + ((out.take k.toNat).drop 0).length) + 1) + ((out.take out.length).drop k.toNat).length) = ((([] ++ ((out.take k.toNat).drop 0)) ++ [(members (fun k => code.toNat.testBit k) n.toNat)]) ++ ((out.take out.length).drop k.toNat)).length) ∧ (((([] ++ ((out.take k.toNat).drop 0)) ++ [(members (fun k => code.toNat.testBit k) n.toNat)]) ++ ((out.take out.length).drop k.toNat)) = out') ∧ ((code + 1) = code'))))))) ∧ ((decide (code < ((1 : Int) * 2 ^ n.toNat))) = false → (((out : ZR) = (J6 n.toNat)))))))
theorem JdU (n : Int) (hn : 0 ≤ n ∧ n ≤ 8)  : J9T n := by
  unfold J9T
  have p7 := JaU (n := n.toNat) (by omega)
  have pp := Nat.two_pow_pos n.toNat
  have e0 := J4p n.toNat
  have e1 : ((2 : Int) ^ n.toNat) = ((2 ^ n.toNat : Nat) : Int) := by simp
  refine ⟨?_, ?_⟩
  ·refine ⟨([]), 1, ?_⟩
   refine ⟨?_, rfl, ?_, rfl⟩
   ·refine ⟨?_, ?_, ?_, ?_⟩
    ·omega
    ·generalize 2 ^ n.toNat = M at *
     omega
    ·exact List.Perm.refl _
    ·exact List.Pairwise.nil
   rfl
  intro out code hJ
  obtain ⟨h1, h2, h3, h4⟩ := hJ
  refine ⟨?_, ?_, ?_, ?_, ?_⟩
  ·omega
  ·omega
  ·rw [Int.one_mul, e1]
   generalize 2 ^ n.toNat = M at *
   omega
  ·intro b1
   try simp only [nrmT] at b1
   refine ⟨?_, ?_, ?_⟩
   ·refine J6j n code ?_ ?_
    ·omega
    ·rw [Int.one_mul, e1] at b1
     generalize 2 ^ n.toNat = M at *
     omega
   ·refine ⟨(out.length : Int), ?_⟩
    refine ⟨?_, rfl, rfl, rfl, rfl, rfl⟩
    ·refine ⟨?_, ?_, ?_⟩
     ·omega
     ·omega
     ·intro j h8 h9; omega
   intro k hJ
   obtain ⟨h5, h6, h7⟩ := hJ
   refine ⟨id, ?_, id, id, ?_, ?_, id, ?_, id, id, fun _ => Jc3 (members (fun k => code.toNat.testBit k) n.toNat) (out.getD ((k - 1).toNat) []), rfl, id, fun _ => rfl, ?_, ?_⟩
   ·have ol := h3.length_eq
    rw [J1l] at ol
    rw [Int.one_mul, e1] at b1
    intro hg2
    have := of_decide_eq_true hg2
    generalize 2 ^ n.toNat = M at *
    omega
   ·(intro hg; simp only [nrmT] at hg; omega)
   ·omega
   ·(intro hg; simp only [nrmT] at hg; omega)
   ·intro b2
    refine ⟨?_, ?_⟩
    ·have ol := h3.length_eq
     rw [J1l] at ol
     rw [Int.one_mul, e1] at b1
     have hk : 0 < k := by
       revert b2
       by_cases h : k > 0
       · intro _; exact h
       rw [decide_eq_false h]; intro g; cases g
     generalize 2 ^ n.toNat = M at *
     omega
    refine ⟨(k - 1), ?_⟩
    refine ⟨?_, ?_, rfl, rfl, rfl, rfl, rfl⟩
    ·refine ⟨?_, ?_, ?_⟩
     ·have ol := h3.length_eq
      rw [J1l] at ol
      rw [Int.one_mul, e1] at b1
      have hk : 0 < k := by
        revert b2
        by_cases h : k > 0
        · intro _; exact h
        rw [decide_eq_false h]; intro g; cases g
      generalize 2 ^ n.toNat = M at *
      omega
     ·have ol := h3.length_eq
      rw [J1l] at ol
      rw [Int.one_mul, e1] at b1
      have hk : 0 < k := by
        revert b2
        by_cases h : k > 0
        · intro _; exact h
        rw [decide_eq_false h]; intro g; cases g
      generalize 2 ^ n.toNat = M at *
      omega
     ·intro j h8 h9
      have hk : 0 < k ∧ Js (lst n.toNat code.toNat) (out.getD (k - 1).toNat []) < 0 := by
        revert b2
        by_cases h : k > 0
        · rw [decide_eq_true h]; intro g; exact ⟨h, of_decide_eq_true g⟩
        rw [decide_eq_false h]; intro g; cases g
      by_cases e : j = (k - 1).toNat
      · rw [e]; exact hk.2
      exact h7 j (by omega) h9
    have hk : 0 < k := by
      revert b2
      by_cases h : k > 0
      · intro _; exact h
      rw [decide_eq_false h]; intro g; cases g
    (simp only [J3F]; omega)
   intro b3
   refine ⟨rfl, ?_, ?_, rfl, trivial, ?_, ?_, rfl, ?_, ?_, ?_, ?_, trivial, ?_, ?_, ?_⟩
   ·omega
   ·omega
   ·have ol := h3.length_eq
    rw [J1l] at ol
    rw [Int.one_mul, e1] at b1
    simp only [List.length_append, List.length_drop, List.length_take, List.length_cons, List.length_nil]
    generalize 2 ^ n.toNat = M at *
    omega
   ·simp only [List.length_append, List.length_cons, List.length_nil] <;> omega
   ·have ol := h3.length_eq
    rw [J1l] at ol
    rw [Int.one_mul, e1] at b1
    simp only [List.length_append, List.length_drop, List.length_take, List.length_cons, List.length_nil]
    generalize 2 ^ n.toNat = M at *
    omega
   ·omega
   ·omega
   ·first | omega | rfl | (intro hg; simp only [nrmT] at hg; omega) | (intro g1 g2; simp [g1, g2]; done) | (intro g1; simp at g1 ⊢; simp [g1]; done) | (simp only [nrmT] at *; omega) | (simp at * <;> omega) | (simp_all <;> omega) | (simp_all; done)
   ·have ol := h3.length_eq
    rw [J1l] at ol
    rw [Int.one_mul, e1] at b1
    simp only [List.length_append, List.length_drop, List.length_take, List.length_cons, List.length_nil]
    generalize 2 ^ n.toNat = M at *
    omega
   ·rw [Int.one_mul, e1] at b1
    generalize 2 ^ n.toNat = M at *
    omega
   refine ⟨((([] ++ ((out.take k.toNat).drop 0)) ++ [(members (fun k => code.toNat.testBit k) n.toNat)]) ++ ((out.take out.length).drop k.toNat)), (code + 1), ?_⟩
   refine ⟨?_, ?_, rfl, ?_, rfl, rfl⟩
   ·refine ⟨?_, ?_, ?_, ?_⟩
    ·omega
    ·rw [Int.one_mul, e1] at b1
     generalize 2 ^ n.toNat = M at *
     omega
    ·have hq : (((([] : ZR) ++ ((out.take k.toNat).drop 0)) ++ [(members (fun k => code.toNat.testBit k) n.toNat)]) ++ ((out.take out.length).drop k.toNat)) = (out.take k.toNat ++ [lst n.toNat code.toNat]) ++ out.drop k.toNat := by
       rw [List.nil_append, List.drop_zero, List.take_length]; rfl
     rw [hq, show (code + 1).toNat - 1 = (code.toNat - 1) + 1 by omega]
     exact Jg5 h3 (by rw [show code.toNat - 1 + 1 = code.toNat by omega])
    ·have hq : (((([] : ZR) ++ ((out.take k.toNat).drop 0)) ++ [(members (fun k => code.toNat.testBit k) n.toNat)]) ++ ((out.take out.length).drop k.toNat)) = (out.take k.toNat ++ [lst n.toNat code.toNat]) ++ out.drop k.toNat := by
       rw [List.nil_append, List.drop_zero, List.take_length]; rfl
     rw [hq]
     refine Jew h4 (by omega) h7 ?_
     by_cases e : k.toNat = 0
     · exact .inl e
     refine .inr fun h => ?_
     rw [decide_eq_true (show k > 0 by omega), decide_eq_true (by rw [show (k - 1).toNat = k.toNat - 1 by omega]; exact h)] at b3
     cases b3
   ·rw [Int.one_mul, e1] at b1
    (simp only [J3J]; omega)
   simp only [List.length_append, List.length_cons, List.length_nil] <;> omega
  intro b4
  try simp only [nrmT] at b4
  rw [Int.one_mul, e1] at b4
  exact Jfp h3 (by
    generalize 2 ^ n.toNat = M at *
    omega) h4
theorem Jea (n : Int) (hn : 0 ≤ n ∧ n ≤ 8) : PC Tryz.prog 148 [.int .i64 n] (.one (.d (.sl (.rows (J6 n.toNat))))) :=
  pc_wf @Tryz.call148 fun _ => pc_by (by kernel_rfl) Tryz.func148 @Tryz.call148 (by kernel_rfl) JeJ (Jfl n) (by kernel_rfl) (JdU n hn) (by kernel_rfl)
def Jdq : List D → Orc := orcN [none] fun ds => match ds with
  | [.int .i64 n] => some (.one (.d (.sl (.rows (J6 n.toNat)))))
  | _ => none
theorem J1j (zs : ZI) (j : Nat) : zs.toArray[j]! = zs.getD j 0 := by
  by_cases h : j < zs.length
  · rw [getElem!_pos zs.toArray j (by simpa using h)]; simp [h]
  rw [getElem!_neg zs.toArray j (by simpa using h)]
  simp [List.getD, List.getElem?_eq_none (Nat.le_of_not_lt h)]
theorem J7e {zs : ZI} (hs : zs.Pairwise (· ≤ ·)) : ∀ m, m ≤ zs.length → Asc (Lib.compactUpTo zs.toArray m) ∧ (∀ x, x ∈ Lib.compactUpTo zs.toArray m ↔ ∃ j, j < m ∧ zs.getD j 0 = x)
  | 0, _ => by
    refine ⟨List.Pairwise.nil, fun x => ?_⟩
    simp [Lib.compactUpTo]
  | m + 1, hm => by
    obtain ⟨h1, h2⟩ := J7e hs m (by omega)
    rw [Lib.compactUpTo_succ]
    have hle : ∀ j, j ≤ m → zs.getD j 0 ≤ zs.getD m 0 := fun j hj => by
      by_cases e : j = m
      · subst e; exact Int.le_refl _
      have := List.pairwise_iff_getElem.1 hs j m (by omega) (by omega) (by omega)
      rw [Ja (by omega), Ja (by omega)]
      exact this
    by_cases hk : Lib.keeps zs.toArray m = true
    · rw [if_pos hk]
      have hk2 : m = 0 ∨ zs.getD m 0 ≠ zs.getD (m - 1) 0 := by
        have := of_decide_eq_true hk
        rwa [J1j, J1j] at this
      refine ⟨List.pairwise_append.2 ⟨h1, by simp, fun a ha b hb => ?_⟩, fun x => ?_⟩
      · have hb : b = zs.getD m 0 := by rw [← J1j]; simpa using hb
        obtain ⟨j, hj, rfl⟩ := (h2 a).1 ha
        have h3 := hle j (by omega)
        rcases hk2 with h4 | h4
        · omega
        have h5 := hle (m - 1) (by omega)
        have h6 : zs.getD j 0 ≤ zs.getD (m - 1) 0 := by
          by_cases e : j = m - 1
          · subst e; exact Int.le_refl _
          have := List.pairwise_iff_getElem.1 hs j (m - 1) (by omega) (by omega) (by omega)
          rw [Ja (by omega), Ja (by omega)]
          exact this
        omega
      rw [List.mem_append, h2]
      constructor
      · rintro (⟨j, hj, h⟩ | h)
        · exact ⟨j, by omega, h⟩
        · exact ⟨m, by omega, by rw [← J1j]; exact (by simpa using h : x = _).symm⟩
      rintro ⟨j, hj, h⟩
      by_cases e : j = m
      · subst e; right; rw [J1j, h]; simp
      exact .inl ⟨j, by omega, h⟩
    rw [if_neg hk, List.append_nil]
    have hk2 : m ≠ 0 ∧ zs.getD m 0 = zs.getD (m - 1) 0 := by
      have := of_decide_eq_false (Bool.eq_false_iff.2 hk)
      rw [J1j, J1j] at this
      exact ⟨fun e => this (.inl e), Classical.not_not.1 fun e => this (.inr e)⟩
    refine ⟨h1, fun x => ?_⟩
    rw [h2]
    constructor
    · rintro ⟨j, hj, h⟩; exact ⟨j, by omega, h⟩
    rintro ⟨j, hj, h⟩
    by_cases e : j = m
    · subst e; exact ⟨j - 1, by omega, by rw [← hk2.2]; exact h⟩
    exact ⟨j, by omega, h⟩
theorem Je5 {zs : ZI} (hs : zs.Pairwise (· ≤ ·)) : Asc (Lib.compact zs) ∧ ∀ x, x ∈ Lib.compact zs ↔ x ∈ zs := by
  obtain ⟨h1, h2⟩ := J7e hs zs.length (Nat.le_refl _)
  refine ⟨h1, fun x => (h2 x).trans ⟨?_, fun h => ?_⟩⟩
  · rintro ⟨j, hj, rfl⟩; exact getD_mem hj
  obtain ⟨j, hj, rfl⟩ := List.mem_iff_getElem.1 h
  exact ⟨j, hj, Ja hj⟩
theorem JcN (xs : ZI) : (xs.mergeSort fun x y => decide (x ≤ y)).Pairwise (· ≤ ·) := by
  have h := List.pairwise_mergeSort (le := fun x y : Int => decide (x ≤ y)) (fun a b c h1 h2 => by simp only [decide_eq_true_eq] at *; omega) (fun a b => by simp only [Bool.or_eq_true, decide_eq_true_eq]; omega) xs
  exact h.imp fun h => by simpa using h
def J38 (l : ZI) (xs : ZI) : ZI := xs.foldl putL l
theorem J66 {x : Int} : ∀ (xs l : ZI), x ∈ J38 l xs ↔ x ∈ l ∨ x ∈ xs
  | [], l => by simp [J38]
  | y :: r, l => by
    show x ∈ J38 (putL l y) r ↔ _
    rw [J66 r, mem_putL, List.mem_cons]
    constructor
    · rintro ((h | h) | h)
      · exact .inr (.inl h)
      · exact .inl h
      · exact .inr (.inr h)
    rintro (h | h | h)
    · exact .inl (.inr h)
    · exact .inl (.inl h)
    · exact .inr h
theorem J86 : ∀ (xs l : ZI), Asc l → Asc (J38 l xs)
  | [], _, h => h
  | y :: r, l, h => J86 r _ (asc_putL h)
theorem J7G : ∀ (xs l : ZI), (J38 l xs).length ≤ l.length + xs.length
  | [], _ => Nat.le_refl _
  | y :: r, l => by
    have h1 := J7G r (putL l y)
    have h2 := putL_len l y
    show (J38 (putL l y) r).length ≤ _
    simp only [List.length_cons]
    omega
theorem JeN (l xs : ZI) (y : Int) : J38 l (xs ++ [y]) = putL (J38 l xs) y := by simp [J38]
def J3 (E : ZR) : ZI := J38 [] E.flatten
theorem Jdw (E : ZR) : Lib.compact (E.flatten.mergeSort fun x y => decide (x ≤ y)) = J3 E := by
  obtain ⟨h1, h2⟩ := Je5 (JcN E.flatten)
  refine asc_ext h1 (J86 _ _ List.Pairwise.nil) fun x => ?_
  rw [h2, (List.mergeSort_perm _ _).mem_iff, J3, J66]
  simp
theorem J4s {E : ZR} {m : Nat} (h : ∀ l ∈ E, l.length ≤ m) : E.flatten.length ≤ E.length * m := by
  induction E with
  | nil => simp
  | cons x r ih =>
    have h1 := h x (by simp)
    have h2 := ih fun l hl => h l (by simp [hl])
    simp only [List.flatten_cons, List.length_append, List.length_cons, Nat.succ_mul]
    omega
theorem J8a {xss : ZR} {i : Int} (h0 : 0 ≤ i) (h : i < (xss.length : Int)) : (xss.take (i + 1).toNat).flatten = (xss.take i.toNat).flatten ++ xss.getD i.toNat [] := by
  rw [take_step (d := []) h0 h, List.flatten_append]
  simp
def JI (U : ZI) (E : ZR) : ZI := if J0 U E = true then J3 E else []
theorem JcM {U : ZI} {E : ZR} (h : J0 U E = true) : ∀ l ∈ E, l.length = U.length := fun l hl => by
  obtain ⟨k, hk, rfl⟩ := List.mem_iff_getElem.1 hl
  have h1 := (Je h hk).1
  rwa [Ja hk] at h1
theorem J05 {U : ZI} {E : ZR} (h : J0 U E = true) : E.flatten.length ≤ 49 := by
  obtain ⟨g1, g2, g3⟩ := Jb h
  have h1 := J4s (E := E) (m := 7) fun l hl => by rw [JcM h l hl]; exact g2
  omega
theorem JR (E : ZR) : (J3 E).length ≤ E.flatten.length := by
  have := J7G E.flatten []
  simpa [J3] using this
theorem J5U (xs : ZI) (hz : xs.length < 4611686018427387904) : PU Tryz.prog 193 3 (.ints xs) (.ints (xs.mergeSort (fun x9 y9 => decide (x9 ≤ y9)))) [] false := pu_sort_int Tryz.laySort 3 xs hz
theorem J52 (xs : ZI) : PU Tryz.prog 194 3 (.ints xs) (.ints (Lib.compact xs)) [] true := pu_compact_int Tryz.layCompact 3 xs
theorem J5M (n : Int) (hn : 0 ≤ n ∧ n ≤ 1000) : PC Tryz.prog 227 [.nil, .int .i64 n] (.one (.own 3 (.ints []))) := pc_grow_by Tryz.layGrow (by kernel_rfl) n hn
def J5y : List D → Orc := orcN [none, none] fun ds => match ds with
  | [.nil, .int .i64 n] => some (.one (.own 3 (.ints [])))
  | _ => none
abbrev JX (xss : ZR) (size : Int) (i : Int) : Prop := (0 ≤ i) ∧ (i ≤ (xss.length : Int)) ∧ (size = ((xss.take i.toNat).flatten.length : Int))
abbrev J01 (xss : ZR) (size : Int) (i : Int) : Nat := (xss.length - i).toNat
abbrev JW (xss : ZR) (size2 : Int) : Prop := (size2 = (xss.flatten.length : Int))
abbrev JZ (xss : ZR) (size2 : Int) (out : ZI) (i : Int) : Prop := (0 ≤ i) ∧ (i ≤ (xss.length : Int)) ∧ (out = (xss.take i.toNat).flatten)
abbrev JY (xss : ZR) (size2 : Int) (out : ZI) (i : Int) : Nat := (xss.length - i).toNat
def J5I (f : FuncId) (ds : List D) : Orc := bif Nat.beq f 227 then J5y ds else .no
def J5r (xss : ZR) : Ann := .two (.none) (.two (.none) (.cut (.two (.none) (.loop (cut2 (fun (size : Int) (i : Int) => JX xss size i) (fun (size : Int) (i : Int) => [(0, .d false (.sl (.rows xss))), (3, .d true (.int .i64 size)), (9, .d false (.sl (.rows xss))), (10, .d true (.int .i64 (xss.length : Int))), (11, .d true (.int .i64 i))]) (fun (size : Int) (i : Int) => [])) (fun g => J01 xss g.1 g.2) (fun g => (fun (size : Int) (i : Int) => .two (.none) (.two (.none) (.two (.two (.none) (.two (.none) (.two (.none) (.goF (.none))))) (.none)))) (g.1) (g.2)))) (cut1 (fun (size2 : Int) => JW xss size2) (fun (size2 : Int) => [(0, .d false (.sl (.rows xss))), (3, .d true (.int .i64 size2))]) (fun (size2 : Int) => [])) (fun g => (fun (size2 : Int) => .two (.none) (.two (.two (.none) (.loop (cut2 (fun (out : ZI) (i : Int) => JZ xss size2 out i) (fun (out : ZI) (i : Int) => [(6, .own 1000100 out.length), (25, .d false (.sl (.rows xss))), (26, .d true (.int .i64 (xss.length : Int))), (27, .d true (.int .i64 i))]) (fun (out : ZI) (i : Int) => [(1000100, .arr true 3 (.ints out))])) (fun g => JY xss size2 g.1 g.2) (fun _ => .none))) (.none))) g)))
def J25 (xss : ZR) : Prop :=
  ((((∃ size' : Int, ∃ i' : Int, (JX xss size' i') ∧ (xss = xss) ∧ ((0 : Int) = size') ∧ (xss = xss) ∧ ((xss.length : Int) = (xss.length : Int)) ∧ ((0 : Int) = i')) ∧ (∀ size : Int, ∀ i : Int, (JX xss size i) → (((decide (i < (xss.length : Int))) = true → ((0 : Int) ≤ i) ∧ ((i : Int) < xss.length) ∧ (i.toNat < xss.length) ∧ (I6 (size + (((xss.getD i.toNat []).length) : Int))) ∧ ((decide ((size + (((xss.getD i.toNat []).length) : Int)) < 0)) = false) ∧ (I6 (i + 1)) ∧ (∃ size' : Int, ∃ i' : Int, (JX xss size' i') ∧ (J01 xss size' i' < J01 xss size i) ∧ (xss = xss) ∧ ((size + (((xss.getD i.toNat []).length) : Int)) = size') ∧ (xss = xss) ∧ ((xss.length : Int) = (xss.length : Int)) ∧ ((i + 1) = i'))) ∧ ((decide (i < (xss.length : Int))) = false → (∃ size2' : Int, (JW xss size2') ∧ (xss = xss) ∧ (size = size2'))))))) ∧ (∀ size2 : Int, (JW xss size2) → (PC Tryz.prog 227 [.nil, .int .i64 size2] (.one (.own 3 (.ints ([] : ZI))))) ∧ ((∃ out' : ZI, ∃ i' : Int, (JZ xss size2 out' i') ∧ (([] : ZI).length = out'.length) ∧ (xss = xss) ∧ ((xss.length : Int) = (xss.length : Int)) ∧ ((0 : Int) = i') ∧ (([] : ZI) = out')) ∧ (∀ out : ZI, ∀ i : Int, (JZ xss size2 out i) → (((decide (i < (xss.length : Int))) = true → ((0 : Int) ≤ i) ∧ ((i : Int) < xss.length) ∧ (i.toNat < xss.length) ∧ (out.length = out.length) ∧ (True) ∧ ((out.length + (xss.getD i.toNat []).length) * 8 ≤ 140737488355328) ∧ (I6 (i + 1)) ∧ (∃ out' : ZI, ∃ i' : Int, (JZ xss size2 out' i') ∧ (JY xss size2 out' i' < JY xss size2 out i) ∧ ((out.length + (xss.getD i.toNat []).length) = out'.length) ∧ (xss = xss) ∧ ((xss.length : Int) = (xss.length : Int)) ∧ ((i + 1) = i') ∧ ((out ++ (xss.getD i.toNat [])) = out'))) ∧ ((decide (i < (xss.length : Int))) = false → ((out.length = out.length) ∧ ((out : ZI) = xss.flatten))))))))
theorem J5j (xss : ZR) (hs : ∀ l ∈ xss, l.length ≤ 7) (hl : xss.length ≤ 7) (w_xss : (xss.length : Int) ≤ 9223372036854775807) (v_xss : ∀ x9 ∈ xss, (x9.length : Int) ≤ 9223372036854775807) : J25 xss := by
  unfold J25
  refine ⟨?_, ?_⟩
  ·refine ⟨?_, ?_⟩
   ·refine ⟨0, 0, ?_⟩
    refine ⟨?_, rfl, rfl, rfl, rfl, rfl⟩
    ·refine ⟨?_, ?_, ?_⟩
     ·omega
     ·omega
     ·rfl
   ·intro size i hJ
    obtain ⟨h1, h2, h3⟩ := hJ
    refine ⟨?_, ?_⟩
    ·intro b1
     try simp only [nrmT] at b1
     refine ⟨?_, ?_, ?_, ?_, ?_, ?_, ?_⟩
     ·omega
     ·omega
     ·omega
     ·have hb := J4s (E := xss.take i.toNat) (m := 7) (fun l hl => hs l (List.mem_of_mem_take hl))
      have hb2 : (xss.take i.toNat).length ≤ 7 := by rw [List.length_take]; omega
      have hb3 := hs _ (getD_memI (d := []) h1 (by omega))
      omega
     ·have hb := J4s (E := xss.take i.toNat) (m := 7) (fun l hl => hs l (List.mem_of_mem_take hl))
      have hb2 : (xss.take i.toNat).length ≤ 7 := by rw [List.length_take]; omega
      rw [h3]
      exact decide_eq_false (by omega)
     ·omega
     refine ⟨(size + (((xss.getD i.toNat []).length) : Int)), (i + 1), ?_⟩
     refine ⟨?_, ?_, rfl, rfl, rfl, rfl, rfl⟩
     ·refine ⟨?_, ?_, ?_⟩
      ·omega
      ·omega
      ·rw [J8a h1 (by omega), List.length_append, h3]; omega
     (simp only [J01]; omega)
    intro b2
    try simp only [nrmT] at b2
    refine ⟨size, ?_⟩
    refine ⟨?_, rfl, rfl⟩
    ·unfold JW
     rw [h3, take_all (by omega)]
  intro size2 hJ
  have k3 := hJ
  refine ⟨?_, ?_, ?_⟩
  ·refine J5M size2 ?_
   ·have hb := J4s hs
    omega
  ·refine ⟨([] : ZI), 0, ?_⟩
   refine ⟨?_, rfl, rfl, rfl, rfl, rfl⟩
   ·refine ⟨?_, ?_, ?_⟩
    ·omega
    ·omega
    ·rfl
  intro out i hJ
  obtain ⟨h1, h2, h3⟩ := hJ
  refine ⟨?_, ?_⟩
  ·intro b3
   try simp only [nrmT] at b3
   refine ⟨?_, ?_, ?_, rfl, trivial, ?_, ?_, ?_⟩
   ·omega
   ·omega
   ·omega
   ·have hb := J4s (E := xss.take i.toNat) (m := 7) (fun l hl => hs l (List.mem_of_mem_take hl))
    have hb2 : (xss.take i.toNat).length ≤ 7 := by rw [List.length_take]; omega
    have hb3 := hs _ (getD_memI (d := []) h1 (by omega))
    rw [h3]
    omega
   ·omega
   refine ⟨(out ++ (xss.getD i.toNat [])), (i + 1), ?_⟩
   refine ⟨?_, ?_, ?_, rfl, rfl, rfl, rfl⟩
   ·refine ⟨?_, ?_, ?_⟩
    ·omega
    ·omega
    ·rw [J8a h1 (by omega), h3]
   ·(simp only [JY]; omega)
   (simp_all; done)
  intro b4
  try simp only [nrmT] at b4
  refine ⟨rfl, ?_⟩
  ·rw [h3, take_all (by omega)]
theorem J5o (xss : ZR) (hs : ∀ l ∈ xss, l.length ≤ 7) (hl : xss.length ≤ 7) : PC Tryz.prog 192 [.sl (.rows xss)] (.one (.own 3 (.ints xss.flatten))) :=
  pc_wf @Tryz.call192 fun hw => pc_by (by kernel_rfl) Tryz.func192 @Tryz.call192 (by kernel_rfl) J5I (J5r xss) (by kernel_rfl) (J5j xss hs hl hw.1.1 hw.1.2) (by kernel_rfl)
def J4W : List D → Orc := orcN [some .rows] fun ds => match ds with
  | [.sl (.rows xss)] => some (.one (.own 3 (.ints xss.flatten)))
  | _ => none
abbrev J1Z (U : ZI) (E : ZR) (out : ZI) (j : Int) : Prop := (0 ≤ j) ∧ (j ≤ (E.length : Int)) ∧ (out = J38 [] (E.take j.toNat).flatten)
abbrev J1O (U : ZI) (E : ZR) (out : ZI) (j : Int) : Nat := (E.length - j).toNat
abbrev J1V (U : ZI) (E : ZR) (out : ZI) (j : Int) (out2 : ZI) (a : Int) : Prop := (0 ≤ a) ∧ (a ≤ ((E.getD j.toNat []).length : Int)) ∧ (out2 = J38 [] ((E.take j.toNat).flatten ++ (E.getD j.toNat []).take a.toNat))
abbrev J1X (U : ZI) (E : ZR) (out : ZI) (j : Int) (out2 : ZI) (a : Int) : Nat := ((E.getD j.toNat []).length - a).toNat
def JcB (f : FuncId) (ds : List D) : Orc := bif Nat.beq f 140 then J95 ds else .no
def Jcr (U : ZI) (E : ZR) : Ann := .two (.none) (.two (.reg [(0, .frz)]) (.two (.two (.none) (.loop (cut2 (fun (out : ZI) (j : Int) => J1Z U E out j) (fun (out : ZI) (j : Int) => [(1, .ptr 1 0), (3, .d true (.sl (.ints out))), (4, .d true (.int .i64 j))]) (fun (out : ZI) (j : Int) => [(1, .box 27 [.d false (.sl (.ints U)), .d false (.sl (.rows E))])])) (fun g => J1O U E g.1 g.2) (fun g => (fun (out : ZI) (j : Int) => .two (.none) (.two (.two (.none) (.loop (cut2 (fun (out2 : ZI) (a : Int) => J1V U E out j out2 a) (fun (out2 : ZI) (a : Int) => [(1, .ptr 1 0), (3, .d true (.sl (.ints out2))), (4, .d true (.int .i64 j)), (5, .d true (.int .i64 a))]) (fun (out2 : ZI) (a : Int) => [(1, .box 27 [.d false (.sl (.ints U)), .d false (.sl (.rows E))])])) (fun g => J1X U E out j g.1 g.2) (fun _ => .none))) (.none))) (g.1) (g.2)))) (.none)))
def J7b (U : ZI) (E : ZR) : Prop :=
  ((∃ out' : ZI, ∃ j' : Int, (J1Z U E out' j') ∧ ([] = out') ∧ ((0 : Int) = j') ∧ (U = U) ∧ (E = E)) ∧ (∀ out : ZI, ∀ j : Int, (J1Z U E out j) → (((decide (j < (E.length : Int))) = true → ((∃ out2' : ZI, ∃ a' : Int, (J1V U E out j out2' a') ∧ (out = out2') ∧ (j = j) ∧ ((0 : Int) = a') ∧ (U = U) ∧ (E = E)) ∧ (∀ out2 : ZI, ∀ a : Int, (J1V U E out j out2 a) → ((0 : Int) ≤ j) ∧ ((j : Int) < E.length) ∧ (j.toNat < E.length) ∧ (((decide (a < (((E.getD j.toNat []).length) : Int))) = true → ((0 : Int) ≤ j) ∧ ((j : Int) < E.length) ∧ (j.toNat < E.length) ∧ ((0 : Int) ≤ a) ∧ ((a : Int) < (E.getD j.toNat []).length) ∧ (a.toNat < (E.getD j.toNat []).length) ∧ (PCs Tryz.prog 140 [.sl (.ints out2), .int .i64 ((E.getD j.toNat []).getD a.toNat 0)] 0 (.sl (.ints (putL out2 ((E.getD j.toNat []).getD a.toNat 0))))) ∧ (I6 (a + 1)) ∧ (∃ out2' : ZI, ∃ a' : Int, (J1V U E out j out2' a') ∧ (J1X U E out j out2' a' < J1X U E out j out2 a) ∧ ((putL out2 ((E.getD j.toNat []).getD a.toNat 0)) = out2') ∧ (j = j) ∧ ((a + 1) = a') ∧ (U = U) ∧ (E = E))) ∧ ((decide (a < (((E.getD j.toNat []).length) : Int))) = false → (I6 (j + 1)) ∧ (∃ out' : ZI, ∃ j' : Int, (J1Z U E out' j') ∧ (J1O U E out' j' < J1O U E out j) ∧ (out2 = out') ∧ ((j + 1) = j') ∧ (U = U) ∧ (E = E))))))) ∧ ((decide (j < (E.length : Int))) = false → (((out : ZI) = (J3 E)))))))
theorem Jbc (U : ZI) (E : ZR) (hg : J0 U E = true) (w_Open : (U.length : Int) ≤ 9223372036854775807) (w_Dist : (E.length : Int) ≤ 9223372036854775807) (v_Dist : ∀ x9 ∈ E, (x9.length : Int) ≤ 9223372036854775807) : J7b U E := by
  unfold J7b
  obtain ⟨g1, g2, g3⟩ := Jb hg
  refine ⟨?_, ?_⟩
  ·refine ⟨([]), 0, ?_⟩
   refine ⟨?_, ?_, rfl, rfl, rfl⟩
   ·refine ⟨?_, ?_, ?_⟩
    ·omega
    ·omega
    ·rfl
   rfl
  intro out j hJ
  obtain ⟨h1, h2, h3⟩ := hJ
  refine ⟨?_, ?_⟩
  ·intro b1
   try simp only [nrmT] at b1
   refine ⟨?_, ?_⟩
   ·refine ⟨out, 0, ?_⟩
    refine ⟨?_, rfl, rfl, rfl, rfl, rfl⟩
    ·refine ⟨?_, ?_, ?_⟩
     ·omega
     ·omega
     ·rw [h3]; simp
   intro out2 a hJ
   obtain ⟨h5, h6, h7⟩ := hJ
   refine ⟨?_, ?_, ?_, ?_, ?_⟩
   ·omega
   ·omega
   ·omega
   ·intro b2
    try simp only [nrmT] at b2
    refine ⟨?_, ?_, ?_, ?_, ?_, ?_, ?_, ?_, ?_⟩
    ·omega
    ·omega
    ·omega
    ·omega
    ·omega
    ·omega
    ·refine Jau out2 ((E.getD j.toNat []).getD a.toNat 0) ?_
     ·have rl := (Je hg (i := j.toNat) (by omega)).1
      have hb := J4s (E := E.take j.toNat) (m := 7) (fun l hl => by rw [JcM hg l (List.mem_of_mem_take hl)]; exact g2)
      have hb2 : (E.take j.toNat).length ≤ 7 := by rw [List.length_take]; omega
      have hb3 := J7G ((E.take j.toNat).flatten ++ (E.getD j.toNat []).take a.toNat) []
      rw [← h7, List.length_append, List.length_take] at hb3
      simp only [List.length_nil] at hb3
      omega
    ·have rl := (Je hg (i := j.toNat) (by omega)).1
     omega
    refine ⟨(putL out2 ((E.getD j.toNat []).getD a.toNat 0)), (a + 1), ?_⟩
    refine ⟨?_, ?_, rfl, rfl, rfl, rfl, rfl⟩
    ·refine ⟨?_, ?_, ?_⟩
     ·omega
     ·omega
     ·rw [take_step (d := 0) h5 (by omega), ← List.append_assoc, JeN, h7]
    (simp only [J1X]; omega)
   intro b3
   try simp only [nrmT] at b3
   refine ⟨?_, ?_⟩
   ·omega
   refine ⟨out2, (j + 1), ?_⟩
   refine ⟨?_, ?_, rfl, rfl, rfl, rfl⟩
   ·refine ⟨?_, ?_, ?_⟩
    ·omega
    ·omega
    ·rw [J8a h1 (by omega), h7, take_all (xs := E.getD j.toNat []) (by omega)]
   (simp only [J1O]; omega)
  intro b4
  try simp only [nrmT] at b4
  rw [h3, take_all (by omega)]; rfl
theorem J6B (U : ZI) (E : ZR) (hg : J0 U E = true) : PC Tryz.prog 104 [.agg [.sl (.ints U), .sl (.rows E)]] (.one (.d (.sl (.ints (J3 E))))) :=
  pc_wf @Tryz.call104 fun hw => pc_by (by kernel_rfl) Tryz.func104 @Tryz.call104 (by kernel_rfl) JcB (Jcr U E) (by kernel_rfl) (Jbc U E hg hw.1.1 hw.1.2.1.1 hw.1.2.1.2) (by kernel_rfl)
def J6c : List D → Orc := orcN [none] fun ds => match ds with
  | [.agg [.sl (.ints U), .sl (.rows E)]] => some (.one (.d (.sl (.ints (J3 E)))))
  | _ => none
def J71 (f : FuncId) (ds : List D) : Orc := bif Nat.beq f 192 then J4W ds else .no
def J6T (U : ZI) (E : ZR) : Ann := .two (.none) (.two (.none) (.two (.mark [] [(1, .up (.ints (E.flatten.mergeSort (fun x9 y9 => decide (x9 ≤ y9)))) false)]) (.two (.mark [] [(1, .up (.ints (Lib.compact (E.flatten.mergeSort (fun x9 y9 => decide (x9 ≤ y9))))) true)]) (.none))))
def J46 (U : ZI) (E : ZR) : Prop :=
  (PC Tryz.prog 192 [.sl (.rows E)] (.one (.own 3 (.ints E.flatten)))) ∧ (E.flatten.length = E.flatten.length) ∧ (PU Tryz.prog 193 3 (.ints E.flatten) (.ints (E.flatten.mergeSort (fun x9 y9 => decide (x9 ≤ y9)))) [] false) ∧ (E.flatten.length = (E.flatten.mergeSort (fun x9 y9 => decide (x9 ≤ y9))).length) ∧ (PU Tryz.prog 194 3 (.ints (E.flatten.mergeSort (fun x9 y9 => decide (x9 ≤ y9)))) (.ints (Lib.compact (E.flatten.mergeSort (fun x9 y9 => decide (x9 ≤ y9))))) [] true) ∧ (((Lib.compact (E.flatten.mergeSort (fun x9 y9 => decide (x9 ≤ y9)))).length = (Lib.compact (E.flatten.mergeSort (fun x9 y9 => decide (x9 ≤ y9)))).length) ∧ (((Lib.compact (E.flatten.mergeSort (fun x9 y9 => decide (x9 ≤ y9)))) : ZI) = J3 E))
theorem J6F (U : ZI) (E : ZR) (hg : J0 U E = true) (w_Open : (U.length : Int) ≤ 9223372036854775807) (w_Dist : (E.length : Int) ≤ 9223372036854775807) (v_Dist : ∀ x9 ∈ E, (x9.length : Int) ≤ 9223372036854775807) : J46 U E := by
  unfold J46
  obtain ⟨g1, g2, g3⟩ := Jb hg
  refine ⟨?_, rfl, ?_, ?_, J52 (E.flatten.mergeSort (fun x9 y9 => decide (x9 ≤ y9))), rfl, ?_⟩
  ·refine J5o E ?_ ?_
   ·intro l hl
    rw [JcM hg l hl]; exact g2
   ·exact g3
  ·refine J5U E.flatten ?_
   ·have := J05 hg; omega
  ·(simp_all; done)
  exact Jdw E
theorem J3s (U : ZI) (E : ZR) (hg : J0 U E = true) : PC Tryz.prog 101 [.agg [.sl (.ints U), .sl (.rows E)]] (.one (.own 3 (.ints (J3 E)))) :=
  pc_wf @Tryz.call101 fun hw => pc_by (by kernel_rfl) Tryz.func101 @Tryz.call101 (by kernel_rfl) J71 (J6T U E) (by kernel_rfl) (J6F U E hg hw.1.1 hw.1.2.1.1 hw.1.2.1.2) (by kernel_rfl)
def J2V : List D → Orc := orcN [none] fun ds => match ds with
  | [.agg [.sl (.ints U), .sl (.rows E)]] => some (.one (.own 3 (.ints (J3 E))))
  | _ => none
def Jcl (f : FuncId) (ds : List D) : Orc := bif Nat.beq f 112 then J87 ds else bif Nat.beq f 104 then J6c ds else .no
def Jcn (U : ZI) (E : ZR) : Ann := .none
def J79 (U : ZI) (E : ZR) : Prop :=
  (PC Tryz.prog 112 [.agg [.sl (.ints U), .sl (.rows E)]] (.one (.d (.bool (J0 U E))))) ∧ (((!(J0 U E)) = true → (((0 : Nat) = 0) ∧ (([] : ZI) = (JI U E)) ∧ (false = (J0 U E)))) ∧ ((!(J0 U E)) = false → (PC Tryz.prog 104 [.agg [.sl (.ints U), .sl (.rows E)]] (.one (.d (.sl (.ints (J3 E)))))) ∧ ((((J3 E) : ZI) = (JI U E)) ∧ (true = (J0 U E)))))
theorem Jbh (U : ZI) (E : ZR)  (w_Open : (U.length : Int) ≤ 9223372036854775807) (w_Dist : (E.length : Int) ≤ 9223372036854775807) (v_Dist : ∀ x9 ∈ E, (x9.length : Int) ≤ 9223372036854775807) : J79 U E := by
  unfold J79
  refine ⟨J8T U E, ?_, ?_⟩
  ·intro b1
   try simp only [nrmT] at b1
   refine ⟨rfl, ?_, ?_⟩
   ·unfold JI; rw [b1]; rfl
   exact b1.symm
  intro b2
  try simp only [nrmT] at b2
  refine ⟨?_, ?_, ?_⟩
  ·refine J6B U E ?_
   ·exact b2
  ·unfold JI; rw [if_pos b2]
  exact b2.symm
theorem Jb5 (U : ZI) (E : ZR)  : PC Tryz.prog 22 [.agg [.sl (.ints U), .sl (.rows E)]] (.tup [.d (.sl (.ints (JI U E))), .d (.bool (J0 U E))]) :=
  pc_wf @Tryz.call22 fun hw => pc_by (by kernel_rfl) Tryz.func22 @Tryz.call22 (by kernel_rfl) Jcl (Jcn U E) (by kernel_rfl) (Jbh U E hw.1.1 hw.1.2.1.1 hw.1.2.1.2) (by kernel_rfl)
def Jae : List D → Orc := orcN [none] fun ds => match ds with
  | [.agg [.sl (.ints U), .sl (.rows E)]] => some (.tup [.d (.sl (.ints (JI U E))), .d (.bool (J0 U E))])
  | _ => none
def Jcs (f : FuncId) (ds : List D) : Orc := bif Nat.beq f 111 then J1E ds else bif Nat.beq f 101 then J2V ds else .no
def Jc5 (U : ZI) (E : ZR) : Ann := .none
def J7a (U : ZI) (E : ZR) : Prop :=
  (PC Tryz.prog 111 [.agg [.sl (.ints U), .sl (.rows E)]] (.one (.d (.bool (J0 U E))))) ∧ (((!(J0 U E)) = true → (((JI U E).length = 0) ∧ (false = (J0 U E)))) ∧ ((!(J0 U E)) = false → (PC Tryz.prog 101 [.agg [.sl (.ints U), .sl (.rows E)]] (.one (.own 3 (.ints (J3 E))))) ∧ (((J3 E).length = (J3 E).length) ∧ ((J3 E : ZI) = JI U E) ∧ (true = (J0 U E)))))
theorem JaW (U : ZI) (E : ZR)  (w_Open : (U.length : Int) ≤ 9223372036854775807) (w_Dist : (E.length : Int) ≤ 9223372036854775807) (v_Dist : ∀ x9 ∈ E, (x9.length : Int) ≤ 9223372036854775807) : J7a U E := by
  unfold J7a
  refine ⟨J2a U E, ?_, ?_⟩
  ·intro b1
   try simp only [nrmT] at b1
   refine ⟨?_, ?_⟩
   ·unfold JI; rw [b1]; rfl
   exact b1.symm
  intro b2
  try simp only [nrmT] at b2
  refine ⟨?_, rfl, ?_, ?_⟩
  ·refine J3s U E ?_
   ·exact b2
  ·unfold JI; rw [if_pos b2]
  exact b2.symm
theorem JaV (U : ZI) (E : ZR)  : PC Tryz.prog 21 [.agg [.sl (.ints U), .sl (.rows E)]] (.tup [.own 3 (.ints (JI U E)), .d (.bool (J0 U E))]) :=
  pc_wf @Tryz.call21 fun hw => pc_by (by kernel_rfl) Tryz.func21 @Tryz.call21 (by kernel_rfl) Jcs (Jc5 U E) (by kernel_rfl) (JaW U E hw.1.1 hw.1.2.1.1 hw.1.2.1.2) (by kernel_rfl)
def Jav : List D → Orc := orcN [none] fun ds => match ds with
  | [.agg [.sl (.ints U), .sl (.rows E)]] => some (.tup [.own 3 (.ints (JI U E)), .d (.bool (J0 U E))])
  | _ => none
theorem J62 {l : ZI} {lo hi : Int} (ha : Asc l) (hb : ∀ x ∈ l, lo ≤ x ∧ x ≤ hi) : J2 l lo hi = true :=
  allTo_iff.2 fun k hk => by
    unfold J2e
    rw [Bool.and_eq_true, Bool.or_eq_true]
    refine ⟨decide_eq_true (hb _ (getD_mem hk)), ?_⟩
    by_cases e : k = 0
    · exact .inl (decide_eq_true e)
    right
    have := List.pairwise_iff_getElem.1 ha (k - 1) k (by omega) hk (by omega)
    rw [Ja hk, Ja (by omega)]
    exact decide_eq_true this
theorem Jeq {n c : Nat} : Asc (lst n c) := asc_members _ _
theorem J1H {U : ZI} {E : ZR} (hg : J0 U E = true) {s : ZI} (hs : s ∈ J6 (U.length : Int).toNat) :
    (J0 U E && J2 s 0 ((U.length : Int) - 1) && decide (0 < s.length)) = true ∧ s.length ≤ 7 := by
  obtain ⟨g1, g2, g3⟩ := Jb hg
  rw [Int.toNat_natCast] at hs
  obtain ⟨c, h1, h2, rfl⟩ := J7U.1 hs
  have hl := Jgv (n := U.length) (code := c)
  refine ⟨?_, by omega⟩
  rw [hg, J62 Jeq (fun x hx => by have := Ja6 x hx; omega), decide_eq_true (Jgx h1 h2)]
  rfl
theorem Jg9 {n : Nat} (h : 1 ≤ n) : 0 < (J6 n).length := by
  rw [JbO]
  have := Nat.pow_le_pow_right (n := 2) (by omega) h
  omega
theorem J6Q {n : Nat} (h : n ≤ 7) : (J6 n).length ≤ 127 := by
  rw [JbO]
  have := Nat.pow_le_pow_right (n := 2) (by omega) h
  have e : (2 : Nat) ^ 7 = 128 := by decide
  omega
def JgN (xs : ZI) (b : Int) (k : Nat) : Int := max b (xs.getD k 0)
def J4B (xs : ZI) (k : Nat) : Int := foldTo (JgN xs) (xs.getD 0 0) k
def J84 (xs : ZI) : Int := J4B xs xs.length
theorem Jaq (xs : ZI) (k : Nat) : J4B xs (k + 1) = max (J4B xs k) (xs.getD k 0) := rfl
theorem JcP (xs : ZI) : ∀ k, 0 < k → (∀ j, j < k → xs.getD j 0 ≤ J4B xs k) ∧ ∃ j, j < k ∧ J4B xs k = xs.getD j 0
  | 0, h => by omega
  | k + 1, _ => by
    rw [Jaq]
    by_cases hk : 0 < k
    · obtain ⟨h1, j, h2, h3⟩ := JcP xs k hk
      refine ⟨fun i hi => ?_, ?_⟩
      · by_cases e : i = k
        · subst e; omega
        · have := h1 i (by omega); omega
      by_cases e : xs.getD k 0 ≤ J4B xs k
      · exact ⟨j, by omega, by omega⟩
      · exact ⟨k, by omega, by omega⟩
    have : k = 0 := by omega
    subst this
    have e : J4B xs 0 = xs.getD 0 0 := rfl
    refine ⟨fun i hi => ?_, 0, by omega, by omega⟩
    have : i = 0 := by omega
    subst this; omega
def JgO (E : ZR) (set : ZI) (m : Int) (j : Nat) : Int := max m (J0D E set j)
def J44 (E : ZR) (set : ZI) (k : Nat) : Int := foldTo (JgO E set) 0 k
def J5 (E : ZR) (set : ZI) : Int := J44 E set E.length
theorem Jac (E : ZR) (set : ZI) (k : Nat) : J44 E set (k + 1) = max (J44 E set k) (J0D E set k) := rfl
theorem J5w (E : ZR) (set : ZI) : ∀ k, 0 ≤ J44 E set k ∧ (∀ j, j < k → J0D E set j ≤ J44 E set k) ∧ (J44 E set k = 0 ∨ ∃ j, j < k ∧ J44 E set k = J0D E set j)
  | 0 => ⟨Int.le_refl _, fun j hj => by omega, .inl rfl⟩
  | k + 1 => by
    obtain ⟨h1, h2, h3⟩ := J5w E set k
    rw [Jac]
    refine ⟨by omega, fun j hj => ?_, ?_⟩
    · by_cases e : j = k
      · subst e; omega
      · have := h2 j (by omega); omega
    by_cases e : J0D E set k ≤ J44 E set k
    · rcases h3 with h3 | ⟨j, h3, h4⟩
      · left; omega
      · right; exact ⟨j, by omega, by omega⟩
    · right; exact ⟨k, by omega, by omega⟩
theorem JgB (E : ZR) (set : ZI) : J84 (JJ E set E.length ++ [0]) = J5 E set := by
  have el : (JJ E set E.length ++ [0]).length = E.length + 1 := by simp [J3v]
  have ge : ∀ j, j < E.length → (JJ E set E.length ++ [0]).getD j 0 = J0D E set j := fun j hj => by
    rw [← JeI E set E.length j hj, List.getD_eq_getElem?_getD, List.getElem?_append_left (by rw [J3v]; exact hj), ← List.getD_eq_getElem?_getD]
  have gl : (JJ E set E.length ++ [0]).getD E.length 0 = 0 := by
    rw [List.getD_eq_getElem?_getD, List.getElem?_append_right (by rw [J3v]; exact Nat.le_refl _), J3v, Nat.sub_self]; rfl
  obtain ⟨h1, j, h2, h3⟩ := JcP (JJ E set E.length ++ [0]) (E.length + 1) (by omega)
  obtain ⟨k1, k2, k3⟩ := J5w E set E.length
  unfold J84 J5
  rw [el]
  have a0 := h1 E.length (by omega)
  rw [gl] at a0
  have u : J4B (JJ E set E.length ++ [0]) (E.length + 1) ≤ J44 E set E.length := by
    rw [h3]
    by_cases e : j = E.length
    · rw [e, gl]; exact k1
    rw [ge j (by omega)]; exact k2 j (by omega)
  have l : J44 E set E.length ≤ J4B (JJ E set E.length ++ [0]) (E.length + 1) := by
    rcases k3 with k3 | ⟨i, k3, k4⟩
    · omega
    have := h1 i (by omega)
    rw [ge i k3] at this
    omega
  omega
def J6I (U : ZI) (E : ZR) (r : Int) : Int := idxI (fun s => decide (J5 E s ≤ r)) (J6 (U.length : Int).toNat)
def JK (U : ZI) (E : ZR) (r : Int) : Bool := (J0 U E && decide (0 ≤ r)) && decide (0 ≤ J6I U E r)
def J0a (U : ZI) (E : ZR) (r : Int) : ZI := if JK U E r = true then (J6 (U.length : Int).toNat).getD (J6I U E r).toNat [] else []
theorem Jen {U : ZI} {E : ZR} {r i : Int} (hg : J0 U E = true) (hr : 0 ≤ r) (h0 : 0 ≤ i) (h : J6I U E r = i) : JK U E r = true ∧ J0a U E r = (J6 (U.length : Int).toNat).getD i.toNat [] := by
  have e : JK U E r = true := by rw [JK, hg, decide_eq_true hr, h, decide_eq_true h0]; rfl
  exact ⟨e, by rw [J0a, if_pos e, h]⟩
theorem J6S {U : ZI} {E : ZR} {r : Int} (h : (J0 U E && decide (0 ≤ r)) = false ∨ J6I U E r = -1) : JK U E r = false ∧ J0a U E r = [] := by
  have e : JK U E r = false := by
    rw [JK]
    rcases h with h | h
    · rw [h]; rfl
    rw [h, decide_eq_false (show ¬ (0 : Int) ≤ -1 by omega), Bool.and_false]
  exact ⟨e, by rw [J0a, e]; rfl⟩
abbrev J0e (xs : ZI) (m : Int) (i : Int) : Prop := (1 ≤ i) ∧ (i ≤ (xs.length : Int)) ∧ (m = J4B xs i.toNat)
abbrev J0c (xs : ZI) (m : Int) (i : Int) : Nat := (xs.length - i).toNat
def J6y (f : FuncId) (ds : List D) : Orc := .no
def J6q (xs : ZI) : Ann := .two (.none) (.two (.two (.none) (.goF (.none))) (.two (.none) (.two (.two (.none) (.loop (cut2 (fun (m : Int) (i : Int) => J0e xs m i) (fun (m : Int) (i : Int) => [(0, .d false (.sl (.ints xs))), (3, .d true (.int .i64 m)), (4, .d true (.int .i64 i))]) (fun (m : Int) (i : Int) => [])) (fun g => J0c xs g.1 g.2) (fun _ => .none))) (.none))))
def J3u (xs : ZI) : Prop :=
  ((decide ((xs.length : Int) < 1)) = false) ∧ ((0 : Int) ≤ 0) ∧ ((0 : Int) < xs.length) ∧ (0 < xs.length) ∧ ((∃ m' : Int, ∃ i' : Int, (J0e xs m' i') ∧ (xs = xs) ∧ ((xs.getD 0 0) = m') ∧ ((1 : Int) = i')) ∧ (∀ m : Int, ∀ i : Int, (J0e xs m i) → (((decide (i < (xs.length : Int))) = true → ((0 : Int) ≤ i) ∧ ((i : Int) < xs.length) ∧ (i.toNat < xs.length) ∧ (I6 (i + 1)) ∧ (∃ m' : Int, ∃ i' : Int, (J0e xs m' i') ∧ (J0c xs m' i' < J0c xs m i) ∧ (xs = xs) ∧ ((max m (xs.getD i.toNat 0)) = m') ∧ ((i + 1) = i'))) ∧ ((decide (i < (xs.length : Int))) = false → ((m = (J84 xs)))))))
theorem J6i (xs : ZI) (hp : 0 < xs.length) (w_xs : (xs.length : Int) ≤ 9223372036854775807) : J3u xs := by
  unfold J3u
  refine ⟨?_, ?_, ?_, ?_, ?_, ?_⟩
  ·exact decide_eq_false (by omega)
  ·omega
  ·omega
  ·omega
  ·refine ⟨(xs.getD 0 0), 1, ?_⟩
   refine ⟨?_, rfl, rfl, rfl⟩
   ·refine ⟨?_, ?_, ?_⟩
    ·omega
    ·omega
    ·show _ = max (xs.getD 0 0) (xs.getD 0 0)
     omega
  intro m i hJ
  obtain ⟨h1, h2, h3⟩ := hJ
  refine ⟨?_, ?_⟩
  ·intro b1
   try simp only [nrmT] at b1
   refine ⟨?_, ?_, ?_, ?_, ?_⟩
   ·omega
   ·omega
   ·omega
   ·omega
   refine ⟨(max m (xs.getD i.toNat 0)), (i + 1), ?_⟩
   refine ⟨?_, ?_, rfl, rfl, rfl⟩
   ·refine ⟨?_, ?_, ?_⟩
    ·omega
    ·omega
    ·rw [h3, show (i + 1).toNat = i.toNat + 1 by omega, Jaq]
   (simp only [J0c]; omega)
  intro b2
  try simp only [nrmT] at b2
  unfold J84; rw [h3, show i.toNat = xs.length by omega]
theorem J6o (xs : ZI) (hp : 0 < xs.length) : PC Tryz.prog 191 [.sl (.ints xs)] (.one (.d (.int .i64 (J84 xs)))) :=
  pc_wf @Tryz.call191 fun hw => pc_by (by kernel_rfl) Tryz.func191 @Tryz.call191 (by kernel_rfl) J6y (J6q xs) (by kernel_rfl) (J6i xs hp hw.1) (by kernel_rfl)
def J5R : List D → Orc := orcN [some .ints] fun ds => match ds with
  | [.sl (.ints xs)] => some (.one (.d (.int .i64 (J84 xs))))
  | _ => none
abbrev J4C (U : ZI) (E : ZR) (set : ZI) (most : Int) (i : Int) : Prop := (0 ≤ i) ∧ (i ≤ (E.length : Int)) ∧ (most = J44 E set i.toNat)
abbrev J4F (U : ZI) (E : ZR) (set : ZI) (most : Int) (i : Int) : Nat := (E.length - i).toNat
def Jfx (f : FuncId) (ds : List D) : Orc := bif Nat.beq f 150 then Jak ds else bif Nat.beq f 154 then J5D ds else .no
def JfG (U : ZI) (E : ZR) (set : ZI) : Ann := .two (.none) (.two (.none) (.two (.two (.none) (.loop (cut2 (fun (most : Int) (i : Int) => J4C U E set most i) (fun (most : Int) (i : Int) => [(1, .d false (.sl (.ints set))), (2, .ptr 2 0), (5, .d true (.int .i64 most)), (6, .d true (.int .i64 i))]) (fun (most : Int) (i : Int) => [(2, .box 27 [.d false (.sl (.ints U)), .d false (.sl (.rows E))])])) (fun g => J4F U E set g.1 g.2) (fun _ => .none))) (.none)))
def JbT (U : ZI) (E : ZR) (set : ZI) : Prop :=
  ((∃ most' : Int, ∃ i' : Int, (J4C U E set most' i') ∧ (set = set) ∧ ((0 : Int) = most') ∧ ((0 : Int) = i') ∧ (U = U) ∧ (E = E)) ∧ (∀ most : Int, ∀ i : Int, (J4C U E set most i) → (((decide (i < (E.length : Int))) = true → (PC Tryz.prog 150 [.agg [.sl (.ints U), .sl (.rows E)], .int .i64 i, .sl (.ints set)] (.one (.d (.int .i64 ((E.getD i.toNat []).getD (Jh (E.getD i.toNat []) set set.length).toNat 0))))) ∧ (PC Tryz.prog 154 [.int .i64 most, .int .i64 ((E.getD i.toNat []).getD (Jh (E.getD i.toNat []) set set.length).toNat 0)] (.one (.d (.int .i64 (max most ((E.getD i.toNat []).getD (Jh (E.getD i.toNat []) set set.length).toNat 0)))))) ∧ (I6 (i + 1)) ∧ (∃ most' : Int, ∃ i' : Int, (J4C U E set most' i') ∧ (J4F U E set most' i' < J4F U E set most i) ∧ (set = set) ∧ ((max most ((E.getD i.toNat []).getD (Jh (E.getD i.toNat []) set set.length).toNat 0)) = most') ∧ ((i + 1) = i') ∧ (U = U) ∧ (E = E))) ∧ ((decide (i < (E.length : Int))) = false → ((most = (J5 E set)))))))
theorem Jfc (U : ZI) (E : ZR) (set : ZI) (ht : (J0 U E && J2 set 0 ((U.length : Int) - 1) && decide (0 < set.length)) = true) (w_Open : (U.length : Int) ≤ 9223372036854775807) (w_Dist : (E.length : Int) ≤ 9223372036854775807) (v_Dist : ∀ x9 ∈ E, (x9.length : Int) ≤ 9223372036854775807) (w_set : (set.length : Int) ≤ 9223372036854775807) : JbT U E set := by
  unfold JbT
  obtain ⟨hg, hs, hp⟩ := J1h ht
  obtain ⟨g1, g2, g3⟩ := Jb hg
  refine ⟨?_, ?_⟩
  ·refine ⟨0, 0, ?_⟩
   refine ⟨?_, rfl, rfl, rfl, rfl, rfl⟩
   ·refine ⟨?_, ?_, ?_⟩
    ·omega
    ·omega
    ·rfl
  intro most i hJ
  obtain ⟨h1, h2, h3⟩ := hJ
  refine ⟨?_, ?_⟩
  ·intro b1
   try simp only [nrmT] at b1
   refine ⟨?_, J6k most ((E.getD i.toNat []).getD (Jh (E.getD i.toNat []) set set.length).toNat 0), ?_, ?_⟩
   ·refine JaZ U E i set ?_ ?_
    ·exact ht
    ·omega
   ·omega
   refine ⟨(max most ((E.getD i.toNat []).getD (Jh (E.getD i.toNat []) set set.length).toNat 0)), (i + 1), ?_⟩
   refine ⟨?_, ?_, rfl, rfl, rfl, rfl, rfl⟩
   ·refine ⟨?_, ?_, ?_⟩
    ·omega
    ·omega
    ·rw [h3, show (i + 1).toNat = i.toNat + 1 by omega, Jac]; rfl
   (simp only [J4F]; omega)
  intro b2
  try simp only [nrmT] at b2
  rw [h3, show i.toNat = E.length by omega]; rfl
theorem J70 (U : ZI) (E : ZR) (set : ZI) (ht : (J0 U E && J2 set 0 ((U.length : Int) - 1) && decide (0 < set.length)) = true) : PC Tryz.prog 100 [.agg [.sl (.ints U), .sl (.rows E)], .sl (.ints set)] (.one (.d (.int .i64 (J5 E set)))) :=
  pc_wf @Tryz.call100 fun hw => pc_by (by kernel_rfl) Tryz.func100 @Tryz.call100 (by kernel_rfl) Jfx (JfG U E set) (by kernel_rfl) (Jfc U E set ht hw.1.1 hw.1.2.1.1 hw.1.2.1.2 hw.2.1) (by kernel_rfl)
def J96 : List D → Orc := orcN [none, some .ints] fun ds => match ds with
  | [.agg [.sl (.ints U), .sl (.rows E)], .sl (.ints set)] => some (.one (.d (.int .i64 (J5 E set))))
  | _ => none
def JaM (f : FuncId) (ds : List D) : Orc := bif Nat.beq f 149 then J7w ds else bif Nat.beq f 191 then J5R ds else .no
def Jaf (U : ZI) (E : ZR) (set : ZI) : Ann := .none
def J68 (U : ZI) (E : ZR) (set : ZI) : Prop :=
  (PC Tryz.prog 149 [.agg [.sl (.ints U), .sl (.rows E)], .sl (.ints set)] (.one (.own 3 (.ints (JJ E set E.length))))) ∧ ((JJ E set E.length).length = (JJ E set E.length).length) ∧ ((1 : Nat) = 1) ∧ (((JJ E set E.length).length + 1) * 8 ≤ 140737488355328) ∧ (((JJ E set E.length).length + 1) = (JJ E set E.length ++ [0]).length) ∧ (PC Tryz.prog 191 [.sl (.ints (JJ E set E.length ++ [0]))] (.one (.d (.int .i64 (J84 (JJ E set E.length ++ [0])))))) ∧ (((J84 (JJ E set E.length ++ [0])) = (J5 E set)))
theorem J9E (U : ZI) (E : ZR) (set : ZI) (ht : (J0 U E && J2 set 0 ((U.length : Int) - 1) && decide (0 < set.length)) = true) (w_Open : (U.length : Int) ≤ 9223372036854775807) (w_Dist : (E.length : Int) ≤ 9223372036854775807) (v_Dist : ∀ x9 ∈ E, (x9.length : Int) ≤ 9223372036854775807) (w_set : (set.length : Int) ≤ 9223372036854775807) : J68 U E set := by
  unfold J68
  obtain ⟨hg, hs, hp⟩ := J1h ht
  obtain ⟨g1, g2, g3⟩ := Jb hg
  refine ⟨?_, rfl, rfl, ?_, ?_, ?_, ?_⟩
  ·refine J7Z U E set ?_
   ·exact ht
  ·rw [J3v]; omega
  ·(simp_all; done)
  ·refine J6o (JJ E set E.length ++ [0]) ?_
   ·simp
  exact JgB E set
theorem J0Y (U : ZI) (E : ZR) (set : ZI) (ht : (J0 U E && J2 set 0 ((U.length : Int) - 1) && decide (0 < set.length)) = true) : PC Tryz.prog 96 [.agg [.sl (.ints U), .sl (.rows E)], .sl (.ints set)] (.one (.d (.int .i64 (J5 E set)))) :=
  pc_wf @Tryz.call96 fun hw => pc_by (by kernel_rfl) Tryz.func96 @Tryz.call96 (by kernel_rfl) JaM (Jaf U E set) (by kernel_rfl) (J9E U E set ht hw.1.1 hw.1.2.1.1 hw.1.2.1.2 hw.2.1) (by kernel_rfl)
def J1o : List D → Orc := orcN [none, some .ints] fun ds => match ds with
  | [.agg [.sl (.ints U), .sl (.rows E)], .sl (.ints set)] => some (.one (.d (.int .i64 (J5 E set))))
  | _ => none
abbrev J17 (U : ZI) (E : ZR) (r : Int) (i : Int) : Prop := (0 ≤ i) ∧ (i ≤ ((J6 (U.length : Int).toNat).length : Int)) ∧ (∀ k, k < i.toNat → (fun s => decide (J5 E s ≤ r)) ((J6 (U.length : Int).toNat).getD k []) = false)
abbrev J12 (U : ZI) (E : ZR) (r : Int) (i : Int) : Nat := ((J6 (U.length : Int).toNat).length - i).toNat
def J8y (f : FuncId) (ds : List D) : Orc := bif Nat.beq f 114 then Jbf ds else bif Nat.beq f 115 then Jah ds else bif Nat.beq f 96 then J1o ds else .no
def J8B (U : ZI) (E : ZR) (r : Int) : Ann := .two (.none) (.two (.none) (.two (.two (.none) (.loop (cut1 (fun (i : Int) => J17 U E r i) (fun (i : Int) => [(1, .d false (.int .i64 r)), (2, .ptr 2 0), (15, .own 15 ((J6 (U.length : Int).toNat).length)), (16, .d true (.int .i64 (((J6 (U.length : Int).toNat).length) : Int))), (17, .d true (.int .i64 i))]) (fun (i : Int) => [(2, .box 27 [.d false (.sl (.ints U)), .d false (.sl (.rows E))]), (15, .arr true 24 (.rows (J6 (U.length : Int).toNat)))])) (fun g => J12 U E r g) (fun _ => .none))) (.none)))
def J57 (U : ZI) (E : ZR) (r : Int) : Prop :=
  (PC Tryz.prog 114 [.agg [.sl (.ints U), .sl (.rows E)], .int .i64 r] (.one (.d (.bool (J0 U E && decide (0 ≤ r)))))) ∧ (((!(J0 U E && decide (0 ≤ r))) = true → (((J0a U E r).length = 0) ∧ (false = (JK U E r)))) ∧ ((!(J0 U E && decide (0 ≤ r))) = false → (PC Tryz.prog 115 [.int .i64 (U.length : Int)] (.one (.own 24 (.rows (J6 (U.length : Int).toNat))))) ∧ ((∃ i' : Int, (J17 U E r i') ∧ (r = r) ∧ ((J6 (U.length : Int).toNat).length = (J6 (U.length : Int).toNat).length) ∧ ((((J6 (U.length : Int).toNat).length) : Int) = (((J6 (U.length : Int).toNat).length) : Int)) ∧ ((0 : Int) = i') ∧ (U = U) ∧ (E = E) ∧ (J6 (U.length : Int).toNat = J6 (U.length : Int).toNat)) ∧ (∀ i : Int, (J17 U E r i) → (((decide (i < (((J6 (U.length : Int).toNat).length) : Int))) = true → ((0 : Int) ≤ i) ∧ ((i : Int) < (((J6 (U.length : Int).toNat).length) : Int)) ∧ (i.toNat < (J6 (U.length : Int).toNat).length) ∧ (PC Tryz.prog 96 [.agg [.sl (.ints U), .sl (.rows E)], .sl (.ints ((J6 (U.length : Int).toNat).getD i.toNat []))] (.one (.d (.int .i64 (J5 E ((J6 (U.length : Int).toNat).getD i.toNat [])))))) ∧ (((decide ((J5 E ((J6 (U.length : Int).toNat).getD i.toNat [])) ≤ r)) = true → (((((J6 (U.length : Int).toNat).getD i.toNat []) : ZI) = (J0a U E r)) ∧ (true = (JK U E r)))) ∧ ((decide ((J5 E ((J6 (U.length : Int).toNat).getD i.toNat [])) ≤ r)) = false → (I6 (i + 1)) ∧ (∃ i' : Int, (J17 U E r i') ∧ (J12 U E r i' < J12 U E r i) ∧ (r = r) ∧ ((J6 (U.length : Int).toNat).length = (J6 (U.length : Int).toNat).length) ∧ ((((J6 (U.length : Int).toNat).length) : Int) = (((J6 (U.length : Int).toNat).length) : Int)) ∧ ((i + 1) = i') ∧ (U = U) ∧ (E = E) ∧ (J6 (U.length : Int).toNat = J6 (U.length : Int).toNat))))) ∧ ((decide (i < (((J6 (U.length : Int).toNat).length) : Int))) = false → (((J0a U E r).length = 0) ∧ (false = (JK U E r)))))))))
theorem J85 (U : ZI) (E : ZR) (r : Int)  (w_Open : (U.length : Int) ≤ 9223372036854775807) (w_Dist : (E.length : Int) ≤ 9223372036854775807) (v_Dist : ∀ x9 ∈ E, (x9.length : Int) ≤ 9223372036854775807) : J57 U E r := by
  unfold J57
  refine ⟨Jc2 U E r, ?_, ?_⟩
  ·intro b1
   try simp only [Bool.not_eq_true', Bool.not_eq_false', Bool.not_not] at b1
   refine ⟨?_, ?_⟩
   ·obtain ⟨c1, c2⟩ := J6S (U := U) (E := E) (r := r) (.inl (by simpa using b1))
    (rw [c2]; rfl)
   obtain ⟨c1, c2⟩ := J6S (U := U) (E := E) (r := r) (.inl (by simpa using b1))
   exact c1.symm
  intro b2
  try simp only [Bool.not_eq_true', Bool.not_eq_false', Bool.not_not] at b2
  refine ⟨?_, ?_, ?_⟩
  ·refine JbE (U.length : Int) ?_
   ·have hgr : (J0 U E && decide (0 ≤ r)) = true := by simpa using b2
    rw [Bool.and_eq_true] at hgr
    obtain ⟨hg, hr⟩ := hgr
    have hr := of_decide_eq_true hr
    have := Jb hg
    omega
  ·refine ⟨0, ?_⟩
   refine ⟨?_, rfl, rfl, rfl, rfl, rfl, rfl, rfl⟩
   ·refine ⟨?_, ?_, ?_⟩
    ·omega
    ·omega
    ·intro k hk; exact absurd hk (by simp)
  intro i hJ
  obtain ⟨h1, h2, h3⟩ := hJ
  refine ⟨?_, ?_⟩
  ·intro b3
   try simp only [nrmT] at b3
   refine ⟨?_, ?_, ?_, ?_, ?_, ?_⟩
   ·omega
   ·omega
   ·omega
   ·refine J0Y U E ((J6 (U.length : Int).toNat).getD i.toNat []) ?_
    ·have hgr : (J0 U E && decide (0 ≤ r)) = true := by simpa using b2
     rw [Bool.and_eq_true] at hgr
     obtain ⟨hg, hr⟩ := hgr
     have hr := of_decide_eq_true hr
     have ht2 := (J1H hg (getD_memI (d := []) h1 (by omega : i < ((J6 (U.length : Int).toNat).length : Int)))).1
     exact ht2
   ·intro b4
    try simp only [nrmT] at b4
    refine ⟨?_, ?_⟩
    ·have hgr : (J0 U E && decide (0 ≤ r)) = true := by simpa using b2
     rw [Bool.and_eq_true] at hgr
     obtain ⟨hg, hr⟩ := hgr
     have hr := of_decide_eq_true hr
     have ht2 := (J1H hg (getD_memI (d := []) h1 (by omega : i < ((J6 (U.length : Int).toNat).length : Int)))).1
     obtain ⟨c1, c2⟩ := Jen hg hr h1 (idx_found (p := fun s => decide (J5 E s ≤ r)) (d := []) h1 (by omega) h3 (by simpa using b4)).symm
     exact c2.symm
    have hgr : (J0 U E && decide (0 ≤ r)) = true := by simpa using b2
    rw [Bool.and_eq_true] at hgr
    obtain ⟨hg, hr⟩ := hgr
    have hr := of_decide_eq_true hr
    have ht2 := (J1H hg (getD_memI (d := []) h1 (by omega : i < ((J6 (U.length : Int).toNat).length : Int)))).1
    obtain ⟨c1, c2⟩ := Jen hg hr h1 (idx_found (p := fun s => decide (J5 E s ≤ r)) (d := []) h1 (by omega) h3 (by simpa using b4)).symm
    exact c1.symm
   intro b5
   try simp only [nrmT] at b5
   refine ⟨?_, ?_⟩
   ·have hgr : (J0 U E && decide (0 ≤ r)) = true := by simpa using b2
    rw [Bool.and_eq_true] at hgr
    obtain ⟨hg, hr⟩ := hgr
    have hr := of_decide_eq_true hr
    have := Jb hg
    have := J6Q (n := (U.length : Int).toNat) (by omega)
    omega
   refine ⟨(i + 1), ?_⟩
   refine ⟨?_, ?_, rfl, rfl, rfl, rfl, rfl, rfl, rfl⟩
   ·refine ⟨?_, ?_, ?_⟩
    ·omega
    ·omega
    ·exact idx_step (p := fun s => decide (J5 E s ≤ r)) h1 h3 (by simpa using b5)
   (simp only [J12]; omega)
  intro b6
  try simp only [nrmT] at b6
  refine ⟨?_, ?_⟩
  ·have hgr : (J0 U E && decide (0 ≤ r)) = true := by simpa using b2
   rw [Bool.and_eq_true] at hgr
   obtain ⟨hg, hr⟩ := hgr
   have hr := of_decide_eq_true hr
   obtain ⟨c1, c2⟩ := J6S (U := U) (E := E) (r := r) (.inr (idx_none (p := fun s => decide (J5 E s ≤ r)) (d := []) (by omega) h3))
   (rw [c2]; rfl)
  have hgr : (J0 U E && decide (0 ≤ r)) = true := by simpa using b2
  rw [Bool.and_eq_true] at hgr
  obtain ⟨hg, hr⟩ := hgr
  have hr := of_decide_eq_true hr
  obtain ⟨c1, c2⟩ := J6S (U := U) (E := E) (r := r) (.inr (idx_none (p := fun s => decide (J5 E s ≤ r)) (d := []) (by omega) h3))
  exact c1.symm
theorem J7R (U : ZI) (E : ZR) (r : Int)  : PC Tryz.prog 27 [.agg [.sl (.ints U), .sl (.rows E)], .int .i64 r] (.tup [.d (.sl (.ints (J0a U E r))), .d (.bool (JK U E r))]) :=
  pc_wf @Tryz.call27 fun hw => pc_by (by kernel_rfl) Tryz.func27 @Tryz.call27 (by kernel_rfl) J8y (J8B U E r) (by kernel_rfl) (J85 U E r hw.1.1 hw.1.2.1.1 hw.1.2.1.2) (by kernel_rfl)
def J7u : List D → Orc := orcN [none, none] fun ds => match ds with
  | [.agg [.sl (.ints U), .sl (.rows E)], .int .i64 r] => some (.tup [.d (.sl (.ints (J0a U E r))), .d (.bool (JK U E r))])
  | _ => none
def frP (U : ZI) (E : ZR) (k : Int) (r9 : Int) : Bool := J8 E r9 && decide (((J0i U.length E r9 (2 ^ E.length)).length : Int) ≤ k)
def JgH (U : ZI) (E : ZR) (k : Int) : Int := (J3 E).getD (idxI (frP U E k) (J3 E)).toNat 0
def frL (U : ZI) (E : ZR) (k : Int) : Int := if (J0 U E && inB k 1 (U.length : Int)) = true then (if idxI (frP U E k) (J3 E) < 0 then 0 else JgH U E k) else 0
theorem Jgr {U : ZI} {E : ZR} {k : Int} (h : (J0 U E && inB k 1 (U.length : Int)) = false) : frL U E k = 0 := by rw [frL, h]; rfl
theorem Jdj {U : ZI} {E : ZR} {k i : Int} (h : (J0 U E && inB k 1 (U.length : Int)) = true) (h0 : 0 ≤ i) (hi : idxI (frP U E k) (J3 E) = i) : frL U E k = (J3 E).getD i.toNat 0 := by
  rw [frL, if_pos h, if_neg (by omega), JgH, hi]
theorem JaQ {U : ZI} {E : ZR} {k : Int} (hi : idxI (frP U E k) (J3 E) = -1) : frL U E k = 0 := by
  rw [frL]
  split
  · rw [if_pos (by omega)]
  rfl
theorem JgA {U : ZI} {E : ZR} (hg : J0 U E = true) : ∀ x ∈ J3 E, 0 ≤ x ∧ x ≤ 99 := fun x hx => by
  rw [J3, J66, List.mem_flatten] at hx
  rcases hx with hx | ⟨l, hl, hx⟩
  · cases hx
  obtain ⟨j, hj, rfl⟩ := List.mem_iff_getElem.1 hl
  obtain ⟨a, ha, rfl⟩ := List.mem_iff_getElem.1 hx
  obtain ⟨h1, h2⟩ := Je hg hj
  rw [Ja hj] at h1 h2
  have := h2 a (by omega)
  rw [Ja ha] at this
  exact this
abbrev J2x (U : ZI) (E : ZR) (k : Int) (i : Int) : Prop := (0 ≤ i) ∧ (i ≤ ((J3 E).length : Int)) ∧ (∀ j, j < i.toNat → frP U E k ((J3 E).getD j 0) = false)
abbrev J2B (U : ZI) (E : ZR) (k : Int) (i : Int) : Nat := ((J3 E).length - i).toNat
def JcS (f : FuncId) (ds : List D) : Orc := bif Nat.beq f 97 then J2T ds else bif Nat.beq f 104 then J6c ds else bif Nat.beq f 105 then Jda ds else bif Nat.beq f 106 then JcQ ds else .no
def Jd1 (U : ZI) (E : ZR) (k : Int) : Ann := .two (.none) (.two (.none) (.two (.none) (.two (.two (.none) (.loop (cut1 (fun (i : Int) => J2x U E k i) (fun (i : Int) => [(1, .d false (.int .i64 k)), (2, .ptr 2 0), (6, .d true (.sl (.ints (J3 E)))), (7, .d true (.int .i64 i))]) (fun (i : Int) => [(2, .box 27 [.d false (.sl (.ints U)), .d false (.sl (.rows E))])])) (fun g => J2B U E k g) (fun _ => .none))) (.none))))
def J50 (U : ZI) (E : ZR) (k : Int) (i : Int) : Bool := (cond (J8 E ((J3 E).getD i.toNat 0)) (decide ((((J0i U.length E ((J3 E).getD i.toNat 0) (2 ^ E.length)).length) : Int) ≤ k)) false)
def J8b (U : ZI) (E : ZR) (k : Int) : Prop :=
  (PC Tryz.prog 97 [.agg [.sl (.ints U), .sl (.rows E)], .int .i64 k] (.one (.d (.bool (J0 U E && inB k 1 (U.length : Int)))))) ∧ (((!(J0 U E && inB k 1 (U.length : Int))) = true → (((0 : Int) = (frL U E k)) ∧ (false = (J0 U E && inB k 1 (U.length : Int))))) ∧ ((!(J0 U E && inB k 1 (U.length : Int))) = false → (PC Tryz.prog 104 [.agg [.sl (.ints U), .sl (.rows E)]] (.one (.d (.sl (.ints (J3 E)))))) ∧ ((∃ i' : Int, (J2x U E k i') ∧ (k = k) ∧ ((J3 E) = (J3 E)) ∧ ((0 : Int) = i') ∧ (U = U) ∧ (E = E)) ∧ (∀ i : Int, (J2x U E k i) → (((decide (i < (((J3 E).length) : Int))) = true → (true = true) ∧ ((0 : Int) ≤ i) ∧ ((i : Int) < (J3 E).length) ∧ (i.toNat < (J3 E).length) ∧ (PC Tryz.prog 105 [.agg [.sl (.ints U), .sl (.rows E)], .int .i64 ((J3 E).getD i.toNat 0)] (.one (.d (.bool (J8 E ((J3 E).getD i.toNat 0)))))) ∧ ((J8 E ((J3 E).getD i.toNat 0)) = true → (J8 E ((J3 E).getD i.toNat 0)) = true) ∧ ((J8 E ((J3 E).getD i.toNat 0)) = true → (J8 E ((J3 E).getD i.toNat 0)) = true) ∧ (((J8 E ((J3 E).getD i.toNat 0)) = true → (0 : Int) ≤ i)) ∧ (((J8 E ((J3 E).getD i.toNat 0)) = true → (i : Int) < (J3 E).length)) ∧ ((J8 E ((J3 E).getD i.toNat 0)) = true → (J8 E ((J3 E).getD i.toNat 0)) = true) ∧ (((J8 E ((J3 E).getD i.toNat 0)) = true → i.toNat < (J3 E).length)) ∧ ((J8 E ((J3 E).getD i.toNat 0)) = true → (J8 E ((J3 E).getD i.toNat 0)) = true) ∧ ((J8 E ((J3 E).getD i.toNat 0)) = true → (J8 E ((J3 E).getD i.toNat 0)) = true) ∧ ((J8 E ((J3 E).getD i.toNat 0)) = true → PC Tryz.prog 106 [.agg [.sl (.ints U), .sl (.rows E)], .int .i64 ((J3 E).getD i.toNat 0)] (.one (.d (.sl (.ints (J0i U.length E ((J3 E).getD i.toNat 0) (2 ^ E.length))))))) ∧ ((J8 E ((J3 E).getD i.toNat 0)) = true → (J8 E ((J3 E).getD i.toNat 0)) = true) ∧ ((J8 E ((J3 E).getD i.toNat 0)) = true → (J8 E ((J3 E).getD i.toNat 0)) = true) ∧ ((J8 E ((J3 E).getD i.toNat 0)) = true → (J8 E ((J3 E).getD i.toNat 0)) = true) ∧ (true = true) ∧ (((J8 E ((J3 E).getD i.toNat 0)) = true → (J8 E ((J3 E).getD i.toNat 0)) = true)) ∧ (((J8 E ((J3 E).getD i.toNat 0)) = false → true = true)) ∧ (((J50 U E k i) = true → ((0 : Int) ≤ i) ∧ ((i : Int) < (J3 E).length) ∧ (i.toNat < (J3 E).length) ∧ ((((J3 E).getD i.toNat 0) = (frL U E k)) ∧ (true = (J0 U E && inB k 1 (U.length : Int))))) ∧ ((J50 U E k i) = false → (I6 (i + 1)) ∧ (∃ i' : Int, (J2x U E k i') ∧ (J2B U E k i' < J2B U E k i) ∧ (k = k) ∧ ((J3 E) = (J3 E)) ∧ ((i + 1) = i') ∧ (U = U) ∧ (E = E))))) ∧ ((decide (i < (((J3 E).length) : Int))) = false → (((0 : Int) = (frL U E k)) ∧ (true = (J0 U E && inB k 1 (U.length : Int))))))))))
theorem Jcd (U : ZI) (E : ZR) (k : Int)  (w_Open : (U.length : Int) ≤ 9223372036854775807) (w_Dist : (E.length : Int) ≤ 9223372036854775807) (v_Dist : ∀ x9 ∈ E, (x9.length : Int) ≤ 9223372036854775807) : J8b U E k := by
  unfold J8b J50
  refine ⟨J3T U E k, ?_, ?_⟩
  ·intro b1
   try simp only [Bool.not_eq_true', Bool.not_eq_false', Bool.not_not] at b1
   refine ⟨?_, ?_⟩
   ·have hgk : (J0 U E && inB k 1 (U.length : Int)) = false := by simpa using b1
    exact (Jgr hgk).symm
   have hgk : (J0 U E && inB k 1 (U.length : Int)) = false := by simpa using b1
   exact hgk.symm
  intro b2
  try simp only [Bool.not_eq_true', Bool.not_eq_false', Bool.not_not] at b2
  refine ⟨?_, ?_, ?_⟩
  ·refine J6B U E ?_
   ·have hgk : (J0 U E && inB k 1 (U.length : Int)) = true := by simpa using b2
    obtain ⟨hg, hk⟩ := (Bool.and_eq_true _ _ ▸ hgk : _ ∧ _)
    have lb := JR E
    have gl := J05 hg
    exact hg
  ·refine ⟨0, ?_⟩
   refine ⟨?_, rfl, rfl, rfl, rfl, rfl⟩
   ·refine ⟨?_, ?_, ?_⟩
    ·omega
    ·omega
    ·intro j hj; exact absurd hj (by simp)
  intro i hJ
  obtain ⟨h1, h2, h3⟩ := hJ
  refine ⟨?_, ?_⟩
  ·intro b3
   try simp only [nrmT] at b3
   refine ⟨rfl, ?_, ?_, ?_, ?_, id, id, ?_, ?_, id, ?_, id, id, ?_, id, id, id, rfl, id, fun _ => rfl, ?_, ?_⟩
   ·omega
   ·omega
   ·omega
   ·refine Je4 U E ((J3 E).getD i.toNat 0) ?_
    ·have hgk : (J0 U E && inB k 1 (U.length : Int)) = true := by simpa using b2
     obtain ⟨hg, hk⟩ := (Bool.and_eq_true _ _ ▸ hgk : _ ∧ _)
     have lb := JR E
     have gl := J05 hg
     exact hg
   ·omega
   ·omega
   ·omega
   ·intro hg
    refine JdJ U E ((J3 E).getD i.toNat 0) ?_
    ·have hgk : (J0 U E && inB k 1 (U.length : Int)) = true := by simpa using b2
     obtain ⟨hg, hk⟩ := (Bool.and_eq_true _ _ ▸ hgk : _ ∧ _)
     have lb := JR E
     have gl := J05 hg
     exact hg
   ·intro b4
    refine ⟨?_, ?_, ?_, ?_, ?_⟩
    ·omega
    ·omega
    ·omega
    ·have hgk : (J0 U E && inB k 1 (U.length : Int)) = true := by simpa using b2
     obtain ⟨hg, hk⟩ := (Bool.and_eq_true _ _ ▸ hgk : _ ∧ _)
     have lb := JR E
     have gl := J05 hg
     exact (Jdj hgk h1 (idx_found (p := frP U E k) (d := 0) h1 (by omega) h3 (by revert b4; unfold frP; cases J8 E ((J3 E).getD i.toNat 0) <;> simp)).symm).symm
    have hgk : (J0 U E && inB k 1 (U.length : Int)) = true := by simpa using b2
    obtain ⟨hg, hk⟩ := (Bool.and_eq_true _ _ ▸ hgk : _ ∧ _)
    have lb := JR E
    have gl := J05 hg
    exact hgk.symm
   intro b5
   refine ⟨?_, ?_⟩
   ·have hgk : (J0 U E && inB k 1 (U.length : Int)) = true := by simpa using b2
    obtain ⟨hg, hk⟩ := (Bool.and_eq_true _ _ ▸ hgk : _ ∧ _)
    have lb := JR E
    have gl := J05 hg
    omega
   refine ⟨(i + 1), ?_⟩
   refine ⟨?_, ?_, rfl, rfl, rfl, rfl, rfl⟩
   ·refine ⟨?_, ?_, ?_⟩
    ·omega
    ·omega
    ·have hgk : (J0 U E && inB k 1 (U.length : Int)) = true := by simpa using b2
     obtain ⟨hg, hk⟩ := (Bool.and_eq_true _ _ ▸ hgk : _ ∧ _)
     have lb := JR E
     have gl := J05 hg
     exact idx_step (p := frP U E k) h1 h3 (by revert b5; unfold frP; cases J8 E ((J3 E).getD i.toNat 0) <;> simp)
   (simp only [J2B]; omega)
  intro b6
  try simp only [nrmT] at b6
  refine ⟨?_, ?_⟩
  ·exact (JaQ (idx_none (p := frP U E k) (d := 0) (by omega) h3)).symm
  have hgk : (J0 U E && inB k 1 (U.length : Int)) = true := by simpa using b2
  obtain ⟨hg, hk⟩ := (Bool.and_eq_true _ _ ▸ hgk : _ ∧ _)
  have lb := JR E
  have gl := J05 hg
  exact hgk.symm
theorem Jc9 (U : ZI) (E : ZR) (k : Int)  : PC Tryz.prog 16 [.agg [.sl (.ints U), .sl (.rows E)], .int .i64 k] (.tup [.d (.int .i64 (frL U E k)), .d (.bool (J0 U E && inB k 1 (U.length : Int)))]) :=
  pc_wf @Tryz.call16 fun hw => pc_by (by kernel_rfl) Tryz.func16 @Tryz.call16 (by kernel_rfl) JcS (Jd1 U E k) (by kernel_rfl) (Jcd U E k hw.1.1 hw.1.2.1.1 hw.1.2.1.2) (by kernel_rfl)
def Jb3 : List D → Orc := orcN [none, none] fun ds => match ds with
  | [.agg [.sl (.ints U), .sl (.rows E)], .int .i64 k] => some (.tup [.d (.int .i64 (frL U E k)), .d (.bool (J0 U E && inB k 1 (U.length : Int)))])
  | _ => none
abbrev J2i (U : ZI) (E : ZR) (k : Int) (i : Int) : Prop := (0 ≤ i) ∧ (i ≤ ((J3 E).length : Int)) ∧ (∀ j, j < i.toNat → frP U E k ((J3 E).getD j 0) = false)
abbrev J2m (U : ZI) (E : ZR) (k : Int) (i : Int) : Nat := ((J3 E).length - i).toNat
def Jdb (f : FuncId) (ds : List D) : Orc := bif Nat.beq f 93 then J1f ds else bif Nat.beq f 101 then J2V ds else bif Nat.beq f 102 then J6p ds else .no
def Jd6 (U : ZI) (E : ZR) (k : Int) : Ann := .two (.none) (.two (.none) (.two (.two (.none) (.loop (cut1 (fun (i : Int) => J2i U E k i) (fun (i : Int) => [(1, .d false (.int .i64 k)), (2, .ptr 2 0), (13, .own 13 ((J3 E).length)), (14, .d true (.int .i64 (((J3 E).length) : Int))), (15, .d true (.int .i64 i))]) (fun (i : Int) => [(2, .box 27 [.d false (.sl (.ints U)), .d false (.sl (.rows E))]), (13, .arr true 3 (.ints (J3 E)))])) (fun g => J2m U E k g) (fun g => (fun (i : Int) => .two (.none) (.two (.none) (.two (.two (.none) (.two (.reg [(6, .call none (.one (.d (.sl (.ints (J0i U.length E ((J3 E).getD i.toNat 0) (2 ^ E.length)))))))]) (.none))) (.none)))) g))) (.none)))
def J4X (U : ZI) (E : ZR) (k : Int) (i : Int) : Bool := (cond (J8 E ((J3 E).getD i.toNat 0)) (decide ((((J0i U.length E ((J3 E).getD i.toNat 0) (2 ^ E.length)).length) : Int) ≤ k)) false)
def J8k (U : ZI) (E : ZR) (k : Int) : Prop :=
  (PC Tryz.prog 93 [.agg [.sl (.ints U), .sl (.rows E)], .int .i64 k] (.one (.d (.bool (J0 U E && inB k 1 (U.length : Int)))))) ∧ (((!(J0 U E && inB k 1 (U.length : Int))) = true → (((0 : Int) = (frL U E k)) ∧ (false = (J0 U E && inB k 1 (U.length : Int))))) ∧ ((!(J0 U E && inB k 1 (U.length : Int))) = false → (PC Tryz.prog 101 [.agg [.sl (.ints U), .sl (.rows E)]] (.one (.own 3 (.ints (J3 E))))) ∧ ((∃ i' : Int, (J2i U E k i') ∧ (k = k) ∧ ((J3 E).length = (J3 E).length) ∧ ((((J3 E).length) : Int) = (((J3 E).length) : Int)) ∧ ((0 : Int) = i') ∧ (U = U) ∧ (E = E) ∧ (J3 E = J3 E)) ∧ (∀ i : Int, (J2i U E k i) → (((decide (i < (((J3 E).length) : Int))) = true → ((0 : Int) ≤ i) ∧ ((i : Int) < (((J3 E).length) : Int)) ∧ (i.toNat < (J3 E).length) ∧ (PC Tryz.prog 102 [.agg [.sl (.ints U), .sl (.rows E)], .int .i64 ((J3 E).getD i.toNat 0)] (.one (.d (.bool (J8 E ((J3 E).getD i.toNat 0)))))) ∧ ((J8 E ((J3 E).getD i.toNat 0)) = true → (J8 E ((J3 E).getD i.toNat 0)) = true) ∧ ((J8 E ((J3 E).getD i.toNat 0)) = true → (J8 E ((J3 E).getD i.toNat 0)) = true) ∧ ((J8 E ((J3 E).getD i.toNat 0)) = true → PC Tryz.prog 103 [.agg [.sl (.ints U), .sl (.rows E)], .int .i64 ((J3 E).getD i.toNat 0)] (.one (.d (.sl (.ints (J0i U.length E ((J3 E).getD i.toNat 0) (2 ^ E.length))))))) ∧ ((J8 E ((J3 E).getD i.toNat 0)) = true → (J8 E ((J3 E).getD i.toNat 0)) = true) ∧ ((J8 E ((J3 E).getD i.toNat 0)) = true → (J8 E ((J3 E).getD i.toNat 0)) = true) ∧ ((J8 E ((J3 E).getD i.toNat 0)) = true → (J8 E ((J3 E).getD i.toNat 0)) = true) ∧ (true = true) ∧ (((J8 E ((J3 E).getD i.toNat 0)) = true → (J8 E ((J3 E).getD i.toNat 0)) = true)) ∧ (((J8 E ((J3 E).getD i.toNat 0)) = false → true = true)) ∧ (((J4X U E k i) = true → ((((J3 E).getD i.toNat 0) = (frL U E k)) ∧ (true = (J0 U E && inB k 1 (U.length : Int))))) ∧ ((J4X U E k i) = false → (I6 (i + 1)) ∧ (∃ i' : Int, (J2i U E k i') ∧ (J2m U E k i' < J2m U E k i) ∧ (k = k) ∧ ((J3 E).length = (J3 E).length) ∧ ((((J3 E).length) : Int) = (((J3 E).length) : Int)) ∧ ((i + 1) = i') ∧ (U = U) ∧ (E = E) ∧ (J3 E = J3 E))))) ∧ ((decide (i < (((J3 E).length) : Int))) = false → (((0 : Int) = (frL U E k)) ∧ (true = (J0 U E && inB k 1 (U.length : Int))))))))))
theorem Jcg (U : ZI) (E : ZR) (k : Int)  (w_Open : (U.length : Int) ≤ 9223372036854775807) (w_Dist : (E.length : Int) ≤ 9223372036854775807) (v_Dist : ∀ x9 ∈ E, (x9.length : Int) ≤ 9223372036854775807) : J8k U E k := by
  unfold J8k J4X
  refine ⟨J1p U E k, ?_, ?_⟩
  ·intro b1
   try simp only [Bool.not_eq_true', Bool.not_eq_false', Bool.not_not] at b1
   refine ⟨?_, ?_⟩
   ·have hgk : (J0 U E && inB k 1 (U.length : Int)) = false := by simpa using b1
    exact (Jgr hgk).symm
   have hgk : (J0 U E && inB k 1 (U.length : Int)) = false := by simpa using b1
   exact hgk.symm
  intro b2
  try simp only [Bool.not_eq_true', Bool.not_eq_false', Bool.not_not] at b2
  refine ⟨?_, ?_, ?_⟩
  ·refine J3s U E ?_
   ·have hgk : (J0 U E && inB k 1 (U.length : Int)) = true := by simpa using b2
    obtain ⟨hg, hk⟩ := (Bool.and_eq_true _ _ ▸ hgk : _ ∧ _)
    have lb := JR E
    have gl := J05 hg
    exact hg
  ·refine ⟨0, ?_⟩
   refine ⟨?_, rfl, rfl, rfl, rfl, rfl, rfl, rfl⟩
   ·refine ⟨?_, ?_, ?_⟩
    ·omega
    ·omega
    ·intro j hj; exact absurd hj (by simp)
  intro i hJ
  obtain ⟨h1, h2, h3⟩ := hJ
  refine ⟨?_, ?_⟩
  ·intro b3
   try simp only [nrmT] at b3
   refine ⟨?_, ?_, ?_, ?_, id, id, ?_, id, id, id, rfl, id, fun _ => rfl, ?_, ?_⟩
   ·omega
   ·omega
   ·omega
   ·refine J6x U E ((J3 E).getD i.toNat 0) ?_
    ·have hgk : (J0 U E && inB k 1 (U.length : Int)) = true := by simpa using b2
     obtain ⟨hg, hk⟩ := (Bool.and_eq_true _ _ ▸ hgk : _ ∧ _)
     have lb := JR E
     have gl := J05 hg
     exact hg
   ·intro hg
    refine J5Q U E ((J3 E).getD i.toNat 0) ?_
    ·have hgk : (J0 U E && inB k 1 (U.length : Int)) = true := by simpa using b2
     obtain ⟨hg, hk⟩ := (Bool.and_eq_true _ _ ▸ hgk : _ ∧ _)
     have lb := JR E
     have gl := J05 hg
     exact hg
   ·intro b4
    refine ⟨?_, ?_⟩
    ·have hgk : (J0 U E && inB k 1 (U.length : Int)) = true := by simpa using b2
     obtain ⟨hg, hk⟩ := (Bool.and_eq_true _ _ ▸ hgk : _ ∧ _)
     have lb := JR E
     have gl := J05 hg
     exact (Jdj hgk h1 (idx_found (p := frP U E k) (d := 0) h1 (by omega) h3 (by revert b4; unfold frP; cases J8 E ((J3 E).getD i.toNat 0) <;> simp)).symm).symm
    have hgk : (J0 U E && inB k 1 (U.length : Int)) = true := by simpa using b2
    obtain ⟨hg, hk⟩ := (Bool.and_eq_true _ _ ▸ hgk : _ ∧ _)
    have lb := JR E
    have gl := J05 hg
    exact hgk.symm
   intro b5
   refine ⟨?_, ?_⟩
   ·have hgk : (J0 U E && inB k 1 (U.length : Int)) = true := by simpa using b2
    obtain ⟨hg, hk⟩ := (Bool.and_eq_true _ _ ▸ hgk : _ ∧ _)
    have lb := JR E
    have gl := J05 hg
    omega
   refine ⟨(i + 1), ?_⟩
   refine ⟨?_, ?_, rfl, rfl, rfl, rfl, rfl, rfl, rfl⟩
   ·refine ⟨?_, ?_, ?_⟩
    ·omega
    ·omega
    ·have hgk : (J0 U E && inB k 1 (U.length : Int)) = true := by simpa using b2
     obtain ⟨hg, hk⟩ := (Bool.and_eq_true _ _ ▸ hgk : _ ∧ _)
     have lb := JR E
     have gl := J05 hg
     exact idx_step (p := frP U E k) h1 h3 (by revert b5; unfold frP; cases J8 E ((J3 E).getD i.toNat 0) <;> simp)
   (simp only [J2m]; omega)
  intro b6
  try simp only [nrmT] at b6
  refine ⟨?_, ?_⟩
  ·exact (JaQ (idx_none (p := frP U E k) (d := 0) (by omega) h3)).symm
  have hgk : (J0 U E && inB k 1 (U.length : Int)) = true := by simpa using b2
  obtain ⟨hg, hk⟩ := (Bool.and_eq_true _ _ ▸ hgk : _ ∧ _)
  have lb := JR E
  have gl := J05 hg
  exact hgk.symm
theorem Jce (U : ZI) (E : ZR) (k : Int)  : PC Tryz.prog 15 [.agg [.sl (.ints U), .sl (.rows E)], .int .i64 k] (.tup [.d (.int .i64 (frL U E k)), .d (.bool (J0 U E && inB k 1 (U.length : Int)))]) :=
  pc_wf @Tryz.call15 fun hw => pc_by (by kernel_rfl) Tryz.func15 @Tryz.call15 (by kernel_rfl) Jdb (Jd6 U E k) (by kernel_rfl) (Jcg U E k hw.1.1 hw.1.2.1.1 hw.1.2.1.2) (by kernel_rfl)
def Jb4 : List D → Orc := orcN [none, none] fun ds => match ds with
  | [.agg [.sl (.ints U), .sl (.rows E)], .int .i64 k] => some (.tup [.d (.int .i64 (frL U E k)), .d (.bool (J0 U E && inB k 1 (U.length : Int)))])
  | _ => none
def lsB (v : ZI → Int) (b s : ZI) : ZI := if v s < v b then s else b
def J4P (v : ZI → Int) (l : ZR) : ZI := l.foldl (lsB v) (l.getD 0 [])
theorem Jgp (v : ZI → Int) (b : ZI) : lsB v b b = b := by unfold lsB; split <;> rfl
theorem J67 {α β : Type} {f : β → α → β} {b : β} {l : List α} {i : Int} {d : α} (h0 : 0 ≤ i) (h : i < (l.length : Int)) : (l.take (i + 1).toNat).foldl f b = f ((l.take i.toNat).foldl f b) (l.getD i.toNat d) := by
  rw [take_step (d := d) h0 h, List.foldl_append]
  rfl
theorem Jar {v : ZI → Int} {l : ZR} (h : 0 < l.length) : J4P v l ∈ l := by
  have key : ∀ (r : ZR) (b : ZI), b ∈ l → (∀ x ∈ r, x ∈ l) → r.foldl (lsB v) b ∈ l := by
    intro r
    induction r with
    | nil => intro b hb _; exact hb
    | cons x r ih =>
      intro b hb hr
      refine ih _ ?_ fun y hy => hr y (List.mem_cons_of_mem _ hy)
      unfold lsB
      split
      · exact hr x List.mem_cons_self
      exact hb
  exact key l _ (getD_mem h) fun x hx => hx
theorem Jfg {v : ZI → Int} {l : ZR} (h : 0 < l.length) : (l.take (1 : Int).toNat).foldl (lsB v) (l.getD 0 []) = l.getD 0 [] := by
  cases l with
  | nil => simp at h
  | cons x r => exact Jgp v x
theorem Jde {U : ZI} {E : ZR} {set : ZI} (ht : (J0 U E && J2 set 0 ((U.length : Int) - 1) && decide (0 < set.length)) = true) {j : Nat} (hj : j < E.length) : 0 ≤ J0D E set j ∧ J0D E set j ≤ 99 := by
  obtain ⟨hg, hs, hp⟩ := J1h ht
  obtain ⟨rl, rb⟩ := Je hg hj
  have si := J26 (row := E.getD j []) (set := set) (n := (U.length : Int)) (fun k hk => by have := J2d hs k hk; omega) hp set.length (Nat.le_refl _)
  exact rb _ (by omega)
theorem JeH {g : Addr → Option Value} {O : Nat → Prop} {v : Value} {x : ZI} (h : R g O v (.sl (.ints x))) : ∃ (ad : Option Addr) (cap : Nat), v = .slice ad x.length cap := by
  cases h with
  | slnil _ h0 => exact ⟨none, 0, by rw [show x.length = 0 from h0]⟩
  | sl _ a n cap hn _ _ _ _ => exact ⟨some a, cap, by rw [hn]; rfl⟩
theorem Jgm {g : Addr → Option Value} {O : Nat → Prop} {v : Value} {k : Int} (h : R g O v (.bx [.int .i64 k] 0)) : ∃ b : Addr, v = .pointer (some b) ∧ g b = some (.int .i64 k) := by
  cases h with
  | bx _ a _ f hc hr =>
    refine ⟨a.add 0, rfl, ?_⟩
    have h1 := (hc 0 (by simp)).1
    have h2 := hr 0 (.int .i64 k) rfl
    rw [h1]
    cases hf : f 0 <;> rw [hf] at h2 <;> cases h2
    rfl
theorem Jga {n k : Nat} (h : k ≤ n) : (lst n (2 ^ k - 1)).length = k := by
  unfold lst
  rw [J1v (m := k) (fun i hi => Nat.testBit_lt_two_pow (Nat.lt_of_lt_of_le (Nat.sub_lt (Nat.two_pow_pos k) (by omega)) (Nat.pow_le_pow_right (by omega) hi))) n h, Jc1, J5v]
theorem JfL {n : Nat} {k : Int} (h1 : 1 ≤ k) (h2 : k ≤ n) : ∃ s ∈ J6 n, (s.length : Int) = k := by
  refine ⟨lst n (2 ^ k.toNat - 1), J7U.2 ⟨_, ?_, ?_, rfl⟩, by rw [Jga (by omega)]; omega⟩
  · have := Nat.pow_le_pow_right (n := 2) (by omega) (show 1 ≤ k.toNat by omega)
    omega
  have h3 := Nat.pow_le_pow_right (n := 2) (by omega) (show k.toNat ≤ n by omega)
  have h4 := Nat.two_pow_pos k.toNat
  omega
theorem Jfm {p : ZI → Bool} {l : ZR} (h : ∃ s ∈ l, p s = true) : 0 < (l.filter p).length := by
  obtain ⟨s, h1, h2⟩ := h
  exact List.length_pos_of_mem (List.mem_filter.2 ⟨h1, h2⟩)
theorem JfP {v : ZI → Int} {l : ZR} : ∀ x ∈ l, v (J4P v l) ≤ v x := by
  have key : ∀ (r : ZR) (b : ZI), v (r.foldl (lsB v) b) ≤ v b ∧ ∀ x ∈ r, v (r.foldl (lsB v) b) ≤ v x := by
    intro r
    induction r with
    | nil => intro b; exact ⟨Int.le_refl _, fun x hx => by cases hx⟩
    | cons y r ih =>
      intro b
      obtain ⟨h1, h2⟩ := ih (lsB v b y)
      have h3 : v (lsB v b y) ≤ v b ∧ v (lsB v b y) ≤ v y := by
        unfold lsB
        split <;> omega
      refine ⟨Int.le_trans h1 h3.1, fun x hx => ?_⟩
      rcases List.mem_cons.1 hx with rfl | hx
      · exact Int.le_trans h1 h3.2
      exact h2 x hx
  exact fun x hx => (key l _).2 x hx
abbrev J1d (xss : ZR) (U : ZI) (E : ZR) (best : ZI) (i : Int) : Prop := (0 ≤ i) ∧ (i ≤ (xss.length : Int)) ∧ (best ∈ xss) ∧ (best = (xss.take i.toNat).foldl (lsB (J5 E)) (xss.getD 0 []))
abbrev J08 (xss : ZR) (U : ZI) (E : ZR) (best : ZI) (i : Int) : Nat := (xss.length - i).toNat
def JcE (f : FuncId) (ds : List D) : Orc := bif Nat.beq f 96 then J1o ds else .no
def Jc7 (xss : ZR) (U : ZI) (E : ZR) : Ann := .two (.none) (.two (.none) (.two (.two (.none) (.loop (cut2 (fun (best : ZI) (i : Int) => J1d xss U E best i) (fun (best : ZI) (i : Int) => [(1, .d false (.fn 96 1 [.agg [.sl (.ints U), .sl (.rows E)]])), (5, .d true (.sl (.ints best))), (11, .d true (.sl (.rows xss))), (12, .d true (.int .i64 (xss.length : Int))), (13, .d true (.int .i64 i))]) (fun (best : ZI) (i : Int) => [])) (fun g => J08 xss U E g.1 g.2) (fun _ => .none))) (.none)))
def J76 (xss : ZR) (U : ZI) (E : ZR) : Prop :=
  ((0 : Int) ≤ 0) ∧ ((0 : Int) < xss.length) ∧ (0 < xss.length) ∧ ((∃ best' : ZI, ∃ i' : Int, (J1d xss U E best' i') ∧ ((.fn 96 1 [.agg [.sl (.ints U), .sl (.rows E)]] : D) = (.fn 96 1 [.agg [.sl (.ints U), .sl (.rows E)]] : D)) ∧ ((xss.getD 0 []) = best') ∧ (xss = xss) ∧ ((xss.length : Int) = (xss.length : Int)) ∧ ((0 : Int) = i')) ∧ (∀ best : ZI, ∀ i : Int, (J1d xss U E best i) → (((decide (i < (xss.length : Int))) = true → ((0 : Int) ≤ i) ∧ ((i : Int) < xss.length) ∧ (i.toNat < xss.length) ∧ (PC Tryz.prog 96 [.agg [.sl (.ints U), .sl (.rows E)], .sl (.ints (xss.getD i.toNat []))] (.one (.d (.int .i64 (J5 E (xss.getD i.toNat [])))))) ∧ (PC Tryz.prog 96 [.agg [.sl (.ints U), .sl (.rows E)], .sl (.ints best)] (.one (.d (.int .i64 (J5 E best))))) ∧ (((decide ((J5 E (xss.getD i.toNat [])) < (J5 E best))) = true → (I6 (i + 1)) ∧ (∃ best' : ZI, ∃ i' : Int, (J1d xss U E best' i') ∧ (J08 xss U E best' i' < J08 xss U E best i) ∧ ((.fn 96 1 [.agg [.sl (.ints U), .sl (.rows E)]] : D) = (.fn 96 1 [.agg [.sl (.ints U), .sl (.rows E)]] : D)) ∧ ((xss.getD i.toNat []) = best') ∧ (xss = xss) ∧ ((xss.length : Int) = (xss.length : Int)) ∧ ((i + 1) = i'))) ∧ ((decide ((J5 E (xss.getD i.toNat [])) < (J5 E best))) = false → (I6 (i + 1)) ∧ (∃ best' : ZI, ∃ i' : Int, (J1d xss U E best' i') ∧ (J08 xss U E best' i' < J08 xss U E best i) ∧ ((.fn 96 1 [.agg [.sl (.ints U), .sl (.rows E)]] : D) = (.fn 96 1 [.agg [.sl (.ints U), .sl (.rows E)]] : D)) ∧ (best = best') ∧ (xss = xss) ∧ ((xss.length : Int) = (xss.length : Int)) ∧ ((i + 1) = i'))))) ∧ ((decide (i < (xss.length : Int))) = false → (((best : ZI) = (J4P (J5 E) xss)))))))
theorem Jbi (xss : ZR) (U : ZI) (E : ZR) (hp : 0 < xss.length) (hx : ∀ s ∈ xss, J0 U E && J2 s 0 ((U.length : Int) - 1) && decide (0 < s.length)) (w_xss : (xss.length : Int) ≤ 9223372036854775807) (v_xss : ∀ x9 ∈ xss, (x9.length : Int) ≤ 9223372036854775807) (w_Open : (U.length : Int) ≤ 9223372036854775807) (w_Dist : (E.length : Int) ≤ 9223372036854775807) (v_Dist : ∀ x9 ∈ E, (x9.length : Int) ≤ 9223372036854775807) : J76 xss U E := by
  unfold J76
  refine ⟨?_, ?_, ?_, ?_, ?_⟩
  ·omega
  ·omega
  ·omega
  ·refine ⟨(xss.getD 0 []), 0, ?_⟩
   refine ⟨?_, rfl, rfl, rfl, rfl, rfl⟩
   ·refine ⟨?_, ?_, ?_, ?_⟩
    ·omega
    ·omega
    ·exact getD_mem hp
    ·rfl
  intro best i hJ
  obtain ⟨h1, h2, h3, h4⟩ := hJ
  refine ⟨?_, ?_⟩
  ·intro b1
   try simp only [nrmT] at b1
   refine ⟨?_, ?_, ?_, ?_, ?_, ?_, ?_⟩
   ·omega
   ·omega
   ·omega
   ·refine J0Y U E (xss.getD i.toNat []) ?_
    ·exact hx _ (getD_memI h1 (by omega))
   ·refine J0Y U E best ?_
    ·exact hx _ h3
   ·intro b2
    try simp only [nrmT] at b2
    refine ⟨?_, ?_⟩
    ·omega
    refine ⟨(xss.getD i.toNat []), (i + 1), ?_⟩
    refine ⟨?_, ?_, rfl, rfl, rfl, rfl, rfl⟩
    ·refine ⟨?_, ?_, ?_, ?_⟩
     ·omega
     ·omega
     ·exact getD_memI h1 (by omega)
     ·rw [J67 (d := []) h1 (by omega), ← h4]; unfold lsB; rw [if_pos b2]
    (simp only [J08]; omega)
   intro b3
   try simp only [nrmT] at b3
   refine ⟨?_, ?_⟩
   ·omega
   refine ⟨best, (i + 1), ?_⟩
   refine ⟨?_, ?_, rfl, rfl, rfl, rfl, rfl⟩
   ·refine ⟨?_, ?_, ?_, ?_⟩
    ·omega
    ·omega
    ·exact h3
    ·rw [J67 (d := []) h1 (by omega), ← h4]; unfold lsB; (try dsimp only); rw [if_neg (by omega)]
   (simp only [J08]; omega)
  intro b4
  try simp only [nrmT] at b4
  rw [h4, take_all (by omega)]; rfl
theorem Jbe (xss : ZR) (U : ZI) (E : ZR) (hp : 0 < xss.length) (hx : ∀ s ∈ xss, J0 U E && J2 s 0 ((U.length : Int) - 1) && decide (0 < s.length)) : PCs Tryz.prog 94 [.sl (.rows xss), .fn 96 1 [.agg [.sl (.ints U), .sl (.rows E)]]] 0 (.sl (.ints (J4P (J5 E) xss))) :=
  pcs_wf @Tryz.call94 fun hw => pcs_by (by kernel_rfl) Tryz.func94 @Tryz.call94 (by kernel_rfl) JcE (Jc7 xss U E) (by kernel_rfl) (Jbi xss U E hp hx hw.1.1 hw.1.2 hw.2.1.1.1 hw.2.1.1.2.1.1 hw.2.1.1.2.1.2) (by kernel_rfl)
def JaD : List D → Orc := orcS 0 fun ds => match ds with
  | [.sl (.rows xss), .fn f0 1 [.agg [.sl (.ints U), .sl (.rows E)]]] => some (.sl (.ints (J4P (J5 E) xss)))
  | _ => none
def upS (U : ZI) (k : Int) : ZR := (J6 (U.length : Int).toNat).filter fun x9 => !(decide ((x9.length : Int) > k))
theorem J6r {U : ZI} {k : Int} {s : ZI} (h : s ∈ upS U k) : s ∈ J6 (U.length : Int).toNat := (List.mem_filter.1 h).1
theorem J8m {U : ZI} {k : Int} (hk : 1 ≤ k ∧ k ≤ (U.length : Int)) : 0 < (upS U k).length := by
  obtain ⟨s, h1, h2⟩ := JfL (n := (U.length : Int).toNat) hk.1 (by omega)
  exact Jfm ⟨s, h1, by simp [h2]⟩
theorem JgC {U : ZI} {E : ZR} (hg : J0 U E = true) {k : Int} : (upS U k).length ≤ 127 := by
  have := Jb hg
  exact Nat.le_trans (List.length_filter_le _ _) (J6Q (by omega))
theorem J8U {l : ZR} {p : ZI → Bool} {i : Int} (h0 : 0 ≤ i) (h : i < (l.length : Int)) : (l.take (i + 1).toNat).filter p = if p (l.getD i.toNat []) = true then (l.take i.toNat).filter p ++ [l.getD i.toNat []] else (l.take i.toNat).filter p := by
  rw [take_step (d := []) h0 h, List.filter_append]
  by_cases e : p (l.getD i.toNat []) = true
  · rw [if_pos e, List.filter_cons, if_pos e]; rfl
  rw [if_neg e, List.filter_cons, if_neg e]; simp
def J0U (U : ZI) (E : ZR) (k : Int) : ZI := J4P (J5 E) (upS U k)
theorem JaS {U : ZI} {E : ZR} {k : Int} (hk : 1 ≤ k ∧ k ≤ (U.length : Int)) : J0U U E k ∈ J6 (U.length : Int).toNat := J6r (Jar (J8m hk))
def Jg (U : ZI) (E : ZR) (k : Int) : ZI := if (J0 U E && inB k 1 (U.length : Int)) = true then J0U U E k else []
def J9 (U : ZI) (E : ZR) (k : Int) : Int := if (J0 U E && inB k 1 (U.length : Int)) = true then J5 E (J0U U E k) else 0
theorem JdL (x : ZI) (k : Int) : PB Tryz.prog 190 [.sl (.ints x), .bx [.int .i64 k] 0] (decide ((x.length : Int) > k)) := by
  refine ⟨@Tryz.call190, fun w vs hall => ?_⟩
  obtain ⟨v1, v2, rfl⟩ : ∃ v1 v2, vs = [v1, v2] := by
    match vs, hall.1 with
    | [a, b], _ => exact ⟨a, b, rfl⟩
  obtain ⟨ad, cap, rfl⟩ := JeH (hall.2 0 v1 _ rfl rfl)
  obtain ⟨b, rfl, hc⟩ := Jgm (hall.2 1 v2 _ rfl rfl)
  show Calls Tryz.prog 190 #[.slice ad x.length cap, .pointer (some b)] w _
  clear hall
  go_enter Tryz.func190, Tryz.ntmps190
  go_wp2
  all_goals (go_ret; exact ⟨by first | (simp_all; done) | (simp_all; rfl), 0, rfl⟩)
theorem J3y (xss : ZR) (k : Int) (hp : 0 < xss.length) : PU Tryz.prog 189 24 (.rows xss) (.rows (xss.filter (fun x9 => !(decide ((x9.length : Int) > k))))) [.fn 190 0 [.bx [.int .i64 k] 0]] true :=
  pu_deleteFunc Tryz.layDelete Tryz.zeroValue24 24 xss (fun x9 => decide ((x9.length : Int) > k)) 190 [.bx [.int .i64 k] 0] (fun x => JdL x k) hp
def Jbm (f : FuncId) (ds : List D) : Orc := bif Nat.beq f 115 then Jah ds else .no
def Jbd (U : ZI) (E : ZR) (k : Int) : Ann := .two (.none) (.two (.mark [] [(5, .up (.rows ((J6 (U.length : Int).toNat).filter (fun x9 => !(decide ((x9.length : Int) > k))))) true)]) (.none))
def J6z (U : ZI) (E : ZR) (k : Int) : Prop :=
  (PC Tryz.prog 115 [.int .i64 (U.length : Int)] (.one (.own 24 (.rows (J6 (U.length : Int).toNat))))) ∧ ((J6 (U.length : Int).toNat).length = (J6 (U.length : Int).toNat).length) ∧ (PU Tryz.prog 189 24 (.rows (J6 (U.length : Int).toNat)) (.rows ((J6 (U.length : Int).toNat).filter (fun x9 => !(decide ((x9.length : Int) > k))))) [.fn 190 0 [.bx [.int .i64 k] 0]] true) ∧ ((((J6 (U.length : Int).toNat).filter (fun x9 => !(decide ((x9.length : Int) > k)))).length = ((J6 (U.length : Int).toNat).filter (fun x9 => !(decide ((x9.length : Int) > k)))).length) ∧ ((((J6 (U.length : Int).toNat).filter (fun x9 => !(decide ((x9.length : Int) > k)))) : ZR) = (upS U k)))
theorem J9Z (U : ZI) (E : ZR) (k : Int) (hg : J0 U E = true) (hk : 1 ≤ k ∧ k ≤ (U.length : Int)) (w_Open : (U.length : Int) ≤ 9223372036854775807) (w_Dist : (E.length : Int) ≤ 9223372036854775807) (v_Dist : ∀ x9 ∈ E, (x9.length : Int) ≤ 9223372036854775807) : J6z U E k := by
  unfold J6z
  obtain ⟨g1, g2, g3⟩ := Jb hg
  refine ⟨?_, rfl, ?_, rfl, ?_⟩
  ·refine JbE (U.length : Int) ?_
   ·omega
  ·refine J3y (J6 (U.length : Int).toNat) k ?_
   ·exact Jg9 (by omega)
  rfl
theorem JaB (U : ZI) (E : ZR) (k : Int) (hg : J0 U E = true) (hk : 1 ≤ k ∧ k ≤ (U.length : Int)) : PC Tryz.prog 95 [.agg [.sl (.ints U), .sl (.rows E)], .int .i64 k] (.one (.d (.sl (.rows (upS U k))))) :=
  pc_wf @Tryz.call95 fun hw => pc_by (by kernel_rfl) Tryz.func95 @Tryz.call95 (by kernel_rfl) Jbm (Jbd U E k) (by kernel_rfl) (J9Z U E k hg hk hw.1.1 hw.1.2.1.1 hw.1.2.1.2) (by kernel_rfl)
def J9l : List D → Orc := orcN [none, none] fun ds => match ds with
  | [.agg [.sl (.ints U), .sl (.rows E)], .int .i64 k] => some (.one (.d (.sl (.rows (upS U k)))))
  | _ => none
abbrev J29 (U : ZI) (E : ZR) (k : Int) (out : ZR) (i : Int) : Prop := (0 ≤ i) ∧ (i ≤ ((J6 (U.length : Int).toNat).length : Int)) ∧ (out = ((J6 (U.length : Int).toNat).take i.toNat).filter (fun x9 => !(decide ((x9.length : Int) > k))))
abbrev J0V (U : ZI) (E : ZR) (k : Int) (out : ZR) (i : Int) : Nat := ((J6 (U.length : Int).toNat).length - i).toNat
def JeT (f : FuncId) (ds : List D) : Orc := bif Nat.beq f 148 then Jdq ds else .no
def JeL (U : ZI) (E : ZR) (k : Int) : Ann := .two (.none) (.two (.none) (.two (.none) (.two (.two (.none) (.loop (cut2 (fun (out : ZR) (i : Int) => J29 U E k out i) (fun (out : ZR) (i : Int) => [(1, .d false (.int .i64 k)), (5, .own 1000000 out.length), (6, .d true (.sl (.rows (J6 (U.length : Int).toNat)))), (7, .d true (.int .i64 i))]) (fun (out : ZR) (i : Int) => [(1000000, .arr true 24 (.rows out))])) (fun g => J0V U E k g.1 g.2) (fun _ => .none))) (.none))))
def J9R (U : ZI) (E : ZR) (k : Int) : Prop :=
  (PC Tryz.prog 148 [.int .i64 (U.length : Int)] (.one (.d (.sl (.rows (J6 (U.length : Int).toNat)))))) ∧ ((∃ out' : ZR, ∃ i' : Int, (J29 U E k out' i') ∧ (k = k) ∧ ((0 : Nat) = out'.length) ∧ ((J6 (U.length : Int).toNat) = (J6 (U.length : Int).toNat)) ∧ ((0 : Int) = i') ∧ ([] = out')) ∧ (∀ out : ZR, ∀ i : Int, (J29 U E k out i) → (((decide (i < (((J6 (U.length : Int).toNat).length) : Int))) = true → ((0 : Int) ≤ i) ∧ ((i : Int) < (J6 (U.length : Int).toNat).length) ∧ (i.toNat < (J6 (U.length : Int).toNat).length) ∧ (((decide ((((J6 (U.length : Int).toNat).getD i.toNat []).length : Int) ≤ k)) = true → ((0 : Int) ≤ i) ∧ ((i : Int) < (J6 (U.length : Int).toNat).length) ∧ (i.toNat < (J6 (U.length : Int).toNat).length) ∧ (out.length = out.length) ∧ ((1 : Nat) = 1) ∧ ((out.length + 1) * 24 ≤ 140737488355328) ∧ (I6 (i + 1)) ∧ (∃ out' : ZR, ∃ i' : Int, (J29 U E k out' i') ∧ (J0V U E k out' i' < J0V U E k out i) ∧ (k = k) ∧ ((out.length + 1) = out'.length) ∧ ((J6 (U.length : Int).toNat) = (J6 (U.length : Int).toNat)) ∧ ((i + 1) = i') ∧ ((out ++ [((J6 (U.length : Int).toNat).getD i.toNat [])]) = out'))) ∧ ((decide ((((J6 (U.length : Int).toNat).getD i.toNat []).length : Int) ≤ k)) = false → (I6 (i + 1)) ∧ (∃ out' : ZR, ∃ i' : Int, (J29 U E k out' i') ∧ (J0V U E k out' i' < J0V U E k out i) ∧ (k = k) ∧ (out.length = out'.length) ∧ ((J6 (U.length : Int).toNat) = (J6 (U.length : Int).toNat)) ∧ ((i + 1) = i') ∧ (out = out'))))) ∧ ((decide (i < (((J6 (U.length : Int).toNat).length) : Int))) = false → ((out.length = out.length) ∧ ((out : ZR) = (upS U k)))))))
theorem JdD (U : ZI) (E : ZR) (k : Int) (hg : J0 U E = true) (hk : 1 ≤ k ∧ k ≤ (U.length : Int)) (w_Open : (U.length : Int) ≤ 9223372036854775807) (w_Dist : (E.length : Int) ≤ 9223372036854775807) (v_Dist : ∀ x9 ∈ E, (x9.length : Int) ≤ 9223372036854775807) : J9R U E k := by
  unfold J9R
  obtain ⟨g1, g2, g3⟩ := Jb hg
  have sl := J6Q (n := (U.length : Int).toNat) (by omega)
  refine ⟨?_, ?_, ?_⟩
  ·refine Jea (U.length : Int) ?_
   ·omega
  ·refine ⟨([]), 0, ?_⟩
   refine ⟨?_, rfl, rfl, rfl, rfl, ?_⟩
   ·refine ⟨?_, ?_, ?_⟩
    ·omega
    ·omega
    ·rfl
   rfl
  intro out i hJ
  obtain ⟨h1, h2, h3⟩ := hJ
  refine ⟨?_, ?_⟩
  ·intro b1
   try simp only [nrmT] at b1
   refine ⟨?_, ?_, ?_, ?_, ?_⟩
   ·omega
   ·omega
   ·omega
   ·intro b2
    try simp only [nrmT] at b2
    refine ⟨?_, ?_, ?_, rfl, rfl, ?_, ?_, ?_⟩
    ·omega
    ·omega
    ·omega
    ·have := List.length_filter_le (fun x9 : ZI => !(decide ((x9.length : Int) > k))) ((J6 (U.length : Int).toNat).take i.toNat)
     rw [← h3, List.length_take] at this
     omega
    ·omega
    refine ⟨(out ++ [((J6 (U.length : Int).toNat).getD i.toNat [])]), (i + 1), ?_⟩
    refine ⟨?_, ?_, rfl, ?_, rfl, rfl, rfl⟩
    ·refine ⟨?_, ?_, ?_⟩
     ·omega
     ·omega
     ·rw [J8U h1 (by omega), ← h3, if_pos (by rw [decide_eq_false (by omega)]; rfl)]
    ·(simp only [J0V]; omega)
    (simp_all; done)
   intro b3
   try simp only [nrmT] at b3
   refine ⟨?_, ?_⟩
   ·omega
   refine ⟨out, (i + 1), ?_⟩
   refine ⟨?_, ?_, rfl, rfl, rfl, rfl, rfl⟩
   ·refine ⟨?_, ?_, ?_⟩
    ·omega
    ·omega
    ·rw [J8U h1 (by omega), ← h3, if_neg (by rw [decide_eq_true (by omega)]; simp)]
   (simp only [J0V]; omega)
  intro b4
  try simp only [nrmT] at b4
  refine ⟨rfl, ?_⟩
  ·rw [h3, take_all (by omega)]; rfl
theorem JdY (U : ZI) (E : ZR) (k : Int) (hg : J0 U E = true) (hk : 1 ≤ k ∧ k ≤ (U.length : Int)) : PC Tryz.prog 159 [.agg [.sl (.ints U), .sl (.rows E)], .int .i64 k] (.one (.d (.sl (.rows (upS U k))))) :=
  pc_wf @Tryz.call159 fun hw => pc_by (by kernel_rfl) Tryz.func159 @Tryz.call159 (by kernel_rfl) JeT (JeL U E k) (by kernel_rfl) (JdD U E k hg hk hw.1.1 hw.1.2.1.1 hw.1.2.1.2) (by kernel_rfl)
def Jd5 : List D → Orc := orcN [none, none] fun ds => match ds with
  | [.agg [.sl (.ints U), .sl (.rows E)], .int .i64 k] => some (.one (.d (.sl (.rows (upS U k)))))
  | _ => none
abbrev J23 (U : ZI) (E : ZR) (k : Int) (best : ZI) (i : Int) : Prop := (1 ≤ i) ∧ (i ≤ ((upS U k).length : Int)) ∧ (best ∈ upS U k) ∧ (best = ((upS U k).take i.toNat).foldl (lsB (J5 E)) ((upS U k).getD 0 []))
abbrev J0S (U : ZI) (E : ZR) (k : Int) (best : ZI) (i : Int) : Nat := ((upS U k).length - i).toNat
def JeU (f : FuncId) (ds : List D) : Orc := bif Nat.beq f 159 then Jd5 ds else bif Nat.beq f 100 then J96 ds else .no
def JeO (U : ZI) (E : ZR) (k : Int) : Ann := .two (.none) (.two (.none) (.two (.none) (.two (.two (.none) (.loop (cut2 (fun (best : ZI) (i : Int) => J23 U E k best i) (fun (best : ZI) (i : Int) => [(2, .ptr 2 0), (5, .d true (.sl (.rows (upS U k)))), (6, .d true (.sl (.ints best))), (7, .d true (.int .i64 i))]) (fun (best : ZI) (i : Int) => [(2, .box 27 [.d false (.sl (.ints U)), .d false (.sl (.rows E))])])) (fun g => J0S U E k g.1 g.2) (fun _ => .none))) (.none))))
def Jay (U : ZI) (E : ZR) (k : Int) : Prop :=
  (PC Tryz.prog 159 [.agg [.sl (.ints U), .sl (.rows E)], .int .i64 k] (.one (.d (.sl (.rows (upS U k)))))) ∧ ((0 : Int) ≤ 0) ∧ ((0 : Int) < (upS U k).length) ∧ (0 < (upS U k).length) ∧ ((∃ best' : ZI, ∃ i' : Int, (J23 U E k best' i') ∧ ((upS U k) = (upS U k)) ∧ (((upS U k).getD 0 []) = best') ∧ ((1 : Int) = i') ∧ (U = U) ∧ (E = E)) ∧ (∀ best : ZI, ∀ i : Int, (J23 U E k best i) → (((decide (i < (((upS U k).length) : Int))) = true → (true = true) ∧ ((0 : Int) ≤ i) ∧ ((i : Int) < (upS U k).length) ∧ (i.toNat < (upS U k).length) ∧ (PC Tryz.prog 100 [.agg [.sl (.ints U), .sl (.rows E)], .sl (.ints ((upS U k).getD i.toNat []))] (.one (.d (.int .i64 (J5 E ((upS U k).getD i.toNat [])))))) ∧ (PC Tryz.prog 100 [.agg [.sl (.ints U), .sl (.rows E)], .sl (.ints best)] (.one (.d (.int .i64 (J5 E best))))) ∧ (((decide ((J5 E ((upS U k).getD i.toNat [])) < (J5 E best))) = true → ((0 : Int) ≤ i) ∧ ((i : Int) < (upS U k).length) ∧ (i.toNat < (upS U k).length) ∧ (I6 (i + 1)) ∧ (∃ best' : ZI, ∃ i' : Int, (J23 U E k best' i') ∧ (J0S U E k best' i' < J0S U E k best i) ∧ ((upS U k) = (upS U k)) ∧ (((upS U k).getD i.toNat []) = best') ∧ ((i + 1) = i') ∧ (U = U) ∧ (E = E))) ∧ ((decide ((J5 E ((upS U k).getD i.toNat [])) < (J5 E best))) = false → (I6 (i + 1)) ∧ (∃ best' : ZI, ∃ i' : Int, (J23 U E k best' i') ∧ (J0S U E k best' i' < J0S U E k best i) ∧ ((upS U k) = (upS U k)) ∧ (best = best') ∧ ((i + 1) = i') ∧ (U = U) ∧ (E = E))))) ∧ ((decide (i < (((upS U k).length) : Int))) = false → (((best : ZI) = (J0U U E k)))))))
theorem JdT (U : ZI) (E : ZR) (k : Int) (hg : J0 U E = true) (hk : 1 ≤ k ∧ k ≤ (U.length : Int)) (w_Open : (U.length : Int) ≤ 9223372036854775807) (w_Dist : (E.length : Int) ≤ 9223372036854775807) (v_Dist : ∀ x9 ∈ E, (x9.length : Int) ≤ 9223372036854775807) : Jay U E k := by
  unfold Jay
  obtain ⟨g1, g2, g3⟩ := Jb hg
  have up := J8m (k := k) hk
  have ul := JgC hg (k := k)
  refine ⟨?_, ?_, ?_, ?_, ?_, ?_⟩
  ·refine JdY U E k ?_ ?_
   ·omega
   ·omega
  ·omega
  ·omega
  ·omega
  ·refine ⟨((upS U k).getD 0 []), 1, ?_⟩
   refine ⟨?_, rfl, rfl, rfl, rfl, rfl⟩
   ·refine ⟨?_, ?_, ?_, ?_⟩
    ·omega
    ·omega
    ·exact getD_mem up
    ·exact (Jfg up).symm
  intro best i hJ
  obtain ⟨h1, h2, h3, h4⟩ := hJ
  refine ⟨?_, ?_⟩
  ·intro b1
   try simp only [nrmT] at b1
   refine ⟨rfl, ?_, ?_, ?_, ?_, ?_, ?_, ?_⟩
   ·omega
   ·omega
   ·omega
   ·refine J70 U E ((upS U k).getD i.toNat []) ?_
    ·exact (J1H hg (J6r (getD_memI (by omega) (by omega)))).1
   ·refine J70 U E best ?_
    ·exact (J1H hg (J6r (h3))).1
   ·intro b2
    try simp only [nrmT] at b2
    refine ⟨?_, ?_, ?_, ?_, ?_⟩
    ·omega
    ·omega
    ·omega
    ·omega
    refine ⟨((upS U k).getD i.toNat []), (i + 1), ?_⟩
    refine ⟨?_, ?_, rfl, rfl, rfl, rfl, rfl⟩
    ·refine ⟨?_, ?_, ?_, ?_⟩
     ·omega
     ·omega
     ·exact getD_memI (by omega) (by omega)
     ·rw [J67 (d := []) (by omega) (by omega), ← h4]; unfold lsB; rw [if_pos b2]
    (simp only [J0S]; omega)
   intro b3
   try simp only [nrmT] at b3
   refine ⟨?_, ?_⟩
   ·omega
   refine ⟨best, (i + 1), ?_⟩
   refine ⟨?_, ?_, rfl, rfl, rfl, rfl, rfl⟩
   ·refine ⟨?_, ?_, ?_, ?_⟩
    ·omega
    ·omega
    ·exact h3
    ·rw [J67 (d := []) (by omega) (by omega), ← h4]; unfold lsB; rw [if_neg (by omega)]
   (simp only [J0S]; omega)
  intro b4
  try simp only [nrmT] at b4
  rw [h4, take_all (by omega)]; rfl
theorem J98 (U : ZI) (E : ZR) (k : Int) (hg : J0 U E = true) (hk : 1 ≤ k ∧ k ≤ (U.length : Int)) : PC Tryz.prog 99 [.agg [.sl (.ints U), .sl (.rows E)], .int .i64 k] (.one (.d (.sl (.ints (J0U U E k))))) :=
  pc_wf @Tryz.call99 fun hw => pc_by (by kernel_rfl) Tryz.func99 @Tryz.call99 (by kernel_rfl) JeU (JeO U E k) (by kernel_rfl) (JdT U E k hg hk hw.1.1 hw.1.2.1.1 hw.1.2.1.2) (by kernel_rfl)
def J7V : List D → Orc := orcN [none, none] fun ds => match ds with
  | [.agg [.sl (.ints U), .sl (.rows E)], .int .i64 k] => some (.one (.d (.sl (.ints (J0U U E k)))))
  | _ => none
def Jao (f : FuncId) (ds : List D) : Orc := bif Nat.beq f 97 then J2T ds else bif Nat.beq f 99 then J7V ds else bif Nat.beq f 98 then J6e ds else .no
def Jaj (U : ZI) (E : ZR) (k : Int) : Ann := .none
def J69 (U : ZI) (E : ZR) (k : Int) : Prop :=
  (PC Tryz.prog 97 [.agg [.sl (.ints U), .sl (.rows E)], .int .i64 k] (.one (.d (.bool (J0 U E && inB k 1 (U.length : Int)))))) ∧ (((!(J0 U E && inB k 1 (U.length : Int))) = true → (((0 : Nat) = 0) ∧ (([] : ZI) = Jg U E k) ∧ (false = (J0 U E && inB k 1 (U.length : Int))))) ∧ ((!(J0 U E && inB k 1 (U.length : Int))) = false → (PC Tryz.prog 99 [.agg [.sl (.ints U), .sl (.rows E)], .int .i64 k] (.one (.d (.sl (.ints (J0U U E k)))))) ∧ (PC Tryz.prog 98 [.sl (.ints (J0U U E k))] (.one (.own 3 (.ints (J0U U E k))))) ∧ (((J0U U E k).length = (J0U U E k).length) ∧ (((J0U U E k) : ZI) = Jg U E k) ∧ (true = (J0 U E && inB k 1 (U.length : Int))))))
theorem J9s (U : ZI) (E : ZR) (k : Int)  (w_Open : (U.length : Int) ≤ 9223372036854775807) (w_Dist : (E.length : Int) ≤ 9223372036854775807) (v_Dist : ∀ x9 ∈ E, (x9.length : Int) ≤ 9223372036854775807) : J69 U E k := by
  unfold J69
  refine ⟨J3T U E k, ?_, ?_⟩
  ·intro b1
   try simp only [Bool.not_eq_true', Bool.not_eq_false', Bool.not_not] at b1
   refine ⟨rfl, ?_, ?_⟩
   ·have hgk : (J0 U E && inB k 1 (U.length : Int)) = false := by simpa using b1
    unfold Jg; rw [hgk]; rfl
   have hgk : (J0 U E && inB k 1 (U.length : Int)) = false := by simpa using b1
   exact hgk.symm
  intro b2
  try simp only [Bool.not_eq_true', Bool.not_eq_false', Bool.not_not] at b2
  refine ⟨?_, ?_, rfl, ?_, ?_⟩
  ·refine J98 U E k ?_ ?_
   ·have hgk : (J0 U E && inB k 1 (U.length : Int)) = true := by simpa using b2
    obtain ⟨hg, hk⟩ := (Bool.and_eq_true _ _ ▸ hgk : _ ∧ _)
    have hk2 := Jx hk
    exact hg
   ·have hgk : (J0 U E && inB k 1 (U.length : Int)) = true := by simpa using b2
    obtain ⟨hg, hk⟩ := (Bool.and_eq_true _ _ ▸ hgk : _ ∧ _)
    have hk2 := Jx hk
    exact hk2
  ·refine J5n (J0U U E k) ?_
   ·have hgk : (J0 U E && inB k 1 (U.length : Int)) = true := by simpa using b2
    obtain ⟨hg, hk⟩ := (Bool.and_eq_true _ _ ▸ hgk : _ ∧ _)
    have hk2 := Jx hk
    have := (J1H hg (JaS (E := E) hk2)).2
    omega
  ·have hgk : (J0 U E && inB k 1 (U.length : Int)) = true := by simpa using b2
   obtain ⟨hg, hk⟩ := (Bool.and_eq_true _ _ ▸ hgk : _ ∧ _)
   have hk2 := Jx hk
   unfold Jg; rw [if_pos hgk]; try rfl
  have hgk : (J0 U E && inB k 1 (U.length : Int)) = true := by simpa using b2
  obtain ⟨hg, hk⟩ := (Bool.and_eq_true _ _ ▸ hgk : _ ∧ _)
  have hk2 := Jx hk
  exact hgk.symm
theorem J9B (U : ZI) (E : ZR) (k : Int)  : PC Tryz.prog 12 [.agg [.sl (.ints U), .sl (.rows E)], .int .i64 k] (.tup [.own 3 (.ints (Jg U E k)), .d (.bool (J0 U E && inB k 1 (U.length : Int)))]) :=
  pc_wf @Tryz.call12 fun hw => pc_by (by kernel_rfl) Tryz.func12 @Tryz.call12 (by kernel_rfl) Jao (Jaj U E k) (by kernel_rfl) (J9s U E k hw.1.1 hw.1.2.1.1 hw.1.2.1.2) (by kernel_rfl)
def J8u : List D → Orc := orcN [none, none] fun ds => match ds with
  | [.agg [.sl (.ints U), .sl (.rows E)], .int .i64 k] => some (.tup [.own 3 (.ints (Jg U E k)), .d (.bool (J0 U E && inB k 1 (U.length : Int)))])
  | _ => none
def Ja1 (f : FuncId) (ds : List D) : Orc := bif Nat.beq f 93 then J1f ds else bif Nat.beq f 95 then J9l ds else bif Nat.beq f 94 then JaD ds else .no
def Jaz (U : ZI) (E : ZR) (k : Int) : Ann := .none
def J5X (U : ZI) (E : ZR) (k : Int) : Prop :=
  (PC Tryz.prog 93 [.agg [.sl (.ints U), .sl (.rows E)], .int .i64 k] (.one (.d (.bool (J0 U E && inB k 1 (U.length : Int)))))) ∧ (((!(J0 U E && inB k 1 (U.length : Int))) = true → (((Jg U E k).length = 0) ∧ (false = (J0 U E && inB k 1 (U.length : Int))))) ∧ ((!(J0 U E && inB k 1 (U.length : Int))) = false → (true = true) ∧ (PC Tryz.prog 95 [.agg [.sl (.ints U), .sl (.rows E)], .int .i64 k] (.one (.d (.sl (.rows (upS U k)))))) ∧ (PCs Tryz.prog 94 [.sl (.rows (upS U k)), .fn 96 1 [.agg [.sl (.ints U), .sl (.rows E)]]] 0 (.sl (.ints (J4P (J5 E) (upS U k))))) ∧ ((((J4P (J5 E) (upS U k)) : ZI) = (Jg U E k)) ∧ (true = (J0 U E && inB k 1 (U.length : Int))))))
theorem J9D (U : ZI) (E : ZR) (k : Int)  (w_Open : (U.length : Int) ≤ 9223372036854775807) (w_Dist : (E.length : Int) ≤ 9223372036854775807) (v_Dist : ∀ x9 ∈ E, (x9.length : Int) ≤ 9223372036854775807) : J5X U E k := by
  unfold J5X
  refine ⟨J1p U E k, ?_, ?_⟩
  ·intro b1
   try simp only [Bool.not_eq_true', Bool.not_eq_false', Bool.not_not] at b1
   refine ⟨?_, ?_⟩
   ·have hgk : (J0 U E && inB k 1 (U.length : Int)) = false := by simpa using b1
    unfold Jg; rw [hgk]; rfl
   have hgk : (J0 U E && inB k 1 (U.length : Int)) = false := by simpa using b1
   exact hgk.symm
  intro b2
  try simp only [Bool.not_eq_true', Bool.not_eq_false', Bool.not_not] at b2
  refine ⟨rfl, ?_, ?_, ?_, ?_⟩
  ·refine JaB U E k ?_ ?_
   ·have hgk : (J0 U E && inB k 1 (U.length : Int)) = true := by simpa using b2
    obtain ⟨hg, hk⟩ := (Bool.and_eq_true _ _ ▸ hgk : _ ∧ _)
    have hk2 := Jx hk
    exact hg
   ·have hgk : (J0 U E && inB k 1 (U.length : Int)) = true := by simpa using b2
    obtain ⟨hg, hk⟩ := (Bool.and_eq_true _ _ ▸ hgk : _ ∧ _)
    have hk2 := Jx hk
    exact hk2
  ·refine Jbe (upS U k) U E ?_ ?_
   ·have hgk : (J0 U E && inB k 1 (U.length : Int)) = true := by simpa using b2
    obtain ⟨hg, hk⟩ := (Bool.and_eq_true _ _ ▸ hgk : _ ∧ _)
    have hk2 := Jx hk
    exact J8m hk2
   ·have hgk : (J0 U E && inB k 1 (U.length : Int)) = true := by simpa using b2
    obtain ⟨hg, hk⟩ := (Bool.and_eq_true _ _ ▸ hgk : _ ∧ _)
    have hk2 := Jx hk
    intro s hs
    exact (J1H hg (J6r (hs))).1
  ·have hgk : (J0 U E && inB k 1 (U.length : Int)) = true := by simpa using b2
   obtain ⟨hg, hk⟩ := (Bool.and_eq_true _ _ ▸ hgk : _ ∧ _)
   have hk2 := Jx hk
   unfold Jg; rw [if_pos hgk]; try rfl
  have hgk : (J0 U E && inB k 1 (U.length : Int)) = true := by simpa using b2
  obtain ⟨hg, hk⟩ := (Bool.and_eq_true _ _ ▸ hgk : _ ∧ _)
  have hk2 := Jx hk
  exact hgk.symm
theorem J5F (U : ZI) (E : ZR) (k : Int)  : PC Tryz.prog 11 [.agg [.sl (.ints U), .sl (.rows E)], .int .i64 k] (.tup [.d (.sl (.ints (Jg U E k))), .d (.bool (J0 U E && inB k 1 (U.length : Int)))]) :=
  pc_wf @Tryz.call11 fun hw => pc_by (by kernel_rfl) Tryz.func11 @Tryz.call11 (by kernel_rfl) Ja1 (Jaz U E k) (by kernel_rfl) (J9D U E k hw.1.1 hw.1.2.1.1 hw.1.2.1.2) (by kernel_rfl)
def J5b : List D → Orc := orcN [none, none] fun ds => match ds with
  | [.agg [.sl (.ints U), .sl (.rows E)], .int .i64 k] => some (.tup [.d (.sl (.ints (Jg U E k))), .d (.bool (J0 U E && inB k 1 (U.length : Int)))])
  | _ => none
def JaN (f : FuncId) (ds : List D) : Orc := bif Nat.beq f 97 then J2T ds else bif Nat.beq f 99 then J7V ds else bif Nat.beq f 100 then J96 ds else .no
def JaC (U : ZI) (E : ZR) (k : Int) : Ann := .none
def J6a (U : ZI) (E : ZR) (k : Int) : Prop :=
  (PC Tryz.prog 97 [.agg [.sl (.ints U), .sl (.rows E)], .int .i64 k] (.one (.d (.bool (J0 U E && inB k 1 (U.length : Int)))))) ∧ (((!(J0 U E && inB k 1 (U.length : Int))) = true → (((0 : Int) = (J9 U E k)) ∧ (false = (J0 U E && inB k 1 (U.length : Int))))) ∧ ((!(J0 U E && inB k 1 (U.length : Int))) = false → (true = true) ∧ (PC Tryz.prog 99 [.agg [.sl (.ints U), .sl (.rows E)], .int .i64 k] (.one (.d (.sl (.ints (J0U U E k)))))) ∧ (PC Tryz.prog 100 [.agg [.sl (.ints U), .sl (.rows E)], .sl (.ints (J0U U E k))] (.one (.d (.int .i64 (J5 E (J0U U E k)))))) ∧ (((J5 E (J0U U E k)) = (J9 U E k)) ∧ (true = (J0 U E && inB k 1 (U.length : Int))))))
theorem J9C (U : ZI) (E : ZR) (k : Int)  (w_Open : (U.length : Int) ≤ 9223372036854775807) (w_Dist : (E.length : Int) ≤ 9223372036854775807) (v_Dist : ∀ x9 ∈ E, (x9.length : Int) ≤ 9223372036854775807) : J6a U E k := by
  unfold J6a
  refine ⟨J3T U E k, ?_, ?_⟩
  ·intro b1
   try simp only [Bool.not_eq_true', Bool.not_eq_false', Bool.not_not] at b1
   refine ⟨?_, ?_⟩
   ·have hgk : (J0 U E && inB k 1 (U.length : Int)) = false := by simpa using b1
    unfold J9; rw [hgk]; rfl
   have hgk : (J0 U E && inB k 1 (U.length : Int)) = false := by simpa using b1
   exact hgk.symm
  intro b2
  try simp only [Bool.not_eq_true', Bool.not_eq_false', Bool.not_not] at b2
  refine ⟨rfl, ?_, ?_, ?_, ?_⟩
  ·refine J98 U E k ?_ ?_
   ·have hgk : (J0 U E && inB k 1 (U.length : Int)) = true := by simpa using b2
    obtain ⟨hg, hk⟩ := (Bool.and_eq_true _ _ ▸ hgk : _ ∧ _)
    have hk2 := Jx hk
    exact hg
   ·have hgk : (J0 U E && inB k 1 (U.length : Int)) = true := by simpa using b2
    obtain ⟨hg, hk⟩ := (Bool.and_eq_true _ _ ▸ hgk : _ ∧ _)
    have hk2 := Jx hk
    exact hk2
  ·refine J70 U E (J0U U E k) ?_
   ·have hgk : (J0 U E && inB k 1 (U.length : Int)) = true := by simpa using b2
    obtain ⟨hg, hk⟩ := (Bool.and_eq_true _ _ ▸ hgk : _ ∧ _)
    have hk2 := Jx hk
    exact (J1H hg (JaS hk2)).1
  ·have hgk : (J0 U E && inB k 1 (U.length : Int)) = true := by simpa using b2
   obtain ⟨hg, hk⟩ := (Bool.and_eq_true _ _ ▸ hgk : _ ∧ _)
   have hk2 := Jx hk
   unfold J9; rw [if_pos hgk]
  have hgk : (J0 U E && inB k 1 (U.length : Int)) = true := by simpa using b2
  obtain ⟨hg, hk⟩ := (Bool.and_eq_true _ _ ▸ hgk : _ ∧ _)
  have hk2 := Jx hk
  exact hgk.symm
theorem J9c (U : ZI) (E : ZR) (k : Int)  : PC Tryz.prog 14 [.agg [.sl (.ints U), .sl (.rows E)], .int .i64 k] (.tup [.d (.int .i64 (J9 U E k)), .d (.bool (J0 U E && inB k 1 (U.length : Int)))]) :=
  pc_wf @Tryz.call14 fun hw => pc_by (by kernel_rfl) Tryz.func14 @Tryz.call14 (by kernel_rfl) JaN (JaC U E k) (by kernel_rfl) (J9C U E k hw.1.1 hw.1.2.1.1 hw.1.2.1.2) (by kernel_rfl)
def J8G : List D → Orc := orcN [none, none] fun ds => match ds with
  | [.agg [.sl (.ints U), .sl (.rows E)], .int .i64 k] => some (.tup [.d (.int .i64 (J9 U E k)), .d (.bool (J0 U E && inB k 1 (U.length : Int)))])
  | _ => none
def J9S (f : FuncId) (ds : List D) : Orc := bif Nat.beq f 11 then J5b ds else bif Nat.beq f 96 then J1o ds else .no
def Jat (U : ZI) (E : ZR) (k : Int) : Ann := .none
def J5Z (U : ZI) (E : ZR) (k : Int) : Prop :=
  (PC Tryz.prog 11 [.agg [.sl (.ints U), .sl (.rows E)], .int .i64 k] (.tup [.d (.sl (.ints (Jg U E k))), .d (.bool (J0 U E && inB k 1 (U.length : Int)))])) ∧ (((!(J0 U E && inB k 1 (U.length : Int))) = true → (((0 : Int) = (J9 U E k)) ∧ (false = (J0 U E && inB k 1 (U.length : Int))))) ∧ ((!(J0 U E && inB k 1 (U.length : Int))) = false → (PC Tryz.prog 96 [.agg [.sl (.ints U), .sl (.rows E)], .sl (.ints (Jg U E k))] (.one (.d (.int .i64 (J5 E (Jg U E k)))))) ∧ (((J5 E (Jg U E k)) = (J9 U E k)) ∧ (true = (J0 U E && inB k 1 (U.length : Int))))))
theorem J9x (U : ZI) (E : ZR) (k : Int)  (w_Open : (U.length : Int) ≤ 9223372036854775807) (w_Dist : (E.length : Int) ≤ 9223372036854775807) (v_Dist : ∀ x9 ∈ E, (x9.length : Int) ≤ 9223372036854775807) : J5Z U E k := by
  unfold J5Z
  refine ⟨J5F U E k, ?_, ?_⟩
  ·intro b1
   try simp only [Bool.not_eq_true', Bool.not_eq_false', Bool.not_not] at b1
   refine ⟨?_, ?_⟩
   ·have hgk : (J0 U E && inB k 1 (U.length : Int)) = false := by simpa using b1
    unfold J9; rw [hgk]; rfl
   have hgk : (J0 U E && inB k 1 (U.length : Int)) = false := by simpa using b1
   exact hgk.symm
  intro b2
  try simp only [Bool.not_eq_true', Bool.not_eq_false', Bool.not_not] at b2
  refine ⟨?_, ?_, ?_⟩
  ·refine J0Y U E (Jg U E k) ?_
   ·have hgk : (J0 U E && inB k 1 (U.length : Int)) = true := by simpa using b2
    obtain ⟨hg, hk⟩ := (Bool.and_eq_true _ _ ▸ hgk : _ ∧ _)
    have hk2 := Jx hk
    unfold Jg
    rw [if_pos hgk]
    exact (J1H hg (JaS hk2)).1
  ·have hgk : (J0 U E && inB k 1 (U.length : Int)) = true := by simpa using b2
   obtain ⟨hg, hk⟩ := (Bool.and_eq_true _ _ ▸ hgk : _ ∧ _)
   have hk2 := Jx hk
   unfold J9 Jg
   rw [if_pos hgk, if_pos hgk]
  have hgk : (J0 U E && inB k 1 (U.length : Int)) = true := by simpa using b2
  obtain ⟨hg, hk⟩ := (Bool.and_eq_true _ _ ▸ hgk : _ ∧ _)
  have hk2 := Jx hk
  exact hgk.symm
theorem J9i (U : ZI) (E : ZR) (k : Int)  : PC Tryz.prog 13 [.agg [.sl (.ints U), .sl (.rows E)], .int .i64 k] (.tup [.d (.int .i64 (J9 U E k)), .d (.bool (J0 U E && inB k 1 (U.length : Int)))]) :=
  pc_wf @Tryz.call13 fun hw => pc_by (by kernel_rfl) Tryz.func13 @Tryz.call13 (by kernel_rfl) J9S (Jat U E k) (by kernel_rfl) (J9x U E k hw.1.1 hw.1.2.1.1 hw.1.2.1.2) (by kernel_rfl)
def J8E : List D → Orc := orcN [none, none] fun ds => match ds with
  | [.agg [.sl (.ints U), .sl (.rows E)], .int .i64 k] => some (.tup [.d (.int .i64 (J9 U E k)), .d (.bool (J0 U E && inB k 1 (U.length : Int)))])
  | _ => none
def chs (n : Nat) : ZR := [[]] ++ J6 n
theorem Jel {n : Nat} {s : ZI} : s ∈ chs n ↔ ∃ c, c < 2 ^ n ∧ lst n c = s := by
  unfold chs
  rw [List.mem_append, J7U]
  have h0 : lst n 0 = [] := by
    cases e : lst n 0 with
    | nil => rfl
    | cons x r =>
      have hm : x ∈ lst n 0 := by rw [e]; exact List.mem_cons_self
      have := (mem_members.1 hm).2.2
      rw [Nat.zero_testBit] at this
      cases this
  constructor
  · rintro (h | ⟨c, h1, h2, h3⟩)
    · exact ⟨0, Nat.two_pow_pos n, by rw [List.mem_singleton.1 h, h0]⟩
    · exact ⟨c, h2, h3⟩
  rintro ⟨c, h1, h2⟩
  by_cases e : c = 0
  · left; rw [← h2, e, h0]; exact List.mem_singleton.2 rfl
  exact .inr ⟨c, by omega, h1, h2⟩
/-- How far a cursor has read, and its seed. -/
structure Cur where
  pos : Int
  seed : Int
abbrev JcV : Cur := ⟨0, 0⟩
def okC (c : Cur) (b : Int) : Prop := 0 ≤ c.pos ∧ c.pos ≤ b ∧ 0 ≤ c.seed ∧ c.seed ≤ 18446744073709551615
def nxB (code : List Nat) (c : Cur) : Int := if c.pos < (code.length : Int) then ((code.getD c.pos.toNat 0 : Nat) : Int) else 0
def Ji (code : List Nat) (c : Cur) : Cur := ⟨c.pos + 1, IntKind.u64.wrap (IntKind.u64.wrap (IntKind.u64.wrap (c.seed * 6364136223846793005) + nxB code c) + 462197)⟩
def JP (code : List Nat) (c : Cur) : Int := if c.pos + 1 ≤ (code.length : Int) then nxB code c else ((((Ji code c).seed / 2 ^ 40).toNat &&& 255 : Nat) : Int)
theorem J9N (n : Int) : 0 ≤ IntKind.u64.wrap n ∧ IntKind.u64.wrap n ≤ 18446744073709551615 := by
  have h : IntKind.u64.wrap n = n % 18446744073709551616 := rfl
  omega
theorem JfM {code : List Nat} (hb : ∀ x9 ∈ code, x9 < 256) (c : Cur) (h0 : 0 ≤ c.pos) : 0 ≤ nxB code c ∧ nxB code c ≤ 255 := by
  unfold nxB
  split
  · have := hb _ (getD_mem (d := 0) (show c.pos.toNat < code.length by omega))
    omega
  omega
theorem JfN (n : Nat) : n &&& 255 ≤ 255 := Nat.and_le_right
theorem J24 {code : List Nat} (hb : ∀ x9 ∈ code, x9 < 256) {c : Cur} (h0 : 0 ≤ c.pos) : 0 ≤ JP code c ∧ JP code c ≤ 255 := by
  unfold JP
  split
  · exact JfM hb c h0
  have := JfN ((Ji code c).seed / 2 ^ 40).toNat
  omega
theorem Jy {code : List Nat} {c : Cur} {b : Int} (h : okC c b) : okC (Ji code c) (b + 1) := by
  obtain ⟨h1, h2, _, _⟩ := h
  exact ⟨by show 0 ≤ c.pos + 1; omega, by show c.pos + 1 ≤ b + 1; omega, (J9N _).1, (J9N _).2⟩
theorem J7 {c : Cur} {b b' : Int} (h : okC c b) (hb : b ≤ b') : okC c b' := ⟨h.1, Int.le_trans h.2.1 hb, h.2.2⟩
def Jbt (f : FuncId) (ds : List D) : Orc := .no
def Jb2 (u : Value) (code : List Nat) (c : Cur) : Ann := .two (.none) (.two (.none) (.two (.none) (.two (.none) (.two (.reg [(5, .wrap), (8, .wrap), (9, .wrap)]) (.none)))))
def J4t (u : Value) (code : List Nat) (c : Cur) : Prop :=
  (true = true) ∧ (((decide (c.pos < (code.length : Int))) = true → (true = true) ∧ ((0 : Int) ≤ c.pos) ∧ ((c.pos : Int) < code.length) ∧ (c.pos.toNat < code.length) ∧ (I6 ((code.getD c.pos.toNat 0 : Nat) : Int)) ∧ (I6 (c.pos + 1)) ∧ (0 ≤ ((code.getD c.pos.toNat 0 : Nat) : Int) ∧ ((code.getD c.pos.toNat 0 : Nat) : Int) ≤ 18446744073709551615) ∧ (true = true) ∧ (((decide ((c.pos + 1) ≤ (code.length : Int))) = true → (((.lit u (.sl (.bytes code)) : D) = .lit u (.sl (.bytes code))) ∧ ((c.pos + 1) = (Ji code c).pos) ∧ ((IntKind.u64.wrap ((IntKind.u64.wrap ((IntKind.u64.wrap (c.seed * 6364136223846793005)) + ((code.getD c.pos.toNat 0 : Nat) : Int))) + 462197)) = (Ji code c).seed) ∧ (((code.getD c.pos.toNat 0 : Nat) : Int) = (JP code c)))) ∧ ((decide ((c.pos + 1) ≤ (code.length : Int))) = false → ((0 : Int) ≤ (IntKind.u64.wrap ((IntKind.u64.wrap ((IntKind.u64.wrap (c.seed * 6364136223846793005)) + ((code.getD c.pos.toNat 0 : Nat) : Int))) + 462197)) ∧ ((IntKind.u64.wrap ((IntKind.u64.wrap ((IntKind.u64.wrap (c.seed * 6364136223846793005)) + ((code.getD c.pos.toNat 0 : Nat) : Int))) + 462197)) : Int) ≤ 18446744073709551615) ∧ ((0 : Int) ≤ 40) ∧ ((0 : Int) ≤ ((IntKind.u64.wrap ((IntKind.u64.wrap ((IntKind.u64.wrap (c.seed * 6364136223846793005)) + ((code.getD c.pos.toNat 0 : Nat) : Int))) + 462197)) / 2 ^ 40) ∧ (((IntKind.u64.wrap ((IntKind.u64.wrap ((IntKind.u64.wrap (c.seed * 6364136223846793005)) + ((code.getD c.pos.toNat 0 : Nat) : Int))) + 462197)) / 2 ^ 40) : Int) ≤ 18446744073709551615) ∧ ((0 : Int) ≤ 255 ∧ (255 : Int) ≤ 18446744073709551615) ∧ (I6 ((((IntKind.u64.wrap ((IntKind.u64.wrap ((IntKind.u64.wrap (c.seed * 6364136223846793005)) + ((code.getD c.pos.toNat 0 : Nat) : Int))) + 462197)) / 2 ^ 40).toNat &&& 255 : Nat) : Int)) ∧ (((.lit u (.sl (.bytes code)) : D) = .lit u (.sl (.bytes code))) ∧ ((c.pos + 1) = (Ji code c).pos) ∧ ((IntKind.u64.wrap ((IntKind.u64.wrap ((IntKind.u64.wrap (c.seed * 6364136223846793005)) + ((code.getD c.pos.toNat 0 : Nat) : Int))) + 462197)) = (Ji code c).seed) ∧ (((((IntKind.u64.wrap ((IntKind.u64.wrap ((IntKind.u64.wrap (c.seed * 6364136223846793005)) + ((code.getD c.pos.toNat 0 : Nat) : Int))) + 462197)) / 2 ^ 40).toNat &&& 255 : Nat) : Int) = (JP code c)))))) ∧ ((decide (c.pos < (code.length : Int))) = false → (I6 (c.pos + 1)) ∧ (0 ≤ (0 : Int) ∧ (0 : Int) ≤ 18446744073709551615) ∧ (true = true) ∧ (((decide ((c.pos + 1) ≤ (code.length : Int))) = true → (((.lit u (.sl (.bytes code)) : D) = .lit u (.sl (.bytes code))) ∧ ((c.pos + 1) = (Ji code c).pos) ∧ ((IntKind.u64.wrap ((IntKind.u64.wrap ((IntKind.u64.wrap (c.seed * 6364136223846793005)) + 0)) + 462197)) = (Ji code c).seed) ∧ ((0 : Int) = (JP code c)))) ∧ ((decide ((c.pos + 1) ≤ (code.length : Int))) = false → ((0 : Int) ≤ (IntKind.u64.wrap ((IntKind.u64.wrap ((IntKind.u64.wrap (c.seed * 6364136223846793005)) + 0)) + 462197)) ∧ ((IntKind.u64.wrap ((IntKind.u64.wrap ((IntKind.u64.wrap (c.seed * 6364136223846793005)) + 0)) + 462197)) : Int) ≤ 18446744073709551615) ∧ ((0 : Int) ≤ 40) ∧ ((0 : Int) ≤ ((IntKind.u64.wrap ((IntKind.u64.wrap ((IntKind.u64.wrap (c.seed * 6364136223846793005)) + 0)) + 462197)) / 2 ^ 40) ∧ (((IntKind.u64.wrap ((IntKind.u64.wrap ((IntKind.u64.wrap (c.seed * 6364136223846793005)) + 0)) + 462197)) / 2 ^ 40) : Int) ≤ 18446744073709551615) ∧ ((0 : Int) ≤ 255 ∧ (255 : Int) ≤ 18446744073709551615) ∧ (I6 ((((IntKind.u64.wrap ((IntKind.u64.wrap ((IntKind.u64.wrap (c.seed * 6364136223846793005)) + 0)) + 462197)) / 2 ^ 40).toNat &&& 255 : Nat) : Int)) ∧ (((.lit u (.sl (.bytes code)) : D) = .lit u (.sl (.bytes code))) ∧ ((c.pos + 1) = (Ji code c).pos) ∧ ((IntKind.u64.wrap ((IntKind.u64.wrap ((IntKind.u64.wrap (c.seed * 6364136223846793005)) + 0)) + 462197)) = (Ji code c).seed) ∧ (((((IntKind.u64.wrap ((IntKind.u64.wrap ((IntKind.u64.wrap (c.seed * 6364136223846793005)) + 0)) + 462197)) / 2 ^ 40).toNat &&& 255 : Nat) : Int) = (JP code c)))))))
theorem Ja5 (u : Value) (code : List Nat) (c : Cur) (hb : ∀ x9 ∈ code, x9 < 256) (hc : okC c 1000000000000)  : J4t u code c := by
  unfold J4t
  obtain ⟨c1, c2, c3, c4⟩ := hc
  have nb := JfM hb c c1
  have w64 := J9N
  refine ⟨rfl, ?_, ?_⟩
  ·intro b1
   try simp only [nrmT] at b1
   refine ⟨rfl, ?_, ?_, ?_, ?_, ?_, ?_, rfl, ?_, ?_⟩
   ·omega
   ·omega
   ·omega
   ·have := hb _ (getD_mem (d := 0) (show c.pos.toNat < code.length by omega))
    omega
   ·omega
   ·have := hb _ (getD_mem (d := 0) (show c.pos.toNat < code.length by omega))
    omega
   ·intro b2
    try simp only [nrmT] at b2
    refine ⟨rfl, ?_, ?_, ?_⟩
    ·rfl
    ·have hs : (Ji code c).seed = IntKind.u64.wrap (IntKind.u64.wrap (IntKind.u64.wrap (c.seed * 6364136223846793005) + nxB code c) + 462197) := rfl
     first | rw [show nxB code c = ((code.getD c.pos.toNat 0 : Nat) : Int) from if_pos (by omega)] at hs | rw [show nxB code c = 0 from if_neg (by omega)] at hs
     first | exact hs.symm | (exfalso; omega)
    unfold JP nxB; rw [if_pos (by omega), if_pos (by omega)]
   intro b3
   try simp only [nrmT] at b3
   refine ⟨?_, ?_, ?_, ?_, ?_, rfl, ?_, ?_, ?_⟩
   ·have := hb _ (getD_mem (d := 0) (show c.pos.toNat < code.length by omega))
    omega
   ·omega
   ·have := hb _ (getD_mem (d := 0) (show c.pos.toNat < code.length by omega))
    omega
   ·omega
   ·have := hb _ (getD_mem (d := 0) (show c.pos.toNat < code.length by omega))
    omega
   ·omega
   ·have hs : (Ji code c).seed = IntKind.u64.wrap (IntKind.u64.wrap (IntKind.u64.wrap (c.seed * 6364136223846793005) + nxB code c) + 462197) := rfl
    first | rw [show nxB code c = ((code.getD c.pos.toNat 0 : Nat) : Int) from if_pos (by omega)] at hs | rw [show nxB code c = 0 from if_neg (by omega)] at hs
    first | exact hs.symm | (exfalso; omega)
   have hs : (Ji code c).seed = IntKind.u64.wrap (IntKind.u64.wrap (IntKind.u64.wrap (c.seed * 6364136223846793005) + nxB code c) + 462197) := rfl
   first | rw [show nxB code c = ((code.getD c.pos.toNat 0 : Nat) : Int) from if_pos (by omega)] at hs | rw [show nxB code c = 0 from if_neg (by omega)] at hs
   unfold JP
   rw [if_neg (by omega), hs]
  intro b4
  try simp only [nrmT] at b4
  refine ⟨?_, ?_, rfl, ?_, ?_⟩
  ·omega
  ·omega
  ·intro b5
   try simp only [nrmT] at b5
   refine ⟨rfl, ?_, ?_, ?_⟩
   ·omega
   ·have hs : (Ji code c).seed = IntKind.u64.wrap (IntKind.u64.wrap (IntKind.u64.wrap (c.seed * 6364136223846793005) + nxB code c) + 462197) := rfl
    first | rw [show nxB code c = ((code.getD c.pos.toNat 0 : Nat) : Int) from if_pos (by omega)] at hs | rw [show nxB code c = 0 from if_neg (by omega)] at hs
    first | exact hs.symm | (exfalso; omega)
   omega
  intro b6
  try simp only [nrmT] at b6
  refine ⟨?_, ?_, ?_, ?_, ?_, rfl, ?_, ?_, ?_⟩
  ·exact w64 _
  ·omega
  ·have := w64 (IntKind.u64.wrap (IntKind.u64.wrap (c.seed * 6364136223846793005) + 0) + 462197)
   generalize IntKind.u64.wrap (IntKind.u64.wrap (IntKind.u64.wrap (c.seed * 6364136223846793005) + 0) + 462197) = z at *
   omega
  ·omega
  ·have := JfN ((IntKind.u64.wrap (IntKind.u64.wrap (IntKind.u64.wrap (c.seed * 6364136223846793005) + 0) + 462197)) / 2 ^ 40).toNat
   omega
  ·rfl
  ·have hs : (Ji code c).seed = IntKind.u64.wrap (IntKind.u64.wrap (IntKind.u64.wrap (c.seed * 6364136223846793005) + nxB code c) + 462197) := rfl
   first | rw [show nxB code c = ((code.getD c.pos.toNat 0 : Nat) : Int) from if_pos (by omega)] at hs | rw [show nxB code c = 0 from if_neg (by omega)] at hs
   first | exact hs.symm | (exfalso; omega)
  have hs : (Ji code c).seed = IntKind.u64.wrap (IntKind.u64.wrap (IntKind.u64.wrap (c.seed * 6364136223846793005) + nxB code c) + 462197) := rfl
  first | rw [show nxB code c = ((code.getD c.pos.toNat 0 : Nat) : Int) from if_pos (by omega)] at hs | rw [show nxB code c = 0 from if_neg (by omega)] at hs
  unfold JP
  rw [if_neg (by omega), hs]
theorem J6d (code : List Nat) (c : Cur) (hb : ∀ x9 ∈ code, x9 < 256) (hc : okC c 1000000000000) : PK Tryz.prog 213 76 (.sl (.bytes code)) [.int .i64 c.pos, .int .u64 c.seed] [.int .i64 (Ji code c).pos, .int .u64 (Ji code c).seed] [] (.one (.d (.int .i64 (JP code c)))) :=
  pk_by (Q := fun u => J4t u code c) (by kernel_rfl) Tryz.func213 @Tryz.call213 (by kernel_rfl) Jbt (fun u => Jb2 u code c) (by kernel_rfl) (fun u => Ja5 u code c hb hc) (fun u => by kernel_rfl)
def J1 (code : List Nat) (c : Cur) (n : Int) : Cur := if n ≤ 1 then c else if n > 200 then Ji code (Ji code c) else Ji code c
def J4 (code : List Nat) (c : Cur) (n : Int) : Int := if n ≤ 1 then 0 else (if n > 200 then JP code c * 256 + JP code (Ji code c) else JP code c) % n
theorem Jf {code : List Nat} {c : Cur} {n b : Int} (h : okC c b) : okC (J1 code c n) (b + 2) := by
  unfold J1
  split
  · exact J7 h (by omega)
  split
  · have := Jy (code := code) (Jy (code := code) h)
    exact J7 this (by omega)
  · exact J7 (Jy h) (by omega)
theorem J1k (code : List Nat) (c : Cur) {n : Int} (hn : 1 ≤ n) : 0 ≤ J4 code c n ∧ J4 code c n < n := by
  unfold J4
  split
  · omega
  exact ⟨Int.emod_nonneg _ (by omega), Int.emod_lt_of_pos _ (by omega)⟩
def Jbb (f : FuncId) (ds : List D) : Orc := .no
def Jbw (u : Value) (code : List Nat) (c : Cur) (n : Int) : Ann := .two (.none) (.two (.none) (.two (.mark [] [(1, .cell [.int .i64 ((Ji code c).pos), .int .u64 ((Ji code c).seed)] (.one (.d (.int .i64 (JP code c)))))]) (.two (.two (.none) (.two (.mark [] [(3, .cell [.int .i64 ((Ji code (Ji code c)).pos), .int .u64 ((Ji code (Ji code c)).seed)] (.one (.d (.int .i64 (JP code (Ji code c))))))]) (.none))) (.none))))
def J4n (u : Value) (code : List Nat) (c : Cur) (n : Int) : Prop :=
  (((decide (n ≤ 1)) = true → (((.lit u (.sl (.bytes code)) : D) = .lit u (.sl (.bytes code))) ∧ (c.pos = (J1 code c n).pos) ∧ (c.seed = (J1 code c n).seed) ∧ ((0 : Int) = (J4 code c n)))) ∧ ((decide (n ≤ 1)) = false → (PK Tryz.prog 213 76 (.sl (.bytes code)) [.int .i64 c.pos, .int .u64 c.seed] [.int .i64 ((Ji code c).pos), .int .u64 ((Ji code c).seed)] [] (.one (.d (.int .i64 (JP code c))))) ∧ (((decide (n > 200)) = true → (I6 ((JP code c) * 256)) ∧ (PK Tryz.prog 213 76 (.sl (.bytes code)) [.int .i64 ((Ji code c).pos), .int .u64 ((Ji code c).seed)] [.int .i64 ((Ji code (Ji code c)).pos), .int .u64 ((Ji code (Ji code c)).seed)] [] (.one (.d (.int .i64 (JP code (Ji code c)))))) ∧ (I6 (((JP code c) * 256) + (JP code (Ji code c)))) ∧ ((0 : Int) ≤ (((JP code c) * 256) + (JP code (Ji code c)))) ∧ ((1 : Int) ≤ n) ∧ (((.lit u (.sl (.bytes code)) : D) = .lit u (.sl (.bytes code))) ∧ ((Ji code (Ji code c)).pos = (J1 code c n).pos) ∧ ((Ji code (Ji code c)).seed = (J1 code c n).seed) ∧ (((((JP code c) * 256) + (JP code (Ji code c))) % n) = (J4 code c n)))) ∧ ((decide (n > 200)) = false → ((0 : Int) ≤ (JP code c)) ∧ ((1 : Int) ≤ n) ∧ (((.lit u (.sl (.bytes code)) : D) = .lit u (.sl (.bytes code))) ∧ ((Ji code c).pos = (J1 code c n).pos) ∧ ((Ji code c).seed = (J1 code c n).seed) ∧ (((JP code c) % n) = (J4 code c n)))))))
theorem Ja9 (u : Value) (code : List Nat) (c : Cur) (n : Int) (hb : ∀ x9 ∈ code, x9 < 256) (hc : okC c 900000000000)  : J4n u code c n := by
  unfold J4n
  refine ⟨?_, ?_⟩
  ·intro b1
   try simp only [nrmT] at b1
   refine ⟨rfl, ?_, ?_, ?_⟩
   ·unfold J1; first | rw [if_pos (by omega)] | rw [if_neg (by omega), if_pos (by omega)] | rw [if_neg (by omega), if_neg (by omega)]
   ·unfold J1; first | rw [if_pos (by omega)] | rw [if_neg (by omega), if_pos (by omega)] | rw [if_neg (by omega), if_neg (by omega)]
   unfold J4; first | rw [if_pos (by omega)] | rw [if_neg (by omega), if_pos (by omega)] | rw [if_neg (by omega), if_neg (by omega)]
  intro b2
  try simp only [nrmT] at b2
  refine ⟨?_, ?_, ?_⟩
  ·refine J6d code c ?_ ?_
   ·exact hb
   ·exact J7 (by assumption) (by omega)
  ·intro b3
   try simp only [nrmT] at b3
   refine ⟨?_, ?_, ?_, ?_, ?_, rfl, ?_, ?_, ?_⟩
   ·have q0 := J24 hb (c := c) hc.1
    have q1 := J24 hb (c := Ji code c) (Jy hc).1
    omega
   ·refine J6d code (Ji code c) ?_ ?_
    ·exact hb
    ·exact J7 (Jy (by assumption)) (by omega)
   ·have q0 := J24 hb (c := c) hc.1
    have q1 := J24 hb (c := Ji code c) (Jy hc).1
    omega
   ·have q0 := J24 hb (c := c) hc.1
    have q1 := J24 hb (c := Ji code c) (Jy hc).1
    omega
   ·omega
   ·unfold J1; first | rw [if_pos (by omega)] | rw [if_neg (by omega), if_pos (by omega)] | rw [if_neg (by omega), if_neg (by omega)]
   ·unfold J1; first | rw [if_pos (by omega)] | rw [if_neg (by omega), if_pos (by omega)] | rw [if_neg (by omega), if_neg (by omega)]
   unfold J4; first | rw [if_pos (by omega)] | rw [if_neg (by omega), if_pos (by omega)] | rw [if_neg (by omega), if_neg (by omega)]
  intro b4
  try simp only [nrmT] at b4
  refine ⟨?_, ?_, rfl, ?_, ?_, ?_⟩
  ·have q0 := J24 hb (c := c) hc.1
   have q1 := J24 hb (c := Ji code c) (Jy hc).1
   omega
  ·omega
  ·unfold J1; first | rw [if_pos (by omega)] | rw [if_neg (by omega), if_pos (by omega)] | rw [if_neg (by omega), if_neg (by omega)]
  ·unfold J1; first | rw [if_pos (by omega)] | rw [if_neg (by omega), if_pos (by omega)] | rw [if_neg (by omega), if_neg (by omega)]
  unfold J4; first | rw [if_pos (by omega)] | rw [if_neg (by omega), if_pos (by omega)] | rw [if_neg (by omega), if_neg (by omega)]
theorem Jz (code : List Nat) (c : Cur) (n : Int) (hb : ∀ x9 ∈ code, x9 < 256) (hc : okC c 900000000000) : PK Tryz.prog 156 76 (.sl (.bytes code)) [.int .i64 c.pos, .int .u64 c.seed] [.int .i64 (J1 code c n).pos, .int .u64 (J1 code c n).seed] [.int .i64 n] (.one (.d (.int .i64 (J4 code c n)))) :=
  pk_by (Q := fun u => J4n u code c n) (by kernel_rfl) Tryz.func156 @Tryz.call156 (by kernel_rfl) Jbb (fun u => Jbw u code c n) (by kernel_rfl) (fun u => Ja9 u code c n hb hc) (fun u => by kernel_rfl)
def JaE (f : FuncId) (ds : List D) : Orc := .no
def J9V (u : Value) (code : List Nat) (c : Cur) (list : ZI) : Ann := .two (.none) (.two (.mark [] [(4, .cell [.int .i64 ((J1 code c (list.length : Int)).pos), .int .u64 ((J1 code c (list.length : Int)).seed)] (.one (.d (.int .i64 (J4 code c (list.length : Int))))))]) (.none))
def J45 (u : Value) (code : List Nat) (c : Cur) (list : ZI) : Prop :=
  (PK Tryz.prog 156 76 (.sl (.bytes code)) [.int .i64 c.pos, .int .u64 c.seed] [.int .i64 ((J1 code c (list.length : Int)).pos), .int .u64 ((J1 code c (list.length : Int)).seed)] [.int .i64 (list.length : Int)] (.one (.d (.int .i64 (J4 code c (list.length : Int)))))) ∧ ((0 : Int) ≤ (J4 code c (list.length : Int))) ∧ (((J4 code c (list.length : Int)) : Int) < list.length) ∧ ((J4 code c (list.length : Int)).toNat < list.length) ∧ (((.lit u (.sl (.bytes code)) : D) = .lit u (.sl (.bytes code))) ∧ ((J1 code c (list.length : Int)).pos = (J1 code c (list.length : Int)).pos) ∧ ((J1 code c (list.length : Int)).seed = (J1 code c (list.length : Int)).seed) ∧ ((list.getD ((J4 code c (list.length : Int)).toNat) 0) = (list.getD (J4 code c (list.length : Int)).toNat 0)))
theorem J9F (u : Value) (code : List Nat) (c : Cur) (list : ZI) (hb : ∀ x9 ∈ code, x9 < 256) (hc : okC c 800000000000) (hl : 0 < list.length)  : J45 u code c list := by
  unfold J45
  refine ⟨?_, ?_, ?_, ?_, rfl, rfl, rfl, ?_⟩
  ·refine Jz code c (list.length : Int) ?_ ?_
   ·exact hb
   ·exact J7 (by assumption) (by omega)
  ·have := J1k code c (n := (list.length : Int)) (by omega)
   omega
  ·have := J1k code c (n := (list.length : Int)) (by omega)
   omega
  ·have := J1k code c (n := (list.length : Int)) (by omega)
   omega
  have := J1k code c (n := (list.length : Int)) (by omega)
  omega
theorem J0g (code : List Nat) (c : Cur) (list : ZI) (hb : ∀ x9 ∈ code, x9 < 256) (hc : okC c 800000000000) (hl : 0 < list.length) : PK Tryz.prog 155 76 (.sl (.bytes code)) [.int .i64 c.pos, .int .u64 c.seed] [.int .i64 (J1 code c (list.length : Int)).pos, .int .u64 (J1 code c (list.length : Int)).seed] [.sl (.ints list)] (.one (.d (.int .i64 (list.getD (J4 code c (list.length : Int)).toNat 0)))) :=
  pk_by (Q := fun u => J45 u code c list) (by kernel_rfl) Tryz.func155 @Tryz.call155 (by kernel_rfl) JaE (fun u => J9V u code c list) (by kernel_rfl) (fun u => J9F u code c list hb hc hl) (fun u => by kernel_rfl)
def Jcu (f : FuncId) (ds : List D) : Orc := .no
def Jct (u : Value) (code : List Nat) (c : Cur) (n : Int) : Ann := .two (.none) (.two (.mark [] [(2, .cell [.int .i64 ((J1 code c n).pos), .int .u64 ((J1 code c n).seed)] (.one (.d (.int .i64 (J4 code c n)))))]) (.none))
def J4V (u : Value) (code : List Nat) (c : Cur) (n : Int) : Prop :=
  (PK Tryz.prog 156 76 (.sl (.bytes code)) [.int .i64 c.pos, .int .u64 c.seed] [.int .i64 ((J1 code c n).pos), .int .u64 ((J1 code c n).seed)] [.int .i64 n] (.one (.d (.int .i64 (J4 code c n))))) ∧ (((.lit u (.sl (.bytes code)) : D) = .lit u (.sl (.bytes code))) ∧ ((J1 code c n).pos = (J1 code c n).pos) ∧ ((J1 code c n).seed = (J1 code c n).seed) ∧ (((J4 code c n) == 0) = (J4 code c n == 0)))
theorem Jba (u : Value) (code : List Nat) (c : Cur) (n : Int) (hb : ∀ x9 ∈ code, x9 < 256) (hc : okC c 800000000000)  : J4V u code c n := by
  unfold J4V
  refine ⟨?_, rfl, rfl, rfl, ?_⟩
  ·refine Jz code c n ?_ ?_
   ·exact hb
   ·exact J7 (by assumption) (by omega)
  rfl
theorem J4q (code : List Nat) (c : Cur) (n : Int) (hb : ∀ x9 ∈ code, x9 < 256) (hc : okC c 800000000000) : PK Tryz.prog 124 76 (.sl (.bytes code)) [.int .i64 c.pos, .int .u64 c.seed] [.int .i64 (J1 code c n).pos, .int .u64 (J1 code c n).seed] [.int .i64 n] (.one (.d (.bool (J4 code c n == 0)))) :=
  pk_by (Q := fun u => J4V u code c n) (by kernel_rfl) Tryz.func124 @Tryz.call124 (by kernel_rfl) Jcu (fun u => Jct u code c n) (by kernel_rfl) (fun u => Jba u code c n hb hc) (fun u => by kernel_rfl)
theorem J3m : okC JcV 0 := by unfold okC; decide
theorem Jgg (l : ZI) (code : List Nat) (c : Cur) (h : 0 < l.length) : l.getD (J4 code c (l.length : Int)).toNat 0 ∈ l := by
  have := J1k code c (n := (l.length : Int)) (by omega)
  exact getD_mem (by omega)
theorem JbX (row set : ZI) : ∀ k i, i < k → row.getD (Jh row set k).toNat 0 ≤ row.getD (set.getD i 0).toNat 0
  | 0, i, h => by omega
  | k + 1, i, h => by
    have ih := JbX row set k
    rw [J0M]
    unfold J3c
    by_cases e : i = k
    · subst e
      split
      · exact Int.le_refl _
      omega
    have := ih i (by omega)
    split <;> omega
theorem Ja8 {E : ZR} {set : ZI} {r : Int} (hr : 0 ≤ r) : J5 E set ≤ r ↔ ∀ j, j < E.length → J0D E set j ≤ r := by
  obtain ⟨h1, h2, h3⟩ := J5w E set E.length
  unfold J5
  constructor
  · intro h j hj; have := h2 j hj; omega
  intro h
  rcases h3 with h3 | ⟨j, hj, h3⟩
  · omega
  rw [h3]; exact h j hj
theorem Jed (n : Nat) : (J6 n).Pairwise fun a b => ¬ Js b a < 0 := by
  have h := List.pairwise_mergeSort (le := fun x9 y9 => !(ltOf Js) y9 x9) (fun a b c h1 h2 => ?_) (fun a b => ?_) (J3Z n (2 ^ n - 1))
  · refine h.imp fun {a b} hab => ?_
    intro hlt
    have : ltOf Js b a = true := decide_eq_true hlt
    rw [this] at hab
    cases hab
  · rw [Bool.not_eq_true'] at *
    exact Jeu.ntrans _ _ _ h2 h1
  cases h1 : ltOf Js b a with
  | false => rfl
  | true =>
    have h2 : Js b a < 0 := of_decide_eq_true h1
    have h3 := J63.1 h2
    have : ltOf Js a b = false := decide_eq_false (by omega)
    rw [this]; rfl
theorem JdW {n i j : Nat} (hij : i ≤ j) (hj : j < (J6 n).length) : ((J6 n).getD i []).length ≤ ((J6 n).getD j []).length := by
  by_cases e : i = j
  · subst e; exact Nat.le_refl _
  have h := List.pairwise_iff_getElem.1 (Jed n) i j (by omega) hj (by omega)
  rw [Ja hj, Ja (by omega)]
  rcases J09 (J6 n)[j] (J6 n)[i] with h1 | h1 | h1 <;> omega
theorem JbY {α : Type} {p : α → Bool} {xs : List α} {d : α} (h0 : 0 ≤ idxI p xs) {i : Nat} (hi : i < xs.length) (hp : p (xs.getD i d) = true) : idxI p xs ≤ (i : Int) ∧ p (xs.getD (idxI p xs).toNat d) = true := by
  unfold idxI at h0 ⊢
  cases hf : xs.findIdx? p with
  | none => rw [hf] at h0; simp at h0
  | some k =>
    obtain ⟨hk, h1, h2⟩ := List.findIdx?_eq_some_iff_getElem.1 hf
    show (k : Int) ≤ (i : Int) ∧ p (xs.getD (k : Int).toNat d) = true
    rw [Int.toNat_natCast, Ja hk]
    refine ⟨?_, h1⟩
    by_cases e : k ≤ i
    · omega
    rw [Ja hi] at hp
    have := h2 i (by omega)
    rw [hp] at this
    simp at this
def Jgj (f : FuncId) (ds : List D) : Orc := .no
def Jgb (code : List Nat) : Ann := .none
def JcY (code : List Nat) : Prop :=
  (((decide ((code.length : Int) > 65536)) = (decide ((code.length : Int) > 65536))))
theorem JfI (code : List Nat)  (w_code : (code.length : Int) ≤ 9223372036854775807) : JcY code := by
  unfold JcY
  exact rfl
theorem Jg0 (code : List Nat)  : PC Tryz.prog 9 [.sl (.bytes code)] (.one (.d (.bool (decide ((code.length : Int) > 65536))))) :=
  pc_wf @Tryz.call9 fun hw => pc_by (by kernel_rfl) Tryz.func9 @Tryz.call9 (by kernel_rfl) Jgj (Jgb code) (by kernel_rfl) (JfI code hw.1) (by kernel_rfl)
def JeP : List D → Orc := orcN [some .bytes] fun ds => match ds with
  | [.sl (.bytes code)] => some (.one (.d (.bool (decide ((code.length : Int) > 65536)))))
  | _ => none
abbrev J4M (xs : ZI) (ys : ZI) (i : Int) : Prop := (0 ≤ i) ∧ (i ≤ (xs.length : Int)) ∧ (allTo (fun k => xs.getD k 0 == ys.getD k 0) i.toNat = true) ∧ (xs.length = ys.length)
abbrev J4w (xs : ZI) (ys : ZI) (i : Int) : Nat := (xs.length - i).toNat
def JfJ (f : FuncId) (ds : List D) : Orc := .no
def Jfv (xs : ZI) (ys : ZI) : Ann := .two (.none) (.two (.none) (.two (.two (.none) (.loop (cut1 (fun (i : Int) => J4M xs ys i) (fun (i : Int) => [(0, .d false (.sl (.ints xs))), (1, .d false (.sl (.ints ys))), (5, .d true (.int .i64 i))]) (fun (i : Int) => [])) (fun g => J4w xs ys g) (fun _ => .none))) (.none)))
def JbU (xs : ZI) (ys : ZI) : Prop :=
  ((((xs.length : Int) != (ys.length : Int)) = true → ((false = (xs == ys)))) ∧ (((xs.length : Int) != (ys.length : Int)) = false → ((∃ i' : Int, (J4M xs ys i') ∧ (xs = xs) ∧ (ys = ys) ∧ ((0 : Int) = i')) ∧ (∀ i : Int, (J4M xs ys i) → (((decide (i < (xs.length : Int))) = true → (true = true) ∧ ((0 : Int) ≤ i) ∧ ((i : Int) < xs.length) ∧ (i.toNat < xs.length) ∧ ((0 : Int) ≤ i) ∧ ((i : Int) < ys.length) ∧ (i.toNat < ys.length) ∧ ((((xs.getD i.toNat 0) != (ys.getD i.toNat 0)) = true → ((false = (xs == ys)))) ∧ (((xs.getD i.toNat 0) != (ys.getD i.toNat 0)) = false → (I6 (i + 1)) ∧ (∃ i' : Int, (J4M xs ys i') ∧ (J4w xs ys i' < J4w xs ys i) ∧ (xs = xs) ∧ (ys = ys) ∧ ((i + 1) = i'))))) ∧ ((decide (i < (xs.length : Int))) = false → ((true = (xs == ys)))))))))
theorem Jf0 (xs : ZI) (ys : ZI)  (w_xs : (xs.length : Int) ≤ 9223372036854775807) (w_ys : (ys.length : Int) ≤ 9223372036854775807) : JbU xs ys := by
  unfold JbU
  refine ⟨?_, ?_⟩
  ·intro b1
   try simp only [nrmT] at b1
   exact (JgE (by omega)).symm
  intro b2
  try simp only [nrmT] at b2
  refine ⟨?_, ?_⟩
  ·refine ⟨0, ?_⟩
   refine ⟨?_, rfl, rfl, rfl⟩
   ·refine ⟨?_, ?_, ?_, ?_⟩
    ·omega
    ·omega
    ·rfl
    ·omega
  intro i hJ
  obtain ⟨h1, h2, h3, h4⟩ := hJ
  refine ⟨?_, ?_⟩
  ·intro b3
   try simp only [nrmT] at b3
   refine ⟨rfl, ?_, ?_, ?_, ?_, ?_, ?_, ?_, ?_⟩
   ·omega
   ·omega
   ·omega
   ·omega
   ·omega
   ·omega
   ·intro b4
    try simp only [nrmT] at b4
    rw [← J9Y (d := 0) h4]; exact (allTo_falseI h1 (by omega) (by simpa using b4)).symm
   intro b5
   try simp only [nrmT] at b5
   refine ⟨?_, ?_⟩
   ·omega
   refine ⟨(i + 1), ?_⟩
   refine ⟨?_, ?_, rfl, rfl, rfl⟩
   ·refine ⟨?_, ?_, ?_, ?_⟩
    ·omega
    ·omega
    ·exact allTo_step h1 h3 (by simpa using b5)
    ·omega
   (simp only [J4w]; omega)
  intro b6
  try simp only [nrmT] at b6
  rw [← J9Y (d := 0) h4, ← h3]; congr 1; omega
theorem J5g (xs : ZI) (ys : ZI)  : PC Tryz.prog 23 [.sl (.ints xs), .sl (.ints ys)] (.one (.d (.bool (xs == ys)))) :=
  pc_wf @Tryz.call23 fun hw => pc_by (by kernel_rfl) Tryz.func23 @Tryz.call23 (by kernel_rfl) JfJ (Jfv xs ys) (by kernel_rfl) (Jf0 xs ys hw.1 hw.2.1) (by kernel_rfl)
def Jdz : List D → Orc := orcN [some .ints, some .ints] fun ds => match ds with
  | [.sl (.ints xs), .sl (.ints ys)] => some (.one (.d (.bool (xs == ys))))
  | _ => none
abbrev J5q (xs : ZI) (x : Int) (i : Int) : Prop := (0 ≤ i) ∧ (i ≤ (xs.length : Int)) ∧ (∀ k, k < i.toNat → (fun y => x == y) (xs.getD k 0) = false)
abbrev J5h (xs : ZI) (x : Int) (i : Int) : Nat := (xs.length - i).toNat
def Jgh (f : FuncId) (ds : List D) : Orc := .no
def Jg3 (xs : ZI) (x : Int) : Ann := .two (.none) (.two (.two (.none) (.loop (cut1 (fun (i : Int) => J5q xs x i) (fun (i : Int) => [(0, .d false (.sl (.ints xs))), (1, .d false (.int .i64 x)), (5, .d true (.int .i64 i))]) (fun (i : Int) => [])) (fun g => J5h xs x g) (fun _ => .none))) (.none))
def Jdo (xs : ZI) (x : Int) : Prop :=
  ((∃ i' : Int, (J5q xs x i') ∧ (xs = xs) ∧ (x = x) ∧ ((0 : Int) = i')) ∧ (∀ i : Int, (J5q xs x i) → (((decide (i < (xs.length : Int))) = true → ((0 : Int) ≤ i) ∧ ((i : Int) < xs.length) ∧ (i.toNat < xs.length) ∧ ((((xs.getD i.toNat 0) == x) = true → ((true = (xs.contains x)))) ∧ (((xs.getD i.toNat 0) == x) = false → (I6 (i + 1)) ∧ (∃ i' : Int, (J5q xs x i') ∧ (J5h xs x i' < J5h xs x i) ∧ (xs = xs) ∧ (x = x) ∧ ((i + 1) = i'))))) ∧ ((decide (i < (xs.length : Int))) = false → ((false = (xs.contains x)))))))
theorem JfH (xs : ZI) (x : Int)  (w_xs : (xs.length : Int) ≤ 9223372036854775807) : Jdo xs x := by
  unfold Jdo
  refine ⟨?_, ?_⟩
  ·refine ⟨0, ?_⟩
   refine ⟨?_, rfl, rfl, rfl⟩
   ·refine ⟨?_, ?_, ?_⟩
    ·omega
    ·omega
    ·omega
  intro i hJ
  obtain ⟨h1, h2, h3⟩ := hJ
  refine ⟨?_, ?_⟩
  ·intro b1
   try simp only [nrmT] at b1
   refine ⟨?_, ?_, ?_, ?_, ?_⟩
   ·omega
   ·omega
   ·omega
   ·intro b2
    try simp only [nrmT] at b2
    exact (JbJ h1 b1 b2).symm
   intro b3
   try simp only [nrmT] at b3
   refine ⟨?_, ?_⟩
   ·omega
   refine ⟨(i + 1), ?_⟩
   refine ⟨?_, ?_, rfl, rfl, rfl⟩
   ·refine ⟨?_, ?_, ?_⟩
    ·omega
    ·omega
    ·exact idx_step (p := fun y => x == y) h1 h3 (by simp only [beq_eq_false_iff_ne]; exact fun h => b3 h.symm)
   (simp only [J5h]; omega)
  intro b4
  try simp only [nrmT] at b4
  exact (Jeg (by omega) h3).symm
theorem JfQ (xs : ZI) (x : Int)  : PC Tryz.prog 26 [.sl (.ints xs), .int .i64 x] (.one (.d (.bool (xs.contains x)))) :=
  pc_wf @Tryz.call26 fun hw => pc_by (by kernel_rfl) Tryz.func26 @Tryz.call26 (by kernel_rfl) Jgh (Jg3 xs x) (by kernel_rfl) (JfH xs x hw.1) (by kernel_rfl)
def Jfk : List D → Orc := orcN [some .ints, none] fun ds => match ds with
  | [.sl (.ints xs), .int .i64 x] => some (.one (.d (.bool (xs.contains x))))
  | _ => none
def JdA (f : FuncId) (ds : List D) : Orc := bif Nat.beq f 113 then Jby ds else bif Nat.beq f 96 then J1o ds else .no
def JdE (U : ZI) (E : ZR) (set : ZI) : Ann := .none
def J92 (U : ZI) (E : ZR) (set : ZI) : Prop :=
  (PC Tryz.prog 113 [.agg [.sl (.ints U), .sl (.rows E)], .sl (.ints set)] (.one (.d (.bool (J0 U E && J2 set 0 ((U.length : Int) - 1) && decide (0 < set.length)))))) ∧ (((!(J0 U E && J2 set 0 ((U.length : Int) - 1) && decide (0 < set.length))) = true → (((0 : Int) = (if (J0 U E && J2 set 0 ((U.length : Int) - 1) && decide (0 < set.length)) = true then J5 E set else 0)) ∧ (false = (J0 U E && J2 set 0 ((U.length : Int) - 1) && decide (0 < set.length))))) ∧ ((!(J0 U E && J2 set 0 ((U.length : Int) - 1) && decide (0 < set.length))) = false → (PC Tryz.prog 96 [.agg [.sl (.ints U), .sl (.rows E)], .sl (.ints set)] (.one (.d (.int .i64 (J5 E set))))) ∧ (((J5 E set) = (if (J0 U E && J2 set 0 ((U.length : Int) - 1) && decide (0 < set.length)) = true then J5 E set else 0)) ∧ (true = (J0 U E && J2 set 0 ((U.length : Int) - 1) && decide (0 < set.length))))))
theorem Jdh (U : ZI) (E : ZR) (set : ZI)  (w_Open : (U.length : Int) ≤ 9223372036854775807) (w_Dist : (E.length : Int) ≤ 9223372036854775807) (v_Dist : ∀ x9 ∈ E, (x9.length : Int) ≤ 9223372036854775807) (w_set : (set.length : Int) ≤ 9223372036854775807) : J92 U E set := by
  unfold J92
  refine ⟨Jcc U E set, ?_, ?_⟩
  ·intro b1
   try simp only [Bool.not_eq_true', Bool.not_eq_false', Bool.not_not] at b1
   refine ⟨?_, ?_⟩
   ·have hq : (J0 U E && J2 set 0 ((U.length : Int) - 1) && decide (0 < set.length)) = false := by simpa only [Bool.not_eq_true', Bool.not_eq_false', Bool.not_not] using b1
    rw [hq]; rfl
   (simp_all <;> omega)
  intro b2
  try simp only [Bool.not_eq_true', Bool.not_eq_false', Bool.not_not] at b2
  refine ⟨?_, ?_, ?_⟩
  ·refine J0Y U E set ?_
   ·omega
  ·have hq : (J0 U E && J2 set 0 ((U.length : Int) - 1) && decide (0 < set.length)) = true := by simpa only [Bool.not_eq_true', Bool.not_eq_false', Bool.not_not] using b2
   rw [if_pos hq]
  (simp_all; done)
theorem J7y (U : ZI) (E : ZR) (set : ZI)  : PC Tryz.prog 24 [.agg [.sl (.ints U), .sl (.rows E)], .sl (.ints set)] (.tup [.d (.int .i64 (if (J0 U E && J2 set 0 ((U.length : Int) - 1) && decide (0 < set.length)) = true then J5 E set else 0)), .d (.bool (J0 U E && J2 set 0 ((U.length : Int) - 1) && decide (0 < set.length)))]) :=
  pc_wf @Tryz.call24 fun hw => pc_by (by kernel_rfl) Tryz.func24 @Tryz.call24 (by kernel_rfl) JdA (JdE U E set) (by kernel_rfl) (Jdh U E set hw.1.1 hw.1.2.1.1 hw.1.2.1.2 hw.2.1) (by kernel_rfl)
def JcC : List D → Orc := orcN [none, some .ints] fun ds => match ds with
  | [.agg [.sl (.ints U), .sl (.rows E)], .sl (.ints set)] => some (.tup [.d (.int .i64 (if (J0 U E && J2 set 0 ((U.length : Int) - 1) && decide (0 < set.length)) = true then J5 E set else 0)), .d (.bool (J0 U E && J2 set 0 ((U.length : Int) - 1) && decide (0 < set.length)))])
  | _ => none
theorem J0h {g : Bool} {a b : Cur} {x y : Int} (ha : okC a x) (hb : okC b y) : okC (cond g a b) (max x y) := by
  cases g
  · exact J7 hb (by omega)
  exact J7 ha (by omega)
theorem Jb6 {p : Int → Prop} (l : ZI) (code : List Nat) (c : Cur) (h0 : 0 < l.length) (h : ∀ x ∈ l, p x) : p (l.getD (J4 code c (l.length : Int)).toNat 0) := h _ (Jgg l code c h0)
theorem JaI {n : Nat} {s : ZI} (h : J2 s 0 ((n : Int) - 1) = true) : s ∈ chs n := by
  have ha := Jfe h
  have hr := J4d h
  have hp : ∀ x ∈ s, 0 ≤ x ∧ x < (n : Int) := fun x hx => by have := hr x hx; omega
  refine Jel.2 ⟨bagN s, bagN_lt (m := n) hp, ?_⟩
  unfold lst
  refine asc_ext (asc_members _ _) ha fun x => ?_
  rw [mem_members]
  constructor
  · rintro ⟨h1, h2, h3⟩
    rw [bagN_bit fun y hy => (hp y hy).1, List.contains_iff_mem, show ((x.toNat : Nat) : Int) = x by omega] at h3
    exact h3
  intro hx
  have h1 := hp x hx
  refine ⟨h1.1, h1.2, ?_⟩
  rw [bagN_bit fun y hy => (hp y hy).1, List.contains_iff_mem, show ((x.toNat : Nat) : Int) = x by omega]
  exact hx
def J3q (f : Int → Int) (l : ZI) : Int := (l.map f).sum
theorem J1w (f : Int → Int) (x : Int) (l : ZI) : J3q f (x :: l) = f x + J3q f l := rfl
theorem Jeh {f g : Int → Int} : ∀ {l : ZI}, (∀ x ∈ l, f x ≤ g x) → J3q f l ≤ J3q g l
  | [], _ => Int.le_refl _
  | x :: r, h => by
    have h1 := h x List.mem_cons_self
    have h2 := Jeh (f := f) (g := g) (l := r) fun y hy => h y (List.mem_cons_of_mem _ hy)
    rw [J1w, J1w]; omega
theorem JcT (c : Int) (f : Int → Int) : ∀ l : ZI, J3q (fun x => c * f x) l = c * J3q f l
  | [] => by simp [J3q]
  | x :: r => by rw [J1w, J1w, JcT c f r, Int.mul_add]
theorem JdM {f : Int → Int} {l : ZI} (h : ∀ x ∈ l, 0 ≤ f x) : 0 ≤ J3q f l := by
  have := Jeh (f := fun _ => 0) (g := f) h
  have e : J3q (fun _ => 0) l = 0 := by
    have := JcT 0 (fun _ => 0) l
    simp at this
    exact this
  omega
/-- What rawField and lineField draw. -/
def Jgs (n : Nat) (r : ZI) : Prop := r.length = n ∧ ∀ x ∈ r, 0 ≤ x ∧ x ≤ 60
def drF (O : ZI) (D : ZR) : Prop := O.length ≤ 7 ∧ D.length ≤ 7 ∧ ∀ r ∈ D, Jgs O.length r
theorem Jc {O : ZI} {D : ZR} (h : drF O D) {i a : Nat} (hi : i < D.length) (ha : a < O.length) : (D.getD i []).length = O.length ∧ 0 ≤ (D.getD i []).getD a 0 ∧ (D.getD i []).getD a 0 ≤ 60 := by
  obtain ⟨h1, h2⟩ := h.2.2 _ (getD_mem (d := []) hi)
  exact ⟨h1, h2 _ (getD_mem (by omega))⟩
theorem J9L {α : Type} {p : α → Prop} {l : List α} {x : α} (h : ∀ r ∈ l, p r) (hx : p x) : ∀ r ∈ l ++ [x], p r := by
  intro r hr
  rcases List.mem_append.1 hr with hr | hr
  · exact h r hr
  rw [List.mem_singleton.1 hr]; exact hx
theorem Jer {α : Type} {p : α → Prop} {l : List α} {x : α} {k : Nat} (h : ∀ r ∈ l, p r) (hx : p x) : ∀ r ∈ l.set k x, p r := by
  intro r hr
  rcases List.mem_or_eq_of_mem_set hr with hr | hr
  · exact h r hr
  rw [hr]; exact hx
theorem Jep {O : ZI} {D : ZR} (h : drF O D) {i a : Nat} {v : Int} (hi : i < D.length) (hv : 0 ≤ v ∧ v ≤ 60) : drF O (D.set i ((D.getD i []).set a v)) := by
  obtain ⟨h1, h2⟩ := h.2.2 _ (getD_mem (d := []) hi)
  refine ⟨h.1, by rw [List.length_set]; exact h.2.1, Jer h.2.2 ⟨by rw [List.length_set]; exact h1, Jer h2 hv⟩⟩
abbrev J0E (u : Value) (code : List Nat) (c : Cur) (most : Int) (n : Int) (m : Int) (c0 : Cur) (big : Int) (c1 : Cur) (O0 : ZI) (D0 : ZR) (a : Int) (c3 : Cur) (O1 : ZI) (D1 : ZR) : Prop := (0 ≤ a) ∧ (a ≤ 7) ∧ (O1.length = a.toNat) ∧ (D1 = []) ∧ (okC c3 (3000100 + 4 * a))
abbrev J0C (u : Value) (code : List Nat) (c : Cur) (most : Int) (n : Int) (m : Int) (c0 : Cur) (big : Int) (c1 : Cur) (O0 : ZI) (D0 : ZR) (a : Int) (c3 : Cur) (O1 : ZI) (D1 : ZR) : Nat := (7 - a).toNat
abbrev J1D (u : Value) (code : List Nat) (c : Cur) (most : Int) (n : Int) (m : Int) (c0 : Cur) (big : Int) (c1 : Cur) (O0 : ZI) (D0 : ZR) (c4 : Cur) (O2 : ZI) (D2 : ZR) : Prop := (okC c4 3000200) ∧ (O2.length ≤ 7) ∧ (D2 = [])
abbrev J0K (u : Value) (code : List Nat) (c : Cur) (most : Int) (n : Int) (m : Int) (c0 : Cur) (big : Int) (c1 : Cur) (O0 : ZI) (D0 : ZR) (c4 : Cur) (O2 : ZI) (D2 : ZR) (i : Int) (c5 : Cur) (O3 : ZI) (D3 : ZR) : Prop := (0 ≤ i) ∧ (i ≤ 7) ∧ (D3.length = i.toNat) ∧ (O3.length ≤ 7) ∧ (okC c5 (3000200 + 100 * i)) ∧ (∀ r ∈ D3, Jgs O3.length r)
abbrev J0H (u : Value) (code : List Nat) (c : Cur) (most : Int) (n : Int) (m : Int) (c0 : Cur) (big : Int) (c1 : Cur) (O0 : ZI) (D0 : ZR) (c4 : Cur) (O2 : ZI) (D2 : ZR) (i : Int) (c5 : Cur) (O3 : ZI) (D3 : ZR) : Nat := (7 - i).toNat
abbrev J0B (u : Value) (code : List Nat) (c : Cur) (most : Int) (n : Int) (m : Int) (c0 : Cur) (big : Int) (c1 : Cur) (O0 : ZI) (D0 : ZR) (c4 : Cur) (O2 : ZI) (D2 : ZR) (i : Int) (c5 : Cur) (O3 : ZI) (D3 : ZR) (row : ZI) (a2 : Int) (c6 : Cur) : Prop := (0 ≤ a2) ∧ (a2 ≤ (O3.length : Int)) ∧ (row.length = a2.toNat) ∧ (okC c6 (3000200 + 100 * i + 4 * a2)) ∧ (∀ x ∈ row, 0 ≤ x ∧ x ≤ 60)
abbrev J0F (u : Value) (code : List Nat) (c : Cur) (most : Int) (n : Int) (m : Int) (c0 : Cur) (big : Int) (c1 : Cur) (O0 : ZI) (D0 : ZR) (c4 : Cur) (O2 : ZI) (D2 : ZR) (i : Int) (c5 : Cur) (O3 : ZI) (D3 : ZR) (row : ZI) (a2 : Int) (c6 : Cur) : Nat := (O3.length - a2).toNat
abbrev J1y (u : Value) (code : List Nat) (c : Cur) (most : Int) (n : Int) (m : Int) (c0 : Cur) : Prop := (0 ≤ n ∧ n ≤ 7) ∧ (0 ≤ m ∧ m ≤ 7) ∧ (okC c0 3000050)
abbrev J1A (u : Value) (code : List Nat) (c : Cur) (most : Int) (n : Int) (m : Int) (c0 : Cur) (big : Int) (c1 : Cur) (O0 : ZI) (D0 : ZR) : Prop := (1 ≤ big ∧ big ≤ 20) ∧ (okC c1 3000100) ∧ (O0 = []) ∧ (D0 = [])
abbrev J04 (code : List Nat) (c : Cur) (most : Int) (O : ZI) (D : ZR) (cf : Cur) : Prop := (okC cf 4000000) ∧ (drF O D)
def Jv (code : List Nat) (c : Cur) (most : Int) : Ex := ex3 1 (fun (O : ZI) (D : ZR) (cf : Cur) => J04 code c most O D cf) (fun (O : ZI) (D : ZR) (cf : Cur) => [.int .i64 cf.pos, .int .u64 cf.seed]) (fun (O : ZI) (D : ZR) (cf : Cur) => .agg [.own 3 (.ints O), .mat 3 24 D])
def J80 (f : FuncId) (ds : List D) : Orc := .no
def J8d (u : Value) (code : List Nat) (c : Cur) (most : Int) : Ann := .two (.none) (.cut (.mark [] [(2, .cell [.int .i64 ((J1 code c (([3, 4, 2, 5, 1, 6, 7]).length : Int)).pos), .int .u64 ((J1 code c (([3, 4, 2, 5, 1, 6, 7]).length : Int)).seed)] (.one (.d (.int .i64 (([3, 4, 2, 5, 1, 6, 7]).getD (J4 code c (([3, 4, 2, 5, 1, 6, 7]).length : Int)).toNat 0))))), (5, .cell [.int .i64 ((J1 code (J1 code c (([3, 4, 2, 5, 1, 6, 7]).length : Int)) (([4, 3, 5, 2, 6, 7, 1, 0]).length : Int)).pos), .int .u64 ((J1 code (J1 code c (([3, 4, 2, 5, 1, 6, 7]).length : Int)) (([4, 3, 5, 2, 6, 7, 1, 0]).length : Int)).seed)] (.one (.d (.int .i64 (([4, 3, 5, 2, 6, 7, 1, 0]).getD (J4 code (J1 code c (([3, 4, 2, 5, 1, 6, 7]).length : Int)) (([4, 3, 5, 2, 6, 7, 1, 0]).length : Int)).toNat 0)))))]) (cut3 (fun (n : Int) (m : Int) (c0 : Cur) => J1y u code c most n m c0) (fun (n : Int) (m : Int) (c0 : Cur) => [(0, .ptr 0 0), (1, .d false (.int .i64 most)), (4, .ptr 4 0), (5, .d true (.int .i64 n)), (6, .d true (.int .i64 m))]) (fun (n : Int) (m : Int) (c0 : Cur) => [(0, .box 76 [.d false (.lit u (.sl (.bytes code))), .d true (.int .i64 c0.pos), .d true (.int .u64 c0.seed)]), (4, .box 27 [.d true (.nil), .d true (.nil)])])) (fun g => (fun (n : Int) (m : Int) (c0 : Cur) => .cut (.mark [] [(3, .cell [.int .i64 ((J1 code c0 (([10, 10, 20, 4]).length : Int)).pos), .int .u64 ((J1 code c0 (([10, 10, 20, 4]).length : Int)).seed)] (.one (.d (.int .i64 (([10, 10, 20, 4]).getD (J4 code c0 (([10, 10, 20, 4]).length : Int)).toNat 0)))))]) (cut4 (fun (big : Int) (c1 : Cur) (O0 : ZI) (D0 : ZR) => J1A u code c most n m c0 big c1 O0 D0) (fun (big : Int) (c1 : Cur) (O0 : ZI) (D0 : ZR) => [(0, .ptr 0 0), (1, .d false (.int .i64 most)), (4, .ptr 4 0), (5, .d true (.int .i64 n)), (6, .d true (.int .i64 m)), (7, .ptr 7 0), (8, .d true (.int .i64 big))]) (fun (big : Int) (c1 : Cur) (O0 : ZI) (D0 : ZR) => [(0, .box 76 [.d false (.lit u (.sl (.bytes code))), .d true (.int .i64 c1.pos), .d true (.int .u64 c1.seed)]), (4, .box 27 [.d true (.nil), .d true (.nil)]), (1500202, .arr true 3 (.ints O0)), (1500203, .mat 3 24 D0 none), (7, .box 27 [.own 1500202 O0.length, .own 1500203 D0.length])])) (fun g => (fun (big : Int) (c1 : Cur) (O0 : ZI) (D0 : ZR) => .cut (.two (.none) (.loop (cut4 (fun (a : Int) (c3 : Cur) (O1 : ZI) (D1 : ZR) => J0E u code c most n m c0 big c1 O0 D0 a c3 O1 D1) (fun (a : Int) (c3 : Cur) (O1 : ZI) (D1 : ZR) => [(0, .ptr 0 0), (1, .d false (.int .i64 most)), (4, .ptr 4 0), (5, .d true (.int .i64 n)), (6, .d true (.int .i64 m)), (7, .ptr 7 0), (8, .d true (.int .i64 big)), (9, .d true (.int .i64 a))]) (fun (a : Int) (c3 : Cur) (O1 : ZI) (D1 : ZR) => [(0, .box 76 [.d false (.lit u (.sl (.bytes code))), .d true (.int .i64 c3.pos), .d true (.int .u64 c3.seed)]), (4, .box 27 [.d true (.nil), .d true (.nil)]), (1000002, .arr true 3 (.ints O1)), (1000003, .mat 3 24 D1 none), (7, .box 27 [.own 1000002 O1.length, .own 1000003 D1.length])])) (fun g => J0C u code c most n m c0 big c1 O0 D0 g.1 g.2.1 g.2.2.1 g.2.2.2) (fun g => (fun (a : Int) (c3 : Cur) (O1 : ZI) (D1 : ZR) => .two (.none) (.two (.reg [(4, .cell [.int .i64 ((J1 code c3 big).pos), .int .u64 ((J1 code c3 big).seed)] (.one (.d (.int .i64 (J4 code c3 big)))))]) (.none))) (g.1) (g.2.1) (g.2.2.1) (g.2.2.2)))) (cut3 (fun (c4 : Cur) (O2 : ZI) (D2 : ZR) => J1D u code c most n m c0 big c1 O0 D0 c4 O2 D2) (fun (c4 : Cur) (O2 : ZI) (D2 : ZR) => [(0, .ptr 0 0), (1, .d false (.int .i64 most)), (4, .ptr 4 0), (6, .d true (.int .i64 m)), (7, .ptr 7 0), (8, .d true (.int .i64 big))]) (fun (c4 : Cur) (O2 : ZI) (D2 : ZR) => [(0, .box 76 [.d false (.lit u (.sl (.bytes code))), .d true (.int .i64 c4.pos), .d true (.int .u64 c4.seed)]), (4, .box 27 [.d true (.nil), .d true (.nil)]), (1000051, .arr true 3 (.ints O2)), (1000052, .mat 3 24 D2 none), (7, .box 27 [.own 1000051 O2.length, .own 1000052 D2.length])])) (fun g => (fun (c4 : Cur) (O2 : ZI) (D2 : ZR) => .two (.two (.none) (.loop (cut4 (fun (i : Int) (c5 : Cur) (O3 : ZI) (D3 : ZR) => J0K u code c most n m c0 big c1 O0 D0 c4 O2 D2 i c5 O3 D3) (fun (i : Int) (c5 : Cur) (O3 : ZI) (D3 : ZR) => [(0, .ptr 0 0), (1, .d false (.int .i64 most)), (4, .ptr 4 0), (6, .d true (.int .i64 m)), (7, .ptr 7 0), (8, .d true (.int .i64 big)), (10, .d true (.int .i64 i))]) (fun (i : Int) (c5 : Cur) (O3 : ZI) (D3 : ZR) => [(0, .box 76 [.d false (.lit u (.sl (.bytes code))), .d true (.int .i64 c5.pos), .d true (.int .u64 c5.seed)]), (4, .box 27 [.d true (.nil), .d true (.nil)]), (1000102, .arr true 3 (.ints O3)), (1000103, .mat 3 24 D3 none), (7, .box 27 [.own 1000102 O3.length, .own 1000103 D3.length])])) (fun g => J0H u code c most n m c0 big c1 O0 D0 c4 O2 D2 g.1 g.2.1 g.2.2.1 g.2.2.2) (fun g => (fun (i : Int) (c5 : Cur) (O3 : ZI) (D3 : ZR) => .two (.none) (.two (.two (.none) (.two (.two (.none) (.loop (cut3 (fun (row : ZI) (a2 : Int) (c6 : Cur) => J0B u code c most n m c0 big c1 O0 D0 c4 O2 D2 i c5 O3 D3 row a2 c6) (fun (row : ZI) (a2 : Int) (c6 : Cur) => [(0, .ptr 0 0), (1, .d false (.int .i64 most)), (4, .ptr 4 0), (6, .d true (.int .i64 m)), (7, .ptr 7 0), (8, .d true (.int .i64 big)), (10, .d true (.int .i64 i)), (11, .own 1000200 row.length), (12, .d true (.int .i64 a2))]) (fun (row : ZI) (a2 : Int) (c6 : Cur) => [(1000200, .arr true 3 (.ints row)), (0, .box 76 [.d false (.lit u (.sl (.bytes code))), .d true (.int .i64 c6.pos), .d true (.int .u64 c6.seed)]), (4, .box 27 [.d true (.nil), .d true (.nil)]), (7, .box 27 [.own 1000102 O3.length, .own 1000103 D3.length]), (1000102, .arr true 3 (.ints O3)), (1000103, .mat 3 24 D3 none)])) (fun g => J0F u code c most n m c0 big c1 O0 D0 c4 O2 D2 i c5 O3 D3 g.1 g.2.1 g.2.2) (fun g => (fun (row : ZI) (a2 : Int) (c6 : Cur) => .two (.none) (.two (.mark [] [(3, .cell [.int .i64 ((J1 code c6 big).pos), .int .u64 ((J1 code c6 big).seed)] (.one (.d (.int .i64 (J4 code c6 big)))))]) (.none))) (g.1) (g.2.1) (g.2.2)))) (.none))) (.none))) (g.1) (g.2.1) (g.2.2.1) (g.2.2.2)))) (.none)) (g.1) (g.2.1) (g.2.2))) (g.1) (g.2.1) (g.2.2.1) (g.2.2.2))) (g.1) (g.2.1) (g.2.2)))
def J20 (u : Value) (code : List Nat) (c : Cur) (most : Int) : Prop :=
  ((((7 : Nat) = 7) ∧ (PK Tryz.prog 155 76 (.sl (.bytes code)) [.int .i64 c.pos, .int .u64 c.seed] [.int .i64 ((J1 code c (([3, 4, 2, 5, 1, 6, 7]).length : Int)).pos), .int .u64 ((J1 code c (([3, 4, 2, 5, 1, 6, 7]).length : Int)).seed)] [.sl (.ints ([3, 4, 2, 5, 1, 6, 7]))] (.one (.d (.int .i64 (([3, 4, 2, 5, 1, 6, 7]).getD (J4 code c (([3, 4, 2, 5, 1, 6, 7]).length : Int)).toNat 0))))) ∧ ((8 : Nat) = 8) ∧ (PK Tryz.prog 155 76 (.sl (.bytes code)) [.int .i64 ((J1 code c (([3, 4, 2, 5, 1, 6, 7]).length : Int)).pos), .int .u64 ((J1 code c (([3, 4, 2, 5, 1, 6, 7]).length : Int)).seed)] [.int .i64 ((J1 code (J1 code c (([3, 4, 2, 5, 1, 6, 7]).length : Int)) (([4, 3, 5, 2, 6, 7, 1, 0]).length : Int)).pos), .int .u64 ((J1 code (J1 code c (([3, 4, 2, 5, 1, 6, 7]).length : Int)) (([4, 3, 5, 2, 6, 7, 1, 0]).length : Int)).seed)] [.sl (.ints ([4, 3, 5, 2, 6, 7, 1, 0]))] (.one (.d (.int .i64 (([4, 3, 5, 2, 6, 7, 1, 0]).getD (J4 code (J1 code c (([3, 4, 2, 5, 1, 6, 7]).length : Int)) (([4, 3, 5, 2, 6, 7, 1, 0]).length : Int)).toNat 0))))) ∧ (∃ n' : Int, ∃ m' : Int, ∃ c0' : Cur, (J1y u code c most n' m' c0') ∧ (most = most) ∧ ((([3, 4, 2, 5, 1, 6, 7]).getD (J4 code c (([3, 4, 2, 5, 1, 6, 7]).length : Int)).toNat 0) = n') ∧ ((([4, 3, 5, 2, 6, 7, 1, 0]).getD (J4 code (J1 code c (([3, 4, 2, 5, 1, 6, 7]).length : Int)) (([4, 3, 5, 2, 6, 7, 1, 0]).length : Int)).toNat 0) = m') ∧ ((.lit u (.sl (.bytes code)) : D) = .lit u (.sl (.bytes code))) ∧ ((J1 code (J1 code c (([3, 4, 2, 5, 1, 6, 7]).length : Int)) (([4, 3, 5, 2, 6, 7, 1, 0]).length : Int)).pos = c0'.pos) ∧ ((J1 code (J1 code c (([3, 4, 2, 5, 1, 6, 7]).length : Int)) (([4, 3, 5, 2, 6, 7, 1, 0]).length : Int)).seed = c0'.seed))) ∧ (∀ n : Int, ∀ m : Int, ∀ c0 : Cur, (J1y u code c most n m c0) → ((((4 : Nat) = 4) ∧ (PK Tryz.prog 155 76 (.sl (.bytes code)) [.int .i64 c0.pos, .int .u64 c0.seed] [.int .i64 ((J1 code c0 (([10, 10, 20, 4]).length : Int)).pos), .int .u64 ((J1 code c0 (([10, 10, 20, 4]).length : Int)).seed)] [.sl (.ints ([10, 10, 20, 4]))] (.one (.d (.int .i64 (([10, 10, 20, 4]).getD (J4 code c0 (([10, 10, 20, 4]).length : Int)).toNat 0))))) ∧ (∃ big' : Int, ∃ c1' : Cur, ∃ O0' : ZI, ∃ D0' : ZR, (J1A u code c most n m c0 big' c1' O0' D0') ∧ (most = most) ∧ (n = n) ∧ (m = m) ∧ ((([10, 10, 20, 4]).getD (J4 code c0 (([10, 10, 20, 4]).length : Int)).toNat 0) = big') ∧ ((.lit u (.sl (.bytes code)) : D) = .lit u (.sl (.bytes code))) ∧ ((J1 code c0 (([10, 10, 20, 4]).length : Int)).pos = c1'.pos) ∧ ((J1 code c0 (([10, 10, 20, 4]).length : Int)).seed = c1'.seed) ∧ ((O0').length = 0) ∧ ((D0').length = 0) ∧ ((0 : Nat) = O0'.length) ∧ ((0 : Nat) = D0'.length))) ∧ (∀ big : Int, ∀ c1 : Cur, ∀ O0 : ZI, ∀ D0 : ZR, (J1A u code c most n m c0 big c1 O0 D0) → ((((∃ a' : Int, ∃ c3' : Cur, ∃ O1' : ZI, ∃ D1' : ZR, (J0E u code c most n m c0 big c1 O0 D0 a' c3' O1' D1') ∧ (most = most) ∧ (n = n) ∧ (m = m) ∧ (big = big) ∧ ((0 : Int) = a') ∧ ((.lit u (.sl (.bytes code)) : D) = .lit u (.sl (.bytes code))) ∧ (c1.pos = c3'.pos) ∧ (c1.seed = c3'.seed) ∧ (O0 = O1') ∧ (D0 = D1') ∧ (O0.length = O1'.length) ∧ (D0.length = D1'.length)) ∧ (∀ a : Int, ∀ c3 : Cur, ∀ O1 : ZI, ∀ D1 : ZR, (J0E u code c most n m c0 big c1 O0 D0 a c3 O1 D1) → ((decide (a < n)) = true → (decide (a < n)) = true) ∧ ((decide (a < n)) = true → (decide (a < n)) = true) ∧ (true = true) ∧ (((decide (a < n)) = true → (decide (a < n)) = true)) ∧ (((decide (a < n)) = false → true = true)) ∧ (((cond (decide (a < n)) (decide (a < most)) false) = true → (true = true) ∧ (PK Tryz.prog 156 76 (.sl (.bytes code)) [.int .i64 c3.pos, .int .u64 c3.seed] [.int .i64 ((J1 code c3 big).pos), .int .u64 ((J1 code c3 big).seed)] [.int .i64 big] (.one (.d (.int .i64 (J4 code c3 big))))) ∧ (O1.length = O1.length) ∧ ((1 : Nat) = 1) ∧ ((O1.length + 1) * 8 ≤ 140737488355328) ∧ (I6 (a + 1)) ∧ (∃ a' : Int, ∃ c3' : Cur, ∃ O1' : ZI, ∃ D1' : ZR, (J0E u code c most n m c0 big c1 O0 D0 a' c3' O1' D1') ∧ (J0C u code c most n m c0 big c1 O0 D0 a' c3' O1' D1' < J0C u code c most n m c0 big c1 O0 D0 a c3 O1 D1) ∧ (most = most) ∧ (n = n) ∧ (m = m) ∧ (big = big) ∧ ((a + 1) = a') ∧ ((.lit u (.sl (.bytes code)) : D) = .lit u (.sl (.bytes code))) ∧ ((J1 code c3 big).pos = c3'.pos) ∧ ((J1 code c3 big).seed = c3'.seed) ∧ ((O1 ++ [(J4 code c3 big)]) = O1') ∧ (D1 = D1') ∧ ((O1.length + 1) = O1'.length) ∧ (D1.length = D1'.length))) ∧ ((cond (decide (a < n)) (decide (a < most)) false) = false → (∃ c4' : Cur, ∃ O2' : ZI, ∃ D2' : ZR, (J1D u code c most n m c0 big c1 O0 D0 c4' O2' D2') ∧ (most = most) ∧ (m = m) ∧ (big = big) ∧ ((.lit u (.sl (.bytes code)) : D) = .lit u (.sl (.bytes code))) ∧ (c3.pos = c4'.pos) ∧ (c3.seed = c4'.seed) ∧ (O1 = O2') ∧ (D1 = D2') ∧ (O1.length = O2'.length) ∧ (D1.length = D2'.length))))))) ∧ (∀ c4 : Cur, ∀ O2 : ZI, ∀ D2 : ZR, (J1D u code c most n m c0 big c1 O0 D0 c4 O2 D2) → ((∃ i' : Int, ∃ c5' : Cur, ∃ O3' : ZI, ∃ D3' : ZR, (J0K u code c most n m c0 big c1 O0 D0 c4 O2 D2 i' c5' O3' D3') ∧ (most = most) ∧ (m = m) ∧ (big = big) ∧ ((0 : Int) = i') ∧ ((.lit u (.sl (.bytes code)) : D) = .lit u (.sl (.bytes code))) ∧ (c4.pos = c5'.pos) ∧ (c4.seed = c5'.seed) ∧ (O2 = O3') ∧ (D2 = D3') ∧ (O2.length = O3'.length) ∧ (D2.length = D3'.length)) ∧ (∀ i : Int, ∀ c5 : Cur, ∀ O3 : ZI, ∀ D3 : ZR, (J0K u code c most n m c0 big c1 O0 D0 c4 O2 D2 i c5 O3 D3) → ((decide (i < m)) = true → (decide (i < m)) = true) ∧ ((decide (i < m)) = true → (decide (i < m)) = true) ∧ (true = true) ∧ (((decide (i < m)) = true → (decide (i < m)) = true)) ∧ (((decide (i < m)) = false → true = true)) ∧ (((cond (decide (i < m)) (decide (i < most)) false) = true → ((∃ row' : ZI, ∃ a2' : Int, ∃ c6' : Cur, (J0B u code c most n m c0 big c1 O0 D0 c4 O2 D2 i c5 O3 D3 row' a2' c6') ∧ (most = most) ∧ (m = m) ∧ (big = big) ∧ (i = i) ∧ ((0 : Nat) = row'.length) ∧ ((0 : Int) = a2') ∧ ([] = row') ∧ ((.lit u (.sl (.bytes code)) : D) = .lit u (.sl (.bytes code))) ∧ (c5.pos = c6'.pos) ∧ (c5.seed = c6'.seed) ∧ (O3.length = O3.length) ∧ (D3.length = D3.length) ∧ (O3 = O3) ∧ (D3 = D3)) ∧ (∀ row : ZI, ∀ a2 : Int, ∀ c6 : Cur, (J0B u code c most n m c0 big c1 O0 D0 c4 O2 D2 i c5 O3 D3 row a2 c6) → (((decide (a2 < (O3.length : Int))) = true → (PK Tryz.prog 156 76 (.sl (.bytes code)) [.int .i64 c6.pos, .int .u64 c6.seed] [.int .i64 ((J1 code c6 big).pos), .int .u64 ((J1 code c6 big).seed)] [.int .i64 big] (.one (.d (.int .i64 (J4 code c6 big))))) ∧ (row.length = row.length) ∧ ((1 : Nat) = 1) ∧ ((row.length + 1) * 8 ≤ 140737488355328) ∧ (I6 (a2 + 1)) ∧ (∃ row' : ZI, ∃ a2' : Int, ∃ c6' : Cur, (J0B u code c most n m c0 big c1 O0 D0 c4 O2 D2 i c5 O3 D3 row' a2' c6') ∧ (J0F u code c most n m c0 big c1 O0 D0 c4 O2 D2 i c5 O3 D3 row' a2' c6' < J0F u code c most n m c0 big c1 O0 D0 c4 O2 D2 i c5 O3 D3 row a2 c6) ∧ (most = most) ∧ (m = m) ∧ (big = big) ∧ (i = i) ∧ ((row.length + 1) = row'.length) ∧ ((a2 + 1) = a2') ∧ ((row ++ [(J4 code c6 big)]) = row') ∧ ((.lit u (.sl (.bytes code)) : D) = .lit u (.sl (.bytes code))) ∧ ((J1 code c6 big).pos = c6'.pos) ∧ ((J1 code c6 big).seed = c6'.seed) ∧ (O3.length = O3.length) ∧ (D3.length = D3.length) ∧ (O3 = O3) ∧ (D3 = D3))) ∧ ((decide (a2 < (O3.length : Int))) = false → (row.length = row.length) ∧ (D3.length = D3.length) ∧ ((1 : Nat) = 1) ∧ (0 < 1) ∧ ((D3.length + 1) * 24 ≤ 140737488355328) ∧ (I6 (i + 1)) ∧ (∃ i' : Int, ∃ c5' : Cur, ∃ O3' : ZI, ∃ D3' : ZR, (J0K u code c most n m c0 big c1 O0 D0 c4 O2 D2 i' c5' O3' D3') ∧ (J0H u code c most n m c0 big c1 O0 D0 c4 O2 D2 i' c5' O3' D3' < J0H u code c most n m c0 big c1 O0 D0 c4 O2 D2 i c5 O3 D3) ∧ (most = most) ∧ (m = m) ∧ (big = big) ∧ ((i + 1) = i') ∧ ((.lit u (.sl (.bytes code)) : D) = .lit u (.sl (.bytes code))) ∧ (c6.pos = c5'.pos) ∧ (c6.seed = c5'.seed) ∧ (O3 = O3') ∧ ((D3 ++ [row]) = D3') ∧ (O3.length = O3'.length) ∧ ((D3.length + 1) = D3'.length))))))) ∧ ((cond (decide (i < m)) (decide (i < most)) false) = false → (∃ O' : ZI, ∃ D' : ZR, ∃ cf' : Cur, (J04 code c most O' D' cf') ∧ (true = true) ∧ ((.lit u (.sl (.bytes code)) : D) = .lit u (.sl (.bytes code))) ∧ (c5.pos = cf'.pos) ∧ (c5.seed = cf'.seed) ∧ (O3.length = O3.length) ∧ ((O3 : ZI) = O') ∧ (D3.length = D3.length) ∧ ((D3 : ZR) = D'))))))))))))
theorem J7v (u : Value) (code : List Nat) (c : Cur) (most : Int) (hb : ∀ x9 ∈ code, x9 < 256) (hc : okC c 3000000) (hm : 0 ≤ most ∧ most ≤ 7)  : J20 u code c most := by
  unfold J20
  refine ⟨?_, ?_⟩
  ·refine ⟨rfl, ?_, rfl, ?_, ?_⟩
   ·refine J0g code c ([3, 4, 2, 5, 1, 6, 7]) ?_ ?_ ?_
    ·exact hb
    ·exact J7 (by assumption) (by omega)
    ·simp
   ·refine J0g code (J1 code c (([3, 4, 2, 5, 1, 6, 7]).length : Int)) ([4, 3, 5, 2, 6, 7, 1, 0]) ?_ ?_ ?_
    ·exact hb
    ·exact J7 (Jf (by assumption)) (by omega)
    ·simp
   ·refine ⟨(([3, 4, 2, 5, 1, 6, 7]).getD (J4 code c (([3, 4, 2, 5, 1, 6, 7]).length : Int)).toNat 0), (([4, 3, 5, 2, 6, 7, 1, 0]).getD (J4 code (J1 code c (([3, 4, 2, 5, 1, 6, 7]).length : Int)) (([4, 3, 5, 2, 6, 7, 1, 0]).length : Int)).toNat 0), (J1 code (J1 code c (([3, 4, 2, 5, 1, 6, 7]).length : Int)) (([4, 3, 5, 2, 6, 7, 1, 0]).length : Int)), ?_⟩
    refine ⟨?_, rfl, rfl, rfl, rfl, rfl, rfl⟩
    ·refine ⟨?_, ?_, ?_⟩
     ·exact Jb6 (p := fun z => 0 ≤ z ∧ z ≤ 7) [3, 4, 2, 5, 1, 6, 7] code _ (by simp) (by simp)
     ·exact Jb6 (p := fun z => 0 ≤ z ∧ z ≤ 7) [4, 3, 5, 2, 6, 7, 1, 0] code _ (by simp) (by simp)
     ·exact J7 (Jf (Jf (by assumption))) (by omega)
  intro n m c0 hJ
  obtain ⟨n1, n2, n7⟩ := hJ
  refine ⟨?_, ?_⟩
  ·refine ⟨rfl, ?_, ?_⟩
   ·refine J0g code c0 ([10, 10, 20, 4]) ?_ ?_ ?_
    ·exact hb
    ·exact J7 (by assumption) (by omega)
    ·simp
   ·refine ⟨(([10, 10, 20, 4]).getD (J4 code c0 (([10, 10, 20, 4]).length : Int)).toNat 0), (J1 code c0 (([10, 10, 20, 4]).length : Int)), ([]), ([]), ?_⟩
    refine ⟨?_, rfl, rfl, rfl, rfl, rfl, rfl, rfl, ?_, ?_, rfl, rfl⟩
    ·refine ⟨?_, ?_, ?_, ?_⟩
     ·exact Jb6 (p := fun z => 1 ≤ z ∧ z ≤ 20) [10, 10, 20, 4] code _ (by simp) (by simp)
     ·exact J7 (Jf (by assumption)) (by omega)
     ·rfl
     ·rfl
    ·rfl
    rfl
  intro big c1 O0 D0 hJ
  obtain ⟨n3, n4, n5, n6⟩ := hJ
  refine ⟨?_, ?_⟩
  ·refine ⟨?_, ?_⟩
   ·refine ⟨0, c1, O0, D0, ?_⟩
    refine ⟨?_, rfl, rfl, rfl, rfl, rfl, rfl, rfl, rfl, rfl, rfl, rfl, rfl⟩
    ·refine ⟨?_, ?_, ?_, ?_, ?_⟩
     ·omega
     ·omega
     ·(simp_all; done)
     ·assumption
     ·exact J7 (by assumption) (by omega)
   ·intro a c3 O1 D1 hJ
    obtain ⟨h1, h2, h3, h4, h5⟩ := hJ
    refine ⟨id, id, rfl, id, fun _ => rfl, ?_, ?_⟩
    ·intro b1
     refine ⟨rfl, ?_, rfl, rfl, ?_, ?_, ?_⟩
     ·refine Jz code c3 big ?_ ?_
      ·exact hb
      ·exact J7 (by assumption) (by omega)
     ·omega
     ·omega
     refine ⟨(a + 1), (J1 code c3 big), (O1 ++ [(J4 code c3 big)]), D1, ?_⟩
     refine ⟨?_, ?_, rfl, rfl, rfl, rfl, rfl, rfl, rfl, rfl, rfl, rfl, ?_, rfl⟩
     ·refine ⟨?_, ?_, ?_, ?_, ?_⟩
      ·omega
      ·(simp_all <;> omega)
      ·(simp_all <;> omega)
      ·assumption
      ·exact J7 (Jf (by assumption)) (by omega)
     ·(simp only [J0C] at *; simp at *; omega)
     simp
    intro b2
    refine ⟨c3, O1, D1, ?_⟩
    refine ⟨?_, rfl, rfl, rfl, rfl, rfl, rfl, rfl, rfl, rfl, rfl⟩
    ·refine ⟨?_, ?_, ?_⟩
     ·exact J7 (by assumption) (by omega)
     ·omega
     ·assumption
  intro c4 O2 D2 hJ
  obtain ⟨j0, j1, j2⟩ := hJ
  refine ⟨?_, ?_⟩
  ·refine ⟨0, c4, O2, D2, ?_⟩
   refine ⟨?_, rfl, rfl, rfl, rfl, rfl, rfl, rfl, rfl, rfl, rfl, rfl⟩
   ·refine ⟨?_, ?_, ?_, ?_, ?_, ?_⟩
    ·omega
    ·omega
    ·(simp_all; done)
    ·omega
    ·exact J7 (by assumption) (by omega)
    ·(rw [j2]; intro r hr; cases hr)
  intro i c5 O3 D3 hJ
  obtain ⟨k1, k2, k3, k4, k5, k6⟩ := hJ
  refine ⟨id, id, rfl, id, fun _ => rfl, ?_, ?_⟩
  ·intro b3
   refine ⟨?_, ?_⟩
   ·refine ⟨([]), 0, c5, ?_⟩
    refine ⟨?_, rfl, rfl, rfl, rfl, rfl, rfl, ?_, rfl, rfl, rfl, rfl, rfl, rfl, rfl⟩
    ·refine ⟨?_, ?_, ?_, ?_, ?_⟩
     ·omega
     ·omega
     ·rfl
     ·exact J7 (by assumption) (by omega)
     ·(intro r hr; cases hr)
    rfl
   intro row a2 c6 hJ
   obtain ⟨m1, m2, m3, m4, m5⟩ := hJ
   refine ⟨?_, ?_⟩
   ·intro b4
    try simp only [nrmT] at b4
    refine ⟨?_, rfl, rfl, ?_, ?_, ?_⟩
    ·refine Jz code c6 big ?_ ?_
     ·exact hb
     ·exact J7 (by assumption) (by omega)
    ·omega
    ·omega
    refine ⟨(row ++ [(J4 code c6 big)]), (a2 + 1), (J1 code c6 big), ?_⟩
    refine ⟨?_, ?_, rfl, rfl, rfl, rfl, ?_, rfl, rfl, rfl, rfl, rfl, rfl, rfl, rfl, rfl⟩
    ·refine ⟨?_, ?_, ?_, ?_, ?_⟩
     ·omega
     ·omega
     ·(simp_all <;> omega)
     ·exact J7 (Jf (by assumption)) (by omega)
     ·refine J9L (by assumption) ?_
      have v := J1k code c6 (n := big) (by omega)
      omega
    ·(simp only [J0F]; omega)
    simp
   intro b5
   try simp only [nrmT] at b5
   refine ⟨rfl, rfl, rfl, by decide, ?_, ?_, ?_⟩
   ·omega
   ·omega
   refine ⟨(i + 1), c6, O3, (D3 ++ [row]), ?_⟩
   refine ⟨?_, ?_, rfl, rfl, rfl, rfl, rfl, rfl, rfl, rfl, rfl, rfl, ?_⟩
   ·refine ⟨?_, ?_, ?_, ?_, ?_, ?_⟩
    ·omega
    ·(simp_all <;> omega)
    ·(simp_all <;> omega)
    ·omega
    ·exact J7 (by assumption) (by omega)
    ·refine J9L (by assumption) ?_
     exact ⟨by omega, by assumption⟩
   ·(simp only [J0H] at *; simp at *; omega)
   simp
  intro b6
  refine ⟨O3, D3, c5, ?_⟩
  refine ⟨?_, rfl, rfl, rfl, rfl, rfl, rfl, rfl, rfl⟩
  ·refine ⟨?_, ?_⟩
   ·exact J7 (by assumption) (by omega)
   ·exact ⟨by omega, by omega, by assumption⟩
theorem J0J (code : List Nat) (c : Cur) (most : Int) (hb : ∀ x9 ∈ code, x9 < 256) (hc : okC c 3000000) (hm : 0 ≤ most ∧ most ≤ 7) : PKE Tryz.prog 188 76 (.sl (.bytes code)) [.int .i64 c.pos, .int .u64 c.seed] [.int .i64 most] (Jv code c most) :=
  pke_by (Q := fun u => J20 u code c most) (by kernel_rfl) Tryz.func188 @Tryz.call188 (by kernel_rfl) J80 (fun u => J8d u code c most) (by kernel_rfl) (fun u => J7v u code c most hb hc hm) (fun u => by kernel_rfl)
abbrev J0s (u : Value) (code : List Nat) (c : Cur) (most : Int) (pl : ZI) (c0 : Cur) (O0 : ZI) (D0 : ZR) (pl2 : ZI) (a : Int) (c1 : Cur) : Prop := (0 ≤ a) ∧ (a ≤ (O0.length : Int)) ∧ (pl2.length = a.toNat) ∧ (∀ y ∈ pl2, 0 ≤ y ∧ y < 20) ∧ (okC c1 (4000000 + 4 * a))
abbrev J0v (u : Value) (code : List Nat) (c : Cur) (most : Int) (pl : ZI) (c0 : Cur) (O0 : ZI) (D0 : ZR) (pl2 : ZI) (a : Int) (c1 : Cur) : Nat := (O0.length - a).toNat
abbrev J1t (u : Value) (code : List Nat) (c : Cur) (most : Int) (pl : ZI) (c0 : Cur) (O0 : ZI) (D0 : ZR) (pl1 : ZI) (c2 : Cur) : Prop := (okC c2 4001000) ∧ (pl1.length = O0.length) ∧ (∀ y ∈ pl1, 0 ≤ y ∧ y < 20)
abbrev J0r (u : Value) (code : List Nat) (c : Cur) (most : Int) (pl : ZI) (c0 : Cur) (O0 : ZI) (D0 : ZR) (pl1 : ZI) (c2 : Cur) (i : Int) (c3 : Cur) (O1 : ZI) (D1 : ZR) : Prop := (0 ≤ i) ∧ (i ≤ (D1.length : Int)) ∧ (drF O1 D1) ∧ (pl1.length = O1.length) ∧ (okC c3 (4001000 + 10 * i))
abbrev J0u (u : Value) (code : List Nat) (c : Cur) (most : Int) (pl : ZI) (c0 : Cur) (O0 : ZI) (D0 : ZR) (pl1 : ZI) (c2 : Cur) (i : Int) (c3 : Cur) (O1 : ZI) (D1 : ZR) : Nat := (D1.length - i).toNat
abbrev J0t (u : Value) (code : List Nat) (c : Cur) (most : Int) (pl : ZI) (c0 : Cur) (O0 : ZI) (D0 : ZR) (pl1 : ZI) (c2 : Cur) (i : Int) (c3 : Cur) (O1 : ZI) (D1 : ZR) (x : Int) (c5 : Cur) (a2 : Int) (D2 : ZR) : Prop := (0 ≤ a2) ∧ (a2 ≤ (O1.length : Int)) ∧ (drF O1 D2) ∧ (D2.length = D1.length)
abbrev J0o (u : Value) (code : List Nat) (c : Cur) (most : Int) (pl : ZI) (c0 : Cur) (O0 : ZI) (D0 : ZR) (pl1 : ZI) (c2 : Cur) (i : Int) (c3 : Cur) (O1 : ZI) (D1 : ZR) (x : Int) (c5 : Cur) (a2 : Int) (D2 : ZR) : Nat := (O1.length - a2).toNat
abbrev J1u (u : Value) (code : List Nat) (c : Cur) (most : Int) (pl : ZI) (c0 : Cur) (O0 : ZI) (D0 : ZR) : Prop := (pl = []) ∧ (okC c0 4000000) ∧ (drF O0 D0)
abbrev J1r (u : Value) (code : List Nat) (c : Cur) (most : Int) (pl : ZI) (c0 : Cur) (O0 : ZI) (D0 : ZR) (pl1 : ZI) (c2 : Cur) (i : Int) (c3 : Cur) (O1 : ZI) (D1 : ZR) (x : Int) (c5 : Cur) : Prop := (0 ≤ x ∧ x < 20) ∧ (okC c5 (4001010 + 10 * i))
abbrev J16 (code : List Nat) (c : Cur) (most : Int) (O : ZI) (D : ZR) (cg : Cur) : Prop := (okC cg 6000000) ∧ (drF O D)
def J0f (code : List Nat) (c : Cur) (most : Int) : Ex := ex3 1 (fun (O : ZI) (D : ZR) (cg : Cur) => J16 code c most O D cg) (fun (O : ZI) (D : ZR) (cg : Cur) => [.int .i64 cg.pos, .int .u64 cg.seed]) (fun (O : ZI) (D : ZR) (cg : Cur) => .agg [.own 3 (.ints O), .mat 3 24 D])
def J7l (f : FuncId) (ds : List D) : Orc := bif Nat.beq f 154 then J5D ds else .no
def J7r (u : Value) (code : List Nat) (c : Cur) (most : Int) : Ann := .two (.none) (.cut (.exr (.ex [] 2 (Jv code c most) (fun g => (fun (Or1 : ZI) (Dr1 : ZR) (cfr1 : Cur) => .ms [] []) (g.1) (g.2.1) (g.2.2)))) (cut4 (fun (pl : ZI) (c0 : Cur) (O0 : ZI) (D0 : ZR) => J1u u code c most pl c0 O0 D0) (fun (pl : ZI) (c0 : Cur) (O0 : ZI) (D0 : ZR) => [(0, .ptr 0 0), (4, .ptr 4 0), (5, .ptr 5 0), (6, .own 1500100 pl.length)]) (fun (pl : ZI) (c0 : Cur) (O0 : ZI) (D0 : ZR) => [(1500100, .arr true 3 (.ints pl)), (0, .box 76 [.d false (.lit u (.sl (.bytes code))), .d true (.int .i64 c0.pos), .d true (.int .u64 c0.seed)]), (4, .box 27 [.d true (.nil), .d true (.nil)]), (1500102, .arr true 3 (.ints O0)), (1500103, .mat 3 24 D0 none), (5, .box 27 [.own 1500102 O0.length, .own 1500103 D0.length])])) (fun g => (fun (pl : ZI) (c0 : Cur) (O0 : ZI) (D0 : ZR) => .cut (.two (.none) (.loop (cut3 (fun (pl2 : ZI) (a : Int) (c1 : Cur) => J0s u code c most pl c0 O0 D0 pl2 a c1) (fun (pl2 : ZI) (a : Int) (c1 : Cur) => [(0, .ptr 0 0), (4, .ptr 4 0), (5, .ptr 5 0), (6, .own 1000000 pl2.length), (7, .d true (.int .i64 a))]) (fun (pl2 : ZI) (a : Int) (c1 : Cur) => [(1000000, .arr true 3 (.ints pl2)), (0, .box 76 [.d false (.lit u (.sl (.bytes code))), .d true (.int .i64 c1.pos), .d true (.int .u64 c1.seed)]), (4, .box 27 [.d true (.nil), .d true (.nil)]), (5, .box 27 [.own 1500102 O0.length, .own 1500103 D0.length]), (1500102, .arr true 3 (.ints O0)), (1500103, .mat 3 24 D0 none)])) (fun g => J0v u code c most pl c0 O0 D0 g.1 g.2.1 g.2.2) (fun g => (fun (pl2 : ZI) (a : Int) (c1 : Cur) => .two (.none) (.two (.mark [] [(2, .cell [.int .i64 ((J1 code c1 20).pos), .int .u64 ((J1 code c1 20).seed)] (.one (.d (.int .i64 (J4 code c1 20)))))]) (.none))) (g.1) (g.2.1) (g.2.2)))) (cut2 (fun (pl1 : ZI) (c2 : Cur) => J1t u code c most pl c0 O0 D0 pl1 c2) (fun (pl1 : ZI) (c2 : Cur) => [(0, .ptr 0 0), (4, .ptr 4 0), (5, .ptr 5 0), (6, .own 1000050 pl1.length)]) (fun (pl1 : ZI) (c2 : Cur) => [(1000050, .arr true 3 (.ints pl1)), (0, .box 76 [.d false (.lit u (.sl (.bytes code))), .d true (.int .i64 c2.pos), .d true (.int .u64 c2.seed)]), (4, .box 27 [.d true (.nil), .d true (.nil)]), (5, .box 27 [.own 1500102 O0.length, .own 1500103 D0.length]), (1500102, .arr true 3 (.ints O0)), (1500103, .mat 3 24 D0 none)])) (fun g => (fun (pl1 : ZI) (c2 : Cur) => .two (.two (.none) (.loop (cut4 (fun (i : Int) (c3 : Cur) (O1 : ZI) (D1 : ZR) => J0r u code c most pl c0 O0 D0 pl1 c2 i c3 O1 D1) (fun (i : Int) (c3 : Cur) (O1 : ZI) (D1 : ZR) => [(0, .ptr 0 0), (4, .ptr 4 0), (5, .ptr 5 0), (6, .own 1000050 pl1.length), (8, .d true (.int .i64 i))]) (fun (i : Int) (c3 : Cur) (O1 : ZI) (D1 : ZR) => [(0, .box 76 [.d false (.lit u (.sl (.bytes code))), .d true (.int .i64 c3.pos), .d true (.int .u64 c3.seed)]), (4, .box 27 [.d true (.nil), .d true (.nil)]), (1000102, .arr true 3 (.ints O1)), (1000103, .mat 3 24 D1 none), (5, .box 27 [.own 1000102 O1.length, .own 1000103 D1.length]), (1000050, .arr true 3 (.ints pl1))])) (fun g => J0u u code c most pl c0 O0 D0 pl1 c2 g.1 g.2.1 g.2.2.1 g.2.2.2) (fun g => (fun (i : Int) (c3 : Cur) (O1 : ZI) (D1 : ZR) => .two (.none) (.two (.cut (.mark [] [(1, .cell [.int .i64 ((J1 code c3 20).pos), .int .u64 ((J1 code c3 20).seed)] (.one (.d (.int .i64 (J4 code c3 20)))))]) (cut2 (fun (x : Int) (c5 : Cur) => J1r u code c most pl c0 O0 D0 pl1 c2 i c3 O1 D1 x c5) (fun (x : Int) (c5 : Cur) => [(0, .ptr 0 0), (4, .ptr 4 0), (5, .ptr 5 0), (6, .own 1000050 pl1.length), (8, .d true (.int .i64 i)), (9, .d true (.int .i64 x))]) (fun (x : Int) (c5 : Cur) => [(0, .box 76 [.d false (.lit u (.sl (.bytes code))), .d true (.int .i64 c5.pos), .d true (.int .u64 c5.seed)]), (4, .box 27 [.d true (.nil), .d true (.nil)]), (5, .box 27 [.own 1000102 O1.length, .own 1000103 D1.length]), (1000050, .arr true 3 (.ints pl1)), (1000102, .arr true 3 (.ints O1)), (1000103, .mat 3 24 D1 none)])) (fun g => (fun (x : Int) (c5 : Cur) => .two (.none) (.loop (cut2 (fun (a2 : Int) (D2 : ZR) => J0t u code c most pl c0 O0 D0 pl1 c2 i c3 O1 D1 x c5 a2 D2) (fun (a2 : Int) (D2 : ZR) => [(0, .ptr 0 0), (4, .ptr 4 0), (5, .ptr 5 0), (6, .own 1000050 pl1.length), (8, .d true (.int .i64 i)), (9, .d true (.int .i64 x)), (10, .d true (.int .i64 a2))]) (fun (a2 : Int) (D2 : ZR) => [(0, .box 76 [.d false (.lit u (.sl (.bytes code))), .d true (.int .i64 c5.pos), .d true (.int .u64 c5.seed)]), (4, .box 27 [.d true (.nil), .d true (.nil)]), (1000201, .mat 3 24 D2 none), (5, .box 27 [.own 1000102 O1.length, .own 1000201 D2.length]), (1000050, .arr true 3 (.ints pl1)), (1000102, .arr true 3 (.ints O1))])) (fun g => J0o u code c most pl c0 O0 D0 pl1 c2 i c3 O1 D1 x c5 g.1 g.2) (fun _ => .none))) (g.1) (g.2))) (.none))) (g.1) (g.2.1) (g.2.2.1) (g.2.2.2)))) (.none)) (g.1) (g.2))) (g.1) (g.2.1) (g.2.2.1) (g.2.2.2)))
def J1K (u : Value) (code : List Nat) (c : Cur) (most : Int) : Prop :=
  (((PKE Tryz.prog 188 76 (.sl (.bytes code)) [.int .i64 c.pos, .int .u64 c.seed] [.int .i64 most] (Jv code c most)) ∧ (∀ Or1 : ZI, ∀ Dr1 : ZR, ∀ cfr1 : Cur, J04 code c most Or1 Dr1 cfr1 → ((true = true) ∧ (∃ pl' : ZI, ∃ c0' : Cur, ∃ O0' : ZI, ∃ D0' : ZR, (J1u u code c most pl' c0' O0' D0') ∧ ((0 : Nat) = pl'.length) ∧ ([] = pl') ∧ ((.lit u (.sl (.bytes code)) : D) = .lit u (.sl (.bytes code))) ∧ (cfr1.pos = c0'.pos) ∧ (cfr1.seed = c0'.seed) ∧ (Or1 = O0') ∧ (Dr1 = D0') ∧ (Or1.length = O0'.length) ∧ (Dr1.length = D0'.length))))) ∧ (∀ pl : ZI, ∀ c0 : Cur, ∀ O0 : ZI, ∀ D0 : ZR, (J1u u code c most pl c0 O0 D0) → ((((∃ pl2' : ZI, ∃ a' : Int, ∃ c1' : Cur, (J0s u code c most pl c0 O0 D0 pl2' a' c1') ∧ (pl.length = pl2'.length) ∧ ((0 : Int) = a') ∧ (pl = pl2') ∧ ((.lit u (.sl (.bytes code)) : D) = .lit u (.sl (.bytes code))) ∧ (c0.pos = c1'.pos) ∧ (c0.seed = c1'.seed) ∧ (O0.length = O0.length) ∧ (D0.length = D0.length) ∧ (O0 = O0) ∧ (D0 = D0)) ∧ (∀ pl2 : ZI, ∀ a : Int, ∀ c1 : Cur, (J0s u code c most pl c0 O0 D0 pl2 a c1) → (((decide (a < (O0.length : Int))) = true → (PK Tryz.prog 156 76 (.sl (.bytes code)) [.int .i64 c1.pos, .int .u64 c1.seed] [.int .i64 ((J1 code c1 20).pos), .int .u64 ((J1 code c1 20).seed)] [.int .i64 20] (.one (.d (.int .i64 (J4 code c1 20))))) ∧ (pl2.length = pl2.length) ∧ ((1 : Nat) = 1) ∧ ((pl2.length + 1) * 8 ≤ 140737488355328) ∧ (I6 (a + 1)) ∧ (∃ pl2' : ZI, ∃ a' : Int, ∃ c1' : Cur, (J0s u code c most pl c0 O0 D0 pl2' a' c1') ∧ (J0v u code c most pl c0 O0 D0 pl2' a' c1' < J0v u code c most pl c0 O0 D0 pl2 a c1) ∧ ((pl2.length + 1) = pl2'.length) ∧ ((a + 1) = a') ∧ ((pl2 ++ [(J4 code c1 20)]) = pl2') ∧ ((.lit u (.sl (.bytes code)) : D) = .lit u (.sl (.bytes code))) ∧ ((J1 code c1 20).pos = c1'.pos) ∧ ((J1 code c1 20).seed = c1'.seed) ∧ (O0.length = O0.length) ∧ (D0.length = D0.length) ∧ (O0 = O0) ∧ (D0 = D0))) ∧ ((decide (a < (O0.length : Int))) = false → (∃ pl1' : ZI, ∃ c2' : Cur, (J1t u code c most pl c0 O0 D0 pl1' c2') ∧ (pl2.length = pl1'.length) ∧ (pl2 = pl1') ∧ ((.lit u (.sl (.bytes code)) : D) = .lit u (.sl (.bytes code))) ∧ (c1.pos = c2'.pos) ∧ (c1.seed = c2'.seed) ∧ (O0.length = O0.length) ∧ (D0.length = D0.length) ∧ (O0 = O0) ∧ (D0 = D0))))))) ∧ (∀ pl1 : ZI, ∀ c2 : Cur, (J1t u code c most pl c0 O0 D0 pl1 c2) → ((∃ i' : Int, ∃ c3' : Cur, ∃ O1' : ZI, ∃ D1' : ZR, (J0r u code c most pl c0 O0 D0 pl1 c2 i' c3' O1' D1') ∧ (pl1.length = pl1.length) ∧ ((0 : Int) = i') ∧ ((.lit u (.sl (.bytes code)) : D) = .lit u (.sl (.bytes code))) ∧ (c2.pos = c3'.pos) ∧ (c2.seed = c3'.seed) ∧ (O0 = O1') ∧ (D0 = D1') ∧ (O0.length = O1'.length) ∧ (D0.length = D1'.length) ∧ (pl1 = pl1)) ∧ (∀ i : Int, ∀ c3 : Cur, ∀ O1 : ZI, ∀ D1 : ZR, (J0r u code c most pl c0 O0 D0 pl1 c2 i c3 O1 D1) → (((decide (i < (D1.length : Int))) = true → (((PK Tryz.prog 156 76 (.sl (.bytes code)) [.int .i64 c3.pos, .int .u64 c3.seed] [.int .i64 ((J1 code c3 20).pos), .int .u64 ((J1 code c3 20).seed)] [.int .i64 20] (.one (.d (.int .i64 (J4 code c3 20))))) ∧ (∃ x' : Int, ∃ c5' : Cur, (J1r u code c most pl c0 O0 D0 pl1 c2 i c3 O1 D1 x' c5') ∧ (pl1.length = pl1.length) ∧ (i = i) ∧ ((J4 code c3 20) = x') ∧ ((.lit u (.sl (.bytes code)) : D) = .lit u (.sl (.bytes code))) ∧ ((J1 code c3 20).pos = c5'.pos) ∧ ((J1 code c3 20).seed = c5'.seed) ∧ (O1.length = O1.length) ∧ (D1.length = D1.length) ∧ (pl1 = pl1) ∧ (O1 = O1) ∧ (D1 = D1))) ∧ (∀ x : Int, ∀ c5 : Cur, (J1r u code c most pl c0 O0 D0 pl1 c2 i c3 O1 D1 x c5) → ((∃ a2' : Int, ∃ D2' : ZR, (J0t u code c most pl c0 O0 D0 pl1 c2 i c3 O1 D1 x c5 a2' D2') ∧ (pl1.length = pl1.length) ∧ (i = i) ∧ (x = x) ∧ ((0 : Int) = a2') ∧ ((.lit u (.sl (.bytes code)) : D) = .lit u (.sl (.bytes code))) ∧ (c5.pos = c5.pos) ∧ (c5.seed = c5.seed) ∧ (D1 = D2') ∧ (O1.length = O1.length) ∧ (D1.length = D2'.length) ∧ (pl1 = pl1) ∧ (O1 = O1)) ∧ (∀ a2 : Int, ∀ D2 : ZR, (J0t u code c most pl c0 O0 D0 pl1 c2 i c3 O1 D1 x c5 a2 D2) → (((decide (a2 < (O1.length : Int))) = true → (true = true) ∧ ((0 : Int) ≤ i) ∧ ((i : Int) < (D2.length : Int)) ∧ (i.toNat < D2.length) ∧ ((0 : Int) ≤ a2) ∧ ((a2 : Int) < (pl1.length : Int)) ∧ (a2.toNat < pl1.length) ∧ (I6 (x - (pl1.getD a2.toNat 0))) ∧ ((0 : Int) ≤ a2) ∧ ((a2 : Int) < (pl1.length : Int)) ∧ (a2.toNat < pl1.length) ∧ (I6 ((pl1.getD a2.toNat 0) - x)) ∧ (PC Tryz.prog 154 [.int .i64 (x - (pl1.getD a2.toNat 0)), .int .i64 ((pl1.getD a2.toNat 0) - x)] (.one (.d (.int .i64 (max (x - (pl1.getD a2.toNat 0)) ((pl1.getD a2.toNat 0) - x)))))) ∧ ((0 : Int) ≤ a2) ∧ ((a2 : Int) < (((D2.getD i.toNat []).length) : Int)) ∧ (i.toNat < D2.length) ∧ (a2.toNat < (D2.getD i.toNat []).length) ∧ (I6 (a2 + 1)) ∧ (∃ a2' : Int, ∃ D2' : ZR, (J0t u code c most pl c0 O0 D0 pl1 c2 i c3 O1 D1 x c5 a2' D2') ∧ (J0o u code c most pl c0 O0 D0 pl1 c2 i c3 O1 D1 x c5 a2' D2' < J0o u code c most pl c0 O0 D0 pl1 c2 i c3 O1 D1 x c5 a2 D2) ∧ (pl1.length = pl1.length) ∧ (i = i) ∧ (x = x) ∧ ((a2 + 1) = a2') ∧ ((.lit u (.sl (.bytes code)) : D) = .lit u (.sl (.bytes code))) ∧ (c5.pos = c5.pos) ∧ (c5.seed = c5.seed) ∧ ((D2.set i.toNat ((D2.getD i.toNat []).set a2.toNat (max (x - (pl1.getD a2.toNat 0)) ((pl1.getD a2.toNat 0) - x)))) = D2') ∧ (O1.length = O1.length) ∧ (D2.length = D2'.length) ∧ (pl1 = pl1) ∧ (O1 = O1))) ∧ ((decide (a2 < (O1.length : Int))) = false → (I6 (i + 1)) ∧ (∃ i' : Int, ∃ c3' : Cur, ∃ O1' : ZI, ∃ D1' : ZR, (J0r u code c most pl c0 O0 D0 pl1 c2 i' c3' O1' D1') ∧ (J0u u code c most pl c0 O0 D0 pl1 c2 i' c3' O1' D1' < J0u u code c most pl c0 O0 D0 pl1 c2 i c3 O1 D1) ∧ (pl1.length = pl1.length) ∧ ((i + 1) = i') ∧ ((.lit u (.sl (.bytes code)) : D) = .lit u (.sl (.bytes code))) ∧ (c5.pos = c3'.pos) ∧ (c5.seed = c3'.seed) ∧ (O1 = O1') ∧ (D2 = D1') ∧ (O1.length = O1'.length) ∧ (D2.length = D1'.length) ∧ (pl1 = pl1))))))))) ∧ ((decide (i < (D1.length : Int))) = false → (∃ O' : ZI, ∃ D' : ZR, ∃ cg' : Cur, (J16 code c most O' D' cg') ∧ (true = true) ∧ ((.lit u (.sl (.bytes code)) : D) = .lit u (.sl (.bytes code))) ∧ (c3.pos = cg'.pos) ∧ (c3.seed = cg'.seed) ∧ (O1.length = O1.length) ∧ ((O1 : ZI) = O') ∧ (D1.length = D1.length) ∧ ((D1 : ZR) = D'))))))))))
theorem J6W (u : Value) (code : List Nat) (c : Cur) (most : Int) (hb : ∀ x9 ∈ code, x9 < 256) (hc : okC c 3000000) (hm : 0 ≤ most ∧ most ≤ 7)  : J1K u code c most := by
  unfold J1K
  refine ⟨?_, ?_⟩
  ·refine ⟨?_, ?_⟩
   ·refine J0J code c most ?_ ?_ ?_
    ·exact hb
    ·exact J7 (by assumption) (by omega)
    ·omega
   ·intro Or1 Dr1 cfr1 hQ9
    obtain ⟨f1r1, f2r1⟩ := hQ9
    refine ⟨rfl, ?_⟩
    ·refine ⟨([]), cfr1, Or1, Dr1, ?_⟩
     refine ⟨?_, rfl, ?_, rfl, rfl, rfl, rfl, rfl, rfl, rfl⟩
     ·refine ⟨?_, ?_, ?_⟩
      ·rfl
      ·exact J7 (by assumption) (by omega)
      ·assumption
     rfl
  intro pl c0 O0 D0 hJ
  obtain ⟨p1, p2, d0⟩ := hJ
  refine ⟨?_, ?_⟩
  ·refine ⟨?_, ?_⟩
   ·refine ⟨pl, 0, c0, ?_⟩
    refine ⟨?_, rfl, rfl, rfl, rfl, rfl, rfl, rfl, rfl, rfl, rfl⟩
    ·refine ⟨?_, ?_, ?_, ?_, ?_⟩
     ·omega
     ·omega
     ·(simp_all; done)
     ·(rw [p1]; intro y hy; cases hy)
     ·exact J7 (by assumption) (by omega)
   ·intro pl2 a c1 hJ
    obtain ⟨h1, h2, h3, h4, h5⟩ := hJ
    refine ⟨?_, ?_⟩
    ·intro b1
     try simp only [nrmT] at b1
     refine ⟨?_, rfl, rfl, ?_, ?_, ?_⟩
     ·refine Jz code c1 20 ?_ ?_
      ·exact hb
      ·(have q9 := d0.1; exact J7 (by repeat (first | assumption | apply J0h | apply Jf | apply Jy | exact J3m)) (by omega))
     ·have q := d0.1; omega
     ·(have q := d0.1; omega)
     refine ⟨(pl2 ++ [(J4 code c1 20)]), (a + 1), (J1 code c1 20), ?_⟩
     refine ⟨?_, ?_, ?_, rfl, rfl, rfl, rfl, rfl, rfl, rfl, rfl, rfl⟩
     ·refine ⟨?_, ?_, ?_, ?_, ?_⟩
      ·omega
      ·omega
      ·(simp_all <;> omega)
      ·refine J9L (by assumption) ?_
       exact J1k code c1 (n := 20) (by omega)
      ·exact J7 (Jf (by assumption)) (by omega)
     ·(simp only [J0v]; omega)
     simp
    intro b2
    try simp only [nrmT] at b2
    refine ⟨pl2, c1, ?_⟩
    refine ⟨?_, rfl, rfl, rfl, rfl, rfl, rfl, rfl, rfl, rfl⟩
    ·refine ⟨?_, ?_, ?_⟩
     ·(have q9 := d0.1; exact J7 (by repeat (first | assumption | apply J0h | apply Jf | apply Jy | exact J3m)) (by omega))
     ·omega
     ·assumption
  intro pl1 c2 hJ
  obtain ⟨p4, p5, p3⟩ := hJ
  refine ⟨?_, ?_⟩
  ·refine ⟨0, c2, O0, D0, ?_⟩
   refine ⟨?_, rfl, rfl, rfl, rfl, rfl, rfl, rfl, rfl, rfl, rfl⟩
   ·refine ⟨?_, ?_, ?_, ?_, ?_⟩
    ·omega
    ·omega
    ·assumption
    ·omega
    ·exact J7 (by assumption) (by omega)
  intro i c3 O1 D1 hJ
  obtain ⟨k1, k2, d1, k6, k5⟩ := hJ
  refine ⟨?_, ?_⟩
  ·intro b3
   try simp only [nrmT] at b3
   refine ⟨?_, ?_⟩
   ·refine ⟨?_, ?_⟩
    ·refine Jz code c3 20 ?_ ?_
     ·exact hb
     ·(have q9 := d1.2.1; exact J7 (by repeat (first | assumption | apply J0h | apply Jf | apply Jy | exact J3m)) (by omega))
    ·refine ⟨(J4 code c3 20), (J1 code c3 20), ?_⟩
     refine ⟨?_, rfl, rfl, rfl, rfl, rfl, rfl, rfl, rfl, rfl, rfl, rfl⟩
     ·refine ⟨?_, ?_⟩
      ·exact J1k code _ (n := 20) (by omega)
      ·exact J7 (Jf (by assumption)) (by omega)
   intro x c5 hJ
   obtain ⟨x1, x2⟩ := hJ
   refine ⟨?_, ?_⟩
   ·refine ⟨0, D1, ?_⟩
    refine ⟨?_, rfl, rfl, rfl, rfl, rfl, rfl, rfl, rfl, rfl, rfl, rfl, rfl⟩
    ·refine ⟨?_, ?_, ?_, ?_⟩
     ·omega
     ·have := d1.1; omega
     ·assumption
     ·omega
   intro a2 D2 hJ
   obtain ⟨m1, m2, d2, m3⟩ := hJ
   refine ⟨?_, ?_⟩
   ·intro b4
    try simp only [nrmT] at b4
    refine ⟨rfl, ?_, ?_, ?_, ?_, ?_, ?_, ?_, ?_, ?_, ?_, ?_, J6k (x - (pl1.getD a2.toNat 0)) ((pl1.getD a2.toNat 0) - x), ?_, ?_, ?_, ?_, ?_, ?_⟩
    ·omega
    ·omega
    ·omega
    ·omega
    ·omega
    ·omega
    ·have q := p3 _ (getD_mem (d := 0) (show a2.toNat < pl1.length by omega))
     have q2 := x1
     omega
    ·omega
    ·omega
    ·omega
    ·have q := p3 _ (getD_mem (d := 0) (show a2.toNat < pl1.length by omega))
     have q2 := x1
     omega
    ·omega
    ·have q := (Jc d2 (i := i.toNat) (a := a2.toNat) (by omega) (by omega)).1
     omega
    ·omega
    ·have q := (Jc d2 (i := i.toNat) (a := a2.toNat) (by omega) (by omega)).1
     omega
    ·(have q := d1.1; have q2 := d1.2.1; omega)
    refine ⟨(a2 + 1), (D2.set i.toNat ((D2.getD i.toNat []).set a2.toNat (max (x - (pl1.getD a2.toNat 0)) ((pl1.getD a2.toNat 0) - x)))), ?_⟩
    refine ⟨?_, ?_, rfl, rfl, rfl, rfl, rfl, rfl, rfl, rfl, rfl, ?_, rfl, rfl⟩
    ·refine ⟨?_, ?_, ?_, ?_⟩
     ·omega
     ·have := d1.1; omega
     ·refine Jep (by assumption) (by omega) ?_
      have q := p3 _ (getD_mem (d := 0) (show a2.toNat < pl1.length by omega))
      omega
     ·simp; try omega
    ·(simp only [J0o]; omega)
    (simp_all; done)
   intro b5
   try simp only [nrmT] at b5
   refine ⟨?_, ?_⟩
   ·(have q := d1.1; have q2 := d1.2.1; omega)
   refine ⟨(i + 1), c5, O1, D2, ?_⟩
   refine ⟨?_, ?_, rfl, rfl, rfl, rfl, rfl, rfl, rfl, rfl, rfl, rfl⟩
   ·refine ⟨?_, ?_, ?_, ?_, ?_⟩
    ·omega
    ·omega
    ·assumption
    ·have := d1.1; omega
    ·exact J7 (by assumption) (by omega)
   (simp only [J0u]; omega)
  intro b6
  try simp only [nrmT] at b6
  refine ⟨O1, D1, c3, ?_⟩
  refine ⟨?_, rfl, rfl, rfl, rfl, rfl, rfl, rfl, rfl⟩
  ·refine ⟨?_, ?_⟩
   ·(have q9 := d1.2.1; exact J7 (by repeat (first | assumption | apply J0h | apply Jf | apply Jy | exact J3m)) (by omega))
   ·assumption
theorem J3x (code : List Nat) (c : Cur) (most : Int) (hb : ∀ x9 ∈ code, x9 < 256) (hc : okC c 3000000) (hm : 0 ≤ most ∧ most ≤ 7) : PKE Tryz.prog 186 76 (.sl (.bytes code)) [.int .i64 c.pos, .int .u64 c.seed] [.int .i64 most] (J0f code c most) :=
  pke_by (Q := fun u => J1K u code c most) (by kernel_rfl) Tryz.func186 @Tryz.call186 (by kernel_rfl) J7l (fun u => J7r u code c most) (by kernel_rfl) (fun u => J6W u code c most hb hc hm) (fun u => by kernel_rfl)
abbrev J14 (u : Value) (code : List Nat) (c : Cur) (U : ZI) (E : ZR) (aa : Int) (c1 : Cur) (O1 : ZI) (D1 : ZR) : Prop := (D1.length ≤ 8) ∧ (O1.length ≤ 7)
abbrev J15 (u : Value) (code : List Nat) (c : Cur) (U : ZI) (E : ZR) (aa : Int) (c1 : Cur) (O1 : ZI) (D1 : ZR) : Nat := 8 - D1.length
abbrev J1J (u : Value) (code : List Nat) (c : Cur) (U : ZI) (E : ZR) (aa : Int) (c1 : Cur) : Prop := (0 ≤ aa ∧ aa < (U.length : Int)) ∧ (okC c1 7000100)
abbrev Jo (code : List Nat) (c : Cur) (U : ZI) (E : ZR) (O : ZI) (D : ZR) (ch : Cur) : Prop := (okC ch 8000000) ∧ (O.length ≤ 8) ∧ (D.length ≤ 8)
def JS (code : List Nat) (c : Cur) (U : ZI) (E : ZR) : Ex := ex3 2 (fun (O : ZI) (D : ZR) (ch : Cur) => Jo code c U E O D ch) (fun (O : ZI) (D : ZR) (ch : Cur) => [.int .i64 ch.pos, .int .u64 ch.seed]) (fun (O : ZI) (D : ZR) (ch : Cur) => .agg [.own 3 (.ints O), .mat 3 24 D])
def J8v (f : FuncId) (ds : List D) : Orc := bif Nat.beq f 98 then J6e ds else .no
def J8r (u : Value) (code : List Nat) (c : Cur) (U : ZI) (E : ZR) : Ann := .two (.none) (.two (.none) (.cut (.mark [] [(4, .cell [.int .i64 ((J1 code c (U.length : Int)).pos), .int .u64 ((J1 code c (U.length : Int)).seed)] (.one (.d (.int .i64 (J4 code c (U.length : Int))))))]) (cut2 (fun (aa : Int) (c1 : Cur) => J1J u code c U E aa c1) (fun (aa : Int) (c1 : Cur) => [(0, .ptr 0 0), (3, .ptr 3 0), (4, .ptr 4 0), (5, .d true (.int .i64 aa))]) (fun (aa : Int) (c1 : Cur) => [(0, .box 76 [.d false (.lit u (.sl (.bytes code))), .d true (.int .i64 c1.pos), .d true (.int .u64 c1.seed)]), (3, .box 27 [.own 1 U.length, .own 2 E.length]), (4, .box 27 [.d true (.nil), .d true (.nil)]), (1, .arr true 3 (.ints U)), (2, .mat 3 24 E none)])) (fun g => (fun (aa : Int) (c1 : Cur) => .two (.two (.mark [] [(1, .cell [.int .i64 ((J1 code c1 60).pos), .int .u64 ((J1 code c1 60).seed)] (.one (.d (.int .i64 (J4 code c1 60)))))]) (.two (.none) (.two (.reg [(5, .cell [.int .i64 ((J1 code (J1 code c1 60) (([(-1), 99, 100, 4611686018427387904]).length : Int)).pos), .int .u64 ((J1 code (J1 code c1 60) (([(-1), 99, 100, 4611686018427387904]).length : Int)).seed)] (.one (.d (.int .i64 (([(-1), 99, 100, 4611686018427387904]).getD (J4 code (J1 code c1 60) (([(-1), 99, 100, 4611686018427387904]).length : Int)).toNat 0)))))]) (.two (.none) (.two (.two (.none) (.two (.reg [(7, .cell [.int .i64 ((J1 code (J1 code c1 60) (([(-1), 99, 100, (-9223372036854775808)]).length : Int)).pos), .int .u64 ((J1 code (J1 code c1 60) (([(-1), 99, 100, (-9223372036854775808)]).length : Int)).seed)] (.one (.d (.int .i64 (([(-1), 99, 100, (-9223372036854775808)]).getD (J4 code (J1 code c1 60) (([(-1), 99, 100, (-9223372036854775808)]).length : Int)).toNat 0)))))]) (.none))) (.two (.none) (.two (.none) (.two (.none) (.two (.loop (cut2 (fun (O1 : ZI) (D1 : ZR) => J14 u code c U E aa c1 O1 D1) (fun (O1 : ZI) (D1 : ZR) => [(0, .ptr 0 0), (3, .ptr 3 0), (4, .ptr 4 0)]) (fun (O1 : ZI) (D1 : ZR) => [(0, .box 76 [.d false (.lit u (.sl (.bytes code))), .d true (.int .i64 ((J1 code c1 60).pos)), .d true (.int .u64 ((J1 code c1 60).seed))]), (1000000, .arr true 3 (.ints O1)), (1000001, .mat 3 24 D1 none), (3, .box 27 [.own 1000000 O1.length, .own 1000001 D1.length]), (4, .box 27 [.d true (.nil), .d true (.nil)])])) (fun g => J15 u code c U E aa c1 g.1 g.2) (fun _ => .none)) (.none)))))))))) (.none)) (g.1) (g.2))))
def J2I (u : Value) (code : List Nat) (c : Cur) (U : ZI) (E : ZR) : Prop :=
  ((((U.length : Int) == 0) = true → (∃ O' : ZI, ∃ D' : ZR, ∃ ch' : Cur, (Jo code c U E O' D' ch') ∧ (true = true) ∧ ((.lit u (.sl (.bytes code)) : D) = .lit u (.sl (.bytes code))) ∧ (c.pos = ch'.pos) ∧ (c.seed = ch'.seed) ∧ (U.length = U.length) ∧ ((U : ZI) = O') ∧ (E.length = E.length) ∧ ((E : ZR) = D'))) ∧ (((U.length : Int) == 0) = false → (((PK Tryz.prog 156 76 (.sl (.bytes code)) [.int .i64 c.pos, .int .u64 c.seed] [.int .i64 ((J1 code c (U.length : Int)).pos), .int .u64 ((J1 code c (U.length : Int)).seed)] [.int .i64 (U.length : Int)] (.one (.d (.int .i64 (J4 code c (U.length : Int)))))) ∧ (∃ aa' : Int, ∃ c1' : Cur, (J1J u code c U E aa' c1') ∧ ((J4 code c (U.length : Int)) = aa') ∧ ((.lit u (.sl (.bytes code)) : D) = .lit u (.sl (.bytes code))) ∧ ((J1 code c (U.length : Int)).pos = c1'.pos) ∧ ((J1 code c (U.length : Int)).seed = c1'.seed) ∧ (U.length = U.length) ∧ (E.length = E.length) ∧ (U = U) ∧ (E = E))) ∧ (∀ aa : Int, ∀ c1 : Cur, (J1J u code c U E aa c1) → (PK Tryz.prog 156 76 (.sl (.bytes code)) [.int .i64 c1.pos, .int .u64 c1.seed] [.int .i64 ((J1 code c1 60).pos), .int .u64 ((J1 code c1 60).seed)] [.int .i64 60] (.one (.d (.int .i64 (J4 code c1 60))))) ∧ ((((J4 code c1 60) == 0) = true → (true = true) ∧ ((4 : Nat) = 4) ∧ (PK Tryz.prog 155 76 (.sl (.bytes code)) [.int .i64 ((J1 code c1 60).pos), .int .u64 ((J1 code c1 60).seed)] [.int .i64 ((J1 code (J1 code c1 60) (([(-1), 99, 100, 4611686018427387904]).length : Int)).pos), .int .u64 ((J1 code (J1 code c1 60) (([(-1), 99, 100, 4611686018427387904]).length : Int)).seed)] [.sl (.ints ([(-1), 99, 100, 4611686018427387904]))] (.one (.d (.int .i64 (([(-1), 99, 100, 4611686018427387904]).getD (J4 code (J1 code c1 60) (([(-1), 99, 100, 4611686018427387904]).length : Int)).toNat 0))))) ∧ ((0 : Int) ≤ aa) ∧ ((aa : Int) < (U.length : Int)) ∧ (aa.toNat < U.length) ∧ (∃ O' : ZI, ∃ D' : ZR, ∃ ch' : Cur, (Jo code c U E O' D' ch') ∧ (true = true) ∧ ((.lit u (.sl (.bytes code)) : D) = .lit u (.sl (.bytes code))) ∧ ((J1 code (J1 code c1 60) (([(-1), 99, 100, 4611686018427387904]).length : Int)).pos = ch'.pos) ∧ ((J1 code (J1 code c1 60) (([(-1), 99, 100, 4611686018427387904]).length : Int)).seed = ch'.seed) ∧ (U.length = (U.set aa.toNat (([(-1), 99, 100, 4611686018427387904]).getD (J4 code (J1 code c1 60) (([(-1), 99, 100, 4611686018427387904]).length : Int)).toNat 0)).length) ∧ (((U.set aa.toNat (([(-1), 99, 100, 4611686018427387904]).getD (J4 code (J1 code c1 60) (([(-1), 99, 100, 4611686018427387904]).length : Int)).toNat 0)) : ZI) = O') ∧ (E.length = E.length) ∧ ((E : ZR) = D'))) ∧ (((J4 code c1 60) == 0) = false → ((((J4 code c1 60) == 1) = true → (((decide ((E.length : Int) > 0)) = true → (true = true) ∧ ((0 : Int) ≤ 0) ∧ ((0 : Int) < (E.length : Int)) ∧ (0 < E.length) ∧ ((4 : Nat) = 4) ∧ (PK Tryz.prog 155 76 (.sl (.bytes code)) [.int .i64 ((J1 code c1 60).pos), .int .u64 ((J1 code c1 60).seed)] [.int .i64 ((J1 code (J1 code c1 60) (([(-1), 99, 100, (-9223372036854775808)]).length : Int)).pos), .int .u64 ((J1 code (J1 code c1 60) (([(-1), 99, 100, (-9223372036854775808)]).length : Int)).seed)] [.sl (.ints ([(-1), 99, 100, (-9223372036854775808)]))] (.one (.d (.int .i64 (([(-1), 99, 100, (-9223372036854775808)]).getD (J4 code (J1 code c1 60) (([(-1), 99, 100, (-9223372036854775808)]).length : Int)).toNat 0))))) ∧ ((0 : Int) ≤ aa) ∧ ((aa : Int) < (((E.getD 0 []).length) : Int)) ∧ (0 < E.length) ∧ (aa.toNat < (E.getD 0 []).length) ∧ (∃ O' : ZI, ∃ D' : ZR, ∃ ch' : Cur, (Jo code c U E O' D' ch') ∧ (true = true) ∧ ((.lit u (.sl (.bytes code)) : D) = .lit u (.sl (.bytes code))) ∧ ((J1 code (J1 code c1 60) (([(-1), 99, 100, (-9223372036854775808)]).length : Int)).pos = ch'.pos) ∧ ((J1 code (J1 code c1 60) (([(-1), 99, 100, (-9223372036854775808)]).length : Int)).seed = ch'.seed) ∧ (U.length = U.length) ∧ ((U : ZI) = O') ∧ (E.length = (E.set 0 ((E.getD 0 []).set aa.toNat (([(-1), 99, 100, (-9223372036854775808)]).getD (J4 code (J1 code c1 60) (([(-1), 99, 100, (-9223372036854775808)]).length : Int)).toNat 0))).length) ∧ (((E.set 0 ((E.getD 0 []).set aa.toNat (([(-1), 99, 100, (-9223372036854775808)]).getD (J4 code (J1 code c1 60) (([(-1), 99, 100, (-9223372036854775808)]).length : Int)).toNat 0))) : ZR) = D'))) ∧ ((decide ((E.length : Int) > 0)) = false → (∃ O' : ZI, ∃ D' : ZR, ∃ ch' : Cur, (Jo code c U E O' D' ch') ∧ (true = true) ∧ ((.lit u (.sl (.bytes code)) : D) = .lit u (.sl (.bytes code))) ∧ ((J1 code c1 60).pos = ch'.pos) ∧ ((J1 code c1 60).seed = ch'.seed) ∧ (U.length = U.length) ∧ ((U : ZI) = O') ∧ (E.length = E.length) ∧ ((E : ZR) = D'))))) ∧ (((J4 code c1 60) == 1) = false → ((((J4 code c1 60) == 2) = true → (U.length = U.length) ∧ ((1 : Nat) = 1) ∧ ((U.length + 1) * 8 ≤ 140737488355328) ∧ (∃ O' : ZI, ∃ D' : ZR, ∃ ch' : Cur, (Jo code c U E O' D' ch') ∧ (true = true) ∧ ((.lit u (.sl (.bytes code)) : D) = .lit u (.sl (.bytes code))) ∧ ((J1 code c1 60).pos = ch'.pos) ∧ ((J1 code c1 60).seed = ch'.seed) ∧ ((U.length + 1) = (U ++ [1]).length) ∧ (((U ++ [1]) : ZI) = O') ∧ (E.length = E.length) ∧ ((E : ZR) = D'))) ∧ (((J4 code c1 60) == 2) = false → ((((J4 code c1 60) == 3) = true → ((∃ O1' : ZI, ∃ D1' : ZR, (J14 u code c U E aa c1 O1' D1') ∧ ((.lit u (.sl (.bytes code)) : D) = .lit u (.sl (.bytes code))) ∧ ((J1 code c1 60).pos = (J1 code c1 60).pos) ∧ ((J1 code c1 60).seed = (J1 code c1 60).seed) ∧ (U = O1') ∧ (E = D1') ∧ (U.length = O1'.length) ∧ (E.length = D1'.length)) ∧ (∀ O1 : ZI, ∀ D1 : ZR, (J14 u code c U E aa c1 O1 D1) → (((decide ((D1.length : Int) < 8)) = true → (true = true) ∧ (O1.length = O1.length) ∧ (PC Tryz.prog 98 [.sl (.ints O1)] (.one (.own 3 (.ints O1)))) ∧ (O1.length = O1.length) ∧ (D1.length = D1.length) ∧ ((1 : Nat) = 1) ∧ (0 < 1) ∧ ((D1.length + 1) * 24 ≤ 140737488355328) ∧ (∃ O1' : ZI, ∃ D1' : ZR, (J14 u code c U E aa c1 O1' D1') ∧ (J15 u code c U E aa c1 O1' D1' < J15 u code c U E aa c1 O1 D1) ∧ ((.lit u (.sl (.bytes code)) : D) = .lit u (.sl (.bytes code))) ∧ ((J1 code c1 60).pos = (J1 code c1 60).pos) ∧ ((J1 code c1 60).seed = (J1 code c1 60).seed) ∧ (O1 = O1') ∧ ((D1 ++ [O1]) = D1') ∧ (O1.length = O1'.length) ∧ ((D1.length + 1) = D1'.length))) ∧ ((decide ((D1.length : Int) < 8)) = false → (∃ O' : ZI, ∃ D' : ZR, ∃ ch' : Cur, (Jo code c U E O' D' ch') ∧ (true = true) ∧ ((.lit u (.sl (.bytes code)) : D) = .lit u (.sl (.bytes code))) ∧ ((J1 code c1 60).pos = ch'.pos) ∧ ((J1 code c1 60).seed = ch'.seed) ∧ (O1.length = O1.length) ∧ ((O1 : ZI) = O') ∧ (D1.length = D1.length) ∧ ((D1 : ZR) = D'))))))) ∧ (((J4 code c1 60) == 3) = false → ((((J4 code c1 60) == 4) = true → (∃ O' : ZI, ∃ D' : ZR, ∃ ch' : Cur, (Jo code c U E O' D' ch') ∧ (true = true) ∧ ((.lit u (.sl (.bytes code)) : D) = .lit u (.sl (.bytes code))) ∧ ((J1 code c1 60).pos = ch'.pos) ∧ ((J1 code c1 60).seed = ch'.seed) ∧ (O'.length = 0) ∧ (D'.length = 0))) ∧ (((J4 code c1 60) == 4) = false → (∃ O' : ZI, ∃ D' : ZR, ∃ ch' : Cur, (Jo code c U E O' D' ch') ∧ (true = true) ∧ ((.lit u (.sl (.bytes code)) : D) = .lit u (.sl (.bytes code))) ∧ ((J1 code c1 60).pos = ch'.pos) ∧ ((J1 code c1 60).seed = ch'.seed) ∧ (U.length = U.length) ∧ ((U : ZI) = O') ∧ (E.length = E.length) ∧ ((E : ZR) = D'))))))))))))))))
theorem J7S (u : Value) (code : List Nat) (c : Cur) (U : ZI) (E : ZR) (hb : ∀ x9 ∈ code, x9 < 256) (hc : okC c 7000000) (hf : drF U E)  : J2I u code c U E := by
  unfold J2I
  refine ⟨?_, ?_⟩
  ·intro b1
   try simp only [nrmT] at b1
   refine ⟨U, E, c, ?_⟩
   refine ⟨?_, rfl, rfl, rfl, rfl, rfl, rfl, rfl, rfl⟩
   ·refine ⟨?_, ?_, ?_⟩
    ·exact J7 (by assumption) (by omega)
    ·(have := hf.1; have := hf.2.1; omega)
    ·(have := hf.1; have := hf.2.1; omega)
  intro b2
  try simp only [nrmT] at b2
  refine ⟨?_, ?_⟩
  ·refine ⟨?_, ?_⟩
   ·refine Jz code c (U.length : Int) ?_ ?_
    ·exact hb
    ·exact J7 (by assumption) (by omega)
   ·refine ⟨(J4 code c (U.length : Int)), (J1 code c (U.length : Int)), ?_⟩
    refine ⟨?_, rfl, rfl, rfl, rfl, rfl, rfl, rfl, rfl⟩
    ·refine ⟨?_, ?_⟩
     ·exact J1k code _ (by omega)
     ·exact J7 (Jf (by assumption)) (by omega)
  intro aa c1 hJ
  obtain ⟨a1, a2⟩ := hJ
  refine ⟨?_, ?_, ?_⟩
  ·refine Jz code c1 60 ?_ ?_
   ·exact hb
   ·exact J7 (by assumption) (by omega)
  ·intro b3
   try simp only [nrmT] at b3
   refine ⟨rfl, rfl, ?_, ?_, ?_, ?_, ?_⟩
   ·refine J0g code (J1 code c1 60) ([(-1), 99, 100, 4611686018427387904]) ?_ ?_ ?_
    ·exact hb
    ·exact J7 (Jf (by assumption)) (by omega)
    ·simp
   ·omega
   ·omega
   ·omega
   refine ⟨(U.set aa.toNat (([(-1), 99, 100, 4611686018427387904]).getD (J4 code (J1 code c1 60) (([(-1), 99, 100, 4611686018427387904]).length : Int)).toNat 0)), E, (J1 code (J1 code c1 60) (([(-1), 99, 100, 4611686018427387904]).length : Int)), ?_⟩
   refine ⟨?_, rfl, rfl, rfl, rfl, ?_, rfl, rfl, rfl⟩
   ·refine ⟨?_, ?_, ?_⟩
    ·exact J7 (Jf (Jf (by assumption))) (by omega)
    ·(have := hf.1; have := hf.2.1; simp; try omega)
    ·(have := hf.1; have := hf.2.1; omega)
   simp; try omega
  intro b4
  try simp only [nrmT] at b4
  refine ⟨?_, ?_⟩
  ·intro b5
   try simp only [nrmT] at b5
   refine ⟨?_, ?_⟩
   ·intro b6
    try simp only [nrmT] at b6
    refine ⟨rfl, ?_, ?_, ?_, rfl, ?_, ?_, ?_, ?_, ?_, ?_⟩
    ·omega
    ·have := hf.2.1; omega
    ·have := hf.2.1; omega
    ·refine J0g code (J1 code c1 60) ([(-1), 99, 100, (-9223372036854775808)]) ?_ ?_ ?_
     ·exact hb
     ·exact J7 (Jf (by assumption)) (by omega)
     ·simp
    ·omega
    ·have q := (Jc hf (i := 0) (a := aa.toNat) (by omega) (by omega)).1
     omega
    ·have := hf.2.1; omega
    ·have q := (Jc hf (i := 0) (a := aa.toNat) (by omega) (by omega)).1
     omega
    refine ⟨U, (E.set 0 ((E.getD 0 []).set aa.toNat (([(-1), 99, 100, (-9223372036854775808)]).getD (J4 code (J1 code c1 60) (([(-1), 99, 100, (-9223372036854775808)]).length : Int)).toNat 0))), (J1 code (J1 code c1 60) (([(-1), 99, 100, (-9223372036854775808)]).length : Int)), ?_⟩
    refine ⟨?_, rfl, rfl, rfl, rfl, rfl, rfl, ?_, rfl⟩
    ·refine ⟨?_, ?_, ?_⟩
     ·exact J7 (Jf (Jf (by assumption))) (by omega)
     ·(have := hf.1; have := hf.2.1; omega)
     ·(have := hf.1; have := hf.2.1; simp; try omega)
    simp; try omega
   intro b7
   try simp only [nrmT] at b7
   refine ⟨U, E, (J1 code c1 60), ?_⟩
   refine ⟨?_, rfl, rfl, rfl, rfl, rfl, rfl, rfl, rfl⟩
   ·refine ⟨?_, ?_, ?_⟩
    ·exact J7 (Jf (by assumption)) (by omega)
    ·(have := hf.1; have := hf.2.1; omega)
    ·(have := hf.1; have := hf.2.1; omega)
  intro b8
  try simp only [nrmT] at b8
  refine ⟨?_, ?_⟩
  ·intro b9
   try simp only [nrmT] at b9
   refine ⟨rfl, rfl, ?_, ?_⟩
   ·have := hf.1; omega
   refine ⟨(U ++ [1]), E, (J1 code c1 60), ?_⟩
   refine ⟨?_, rfl, rfl, rfl, rfl, ?_, rfl, rfl, rfl⟩
   ·refine ⟨?_, ?_, ?_⟩
    ·exact J7 (Jf (by assumption)) (by omega)
    ·(have := hf.1; have := hf.2.1; simp; try omega)
    ·(have := hf.1; have := hf.2.1; omega)
   simp
  intro b10
  try simp only [nrmT] at b10
  refine ⟨?_, ?_⟩
  ·intro b11
   try simp only [nrmT] at b11
   refine ⟨?_, ?_⟩
   ·refine ⟨U, E, ?_⟩
    refine ⟨?_, rfl, rfl, rfl, rfl, rfl, rfl, rfl⟩
    ·refine ⟨?_, ?_⟩
     ·(have := hf.1; have := hf.2.1; omega)
     ·(have := hf.1; have := hf.2.1; omega)
   intro O1 D1 hJ
   obtain ⟨h1, h2⟩ := hJ
   refine ⟨?_, ?_⟩
   ·intro b12
    try simp only [nrmT] at b12
    refine ⟨rfl, rfl, ?_, rfl, rfl, rfl, by decide, ?_, ?_⟩
    ·refine J5n O1 ?_
     ·omega
    ·omega
    refine ⟨O1, (D1 ++ [O1]), ?_⟩
    refine ⟨?_, ?_, rfl, rfl, rfl, rfl, rfl, rfl, ?_⟩
    ·refine ⟨?_, ?_⟩
     ·(have := hf.1; have := hf.2.1; simp; try omega)
     ·assumption
    ·(simp only [J15] at *; simp at *; omega)
    simp
   intro b13
   try simp only [nrmT] at b13
   refine ⟨O1, D1, (J1 code c1 60), ?_⟩
   refine ⟨?_, rfl, rfl, rfl, rfl, rfl, rfl, rfl, rfl⟩
   ·refine ⟨?_, ?_, ?_⟩
    ·exact J7 (Jf (by assumption)) (by omega)
    ·(have := hf.1; have := hf.2.1; omega)
    ·assumption
  intro b14
  try simp only [nrmT] at b14
  refine ⟨?_, ?_⟩
  ·intro b15
   try simp only [nrmT] at b15
   refine ⟨[], [], (J1 code c1 60), ?_⟩
   refine ⟨?_, rfl, rfl, rfl, rfl, rfl, rfl⟩
   ·refine ⟨?_, ?_, ?_⟩
    ·exact J7 (Jf (by assumption)) (by omega)
    ·(have := hf.1; have := hf.2.1; simp; try omega)
    ·(have := hf.1; have := hf.2.1; simp; try omega)
  intro b16
  try simp only [nrmT] at b16
  refine ⟨U, E, (J1 code c1 60), ?_⟩
  refine ⟨?_, rfl, rfl, rfl, rfl, rfl, rfl, rfl, rfl⟩
  ·refine ⟨?_, ?_, ?_⟩
   ·exact J7 (Jf (by assumption)) (by omega)
   ·(have := hf.1; have := hf.2.1; omega)
   ·(have := hf.1; have := hf.2.1; omega)
theorem J1M (code : List Nat) (c : Cur) (U : ZI) (E : ZR) (hb : ∀ x9 ∈ code, x9 < 256) (hc : okC c 7000000) (hf : drF U E) : PKV Tryz.prog 232 76 (.sl (.bytes code)) [.int .i64 c.pos, .int .u64 c.seed] 3 U 3 24 E (JS code c U E) :=
  pkv_by (Q := fun u => J2I u code c U E) (by kernel_rfl) Tryz.func232 @Tryz.call232 (by kernel_rfl) J8v (fun u => J8r u code c U E) (by kernel_rfl) (fun u => J7S u code c U E hb hc hf) (fun u => by kernel_rfl)
theorem Jfi {α : Type} {l : List α} {i : Int} {d : α} (h0 : 0 ≤ i) (h : i < (l.length : Int)) : l.take i.toNat ++ [l.getD i.toNat d] = l.take (i + 1).toNat := (take_step h0 h).symm
abbrev J4z (U : ZI) (E : ZR) (i : Int) (O1 : ZI) (D1 : ZR) : Prop := (0 ≤ i) ∧ (i ≤ (E.length : Int)) ∧ (O1 = U) ∧ (D1 = E.take i.toNat)
abbrev J4J (U : ZI) (E : ZR) (i : Int) (O1 : ZI) (D1 : ZR) : Nat := (E.length - i).toNat
def JfB (f : FuncId) (ds : List D) : Orc := bif Nat.beq f 98 then J6e ds else .no
def Jfy (U : ZI) (E : ZR) : Ann := .two (.none) (.two (.none) (.two (.two (.none) (.loop (cut3 (fun (i : Int) (O1 : ZI) (D1 : ZR) => J4z U E i O1 D1) (fun (i : Int) (O1 : ZI) (D1 : ZR) => [(1, .ptr 1 0), (2, .ptr 2 0), (3, .ptr 3 0), (4, .d true (.int .i64 i))]) (fun (i : Int) (O1 : ZI) (D1 : ZR) => [(1, .box 27 [.d false (.sl (.ints U)), .d false (.sl (.rows E))]), (2, .box 27 [.d true (.nil), .d true (.nil)]), (1000001, .arr true 3 (.ints O1)), (1000002, .mat 3 24 D1 none), (3, .box 27 [.own 1000001 O1.length, .own 1000002 D1.length])])) (fun g => J4J U E g.1 g.2.1 g.2.2) (fun _ => .none))) (.none)))
def JbD (U : ZI) (E : ZR) : Prop :=
  (PC Tryz.prog 98 [.sl (.ints U)] (.one (.own 3 (.ints U)))) ∧ ((∃ i' : Int, ∃ O1' : ZI, ∃ D1' : ZR, (J4z U E i' O1' D1') ∧ ((0 : Int) = i') ∧ (U = U) ∧ (E = E) ∧ (U = O1') ∧ ((D1').length = 0) ∧ (U.length = O1'.length) ∧ ((0 : Nat) = D1'.length)) ∧ (∀ i : Int, ∀ O1 : ZI, ∀ D1 : ZR, (J4z U E i O1 D1) → (((decide (i < (E.length : Int))) = true → (true = true) ∧ ((0 : Int) ≤ i) ∧ ((i : Int) < E.length) ∧ (i.toNat < E.length) ∧ (PC Tryz.prog 98 [.sl (.ints (E.getD i.toNat []))] (.one (.own 3 (.ints (E.getD i.toNat []))))) ∧ ((E.getD i.toNat []).length = (E.getD i.toNat []).length) ∧ (D1.length = D1.length) ∧ ((1 : Nat) = 1) ∧ (0 < 1) ∧ ((D1.length + 1) * 24 ≤ 140737488355328) ∧ (I6 (i + 1)) ∧ (∃ i' : Int, ∃ O1' : ZI, ∃ D1' : ZR, (J4z U E i' O1' D1') ∧ (J4J U E i' O1' D1' < J4J U E i O1 D1) ∧ ((i + 1) = i') ∧ (U = U) ∧ (E = E) ∧ (O1 = O1') ∧ ((D1 ++ [(E.getD i.toNat [])]) = D1') ∧ (O1.length = O1'.length) ∧ ((D1.length + 1) = D1'.length))) ∧ ((decide (i < (E.length : Int))) = false → ((O1.length = O1.length) ∧ ((O1 : ZI) = U) ∧ (D1.length = D1.length) ∧ ((D1 : ZR) = E))))))
theorem JeC (U : ZI) (E : ZR) (hl : U.length ≤ 1048576) (hd : E.length ≤ 1048576) (hr : ∀ r ∈ E, r.length ≤ 1048576) (w_Open : (U.length : Int) ≤ 9223372036854775807) (w_Dist : (E.length : Int) ≤ 9223372036854775807) (v_Dist : ∀ x9 ∈ E, (x9.length : Int) ≤ 9223372036854775807) : JbD U E := by
  unfold JbD
  refine ⟨?_, ?_, ?_⟩
  ·refine J5n U ?_
   ·omega
  ·refine ⟨0, U, ([]), ?_⟩
   refine ⟨?_, rfl, rfl, rfl, rfl, ?_, rfl, rfl⟩
   ·refine ⟨?_, ?_, ?_, ?_⟩
    ·omega
    ·omega
    ·rfl
    ·simp
   rfl
  intro i O1 D1 hJ
  obtain ⟨h1, h2, h3, h4⟩ := hJ
  refine ⟨?_, ?_⟩
  ·intro b1
   try simp only [nrmT] at b1
   refine ⟨rfl, ?_, ?_, ?_, ?_, rfl, rfl, rfl, by decide, ?_, ?_, ?_⟩
   ·omega
   ·omega
   ·omega
   ·refine J5n (E.getD i.toNat []) ?_
    ·exact hr _ (getD_memI h1 (by omega))
   ·rw [h4, List.length_take]; omega
   ·omega
   refine ⟨(i + 1), O1, (D1 ++ [(E.getD i.toNat [])]), ?_⟩
   refine ⟨?_, ?_, rfl, rfl, rfl, rfl, rfl, rfl, ?_⟩
   ·refine ⟨?_, ?_, ?_, ?_⟩
    ·omega
    ·omega
    ·exact h3
    ·rw [h4]; exact Jfi h1 (by omega)
   ·(simp only [J4J]; omega)
   simp
  intro b2
  try simp only [nrmT] at b2
  refine ⟨rfl, ?_, rfl, ?_⟩
  ·exact h3
  rw [h4, take_all (by omega)]
theorem JeG (U : ZI) (E : ZR) (hl : U.length ≤ 1048576) (hd : E.length ≤ 1048576) (hr : ∀ r ∈ E, r.length ≤ 1048576) : PC Tryz.prog 224 [.agg [.sl (.ints U), .sl (.rows E)]] (.agg [.own 3 (.ints U), .mat 3 24 E]) :=
  pc_wf @Tryz.call224 fun hw => pc_by (by kernel_rfl) Tryz.func224 @Tryz.call224 (by kernel_rfl) JfB (Jfy U E) (by kernel_rfl) (JeC U E hl hd hr hw.1.1 hw.1.2.1.1 hw.1.2.1.2) (by kernel_rfl)
def Je3 : List D → Orc := orcN [none] fun ds => match ds with
  | [.agg [.sl (.ints U), .sl (.rows E)]] => some (.agg [.own 3 (.ints U), .mat 3 24 E])
  | _ => none
/-- A way by two other lengths is shorter. -/
def J1q (D : ZR) (i j a b : Nat) : Bool := decide ((D.getD i []).getD a 0 > (D.getD i []).getD b 0 + (D.getD j []).getD b 0 + (D.getD j []).getD a 0)
def J8f (n : Nat) (D : ZR) (i j a : Nat) : Bool := allTo (fun b => !J1q D i j a b) n
def J74 (n : Nat) (D : ZR) (i j : Nat) : Bool := allTo (J8f n D i j) n
def J6h (n : Nat) (D : ZR) (i : Nat) : Bool := allTo (J74 n D i) D.length
def Jt (n : Nat) (D : ZR) : Bool := allTo (J6h n D) D.length
def tot (D : ZR) : Int := (D.map fun r => J3q (fun y => y) r).sum
theorem J5A (r : ZI) (D : ZR) : tot (r :: D) = J3q (fun y => y) r + tot D := rfl
theorem Jdk : ∀ {l : ZI} {k : Nat} {v : Int}, k < l.length → J3q (fun y => y) (l.set k v) = J3q (fun y => y) l - l.getD k 0 + v
  | x :: r, 0, v, _ => by rw [List.set_cons_zero, J1w, J1w, List.getD_cons_zero]; omega
  | x :: r, k + 1, v, h => by
    rw [List.set_cons_succ, J1w, J1w, List.getD_cons_succ, Jdk (by simpa using h)]; omega
theorem Jej : ∀ {D : ZR} {i : Nat} {r : ZI}, i < D.length → tot (D.set i r) = tot D - J3q (fun y => y) (D.getD i []) + J3q (fun y => y) r
  | x :: D, 0, r, _ => by rw [List.set_cons_zero, J5A, J5A, List.getD_cons_zero]; omega
  | x :: D, k + 1, r, h => by
    rw [List.set_cons_succ, J5A, J5A, List.getD_cons_succ, Jej (by simpa using h)]; omega
theorem Jex {D : ZR} (h : ∀ r ∈ D, ∀ x ∈ r, 0 ≤ x) : 0 ≤ tot D := by
  induction D with
  | nil => exact Int.le_refl _
  | cons r D ih =>
    rw [J5A]
    have h1 := JdM (f := fun y => y) (h r List.mem_cons_self)
    have h2 := ih fun r' hr => h r' (List.mem_cons_of_mem _ hr)
    omega
/-- A round under way: nothing was changed and nothing was found, or the sum fell. -/
def Clo (D0 D : ZR) (c : Bool) : Prop := (D = D0 ∧ c = true) ∨ tot D < tot D0
theorem Jdr {O : ZI} {D0 D : ZR} (hf : drF O D) {i j a b : Nat} (hi : i < D.length) (hj : j < D.length) (ha : a < O.length) (hb : b < O.length) {c : Bool} (h : Clo D0 D (c && allTo (fun b => !J1q D0 i j a b) b)) :
    drF O (D.set i ((D.getD i []).set a (min ((D.getD i []).getD a 0) ((D.getD i []).getD b 0 + (D.getD j []).getD b 0 + (D.getD j []).getD a 0)))) ∧
    Clo D0 (D.set i ((D.getD i []).set a (min ((D.getD i []).getD a 0) ((D.getD i []).getD b 0 + (D.getD j []).getD b 0 + (D.getD j []).getD a 0)))) (c && allTo (fun b => !J1q D0 i j a b) (b + 1)) := by
  have e1 := Jc hf hi ha
  have e2 := Jc hf hi hb
  have e3 := Jc hf hj hb
  have e4 := Jc hf hj ha
  refine ⟨Jep hf hi (by omega), ?_⟩
  have ht := Jej (D := D) (i := i) (r := (D.getD i []).set a (min ((D.getD i []).getD a 0) ((D.getD i []).getD b 0 + (D.getD j []).getD b 0 + (D.getD j []).getD a 0))) hi
  rw [Jdk (by omega)] at ht
  rcases h with ⟨rfl, hc⟩ | h
  · by_cases hx : (D.getD i []).getD a 0 ≤ (D.getD i []).getD b 0 + (D.getD j []).getD b 0 + (D.getD j []).getD a 0
    · left
      refine ⟨?_, ?_⟩
      · rw [Int.min_eq_left hx]
        have h1 : (D.getD i []).set a ((D.getD i []).getD a 0) = D.getD i [] := by
          rw [Ja (show a < (D.getD i []).length by omega)]; exact List.set_getElem_self _
        rw [h1, Ja hi]; exact List.set_getElem_self _
      rw [Bool.and_eq_true] at hc ⊢
      refine ⟨hc.1, ?_⟩
      have e : allTo (fun b => !J1q D i j a b) (b + 1) = (allTo (fun b => !J1q D i j a b) b && !J1q D i j a b) := rfl
      rw [e, hc.2, Bool.true_and]
      unfold J1q
      rw [decide_eq_false (by omega)]; rfl
    · right
      rw [Int.min_eq_right (by omega)] at ht ⊢
      omega
  right
  omega
theorem JgD {D0 D : ZR} {n : Nat} (h : Clo D0 D (allTo (J6h n D0) D0.length)) (hm : Jt n D0 = false) : tot D < tot D0 := by
  rcases h with ⟨_, h⟩ | h
  · unfold Jt at hm
    rw [hm] at h; cases h
  exact h
theorem J4o {D0 D : ZR} {c c' : Bool} (h : Clo D0 D c) (hc : c = true → c' = true) : Clo D0 D c' := by
  rcases h with ⟨h1, h2⟩ | h
  · exact .inl ⟨h1, hc h2⟩
  exact .inr h
abbrev J2y (U : ZI) (E : ZR) (i : Int) : Prop := (0 ≤ i) ∧ (i ≤ (E.length : Int)) ∧ (allTo (J6h U.length E) i.toNat = true)
abbrev J2g (U : ZI) (E : ZR) (i : Int) : Nat := (E.length - i).toNat
abbrev J2l (U : ZI) (E : ZR) (i : Int) (j : Int) : Prop := (0 ≤ j) ∧ (j ≤ (E.length : Int)) ∧ (allTo (J74 U.length E i.toNat) j.toNat = true)
abbrev J2u (U : ZI) (E : ZR) (i : Int) (j : Int) : Nat := (E.length - j).toNat
abbrev J2C (U : ZI) (E : ZR) (i : Int) (j : Int) (a : Int) : Prop := (0 ≤ a) ∧ (a ≤ (U.length : Int)) ∧ (allTo (J8f U.length E i.toNat j.toNat) a.toNat = true)
abbrev J2s (U : ZI) (E : ZR) (i : Int) (j : Int) (a : Int) : Nat := (U.length - a).toNat
abbrev J2w (U : ZI) (E : ZR) (i : Int) (j : Int) (a : Int) (b : Int) : Prop := (0 ≤ b) ∧ (b ≤ (U.length : Int)) ∧ (allTo (fun b => !J1q E i.toNat j.toNat a.toNat b) b.toNat = true)
abbrev J2D (U : ZI) (E : ZR) (i : Int) (j : Int) (a : Int) (b : Int) : Nat := (U.length - b).toNat
def Jdx (f : FuncId) (ds : List D) : Orc := .no
def Jdn (U : ZI) (E : ZR) : Ann := .two (.none) (.two (.two (.none) (.loop (cut1 (fun (i : Int) => J2y U E i) (fun (i : Int) => [(1, .ptr 1 0), (3, .d true (.int .i64 i))]) (fun (i : Int) => [(1, .box 27 [.d false (.sl (.ints U)), .d false (.sl (.rows E))])])) (fun g => J2g U E g) (fun g => (fun (i : Int) => .two (.none) (.two (.two (.none) (.loop (cut1 (fun (j : Int) => J2l U E i j) (fun (j : Int) => [(1, .ptr 1 0), (3, .d true (.int .i64 i)), (4, .d true (.int .i64 j))]) (fun (j : Int) => [(1, .box 27 [.d false (.sl (.ints U)), .d false (.sl (.rows E))])])) (fun g => J2u U E i g) (fun g => (fun (j : Int) => .two (.none) (.two (.two (.none) (.loop (cut1 (fun (a : Int) => J2C U E i j a) (fun (a : Int) => [(1, .ptr 1 0), (3, .d true (.int .i64 i)), (4, .d true (.int .i64 j)), (5, .d true (.int .i64 a))]) (fun (a : Int) => [(1, .box 27 [.d false (.sl (.ints U)), .d false (.sl (.rows E))])])) (fun g => J2s U E i j g) (fun g => (fun (a : Int) => .two (.none) (.two (.two (.none) (.loop (cut1 (fun (b : Int) => J2w U E i j a b) (fun (b : Int) => [(1, .ptr 1 0), (3, .d true (.int .i64 i)), (4, .d true (.int .i64 j)), (5, .d true (.int .i64 a)), (6, .d true (.int .i64 b))]) (fun (b : Int) => [(1, .box 27 [.d false (.sl (.ints U)), .d false (.sl (.rows E))])])) (fun g => J2D U E i j a g) (fun _ => .none))) (.none))) g))) (.none))) g))) (.none))) g))) (.none))
def J7W (U : ZI) (E : ZR) : Prop :=
  ((∃ i' : Int, (J2y U E i') ∧ ((0 : Int) = i') ∧ (U = U) ∧ (E = E)) ∧ (∀ i : Int, (J2y U E i) → (((decide (i < (E.length : Int))) = true → ((∃ j' : Int, (J2l U E i j') ∧ (i = i) ∧ ((0 : Int) = j') ∧ (U = U) ∧ (E = E)) ∧ (∀ j : Int, (J2l U E i j) → (((decide (j < (E.length : Int))) = true → ((∃ a' : Int, (J2C U E i j a') ∧ (i = i) ∧ (j = j) ∧ ((0 : Int) = a') ∧ (U = U) ∧ (E = E)) ∧ (∀ a : Int, (J2C U E i j a) → (((decide (a < (U.length : Int))) = true → ((∃ b' : Int, (J2w U E i j a b') ∧ (i = i) ∧ (j = j) ∧ (a = a) ∧ ((0 : Int) = b') ∧ (U = U) ∧ (E = E)) ∧ (∀ b : Int, (J2w U E i j a b) → (((decide (b < (U.length : Int))) = true → (true = true) ∧ ((0 : Int) ≤ i) ∧ ((i : Int) < E.length) ∧ (i.toNat < E.length) ∧ ((0 : Int) ≤ a) ∧ ((a : Int) < (E.getD i.toNat []).length) ∧ (a.toNat < (E.getD i.toNat []).length) ∧ ((0 : Int) ≤ i) ∧ ((i : Int) < E.length) ∧ (i.toNat < E.length) ∧ ((0 : Int) ≤ b) ∧ ((b : Int) < (E.getD i.toNat []).length) ∧ (b.toNat < (E.getD i.toNat []).length) ∧ ((0 : Int) ≤ j) ∧ ((j : Int) < E.length) ∧ (j.toNat < E.length) ∧ ((0 : Int) ≤ b) ∧ ((b : Int) < (E.getD j.toNat []).length) ∧ (b.toNat < (E.getD j.toNat []).length) ∧ (I6 (((E.getD i.toNat []).getD b.toNat 0) + ((E.getD j.toNat []).getD b.toNat 0))) ∧ ((0 : Int) ≤ j) ∧ ((j : Int) < E.length) ∧ (j.toNat < E.length) ∧ ((0 : Int) ≤ a) ∧ ((a : Int) < (E.getD j.toNat []).length) ∧ (a.toNat < (E.getD j.toNat []).length) ∧ (I6 ((((E.getD i.toNat []).getD b.toNat 0) + ((E.getD j.toNat []).getD b.toNat 0)) + ((E.getD j.toNat []).getD a.toNat 0))) ∧ (((decide (((E.getD i.toNat []).getD a.toNat 0) > ((((E.getD i.toNat []).getD b.toNat 0) + ((E.getD j.toNat []).getD b.toNat 0)) + ((E.getD j.toNat []).getD a.toNat 0)))) = true → ((false = (Jt U.length E)))) ∧ ((decide (((E.getD i.toNat []).getD a.toNat 0) > ((((E.getD i.toNat []).getD b.toNat 0) + ((E.getD j.toNat []).getD b.toNat 0)) + ((E.getD j.toNat []).getD a.toNat 0)))) = false → (I6 (b + 1)) ∧ (∃ b' : Int, (J2w U E i j a b') ∧ (J2D U E i j a b' < J2D U E i j a b) ∧ (i = i) ∧ (j = j) ∧ (a = a) ∧ ((b + 1) = b') ∧ (U = U) ∧ (E = E))))) ∧ ((decide (b < (U.length : Int))) = false → (I6 (a + 1)) ∧ (∃ a' : Int, (J2C U E i j a') ∧ (J2s U E i j a' < J2s U E i j a) ∧ (i = i) ∧ (j = j) ∧ ((a + 1) = a') ∧ (U = U) ∧ (E = E))))))) ∧ ((decide (a < (U.length : Int))) = false → (I6 (j + 1)) ∧ (∃ j' : Int, (J2l U E i j') ∧ (J2u U E i j' < J2u U E i j) ∧ (i = i) ∧ ((j + 1) = j') ∧ (U = U) ∧ (E = E))))))) ∧ ((decide (j < (E.length : Int))) = false → (I6 (i + 1)) ∧ (∃ i' : Int, (J2y U E i') ∧ (J2g U E i' < J2g U E i) ∧ ((i + 1) = i') ∧ (U = U) ∧ (E = E))))))) ∧ ((decide (i < (E.length : Int))) = false → ((true = (Jt U.length E)))))))
theorem Jci (U : ZI) (E : ZR) (hm : ∀ i a : Nat, i < E.length → a < U.length → a < (E.getD i []).length ∧ 0 ≤ (E.getD i []).getD a 0 ∧ (E.getD i []).getD a 0 ≤ 99) (w_Open : (U.length : Int) ≤ 9223372036854775807) (w_Dist : (E.length : Int) ≤ 9223372036854775807) (v_Dist : ∀ x9 ∈ E, (x9.length : Int) ≤ 9223372036854775807) : J7W U E := by
  unfold J7W
  refine ⟨?_, ?_⟩
  ·refine ⟨0, ?_⟩
   refine ⟨?_, rfl, rfl, rfl⟩
   ·refine ⟨?_, ?_, ?_⟩
    ·omega
    ·omega
    ·rfl
  intro i hJ
  obtain ⟨h1, h2, h3⟩ := hJ
  refine ⟨?_, ?_⟩
  ·intro b1
   try simp only [nrmT] at b1
   refine ⟨?_, ?_⟩
   ·refine ⟨0, ?_⟩
    refine ⟨?_, rfl, rfl, rfl, rfl⟩
    ·refine ⟨?_, ?_, ?_⟩
     ·omega
     ·omega
     ·rfl
   intro j hJ
   obtain ⟨h4, h5, h6⟩ := hJ
   refine ⟨?_, ?_⟩
   ·intro b2
    try simp only [nrmT] at b2
    refine ⟨?_, ?_⟩
    ·refine ⟨0, ?_⟩
     refine ⟨?_, rfl, rfl, rfl, rfl, rfl⟩
     ·refine ⟨?_, ?_, ?_⟩
      ·omega
      ·omega
      ·rfl
    intro a hJ
    obtain ⟨h7, h8, h9⟩ := hJ
    refine ⟨?_, ?_⟩
    ·intro b3
     try simp only [nrmT] at b3
     refine ⟨?_, ?_⟩
     ·refine ⟨0, ?_⟩
      refine ⟨?_, rfl, rfl, rfl, rfl, rfl, rfl⟩
      ·refine ⟨?_, ?_, ?_⟩
       ·omega
       ·omega
       ·rfl
     intro b hJ
     obtain ⟨k1, k2, k3⟩ := hJ
     refine ⟨?_, ?_⟩
     ·intro b4
      try simp only [nrmT] at b4
      refine ⟨rfl, ?_, ?_, ?_, ?_, ?_, ?_, ?_, ?_, ?_, ?_, ?_, ?_, ?_, ?_, ?_, ?_, ?_, ?_, ?_, ?_, ?_, ?_, ?_, ?_, ?_, ?_, ?_, ?_⟩
      ·omega
      ·omega
      ·omega
      ·omega
      ·have q1 := hm i.toNat a.toNat (by omega) (by omega)
       have q2 := hm i.toNat b.toNat (by omega) (by omega)
       have q3 := hm j.toNat b.toNat (by omega) (by omega)
       have q4 := hm j.toNat a.toNat (by omega) (by omega)
       omega
      ·have q1 := hm i.toNat a.toNat (by omega) (by omega)
       have q2 := hm i.toNat b.toNat (by omega) (by omega)
       have q3 := hm j.toNat b.toNat (by omega) (by omega)
       have q4 := hm j.toNat a.toNat (by omega) (by omega)
       omega
      ·omega
      ·omega
      ·omega
      ·omega
      ·have q1 := hm i.toNat a.toNat (by omega) (by omega)
       have q2 := hm i.toNat b.toNat (by omega) (by omega)
       have q3 := hm j.toNat b.toNat (by omega) (by omega)
       have q4 := hm j.toNat a.toNat (by omega) (by omega)
       omega
      ·have q1 := hm i.toNat a.toNat (by omega) (by omega)
       have q2 := hm i.toNat b.toNat (by omega) (by omega)
       have q3 := hm j.toNat b.toNat (by omega) (by omega)
       have q4 := hm j.toNat a.toNat (by omega) (by omega)
       omega
      ·omega
      ·omega
      ·omega
      ·omega
      ·have q1 := hm i.toNat a.toNat (by omega) (by omega)
       have q2 := hm i.toNat b.toNat (by omega) (by omega)
       have q3 := hm j.toNat b.toNat (by omega) (by omega)
       have q4 := hm j.toNat a.toNat (by omega) (by omega)
       omega
      ·have q1 := hm i.toNat a.toNat (by omega) (by omega)
       have q2 := hm i.toNat b.toNat (by omega) (by omega)
       have q3 := hm j.toNat b.toNat (by omega) (by omega)
       have q4 := hm j.toNat a.toNat (by omega) (by omega)
       omega
      ·have q1 := hm i.toNat a.toNat (by omega) (by omega)
       have q2 := hm i.toNat b.toNat (by omega) (by omega)
       have q3 := hm j.toNat b.toNat (by omega) (by omega)
       have q4 := hm j.toNat a.toNat (by omega) (by omega)
       omega
      ·omega
      ·omega
      ·omega
      ·omega
      ·have q1 := hm i.toNat a.toNat (by omega) (by omega)
       have q2 := hm i.toNat b.toNat (by omega) (by omega)
       have q3 := hm j.toNat b.toNat (by omega) (by omega)
       have q4 := hm j.toNat a.toNat (by omega) (by omega)
       omega
      ·have q1 := hm i.toNat a.toNat (by omega) (by omega)
       have q2 := hm i.toNat b.toNat (by omega) (by omega)
       have q3 := hm j.toNat b.toNat (by omega) (by omega)
       have q4 := hm j.toNat a.toNat (by omega) (by omega)
       omega
      ·have q1 := hm i.toNat a.toNat (by omega) (by omega)
       have q2 := hm i.toNat b.toNat (by omega) (by omega)
       have q3 := hm j.toNat b.toNat (by omega) (by omega)
       have q4 := hm j.toNat a.toNat (by omega) (by omega)
       omega
      ·intro b5
       try simp only [nrmT] at b5
       have e1 : J8f U.length E i.toNat j.toNat a.toNat = false := allTo_falseI k1 (by omega) (by unfold J1q; rw [decide_eq_true (by omega)]; rfl)
       have e2 : J74 U.length E i.toNat j.toNat = false := allTo_falseI h7 (by omega) e1
       have e3 : J6h U.length E i.toNat = false := allTo_falseI h4 (by omega) e2
       exact (show Jt U.length E = false from allTo_falseI h1 (by omega) e3).symm
      intro b6
      try simp only [nrmT] at b6
      refine ⟨?_, ?_⟩
      ·omega
      refine ⟨(b + 1), ?_⟩
      refine ⟨?_, ?_, rfl, rfl, rfl, rfl, rfl, rfl⟩
      ·refine ⟨?_, ?_, ?_⟩
       ·omega
       ·omega
       ·refine allTo_step k1 k3 ?_
        unfold J1q
        rw [decide_eq_false (by omega)]; rfl
      (simp only [J2D]; omega)
     intro b7
     try simp only [nrmT] at b7
     refine ⟨?_, ?_⟩
     ·omega
     refine ⟨(a + 1), ?_⟩
     refine ⟨?_, ?_, rfl, rfl, rfl, rfl, rfl⟩
     ·refine ⟨?_, ?_, ?_⟩
      ·omega
      ·omega
      ·refine allTo_step h7 h9 ?_
       show allTo _ U.length = true
       rw [← k3]; congr 1; omega
     (simp only [J2s]; omega)
    intro b8
    try simp only [nrmT] at b8
    refine ⟨?_, ?_⟩
    ·omega
    refine ⟨(j + 1), ?_⟩
    refine ⟨?_, ?_, rfl, rfl, rfl, rfl⟩
    ·refine ⟨?_, ?_, ?_⟩
     ·omega
     ·omega
     ·refine allTo_step h4 h6 ?_
      show allTo _ U.length = true
      rw [← h9]; congr 1; omega
    (simp only [J2u]; omega)
   intro b9
   try simp only [nrmT] at b9
   refine ⟨?_, ?_⟩
   ·omega
   refine ⟨(i + 1), ?_⟩
   refine ⟨?_, ?_, rfl, rfl, rfl⟩
   ·refine ⟨?_, ?_, ?_⟩
    ·omega
    ·omega
    ·refine allTo_step h1 h3 ?_
     show allTo _ E.length = true
     rw [← h6]; congr 1; omega
   (simp only [J2g]; omega)
  intro b10
  try simp only [nrmT] at b10
  unfold Jt
  rw [← h3]; congr 1; omega
theorem JcD (U : ZI) (E : ZR) (hm : ∀ i a : Nat, i < E.length → a < U.length → a < (E.getD i []).length ∧ 0 ≤ (E.getD i []).getD a 0 ∧ (E.getD i []).getD a 0 ≤ 99) : PC Tryz.prog 225 [.agg [.sl (.ints U), .sl (.rows E)]] (.one (.d (.bool (Jt U.length E)))) :=
  pc_wf @Tryz.call225 fun hw => pc_by (by kernel_rfl) Tryz.func225 @Tryz.call225 (by kernel_rfl) Jdx (Jdn U E) (by kernel_rfl) (Jci U E hm hw.1.1 hw.1.2.1.1 hw.1.2.1.2) (by kernel_rfl)
def Jb8 : List D → Orc := orcN [none] fun ds => match ds with
  | [.agg [.sl (.ints U), .sl (.rows E)]] => some (.one (.d (.bool (Jt U.length E))))
  | _ => none
abbrev J19 (U : ZI) (E : ZR) (O1 : ZI) (D1 : ZR) : Prop := (drF O1 D1)
abbrev J55 (U : ZI) (E : ZR) (O1 : ZI) (D1 : ZR) : Nat := (tot D1).toNat
abbrev J33 (U : ZI) (E : ZR) (O1 : ZI) (D1 : ZR) (i : Int) (O2 : ZI) (D2 : ZR) : Prop := (O2 = O1) ∧ (0 ≤ i) ∧ (i ≤ (D2.length : Int)) ∧ (drF O1 D2) ∧ (D2.length = D1.length) ∧ (Clo D1 D2 (allTo (J6h O1.length D1) i.toNat))
abbrev J3g (U : ZI) (E : ZR) (O1 : ZI) (D1 : ZR) (i : Int) (O2 : ZI) (D2 : ZR) : Nat := (D2.length - i).toNat
abbrev J3f (U : ZI) (E : ZR) (O1 : ZI) (D1 : ZR) (i : Int) (O2 : ZI) (D2 : ZR) (j : Int) (O3 : ZI) (D3 : ZR) : Prop := (O3 = O1) ∧ (0 ≤ j) ∧ (j ≤ (D3.length : Int)) ∧ (drF O1 D3) ∧ (D3.length = D1.length) ∧ (Clo D1 D3 (allTo (J6h O1.length D1) i.toNat && allTo (J74 O1.length D1 i.toNat) j.toNat))
abbrev J3b (U : ZI) (E : ZR) (O1 : ZI) (D1 : ZR) (i : Int) (O2 : ZI) (D2 : ZR) (j : Int) (O3 : ZI) (D3 : ZR) : Nat := (D3.length - j).toNat
abbrev J35 (U : ZI) (E : ZR) (O1 : ZI) (D1 : ZR) (i : Int) (O2 : ZI) (D2 : ZR) (j : Int) (O3 : ZI) (D3 : ZR) (a : Int) (O4 : ZI) (D4 : ZR) : Prop := (O4 = O1) ∧ (0 ≤ a) ∧ (a ≤ (O1.length : Int)) ∧ (drF O1 D4) ∧ (D4.length = D1.length) ∧ (Clo D1 D4 (allTo (J6h O1.length D1) i.toNat && allTo (J74 O1.length D1 i.toNat) j.toNat && allTo (J8f O1.length D1 i.toNat j.toNat) a.toNat))
abbrev J37 (U : ZI) (E : ZR) (O1 : ZI) (D1 : ZR) (i : Int) (O2 : ZI) (D2 : ZR) (j : Int) (O3 : ZI) (D3 : ZR) (a : Int) (O4 : ZI) (D4 : ZR) : Nat := (O1.length - a).toNat
abbrev J3e (U : ZI) (E : ZR) (O1 : ZI) (D1 : ZR) (i : Int) (O2 : ZI) (D2 : ZR) (j : Int) (O3 : ZI) (D3 : ZR) (a : Int) (O4 : ZI) (D4 : ZR) (b : Int) (D5 : ZR) : Prop := (0 ≤ b) ∧ (b ≤ (O1.length : Int)) ∧ (drF O1 D5) ∧ (D5.length = D1.length) ∧ (Clo D1 D5 (allTo (J6h O1.length D1) i.toNat && allTo (J74 O1.length D1 i.toNat) j.toNat && allTo (J8f O1.length D1 i.toNat j.toNat) a.toNat && allTo (fun b => !J1q D1 i.toNat j.toNat a.toNat b) b.toNat))
abbrev J36 (U : ZI) (E : ZR) (O1 : ZI) (D1 : ZR) (i : Int) (O2 : ZI) (D2 : ZR) (j : Int) (O3 : ZI) (D3 : ZR) (a : Int) (O4 : ZI) (D4 : ZR) (b : Int) (D5 : ZR) : Nat := (O1.length - b).toNat
abbrev J2Q (U : ZI) (E : ZR) (O : ZI) (D : ZR) : Prop := (drF O D)
def J2P (U : ZI) (E : ZR) : Ex := ex2 0 (fun (O : ZI) (D : ZR) => J2Q U E O D) (fun (O : ZI) (D : ZR) => []) (fun (O : ZI) (D : ZR) => .agg [.own 3 (.ints O), .mat 3 24 D])
def JdZ (f : FuncId) (ds : List D) : Orc := bif Nat.beq f 224 then Je3 ds else bif Nat.beq f 225 then Jb8 ds else bif Nat.beq f 161 then J3h ds else .no
def JdG (U : ZI) (E : ZR) : Ann := .two (.none) (.two (.none) (.two (.loop (cut2 (fun (O1 : ZI) (D1 : ZR) => J19 U E O1 D1) (fun (O1 : ZI) (D1 : ZR) => [(2, .ptr 2 0), (3, .ptr 3 0)]) (fun (O1 : ZI) (D1 : ZR) => [(2, .box 27 [.d true (.nil), .d true (.nil)]), (1000000, .arr true 3 (.ints O1)), (1000001, .mat 3 24 D1 none), (3, .box 27 [.own 1000000 O1.length, .own 1000001 D1.length])])) (fun g => J55 U E g.1 g.2) (fun g => (fun (O1 : ZI) (D1 : ZR) => .two (.none) (.two (.none) (.loop (cut3 (fun (i : Int) (O2 : ZI) (D2 : ZR) => J33 U E O1 D1 i O2 D2) (fun (i : Int) (O2 : ZI) (D2 : ZR) => [(2, .ptr 2 0), (3, .ptr 3 0), (4, .d true (.int .i64 i))]) (fun (i : Int) (O2 : ZI) (D2 : ZR) => [(2, .box 27 [.d true (.nil), .d true (.nil)]), (1000101, .arr true 3 (.ints O2)), (1000102, .mat 3 24 D2 none), (3, .box 27 [.own 1000101 O2.length, .own 1000102 D2.length])])) (fun g => J3g U E O1 D1 g.1 g.2.1 g.2.2) (fun g => (fun (i : Int) (O2 : ZI) (D2 : ZR) => .two (.none) (.two (.two (.none) (.loop (cut3 (fun (j : Int) (O3 : ZI) (D3 : ZR) => J3f U E O1 D1 i O2 D2 j O3 D3) (fun (j : Int) (O3 : ZI) (D3 : ZR) => [(2, .ptr 2 0), (3, .ptr 3 0), (4, .d true (.int .i64 i)), (5, .d true (.int .i64 j))]) (fun (j : Int) (O3 : ZI) (D3 : ZR) => [(2, .box 27 [.d true (.nil), .d true (.nil)]), (1000201, .arr true 3 (.ints O3)), (1000202, .mat 3 24 D3 none), (3, .box 27 [.own 1000201 O3.length, .own 1000202 D3.length])])) (fun g => J3b U E O1 D1 i O2 D2 g.1 g.2.1 g.2.2) (fun g => (fun (j : Int) (O3 : ZI) (D3 : ZR) => .two (.none) (.two (.two (.none) (.loop (cut3 (fun (a : Int) (O4 : ZI) (D4 : ZR) => J35 U E O1 D1 i O2 D2 j O3 D3 a O4 D4) (fun (a : Int) (O4 : ZI) (D4 : ZR) => [(2, .ptr 2 0), (3, .ptr 3 0), (4, .d true (.int .i64 i)), (5, .d true (.int .i64 j)), (6, .d true (.int .i64 a))]) (fun (a : Int) (O4 : ZI) (D4 : ZR) => [(2, .box 27 [.d true (.nil), .d true (.nil)]), (1000301, .arr true 3 (.ints O4)), (1000302, .mat 3 24 D4 none), (3, .box 27 [.own 1000301 O4.length, .own 1000302 D4.length])])) (fun g => J37 U E O1 D1 i O2 D2 j O3 D3 g.1 g.2.1 g.2.2) (fun g => (fun (a : Int) (O4 : ZI) (D4 : ZR) => .two (.none) (.two (.two (.none) (.loop (cut2 (fun (b : Int) (D5 : ZR) => J3e U E O1 D1 i O2 D2 j O3 D3 a O4 D4 b D5) (fun (b : Int) (D5 : ZR) => [(2, .ptr 2 0), (3, .ptr 3 0), (4, .d true (.int .i64 i)), (5, .d true (.int .i64 j)), (6, .d true (.int .i64 a)), (7, .d true (.int .i64 b))]) (fun (b : Int) (D5 : ZR) => [(2, .box 27 [.d true (.nil), .d true (.nil)]), (1000401, .mat 3 24 D5 none), (3, .box 27 [.own 1000301 O4.length, .own 1000401 D5.length]), (1000301, .arr true 3 (.ints O4))])) (fun g => J36 U E O1 D1 i O2 D2 j O3 D3 a O4 D4 g.1 g.2) (fun _ => .none))) (.none))) (g.1) (g.2.1) (g.2.2)))) (.none))) (g.1) (g.2.1) (g.2.2)))) (.none))) (g.1) (g.2.1) (g.2.2))))) (g.1) (g.2))) (.none)))
def J9a (U : ZI) (E : ZR) : Prop :=
  (PC Tryz.prog 224 [.agg [.sl (.ints U), .sl (.rows E)]] (.agg [.own 3 (.ints U), .mat 3 24 E])) ∧ ((∃ O1' : ZI, ∃ D1' : ZR, (J19 U E O1' D1') ∧ (U = O1') ∧ (E = D1') ∧ (U.length = O1'.length) ∧ (E.length = D1'.length)) ∧ (∀ O1 : ZI, ∀ D1 : ZR, (J19 U E O1 D1) → (O1.length = O1.length) ∧ (D1.length = D1.length) ∧ (PC Tryz.prog 225 [.agg [.sl (.ints O1), .sl (.rows D1)]] (.one (.d (.bool (Jt O1.length D1))))) ∧ (((!(Jt O1.length D1)) = true → ((∃ i' : Int, ∃ O2' : ZI, ∃ D2' : ZR, (J33 U E O1 D1 i' O2' D2') ∧ ((0 : Int) = i') ∧ (O1 = O2') ∧ (D1 = D2') ∧ (O1.length = O2'.length) ∧ (D1.length = D2'.length)) ∧ (∀ i : Int, ∀ O2 : ZI, ∀ D2 : ZR, (J33 U E O1 D1 i O2 D2) → (((decide (i < (D2.length : Int))) = true → ((∃ j' : Int, ∃ O3' : ZI, ∃ D3' : ZR, (J3f U E O1 D1 i O2 D2 j' O3' D3') ∧ (i = i) ∧ ((0 : Int) = j') ∧ (O2 = O3') ∧ (D2 = D3') ∧ (O2.length = O3'.length) ∧ (D2.length = D3'.length)) ∧ (∀ j : Int, ∀ O3 : ZI, ∀ D3 : ZR, (J3f U E O1 D1 i O2 D2 j O3 D3) → (((decide (j < (D3.length : Int))) = true → ((∃ a' : Int, ∃ O4' : ZI, ∃ D4' : ZR, (J35 U E O1 D1 i O2 D2 j O3 D3 a' O4' D4') ∧ (i = i) ∧ (j = j) ∧ ((0 : Int) = a') ∧ (O3 = O4') ∧ (D3 = D4') ∧ (O3.length = O4'.length) ∧ (D3.length = D4'.length)) ∧ (∀ a : Int, ∀ O4 : ZI, ∀ D4 : ZR, (J35 U E O1 D1 i O2 D2 j O3 D3 a O4 D4) → (((decide (a < (O4.length : Int))) = true → ((∃ b' : Int, ∃ D5' : ZR, (J3e U E O1 D1 i O2 D2 j O3 D3 a O4 D4 b' D5') ∧ (i = i) ∧ (j = j) ∧ (a = a) ∧ ((0 : Int) = b') ∧ (D4 = D5') ∧ (O4.length = O4.length) ∧ (D4.length = D5'.length) ∧ (O4 = O4)) ∧ (∀ b : Int, ∀ D5 : ZR, (J3e U E O1 D1 i O2 D2 j O3 D3 a O4 D4 b D5) → (((decide (b < (O4.length : Int))) = true → (true = true) ∧ ((0 : Int) ≤ i) ∧ ((i : Int) < (D5.length : Int)) ∧ (i.toNat < D5.length) ∧ ((0 : Int) ≤ i) ∧ ((i : Int) < (D5.length : Int)) ∧ (i.toNat < D5.length) ∧ ((0 : Int) ≤ a) ∧ ((a : Int) < (((D5.getD i.toNat []).length) : Int)) ∧ (i.toNat < D5.length) ∧ (a.toNat < (D5.getD i.toNat []).length) ∧ ((0 : Int) ≤ i) ∧ ((i : Int) < (D5.length : Int)) ∧ (i.toNat < D5.length) ∧ ((0 : Int) ≤ b) ∧ ((b : Int) < (((D5.getD i.toNat []).length) : Int)) ∧ (i.toNat < D5.length) ∧ (b.toNat < (D5.getD i.toNat []).length) ∧ ((0 : Int) ≤ j) ∧ ((j : Int) < (D5.length : Int)) ∧ (j.toNat < D5.length) ∧ ((0 : Int) ≤ b) ∧ ((b : Int) < (((D5.getD j.toNat []).length) : Int)) ∧ (j.toNat < D5.length) ∧ (b.toNat < (D5.getD j.toNat []).length) ∧ (I6 (((D5.getD i.toNat []).getD b.toNat 0) + ((D5.getD j.toNat []).getD b.toNat 0))) ∧ ((0 : Int) ≤ j) ∧ ((j : Int) < (D5.length : Int)) ∧ (j.toNat < D5.length) ∧ ((0 : Int) ≤ a) ∧ ((a : Int) < (((D5.getD j.toNat []).length) : Int)) ∧ (j.toNat < D5.length) ∧ (a.toNat < (D5.getD j.toNat []).length) ∧ (I6 ((((D5.getD i.toNat []).getD b.toNat 0) + ((D5.getD j.toNat []).getD b.toNat 0)) + ((D5.getD j.toNat []).getD a.toNat 0))) ∧ (PC Tryz.prog 161 [.int .i64 ((D5.getD i.toNat []).getD a.toNat 0), .int .i64 ((((D5.getD i.toNat []).getD b.toNat 0) + ((D5.getD j.toNat []).getD b.toNat 0)) + ((D5.getD j.toNat []).getD a.toNat 0))] (.one (.d (.int .i64 (min ((D5.getD i.toNat []).getD a.toNat 0) ((((D5.getD i.toNat []).getD b.toNat 0) + ((D5.getD j.toNat []).getD b.toNat 0)) + ((D5.getD j.toNat []).getD a.toNat 0))))))) ∧ ((0 : Int) ≤ a) ∧ ((a : Int) < (((D5.getD i.toNat []).length) : Int)) ∧ (i.toNat < D5.length) ∧ (a.toNat < (D5.getD i.toNat []).length) ∧ (I6 (b + 1)) ∧ (∃ b' : Int, ∃ D5' : ZR, (J3e U E O1 D1 i O2 D2 j O3 D3 a O4 D4 b' D5') ∧ (J36 U E O1 D1 i O2 D2 j O3 D3 a O4 D4 b' D5' < J36 U E O1 D1 i O2 D2 j O3 D3 a O4 D4 b D5) ∧ (i = i) ∧ (j = j) ∧ (a = a) ∧ ((b + 1) = b') ∧ ((D5.set i.toNat ((D5.getD i.toNat []).set a.toNat (min ((D5.getD i.toNat []).getD a.toNat 0) ((((D5.getD i.toNat []).getD b.toNat 0) + ((D5.getD j.toNat []).getD b.toNat 0)) + ((D5.getD j.toNat []).getD a.toNat 0))))) = D5') ∧ (O4.length = O4.length) ∧ (D5.length = D5'.length) ∧ (O4 = O4))) ∧ ((decide (b < (O4.length : Int))) = false → (I6 (a + 1)) ∧ (∃ a' : Int, ∃ O4' : ZI, ∃ D4' : ZR, (J35 U E O1 D1 i O2 D2 j O3 D3 a' O4' D4') ∧ (J37 U E O1 D1 i O2 D2 j O3 D3 a' O4' D4' < J37 U E O1 D1 i O2 D2 j O3 D3 a O4 D4) ∧ (i = i) ∧ (j = j) ∧ ((a + 1) = a') ∧ (O4 = O4') ∧ (D5 = D4') ∧ (O4.length = O4'.length) ∧ (D5.length = D4'.length))))))) ∧ ((decide (a < (O4.length : Int))) = false → (I6 (j + 1)) ∧ (∃ j' : Int, ∃ O3' : ZI, ∃ D3' : ZR, (J3f U E O1 D1 i O2 D2 j' O3' D3') ∧ (J3b U E O1 D1 i O2 D2 j' O3' D3' < J3b U E O1 D1 i O2 D2 j O3 D3) ∧ (i = i) ∧ ((j + 1) = j') ∧ (O4 = O3') ∧ (D4 = D3') ∧ (O4.length = O3'.length) ∧ (D4.length = D3'.length))))))) ∧ ((decide (j < (D3.length : Int))) = false → (I6 (i + 1)) ∧ (∃ i' : Int, ∃ O2' : ZI, ∃ D2' : ZR, (J33 U E O1 D1 i' O2' D2') ∧ (J3g U E O1 D1 i' O2' D2' < J3g U E O1 D1 i O2 D2) ∧ ((i + 1) = i') ∧ (O3 = O2') ∧ (D3 = D2') ∧ (O3.length = O2'.length) ∧ (D3.length = D2'.length))))))) ∧ ((decide (i < (D2.length : Int))) = false → (∃ O1' : ZI, ∃ D1' : ZR, (J19 U E O1' D1') ∧ (J55 U E O1' D1' < J55 U E O1 D1) ∧ (O2 = O1') ∧ (D2 = D1') ∧ (O2.length = O1'.length) ∧ (D2.length = D1'.length))))))) ∧ ((!(Jt O1.length D1)) = false → (∃ O' : ZI, ∃ D' : ZR, (J2Q U E O' D') ∧ (O1.length = O1.length) ∧ ((O1 : ZI) = O') ∧ (D1.length = D1.length) ∧ ((D1 : ZR) = D'))))))
theorem Jd0 (U : ZI) (E : ZR) (hf : drF U E) (w_Open : (U.length : Int) ≤ 9223372036854775807) (w_Dist : (E.length : Int) ≤ 9223372036854775807) (v_Dist : ∀ x9 ∈ E, (x9.length : Int) ≤ 9223372036854775807) : J9a U E := by
  unfold J9a
  refine ⟨?_, ?_, ?_⟩
  ·refine JeG U E ?_ ?_ ?_
   ·have q := hf.1; have q2 := hf.2.1; omega
   ·have q := hf.1; have q2 := hf.2.1; omega
   ·intro r hr
    have q := (hf.2.2 r hr).1
    have q2 := hf.1
    omega
  ·refine ⟨U, E, ?_⟩
   refine ⟨?_, rfl, rfl, rfl, rfl⟩
   ·unfold J19
    assumption
  intro O1 D1 hJ
  have d1 := hJ
  refine ⟨rfl, rfl, ?_, ?_, ?_⟩
  ·refine JcD O1 D1 ?_
   ·intro i a hi ha
    have q := Jc d1 hi ha
    omega
  ·intro b1
   try simp only [nrmT] at b1
   refine ⟨?_, ?_⟩
   ·refine ⟨0, O1, D1, ?_⟩
    refine ⟨?_, rfl, rfl, rfl, rfl, rfl⟩
    ·refine ⟨?_, ?_, ?_, ?_, ?_, ?_⟩
     ·rfl
     ·omega
     ·omega
     ·assumption
     ·omega
     ·exact .inl ⟨rfl, rfl⟩
   intro i O2 D2 hJ
   obtain ⟨o2, h1, h2, d2, l2, c2⟩ := hJ
   refine ⟨?_, ?_⟩
   ·intro b2
    try simp only [nrmT] at b2
    refine ⟨?_, ?_⟩
    ·refine ⟨0, O2, D2, ?_⟩
     refine ⟨?_, rfl, rfl, rfl, rfl, rfl, rfl⟩
     ·refine ⟨?_, ?_, ?_, ?_, ?_, ?_⟩
      ·assumption
      ·omega
      ·omega
      ·assumption
      ·omega
      ·exact J4o c2 fun h => by rw [h]; rfl
    intro j O3 D3 hJ
    obtain ⟨o3, h4, h5, d3, l3, c3⟩ := hJ
    refine ⟨?_, ?_⟩
    ·intro b3
     try simp only [nrmT] at b3
     refine ⟨?_, ?_⟩
     ·refine ⟨0, O3, D3, ?_⟩
      refine ⟨?_, rfl, rfl, rfl, rfl, rfl, rfl, rfl⟩
      ·refine ⟨?_, ?_, ?_, ?_, ?_, ?_⟩
       ·assumption
       ·omega
       ·omega
       ·assumption
       ·omega
       ·exact J4o c3 fun h => by rw [h]; rfl
     intro a O4 D4 hJ
     obtain ⟨o4, h7, h8, d4, l4, c4⟩ := hJ
     refine ⟨?_, ?_⟩
     ·intro b4
      try simp only [nrmT] at b4
      refine ⟨?_, ?_⟩
      ·refine ⟨0, D4, ?_⟩
       refine ⟨?_, rfl, rfl, rfl, rfl, rfl, rfl, rfl, rfl⟩
       ·refine ⟨?_, ?_, ?_, ?_, ?_⟩
        ·omega
        ·omega
        ·assumption
        ·omega
        ·exact J4o c4 fun h => by rw [h]; rfl
      intro b D5 hJ
      obtain ⟨k1, k2, d5, l5, c5⟩ := hJ
      refine ⟨?_, ?_⟩
      ·intro b5
       try simp only [nrmT] at b5
       refine ⟨rfl, ?_, ?_, ?_, ?_, ?_, ?_, ?_, ?_, ?_, ?_, ?_, ?_, ?_, ?_, ?_, ?_, ?_, ?_, ?_, ?_, ?_, ?_, ?_, ?_, ?_, ?_, ?_, ?_, ?_, ?_, ?_, ?_, ?_, J3E ((D5.getD i.toNat []).getD a.toNat 0) ((((D5.getD i.toNat []).getD b.toNat 0) + ((D5.getD j.toNat []).getD b.toNat 0)) + ((D5.getD j.toNat []).getD a.toNat 0)), ?_, ?_, ?_, ?_, ?_, ?_⟩
       ·omega
       ·omega
       ·omega
       ·omega
       ·omega
       ·omega
       ·omega
       ·have eo := congrArg List.length o4
        have q1 := Jc d5 (i := i.toNat) (a := a.toNat) (by omega) (by omega)
        have q2 := Jc d5 (i := i.toNat) (a := b.toNat) (by omega) (by omega)
        have q3 := Jc d5 (i := j.toNat) (a := b.toNat) (by omega) (by omega)
        have q4 := Jc d5 (i := j.toNat) (a := a.toNat) (by omega) (by omega)
        omega
       ·omega
       ·have eo := congrArg List.length o4
        have q1 := Jc d5 (i := i.toNat) (a := a.toNat) (by omega) (by omega)
        have q2 := Jc d5 (i := i.toNat) (a := b.toNat) (by omega) (by omega)
        have q3 := Jc d5 (i := j.toNat) (a := b.toNat) (by omega) (by omega)
        have q4 := Jc d5 (i := j.toNat) (a := a.toNat) (by omega) (by omega)
        omega
       ·omega
       ·omega
       ·omega
       ·omega
       ·have eo := congrArg List.length o4
        have q1 := Jc d5 (i := i.toNat) (a := a.toNat) (by omega) (by omega)
        have q2 := Jc d5 (i := i.toNat) (a := b.toNat) (by omega) (by omega)
        have q3 := Jc d5 (i := j.toNat) (a := b.toNat) (by omega) (by omega)
        have q4 := Jc d5 (i := j.toNat) (a := a.toNat) (by omega) (by omega)
        omega
       ·omega
       ·have eo := congrArg List.length o4
        have q1 := Jc d5 (i := i.toNat) (a := a.toNat) (by omega) (by omega)
        have q2 := Jc d5 (i := i.toNat) (a := b.toNat) (by omega) (by omega)
        have q3 := Jc d5 (i := j.toNat) (a := b.toNat) (by omega) (by omega)
        have q4 := Jc d5 (i := j.toNat) (a := a.toNat) (by omega) (by omega)
        omega
       ·omega
       ·omega
       ·omega
       ·omega
       ·have eo := congrArg List.length o4
        have q1 := Jc d5 (i := i.toNat) (a := a.toNat) (by omega) (by omega)
        have q2 := Jc d5 (i := i.toNat) (a := b.toNat) (by omega) (by omega)
        have q3 := Jc d5 (i := j.toNat) (a := b.toNat) (by omega) (by omega)
        have q4 := Jc d5 (i := j.toNat) (a := a.toNat) (by omega) (by omega)
        omega
       ·omega
       ·have eo := congrArg List.length o4
        have q1 := Jc d5 (i := i.toNat) (a := a.toNat) (by omega) (by omega)
        have q2 := Jc d5 (i := i.toNat) (a := b.toNat) (by omega) (by omega)
        have q3 := Jc d5 (i := j.toNat) (a := b.toNat) (by omega) (by omega)
        have q4 := Jc d5 (i := j.toNat) (a := a.toNat) (by omega) (by omega)
        omega
       ·have eo := congrArg List.length o4
        have q1 := Jc d5 (i := i.toNat) (a := a.toNat) (by omega) (by omega)
        have q2 := Jc d5 (i := i.toNat) (a := b.toNat) (by omega) (by omega)
        have q3 := Jc d5 (i := j.toNat) (a := b.toNat) (by omega) (by omega)
        have q4 := Jc d5 (i := j.toNat) (a := a.toNat) (by omega) (by omega)
        omega
       ·omega
       ·omega
       ·omega
       ·omega
       ·have eo := congrArg List.length o4
        have q1 := Jc d5 (i := i.toNat) (a := a.toNat) (by omega) (by omega)
        have q2 := Jc d5 (i := i.toNat) (a := b.toNat) (by omega) (by omega)
        have q3 := Jc d5 (i := j.toNat) (a := b.toNat) (by omega) (by omega)
        have q4 := Jc d5 (i := j.toNat) (a := a.toNat) (by omega) (by omega)
        omega
       ·omega
       ·have eo := congrArg List.length o4
        have q1 := Jc d5 (i := i.toNat) (a := a.toNat) (by omega) (by omega)
        have q2 := Jc d5 (i := i.toNat) (a := b.toNat) (by omega) (by omega)
        have q3 := Jc d5 (i := j.toNat) (a := b.toNat) (by omega) (by omega)
        have q4 := Jc d5 (i := j.toNat) (a := a.toNat) (by omega) (by omega)
        omega
       ·have eo := congrArg List.length o4
        have q1 := Jc d5 (i := i.toNat) (a := a.toNat) (by omega) (by omega)
        have q2 := Jc d5 (i := i.toNat) (a := b.toNat) (by omega) (by omega)
        have q3 := Jc d5 (i := j.toNat) (a := b.toNat) (by omega) (by omega)
        have q4 := Jc d5 (i := j.toNat) (a := a.toNat) (by omega) (by omega)
        omega
       ·omega
       ·have eo := congrArg List.length o4
        have q1 := Jc d5 (i := i.toNat) (a := a.toNat) (by omega) (by omega)
        have q2 := Jc d5 (i := i.toNat) (a := b.toNat) (by omega) (by omega)
        have q3 := Jc d5 (i := j.toNat) (a := b.toNat) (by omega) (by omega)
        have q4 := Jc d5 (i := j.toNat) (a := a.toNat) (by omega) (by omega)
        omega
       ·omega
       ·have eo := congrArg List.length o4
        have q1 := Jc d5 (i := i.toNat) (a := a.toNat) (by omega) (by omega)
        have q2 := Jc d5 (i := i.toNat) (a := b.toNat) (by omega) (by omega)
        have q3 := Jc d5 (i := j.toNat) (a := b.toNat) (by omega) (by omega)
        have q4 := Jc d5 (i := j.toNat) (a := a.toNat) (by omega) (by omega)
        omega
       ·(have q := d4.1; have eo := congrArg List.length o4; omega)
       refine ⟨(b + 1), (D5.set i.toNat ((D5.getD i.toNat []).set a.toNat (min ((D5.getD i.toNat []).getD a.toNat 0) ((((D5.getD i.toNat []).getD b.toNat 0) + ((D5.getD j.toNat []).getD b.toNat 0)) + ((D5.getD j.toNat []).getD a.toNat 0))))), ?_⟩
       refine ⟨?_, ?_, rfl, rfl, rfl, rfl, rfl, rfl, ?_, rfl⟩
       ·refine ⟨?_, ?_, ?_, ?_, ?_⟩
        ·omega
        ·(simp_all <;> omega)
        ·have eo := congrArg List.length o4
         have hs := Jdr d5 (i := i.toNat) (j := j.toNat) (a := a.toNat) (b := b.toNat) (by omega) (by omega) (by omega) (by omega) c5
         exact hs.1
        ·simp; try omega
        ·have eo := congrArg List.length o4
         have hs := Jdr d5 (i := i.toNat) (j := j.toNat) (a := a.toNat) (b := b.toNat) (by omega) (by omega) (by omega) (by omega) c5
         rw [show (b + 1).toNat = b.toNat + 1 by omega]
         exact hs.2
       ·have eo := congrArg List.length o4
        (simp only [J36]; omega)
       (simp_all; done)
      intro b6
      try simp only [nrmT] at b6
      refine ⟨?_, ?_⟩
      ·(have q := d4.1; have eo := congrArg List.length o4; omega)
      refine ⟨(a + 1), O4, D5, ?_⟩
      refine ⟨?_, ?_, rfl, rfl, rfl, rfl, rfl, rfl, rfl⟩
      ·refine ⟨?_, ?_, ?_, ?_, ?_, ?_⟩
       ·assumption
       ·omega
       ·omega
       ·assumption
       ·omega
       ·have eo := congrArg List.length o4
        refine J4o c5 fun h => ?_
        simp only [Bool.and_eq_true] at h ⊢
        refine ⟨h.1.1, allTo_step h7 h.1.2 ?_⟩
        show allTo _ O1.length = true
        rw [← h.2]; congr 1; omega
      (simp only [J37]; omega)
     intro b7
     try simp only [nrmT] at b7
     refine ⟨?_, ?_⟩
     ·(have q := d2.2.1; omega)
     refine ⟨(j + 1), O4, D4, ?_⟩
     refine ⟨?_, ?_, rfl, rfl, rfl, rfl, rfl, rfl⟩
     ·refine ⟨?_, ?_, ?_, ?_, ?_, ?_⟩
      ·assumption
      ·omega
      ·omega
      ·assumption
      ·omega
      ·refine J4o c4 fun h => ?_
       simp only [Bool.and_eq_true] at h ⊢
       refine ⟨h.1.1, allTo_step h4 h.1.2 ?_⟩
       show allTo _ O1.length = true
       rw [← h.2]; congr 1
       have eo := congrArg List.length o4
       omega
     (simp only [J3b]; omega)
    intro b8
    try simp only [nrmT] at b8
    refine ⟨?_, ?_⟩
    ·(have q := d2.2.1; omega)
    refine ⟨(i + 1), O3, D3, ?_⟩
    refine ⟨?_, ?_, rfl, rfl, rfl, rfl, rfl⟩
    ·refine ⟨?_, ?_, ?_, ?_, ?_, ?_⟩
     ·assumption
     ·omega
     ·omega
     ·assumption
     ·omega
     ·refine J4o c3 fun h => ?_
      simp only [Bool.and_eq_true] at h
      refine allTo_step h1 h.1 ?_
      show allTo _ D1.length = true
      rw [← h.2]; congr 1; omega
    (simp only [J3g]; omega)
   intro b9
   try simp only [nrmT] at b9
   refine ⟨O2, D2, ?_⟩
   refine ⟨?_, ?_, rfl, rfl, rfl, rfl⟩
   ·unfold J19
    (rw [o2]; assumption)
   have hlt := JgD (n := O1.length) (D0 := D1) (D := D2) (by rw [show D1.length = i.toNat by omega]; exact c2) (by simpa using b1)
   have hn := Jex (D := D2) fun r hr x hx => ((d2.2.2 r hr).2 x hx).1
   show (tot D2).toNat < (tot D1).toNat
   omega
  intro b10
  try simp only [nrmT] at b10
  refine ⟨O1, D1, ?_⟩
  refine ⟨?_, rfl, rfl, rfl, rfl⟩
  ·unfold J2Q
   assumption
theorem J7P (U : ZI) (E : ZR) (hf : drF U E) : PE Tryz.prog 187 [.agg [.sl (.ints U), .sl (.rows E)]] (J2P U E) :=
  pe_wf @Tryz.call187 fun hw => pe_by (by kernel_rfl) Tryz.func187 @Tryz.call187 (by kernel_rfl) JdZ (JdG U E) (by kernel_rfl) (Jd0 U E hf hw.1.1 hw.1.2.1.1 hw.1.2.1.2) (by kernel_rfl)
abbrev J0y (code : List Nat) (c : Cur) (most : Int) (O : ZI) (D : ZR) (ck : Cur) : Prop := (okC ck 8000000) ∧ (O.length ≤ 8) ∧ (D.length ≤ 8)
def J2N (code : List Nat) (c : Cur) (most : Int) : Ex := ex3 1 (fun (O : ZI) (D : ZR) (ck : Cur) => J0y code c most O D ck) (fun (O : ZI) (D : ZR) (ck : Cur) => [.int .i64 ck.pos, .int .u64 ck.seed]) (fun (O : ZI) (D : ZR) (ck : Cur) => .one (.d (.agg [.sl (.ints O), .sl (.rows D)])))
def J8R (f : FuncId) (ds : List D) : Orc := .no
def J8J (u : Value) (code : List Nat) (c : Cur) (most : Int) : Ann := .two (.none) (.two (.two (.mark [] [(1, .cell [.int .i64 ((J1 code c 3).pos), .int .u64 ((J1 code c 3).seed)] (.one (.d (.int .i64 (J4 code c 3)))))]) (.two (.none) (.two (.two (.exr (.ex [] 3 (Jv code (J1 code c 3) most) (fun g => (fun (Or3 : ZI) (Dr3 : ZR) (cfr3 : Cur) => .ex [] 4 (JS code cfr3 Or3 Dr3) (fun g => (fun (Or3x4 : ZI) (Dr3x4 : ZR) (chr3x4 : Cur) => .ms [] []) (g.1) (g.2.1) (g.2.2))) (g.1) (g.2.1) (g.2.2)))) (.none)) (.two (.none) (.two (.two (.exr (.ex [] 3 (J0f code (J1 code c 3) most) (fun g => (fun (Or5 : ZI) (Dr5 : ZR) (cgr5 : Cur) => .ex [] 4 (JS code cgr5 Or5 Dr5) (fun g => (fun (Or5x4 : ZI) (Dr5x4 : ZR) (chr5x4 : Cur) => .ms [] []) (g.1) (g.2.1) (g.2.2))) (g.1) (g.2.1) (g.2.2)))) (.none)) (.none)))))) (.two (.exr (.ex [] 3 (Jv code (J1 code c 3) most) (fun g => (fun (Or6 : ZI) (Dr6 : ZR) (cfr6 : Cur) => .ex [] 4 (J2P Or6 Dr6) (fun g => (fun (Or6x4 : ZI) (Dr6x4 : ZR) => .ex [] 5 (JS code cfr6 Or6x4 Dr6x4) (fun g => (fun (Or6x5 : ZI) (Dr6x5 : ZR) (chr6x5 : Cur) => .ms [] []) (g.1) (g.2.1) (g.2.2))) (g.1) (g.2))) (g.1) (g.2.1) (g.2.2)))) (.none)))
def J2H (u : Value) (code : List Nat) (c : Cur) (most : Int) : Prop :=
  (PK Tryz.prog 156 76 (.sl (.bytes code)) [.int .i64 c.pos, .int .u64 c.seed] [.int .i64 ((J1 code c 3).pos), .int .u64 ((J1 code c 3).seed)] [.int .i64 3] (.one (.d (.int .i64 (J4 code c 3))))) ∧ ((((J4 code c 3) == 0) = true → (PKE Tryz.prog 188 76 (.sl (.bytes code)) [.int .i64 ((J1 code c 3).pos), .int .u64 ((J1 code c 3).seed)] [.int .i64 most] (Jv code (J1 code c 3) most)) ∧ (∀ Or3 : ZI, ∀ Dr3 : ZR, ∀ cfr3 : Cur, J04 code (J1 code c 3) most Or3 Dr3 cfr3 → ((true = true) ∧ (Or3.length = Or3.length) ∧ (Dr3.length = Dr3.length) ∧ (PKV Tryz.prog 232 76 (.sl (.bytes code)) [.int .i64 cfr3.pos, .int .u64 cfr3.seed] 3 Or3 3 24 Dr3 (JS code cfr3 Or3 Dr3)) ∧ (∀ Or3x4 : ZI, ∀ Dr3x4 : ZR, ∀ chr3x4 : Cur, Jo code cfr3 Or3 Dr3 Or3x4 Dr3x4 chr3x4 → ((true = true) ∧ (∃ O' : ZI, ∃ D' : ZR, ∃ ck' : Cur, (J0y code c most O' D' ck') ∧ (true = true) ∧ ((.lit u (.sl (.bytes code)) : D) = .lit u (.sl (.bytes code))) ∧ (chr3x4.pos = ck'.pos) ∧ (chr3x4.seed = ck'.seed) ∧ (Or3x4.length = Or3x4.length) ∧ (Dr3x4.length = Dr3x4.length) ∧ ((.agg [.sl (.ints Or3x4), .sl (.rows Dr3x4)] : D) = .agg [.sl (.ints O'), .sl (.rows D')]))))))) ∧ (((J4 code c 3) == 0) = false → ((((J4 code c 3) == 1) = true → (PKE Tryz.prog 186 76 (.sl (.bytes code)) [.int .i64 ((J1 code c 3).pos), .int .u64 ((J1 code c 3).seed)] [.int .i64 most] (J0f code (J1 code c 3) most)) ∧ (∀ Or5 : ZI, ∀ Dr5 : ZR, ∀ cgr5 : Cur, J16 code (J1 code c 3) most Or5 Dr5 cgr5 → ((true = true) ∧ (Or5.length = Or5.length) ∧ (Dr5.length = Dr5.length) ∧ (PKV Tryz.prog 232 76 (.sl (.bytes code)) [.int .i64 cgr5.pos, .int .u64 cgr5.seed] 3 Or5 3 24 Dr5 (JS code cgr5 Or5 Dr5)) ∧ (∀ Or5x4 : ZI, ∀ Dr5x4 : ZR, ∀ chr5x4 : Cur, Jo code cgr5 Or5 Dr5 Or5x4 Dr5x4 chr5x4 → ((true = true) ∧ (∃ O' : ZI, ∃ D' : ZR, ∃ ck' : Cur, (J0y code c most O' D' ck') ∧ (true = true) ∧ ((.lit u (.sl (.bytes code)) : D) = .lit u (.sl (.bytes code))) ∧ (chr5x4.pos = ck'.pos) ∧ (chr5x4.seed = ck'.seed) ∧ (Or5x4.length = Or5x4.length) ∧ (Dr5x4.length = Dr5x4.length) ∧ ((.agg [.sl (.ints Or5x4), .sl (.rows Dr5x4)] : D) = .agg [.sl (.ints O'), .sl (.rows D')]))))))) ∧ (((J4 code c 3) == 1) = false → (PKE Tryz.prog 188 76 (.sl (.bytes code)) [.int .i64 ((J1 code c 3).pos), .int .u64 ((J1 code c 3).seed)] [.int .i64 most] (Jv code (J1 code c 3) most)) ∧ (∀ Or6 : ZI, ∀ Dr6 : ZR, ∀ cfr6 : Cur, J04 code (J1 code c 3) most Or6 Dr6 cfr6 → ((true = true) ∧ (Or6.length = Or6.length) ∧ (Dr6.length = Dr6.length) ∧ (PE Tryz.prog 187 [.agg [.sl (.ints Or6), .sl (.rows Dr6)]] (J2P Or6 Dr6)) ∧ (∀ Or6x4 : ZI, ∀ Dr6x4 : ZR, J2Q Or6 Dr6 Or6x4 Dr6x4 → ((true = true) ∧ (Or6x4.length = Or6x4.length) ∧ (Dr6x4.length = Dr6x4.length) ∧ (PKV Tryz.prog 232 76 (.sl (.bytes code)) [.int .i64 cfr6.pos, .int .u64 cfr6.seed] 3 Or6x4 3 24 Dr6x4 (JS code cfr6 Or6x4 Dr6x4)) ∧ (∀ Or6x5 : ZI, ∀ Dr6x5 : ZR, ∀ chr6x5 : Cur, Jo code cfr6 Or6x4 Dr6x4 Or6x5 Dr6x5 chr6x5 → ((true = true) ∧ (∃ O' : ZI, ∃ D' : ZR, ∃ ck' : Cur, (J0y code c most O' D' ck') ∧ (true = true) ∧ ((.lit u (.sl (.bytes code)) : D) = .lit u (.sl (.bytes code))) ∧ (chr6x5.pos = ck'.pos) ∧ (chr6x5.seed = ck'.seed) ∧ (Or6x5.length = Or6x5.length) ∧ (Dr6x5.length = Dr6x5.length) ∧ ((.agg [.sl (.ints Or6x5), .sl (.rows Dr6x5)] : D) = .agg [.sl (.ints O'), .sl (.rows D')]))))))))))))
theorem J8i (u : Value) (code : List Nat) (c : Cur) (most : Int) (hb : ∀ x9 ∈ code, x9 < 256) (hc : okC c 2000000) (hm : 0 ≤ most ∧ most ≤ 7)  : J2H u code c most := by
  unfold J2H
  refine ⟨?_, ?_, ?_⟩
  ·refine Jz code c 3 ?_ ?_
   ·exact hb
   ·exact J7 (by assumption) (by omega)
  ·intro b1
   refine ⟨?_, ?_⟩
   ·refine J0J code (J1 code c 3) most ?_ ?_ ?_
    ·exact hb
    ·exact J7 (Jf (by assumption)) (by omega)
    ·omega
   intro Or3 Dr3 cfr3 hQ9
   obtain ⟨f1r3, f2r3⟩ := hQ9
   refine ⟨rfl, rfl, rfl, ?_, ?_⟩
   ·refine J1M code cfr3 Or3 Dr3 ?_ ?_ ?_
    ·exact hb
    ·exact J7 (by assumption) (by omega)
    ·assumption
   intro Or3x4 Dr3x4 chr3x4 hQ9
   obtain ⟨f1r3x4, f2r3x4, f3r3x4⟩ := hQ9
   refine ⟨rfl, ?_⟩
   ·refine ⟨Or3x4, Dr3x4, chr3x4, ?_⟩
    refine ⟨?_, rfl, rfl, rfl, rfl, rfl, rfl, rfl⟩
    ·refine ⟨?_, ?_, ?_⟩
     ·exact J7 (by assumption) (by omega)
     ·assumption
     ·assumption
  intro b2
  refine ⟨?_, ?_⟩
  ·intro b3
   refine ⟨?_, ?_⟩
   ·refine J3x code (J1 code c 3) most ?_ ?_ ?_
    ·exact hb
    ·exact J7 (Jf (by assumption)) (by omega)
    ·omega
   intro Or5 Dr5 cgr5 hQ9
   obtain ⟨f1r5, f2r5⟩ := hQ9
   refine ⟨rfl, rfl, rfl, ?_, ?_⟩
   ·refine J1M code cgr5 Or5 Dr5 ?_ ?_ ?_
    ·exact hb
    ·exact J7 (by assumption) (by omega)
    ·assumption
   intro Or5x4 Dr5x4 chr5x4 hQ9
   obtain ⟨f1r5x4, f2r5x4, f3r5x4⟩ := hQ9
   refine ⟨rfl, ?_⟩
   ·refine ⟨Or5x4, Dr5x4, chr5x4, ?_⟩
    refine ⟨?_, rfl, rfl, rfl, rfl, rfl, rfl, rfl⟩
    ·refine ⟨?_, ?_, ?_⟩
     ·exact J7 (by assumption) (by omega)
     ·assumption
     ·assumption
  intro b4
  refine ⟨?_, ?_⟩
  ·refine J0J code (J1 code c 3) most ?_ ?_ ?_
   ·exact hb
   ·exact J7 (Jf (by assumption)) (by omega)
   ·omega
  intro Or6 Dr6 cfr6 hQ9
  obtain ⟨f1r6, f2r6⟩ := hQ9
  refine ⟨rfl, rfl, rfl, ?_, ?_⟩
  ·refine J7P Or6 Dr6 ?_
   ·assumption
  intro Or6x4 Dr6x4 hQ9
  have f2r6x4 := hQ9
  refine ⟨rfl, rfl, rfl, ?_, ?_⟩
  ·refine J1M code cfr6 Or6x4 Dr6x4 ?_ ?_ ?_
   ·exact hb
   ·exact J7 (by assumption) (by omega)
   ·assumption
  intro Or6x5 Dr6x5 chr6x5 hQ9
  obtain ⟨f1r6x5, f2r6x5, f3r6x5⟩ := hQ9
  refine ⟨rfl, ?_⟩
  ·refine ⟨Or6x5, Dr6x5, chr6x5, ?_⟩
   refine ⟨?_, rfl, rfl, rfl, rfl, rfl, rfl, rfl⟩
   ·refine ⟨?_, ?_, ?_⟩
    ·exact J7 (by assumption) (by omega)
    ·assumption
    ·assumption
theorem J7s (code : List Nat) (c : Cur) (most : Int) (hb : ∀ x9 ∈ code, x9 < 256) (hc : okC c 2000000) (hm : 0 ≤ most ∧ most ≤ 7) : PKE Tryz.prog 209 76 (.sl (.bytes code)) [.int .i64 c.pos, .int .u64 c.seed] [.int .i64 most] (J2N code c most) :=
  pke_by (Q := fun u => J2H u code c most) (by kernel_rfl) Tryz.func209 @Tryz.call209 (by kernel_rfl) J8R (fun u => J8J u code c most) (by kernel_rfl) (fun u => J8i u code c most hb hc hm) (fun u => by kernel_rfl)
abbrev J3V (code : List Nat) (c : Cur) (O : ZI) (D : ZR) (cl : Cur) : Prop := (okC cl 8000000) ∧ (O.length ≤ 8) ∧ (D.length ≤ 8)
def J47 (code : List Nat) (c : Cur) : Ex := ex3 1 (fun (O : ZI) (D : ZR) (cl : Cur) => J3V code c O D cl) (fun (O : ZI) (D : ZR) (cl : Cur) => [.int .i64 cl.pos, .int .u64 cl.seed]) (fun (O : ZI) (D : ZR) (cl : Cur) => .one (.d (.agg [.sl (.ints O), .sl (.rows D)])))
def JaL (f : FuncId) (ds : List D) : Orc := .no
def JaF (u : Value) (code : List Nat) (c : Cur) : Ann := .two (.none) (.two (.exr (.ex [] 1 (J2N code c 7) (fun g => (fun (Or1 : ZI) (Dr1 : ZR) (ckr1 : Cur) => .ms [] []) (g.1) (g.2.1) (g.2.2)))) (.none))
def J3U (u : Value) (code : List Nat) (c : Cur) : Prop :=
  (PKE Tryz.prog 209 76 (.sl (.bytes code)) [.int .i64 c.pos, .int .u64 c.seed] [.int .i64 7] (J2N code c 7)) ∧ (∀ Or1 : ZI, ∀ Dr1 : ZR, ∀ ckr1 : Cur, J0y code c 7 Or1 Dr1 ckr1 → ((true = true) ∧ (∃ O' : ZI, ∃ D' : ZR, ∃ cl' : Cur, (J3V code c O' D' cl') ∧ (true = true) ∧ ((.lit u (.sl (.bytes code)) : D) = .lit u (.sl (.bytes code))) ∧ (ckr1.pos = cl'.pos) ∧ (ckr1.seed = cl'.seed) ∧ ((.agg [.sl (.ints Or1), .sl (.rows Dr1)] : D) = .agg [.sl (.ints O'), .sl (.rows D')]))))
theorem J9z (u : Value) (code : List Nat) (c : Cur) (hb : ∀ x9 ∈ code, x9 < 256) (hc : okC c 2000000)  : J3U u code c := by
  unfold J3U
  refine ⟨?_, ?_⟩
  ·refine J7s code c 7 ?_ ?_ ?_
   ·exact hb
   ·exact J7 (by assumption) (by omega)
   ·omega
  intro Or1 Dr1 ckr1 hQ9
  obtain ⟨f1r1, f2r1, f3r1⟩ := hQ9
  refine ⟨rfl, ?_⟩
  ·refine ⟨Or1, Dr1, ckr1, ?_⟩
   refine ⟨?_, rfl, rfl, rfl, rfl, rfl⟩
   ·refine ⟨?_, ?_, ?_⟩
    ·exact J7 (by assumption) (by omega)
    ·assumption
    ·assumption
theorem J8O (code : List Nat) (c : Cur) (hb : ∀ x9 ∈ code, x9 < 256) (hc : okC c 2000000) : PKE Tryz.prog 133 76 (.sl (.bytes code)) [.int .i64 c.pos, .int .u64 c.seed] [] (J47 code c) :=
  pke_by (Q := fun u => J3U u code c) (by kernel_rfl) Tryz.func133 @Tryz.call133 (by kernel_rfl) JaL (fun u => JaF u code c) (by kernel_rfl) (fun u => J9z u code c hb hc) (fun u => by kernel_rfl)
theorem J9O {D : ZR} {s : ZI} {a : Int} (ha : a ∈ s) (j : Nat) : J0D D s j ≤ (D.getD j []).getD a.toNat 0 := by
  obtain ⟨i, hi, e⟩ := List.mem_iff_getElem.1 ha
  have h := JbX (D.getD j []) s s.length i hi
  rw [Ja hi, e] at h
  exact h
theorem Jdc {D : ZR} {s : ZI} (hp : 0 < s.length) (j : Nat) : ∃ a, a ∈ s ∧ J0D D s j = (D.getD j []).getD a.toNat 0 :=
  ⟨_, J6K hp s.length (Nat.le_refl _), rfl⟩
theorem JfK {l : ZI} (h : Asc l) (i j : Nat) (hij : i < j) (hj : j < l.length) : l.getD i 0 < l.getD j 0 := by
  rw [Ja hj, Ja (show i < l.length by omega)]
  exact List.pairwise_iff_getElem.1 h i j (by omega) hj hij
abbrev J2q (U : ZI) (E : ZR) (i : Int) : Prop := (0 ≤ i) ∧ (i ≤ (E.length : Int)) ∧ (allTo (J6h U.length E) i.toNat = true)
abbrev J2o (U : ZI) (E : ZR) (i : Int) : Nat := (E.length - i).toNat
abbrev J2v (U : ZI) (E : ZR) (i : Int) (j : Int) : Prop := (0 ≤ j) ∧ (j ≤ (E.length : Int)) ∧ (allTo (J74 U.length E i.toNat) j.toNat = true)
abbrev J2t (U : ZI) (E : ZR) (i : Int) (j : Int) : Nat := (E.length - j).toNat
abbrev J2f (U : ZI) (E : ZR) (i : Int) (j : Int) (a : Int) : Prop := (0 ≤ a) ∧ (a ≤ (U.length : Int)) ∧ (allTo (J8f U.length E i.toNat j.toNat) a.toNat = true)
abbrev J2j (U : ZI) (E : ZR) (i : Int) (j : Int) (a : Int) : Nat := (U.length - a).toNat
abbrev J2A (U : ZI) (E : ZR) (i : Int) (j : Int) (a : Int) (b : Int) : Prop := (0 ≤ b) ∧ (b ≤ (U.length : Int)) ∧ (allTo (fun b => !J1q E i.toNat j.toNat a.toNat b) b.toNat = true)
abbrev J2h (U : ZI) (E : ZR) (i : Int) (j : Int) (a : Int) (b : Int) : Nat := (U.length - b).toNat
def JcL (f : FuncId) (ds : List D) : Orc := bif Nat.beq f 111 then J1E ds else .no
end Go.Proofs.YtomnmacmlhkceaaGreat
