/- Contracts of the functions that the law reaches. -/
import Derived.Test.YtomnmacmlhkceaaGreatKFarClients1
import Derived.KernelRfl
set_option linter.unusedVariables false
set_option linter.unusedSimpArgs false
namespace Go.Proofs.YtomnmacmlhkceaaGreat
open Go

theorem J6O (U : ZI) (E : ZR) (r : Int)  (w_Open : (U.length : Int) ≤ 9223372036854775807) (w_Dist : (E.length : Int) ≤ 9223372036854775807) (v_Dist : ∀ x9 ∈ E, (x9.length : Int) ≤ 9223372036854775807) : J4m U E r := by
  unfold J4m
  refine ⟨J1v U E r, id, id, ?_, id, rfl, fun _ => rfl, ?_, ?_, ?_⟩
  ·intro hg
   refine J60 U E r ?_
   ·have hq : J0 U E = true := by
      revert hg; cases J0 U E <;> simp
    exact hq
  ·intro h; rw [h]; rfl
  ·intro b1
   refine ⟨?_, ?_⟩
   ·have hq : (J0 U E && decide (0 ≤ r) && J4 E r) = false := by
      revert b1; cases J0 U E <;> cases J4 E r <;> by_cases h : r < 0 <;> simp [h] <;> omega
    unfold tsL; rw [hq]; rfl
   have hq : (J0 U E && decide (0 ≤ r) && J4 E r) = false := by
     revert b1; cases J0 U E <;> cases J4 E r <;> by_cases h : r < 0 <;> simp [h] <;> omega
   exact hq.symm
  intro b2
  refine ⟨rfl, ?_, rfl, ?_, rfl, ?_, ?_⟩
  ·refine J3B U E r ?_
   ·have hq : J0 U E = true ∧ decide (0 ≤ r) = true ∧ J4 E r = true := by
      revert b2; cases J0 U E <;> cases J4 E r <;> by_cases h : r < 0 <;> simp [h] <;> omega
    exact hq.1
  ·refine J7z U E (Jm U.length E r E.length) ?_ ?_ ?_
   ·have hq : J0 U E = true ∧ decide (0 ≤ r) = true ∧ J4 E r = true := by
      revert b2; cases J0 U E <;> cases J4 E r <;> by_cases h : r < 0 <;> simp [h] <;> omega
    exact hq.1
   ·intro c hc2
    exact (J03 U.length E r E.length).2.2 c hc2
   ·have hq : J0 U E = true ∧ decide (0 ≤ r) = true ∧ J4 E r = true := by
      revert b2; cases J0 U E <;> cases J4 E r <;> by_cases h : r < 0 <;> simp [h] <;> omega
    have := Jb hq.1
    have := (J03 U.length E r E.length).2.1
    omega
  ·have hq : J0 U E = true ∧ decide (0 ≤ r) = true ∧ J4 E r = true := by
     revert b2; cases J0 U E <;> cases J4 E r <;> by_cases h : r < 0 <;> simp [h] <;> omega
   unfold tsL; rw [if_pos (by rw [hq.1, hq.2.1, hq.2.2]; rfl)]
  have hq : J0 U E = true ∧ decide (0 ≤ r) = true ∧ J4 E r = true := by
    revert b2; cases J0 U E <;> cases J4 E r <;> by_cases h : r < 0 <;> simp [h] <;> omega
  rw [hq.1, hq.2.1, hq.2.2]; rfl
theorem J6P (U : ZI) (E : ZR) (r : Int)  : PC Tryz.prog 75 [.agg [.sl (.ints U), .sl (.rows E)], .int .i64 r] (.tup [.own 3 (.ints (tsL U E r)), .d (.bool (J0 U E && decide (0 ≤ r) && J4 E r))]) :=
  pc_wf @Tryz.call75 fun hw => pc_by (by kernel_rfl) Tryz.func75 @Tryz.call75 (by kernel_rfl) J7i (J72 U E r) (by kernel_rfl) (J6O U E r hw.1.1 hw.1.2.1.1 hw.1.2.1.2) (by kernel_rfl)
def J6t : List D → Orc := orcN [none, none] fun ds => match ds with
  | [.agg [.sl (.ints U), .sl (.rows E)], .int .i64 r] => some (.tup [.own 3 (.ints (tsL U E r)), .d (.bool (J0 U E && decide (0 ≤ r) && J4 E r))])
  | _ => none
def J0I (a b : ZI) : Int := if J0Z (a.length : Int) (b.length : Int) = 0 then Ji a b else J0Z (a.length : Int) (b.length : Int)
theorem Ja9 : ∀ x : ZI, Ji x x = 0
  | [] => rfl
  | x :: r => by unfold Ji; rw [if_neg (by omega), if_neg (by omega)]; exact Ja9 r
theorem Ja6 : ∀ {x y : ZI}, Ji x y = 0 → x = y
  | [], [], _ => rfl
  | [], _ :: _, h => by simp [Ji] at h
  | _ :: _, [], h => by simp [Ji] at h
  | x :: r, y :: s, h => by
    unfold Ji at h
    by_cases h1 : x < y
    · rw [if_pos h1] at h; omega
    rw [if_neg h1] at h
    by_cases h2 : x > y
    · rw [if_pos h2] at h; omega
    rw [if_neg h2] at h
    have : x = y := by omega
    rw [this, Ja6 h]
theorem Jad : ∀ {x y : ZI}, Ji x y < 0 ↔ 0 < Ji y x
  | [], [] => by simp [Ji]
  | [], _ :: _ => by simp [Ji]
  | _ :: _, [] => by simp [Ji]
  | x :: r, y :: s => by
    unfold Ji
    by_cases h1 : x < y
    · rw [if_pos h1, if_neg (by omega), if_pos (by omega)]; omega
    rw [if_neg h1]
    by_cases h2 : x > y
    · rw [if_pos h2, if_pos (by omega)]; omega
    rw [if_neg h2, if_neg (by omega), if_neg (by omega)]; exact Jad
theorem Jcp : ∀ {x y z : ZI}, Ji x y < 0 → Ji y z < 0 → Ji x z < 0
  | [], _, [], h1, h2 => by
    exfalso
    rename_i y
    cases y with
    | nil => simp [Ji] at h1
    | cons y s => simp [Ji] at h2
  | [], _, _ :: _, _, _ => by simp [Ji]
  | _ :: _, [], _, h, _ => by simp [Ji] at h
  | _ :: _, _ :: _, [], _, h => by simp [Ji] at h
  | x :: r, y :: s, z :: t, h1, h2 => by
    unfold Ji at h1 h2 ⊢
    by_cases a1 : x < y
    · by_cases a2 : y < z
      · rw [if_pos (by omega)]; omega
      · rw [if_neg a2] at h2
        by_cases a3 : y > z
        · rw [if_pos a3] at h2; omega
        rw [if_pos (by omega)]; omega
    rw [if_neg a1] at h1
    by_cases a4 : x > y
    · rw [if_pos a4] at h1; omega
    rw [if_neg a4] at h1
    by_cases a2 : y < z
    · rw [if_pos (by omega)]; omega
    rw [if_neg a2] at h2
    by_cases a3 : y > z
    · rw [if_pos a3] at h2; omega
    rw [if_neg a3] at h2
    rw [if_neg (by omega), if_neg (by omega)]
    exact Jcp h1 h2
theorem J1r (a b : ZI) : (a.length < b.length ∧ J0I a b < 0) ∨ (b.length < a.length ∧ 0 < J0I a b) ∨ (a.length = b.length ∧ J0I a b = Ji a b) := by
  unfold J0I J0Z
  by_cases h1 : (a.length : Int) < b.length
  · rw [if_pos h1]; left; exact ⟨by omega, by rw [if_neg (by omega)]; omega⟩
  rw [if_neg h1]
  by_cases h2 : (a.length : Int) > b.length
  · rw [if_pos h2]; right; left; exact ⟨by omega, by rw [if_neg (by omega)]; omega⟩
  rw [if_neg h2]; right; right; exact ⟨by omega, by rw [if_pos rfl]⟩
theorem Jat (a : ZI) : J0I a a = 0 := by
  rcases J1r a a with h | h | h
  · omega
  · omega
  rw [h.2, Ja9]
theorem Jai {a b : ZI} (h : J0I a b = 0) : a = b := by
  rcases J1r a b with h1 | h1 | h1
  · omega
  · omega
  exact Ja6 (h1.2 ▸ h)
theorem Jab {a b : ZI} : J0I a b < 0 ↔ 0 < J0I b a := by
  rcases J1r a b with h1 | h1 | h1 <;> rcases J1r b a with h2 | h2 | h2
  · omega
  · omega
  · omega
  · omega
  · omega
  · omega
  · omega
  · omega
  rw [h1.2, h2.2]; exact Jad
theorem Jcq {a b c : ZI} (h : J0I a b < 0) (k : J0I b c < 0) : J0I a c < 0 := by
  rcases J1r a b with h1 | h1 | h1 <;> rcases J1r b c with h2 | h2 | h2 <;> rcases J1r a c with h3 | h3 | h3
  all_goals first | omega | (rw [h3.2]; exact Jcp (h1.2 ▸ h) (h2.2 ▸ k))
theorem JdJ {β : Type} {c : β → β → Int} (hs : ∀ x, c x x = 0) (h0 : ∀ {x y}, c x y = 0 → x = y) (hf : ∀ {x y}, c x y < 0 ↔ 0 < c y x) (ht : ∀ {x y z}, c x y < 0 → c y z < 0 → c x z < 0) :
    Go.Sort.SWO (ltOf c) ∧ ∀ x y, ltOf c x y = false → ltOf c y x = false → x = y := by
  refine ⟨⟨fun x => ?_, fun x y z h1 h2 => ?_, fun x y z h1 h2 => ?_⟩, fun x y h1 h2 => ?_⟩
  · exact decide_eq_false (by rw [hs]; omega)
  · exact decide_eq_true (ht (of_decide_eq_true h1) (of_decide_eq_true h2))
  · have h1 := of_decide_eq_false h1
    have h2 := of_decide_eq_false h2
    refine decide_eq_false fun h3 => ?_
    by_cases e1 : c x y = 0
    · rw [h0 e1] at h3; omega
    by_cases e2 : c y z = 0
    · rw [← h0 e2] at h3; omega
    · have a1 : c y x < 0 := hf.2 (by omega)
      have a2 : c z y < 0 := hf.2 (by omega)
      have a3 := ht a2 a1
      have a4 := hf.1 h3
      omega
  have h1 := of_decide_eq_false h1
  have h2 := of_decide_eq_false h2
  refine h0 ?_
  by_cases e1 : 0 < c x y
  · have := hf.2 e1; omega
  omega
theorem Jeu : Go.Sort.SWO (ltOf J0I) := (JdJ Jat Jai Jab Jcq).1
theorem Jer : ∀ x y, ltOf J0I x y = false → ltOf J0I y x = false → x = y := (JdJ Jat Jai Jab Jcq).2
def orI : ZI → Int
  | [] => 0
  | x :: r => if x = 0 then orI r else x
theorem JbH {xs : ZI} {i : Nat} (h : orI xs = orI (xs.drop i)) (hi : i < xs.length) : orI xs = if xs.getD i 0 = 0 then orI (xs.drop (i + 1)) else xs.getD i 0 := by
  rw [h, List.drop_eq_getElem_cons hi, Jh hi]; rfl
theorem Jed {xs : ZI} {i : Nat} (h : orI xs = orI (xs.drop i)) (hi : xs.length ≤ i) : orI xs = 0 := by
  rw [h, List.drop_eq_nil_of_le hi]; rfl
theorem Jee (a b : Int) : orI [a, b] = if a = 0 then b else a := by
  unfold orI orI orI
  by_cases h : b = 0
  · rw [if_pos h, h]
  rw [if_neg h]
def J67 (n m : Nat) : ZR := (List.range m).map fun c => lst n (c + 1)
def Jf (n : Nat) : ZR := (J67 n (2 ^ n - 1)).mergeSort fun x9 y9 => !(ltOf J0I) y9 x9
theorem J8C (n m : Nat) : (J67 n m).length = m := by simp [J67]
theorem JdE (n : Nat) : (Jf n).length = 2 ^ n - 1 := by unfold Jf; rw [List.length_mergeSort, J8C]
theorem Jdm (n m : Nat) : J67 n (m + 1) = J67 n m ++ [lst n (m + 1)] := by simp [J67, List.range_succ]
theorem Jar {n : Nat} {s : ZI} : s ∈ Jf n ↔ ∃ c, 1 ≤ c ∧ c < 2 ^ n ∧ lst n c = s := by
  unfold Jf
  rw [(List.mergeSort_perm _ _).mem_iff, J67, List.mem_map]
  constructor
  · rintro ⟨c, hc, rfl⟩
    have := List.mem_range.1 hc
    exact ⟨c + 1, by omega, by omega, rfl⟩
  rintro ⟨c, h1, h2, rfl⟩
  exact ⟨c - 1, List.mem_range.2 (by omega), by rw [show c - 1 + 1 = c by omega]⟩
theorem Jeg {n c : Nat} (h1 : 1 ≤ c) (h2 : c < 2 ^ n) : 0 < (lst n c).length := by
  rcases Nat.eq_zero_or_pos (lst n c).length with h | h
  · exfalso
    have e : lst n c = [] := List.eq_nil_of_length_eq_zero h
    have : c = 0 := by
      apply Nat.eq_of_testBit_eq
      intro i
      rw [Nat.zero_testBit]
      by_cases hi : i < n
      · cases hb : c.testBit i with
        | false => rfl
        | true =>
          have hm : (i : Int) ∈ lst n c := mem_members.2 ⟨by omega, by omega, by rw [Int.toNat_natCast]; exact hb⟩
          rw [e] at hm; cases hm
      exact Nat.testBit_lt_two_pow (Nat.lt_of_lt_of_le h2 (Nat.pow_le_pow_right (by omega) (by omega)))
    omega
  exact h
theorem Jeo {n c : Nat} (hn : n ≤ 62) (h : c < 2 ^ n) : members (fun k => c.testBit k) 62 = lst n c :=
  J1X (fun k hk => Nat.testBit_lt_two_pow (Nat.lt_of_lt_of_le h (Nat.pow_le_pow_right (by omega) hk))) 62 hn
abbrev J1J (xs : ZI) (i : Int) : Prop := (0 ≤ i) ∧ (i ≤ (xs.length : Int)) ∧ (orI xs = orI (xs.drop i.toNat))
abbrev J1B (xs : ZI) (i : Int) : Nat := (xs.length - i).toNat
def JaX (f : FuncId) (ds : List D) : Orc := .no
def JaW (xs : ZI) : Ann := .two (.none) (.two (.none) (.two (.two (.none) (.loop (cut1 (fun (i : Int) => J1J xs i) (fun (i : Int) => [(3, .d true (.int .i64 0)), (6, .d false (.sl (.ints xs))), (7, .d true (.int .i64 (xs.length : Int))), (8, .d true (.int .i64 i))]) (fun (i : Int) => [])) (fun g => J1B xs g) (fun _ => .none))) (.none)))
def J6y (xs : ZI) : Prop :=
  ((∃ i' : Int, (J1J xs i') ∧ ((0 : Int) = 0) ∧ (xs = xs) ∧ ((xs.length : Int) = (xs.length : Int)) ∧ ((0 : Int) = i')) ∧ (∀ i : Int, (J1J xs i) → (((decide (i < (xs.length : Int))) = true → ((0 : Int) ≤ i) ∧ ((i : Int) < xs.length) ∧ (i.toNat < xs.length) ∧ ((((xs.getD i.toNat 0) != 0) = true → (((xs.getD i.toNat 0) = (orI xs)))) ∧ (((xs.getD i.toNat 0) != 0) = false → (I6 (i + 1)) ∧ (∃ i' : Int, (J1J xs i') ∧ (J1B xs i' < J1B xs i) ∧ ((0 : Int) = 0) ∧ (xs = xs) ∧ ((xs.length : Int) = (xs.length : Int)) ∧ ((i + 1) = i'))))) ∧ ((decide (i < (xs.length : Int))) = false → (((0 : Int) = (orI xs)))))))
theorem J9O (xs : ZI)  (w_xs : (xs.length : Int) ≤ 9223372036854775807) : J6y xs := by
  unfold J6y
  refine ⟨?_, ?_⟩
  ·refine ⟨0, ?_⟩
   refine ⟨?_, rfl, rfl, rfl, rfl⟩
   ·refine ⟨?_, ?_, ?_⟩
    ·omega
    ·omega
    ·rfl
  intro i hJ
  obtain ⟨h1, h2, h3⟩ := hJ
  refine ⟨?_, ?_⟩
  ·intro b1
   try simp only [nrmT] at b1
   refine ⟨?_, ?_, ?_, ?_, ?_⟩
   ·omega
   ·omega
   ·omega
   ·intro b2
    try simp only [nrmT] at b2
    rw [JbH h3 (by omega), if_neg (by omega)]
   intro b3
   try simp only [nrmT] at b3
   refine ⟨?_, ?_⟩
   ·omega
   refine ⟨(i + 1), ?_⟩
   refine ⟨?_, ?_, rfl, rfl, rfl, rfl⟩
   ·refine ⟨?_, ?_, ?_⟩
    ·omega
    ·omega
    ·rw [JbH h3 (by omega), if_pos (by omega), show (i + 1).toNat = i.toNat + 1 by omega]
   (simp only [J1B]; omega)
  intro b4
  try simp only [nrmT] at b4
  exact (Jed h3 (by omega)).symm
theorem J9U (xs : ZI)  : PC Tryz.prog 231 [.sl (.ints xs)] (.one (.d (.int .i64 (orI xs)))) :=
  pc_wf @Tryz.call231 fun hw => pc_by (by kernel_rfl) Tryz.func231 @Tryz.call231 (by kernel_rfl) JaX (JaW xs) (by kernel_rfl) (J9O xs hw.1) (by kernel_rfl)
def J9c : List D → Orc := orcN [some .ints] fun ds => match ds with
  | [.sl (.ints xs)] => some (.one (.d (.int .i64 (orI xs))))
  | _ => none
def J9a (f : FuncId) (ds : List D) : Orc := bif Nat.beq f 216 then J3I ds else bif Nat.beq f 198 then J1o ds else bif Nat.beq f 231 then J9c ds else .no
def J9w (xs : ZI) (ys : ZI) : Ann := .none
def J5m (xs : ZI) (ys : ZI) : Prop :=
  (PC Tryz.prog 216 [.int .i64 (xs.length : Int), .int .i64 (ys.length : Int)] (.one (.d (.int .i64 (J0Z (xs.length : Int) (ys.length : Int)))))) ∧ (PC Tryz.prog 198 [.sl (.ints xs), .sl (.ints ys)] (.one (.d (.int .i64 (Ji xs ys))))) ∧ ((2 : Nat) = 2) ∧ (PC Tryz.prog 231 [.sl (.ints ([(J0Z (xs.length : Int) (ys.length : Int)), (Ji xs ys)]))] (.one (.d (.int .i64 (orI ([(J0Z (xs.length : Int) (ys.length : Int)), (Ji xs ys)])))))) ∧ (((orI ([(J0Z (xs.length : Int) (ys.length : Int)), (Ji xs ys)])) = (J0I xs ys)))
theorem J8x (xs : ZI) (ys : ZI)  (w_xs : (xs.length : Int) ≤ 9223372036854775807) (w_ys : (ys.length : Int) ≤ 9223372036854775807) : J5m xs ys := by
  unfold J5m
  refine ⟨J3X (xs.length : Int) (ys.length : Int), J1u xs ys, rfl, J9U ([(J0Z (xs.length : Int) (ys.length : Int)), (Ji xs ys)]), ?_⟩
  ·rw [Jee]; rfl
theorem J8w (xs : ZI) (ys : ZI)  : PC Tryz.prog 205 [.sl (.ints xs), .sl (.ints ys)] (.one (.d (.int .i64 (J0I xs ys)))) :=
  pc_wf @Tryz.call205 fun hw => pc_by (by kernel_rfl) Tryz.func205 @Tryz.call205 (by kernel_rfl) J9a (J9w xs ys) (by kernel_rfl) (J8x xs ys hw.1 hw.2.1) (by kernel_rfl)
theorem J3m (xss : ZR) (hz : xss.length < 4611686018427387904) : PU Tryz.prog 204 24 (.rows xss) (.rows (xss.mergeSort (fun x9 y9 => !(ltOf J0I) y9 x9))) [.fn 205 0 []] false :=
  pu_sortFunc Tryz.laySortRows 24 xss (fun x => .sl (.ints x)) J0I Jeu Jer 205 (fun x _ y _ => J8w x y) _ _ rfl rfl rfl (List.length_mergeSort _) (fun _ => rfl) (fun i x h => by simp [Mem.get, h]) (fun i x h => by simp [Mem.get, h]) hz @Tryz.call205
abbrev J0J (b : Int) (out : ZI) (x : Int) : Prop := (0 ≤ x) ∧ (x ≤ 62) ∧ (out = members (fun k => b.toNat.testBit k) x.toNat)
abbrev JW (b : Int) (out : ZI) (x : Int) : Nat := (62 - x).toNat
def J9z (f : FuncId) (ds : List D) : Orc := bif Nat.beq f 138 then J6A ds else .no
def Ja3 (b : Int) : Ann := .two (.none) (.two (.none) (.two (.two (.none) (.loop (cut2 (fun (out : ZI) (x : Int) => J0J b out x) (fun (out : ZI) (x : Int) => [(0, .d false (.int .u64 b)), (3, .own 1000000 out.length), (4, .d true (.int .i64 x))]) (fun (out : ZI) (x : Int) => [(1000000, .arr true 3 (.ints out))])) (fun g => JW b g.1 g.2) (fun _ => .none))) (.none)))
def J5K (b : Int) : Prop :=
  ((∃ out' : ZI, ∃ x' : Int, (J0J b out' x') ∧ (b = b) ∧ ((0 : Nat) = out'.length) ∧ ((0 : Int) = x') ∧ ([] = out')) ∧ (∀ out : ZI, ∀ x : Int, (J0J b out x) → ((0 : Int) ≤ b ∧ (b : Int) ≤ 18446744073709551615) ∧ ((0 : Int) ≤ x) ∧ (((decide ((b / 2 ^ x.toNat) > 0)) = true → (PC Tryz.prog 138 [.int .u64 b, .int .i64 x] (.one (.d (.bool (b.toNat.testBit x.toNat))))) ∧ (((b.toNat.testBit x.toNat) = true → (out.length = out.length) ∧ ((1 : Nat) = 1) ∧ ((out.length + 1) * 8 ≤ 140737488355328) ∧ (I6 (x + 1)) ∧ (∃ out' : ZI, ∃ x' : Int, (J0J b out' x') ∧ (JW b out' x' < JW b out x) ∧ (b = b) ∧ ((out.length + 1) = out'.length) ∧ ((x + 1) = x') ∧ ((out ++ [x]) = out'))) ∧ ((b.toNat.testBit x.toNat) = false → (I6 (x + 1)) ∧ (∃ out' : ZI, ∃ x' : Int, (J0J b out' x') ∧ (JW b out' x' < JW b out x) ∧ (b = b) ∧ (out.length = out'.length) ∧ ((x + 1) = x') ∧ (out = out'))))) ∧ ((decide ((b / 2 ^ x.toNat) > 0)) = false → ((out.length = out.length) ∧ ((out : ZI) = (members (fun k => b.toNat.testBit k) 62)))))))
theorem J8T (b : Int) (hb : 0 ≤ b ∧ b ≤ 4611686018427387903)  : J5K b := by
  unfold J5K
  refine ⟨?_, ?_⟩
  ·refine ⟨([]), 0, ?_⟩
   refine ⟨?_, rfl, rfl, rfl, ?_⟩
   ·refine ⟨?_, ?_, ?_⟩
    ·omega
    ·omega
    ·rfl
   rfl
  intro out x hJ
  obtain ⟨h1, h2, h3⟩ := hJ
  refine ⟨?_, ?_, ?_, ?_⟩
  ·omega
  ·omega
  ·intro b1
   try simp only [nrmT] at b1
   refine ⟨?_, ?_, ?_⟩
   ·refine J6W b x ?_ ?_
    ·omega
    ·omega
   ·intro b2
    try simp only [nrmT] at b2
    refine ⟨rfl, rfl, ?_, ?_, ?_⟩
    ·rw [h3]; have := members_len_le (fun k => b.toNat.testBit k) x.toNat; omega
    ·omega
    refine ⟨(out ++ [x]), (x + 1), ?_⟩
    refine ⟨?_, ?_, rfl, ?_, rfl, rfl⟩
    ·refine ⟨?_, ?_, ?_⟩
     ·omega
     ·have := J7v hb h2 b1; omega
     ·rw [h3, show (x + 1).toNat = x.toNat + 1 by omega, members_succ, b2]; simp; try omega
    ·have := J7v hb h2 b1
     (simp only [JW]; omega)
    (simp_all; done)
   intro b3
   try simp only [nrmT] at b3
   refine ⟨?_, ?_⟩
   ·omega
   refine ⟨out, (x + 1), ?_⟩
   refine ⟨?_, ?_, rfl, rfl, rfl, rfl⟩
   ·refine ⟨?_, ?_, ?_⟩
    ·omega
    ·have := J7v hb h2 b1; omega
    ·rw [h3, show (x + 1).toNat = x.toNat + 1 by omega, members_succ, b3]; simp; try omega
   have := J7v hb h2 b1
   (simp only [JW]; omega)
  intro b4
  try simp only [nrmT] at b4
  refine ⟨rfl, ?_⟩
  ·rw [h3]; refine (J1X (fun k hk => Jck hb.1 (m := x.toNat) (by omega) k hk) 62 (by omega)).symm
theorem J9b (b : Int) (hb : 0 ≤ b ∧ b ≤ 4611686018427387903) : PC Tryz.prog 139 [.int .u64 b] (.one (.d (.sl (.ints (members (fun k => b.toNat.testBit k) 62))))) :=
  pc_wf @Tryz.call139 fun _ => pc_by (by kernel_rfl) Tryz.func139 @Tryz.call139 (by kernel_rfl) J9z (Ja3 b) (by kernel_rfl) (J8T b hb) (by kernel_rfl)
abbrev J4Q (n : Int) (out : ZR) (b : Int) : Prop := (1 ≤ b) ∧ (b ≤ ((2 ^ n.toNat : Nat) : Int)) ∧ (out = J67 n.toNat (b.toNat - 1))
abbrev J4M (n : Int) (out : ZR) (b : Int) : Nat := (((2 ^ n.toNat : Nat) : Int) - b).toNat
abbrev J4R (n : Int) (out2 : ZR) : Prop := (out2 = J67 n.toNat (2 ^ n.toNat - 1))
def Je0 (f : FuncId) (ds : List D) : Orc := .no
def Je5 (n : Int) : Ann := .two (.none) (.two (.none) (.cut (.two (.none) (.loop (cut2 (fun (out : ZR) (b : Int) => J4Q n out b) (fun (out : ZR) (b : Int) => [(0, .d false (.int .i64 n)), (3, .own 1000000 out.length), (4, .d true (.int .u64 b))]) (fun (out : ZR) (b : Int) => [(1000000, .arr true 24 (.rows out))])) (fun g => J4M n g.1 g.2) (fun g => (fun (out : ZR) (b : Int) => .two (.none) (.two (.reg [(2, .call none (.one (.d (.sl (.ints (members (fun k => b.toNat.testBit k) 62))))))]) (.none))) (g.1) (g.2)))) (cut1 (fun (out2 : ZR) => J4R n out2) (fun (out2 : ZR) => [(3, .own 1000050 out2.length)]) (fun (out2 : ZR) => [(1000050, .arr true 24 (.rows out2))])) (fun g => (fun (out2 : ZR) => .two (.mark [] [(1, .up (.rows (out2.mergeSort (fun x9 y9 => !(ltOf J0I) y9 x9))) false)]) (.none)) g)))
def Jb0 (n : Int) : Prop :=
  ((((∃ out' : ZR, ∃ b' : Int, (J4Q n out' b') ∧ (n = n) ∧ ((0 : Nat) = out'.length) ∧ ((1 : Int) = b') ∧ ([] = out')) ∧ (∀ out : ZR, ∀ b : Int, (J4Q n out b) → ((0 : Int) ≤ 1) ∧ ((0 : Int) ≤ n) ∧ ((0 : Int) ≤ ((1 : Int) * 2 ^ n.toNat) ∧ (((1 : Int) * 2 ^ n.toNat) : Int) ≤ 18446744073709551615) ∧ (((decide (b < ((1 : Int) * 2 ^ n.toNat))) = true → (PC Tryz.prog 139 [.int .u64 b] (.one (.d (.sl (.ints (members (fun k => b.toNat.testBit k) 62)))))) ∧ (out.length = out.length) ∧ ((1 : Nat) = 1) ∧ ((out.length + 1) * 24 ≤ 140737488355328) ∧ (0 ≤ (b + 1) ∧ (b + 1) ≤ 18446744073709551615) ∧ (∃ out' : ZR, ∃ b' : Int, (J4Q n out' b') ∧ (J4M n out' b' < J4M n out b) ∧ (n = n) ∧ ((out.length + 1) = out'.length) ∧ ((b + 1) = b') ∧ ((out ++ [(members (fun k => b.toNat.testBit k) 62)]) = out'))) ∧ ((decide (b < ((1 : Int) * 2 ^ n.toNat))) = false → (∃ out2' : ZR, (J4R n out2') ∧ (out.length = out2'.length) ∧ (out = out2'))))))) ∧ (∀ out2 : ZR, (J4R n out2) → (out2.length = out2.length) ∧ (PU Tryz.prog 204 24 (.rows out2) (.rows (out2.mergeSort (fun x9 y9 => !(ltOf J0I) y9 x9))) [.fn 205 0 []] false) ∧ ((out2.length = (out2.mergeSort (fun x9 y9 => !(ltOf J0I) y9 x9)).length) ∧ (((out2.mergeSort (fun x9 y9 => !(ltOf J0I) y9 x9)) : ZR) = Jf n.toNat))))
theorem JdC (n : Int) (hn : 0 ≤ n ∧ n ≤ 8)  : Jb0 n := by
  unfold Jb0
  have p7 := JbB (n := n.toNat) (by omega)
  have pp := Nat.two_pow_pos n.toNat
  have e0 := J4U n.toNat
  have e1 : ((2 : Int) ^ n.toNat) = ((2 ^ n.toNat : Nat) : Int) := by simp
  refine ⟨?_, ?_⟩
  ·refine ⟨?_, ?_⟩
   ·refine ⟨([]), 1, ?_⟩
    refine ⟨?_, rfl, rfl, rfl, ?_⟩
    ·refine ⟨?_, ?_, ?_⟩
     ·omega
     ·generalize 2 ^ n.toNat = M at *
      omega
     ·rfl
    rfl
   ·intro out b hJ
    obtain ⟨h1, h2, h3⟩ := hJ
    refine ⟨?_, ?_, ?_, ?_, ?_⟩
    ·omega
    ·omega
    ·rw [Int.one_mul, e1]
     generalize 2 ^ n.toNat = M at *
     omega
    ·intro b1
     try simp only [nrmT] at b1
     refine ⟨?_, rfl, rfl, ?_, ?_, ?_⟩
     ·refine J9b b ?_
      ·rw [Int.one_mul, e1] at b1
       generalize 2 ^ n.toNat = M at *
       omega
     ·rw [Int.one_mul, e1] at b1
      rw [h3, J8C]
      generalize 2 ^ n.toNat = M at *
      omega
     ·rw [Int.one_mul, e1] at b1
      generalize 2 ^ n.toNat = M at *
      omega
     refine ⟨(out ++ [(members (fun k => b.toNat.testBit k) 62)]), (b + 1), ?_⟩
     refine ⟨?_, ?_, rfl, ?_, rfl, rfl⟩
     ·refine ⟨?_, ?_, ?_⟩
      ·omega
      ·rw [Int.one_mul, e1] at b1
       generalize 2 ^ n.toNat = M at *
       omega
      ·rw [Int.one_mul, e1] at b1
       have hb : b.toNat < 2 ^ n.toNat := by
         generalize 2 ^ n.toNat = M at *
         omega
       rw [h3, show (b + 1).toNat - 1 = (b.toNat - 1) + 1 by omega, Jdm, show b.toNat - 1 + 1 = b.toNat by omega, Jeo (n := n.toNat) (by omega) hb]
     ·rw [Int.one_mul, e1] at b1
      (simp only [J4M]; omega)
     first | omega | rfl | (intro hg; simp only [nrmT] at hg; omega) | (intro g1 g2; simp [g1, g2]; done) | (intro g1; simp at g1 ⊢; simp [g1]; done) | (simp only [nrmT] at *; omega) | (simp at * <;> omega) | (simp_all <;> omega) | (simp_all; done)
    intro b2
    try simp only [nrmT] at b2
    refine ⟨out, ?_⟩
    refine ⟨?_, rfl, rfl⟩
    ·unfold J4R
     rw [Int.one_mul, e1] at b2
     have hm : b.toNat - 1 = 2 ^ n.toNat - 1 := by
       generalize 2 ^ n.toNat = M at *
       omega
     rw [h3, hm]
  intro out2 hJ
  have h8 := hJ
  refine ⟨rfl, ?_, ?_, ?_⟩
  ·refine J3m out2 ?_
   ·rw [h8, J8C]
    generalize 2 ^ n.toNat = M at *
    omega
  ·simp
  rw [h8]; rfl
theorem JdK (n : Int) (hn : 0 ≤ n ∧ n ≤ 8) : PC Tryz.prog 115 [.int .i64 n] (.one (.own 24 (.rows (Jf n.toNat)))) :=
  pc_wf @Tryz.call115 fun _ => pc_by (by kernel_rfl) Tryz.func115 @Tryz.call115 (by kernel_rfl) Je0 (Je5 n) (by kernel_rfl) (JdC n hn) (by kernel_rfl)
def JcP : List D → Orc := orcN [none] fun ds => match ds with
  | [.int .i64 n] => some (.one (.own 24 (.rows (Jf n.toNat))))
  | _ => none
def J5l (l : ZI) (xs : ZI) : ZI := xs.foldl putL l
theorem Jac : ∀ (xs l : ZI), (J5l l xs).length ≤ l.length + xs.length
  | [], _ => Nat.le_refl _
  | y :: r, l => by
    have h1 := Jac r (putL l y)
    have h2 := putL_len l y
    show (J5l (putL l y) r).length ≤ _
    simp only [List.length_cons]
    omega
theorem JcV (l xs : ZI) (y : Int) : J5l l (xs ++ [y]) = putL (J5l l xs) y := by simp [J5l]
def JN (E : ZR) : ZI := J5l [] E.flatten
theorem JdR {E : ZR} {m : Nat} (h : ∀ l ∈ E, l.length ≤ m) : E.flatten.length ≤ E.length * m := by
  induction E with
  | nil => simp
  | cons x r ih =>
    have h1 := h x (by simp)
    have h2 := ih fun l hl => h l (by simp [hl])
    simp only [List.flatten_cons, List.length_append, List.length_cons, Nat.succ_mul]
    omega
theorem Jdc {xss : ZR} {i : Int} (h0 : 0 ≤ i) (h : i < (xss.length : Int)) : (xss.take (i + 1).toNat).flatten = (xss.take i.toNat).flatten ++ xss.getD i.toNat [] := by
  rw [take_step (d := []) h0 h, List.flatten_append]
  simp
theorem Jen {U : ZI} {E : ZR} (h : J0 U E = true) : ∀ l ∈ E, l.length = U.length := fun l hl => by
  obtain ⟨k, hk, rfl⟩ := List.mem_iff_getElem.1 hl
  have h1 := (J8 h hk).1
  rwa [Jh hk] at h1
abbrev J1K (U : ZI) (E : ZR) (out : ZI) (j : Int) : Prop := (0 ≤ j) ∧ (j ≤ (E.length : Int)) ∧ (out = J5l [] (E.take j.toNat).flatten)
abbrev J1C (U : ZI) (E : ZR) (out : ZI) (j : Int) : Nat := (E.length - j).toNat
abbrev J1H (U : ZI) (E : ZR) (out : ZI) (j : Int) (out2 : ZI) (a : Int) : Prop := (0 ≤ a) ∧ (a ≤ ((E.getD j.toNat []).length : Int)) ∧ (out2 = J5l [] ((E.take j.toNat).flatten ++ (E.getD j.toNat []).take a.toNat))
abbrev J1L (U : ZI) (E : ZR) (out : ZI) (j : Int) (out2 : ZI) (a : Int) : Nat := ((E.getD j.toNat []).length - a).toNat
def JaF (f : FuncId) (ds : List D) : Orc := bif Nat.beq f 140 then J84 ds else .no
def JaQ (U : ZI) (E : ZR) : Ann := .two (.none) (.two (.reg [(0, .frz)]) (.two (.two (.none) (.loop (cut2 (fun (out : ZI) (j : Int) => J1K U E out j) (fun (out : ZI) (j : Int) => [(1, .ptr 1 0), (3, .d true (.sl (.ints out))), (4, .d true (.int .i64 j))]) (fun (out : ZI) (j : Int) => [(1, .box 27 [.d false (.sl (.ints U)), .d false (.sl (.rows E))])])) (fun g => J1C U E g.1 g.2) (fun g => (fun (out : ZI) (j : Int) => .two (.none) (.two (.two (.none) (.loop (cut2 (fun (out2 : ZI) (a : Int) => J1H U E out j out2 a) (fun (out2 : ZI) (a : Int) => [(1, .ptr 1 0), (3, .d true (.sl (.ints out2))), (4, .d true (.int .i64 j)), (5, .d true (.int .i64 a))]) (fun (out2 : ZI) (a : Int) => [(1, .box 27 [.d false (.sl (.ints U)), .d false (.sl (.rows E))])])) (fun g => J1L U E out j g.1 g.2) (fun _ => .none))) (.none))) (g.1) (g.2)))) (.none)))
def J6x (U : ZI) (E : ZR) : Prop :=
  ((∃ out' : ZI, ∃ j' : Int, (J1K U E out' j') ∧ ([] = out') ∧ ((0 : Int) = j') ∧ (U = U) ∧ (E = E)) ∧ (∀ out : ZI, ∀ j : Int, (J1K U E out j) → (((decide (j < (E.length : Int))) = true → ((∃ out2' : ZI, ∃ a' : Int, (J1H U E out j out2' a') ∧ (out = out2') ∧ (j = j) ∧ ((0 : Int) = a') ∧ (U = U) ∧ (E = E)) ∧ (∀ out2 : ZI, ∀ a : Int, (J1H U E out j out2 a) → ((0 : Int) ≤ j) ∧ ((j : Int) < E.length) ∧ (j.toNat < E.length) ∧ (((decide (a < (((E.getD j.toNat []).length) : Int))) = true → ((0 : Int) ≤ j) ∧ ((j : Int) < E.length) ∧ (j.toNat < E.length) ∧ ((0 : Int) ≤ a) ∧ ((a : Int) < (E.getD j.toNat []).length) ∧ (a.toNat < (E.getD j.toNat []).length) ∧ (PCs Tryz.prog 140 [.sl (.ints out2), .int .i64 ((E.getD j.toNat []).getD a.toNat 0)] 0 (.sl (.ints (putL out2 ((E.getD j.toNat []).getD a.toNat 0))))) ∧ (I6 (a + 1)) ∧ (∃ out2' : ZI, ∃ a' : Int, (J1H U E out j out2' a') ∧ (J1L U E out j out2' a' < J1L U E out j out2 a) ∧ ((putL out2 ((E.getD j.toNat []).getD a.toNat 0)) = out2') ∧ (j = j) ∧ ((a + 1) = a') ∧ (U = U) ∧ (E = E))) ∧ ((decide (a < (((E.getD j.toNat []).length) : Int))) = false → (I6 (j + 1)) ∧ (∃ out' : ZI, ∃ j' : Int, (J1K U E out' j') ∧ (J1C U E out' j' < J1C U E out j) ∧ (out2 = out') ∧ ((j + 1) = j') ∧ (U = U) ∧ (E = E))))))) ∧ ((decide (j < (E.length : Int))) = false → (((out : ZI) = (JN E)))))))
theorem J9W (U : ZI) (E : ZR) (hg : J0 U E = true) (w_Open : (U.length : Int) ≤ 9223372036854775807) (w_Dist : (E.length : Int) ≤ 9223372036854775807) (v_Dist : ∀ x9 ∈ E, (x9.length : Int) ≤ 9223372036854775807) : J6x U E := by
  unfold J6x
  obtain ⟨g1, g2, g3⟩ := Jb hg
  refine ⟨?_, ?_⟩
  ·refine ⟨([]), 0, ?_⟩
   refine ⟨?_, ?_, rfl, rfl, rfl⟩
   ·refine ⟨?_, ?_, ?_⟩
    ·omega
    ·omega
    ·rfl
   rfl
  intro out j hJ
  obtain ⟨h1, h2, h3⟩ := hJ
  refine ⟨?_, ?_⟩
  ·intro b1
   try simp only [nrmT] at b1
   refine ⟨?_, ?_⟩
   ·refine ⟨out, 0, ?_⟩
    refine ⟨?_, rfl, rfl, rfl, rfl, rfl⟩
    ·refine ⟨?_, ?_, ?_⟩
     ·omega
     ·omega
     ·rw [h3]; simp
   intro out2 a hJ
   obtain ⟨h5, h6, h7⟩ := hJ
   refine ⟨?_, ?_, ?_, ?_, ?_⟩
   ·omega
   ·omega
   ·omega
   ·intro b2
    try simp only [nrmT] at b2
    refine ⟨?_, ?_, ?_, ?_, ?_, ?_, ?_, ?_, ?_⟩
    ·omega
    ·omega
    ·omega
    ·omega
    ·omega
    ·omega
    ·refine J97 out2 ((E.getD j.toNat []).getD a.toNat 0) ?_
     ·have rl := (J8 hg (i := j.toNat) (by omega)).1
      have hb := JdR (E := E.take j.toNat) (m := 7) (fun l hl => by rw [Jen hg l (List.mem_of_mem_take hl)]; exact g2)
      have hb2 : (E.take j.toNat).length ≤ 7 := by rw [List.length_take]; omega
      have hb3 := Jac ((E.take j.toNat).flatten ++ (E.getD j.toNat []).take a.toNat) []
      rw [← h7, List.length_append, List.length_take] at hb3
      simp only [List.length_nil] at hb3
      omega
    ·have rl := (J8 hg (i := j.toNat) (by omega)).1
     omega
    refine ⟨(putL out2 ((E.getD j.toNat []).getD a.toNat 0)), (a + 1), ?_⟩
    refine ⟨?_, ?_, rfl, rfl, rfl, rfl, rfl⟩
    ·refine ⟨?_, ?_, ?_⟩
     ·omega
     ·omega
     ·rw [take_step (d := 0) h5 (by omega), ← List.append_assoc, JcV, h7]
    (simp only [J1L]; omega)
   intro b3
   try simp only [nrmT] at b3
   refine ⟨?_, ?_⟩
   ·omega
   refine ⟨out2, (j + 1), ?_⟩
   refine ⟨?_, ?_, rfl, rfl, rfl, rfl⟩
   ·refine ⟨?_, ?_, ?_⟩
    ·omega
    ·omega
    ·rw [Jdc h1 (by omega), h7, take_all (xs := E.getD j.toNat []) (by omega)]
   (simp only [J1C]; omega)
  intro b4
  try simp only [nrmT] at b4
  rw [h3, take_all (by omega)]; rfl
theorem J9Z (U : ZI) (E : ZR) (hg : J0 U E = true) : PC Tryz.prog 104 [.agg [.sl (.ints U), .sl (.rows E)]] (.one (.d (.sl (.ints (JN E))))) :=
  pc_wf @Tryz.call104 fun hw => pc_by (by kernel_rfl) Tryz.func104 @Tryz.call104 (by kernel_rfl) JaF (JaQ U E) (by kernel_rfl) (J9W U E hg hw.1.1 hw.1.2.1.1 hw.1.2.1.2) (by kernel_rfl)
def J8Q : List D → Orc := orcN [none] fun ds => match ds with
  | [.agg [.sl (.ints U), .sl (.rows E)]] => some (.one (.d (.sl (.ints (JN E)))))
  | _ => none
theorem J4s {l : ZI} {lo hi : Int} (ha : Asc l) (hb : ∀ x ∈ l, lo ≤ x ∧ x ≤ hi) : J2 l lo hi = true :=
  allTo_iff.2 fun k hk => by
    unfold J1w
    rw [Bool.and_eq_true, Bool.or_eq_true]
    refine ⟨decide_eq_true (hb _ (getD_mem hk)), ?_⟩
    by_cases e : k = 0
    · exact .inl (decide_eq_true e)
    right
    have := List.pairwise_iff_getElem.1 ha (k - 1) k (by omega) hk (by omega)
    rw [Jh hk, Jh (by omega)]
    exact decide_eq_true this
theorem Jcg {n c : Nat} : Asc (lst n c) := asc_members _ _
theorem J7B {U : ZI} {E : ZR} (hg : J0 U E = true) {s : ZI} (hs : s ∈ Jf (U.length : Int).toNat) :
    (J0 U E && J2 s 0 ((U.length : Int) - 1) && decide (0 < s.length)) = true ∧ s.length ≤ 7 := by
  obtain ⟨g1, g2, g3⟩ := Jb hg
  rw [Int.toNat_natCast] at hs
  obtain ⟨c, h1, h2, rfl⟩ := Jar.1 hs
  have hl := Jej (n := U.length) (code := c)
  refine ⟨?_, by omega⟩
  rw [hg, J4s Jcg (fun x hx => by have := J9g x hx; omega), decide_eq_true (Jeg h1 h2)]
  rfl
theorem JcB {n : Nat} (h : n ≤ 7) : (Jf n).length ≤ 127 := by
  rw [JdE]
  have := Nat.pow_le_pow_right (n := 2) (by omega) h
  have e : (2 : Nat) ^ 7 = 128 := by decide
  omega
def Jes (xs : ZI) (b : Int) (k : Nat) : Int := max b (xs.getD k 0)
def J4b (xs : ZI) (k : Nat) : Int := foldTo (Jes xs) (xs.getD 0 0) k
def J7j (xs : ZI) : Int := J4b xs xs.length
theorem J9n (xs : ZI) (k : Nat) : J4b xs (k + 1) = max (J4b xs k) (xs.getD k 0) := rfl
theorem Jbs (xs : ZI) : ∀ k, 0 < k → (∀ j, j < k → xs.getD j 0 ≤ J4b xs k) ∧ ∃ j, j < k ∧ J4b xs k = xs.getD j 0
  | 0, h => by omega
  | k + 1, _ => by
    rw [J9n]
    by_cases hk : 0 < k
    · obtain ⟨h1, j, h2, h3⟩ := Jbs xs k hk
      refine ⟨fun i hi => ?_, ?_⟩
      · by_cases e : i = k
        · subst e; omega
        · have := h1 i (by omega); omega
      by_cases e : xs.getD k 0 ≤ J4b xs k
      · exact ⟨j, by omega, by omega⟩
      · exact ⟨k, by omega, by omega⟩
    have : k = 0 := by omega
    subst this
    have e : J4b xs 0 = xs.getD 0 0 := rfl
    refine ⟨fun i hi => ?_, 0, by omega, by omega⟩
    have : i = 0 := by omega
    subst this; omega
def Jet (E : ZR) (set : ZI) (m : Int) (j : Nat) : Int := max m (J2V E set j)
def J4j (E : ZR) (set : ZI) (k : Nat) : Int := foldTo (Jet E set) 0 k
def Jy (E : ZR) (set : ZI) : Int := J4j E set E.length
theorem JcK (E : ZR) (set : ZI) (k : Nat) : J4j E set (k + 1) = max (J4j E set k) (J2V E set k) := rfl
theorem J8M (E : ZR) (set : ZI) : ∀ k, 0 ≤ J4j E set k ∧ (∀ j, j < k → J2V E set j ≤ J4j E set k) ∧ (J4j E set k = 0 ∨ ∃ j, j < k ∧ J4j E set k = J2V E set j)
  | 0 => ⟨Int.le_refl _, fun j hj => by omega, .inl rfl⟩
  | k + 1 => by
    obtain ⟨h1, h2, h3⟩ := J8M E set k
    rw [JcK]
    refine ⟨by omega, fun j hj => ?_, ?_⟩
    · by_cases e : j = k
      · subst e; omega
      · have := h2 j (by omega); omega
    by_cases e : J2V E set k ≤ J4j E set k
    · rcases h3 with h3 | ⟨j, h3, h4⟩
      · left; omega
      · right; exact ⟨j, by omega, by omega⟩
    · right; exact ⟨k, by omega, by omega⟩
theorem Jef (E : ZR) (set : ZI) : J7j (JF E set E.length ++ [0]) = Jy E set := by
  have el : (JF E set E.length ++ [0]).length = E.length + 1 := by simp [J3c]
  have ge : ∀ j, j < E.length → (JF E set E.length ++ [0]).getD j 0 = J2V E set j := fun j hj => by
    rw [← Jd8 E set E.length j hj, List.getD_eq_getElem?_getD, List.getElem?_append_left (by rw [J3c]; exact hj), ← List.getD_eq_getElem?_getD]
  have gl : (JF E set E.length ++ [0]).getD E.length 0 = 0 := by
    rw [List.getD_eq_getElem?_getD, List.getElem?_append_right (by rw [J3c]; exact Nat.le_refl _), J3c, Nat.sub_self]; rfl
  obtain ⟨h1, j, h2, h3⟩ := Jbs (JF E set E.length ++ [0]) (E.length + 1) (by omega)
  obtain ⟨k1, k2, k3⟩ := J8M E set E.length
  unfold J7j Jy
  rw [el]
  have a0 := h1 E.length (by omega)
  rw [gl] at a0
  have u : J4b (JF E set E.length ++ [0]) (E.length + 1) ≤ J4j E set E.length := by
    rw [h3]
    by_cases e : j = E.length
    · rw [e, gl]; exact k1
    rw [ge j (by omega)]; exact k2 j (by omega)
  have l : J4j E set E.length ≤ J4b (JF E set E.length ++ [0]) (E.length + 1) := by
    rcases k3 with k3 | ⟨i, k3, k4⟩
    · omega
    have := h1 i (by omega)
    rw [ge i k3] at this
    omega
  omega
def J73 (U : ZI) (E : ZR) (r : Int) : Int := idxI (fun s => decide (Jy E s ≤ r)) (Jf (U.length : Int).toNat)
def Js (U : ZI) (E : ZR) (r : Int) : Bool := (J0 U E && decide (0 ≤ r)) && decide (0 ≤ J73 U E r)
def JH (U : ZI) (E : ZR) (r : Int) : ZI := if Js U E r = true then (Jf (U.length : Int).toNat).getD (J73 U E r).toNat [] else []
theorem Jcj {U : ZI} {E : ZR} {r i : Int} (hg : J0 U E = true) (hr : 0 ≤ r) (h0 : 0 ≤ i) (h : J73 U E r = i) : Js U E r = true ∧ JH U E r = (Jf (U.length : Int).toNat).getD i.toNat [] := by
  have e : Js U E r = true := by rw [Js, hg, decide_eq_true hr, h, decide_eq_true h0]; rfl
  exact ⟨e, by rw [JH, if_pos e, h]⟩
theorem J6s {U : ZI} {E : ZR} {r : Int} (h : (J0 U E && decide (0 ≤ r)) = false ∨ J73 U E r = -1) : Js U E r = false ∧ JH U E r = [] := by
  have e : Js U E r = false := by
    rw [Js]
    rcases h with h | h
    · rw [h]; rfl
    rw [h, decide_eq_false (show ¬ (0 : Int) ≤ -1 by omega), Bool.and_false]
  exact ⟨e, by rw [JH, e]; rfl⟩
abbrev J07 (xs : ZI) (m : Int) (i : Int) : Prop := (1 ≤ i) ∧ (i ≤ (xs.length : Int)) ∧ (m = J4b xs i.toNat)
abbrev J09 (xs : ZI) (m : Int) (i : Int) : Nat := (xs.length - i).toNat
def J64 (f : FuncId) (ds : List D) : Orc := .no
def J5U (xs : ZI) : Ann := .two (.none) (.two (.two (.none) (.goF (.none))) (.two (.none) (.two (.two (.none) (.loop (cut2 (fun (m : Int) (i : Int) => J07 xs m i) (fun (m : Int) (i : Int) => [(0, .d false (.sl (.ints xs))), (3, .d true (.int .i64 m)), (4, .d true (.int .i64 i))]) (fun (m : Int) (i : Int) => [])) (fun g => J09 xs g.1 g.2) (fun _ => .none))) (.none))))
def J3f (xs : ZI) : Prop :=
  ((decide ((xs.length : Int) < 1)) = false) ∧ ((0 : Int) ≤ 0) ∧ ((0 : Int) < xs.length) ∧ (0 < xs.length) ∧ ((∃ m' : Int, ∃ i' : Int, (J07 xs m' i') ∧ (xs = xs) ∧ ((xs.getD 0 0) = m') ∧ ((1 : Int) = i')) ∧ (∀ m : Int, ∀ i : Int, (J07 xs m i) → (((decide (i < (xs.length : Int))) = true → ((0 : Int) ≤ i) ∧ ((i : Int) < xs.length) ∧ (i.toNat < xs.length) ∧ (I6 (i + 1)) ∧ (∃ m' : Int, ∃ i' : Int, (J07 xs m' i') ∧ (J09 xs m' i' < J09 xs m i) ∧ (xs = xs) ∧ ((max m (xs.getD i.toNat 0)) = m') ∧ ((i + 1) = i'))) ∧ ((decide (i < (xs.length : Int))) = false → ((m = (J7j xs)))))))
theorem J5E (xs : ZI) (hp : 0 < xs.length) (w_xs : (xs.length : Int) ≤ 9223372036854775807) : J3f xs := by
  unfold J3f
  refine ⟨?_, ?_, ?_, ?_, ?_, ?_⟩
  ·exact decide_eq_false (by omega)
  ·omega
  ·omega
  ·omega
  ·refine ⟨(xs.getD 0 0), 1, ?_⟩
   refine ⟨?_, rfl, rfl, rfl⟩
   ·refine ⟨?_, ?_, ?_⟩
    ·omega
    ·omega
    ·show _ = max (xs.getD 0 0) (xs.getD 0 0)
     omega
  intro m i hJ
  obtain ⟨h1, h2, h3⟩ := hJ
  refine ⟨?_, ?_⟩
  ·intro b1
   try simp only [nrmT] at b1
   refine ⟨?_, ?_, ?_, ?_, ?_⟩
   ·omega
   ·omega
   ·omega
   ·omega
   refine ⟨(max m (xs.getD i.toNat 0)), (i + 1), ?_⟩
   refine ⟨?_, ?_, rfl, rfl, rfl⟩
   ·refine ⟨?_, ?_, ?_⟩
    ·omega
    ·omega
    ·rw [h3, show (i + 1).toNat = i.toNat + 1 by omega, J9n]
   (simp only [J09]; omega)
  intro b2
  try simp only [nrmT] at b2
  unfold J7j; rw [h3, show i.toNat = xs.length by omega]
theorem J5t (xs : ZI) (hp : 0 < xs.length) : PC Tryz.prog 191 [.sl (.ints xs)] (.one (.d (.int .i64 (J7j xs)))) :=
  pc_wf @Tryz.call191 fun hw => pc_by (by kernel_rfl) Tryz.func191 @Tryz.call191 (by kernel_rfl) J64 (J5U xs) (by kernel_rfl) (J5E xs hp hw.1) (by kernel_rfl)
def J5e : List D → Orc := orcN [some .ints] fun ds => match ds with
  | [.sl (.ints xs)] => some (.one (.d (.int .i64 (J7j xs))))
  | _ => none
def J96 (f : FuncId) (ds : List D) : Orc := bif Nat.beq f 149 then J6L ds else bif Nat.beq f 191 then J5e ds else .no
def J8U (U : ZI) (E : ZR) (set : ZI) : Ann := .none
def J5n (U : ZI) (E : ZR) (set : ZI) : Prop :=
  (PC Tryz.prog 149 [.agg [.sl (.ints U), .sl (.rows E)], .sl (.ints set)] (.one (.own 3 (.ints (JF E set E.length))))) ∧ ((JF E set E.length).length = (JF E set E.length).length) ∧ ((1 : Nat) = 1) ∧ (((JF E set E.length).length + 1) * 8 ≤ 140737488355328) ∧ (((JF E set E.length).length + 1) = (JF E set E.length ++ [0]).length) ∧ (PC Tryz.prog 191 [.sl (.ints (JF E set E.length ++ [0]))] (.one (.d (.int .i64 (J7j (JF E set E.length ++ [0])))))) ∧ (((J7j (JF E set E.length ++ [0])) = (Jy E set)))
theorem J8v (U : ZI) (E : ZR) (set : ZI) (ht : (J0 U E && J2 set 0 ((U.length : Int) - 1) && decide (0 < set.length)) = true) (w_Open : (U.length : Int) ≤ 9223372036854775807) (w_Dist : (E.length : Int) ≤ 9223372036854775807) (v_Dist : ∀ x9 ∈ E, (x9.length : Int) ≤ 9223372036854775807) (w_set : (set.length : Int) ≤ 9223372036854775807) : J5n U E set := by
  unfold J5n
  obtain ⟨hg, hs, hp⟩ := J3b ht
  obtain ⟨g1, g2, g3⟩ := Jb hg
  refine ⟨?_, rfl, rfl, ?_, ?_, ?_, ?_⟩
  ·refine J7k U E set ?_
   ·exact ht
  ·rw [J3c]; omega
  ·(simp_all; done)
  ·refine J5t (JF E set E.length ++ [0]) ?_
   ·simp
  exact Jef E set
theorem J4Y (U : ZI) (E : ZR) (set : ZI) (ht : (J0 U E && J2 set 0 ((U.length : Int) - 1) && decide (0 < set.length)) = true) : PC Tryz.prog 96 [.agg [.sl (.ints U), .sl (.rows E)], .sl (.ints set)] (.one (.d (.int .i64 (Jy E set)))) :=
  pc_wf @Tryz.call96 fun hw => pc_by (by kernel_rfl) Tryz.func96 @Tryz.call96 (by kernel_rfl) J96 (J8U U E set) (by kernel_rfl) (J8v U E set ht hw.1.1 hw.1.2.1.1 hw.1.2.1.2 hw.2.1) (by kernel_rfl)
def J4C : List D → Orc := orcN [none, some .ints] fun ds => match ds with
  | [.agg [.sl (.ints U), .sl (.rows E)], .sl (.ints set)] => some (.one (.d (.int .i64 (Jy E set))))
  | _ => none
abbrev J0X (U : ZI) (E : ZR) (r : Int) (i : Int) : Prop := (0 ≤ i) ∧ (i ≤ ((Jf (U.length : Int).toNat).length : Int)) ∧ (∀ k, k < i.toNat → (fun s => decide (Jy E s ≤ r)) ((Jf (U.length : Int).toNat).getD k []) = false)
abbrev J0R (U : ZI) (E : ZR) (r : Int) (i : Int) : Nat := ((Jf (U.length : Int).toNat).length - i).toNat
def J7P (f : FuncId) (ds : List D) : Orc := bif Nat.beq f 114 then J1m ds else bif Nat.beq f 115 then JcP ds else bif Nat.beq f 96 then J4C ds else .no
def J7X (U : ZI) (E : ZR) (r : Int) : Ann := .two (.none) (.two (.none) (.two (.two (.none) (.loop (cut1 (fun (i : Int) => J0X U E r i) (fun (i : Int) => [(1, .d false (.int .i64 r)), (2, .ptr 2 0), (15, .own 15 ((Jf (U.length : Int).toNat).length)), (16, .d true (.int .i64 (((Jf (U.length : Int).toNat).length) : Int))), (17, .d true (.int .i64 i))]) (fun (i : Int) => [(2, .box 27 [.d false (.sl (.ints U)), .d false (.sl (.rows E))]), (15, .arr true 24 (.rows (Jf (U.length : Int).toNat)))])) (fun g => J0R U E r g) (fun _ => .none))) (.none)))
def J4F (U : ZI) (E : ZR) (r : Int) : Prop :=
  (PC Tryz.prog 114 [.agg [.sl (.ints U), .sl (.rows E)], .int .i64 r] (.one (.d (.bool (J0 U E && decide (0 ≤ r)))))) ∧ (((!(J0 U E && decide (0 ≤ r))) = true → (((JH U E r).length = 0) ∧ (false = (Js U E r)))) ∧ ((!(J0 U E && decide (0 ≤ r))) = false → (PC Tryz.prog 115 [.int .i64 (U.length : Int)] (.one (.own 24 (.rows (Jf (U.length : Int).toNat))))) ∧ ((∃ i' : Int, (J0X U E r i') ∧ (r = r) ∧ ((Jf (U.length : Int).toNat).length = (Jf (U.length : Int).toNat).length) ∧ ((((Jf (U.length : Int).toNat).length) : Int) = (((Jf (U.length : Int).toNat).length) : Int)) ∧ ((0 : Int) = i') ∧ (U = U) ∧ (E = E) ∧ (Jf (U.length : Int).toNat = Jf (U.length : Int).toNat)) ∧ (∀ i : Int, (J0X U E r i) → (((decide (i < (((Jf (U.length : Int).toNat).length) : Int))) = true → ((0 : Int) ≤ i) ∧ ((i : Int) < (((Jf (U.length : Int).toNat).length) : Int)) ∧ (i.toNat < (Jf (U.length : Int).toNat).length) ∧ (PC Tryz.prog 96 [.agg [.sl (.ints U), .sl (.rows E)], .sl (.ints ((Jf (U.length : Int).toNat).getD i.toNat []))] (.one (.d (.int .i64 (Jy E ((Jf (U.length : Int).toNat).getD i.toNat [])))))) ∧ (((decide ((Jy E ((Jf (U.length : Int).toNat).getD i.toNat [])) ≤ r)) = true → (((((Jf (U.length : Int).toNat).getD i.toNat []) : ZI) = (JH U E r)) ∧ (true = (Js U E r)))) ∧ ((decide ((Jy E ((Jf (U.length : Int).toNat).getD i.toNat [])) ≤ r)) = false → (I6 (i + 1)) ∧ (∃ i' : Int, (J0X U E r i') ∧ (J0R U E r i' < J0R U E r i) ∧ (r = r) ∧ ((Jf (U.length : Int).toNat).length = (Jf (U.length : Int).toNat).length) ∧ ((((Jf (U.length : Int).toNat).length) : Int) = (((Jf (U.length : Int).toNat).length) : Int)) ∧ ((i + 1) = i') ∧ (U = U) ∧ (E = E) ∧ (Jf (U.length : Int).toNat = Jf (U.length : Int).toNat))))) ∧ ((decide (i < (((Jf (U.length : Int).toNat).length) : Int))) = false → (((JH U E r).length = 0) ∧ (false = (Js U E r)))))))))
theorem J79 (U : ZI) (E : ZR) (r : Int)  (w_Open : (U.length : Int) ≤ 9223372036854775807) (w_Dist : (E.length : Int) ≤ 9223372036854775807) (v_Dist : ∀ x9 ∈ E, (x9.length : Int) ≤ 9223372036854775807) : J4F U E r := by
  unfold J4F
  refine ⟨J1v U E r, ?_, ?_⟩
  ·intro b1
   try simp only [Bool.not_eq_true', Bool.not_eq_false', Bool.not_not] at b1
   refine ⟨?_, ?_⟩
   ·obtain ⟨c1, c2⟩ := J6s (U := U) (E := E) (r := r) (.inl (by simpa using b1))
    (rw [c2]; rfl)
   obtain ⟨c1, c2⟩ := J6s (U := U) (E := E) (r := r) (.inl (by simpa using b1))
   exact c1.symm
  intro b2
  try simp only [Bool.not_eq_true', Bool.not_eq_false', Bool.not_not] at b2
  refine ⟨?_, ?_, ?_⟩
  ·refine JdK (U.length : Int) ?_
   ·have hgr : (J0 U E && decide (0 ≤ r)) = true := by simpa using b2
    rw [Bool.and_eq_true] at hgr
    obtain ⟨hg, hr⟩ := hgr
    have hr := of_decide_eq_true hr
    have := Jb hg
    omega
  ·refine ⟨0, ?_⟩
   refine ⟨?_, rfl, rfl, rfl, rfl, rfl, rfl, rfl⟩
   ·refine ⟨?_, ?_, ?_⟩
    ·omega
    ·omega
    ·intro k hk; exact absurd hk (by simp)
  intro i hJ
  obtain ⟨h1, h2, h3⟩ := hJ
  refine ⟨?_, ?_⟩
  ·intro b3
   try simp only [nrmT] at b3
   refine ⟨?_, ?_, ?_, ?_, ?_, ?_⟩
   ·omega
   ·omega
   ·omega
   ·refine J4Y U E ((Jf (U.length : Int).toNat).getD i.toNat []) ?_
    ·have hgr : (J0 U E && decide (0 ≤ r)) = true := by simpa using b2
     rw [Bool.and_eq_true] at hgr
     obtain ⟨hg, hr⟩ := hgr
     have hr := of_decide_eq_true hr
     have ht2 := (J7B hg (getD_memI (d := []) h1 (by omega : i < ((Jf (U.length : Int).toNat).length : Int)))).1
     exact ht2
   ·intro b4
    try simp only [nrmT] at b4
    refine ⟨?_, ?_⟩
    ·have hgr : (J0 U E && decide (0 ≤ r)) = true := by simpa using b2
     rw [Bool.and_eq_true] at hgr
     obtain ⟨hg, hr⟩ := hgr
     have hr := of_decide_eq_true hr
     have ht2 := (J7B hg (getD_memI (d := []) h1 (by omega : i < ((Jf (U.length : Int).toNat).length : Int)))).1
     obtain ⟨c1, c2⟩ := Jcj hg hr h1 (idx_found (p := fun s => decide (Jy E s ≤ r)) (d := []) h1 (by omega) h3 (by simpa using b4)).symm
     exact c2.symm
    have hgr : (J0 U E && decide (0 ≤ r)) = true := by simpa using b2
    rw [Bool.and_eq_true] at hgr
    obtain ⟨hg, hr⟩ := hgr
    have hr := of_decide_eq_true hr
    have ht2 := (J7B hg (getD_memI (d := []) h1 (by omega : i < ((Jf (U.length : Int).toNat).length : Int)))).1
    obtain ⟨c1, c2⟩ := Jcj hg hr h1 (idx_found (p := fun s => decide (Jy E s ≤ r)) (d := []) h1 (by omega) h3 (by simpa using b4)).symm
    exact c1.symm
   intro b5
   try simp only [nrmT] at b5
   refine ⟨?_, ?_⟩
   ·have hgr : (J0 U E && decide (0 ≤ r)) = true := by simpa using b2
    rw [Bool.and_eq_true] at hgr
    obtain ⟨hg, hr⟩ := hgr
    have hr := of_decide_eq_true hr
    have := Jb hg
    have := JcB (n := (U.length : Int).toNat) (by omega)
    omega
   refine ⟨(i + 1), ?_⟩
   refine ⟨?_, ?_, rfl, rfl, rfl, rfl, rfl, rfl, rfl⟩
   ·refine ⟨?_, ?_, ?_⟩
    ·omega
    ·omega
    ·exact idx_step (p := fun s => decide (Jy E s ≤ r)) h1 h3 (by simpa using b5)
   (simp only [J0R]; omega)
  intro b6
  try simp only [nrmT] at b6
  refine ⟨?_, ?_⟩
  ·have hgr : (J0 U E && decide (0 ≤ r)) = true := by simpa using b2
   rw [Bool.and_eq_true] at hgr
   obtain ⟨hg, hr⟩ := hgr
   have hr := of_decide_eq_true hr
   obtain ⟨c1, c2⟩ := J6s (U := U) (E := E) (r := r) (.inr (idx_none (p := fun s => decide (Jy E s ≤ r)) (d := []) (by omega) h3))
   (rw [c2]; rfl)
  have hgr : (J0 U E && decide (0 ≤ r)) = true := by simpa using b2
  rw [Bool.and_eq_true] at hgr
  obtain ⟨hg, hr⟩ := hgr
  have hr := of_decide_eq_true hr
  obtain ⟨c1, c2⟩ := J6s (U := U) (E := E) (r := r) (.inr (idx_none (p := fun s => decide (Jy E s ≤ r)) (d := []) (by omega) h3))
  exact c1.symm
theorem J4l (U : ZI) (E : ZR) (r : Int)  : PC Tryz.prog 27 [.agg [.sl (.ints U), .sl (.rows E)], .int .i64 r] (.tup [.d (.sl (.ints (JH U E r))), .d (.bool (Js U E r))]) :=
  pc_wf @Tryz.call27 fun hw => pc_by (by kernel_rfl) Tryz.func27 @Tryz.call27 (by kernel_rfl) J7P (J7X U E r) (by kernel_rfl) (J79 U E r hw.1.1 hw.1.2.1.1 hw.1.2.1.2) (by kernel_rfl)
def J6F : List D → Orc := orcN [none, none] fun ds => match ds with
  | [.agg [.sl (.ints U), .sl (.rows E)], .int .i64 r] => some (.tup [.d (.sl (.ints (JH U E r))), .d (.bool (Js U E r))])
  | _ => none
def chs (n : Nat) : ZR := [[]] ++ Jf n
theorem Jci {n : Nat} {s : ZI} : s ∈ chs n ↔ ∃ c, c < 2 ^ n ∧ lst n c = s := by
  unfold chs
  rw [List.mem_append, Jar]
  have h0 : lst n 0 = [] := by
    cases e : lst n 0 with
    | nil => rfl
    | cons x r =>
      have hm : x ∈ lst n 0 := by rw [e]; exact List.mem_cons_self
      have := (mem_members.1 hm).2.2
      rw [Nat.zero_testBit] at this
      cases this
  constructor
  · rintro (h | ⟨c, h1, h2, h3⟩)
    · exact ⟨0, Nat.two_pow_pos n, by rw [List.mem_singleton.1 h, h0]⟩
    · exact ⟨c, h2, h3⟩
  rintro ⟨c, h1, h2⟩
  by_cases e : c = 0
  · left; rw [← h2, e, h0]; exact List.mem_singleton.2 rfl
  exact .inr ⟨c, by omega, h1, h2⟩
/-- How far a cursor has read, and its seed. -/
structure Cur where
  pos : Int
  seed : Int
abbrev J42 : Cur := ⟨0, 0⟩
def okC (c : Cur) (b : Int) : Prop := 0 ≤ c.pos ∧ c.pos ≤ b ∧ 0 ≤ c.seed ∧ c.seed ≤ 18446744073709551615
theorem J6T (g : Bool) (a b : Cur) : cond g a.pos b.pos = (cond g a b).pos := by cases g <;> rfl
theorem J6u (g : Bool) (a b : Cur) : cond g a.seed b.seed = (cond g a b).seed := by cases g <;> rfl
def nxB (code : List Nat) (c : Cur) : Int := if c.pos < (code.length : Int) then ((code.getD c.pos.toNat 0 : Nat) : Int) else 0
def Jd (code : List Nat) (c : Cur) : Cur := ⟨c.pos + 1, IntKind.u64.wrap (IntKind.u64.wrap (IntKind.u64.wrap (c.seed * 6364136223846793005) + nxB code c) + 462197)⟩
def JK (code : List Nat) (c : Cur) : Int := if c.pos + 1 ≤ (code.length : Int) then nxB code c else ((((Jd code c).seed / 2 ^ 40).toNat &&& 255 : Nat) : Int)
theorem J8k (n : Int) : 0 ≤ IntKind.u64.wrap n ∧ IntKind.u64.wrap n ≤ 18446744073709551615 := by
  have h : IntKind.u64.wrap n = n % 18446744073709551616 := rfl
  omega
theorem Jdh {code : List Nat} (hb : ∀ x9 ∈ code, x9 < 256) (c : Cur) (h0 : 0 ≤ c.pos) : 0 ≤ nxB code c ∧ nxB code c ≤ 255 := by
  unfold nxB
  split
  · have := hb _ (getD_mem (d := 0) (show c.pos.toNat < code.length by omega))
    omega
  omega
theorem Jdr (n : Nat) : n &&& 255 ≤ 255 := Nat.and_le_right
theorem J1U {code : List Nat} (hb : ∀ x9 ∈ code, x9 < 256) {c : Cur} (h0 : 0 ≤ c.pos) : 0 ≤ JK code c ∧ JK code c ≤ 255 := by
  unfold JK
  split
  · exact Jdh hb c h0
  have := Jdr ((Jd code c).seed / 2 ^ 40).toNat
  omega
theorem J0C {code : List Nat} {c : Cur} {b : Int} (h : okC c b) : okC (Jd code c) (b + 1) := by
  obtain ⟨h1, h2, _, _⟩ := h
  exact ⟨by show 0 ≤ c.pos + 1; omega, by show c.pos + 1 ≤ b + 1; omega, (J8k _).1, (J8k _).2⟩
theorem J5 {c : Cur} {b b' : Int} (h : okC c b) (hb : b ≤ b') : okC c b' := ⟨h.1, Int.le_trans h.2.1 hb, h.2.2⟩
def J9R (f : FuncId) (ds : List D) : Orc := .no
def Ja0 (u : Value) (code : List Nat) (c : Cur) : Ann := .two (.none) (.two (.none) (.two (.none) (.two (.none) (.two (.reg [(5, .wrap), (8, .wrap), (9, .wrap)]) (.none)))))
def J3Z (u : Value) (code : List Nat) (c : Cur) : Prop :=
  (true = true) ∧ (((decide (c.pos < (code.length : Int))) = true → (true = true) ∧ ((0 : Int) ≤ c.pos) ∧ ((c.pos : Int) < code.length) ∧ (c.pos.toNat < code.length) ∧ (I6 ((code.getD c.pos.toNat 0 : Nat) : Int)) ∧ (I6 (c.pos + 1)) ∧ (0 ≤ ((code.getD c.pos.toNat 0 : Nat) : Int) ∧ ((code.getD c.pos.toNat 0 : Nat) : Int) ≤ 18446744073709551615) ∧ (true = true) ∧ (((decide ((c.pos + 1) ≤ (code.length : Int))) = true → (((.lit u (.sl (.bytes code)) : D) = .lit u (.sl (.bytes code))) ∧ ((c.pos + 1) = (Jd code c).pos) ∧ ((IntKind.u64.wrap ((IntKind.u64.wrap ((IntKind.u64.wrap (c.seed * 6364136223846793005)) + ((code.getD c.pos.toNat 0 : Nat) : Int))) + 462197)) = (Jd code c).seed) ∧ (((code.getD c.pos.toNat 0 : Nat) : Int) = (JK code c)))) ∧ ((decide ((c.pos + 1) ≤ (code.length : Int))) = false → ((0 : Int) ≤ (IntKind.u64.wrap ((IntKind.u64.wrap ((IntKind.u64.wrap (c.seed * 6364136223846793005)) + ((code.getD c.pos.toNat 0 : Nat) : Int))) + 462197)) ∧ ((IntKind.u64.wrap ((IntKind.u64.wrap ((IntKind.u64.wrap (c.seed * 6364136223846793005)) + ((code.getD c.pos.toNat 0 : Nat) : Int))) + 462197)) : Int) ≤ 18446744073709551615) ∧ ((0 : Int) ≤ 40) ∧ ((0 : Int) ≤ ((IntKind.u64.wrap ((IntKind.u64.wrap ((IntKind.u64.wrap (c.seed * 6364136223846793005)) + ((code.getD c.pos.toNat 0 : Nat) : Int))) + 462197)) / 2 ^ 40) ∧ (((IntKind.u64.wrap ((IntKind.u64.wrap ((IntKind.u64.wrap (c.seed * 6364136223846793005)) + ((code.getD c.pos.toNat 0 : Nat) : Int))) + 462197)) / 2 ^ 40) : Int) ≤ 18446744073709551615) ∧ ((0 : Int) ≤ 255 ∧ (255 : Int) ≤ 18446744073709551615) ∧ (I6 ((((IntKind.u64.wrap ((IntKind.u64.wrap ((IntKind.u64.wrap (c.seed * 6364136223846793005)) + ((code.getD c.pos.toNat 0 : Nat) : Int))) + 462197)) / 2 ^ 40).toNat &&& 255 : Nat) : Int)) ∧ (((.lit u (.sl (.bytes code)) : D) = .lit u (.sl (.bytes code))) ∧ ((c.pos + 1) = (Jd code c).pos) ∧ ((IntKind.u64.wrap ((IntKind.u64.wrap ((IntKind.u64.wrap (c.seed * 6364136223846793005)) + ((code.getD c.pos.toNat 0 : Nat) : Int))) + 462197)) = (Jd code c).seed) ∧ (((((IntKind.u64.wrap ((IntKind.u64.wrap ((IntKind.u64.wrap (c.seed * 6364136223846793005)) + ((code.getD c.pos.toNat 0 : Nat) : Int))) + 462197)) / 2 ^ 40).toNat &&& 255 : Nat) : Int) = (JK code c)))))) ∧ ((decide (c.pos < (code.length : Int))) = false → (I6 (c.pos + 1)) ∧ (0 ≤ (0 : Int) ∧ (0 : Int) ≤ 18446744073709551615) ∧ (true = true) ∧ (((decide ((c.pos + 1) ≤ (code.length : Int))) = true → (((.lit u (.sl (.bytes code)) : D) = .lit u (.sl (.bytes code))) ∧ ((c.pos + 1) = (Jd code c).pos) ∧ ((IntKind.u64.wrap ((IntKind.u64.wrap ((IntKind.u64.wrap (c.seed * 6364136223846793005)) + 0)) + 462197)) = (Jd code c).seed) ∧ ((0 : Int) = (JK code c)))) ∧ ((decide ((c.pos + 1) ≤ (code.length : Int))) = false → ((0 : Int) ≤ (IntKind.u64.wrap ((IntKind.u64.wrap ((IntKind.u64.wrap (c.seed * 6364136223846793005)) + 0)) + 462197)) ∧ ((IntKind.u64.wrap ((IntKind.u64.wrap ((IntKind.u64.wrap (c.seed * 6364136223846793005)) + 0)) + 462197)) : Int) ≤ 18446744073709551615) ∧ ((0 : Int) ≤ 40) ∧ ((0 : Int) ≤ ((IntKind.u64.wrap ((IntKind.u64.wrap ((IntKind.u64.wrap (c.seed * 6364136223846793005)) + 0)) + 462197)) / 2 ^ 40) ∧ (((IntKind.u64.wrap ((IntKind.u64.wrap ((IntKind.u64.wrap (c.seed * 6364136223846793005)) + 0)) + 462197)) / 2 ^ 40) : Int) ≤ 18446744073709551615) ∧ ((0 : Int) ≤ 255 ∧ (255 : Int) ≤ 18446744073709551615) ∧ (I6 ((((IntKind.u64.wrap ((IntKind.u64.wrap ((IntKind.u64.wrap (c.seed * 6364136223846793005)) + 0)) + 462197)) / 2 ^ 40).toNat &&& 255 : Nat) : Int)) ∧ (((.lit u (.sl (.bytes code)) : D) = .lit u (.sl (.bytes code))) ∧ ((c.pos + 1) = (Jd code c).pos) ∧ ((IntKind.u64.wrap ((IntKind.u64.wrap ((IntKind.u64.wrap (c.seed * 6364136223846793005)) + 0)) + 462197)) = (Jd code c).seed) ∧ (((((IntKind.u64.wrap ((IntKind.u64.wrap ((IntKind.u64.wrap (c.seed * 6364136223846793005)) + 0)) + 462197)) / 2 ^ 40).toNat &&& 255 : Nat) : Int) = (JK code c)))))))
theorem J8V (u : Value) (code : List Nat) (c : Cur) (hb : ∀ x9 ∈ code, x9 < 256) (hc : okC c 1000000000000)  : J3Z u code c := by
  unfold J3Z
  obtain ⟨c1, c2, c3, c4⟩ := hc
  have nb := Jdh hb c c1
  have w64 := J8k
  refine ⟨rfl, ?_, ?_⟩
  ·intro b1
   try simp only [nrmT] at b1
   refine ⟨rfl, ?_, ?_, ?_, ?_, ?_, ?_, rfl, ?_, ?_⟩
   ·omega
   ·omega
   ·omega
   ·have := hb _ (getD_mem (d := 0) (show c.pos.toNat < code.length by omega))
    omega
   ·omega
   ·have := hb _ (getD_mem (d := 0) (show c.pos.toNat < code.length by omega))
    omega
   ·intro b2
    try simp only [nrmT] at b2
    refine ⟨rfl, ?_, ?_, ?_⟩
    ·rfl
    ·have hs : (Jd code c).seed = IntKind.u64.wrap (IntKind.u64.wrap (IntKind.u64.wrap (c.seed * 6364136223846793005) + nxB code c) + 462197) := rfl
     first | rw [show nxB code c = ((code.getD c.pos.toNat 0 : Nat) : Int) from if_pos (by omega)] at hs | rw [show nxB code c = 0 from if_neg (by omega)] at hs
     first | exact hs.symm | (exfalso; omega)
    unfold JK nxB; rw [if_pos (by omega), if_pos (by omega)]
   intro b3
   try simp only [nrmT] at b3
   refine ⟨?_, ?_, ?_, ?_, ?_, rfl, ?_, ?_, ?_⟩
   ·have := hb _ (getD_mem (d := 0) (show c.pos.toNat < code.length by omega))
    omega
   ·omega
   ·have := hb _ (getD_mem (d := 0) (show c.pos.toNat < code.length by omega))
    omega
   ·omega
   ·have := hb _ (getD_mem (d := 0) (show c.pos.toNat < code.length by omega))
    omega
   ·omega
   ·have hs : (Jd code c).seed = IntKind.u64.wrap (IntKind.u64.wrap (IntKind.u64.wrap (c.seed * 6364136223846793005) + nxB code c) + 462197) := rfl
    first | rw [show nxB code c = ((code.getD c.pos.toNat 0 : Nat) : Int) from if_pos (by omega)] at hs | rw [show nxB code c = 0 from if_neg (by omega)] at hs
    first | exact hs.symm | (exfalso; omega)
   have hs : (Jd code c).seed = IntKind.u64.wrap (IntKind.u64.wrap (IntKind.u64.wrap (c.seed * 6364136223846793005) + nxB code c) + 462197) := rfl
   first | rw [show nxB code c = ((code.getD c.pos.toNat 0 : Nat) : Int) from if_pos (by omega)] at hs | rw [show nxB code c = 0 from if_neg (by omega)] at hs
   unfold JK
   rw [if_neg (by omega), hs]
  intro b4
  try simp only [nrmT] at b4
  refine ⟨?_, ?_, rfl, ?_, ?_⟩
  ·omega
  ·omega
  ·intro b5
   try simp only [nrmT] at b5
   refine ⟨rfl, ?_, ?_, ?_⟩
   ·omega
   ·have hs : (Jd code c).seed = IntKind.u64.wrap (IntKind.u64.wrap (IntKind.u64.wrap (c.seed * 6364136223846793005) + nxB code c) + 462197) := rfl
    first | rw [show nxB code c = ((code.getD c.pos.toNat 0 : Nat) : Int) from if_pos (by omega)] at hs | rw [show nxB code c = 0 from if_neg (by omega)] at hs
    first | exact hs.symm | (exfalso; omega)
   omega
  intro b6
  try simp only [nrmT] at b6
  refine ⟨?_, ?_, ?_, ?_, ?_, rfl, ?_, ?_, ?_⟩
  ·exact w64 _
  ·omega
  ·have := w64 (IntKind.u64.wrap (IntKind.u64.wrap (c.seed * 6364136223846793005) + 0) + 462197)
   generalize IntKind.u64.wrap (IntKind.u64.wrap (IntKind.u64.wrap (c.seed * 6364136223846793005) + 0) + 462197) = z at *
   omega
  ·omega
  ·have := Jdr ((IntKind.u64.wrap (IntKind.u64.wrap (IntKind.u64.wrap (c.seed * 6364136223846793005) + 0) + 462197)) / 2 ^ 40).toNat
   omega
  ·rfl
  ·have hs : (Jd code c).seed = IntKind.u64.wrap (IntKind.u64.wrap (IntKind.u64.wrap (c.seed * 6364136223846793005) + nxB code c) + 462197) := rfl
   first | rw [show nxB code c = ((code.getD c.pos.toNat 0 : Nat) : Int) from if_pos (by omega)] at hs | rw [show nxB code c = 0 from if_neg (by omega)] at hs
   first | exact hs.symm | (exfalso; omega)
  have hs : (Jd code c).seed = IntKind.u64.wrap (IntKind.u64.wrap (IntKind.u64.wrap (c.seed * 6364136223846793005) + nxB code c) + 462197) := rfl
  first | rw [show nxB code c = ((code.getD c.pos.toNat 0 : Nat) : Int) from if_pos (by omega)] at hs | rw [show nxB code c = 0 from if_neg (by omega)] at hs
  unfold JK
  rw [if_neg (by omega), hs]
theorem J5k (code : List Nat) (c : Cur) (hb : ∀ x9 ∈ code, x9 < 256) (hc : okC c 1000000000000) : PK Tryz.prog 213 76 (.sl (.bytes code)) [.int .i64 c.pos, .int .u64 c.seed] [.int .i64 (Jd code c).pos, .int .u64 (Jd code c).seed] [] (.one (.d (.int .i64 (JK code c)))) :=
  pk_by (Q := fun u => J3Z u code c) (by kernel_rfl) Tryz.func213 @Tryz.call213 (by kernel_rfl) J9R (fun u => Ja0 u code c) (by kernel_rfl) (fun u => J8V u code c hb hc) (fun u => by kernel_rfl)
def J1 (code : List Nat) (c : Cur) (n : Int) : Cur := if n ≤ 1 then c else if n > 200 then Jd code (Jd code c) else Jd code c
def J3 (code : List Nat) (c : Cur) (n : Int) : Int := if n ≤ 1 then 0 else (if n > 200 then JK code c * 256 + JK code (Jd code c) else JK code c) % n
theorem Ja {code : List Nat} {c : Cur} {n b : Int} (h : okC c b) : okC (J1 code c n) (b + 2) := by
  unfold J1
  split
  · exact J5 h (by omega)
  split
  · have := J0C (code := code) (J0C (code := code) h)
    exact J5 this (by omega)
  · exact J5 (J0C h) (by omega)
theorem Jt (code : List Nat) (c : Cur) {n : Int} (hn : 1 ≤ n) : 0 ≤ J3 code c n ∧ J3 code c n < n := by
  unfold J3
  split
  · omega
  exact ⟨Int.emod_nonneg _ (by omega), Int.emod_lt_of_pos _ (by omega)⟩
def J9A (f : FuncId) (ds : List D) : Orc := .no
def J9D (u : Value) (code : List Nat) (c : Cur) (n : Int) : Ann := .two (.none) (.two (.none) (.two (.mark [] [(1, .cell [.int .i64 ((Jd code c).pos), .int .u64 ((Jd code c).seed)] (.one (.d (.int .i64 (JK code c)))))]) (.two (.two (.none) (.two (.mark [] [(3, .cell [.int .i64 ((Jd code (Jd code c)).pos), .int .u64 ((Jd code (Jd code c)).seed)] (.one (.d (.int .i64 (JK code (Jd code c))))))]) (.none))) (.none))))
def J40 (u : Value) (code : List Nat) (c : Cur) (n : Int) : Prop :=
  (((decide (n ≤ 1)) = true → (((.lit u (.sl (.bytes code)) : D) = .lit u (.sl (.bytes code))) ∧ (c.pos = (J1 code c n).pos) ∧ (c.seed = (J1 code c n).seed) ∧ ((0 : Int) = (J3 code c n)))) ∧ ((decide (n ≤ 1)) = false → (PK Tryz.prog 213 76 (.sl (.bytes code)) [.int .i64 c.pos, .int .u64 c.seed] [.int .i64 ((Jd code c).pos), .int .u64 ((Jd code c).seed)] [] (.one (.d (.int .i64 (JK code c))))) ∧ (((decide (n > 200)) = true → (I6 ((JK code c) * 256)) ∧ (PK Tryz.prog 213 76 (.sl (.bytes code)) [.int .i64 ((Jd code c).pos), .int .u64 ((Jd code c).seed)] [.int .i64 ((Jd code (Jd code c)).pos), .int .u64 ((Jd code (Jd code c)).seed)] [] (.one (.d (.int .i64 (JK code (Jd code c)))))) ∧ (I6 (((JK code c) * 256) + (JK code (Jd code c)))) ∧ ((0 : Int) ≤ (((JK code c) * 256) + (JK code (Jd code c)))) ∧ ((1 : Int) ≤ n) ∧ (((.lit u (.sl (.bytes code)) : D) = .lit u (.sl (.bytes code))) ∧ ((Jd code (Jd code c)).pos = (J1 code c n).pos) ∧ ((Jd code (Jd code c)).seed = (J1 code c n).seed) ∧ (((((JK code c) * 256) + (JK code (Jd code c))) % n) = (J3 code c n)))) ∧ ((decide (n > 200)) = false → ((0 : Int) ≤ (JK code c)) ∧ ((1 : Int) ≤ n) ∧ (((.lit u (.sl (.bytes code)) : D) = .lit u (.sl (.bytes code))) ∧ ((Jd code c).pos = (J1 code c n).pos) ∧ ((Jd code c).seed = (J1 code c n).seed) ∧ (((JK code c) % n) = (J3 code c n)))))))
theorem J9m (u : Value) (code : List Nat) (c : Cur) (n : Int) (hb : ∀ x9 ∈ code, x9 < 256) (hc : okC c 900000000000)  : J40 u code c n := by
  unfold J40
  refine ⟨?_, ?_⟩
  ·intro b1
   try simp only [nrmT] at b1
   refine ⟨rfl, ?_, ?_, ?_⟩
   ·unfold J1; first | rw [if_pos (by omega)] | rw [if_neg (by omega), if_pos (by omega)] | rw [if_neg (by omega), if_neg (by omega)]
   ·unfold J1; first | rw [if_pos (by omega)] | rw [if_neg (by omega), if_pos (by omega)] | rw [if_neg (by omega), if_neg (by omega)]
   unfold J3; first | rw [if_pos (by omega)] | rw [if_neg (by omega), if_pos (by omega)] | rw [if_neg (by omega), if_neg (by omega)]
  intro b2
  try simp only [nrmT] at b2
  refine ⟨?_, ?_, ?_⟩
  ·refine J5k code c ?_ ?_
   ·exact hb
   ·exact J5 (by assumption) (by omega)
  ·intro b3
   try simp only [nrmT] at b3
   refine ⟨?_, ?_, ?_, ?_, ?_, rfl, ?_, ?_, ?_⟩
   ·have q0 := J1U hb (c := c) hc.1
    have q1 := J1U hb (c := Jd code c) (J0C hc).1
    omega
   ·refine J5k code (Jd code c) ?_ ?_
    ·exact hb
    ·exact J5 (J0C (by assumption)) (by omega)
   ·have q0 := J1U hb (c := c) hc.1
    have q1 := J1U hb (c := Jd code c) (J0C hc).1
    omega
   ·have q0 := J1U hb (c := c) hc.1
    have q1 := J1U hb (c := Jd code c) (J0C hc).1
    omega
   ·omega
   ·unfold J1; first | rw [if_pos (by omega)] | rw [if_neg (by omega), if_pos (by omega)] | rw [if_neg (by omega), if_neg (by omega)]
   ·unfold J1; first | rw [if_pos (by omega)] | rw [if_neg (by omega), if_pos (by omega)] | rw [if_neg (by omega), if_neg (by omega)]
   unfold J3; first | rw [if_pos (by omega)] | rw [if_neg (by omega), if_pos (by omega)] | rw [if_neg (by omega), if_neg (by omega)]
  intro b4
  try simp only [nrmT] at b4
  refine ⟨?_, ?_, rfl, ?_, ?_, ?_⟩
  ·have q0 := J1U hb (c := c) hc.1
   have q1 := J1U hb (c := Jd code c) (J0C hc).1
   omega
  ·omega
  ·unfold J1; first | rw [if_pos (by omega)] | rw [if_neg (by omega), if_pos (by omega)] | rw [if_neg (by omega), if_neg (by omega)]
  ·unfold J1; first | rw [if_pos (by omega)] | rw [if_neg (by omega), if_pos (by omega)] | rw [if_neg (by omega), if_neg (by omega)]
  unfold J3; first | rw [if_pos (by omega)] | rw [if_neg (by omega), if_pos (by omega)] | rw [if_neg (by omega), if_neg (by omega)]
theorem Jk (code : List Nat) (c : Cur) (n : Int) (hb : ∀ x9 ∈ code, x9 < 256) (hc : okC c 900000000000) : PK Tryz.prog 156 76 (.sl (.bytes code)) [.int .i64 c.pos, .int .u64 c.seed] [.int .i64 (J1 code c n).pos, .int .u64 (J1 code c n).seed] [.int .i64 n] (.one (.d (.int .i64 (J3 code c n)))) :=
  pk_by (Q := fun u => J40 u code c n) (by kernel_rfl) Tryz.func156 @Tryz.call156 (by kernel_rfl) J9A (fun u => J9D u code c n) (by kernel_rfl) (fun u => J9m u code c n hb hc) (fun u => by kernel_rfl)
def J8P (f : FuncId) (ds : List D) : Orc := .no
def J9j (u : Value) (code : List Nat) (c : Cur) (list : ZI) : Ann := .two (.none) (.two (.mark [] [(4, .cell [.int .i64 ((J1 code c (list.length : Int)).pos), .int .u64 ((J1 code c (list.length : Int)).seed)] (.one (.d (.int .i64 (J3 code c (list.length : Int))))))]) (.none))
def J3w (u : Value) (code : List Nat) (c : Cur) (list : ZI) : Prop :=
  (PK Tryz.prog 156 76 (.sl (.bytes code)) [.int .i64 c.pos, .int .u64 c.seed] [.int .i64 ((J1 code c (list.length : Int)).pos), .int .u64 ((J1 code c (list.length : Int)).seed)] [.int .i64 (list.length : Int)] (.one (.d (.int .i64 (J3 code c (list.length : Int)))))) ∧ ((0 : Int) ≤ (J3 code c (list.length : Int))) ∧ (((J3 code c (list.length : Int)) : Int) < list.length) ∧ ((J3 code c (list.length : Int)).toNat < list.length) ∧ (((.lit u (.sl (.bytes code)) : D) = .lit u (.sl (.bytes code))) ∧ ((J1 code c (list.length : Int)).pos = (J1 code c (list.length : Int)).pos) ∧ ((J1 code c (list.length : Int)).seed = (J1 code c (list.length : Int)).seed) ∧ ((list.getD ((J3 code c (list.length : Int)).toNat) 0) = (list.getD (J3 code c (list.length : Int)).toNat 0)))
theorem J8n (u : Value) (code : List Nat) (c : Cur) (list : ZI) (hb : ∀ x9 ∈ code, x9 < 256) (hc : okC c 800000000000) (hl : 0 < list.length)  : J3w u code c list := by
  unfold J3w
  refine ⟨?_, ?_, ?_, ?_, rfl, rfl, rfl, ?_⟩
  ·refine Jk code c (list.length : Int) ?_ ?_
   ·exact hb
   ·exact J5 (by assumption) (by omega)
  ·have := Jt code c (n := (list.length : Int)) (by omega)
   omega
  ·have := Jt code c (n := (list.length : Int)) (by omega)
   omega
  ·have := Jt code c (n := (list.length : Int)) (by omega)
   omega
  have := Jt code c (n := (list.length : Int)) (by omega)
  omega
theorem JV (code : List Nat) (c : Cur) (list : ZI) (hb : ∀ x9 ∈ code, x9 < 256) (hc : okC c 800000000000) (hl : 0 < list.length) : PK Tryz.prog 155 76 (.sl (.bytes code)) [.int .i64 c.pos, .int .u64 c.seed] [.int .i64 (J1 code c (list.length : Int)).pos, .int .u64 (J1 code c (list.length : Int)).seed] [.sl (.ints list)] (.one (.d (.int .i64 (list.getD (J3 code c (list.length : Int)).toNat 0)))) :=
  pk_by (Q := fun u => J3w u code c list) (by kernel_rfl) Tryz.func155 @Tryz.call155 (by kernel_rfl) J8P (fun u => J9j u code c list) (by kernel_rfl) (fun u => J8n u code c list hb hc hl) (fun u => by kernel_rfl)
def JaD (f : FuncId) (ds : List D) : Orc := .no
def JaA (u : Value) (code : List Nat) (c : Cur) (n : Int) : Ann := .two (.none) (.two (.mark [] [(2, .cell [.int .i64 ((J1 code c n).pos), .int .u64 ((J1 code c n).seed)] (.one (.d (.int .i64 (J3 code c n)))))]) (.none))
def J4t (u : Value) (code : List Nat) (c : Cur) (n : Int) : Prop :=
  (PK Tryz.prog 156 76 (.sl (.bytes code)) [.int .i64 c.pos, .int .u64 c.seed] [.int .i64 ((J1 code c n).pos), .int .u64 ((J1 code c n).seed)] [.int .i64 n] (.one (.d (.int .i64 (J3 code c n))))) ∧ (((.lit u (.sl (.bytes code)) : D) = .lit u (.sl (.bytes code))) ∧ ((J1 code c n).pos = (J1 code c n).pos) ∧ ((J1 code c n).seed = (J1 code c n).seed) ∧ (((J3 code c n) == 0) = (J3 code c n == 0)))
theorem J9Q (u : Value) (code : List Nat) (c : Cur) (n : Int) (hb : ∀ x9 ∈ code, x9 < 256) (hc : okC c 800000000000)  : J4t u code c n := by
  unfold J4t
  refine ⟨?_, rfl, rfl, rfl, ?_⟩
  ·refine Jk code c n ?_ ?_
   ·exact hb
   ·exact J5 (by assumption) (by omega)
  rfl
theorem J1l (code : List Nat) (c : Cur) (n : Int) (hb : ∀ x9 ∈ code, x9 < 256) (hc : okC c 800000000000) : PK Tryz.prog 124 76 (.sl (.bytes code)) [.int .i64 c.pos, .int .u64 c.seed] [.int .i64 (J1 code c n).pos, .int .u64 (J1 code c n).seed] [.int .i64 n] (.one (.d (.bool (J3 code c n == 0)))) :=
  pk_by (Q := fun u => J4t u code c n) (by kernel_rfl) Tryz.func124 @Tryz.call124 (by kernel_rfl) JaD (fun u => JaA u code c n) (by kernel_rfl) (fun u => J9Q u code c n hb hc) (fun u => by kernel_rfl)
theorem J8E : okC J42 0 := by unfold okC; decide
theorem JdS (l : ZI) (code : List Nat) (c : Cur) (h : 0 < l.length) : l.getD (J3 code c (l.length : Int)).toNat 0 ∈ l := by
  have := Jt code c (n := (l.length : Int)) (by omega)
  exact getD_mem (by omega)
def Jd5 (code : List Nat) (c : Cur) (U : ZI) (E : ZR) : Bool := cond (J0 U E) (!(J3 code c 4 == 0)) false
def J7p (code : List Nat) (c : Cur) (U : ZI) (E : ZR) : Cur := cond (J0 U E) (J1 code c 4) c
def J1R (code : List Nat) (c : Cur) (U : ZI) (E : ZR) : Bool := Jd5 code c U E && decide (0 < (JN E).length)
def J0H (code : List Nat) (c : Cur) (U : ZI) (E : ZR) : Cur := if J1R code c U E = true then J1 code (J7p code c U E) ((JN E).length : Int) else J1 code (J7p code c U E) 6
def J3Y (code : List Nat) (c : Cur) (U : ZI) (E : ZR) : Int := if J1R code c U E = true then (JN E).getD (J3 code (J7p code c U E) ((JN E).length : Int)).toNat 0 else ([0, 3, 10, 99, 4611686018427387904, -1] : ZI).getD (J3 code (J7p code c U E) 6).toNat 0
theorem JdL {code : List Nat} {c : Cur} {U : ZI} {E : ZR} (h : Jd5 code c U E = true) : J0 U E = true := by
  unfold Jd5 at h
  cases hg : J0 U E with
  | true => rfl
  | false => rw [hg] at h; cases h
theorem J7C {code : List Nat} {c : Cur} {U : ZI} {E : ZR} {b : Int} (h : okC c b) : okC (J7p code c U E) (b + 2) := by
  unfold J7p
  cases J0 U E
  · exact J5 h (by omega)
  exact Ja h
theorem Jep {code : List Nat} {c : Cur} {U : ZI} {E : ZR} {b : Int} (h : okC c b) : okC (J0H code c U E) (b + 4) := by
  unfold J0H
  split
  · exact J5 (Ja (J7C h)) (by omega)
  exact J5 (Ja (J7C h)) (by omega)
abbrev J1x (u : Value) (code : List Nat) (c : Cur) (U : ZI) (E : ZR) (gd : Bool) (c1 : Cur) : Prop := (gd = Jd5 code c U E) ∧ (c1 = J7p code c U E)
abbrev J0d (u : Value) (code : List Nat) (c : Cur) (U : ZI) (E : ZR) (c5 : Cur) : Prop := (J1R code c U E = false) ∧ (c5 = J7p code c U E)
def J82 (f : FuncId) (ds : List D) : Orc := bif Nat.beq f 112 then J0K ds else bif Nat.beq f 104 then J8Q ds else .no
def J7O (u : Value) (code : List Nat) (c : Cur) (U : ZI) (E : ZR) : Ann := .two (.none) (.cut (.cut (.mark [] [(4, .cell [.int .i64 ((J1 code c 4).pos), .int .u64 ((J1 code c 4).seed)] (.one (.d (.bool (J3 code c 4 == 0)))))]) (cut2 (fun (gd : Bool) (c1 : Cur) => J1x u code c U E gd c1) (fun (gd : Bool) (c1 : Cur) => [(0, .ptr 0 0), (3, .ptr 3 0), (12, .d true (.bool gd))]) (fun (gd : Bool) (c1 : Cur) => [(0, .box 76 [.d false (.lit u (.sl (.bytes code))), .d true (.int .i64 c1.pos), .d true (.int .u64 c1.seed)]), (3, .box 27 [.d false (.sl (.ints U)), .d false (.sl (.rows E))])])) (fun g => (fun (gd : Bool) (c1 : Cur) => .two (.two (.none) (.two (.none) (.two (.two (.mark [] [(4, .cell [.int .i64 ((J1 code c1 (((JN E).length) : Int)).pos), .int .u64 ((J1 code c1 (((JN E).length) : Int)).seed)] (.one (.d (.int .i64 (J3 code c1 (((JN E).length) : Int))))))]) (.none)) (.none)))) (.none)) (g.1) (g.2))) (cut1 (fun (c5 : Cur) => J0d u code c U E c5) (fun (c5 : Cur) => [(0, .ptr 0 0)]) (fun (c5 : Cur) => [(0, .box 76 [.d false (.lit u (.sl (.bytes code))), .d true (.int .i64 c5.pos), .d true (.int .u64 c5.seed)])])) (fun g => (fun (c5 : Cur) => .two (.mark [] [(2, .cell [.int .i64 ((J1 code c5 (([0, 3, 10, 99, 4611686018427387904, (-1)]).length : Int)).pos), .int .u64 ((J1 code c5 (([0, 3, 10, 99, 4611686018427387904, (-1)]).length : Int)).seed)] (.one (.d (.int .i64 (([0, 3, 10, 99, 4611686018427387904, (-1)]).getD (J3 code c5 (([0, 3, 10, 99, 4611686018427387904, (-1)]).length : Int)).toNat 0)))))]) (.none)) g))
def J2t (u : Value) (code : List Nat) (c : Cur) (U : ZI) (E : ZR) : Prop :=
  ((((PC Tryz.prog 112 [.agg [.sl (.ints U), .sl (.rows E)]] (.one (.d (.bool (J0 U E))))) ∧ ((J0 U E) = true → (J0 U E) = true) ∧ ((J0 U E) = true → PK Tryz.prog 124 76 (.sl (.bytes code)) [.int .i64 c.pos, .int .u64 c.seed] [.int .i64 ((J1 code c 4).pos), .int .u64 ((J1 code c 4).seed)] [.int .i64 4] (.one (.d (.bool (J3 code c 4 == 0))))) ∧ ((J0 U E) = true → (J0 U E) = true) ∧ (true = true) ∧ (((J0 U E) = true → (J0 U E) = true)) ∧ (((J0 U E) = false → true = true)) ∧ (∃ gd' : Bool, ∃ c1' : Cur, (J1x u code c U E gd' c1') ∧ ((cond (J0 U E) (!(J3 code c 4 == 0)) false) = gd') ∧ ((.lit u (.sl (.bytes code)) : D) = .lit u (.sl (.bytes code))) ∧ ((cond (J0 U E) ((J1 code c 4).pos) c.pos) = c1'.pos) ∧ ((cond (J0 U E) ((J1 code c 4).seed) c.seed) = c1'.seed) ∧ (U = U) ∧ (E = E))) ∧ (∀ gd : Bool, ∀ c1 : Cur, (J1x u code c U E gd c1) → ((gd = true → (PC Tryz.prog 104 [.agg [.sl (.ints U), .sl (.rows E)]] (.one (.d (.sl (.ints (JN E)))))) ∧ (((decide ((((JN E).length) : Int) > 0)) = true → (PK Tryz.prog 156 76 (.sl (.bytes code)) [.int .i64 c1.pos, .int .u64 c1.seed] [.int .i64 ((J1 code c1 (((JN E).length) : Int)).pos), .int .u64 ((J1 code c1 (((JN E).length) : Int)).seed)] [.int .i64 (((JN E).length) : Int)] (.one (.d (.int .i64 (J3 code c1 (((JN E).length) : Int)))))) ∧ ((0 : Int) ≤ (J3 code c1 (((JN E).length) : Int))) ∧ (((J3 code c1 (((JN E).length) : Int)) : Int) < (JN E).length) ∧ ((J3 code c1 (((JN E).length) : Int)).toNat < (JN E).length) ∧ (((.lit u (.sl (.bytes code)) : D) = .lit u (.sl (.bytes code))) ∧ ((J1 code c1 (((JN E).length) : Int)).pos = (J0H code c U E).pos) ∧ ((J1 code c1 (((JN E).length) : Int)).seed = (J0H code c U E).seed) ∧ (((JN E).getD ((J3 code c1 (((JN E).length) : Int)).toNat) 0) = (J3Y code c U E)))) ∧ ((decide ((((JN E).length) : Int) > 0)) = false → (∃ c5' : Cur, (J0d u code c U E c5') ∧ ((.lit u (.sl (.bytes code)) : D) = .lit u (.sl (.bytes code))) ∧ (c1.pos = c5'.pos) ∧ (c1.seed = c5'.seed))))) ∧ (gd = false → (∃ c5' : Cur, (J0d u code c U E c5') ∧ ((.lit u (.sl (.bytes code)) : D) = .lit u (.sl (.bytes code))) ∧ (c1.pos = c5'.pos) ∧ (c1.seed = c5'.seed)))))) ∧ (∀ c5 : Cur, (J0d u code c U E c5) → ((6 : Nat) = 6) ∧ (PK Tryz.prog 155 76 (.sl (.bytes code)) [.int .i64 c5.pos, .int .u64 c5.seed] [.int .i64 ((J1 code c5 (([0, 3, 10, 99, 4611686018427387904, (-1)]).length : Int)).pos), .int .u64 ((J1 code c5 (([0, 3, 10, 99, 4611686018427387904, (-1)]).length : Int)).seed)] [.sl (.ints ([0, 3, 10, 99, 4611686018427387904, (-1)]))] (.one (.d (.int .i64 (([0, 3, 10, 99, 4611686018427387904, (-1)]).getD (J3 code c5 (([0, 3, 10, 99, 4611686018427387904, (-1)]).length : Int)).toNat 0))))) ∧ (((.lit u (.sl (.bytes code)) : D) = .lit u (.sl (.bytes code))) ∧ ((J1 code c5 (([0, 3, 10, 99, 4611686018427387904, (-1)]).length : Int)).pos = (J0H code c U E).pos) ∧ ((J1 code c5 (([0, 3, 10, 99, 4611686018427387904, (-1)]).length : Int)).seed = (J0H code c U E).seed) ∧ ((([0, 3, 10, 99, 4611686018427387904, (-1)]).getD (J3 code c5 (([0, 3, 10, 99, 4611686018427387904, (-1)]).length : Int)).toNat 0) = (J3Y code c U E)))))
theorem J7q (u : Value) (code : List Nat) (c : Cur) (U : ZI) (E : ZR) (hb : ∀ x9 ∈ code, x9 < 256) (hc : okC c 10000000)  : J2t u code c U E := by
  unfold J2t
  refine ⟨?_, ?_⟩
  ·refine ⟨?_, ?_⟩
   ·refine ⟨J1a U E, id, ?_, id, rfl, id, fun _ => rfl, ?_⟩
    ·intro hg
     refine J1l code c 4 ?_ ?_
     ·exact hb
     exact J5 hc (by omega)
    ·refine ⟨(cond (J0 U E) (!(J3 code c 4 == 0)) false), (cond (J0 U E) (J1 code c 4) c), ?_⟩
     refine ⟨?_, rfl, rfl, J6T _ _ _, J6u _ _ _, rfl, rfl⟩
     ·refine ⟨?_, ?_⟩
      ·rfl
      ·rfl
   ·intro gd c1 hJ
    obtain ⟨g1, g2⟩ := hJ
    refine ⟨?_, ?_⟩
    ·intro b1
     try simp only [nrmT] at b1
     refine ⟨?_, ?_, ?_⟩
     ·refine J9Z U E ?_
      ·exact JdL (by rw [← g1]; assumption)
     ·intro b2
      try simp only [nrmT] at b2
      refine ⟨?_, ?_, ?_, ?_, rfl, ?_, ?_, ?_⟩
      ·refine Jk code c1 (((JN E).length) : Int) ?_ ?_
       ·exact hb
       ·rw [g2]
        exact J5 (J7C hc) (by omega)
      ·have hh : J1R code c U E = true := by
         unfold J1R
         rw [← g1, b1]
         exact decide_eq_true (by omega)
       have gp := Jt code c1 (n := ((JN E).length : Int)) (by omega)
       omega
      ·have hh : J1R code c U E = true := by
         unfold J1R
         rw [← g1, b1]
         exact decide_eq_true (by omega)
       have gp := Jt code c1 (n := ((JN E).length : Int)) (by omega)
       omega
      ·have hh : J1R code c U E = true := by
         unfold J1R
         rw [← g1, b1]
         exact decide_eq_true (by omega)
       have gp := Jt code c1 (n := ((JN E).length : Int)) (by omega)
       omega
      ·have hh : J1R code c U E = true := by
         unfold J1R
         rw [← g1, b1]
         exact decide_eq_true (by omega)
       have gp := Jt code c1 (n := ((JN E).length : Int)) (by omega)
       unfold J0H; rw [if_pos hh, g2]
      ·have hh : J1R code c U E = true := by
         unfold J1R
         rw [← g1, b1]
         exact decide_eq_true (by omega)
       have gp := Jt code c1 (n := ((JN E).length : Int)) (by omega)
       unfold J0H; rw [if_pos hh, g2]
      have hh : J1R code c U E = true := by
        unfold J1R
        rw [← g1, b1]
        exact decide_eq_true (by omega)
      have gp := Jt code c1 (n := ((JN E).length : Int)) (by omega)
      unfold J3Y; rw [if_pos hh, g2]
     intro b3
     try simp only [nrmT] at b3
     refine ⟨c1, ?_⟩
     refine ⟨?_, rfl, rfl, rfl⟩
     ·refine ⟨?_, ?_⟩
      ·unfold J1R
       rw [← g1]
       (rw [b1, Bool.true_and]; exact decide_eq_false (by omega))
      ·exact g2
    intro b4
    try simp only [nrmT] at b4
    refine ⟨c1, ?_⟩
    refine ⟨?_, rfl, rfl, rfl⟩
    ·refine ⟨?_, ?_⟩
     ·unfold J1R
      rw [← g1]
      (rw [show gd = false by assumption]; rfl)
     ·exact g2
  intro c5 hJ
  obtain ⟨e1, e2⟩ := hJ
  refine ⟨rfl, ?_, rfl, ?_, ?_, ?_⟩
  ·refine JV code c5 ([0, 3, 10, 99, 4611686018427387904, (-1)]) ?_ ?_ ?_
   ·exact hb
   ·rw [e2]
    exact J5 (J7C hc) (by omega)
   ·(simp_all; done)
  ·unfold J0H; rw [if_neg (by rw [e1]; decide), e2]; rfl
  ·unfold J0H; rw [if_neg (by rw [e1]; decide), e2]; rfl
  unfold J3Y; rw [if_neg (by rw [e1]; decide), e2]; rfl
theorem J4r (code : List Nat) (c : Cur) (U : ZI) (E : ZR) (hb : ∀ x9 ∈ code, x9 < 256) (hc : okC c 10000000) : PK Tryz.prog 147 76 (.sl (.bytes code)) [.int .i64 c.pos, .int .u64 c.seed] [.int .i64 (J0H code c U E).pos, .int .u64 (J0H code c U E).seed] [.agg [.sl (.ints U), .sl (.rows E)]] (.one (.d (.int .i64 (J3Y code c U E)))) :=
  pk_by (Q := fun u => J2t u code c U E) (by kernel_rfl) Tryz.func147 @Tryz.call147 (by kernel_rfl) J82 (fun u => J7O u code c U E) (by kernel_rfl) (fun u => J7q u code c U E hb hc) (fun u => by kernel_rfl)
theorem Jaj (row set : ZI) : ∀ k i, i < k → row.getD (Jn row set k).toNat 0 ≤ row.getD (set.getD i 0).toNat 0
  | 0, i, h => by omega
  | k + 1, i, h => by
    have ih := Jaj row set k
    rw [J0y]
    unfold J2U
    by_cases e : i = k
    · subst e
      split
      · exact Int.le_refl _
      omega
    have := ih i (by omega)
    split <;> omega
theorem Jdl {E : ZR} {set : ZI} {r : Int} (hr : 0 ≤ r) : Jy E set ≤ r ↔ ∀ j, j < E.length → J2V E set j ≤ r := by
  obtain ⟨h1, h2, h3⟩ := J8M E set E.length
  unfold Jy
  constructor
  · intro h j hj; have := h2 j hj; omega
  intro h
  rcases h3 with h3 | ⟨j, hj, h3⟩
  · omega
  rw [h3]; exact h j hj
theorem Jdk {α : Type} {p : α → Bool} {xs : List α} {d : α} (h0 : 0 ≤ idxI p xs) {i : Nat} (hi : i < xs.length) (hp : p (xs.getD i d) = true) : idxI p xs ≤ (i : Int) ∧ p (xs.getD (idxI p xs).toNat d) = true := by
  unfold idxI at h0 ⊢
  cases hf : xs.findIdx? p with
  | none => rw [hf] at h0; simp at h0
  | some k =>
    obtain ⟨hk, h1, h2⟩ := List.findIdx?_eq_some_iff_getElem.1 hf
    show (k : Int) ≤ (i : Int) ∧ p (xs.getD (k : Int).toNat d) = true
    rw [Int.toNat_natCast, Jh hk]
    refine ⟨?_, h1⟩
    by_cases e : k ≤ i
    · omega
    rw [Jh hi] at hp
    have := h2 i (by omega)
    rw [hp] at this
    simp at this
def Je2 (f : FuncId) (ds : List D) : Orc := .no
def Je8 (code : List Nat) : Ann := .none
def Jbq (code : List Nat) : Prop :=
  (((decide ((code.length : Int) > 65536)) = (decide ((code.length : Int) > 65536))))
theorem Jdb (code : List Nat)  (w_code : (code.length : Int) ≤ 9223372036854775807) : Jbq code := by
  unfold Jbq
  exact rfl
theorem Jdo (code : List Nat)  : PC Tryz.prog 9 [.sl (.bytes code)] (.one (.d (.bool (decide ((code.length : Int) > 65536))))) :=
  pc_wf @Tryz.call9 fun hw => pc_by (by kernel_rfl) Tryz.func9 @Tryz.call9 (by kernel_rfl) Je2 (Je8 code) (by kernel_rfl) (Jdb code hw.1) (by kernel_rfl)
def Jcw : List D → Orc := orcN [some .bytes] fun ds => match ds with
  | [.sl (.bytes code)] => some (.one (.d (.bool (decide ((code.length : Int) > 65536)))))
  | _ => none
abbrev J4h (xs : ZI) (ys : ZI) (i : Int) : Prop := (0 ≤ i) ∧ (i ≤ (xs.length : Int)) ∧ (allTo (fun k => xs.getD k 0 == ys.getD k 0) i.toNat = true) ∧ (xs.length = ys.length)
abbrev J4i (xs : ZI) (ys : ZI) (i : Int) : Nat := (xs.length - i).toNat
def JdD (f : FuncId) (ds : List D) : Orc := .no
def JdG (xs : ZI) (ys : ZI) : Ann := .two (.none) (.two (.none) (.two (.two (.none) (.loop (cut1 (fun (i : Int) => J4h xs ys i) (fun (i : Int) => [(0, .d false (.sl (.ints xs))), (1, .d false (.sl (.ints ys))), (5, .d true (.int .i64 i))]) (fun (i : Int) => [])) (fun g => J4i xs ys g) (fun _ => .none))) (.none)))
def Jah (xs : ZI) (ys : ZI) : Prop :=
  ((((xs.length : Int) != (ys.length : Int)) = true → ((false = (xs == ys)))) ∧ (((xs.length : Int) != (ys.length : Int)) = false → ((∃ i' : Int, (J4h xs ys i') ∧ (xs = xs) ∧ (ys = ys) ∧ ((0 : Int) = i')) ∧ (∀ i : Int, (J4h xs ys i) → (((decide (i < (xs.length : Int))) = true → (true = true) ∧ ((0 : Int) ≤ i) ∧ ((i : Int) < xs.length) ∧ (i.toNat < xs.length) ∧ ((0 : Int) ≤ i) ∧ ((i : Int) < ys.length) ∧ (i.toNat < ys.length) ∧ ((((xs.getD i.toNat 0) != (ys.getD i.toNat 0)) = true → ((false = (xs == ys)))) ∧ (((xs.getD i.toNat 0) != (ys.getD i.toNat 0)) = false → (I6 (i + 1)) ∧ (∃ i' : Int, (J4h xs ys i') ∧ (J4i xs ys i' < J4i xs ys i) ∧ (xs = xs) ∧ (ys = ys) ∧ ((i + 1) = i'))))) ∧ ((decide (i < (xs.length : Int))) = false → ((true = (xs == ys)))))))))
theorem Jd6 (xs : ZI) (ys : ZI)  (w_xs : (xs.length : Int) ≤ 9223372036854775807) (w_ys : (ys.length : Int) ≤ 9223372036854775807) : Jah xs ys := by
  unfold Jah
  refine ⟨?_, ?_⟩
  ·intro b1
   try simp only [nrmT] at b1
   exact (Jel (by omega)).symm
  intro b2
  try simp only [nrmT] at b2
  refine ⟨?_, ?_⟩
  ·refine ⟨0, ?_⟩
   refine ⟨?_, rfl, rfl, rfl⟩
   ·refine ⟨?_, ?_, ?_, ?_⟩
    ·omega
    ·omega
    ·rfl
    ·omega
  intro i hJ
  obtain ⟨h1, h2, h3, h4⟩ := hJ
  refine ⟨?_, ?_⟩
  ·intro b3
   try simp only [nrmT] at b3
   refine ⟨rfl, ?_, ?_, ?_, ?_, ?_, ?_, ?_, ?_⟩
   ·omega
   ·omega
   ·omega
   ·omega
   ·omega
   ·omega
   ·intro b4
    try simp only [nrmT] at b4
    rw [← J8W (d := 0) h4]; exact (allTo_falseI h1 (by omega) (by simpa using b4)).symm
   intro b5
   try simp only [nrmT] at b5
   refine ⟨?_, ?_⟩
   ·omega
   refine ⟨(i + 1), ?_⟩
   refine ⟨?_, ?_, rfl, rfl, rfl⟩
   ·refine ⟨?_, ?_, ?_, ?_⟩
    ·omega
    ·omega
    ·exact allTo_step h1 h3 (by simpa using b5)
    ·omega
   (simp only [J4i]; omega)
  intro b6
  try simp only [nrmT] at b6
  rw [← J8W (d := 0) h4, ← h3]; congr 1; omega
theorem J6q (xs : ZI) (ys : ZI)  : PC Tryz.prog 23 [.sl (.ints xs), .sl (.ints ys)] (.one (.d (.bool (xs == ys)))) :=
  pc_wf @Tryz.call23 fun hw => pc_by (by kernel_rfl) Tryz.func23 @Tryz.call23 (by kernel_rfl) JdD (JdG xs ys) (by kernel_rfl) (Jd6 xs ys hw.1 hw.2.1) (by kernel_rfl)
def Jca : List D → Orc := orcN [some .ints, some .ints] fun ds => match ds with
  | [.sl (.ints xs), .sl (.ints ys)] => some (.one (.d (.bool (xs == ys))))
  | _ => none
def JbJ (f : FuncId) (ds : List D) : Orc := bif Nat.beq f 113 then J9H ds else bif Nat.beq f 96 then J4C ds else .no
def JbM (U : ZI) (E : ZR) (set : ZI) : Ann := .none
def J89 (U : ZI) (E : ZR) (set : ZI) : Prop :=
  (PC Tryz.prog 113 [.agg [.sl (.ints U), .sl (.rows E)], .sl (.ints set)] (.one (.d (.bool (J0 U E && J2 set 0 ((U.length : Int) - 1) && decide (0 < set.length)))))) ∧ (((!(J0 U E && J2 set 0 ((U.length : Int) - 1) && decide (0 < set.length))) = true → (((0 : Int) = (if (J0 U E && J2 set 0 ((U.length : Int) - 1) && decide (0 < set.length)) = true then Jy E set else 0)) ∧ (false = (J0 U E && J2 set 0 ((U.length : Int) - 1) && decide (0 < set.length))))) ∧ ((!(J0 U E && J2 set 0 ((U.length : Int) - 1) && decide (0 < set.length))) = false → (PC Tryz.prog 96 [.agg [.sl (.ints U), .sl (.rows E)], .sl (.ints set)] (.one (.d (.int .i64 (Jy E set))))) ∧ (((Jy E set) = (if (J0 U E && J2 set 0 ((U.length : Int) - 1) && decide (0 < set.length)) = true then Jy E set else 0)) ∧ (true = (J0 U E && J2 set 0 ((U.length : Int) - 1) && decide (0 < set.length))))))
theorem JbF (U : ZI) (E : ZR) (set : ZI)  (w_Open : (U.length : Int) ≤ 9223372036854775807) (w_Dist : (E.length : Int) ≤ 9223372036854775807) (v_Dist : ∀ x9 ∈ E, (x9.length : Int) ≤ 9223372036854775807) (w_set : (set.length : Int) ≤ 9223372036854775807) : J89 U E set := by
  unfold J89
  refine ⟨JaS U E set, ?_, ?_⟩
  ·intro b1
   try simp only [Bool.not_eq_true', Bool.not_eq_false', Bool.not_not] at b1
   refine ⟨?_, ?_⟩
   ·have hq : (J0 U E && J2 set 0 ((U.length : Int) - 1) && decide (0 < set.length)) = false := by simpa only [Bool.not_eq_true', Bool.not_eq_false', Bool.not_not] using b1
    rw [hq]; rfl
   (simp_all <;> omega)
  intro b2
  try simp only [Bool.not_eq_true', Bool.not_eq_false', Bool.not_not] at b2
  refine ⟨?_, ?_, ?_⟩
  ·refine J4Y U E set ?_
   ·omega
  ·have hq : (J0 U E && J2 set 0 ((U.length : Int) - 1) && decide (0 < set.length)) = true := by simpa only [Bool.not_eq_true', Bool.not_eq_false', Bool.not_not] using b2
   rw [if_pos hq]
  (simp_all; done)
theorem Jbj (U : ZI) (E : ZR) (set : ZI)  : PC Tryz.prog 24 [.agg [.sl (.ints U), .sl (.rows E)], .sl (.ints set)] (.tup [.d (.int .i64 (if (J0 U E && J2 set 0 ((U.length : Int) - 1) && decide (0 < set.length)) = true then Jy E set else 0)), .d (.bool (J0 U E && J2 set 0 ((U.length : Int) - 1) && decide (0 < set.length)))]) :=
  pc_wf @Tryz.call24 fun hw => pc_by (by kernel_rfl) Tryz.func24 @Tryz.call24 (by kernel_rfl) JbJ (JbM U E set) (by kernel_rfl) (JbF U E set hw.1.1 hw.1.2.1.1 hw.1.2.1.2 hw.2.1) (by kernel_rfl)
def JaJ : List D → Orc := orcN [none, some .ints] fun ds => match ds with
  | [.agg [.sl (.ints U), .sl (.rows E)], .sl (.ints set)] => some (.tup [.d (.int .i64 (if (J0 U E && J2 set 0 ((U.length : Int) - 1) && decide (0 < set.length)) = true then Jy E set else 0)), .d (.bool (J0 U E && J2 set 0 ((U.length : Int) - 1) && decide (0 < set.length)))])
  | _ => none
abbrev J0L (n : Int) (code : Int) (out : ZI) (x : Int) : Prop := (0 ≤ x) ∧ (x ≤ n) ∧ (out = members (fun k => code.toNat.testBit k) x.toNat)
abbrev JU (n : Int) (code : Int) (out : ZI) (x : Int) : Nat := (n - x).toNat
def J9I (f : FuncId) (ds : List D) : Orc := .no
def J9F (n : Int) (code : Int) : Ann := .two (.none) (.two (.none) (.two (.two (.none) (.loop (cut2 (fun (out : ZI) (x : Int) => J0L n code out x) (fun (out : ZI) (x : Int) => [(0, .d false (.int .i64 n)), (1, .d false (.int .i64 code)), (5, .own 1000000 out.length), (6, .d true (.int .i64 x))]) (fun (out : ZI) (x : Int) => [(1000000, .arr true 3 (.ints out))])) (fun g => JU n code g.1 g.2) (fun _ => .none))) (.none)))
def J62 (n : Int) (code : Int) : Prop :=
  ((∃ out' : ZI, ∃ x' : Int, (J0L n code out' x') ∧ (n = n) ∧ (code = code) ∧ ((0 : Nat) = out'.length) ∧ ((0 : Int) = x') ∧ ([] = out')) ∧ (∀ out : ZI, ∀ x : Int, (J0L n code out x) → (((decide (x < n)) = true → ((0 : Int) ≤ code ∧ (code : Int) ≤ 9223372036854775807) ∧ ((0 : Int) ≤ x) ∧ ((0 : Int) ≤ (code / 2 ^ x.toNat) ∧ ((code / 2 ^ x.toNat) : Int) ≤ 9223372036854775807) ∧ ((0 : Int) ≤ 1 ∧ (1 : Int) ≤ 9223372036854775807) ∧ ((((((code / 2 ^ x.toNat).toNat &&& 1 : Nat) : Int) == 1) = true → (out.length = out.length) ∧ ((1 : Nat) = 1) ∧ ((out.length + 1) * 8 ≤ 140737488355328) ∧ (I6 (x + 1)) ∧ (∃ out' : ZI, ∃ x' : Int, (J0L n code out' x') ∧ (JU n code out' x' < JU n code out x) ∧ (n = n) ∧ (code = code) ∧ ((out.length + 1) = out'.length) ∧ ((x + 1) = x') ∧ ((out ++ [x]) = out'))) ∧ (((((code / 2 ^ x.toNat).toNat &&& 1 : Nat) : Int) == 1) = false → (I6 (x + 1)) ∧ (∃ out' : ZI, ∃ x' : Int, (J0L n code out' x') ∧ (JU n code out' x' < JU n code out x) ∧ (n = n) ∧ (code = code) ∧ (out.length = out'.length) ∧ ((x + 1) = x') ∧ (out = out'))))) ∧ ((decide (x < n)) = false → ((out.length = out.length) ∧ ((out : ZI) = members (fun k => code.toNat.testBit k) n.toNat))))))
theorem J9h (n : Int) (code : Int) (hn : 0 ≤ n ∧ n ≤ 62) (hc : 0 ≤ code ∧ code ≤ 4611686018427387903)  : J62 n code := by
  unfold J62
  refine ⟨?_, ?_⟩
  ·refine ⟨([]), 0, ?_⟩
   refine ⟨?_, rfl, rfl, rfl, rfl, ?_⟩
   ·refine ⟨?_, ?_, ?_⟩
    ·omega
    ·omega
    ·rfl
   rfl
  intro out x hJ
  obtain ⟨h1, h2, h3⟩ := hJ
  refine ⟨?_, ?_⟩
  ·intro b1
   try simp only [nrmT] at b1
   refine ⟨?_, ?_, ?_, ?_, ?_, ?_⟩
   ·omega
   ·omega
   ·have h5 : 0 ≤ code / 2 ^ x.toNat := Int.ediv_nonneg hc.1 (Int.le_of_lt (Int.pow_pos (by omega)))
    have h6 : code / 2 ^ x.toNat ≤ code := Int.ediv_le_self _ hc.1
    omega
   ·omega
   ·intro b2
    try simp only [nrmT] at b2
    refine ⟨rfl, rfl, ?_, ?_, ?_⟩
    ·rw [h3]; have := members_len_le (fun k => code.toNat.testBit k) x.toNat; omega
    ·omega
    refine ⟨(out ++ [x]), (x + 1), ?_⟩
    refine ⟨?_, ?_, rfl, rfl, ?_, rfl, rfl⟩
    ·refine ⟨?_, ?_, ?_⟩
     ·omega
     ·omega
     ·have hb := shr_bit (n := code.toNat) (k := x.toNat)
      rw [show ((code.toNat : Nat) : Int) = code by omega] at hb
      have ht : code.toNat.testBit x.toNat = true := by
        cases h : code.toNat.testBit x.toNat with
        | true => rfl
        | false => rw [h] at hb; simp at hb; simp at b2; omega
      rw [h3, show (x + 1).toNat = x.toNat + 1 by omega, members_succ, if_pos ht, show ((x.toNat : Nat) : Int) = x by omega]
    ·(simp only [JU]; omega)
    simp
   intro b3
   try simp only [nrmT] at b3
   refine ⟨?_, ?_⟩
   ·omega
   refine ⟨out, (x + 1), ?_⟩
   refine ⟨?_, ?_, rfl, rfl, rfl, rfl, rfl⟩
   ·refine ⟨?_, ?_, ?_⟩
    ·omega
    ·omega
    ·have hb := shr_bit (n := code.toNat) (k := x.toNat)
     rw [show ((code.toNat : Nat) : Int) = code by omega] at hb
     have ht : code.toNat.testBit x.toNat = false := by
       cases h : code.toNat.testBit x.toNat with
       | false => rfl
       | true => rw [h] at hb; simp at hb; simp at b3; omega
     rw [h3, show (x + 1).toNat = x.toNat + 1 by omega, members_succ, ht]; simp
   (simp only [JU]; omega)
  intro b4
  try simp only [nrmT] at b4
  refine ⟨rfl, ?_⟩
  ·rw [h3, show x.toNat = n.toNat by omega]
theorem J9e (n : Int) (code : Int) (hn : 0 ≤ n ∧ n ≤ 62) (hc : 0 ≤ code ∧ code ≤ 4611686018427387903) : PC Tryz.prog 142 [.int .i64 n, .int .i64 code] (.one (.own 3 (.ints (members (fun k => code.toNat.testBit k) n.toNat)))) :=
  pc_wf @Tryz.call142 fun _ => pc_by (by kernel_rfl) Tryz.func142 @Tryz.call142 (by kernel_rfl) J9I (J9F n code) (by kernel_rfl) (J9h n code hn hc) (by kernel_rfl)
theorem J5P {g : Bool} {a b : Cur} {x y : Int} (ha : okC a x) (hb : okC b y) : okC (cond g a b) (max x y) := by
  cases g
  · exact J5 hb (by omega)
  exact J5 ha (by omega)
theorem J9T {p : Int → Prop} (l : ZI) (code : List Nat) (c : Cur) (h0 : 0 < l.length) (h : ∀ x ∈ l, p x) : p (l.getD (J3 code c (l.length : Int)).toNat 0) := h _ (JdS l code c h0)
theorem JcA {n : Nat} {s : ZI} (h : J2 s 0 ((n : Int) - 1) = true) : s ∈ chs n := by
  have ha := Jcz h
  have hr := J8Y h
  have hp : ∀ x ∈ s, 0 ≤ x ∧ x < (n : Int) := fun x hx => by have := hr x hx; omega
  refine Jci.2 ⟨bagN s, bagN_lt (m := n) hp, ?_⟩
  unfold lst
  refine asc_ext (asc_members _ _) ha fun x => ?_
  rw [mem_members]
  constructor
  · rintro ⟨h1, h2, h3⟩
    rw [bagN_bit fun y hy => (hp y hy).1, List.contains_iff_mem, show ((x.toNat : Nat) : Int) = x by omega] at h3
    exact h3
  intro hx
  have h1 := hp x hx
  refine ⟨h1.1, h1.2, ?_⟩
  rw [bagN_bit fun y hy => (hp y hy).1, List.contains_iff_mem, show ((x.toNat : Nat) : Int) = x by omega]
  exact hx
def J37 (f : Int → Int) (l : ZI) : Int := (l.map f).sum
theorem J1n (f : Int → Int) (x : Int) (l : ZI) : J37 f (x :: l) = f x + J37 f l := rfl
theorem Jcm {f g : Int → Int} : ∀ {l : ZI}, (∀ x ∈ l, f x ≤ g x) → J37 f l ≤ J37 g l
  | [], _ => Int.le_refl _
  | x :: r, h => by
    have h1 := h x List.mem_cons_self
    have h2 := Jcm (f := f) (g := g) (l := r) fun y hy => h y (List.mem_cons_of_mem _ hy)
    rw [J1n, J1n]; omega
theorem Jbg (c : Int) (f : Int → Int) : ∀ l : ZI, J37 (fun x => c * f x) l = c * J37 f l
  | [] => by simp [J37]
  | x :: r => by rw [J1n, J1n, Jbg c f r, Int.mul_add]
theorem JbQ {f : Int → Int} {l : ZI} (h : ∀ x ∈ l, 0 ≤ f x) : 0 ≤ J37 f l := by
  have := Jcm (f := fun _ => 0) (g := f) h
  have e : J37 (fun _ => 0) l = 0 := by
    have := Jbg 0 (fun _ => 0) l
    simp at this
    exact this
  omega
/-- What rawField and lineField draw. -/
def Jeb (n : Nat) (r : ZI) : Prop := r.length = n ∧ ∀ x ∈ r, 0 ≤ x ∧ x ≤ 60
def drF (O : ZI) (D : ZR) : Prop := O.length ≤ 7 ∧ D.length ≤ 7 ∧ ∀ r ∈ D, Jeb O.length r
theorem J7 {O : ZI} {D : ZR} (h : drF O D) {i a : Nat} (hi : i < D.length) (ha : a < O.length) : (D.getD i []).length = O.length ∧ 0 ≤ (D.getD i []).getD a 0 ∧ (D.getD i []).getD a 0 ≤ 60 := by
  obtain ⟨h1, h2⟩ := h.2.2 _ (getD_mem (d := []) hi)
  exact ⟨h1, h2 _ (getD_mem (by omega))⟩
theorem J8z {α : Type} {p : α → Prop} {l : List α} {x : α} (h : ∀ r ∈ l, p r) (hx : p x) : ∀ r ∈ l ++ [x], p r := by
  intro r hr
  rcases List.mem_append.1 hr with hr | hr
  · exact h r hr
  rw [List.mem_singleton.1 hr]; exact hx
theorem Jch {α : Type} {p : α → Prop} {l : List α} {x : α} {k : Nat} (h : ∀ r ∈ l, p r) (hx : p x) : ∀ r ∈ l.set k x, p r := by
  intro r hr
  rcases List.mem_or_eq_of_mem_set hr with hr | hr
  · exact h r hr
  rw [hr]; exact hx
theorem Jcl {O : ZI} {D : ZR} (h : drF O D) {i a : Nat} {v : Int} (hi : i < D.length) (hv : 0 ≤ v ∧ v ≤ 60) : drF O (D.set i ((D.getD i []).set a v)) := by
  obtain ⟨h1, h2⟩ := h.2.2 _ (getD_mem (d := []) hi)
  refine ⟨h.1, by rw [List.length_set]; exact h.2.1, Jch h.2.2 ⟨by rw [List.length_set]; exact h1, Jch h2 hv⟩⟩
abbrev J0u (u : Value) (code : List Nat) (c : Cur) (most : Int) (n : Int) (m : Int) (c0 : Cur) (big : Int) (c1 : Cur) (O0 : ZI) (D0 : ZR) (a : Int) (c3 : Cur) (O1 : ZI) (D1 : ZR) : Prop := (0 ≤ a) ∧ (a ≤ 7) ∧ (O1.length = a.toNat) ∧ (D1 = []) ∧ (okC c3 (3000100 + 4 * a))
abbrev J0t (u : Value) (code : List Nat) (c : Cur) (most : Int) (n : Int) (m : Int) (c0 : Cur) (big : Int) (c1 : Cur) (O0 : ZI) (D0 : ZR) (a : Int) (c3 : Cur) (O1 : ZI) (D1 : ZR) : Nat := (7 - a).toNat
abbrev J1p (u : Value) (code : List Nat) (c : Cur) (most : Int) (n : Int) (m : Int) (c0 : Cur) (big : Int) (c1 : Cur) (O0 : ZI) (D0 : ZR) (c4 : Cur) (O2 : ZI) (D2 : ZR) : Prop := (okC c4 3000200) ∧ (O2.length ≤ 7) ∧ (D2 = [])
abbrev J0r (u : Value) (code : List Nat) (c : Cur) (most : Int) (n : Int) (m : Int) (c0 : Cur) (big : Int) (c1 : Cur) (O0 : ZI) (D0 : ZR) (c4 : Cur) (O2 : ZI) (D2 : ZR) (i : Int) (c5 : Cur) (O3 : ZI) (D3 : ZR) : Prop := (0 ≤ i) ∧ (i ≤ 7) ∧ (D3.length = i.toNat) ∧ (O3.length ≤ 7) ∧ (okC c5 (3000200 + 100 * i)) ∧ (∀ r ∈ D3, Jeb O3.length r)
abbrev J0w (u : Value) (code : List Nat) (c : Cur) (most : Int) (n : Int) (m : Int) (c0 : Cur) (big : Int) (c1 : Cur) (O0 : ZI) (D0 : ZR) (c4 : Cur) (O2 : ZI) (D2 : ZR) (i : Int) (c5 : Cur) (O3 : ZI) (D3 : ZR) : Nat := (7 - i).toNat
abbrev J0v (u : Value) (code : List Nat) (c : Cur) (most : Int) (n : Int) (m : Int) (c0 : Cur) (big : Int) (c1 : Cur) (O0 : ZI) (D0 : ZR) (c4 : Cur) (O2 : ZI) (D2 : ZR) (i : Int) (c5 : Cur) (O3 : ZI) (D3 : ZR) (row : ZI) (a2 : Int) (c6 : Cur) : Prop := (0 ≤ a2) ∧ (a2 ≤ (O3.length : Int)) ∧ (row.length = a2.toNat) ∧ (okC c6 (3000200 + 100 * i + 4 * a2)) ∧ (∀ x ∈ row, 0 ≤ x ∧ x ≤ 60)
abbrev J0s (u : Value) (code : List Nat) (c : Cur) (most : Int) (n : Int) (m : Int) (c0 : Cur) (big : Int) (c1 : Cur) (O0 : ZI) (D0 : ZR) (c4 : Cur) (O2 : ZI) (D2 : ZR) (i : Int) (c5 : Cur) (O3 : ZI) (D3 : ZR) (row : ZI) (a2 : Int) (c6 : Cur) : Nat := (O3.length - a2).toNat
abbrev J1s (u : Value) (code : List Nat) (c : Cur) (most : Int) (n : Int) (m : Int) (c0 : Cur) : Prop := (0 ≤ n ∧ n ≤ 7) ∧ (0 ≤ m ∧ m ≤ 7) ∧ (okC c0 3000050)
abbrev J1t (u : Value) (code : List Nat) (c : Cur) (most : Int) (n : Int) (m : Int) (c0 : Cur) (big : Int) (c1 : Cur) (O0 : ZI) (D0 : ZR) : Prop := (1 ≤ big ∧ big ≤ 20) ∧ (okC c1 3000100) ∧ (O0 = []) ∧ (D0 = [])
abbrev JX (code : List Nat) (c : Cur) (most : Int) (O : ZI) (D : ZR) (cf : Cur) : Prop := (okC cf 4000000) ∧ (drF O D)
def Jq (code : List Nat) (c : Cur) (most : Int) : Ex := ex3 1 (fun (O : ZI) (D : ZR) (cf : Cur) => JX code c most O D cf) (fun (O : ZI) (D : ZR) (cf : Cur) => [.int .i64 cf.pos, .int .u64 cf.seed]) (fun (O : ZI) (D : ZR) (cf : Cur) => .agg [.own 3 (.ints O), .mat 3 24 D])
def J7l (f : FuncId) (ds : List D) : Orc := .no
def J7b (u : Value) (code : List Nat) (c : Cur) (most : Int) : Ann := .two (.none) (.cut (.mark [] [(2, .cell [.int .i64 ((J1 code c (([3, 4, 2, 5, 1, 6, 7]).length : Int)).pos), .int .u64 ((J1 code c (([3, 4, 2, 5, 1, 6, 7]).length : Int)).seed)] (.one (.d (.int .i64 (([3, 4, 2, 5, 1, 6, 7]).getD (J3 code c (([3, 4, 2, 5, 1, 6, 7]).length : Int)).toNat 0))))), (5, .cell [.int .i64 ((J1 code (J1 code c (([3, 4, 2, 5, 1, 6, 7]).length : Int)) (([4, 3, 5, 2, 6, 7, 1, 0]).length : Int)).pos), .int .u64 ((J1 code (J1 code c (([3, 4, 2, 5, 1, 6, 7]).length : Int)) (([4, 3, 5, 2, 6, 7, 1, 0]).length : Int)).seed)] (.one (.d (.int .i64 (([4, 3, 5, 2, 6, 7, 1, 0]).getD (J3 code (J1 code c (([3, 4, 2, 5, 1, 6, 7]).length : Int)) (([4, 3, 5, 2, 6, 7, 1, 0]).length : Int)).toNat 0)))))]) (cut3 (fun (n : Int) (m : Int) (c0 : Cur) => J1s u code c most n m c0) (fun (n : Int) (m : Int) (c0 : Cur) => [(0, .ptr 0 0), (1, .d false (.int .i64 most)), (4, .ptr 4 0), (5, .d true (.int .i64 n)), (6, .d true (.int .i64 m))]) (fun (n : Int) (m : Int) (c0 : Cur) => [(0, .box 76 [.d false (.lit u (.sl (.bytes code))), .d true (.int .i64 c0.pos), .d true (.int .u64 c0.seed)]), (4, .box 27 [.d true (.nil), .d true (.nil)])])) (fun g => (fun (n : Int) (m : Int) (c0 : Cur) => .cut (.mark [] [(3, .cell [.int .i64 ((J1 code c0 (([10, 10, 20, 4]).length : Int)).pos), .int .u64 ((J1 code c0 (([10, 10, 20, 4]).length : Int)).seed)] (.one (.d (.int .i64 (([10, 10, 20, 4]).getD (J3 code c0 (([10, 10, 20, 4]).length : Int)).toNat 0)))))]) (cut4 (fun (big : Int) (c1 : Cur) (O0 : ZI) (D0 : ZR) => J1t u code c most n m c0 big c1 O0 D0) (fun (big : Int) (c1 : Cur) (O0 : ZI) (D0 : ZR) => [(0, .ptr 0 0), (1, .d false (.int .i64 most)), (4, .ptr 4 0), (5, .d true (.int .i64 n)), (6, .d true (.int .i64 m)), (7, .ptr 7 0), (8, .d true (.int .i64 big))]) (fun (big : Int) (c1 : Cur) (O0 : ZI) (D0 : ZR) => [(0, .box 76 [.d false (.lit u (.sl (.bytes code))), .d true (.int .i64 c1.pos), .d true (.int .u64 c1.seed)]), (4, .box 27 [.d true (.nil), .d true (.nil)]), (1500202, .arr true 3 (.ints O0)), (1500203, .mat 3 24 D0 none), (7, .box 27 [.own 1500202 O0.length, .own 1500203 D0.length])])) (fun g => (fun (big : Int) (c1 : Cur) (O0 : ZI) (D0 : ZR) => .cut (.two (.none) (.loop (cut4 (fun (a : Int) (c3 : Cur) (O1 : ZI) (D1 : ZR) => J0u u code c most n m c0 big c1 O0 D0 a c3 O1 D1) (fun (a : Int) (c3 : Cur) (O1 : ZI) (D1 : ZR) => [(0, .ptr 0 0), (1, .d false (.int .i64 most)), (4, .ptr 4 0), (5, .d true (.int .i64 n)), (6, .d true (.int .i64 m)), (7, .ptr 7 0), (8, .d true (.int .i64 big)), (9, .d true (.int .i64 a))]) (fun (a : Int) (c3 : Cur) (O1 : ZI) (D1 : ZR) => [(0, .box 76 [.d false (.lit u (.sl (.bytes code))), .d true (.int .i64 c3.pos), .d true (.int .u64 c3.seed)]), (4, .box 27 [.d true (.nil), .d true (.nil)]), (1000002, .arr true 3 (.ints O1)), (1000003, .mat 3 24 D1 none), (7, .box 27 [.own 1000002 O1.length, .own 1000003 D1.length])])) (fun g => J0t u code c most n m c0 big c1 O0 D0 g.1 g.2.1 g.2.2.1 g.2.2.2) (fun g => (fun (a : Int) (c3 : Cur) (O1 : ZI) (D1 : ZR) => .two (.none) (.two (.reg [(4, .cell [.int .i64 ((J1 code c3 big).pos), .int .u64 ((J1 code c3 big).seed)] (.one (.d (.int .i64 (J3 code c3 big)))))]) (.none))) (g.1) (g.2.1) (g.2.2.1) (g.2.2.2)))) (cut3 (fun (c4 : Cur) (O2 : ZI) (D2 : ZR) => J1p u code c most n m c0 big c1 O0 D0 c4 O2 D2) (fun (c4 : Cur) (O2 : ZI) (D2 : ZR) => [(0, .ptr 0 0), (1, .d false (.int .i64 most)), (4, .ptr 4 0), (6, .d true (.int .i64 m)), (7, .ptr 7 0), (8, .d true (.int .i64 big))]) (fun (c4 : Cur) (O2 : ZI) (D2 : ZR) => [(0, .box 76 [.d false (.lit u (.sl (.bytes code))), .d true (.int .i64 c4.pos), .d true (.int .u64 c4.seed)]), (4, .box 27 [.d true (.nil), .d true (.nil)]), (1000051, .arr true 3 (.ints O2)), (1000052, .mat 3 24 D2 none), (7, .box 27 [.own 1000051 O2.length, .own 1000052 D2.length])])) (fun g => (fun (c4 : Cur) (O2 : ZI) (D2 : ZR) => .two (.two (.none) (.loop (cut4 (fun (i : Int) (c5 : Cur) (O3 : ZI) (D3 : ZR) => J0r u code c most n m c0 big c1 O0 D0 c4 O2 D2 i c5 O3 D3) (fun (i : Int) (c5 : Cur) (O3 : ZI) (D3 : ZR) => [(0, .ptr 0 0), (1, .d false (.int .i64 most)), (4, .ptr 4 0), (6, .d true (.int .i64 m)), (7, .ptr 7 0), (8, .d true (.int .i64 big)), (10, .d true (.int .i64 i))]) (fun (i : Int) (c5 : Cur) (O3 : ZI) (D3 : ZR) => [(0, .box 76 [.d false (.lit u (.sl (.bytes code))), .d true (.int .i64 c5.pos), .d true (.int .u64 c5.seed)]), (4, .box 27 [.d true (.nil), .d true (.nil)]), (1000102, .arr true 3 (.ints O3)), (1000103, .mat 3 24 D3 none), (7, .box 27 [.own 1000102 O3.length, .own 1000103 D3.length])])) (fun g => J0w u code c most n m c0 big c1 O0 D0 c4 O2 D2 g.1 g.2.1 g.2.2.1 g.2.2.2) (fun g => (fun (i : Int) (c5 : Cur) (O3 : ZI) (D3 : ZR) => .two (.none) (.two (.two (.none) (.two (.two (.none) (.loop (cut3 (fun (row : ZI) (a2 : Int) (c6 : Cur) => J0v u code c most n m c0 big c1 O0 D0 c4 O2 D2 i c5 O3 D3 row a2 c6) (fun (row : ZI) (a2 : Int) (c6 : Cur) => [(0, .ptr 0 0), (1, .d false (.int .i64 most)), (4, .ptr 4 0), (6, .d true (.int .i64 m)), (7, .ptr 7 0), (8, .d true (.int .i64 big)), (10, .d true (.int .i64 i)), (11, .own 1000200 row.length), (12, .d true (.int .i64 a2))]) (fun (row : ZI) (a2 : Int) (c6 : Cur) => [(1000200, .arr true 3 (.ints row)), (0, .box 76 [.d false (.lit u (.sl (.bytes code))), .d true (.int .i64 c6.pos), .d true (.int .u64 c6.seed)]), (4, .box 27 [.d true (.nil), .d true (.nil)]), (7, .box 27 [.own 1000102 O3.length, .own 1000103 D3.length]), (1000102, .arr true 3 (.ints O3)), (1000103, .mat 3 24 D3 none)])) (fun g => J0s u code c most n m c0 big c1 O0 D0 c4 O2 D2 i c5 O3 D3 g.1 g.2.1 g.2.2) (fun g => (fun (row : ZI) (a2 : Int) (c6 : Cur) => .two (.none) (.two (.mark [] [(3, .cell [.int .i64 ((J1 code c6 big).pos), .int .u64 ((J1 code c6 big).seed)] (.one (.d (.int .i64 (J3 code c6 big)))))]) (.none))) (g.1) (g.2.1) (g.2.2)))) (.none))) (.none))) (g.1) (g.2.1) (g.2.2.1) (g.2.2.2)))) (.none)) (g.1) (g.2.1) (g.2.2))) (g.1) (g.2.1) (g.2.2.1) (g.2.2.2))) (g.1) (g.2.1) (g.2.2)))
def J1O (u : Value) (code : List Nat) (c : Cur) (most : Int) : Prop :=
  ((((7 : Nat) = 7) ∧ (PK Tryz.prog 155 76 (.sl (.bytes code)) [.int .i64 c.pos, .int .u64 c.seed] [.int .i64 ((J1 code c (([3, 4, 2, 5, 1, 6, 7]).length : Int)).pos), .int .u64 ((J1 code c (([3, 4, 2, 5, 1, 6, 7]).length : Int)).seed)] [.sl (.ints ([3, 4, 2, 5, 1, 6, 7]))] (.one (.d (.int .i64 (([3, 4, 2, 5, 1, 6, 7]).getD (J3 code c (([3, 4, 2, 5, 1, 6, 7]).length : Int)).toNat 0))))) ∧ ((8 : Nat) = 8) ∧ (PK Tryz.prog 155 76 (.sl (.bytes code)) [.int .i64 ((J1 code c (([3, 4, 2, 5, 1, 6, 7]).length : Int)).pos), .int .u64 ((J1 code c (([3, 4, 2, 5, 1, 6, 7]).length : Int)).seed)] [.int .i64 ((J1 code (J1 code c (([3, 4, 2, 5, 1, 6, 7]).length : Int)) (([4, 3, 5, 2, 6, 7, 1, 0]).length : Int)).pos), .int .u64 ((J1 code (J1 code c (([3, 4, 2, 5, 1, 6, 7]).length : Int)) (([4, 3, 5, 2, 6, 7, 1, 0]).length : Int)).seed)] [.sl (.ints ([4, 3, 5, 2, 6, 7, 1, 0]))] (.one (.d (.int .i64 (([4, 3, 5, 2, 6, 7, 1, 0]).getD (J3 code (J1 code c (([3, 4, 2, 5, 1, 6, 7]).length : Int)) (([4, 3, 5, 2, 6, 7, 1, 0]).length : Int)).toNat 0))))) ∧ (∃ n' : Int, ∃ m' : Int, ∃ c0' : Cur, (J1s u code c most n' m' c0') ∧ (most = most) ∧ ((([3, 4, 2, 5, 1, 6, 7]).getD (J3 code c (([3, 4, 2, 5, 1, 6, 7]).length : Int)).toNat 0) = n') ∧ ((([4, 3, 5, 2, 6, 7, 1, 0]).getD (J3 code (J1 code c (([3, 4, 2, 5, 1, 6, 7]).length : Int)) (([4, 3, 5, 2, 6, 7, 1, 0]).length : Int)).toNat 0) = m') ∧ ((.lit u (.sl (.bytes code)) : D) = .lit u (.sl (.bytes code))) ∧ ((J1 code (J1 code c (([3, 4, 2, 5, 1, 6, 7]).length : Int)) (([4, 3, 5, 2, 6, 7, 1, 0]).length : Int)).pos = c0'.pos) ∧ ((J1 code (J1 code c (([3, 4, 2, 5, 1, 6, 7]).length : Int)) (([4, 3, 5, 2, 6, 7, 1, 0]).length : Int)).seed = c0'.seed))) ∧ (∀ n : Int, ∀ m : Int, ∀ c0 : Cur, (J1s u code c most n m c0) → ((((4 : Nat) = 4) ∧ (PK Tryz.prog 155 76 (.sl (.bytes code)) [.int .i64 c0.pos, .int .u64 c0.seed] [.int .i64 ((J1 code c0 (([10, 10, 20, 4]).length : Int)).pos), .int .u64 ((J1 code c0 (([10, 10, 20, 4]).length : Int)).seed)] [.sl (.ints ([10, 10, 20, 4]))] (.one (.d (.int .i64 (([10, 10, 20, 4]).getD (J3 code c0 (([10, 10, 20, 4]).length : Int)).toNat 0))))) ∧ (∃ big' : Int, ∃ c1' : Cur, ∃ O0' : ZI, ∃ D0' : ZR, (J1t u code c most n m c0 big' c1' O0' D0') ∧ (most = most) ∧ (n = n) ∧ (m = m) ∧ ((([10, 10, 20, 4]).getD (J3 code c0 (([10, 10, 20, 4]).length : Int)).toNat 0) = big') ∧ ((.lit u (.sl (.bytes code)) : D) = .lit u (.sl (.bytes code))) ∧ ((J1 code c0 (([10, 10, 20, 4]).length : Int)).pos = c1'.pos) ∧ ((J1 code c0 (([10, 10, 20, 4]).length : Int)).seed = c1'.seed) ∧ ((O0').length = 0) ∧ ((D0').length = 0) ∧ ((0 : Nat) = O0'.length) ∧ ((0 : Nat) = D0'.length))) ∧ (∀ big : Int, ∀ c1 : Cur, ∀ O0 : ZI, ∀ D0 : ZR, (J1t u code c most n m c0 big c1 O0 D0) → ((((∃ a' : Int, ∃ c3' : Cur, ∃ O1' : ZI, ∃ D1' : ZR, (J0u u code c most n m c0 big c1 O0 D0 a' c3' O1' D1') ∧ (most = most) ∧ (n = n) ∧ (m = m) ∧ (big = big) ∧ ((0 : Int) = a') ∧ ((.lit u (.sl (.bytes code)) : D) = .lit u (.sl (.bytes code))) ∧ (c1.pos = c3'.pos) ∧ (c1.seed = c3'.seed) ∧ (O0 = O1') ∧ (D0 = D1') ∧ (O0.length = O1'.length) ∧ (D0.length = D1'.length)) ∧ (∀ a : Int, ∀ c3 : Cur, ∀ O1 : ZI, ∀ D1 : ZR, (J0u u code c most n m c0 big c1 O0 D0 a c3 O1 D1) → ((decide (a < n)) = true → (decide (a < n)) = true) ∧ ((decide (a < n)) = true → (decide (a < n)) = true) ∧ (true = true) ∧ (((decide (a < n)) = true → (decide (a < n)) = true)) ∧ (((decide (a < n)) = false → true = true)) ∧ (((cond (decide (a < n)) (decide (a < most)) false) = true → (true = true) ∧ (PK Tryz.prog 156 76 (.sl (.bytes code)) [.int .i64 c3.pos, .int .u64 c3.seed] [.int .i64 ((J1 code c3 big).pos), .int .u64 ((J1 code c3 big).seed)] [.int .i64 big] (.one (.d (.int .i64 (J3 code c3 big))))) ∧ (O1.length = O1.length) ∧ ((1 : Nat) = 1) ∧ ((O1.length + 1) * 8 ≤ 140737488355328) ∧ (I6 (a + 1)) ∧ (∃ a' : Int, ∃ c3' : Cur, ∃ O1' : ZI, ∃ D1' : ZR, (J0u u code c most n m c0 big c1 O0 D0 a' c3' O1' D1') ∧ (J0t u code c most n m c0 big c1 O0 D0 a' c3' O1' D1' < J0t u code c most n m c0 big c1 O0 D0 a c3 O1 D1) ∧ (most = most) ∧ (n = n) ∧ (m = m) ∧ (big = big) ∧ ((a + 1) = a') ∧ ((.lit u (.sl (.bytes code)) : D) = .lit u (.sl (.bytes code))) ∧ ((J1 code c3 big).pos = c3'.pos) ∧ ((J1 code c3 big).seed = c3'.seed) ∧ ((O1 ++ [(J3 code c3 big)]) = O1') ∧ (D1 = D1') ∧ ((O1.length + 1) = O1'.length) ∧ (D1.length = D1'.length))) ∧ ((cond (decide (a < n)) (decide (a < most)) false) = false → (∃ c4' : Cur, ∃ O2' : ZI, ∃ D2' : ZR, (J1p u code c most n m c0 big c1 O0 D0 c4' O2' D2') ∧ (most = most) ∧ (m = m) ∧ (big = big) ∧ ((.lit u (.sl (.bytes code)) : D) = .lit u (.sl (.bytes code))) ∧ (c3.pos = c4'.pos) ∧ (c3.seed = c4'.seed) ∧ (O1 = O2') ∧ (D1 = D2') ∧ (O1.length = O2'.length) ∧ (D1.length = D2'.length))))))) ∧ (∀ c4 : Cur, ∀ O2 : ZI, ∀ D2 : ZR, (J1p u code c most n m c0 big c1 O0 D0 c4 O2 D2) → ((∃ i' : Int, ∃ c5' : Cur, ∃ O3' : ZI, ∃ D3' : ZR, (J0r u code c most n m c0 big c1 O0 D0 c4 O2 D2 i' c5' O3' D3') ∧ (most = most) ∧ (m = m) ∧ (big = big) ∧ ((0 : Int) = i') ∧ ((.lit u (.sl (.bytes code)) : D) = .lit u (.sl (.bytes code))) ∧ (c4.pos = c5'.pos) ∧ (c4.seed = c5'.seed) ∧ (O2 = O3') ∧ (D2 = D3') ∧ (O2.length = O3'.length) ∧ (D2.length = D3'.length)) ∧ (∀ i : Int, ∀ c5 : Cur, ∀ O3 : ZI, ∀ D3 : ZR, (J0r u code c most n m c0 big c1 O0 D0 c4 O2 D2 i c5 O3 D3) → ((decide (i < m)) = true → (decide (i < m)) = true) ∧ ((decide (i < m)) = true → (decide (i < m)) = true) ∧ (true = true) ∧ (((decide (i < m)) = true → (decide (i < m)) = true)) ∧ (((decide (i < m)) = false → true = true)) ∧ (((cond (decide (i < m)) (decide (i < most)) false) = true → ((∃ row' : ZI, ∃ a2' : Int, ∃ c6' : Cur, (J0v u code c most n m c0 big c1 O0 D0 c4 O2 D2 i c5 O3 D3 row' a2' c6') ∧ (most = most) ∧ (m = m) ∧ (big = big) ∧ (i = i) ∧ ((0 : Nat) = row'.length) ∧ ((0 : Int) = a2') ∧ ([] = row') ∧ ((.lit u (.sl (.bytes code)) : D) = .lit u (.sl (.bytes code))) ∧ (c5.pos = c6'.pos) ∧ (c5.seed = c6'.seed) ∧ (O3.length = O3.length) ∧ (D3.length = D3.length) ∧ (O3 = O3) ∧ (D3 = D3)) ∧ (∀ row : ZI, ∀ a2 : Int, ∀ c6 : Cur, (J0v u code c most n m c0 big c1 O0 D0 c4 O2 D2 i c5 O3 D3 row a2 c6) → (((decide (a2 < (O3.length : Int))) = true → (PK Tryz.prog 156 76 (.sl (.bytes code)) [.int .i64 c6.pos, .int .u64 c6.seed] [.int .i64 ((J1 code c6 big).pos), .int .u64 ((J1 code c6 big).seed)] [.int .i64 big] (.one (.d (.int .i64 (J3 code c6 big))))) ∧ (row.length = row.length) ∧ ((1 : Nat) = 1) ∧ ((row.length + 1) * 8 ≤ 140737488355328) ∧ (I6 (a2 + 1)) ∧ (∃ row' : ZI, ∃ a2' : Int, ∃ c6' : Cur, (J0v u code c most n m c0 big c1 O0 D0 c4 O2 D2 i c5 O3 D3 row' a2' c6') ∧ (J0s u code c most n m c0 big c1 O0 D0 c4 O2 D2 i c5 O3 D3 row' a2' c6' < J0s u code c most n m c0 big c1 O0 D0 c4 O2 D2 i c5 O3 D3 row a2 c6) ∧ (most = most) ∧ (m = m) ∧ (big = big) ∧ (i = i) ∧ ((row.length + 1) = row'.length) ∧ ((a2 + 1) = a2') ∧ ((row ++ [(J3 code c6 big)]) = row') ∧ ((.lit u (.sl (.bytes code)) : D) = .lit u (.sl (.bytes code))) ∧ ((J1 code c6 big).pos = c6'.pos) ∧ ((J1 code c6 big).seed = c6'.seed) ∧ (O3.length = O3.length) ∧ (D3.length = D3.length) ∧ (O3 = O3) ∧ (D3 = D3))) ∧ ((decide (a2 < (O3.length : Int))) = false → (row.length = row.length) ∧ (D3.length = D3.length) ∧ ((1 : Nat) = 1) ∧ (0 < 1) ∧ ((D3.length + 1) * 24 ≤ 140737488355328) ∧ (I6 (i + 1)) ∧ (∃ i' : Int, ∃ c5' : Cur, ∃ O3' : ZI, ∃ D3' : ZR, (J0r u code c most n m c0 big c1 O0 D0 c4 O2 D2 i' c5' O3' D3') ∧ (J0w u code c most n m c0 big c1 O0 D0 c4 O2 D2 i' c5' O3' D3' < J0w u code c most n m c0 big c1 O0 D0 c4 O2 D2 i c5 O3 D3) ∧ (most = most) ∧ (m = m) ∧ (big = big) ∧ ((i + 1) = i') ∧ ((.lit u (.sl (.bytes code)) : D) = .lit u (.sl (.bytes code))) ∧ (c6.pos = c5'.pos) ∧ (c6.seed = c5'.seed) ∧ (O3 = O3') ∧ ((D3 ++ [row]) = D3') ∧ (O3.length = O3'.length) ∧ ((D3.length + 1) = D3'.length))))))) ∧ ((cond (decide (i < m)) (decide (i < most)) false) = false → (∃ O' : ZI, ∃ D' : ZR, ∃ cf' : Cur, (JX code c most O' D' cf') ∧ (true = true) ∧ ((.lit u (.sl (.bytes code)) : D) = .lit u (.sl (.bytes code))) ∧ (c5.pos = cf'.pos) ∧ (c5.seed = cf'.seed) ∧ (O3.length = O3.length) ∧ ((O3 : ZI) = O') ∧ (D3.length = D3.length) ∧ ((D3 : ZR) = D'))))))))))))
theorem J6E (u : Value) (code : List Nat) (c : Cur) (most : Int) (hb : ∀ x9 ∈ code, x9 < 256) (hc : okC c 3000000) (hm : 0 ≤ most ∧ most ≤ 7)  : J1O u code c most := by
  unfold J1O
  refine ⟨?_, ?_⟩
  ·refine ⟨rfl, ?_, rfl, ?_, ?_⟩
   ·refine JV code c ([3, 4, 2, 5, 1, 6, 7]) ?_ ?_ ?_
    ·exact hb
    ·exact J5 (by assumption) (by omega)
    ·simp
   ·refine JV code (J1 code c (([3, 4, 2, 5, 1, 6, 7]).length : Int)) ([4, 3, 5, 2, 6, 7, 1, 0]) ?_ ?_ ?_
    ·exact hb
    ·exact J5 (Ja (by assumption)) (by omega)
    ·simp
   ·refine ⟨(([3, 4, 2, 5, 1, 6, 7]).getD (J3 code c (([3, 4, 2, 5, 1, 6, 7]).length : Int)).toNat 0), (([4, 3, 5, 2, 6, 7, 1, 0]).getD (J3 code (J1 code c (([3, 4, 2, 5, 1, 6, 7]).length : Int)) (([4, 3, 5, 2, 6, 7, 1, 0]).length : Int)).toNat 0), (J1 code (J1 code c (([3, 4, 2, 5, 1, 6, 7]).length : Int)) (([4, 3, 5, 2, 6, 7, 1, 0]).length : Int)), ?_⟩
    refine ⟨?_, rfl, rfl, rfl, rfl, rfl, rfl⟩
    ·refine ⟨?_, ?_, ?_⟩
     ·exact J9T (p := fun z => 0 ≤ z ∧ z ≤ 7) [3, 4, 2, 5, 1, 6, 7] code _ (by simp) (by simp)
     ·exact J9T (p := fun z => 0 ≤ z ∧ z ≤ 7) [4, 3, 5, 2, 6, 7, 1, 0] code _ (by simp) (by simp)
     ·exact J5 (Ja (Ja (by assumption))) (by omega)
  intro n m c0 hJ
  obtain ⟨n1, n2, n7⟩ := hJ
  refine ⟨?_, ?_⟩
  ·refine ⟨rfl, ?_, ?_⟩
   ·refine JV code c0 ([10, 10, 20, 4]) ?_ ?_ ?_
    ·exact hb
    ·exact J5 (by assumption) (by omega)
    ·simp
   ·refine ⟨(([10, 10, 20, 4]).getD (J3 code c0 (([10, 10, 20, 4]).length : Int)).toNat 0), (J1 code c0 (([10, 10, 20, 4]).length : Int)), ([]), ([]), ?_⟩
    refine ⟨?_, rfl, rfl, rfl, rfl, rfl, rfl, rfl, ?_, ?_, rfl, rfl⟩
    ·refine ⟨?_, ?_, ?_, ?_⟩
     ·exact J9T (p := fun z => 1 ≤ z ∧ z ≤ 20) [10, 10, 20, 4] code _ (by simp) (by simp)
     ·exact J5 (Ja (by assumption)) (by omega)
     ·rfl
     ·rfl
    ·rfl
    rfl
  intro big c1 O0 D0 hJ
  obtain ⟨n3, n4, n5, n6⟩ := hJ
  refine ⟨?_, ?_⟩
  ·refine ⟨?_, ?_⟩
   ·refine ⟨0, c1, O0, D0, ?_⟩
    refine ⟨?_, rfl, rfl, rfl, rfl, rfl, rfl, rfl, rfl, rfl, rfl, rfl, rfl⟩
    ·refine ⟨?_, ?_, ?_, ?_, ?_⟩
     ·omega
     ·omega
     ·(simp_all; done)
     ·assumption
     ·exact J5 (by assumption) (by omega)
   ·intro a c3 O1 D1 hJ
    obtain ⟨h1, h2, h3, h4, h5⟩ := hJ
    refine ⟨id, id, rfl, id, fun _ => rfl, ?_, ?_⟩
    ·intro b1
     refine ⟨rfl, ?_, rfl, rfl, ?_, ?_, ?_⟩
     ·refine Jk code c3 big ?_ ?_
      ·exact hb
      ·exact J5 (by assumption) (by omega)
     ·omega
     ·omega
     refine ⟨(a + 1), (J1 code c3 big), (O1 ++ [(J3 code c3 big)]), D1, ?_⟩
     refine ⟨?_, ?_, rfl, rfl, rfl, rfl, rfl, rfl, rfl, rfl, rfl, rfl, ?_, rfl⟩
     ·refine ⟨?_, ?_, ?_, ?_, ?_⟩
      ·omega
      ·(simp_all <;> omega)
      ·(simp_all <;> omega)
      ·assumption
      ·exact J5 (Ja (by assumption)) (by omega)
     ·(simp only [J0t] at *; simp at *; omega)
     simp
    intro b2
    refine ⟨c3, O1, D1, ?_⟩
    refine ⟨?_, rfl, rfl, rfl, rfl, rfl, rfl, rfl, rfl, rfl, rfl⟩
    ·refine ⟨?_, ?_, ?_⟩
     ·exact J5 (by assumption) (by omega)
     ·omega
     ·assumption
  intro c4 O2 D2 hJ
  obtain ⟨j0, j1, j2⟩ := hJ
  refine ⟨?_, ?_⟩
  ·refine ⟨0, c4, O2, D2, ?_⟩
   refine ⟨?_, rfl, rfl, rfl, rfl, rfl, rfl, rfl, rfl, rfl, rfl, rfl⟩
   ·refine ⟨?_, ?_, ?_, ?_, ?_, ?_⟩
    ·omega
    ·omega
    ·(simp_all; done)
    ·omega
    ·exact J5 (by assumption) (by omega)
    ·(rw [j2]; intro r hr; cases hr)
  intro i c5 O3 D3 hJ
  obtain ⟨k1, k2, k3, k4, k5, k6⟩ := hJ
  refine ⟨id, id, rfl, id, fun _ => rfl, ?_, ?_⟩
  ·intro b3
   refine ⟨?_, ?_⟩
   ·refine ⟨([]), 0, c5, ?_⟩
    refine ⟨?_, rfl, rfl, rfl, rfl, rfl, rfl, ?_, rfl, rfl, rfl, rfl, rfl, rfl, rfl⟩
    ·refine ⟨?_, ?_, ?_, ?_, ?_⟩
     ·omega
     ·omega
     ·rfl
     ·exact J5 (by assumption) (by omega)
     ·(intro r hr; cases hr)
    rfl
   intro row a2 c6 hJ
   obtain ⟨m1, m2, m3, m4, m5⟩ := hJ
   refine ⟨?_, ?_⟩
   ·intro b4
    try simp only [nrmT] at b4
    refine ⟨?_, rfl, rfl, ?_, ?_, ?_⟩
    ·refine Jk code c6 big ?_ ?_
     ·exact hb
     ·exact J5 (by assumption) (by omega)
    ·omega
    ·omega
    refine ⟨(row ++ [(J3 code c6 big)]), (a2 + 1), (J1 code c6 big), ?_⟩
    refine ⟨?_, ?_, rfl, rfl, rfl, rfl, ?_, rfl, rfl, rfl, rfl, rfl, rfl, rfl, rfl, rfl⟩
    ·refine ⟨?_, ?_, ?_, ?_, ?_⟩
     ·omega
     ·omega
     ·(simp_all <;> omega)
     ·exact J5 (Ja (by assumption)) (by omega)
     ·refine J8z (by assumption) ?_
      have v := Jt code c6 (n := big) (by omega)
      omega
    ·(simp only [J0s]; omega)
    simp
   intro b5
   try simp only [nrmT] at b5
   refine ⟨rfl, rfl, rfl, by decide, ?_, ?_, ?_⟩
   ·omega
   ·omega
   refine ⟨(i + 1), c6, O3, (D3 ++ [row]), ?_⟩
   refine ⟨?_, ?_, rfl, rfl, rfl, rfl, rfl, rfl, rfl, rfl, rfl, rfl, ?_⟩
   ·refine ⟨?_, ?_, ?_, ?_, ?_, ?_⟩
    ·omega
    ·(simp_all <;> omega)
    ·(simp_all <;> omega)
    ·omega
    ·exact J5 (by assumption) (by omega)
    ·refine J8z (by assumption) ?_
     exact ⟨by omega, by assumption⟩
   ·(simp only [J0w] at *; simp at *; omega)
   simp
  intro b6
  refine ⟨O3, D3, c5, ?_⟩
  refine ⟨?_, rfl, rfl, rfl, rfl, rfl, rfl, rfl, rfl⟩
  ·refine ⟨?_, ?_⟩
   ·exact J5 (by assumption) (by omega)
   ·exact ⟨by omega, by omega, by assumption⟩
theorem J0x (code : List Nat) (c : Cur) (most : Int) (hb : ∀ x9 ∈ code, x9 < 256) (hc : okC c 3000000) (hm : 0 ≤ most ∧ most ≤ 7) : PKE Tryz.prog 188 76 (.sl (.bytes code)) [.int .i64 c.pos, .int .u64 c.seed] [.int .i64 most] (Jq code c most) :=
  pke_by (Q := fun u => J1O u code c most) (by kernel_rfl) Tryz.func188 @Tryz.call188 (by kernel_rfl) J7l (fun u => J7b u code c most) (by kernel_rfl) (fun u => J6E u code c most hb hc hm) (fun u => by kernel_rfl)
abbrev J0k (u : Value) (code : List Nat) (c : Cur) (most : Int) (pl : ZI) (c0 : Cur) (O0 : ZI) (D0 : ZR) (pl2 : ZI) (a : Int) (c1 : Cur) : Prop := (0 ≤ a) ∧ (a ≤ (O0.length : Int)) ∧ (pl2.length = a.toNat) ∧ (∀ y ∈ pl2, 0 ≤ y ∧ y < 20) ∧ (okC c1 (4000000 + 4 * a))
abbrev J0n (u : Value) (code : List Nat) (c : Cur) (most : Int) (pl : ZI) (c0 : Cur) (O0 : ZI) (D0 : ZR) (pl2 : ZI) (a : Int) (c1 : Cur) : Nat := (O0.length - a).toNat
abbrev J1k (u : Value) (code : List Nat) (c : Cur) (most : Int) (pl : ZI) (c0 : Cur) (O0 : ZI) (D0 : ZR) (pl1 : ZI) (c2 : Cur) : Prop := (okC c2 4001000) ∧ (pl1.length = O0.length) ∧ (∀ y ∈ pl1, 0 ≤ y ∧ y < 20)
abbrev J0l (u : Value) (code : List Nat) (c : Cur) (most : Int) (pl : ZI) (c0 : Cur) (O0 : ZI) (D0 : ZR) (pl1 : ZI) (c2 : Cur) (i : Int) (c3 : Cur) (O1 : ZI) (D1 : ZR) : Prop := (0 ≤ i) ∧ (i ≤ (D1.length : Int)) ∧ (drF O1 D1) ∧ (pl1.length = O1.length) ∧ (okC c3 (4001000 + 10 * i))
abbrev J0m (u : Value) (code : List Nat) (c : Cur) (most : Int) (pl : ZI) (c0 : Cur) (O0 : ZI) (D0 : ZR) (pl1 : ZI) (c2 : Cur) (i : Int) (c3 : Cur) (O1 : ZI) (D1 : ZR) : Nat := (D1.length - i).toNat
abbrev J0i (u : Value) (code : List Nat) (c : Cur) (most : Int) (pl : ZI) (c0 : Cur) (O0 : ZI) (D0 : ZR) (pl1 : ZI) (c2 : Cur) (i : Int) (c3 : Cur) (O1 : ZI) (D1 : ZR) (x : Int) (c5 : Cur) (a2 : Int) (D2 : ZR) : Prop := (0 ≤ a2) ∧ (a2 ≤ (O1.length : Int)) ∧ (drF O1 D2) ∧ (D2.length = D1.length)
abbrev J0j (u : Value) (code : List Nat) (c : Cur) (most : Int) (pl : ZI) (c0 : Cur) (O0 : ZI) (D0 : ZR) (pl1 : ZI) (c2 : Cur) (i : Int) (c3 : Cur) (O1 : ZI) (D1 : ZR) (x : Int) (c5 : Cur) (a2 : Int) (D2 : ZR) : Nat := (O1.length - a2).toNat
abbrev J1g (u : Value) (code : List Nat) (c : Cur) (most : Int) (pl : ZI) (c0 : Cur) (O0 : ZI) (D0 : ZR) : Prop := (pl = []) ∧ (okC c0 4000000) ∧ (drF O0 D0)
abbrev J1h (u : Value) (code : List Nat) (c : Cur) (most : Int) (pl : ZI) (c0 : Cur) (O0 : ZI) (D0 : ZR) (pl1 : ZI) (c2 : Cur) (i : Int) (c3 : Cur) (O1 : ZI) (D1 : ZR) (x : Int) (c5 : Cur) : Prop := (0 ≤ x ∧ x < 20) ∧ (okC c5 (4001010 + 10 * i))
abbrev J0W (code : List Nat) (c : Cur) (most : Int) (O : ZI) (D : ZR) (cg : Cur) : Prop := (okC cg 6000000) ∧ (drF O D)
def J0b (code : List Nat) (c : Cur) (most : Int) : Ex := ex3 1 (fun (O : ZI) (D : ZR) (cg : Cur) => J0W code c most O D cg) (fun (O : ZI) (D : ZR) (cg : Cur) => [.int .i64 cg.pos, .int .u64 cg.seed]) (fun (O : ZI) (D : ZR) (cg : Cur) => .agg [.own 3 (.ints O), .mat 3 24 D])
def J6K (f : FuncId) (ds : List D) : Orc := bif Nat.beq f 154 then J7e ds else .no
def J6Q (u : Value) (code : List Nat) (c : Cur) (most : Int) : Ann := .two (.none) (.cut (.exr (.ex [] 2 (Jq code c most) (fun g => (fun (Or1 : ZI) (Dr1 : ZR) (cfr1 : Cur) => .ms [] []) (g.1) (g.2.1) (g.2.2)))) (cut4 (fun (pl : ZI) (c0 : Cur) (O0 : ZI) (D0 : ZR) => J1g u code c most pl c0 O0 D0) (fun (pl : ZI) (c0 : Cur) (O0 : ZI) (D0 : ZR) => [(0, .ptr 0 0), (4, .ptr 4 0), (5, .ptr 5 0), (6, .own 1500100 pl.length)]) (fun (pl : ZI) (c0 : Cur) (O0 : ZI) (D0 : ZR) => [(1500100, .arr true 3 (.ints pl)), (0, .box 76 [.d false (.lit u (.sl (.bytes code))), .d true (.int .i64 c0.pos), .d true (.int .u64 c0.seed)]), (4, .box 27 [.d true (.nil), .d true (.nil)]), (1500102, .arr true 3 (.ints O0)), (1500103, .mat 3 24 D0 none), (5, .box 27 [.own 1500102 O0.length, .own 1500103 D0.length])])) (fun g => (fun (pl : ZI) (c0 : Cur) (O0 : ZI) (D0 : ZR) => .cut (.two (.none) (.loop (cut3 (fun (pl2 : ZI) (a : Int) (c1 : Cur) => J0k u code c most pl c0 O0 D0 pl2 a c1) (fun (pl2 : ZI) (a : Int) (c1 : Cur) => [(0, .ptr 0 0), (4, .ptr 4 0), (5, .ptr 5 0), (6, .own 1000000 pl2.length), (7, .d true (.int .i64 a))]) (fun (pl2 : ZI) (a : Int) (c1 : Cur) => [(1000000, .arr true 3 (.ints pl2)), (0, .box 76 [.d false (.lit u (.sl (.bytes code))), .d true (.int .i64 c1.pos), .d true (.int .u64 c1.seed)]), (4, .box 27 [.d true (.nil), .d true (.nil)]), (5, .box 27 [.own 1500102 O0.length, .own 1500103 D0.length]), (1500102, .arr true 3 (.ints O0)), (1500103, .mat 3 24 D0 none)])) (fun g => J0n u code c most pl c0 O0 D0 g.1 g.2.1 g.2.2) (fun g => (fun (pl2 : ZI) (a : Int) (c1 : Cur) => .two (.none) (.two (.mark [] [(2, .cell [.int .i64 ((J1 code c1 20).pos), .int .u64 ((J1 code c1 20).seed)] (.one (.d (.int .i64 (J3 code c1 20)))))]) (.none))) (g.1) (g.2.1) (g.2.2)))) (cut2 (fun (pl1 : ZI) (c2 : Cur) => J1k u code c most pl c0 O0 D0 pl1 c2) (fun (pl1 : ZI) (c2 : Cur) => [(0, .ptr 0 0), (4, .ptr 4 0), (5, .ptr 5 0), (6, .own 1000050 pl1.length)]) (fun (pl1 : ZI) (c2 : Cur) => [(1000050, .arr true 3 (.ints pl1)), (0, .box 76 [.d false (.lit u (.sl (.bytes code))), .d true (.int .i64 c2.pos), .d true (.int .u64 c2.seed)]), (4, .box 27 [.d true (.nil), .d true (.nil)]), (5, .box 27 [.own 1500102 O0.length, .own 1500103 D0.length]), (1500102, .arr true 3 (.ints O0)), (1500103, .mat 3 24 D0 none)])) (fun g => (fun (pl1 : ZI) (c2 : Cur) => .two (.two (.none) (.loop (cut4 (fun (i : Int) (c3 : Cur) (O1 : ZI) (D1 : ZR) => J0l u code c most pl c0 O0 D0 pl1 c2 i c3 O1 D1) (fun (i : Int) (c3 : Cur) (O1 : ZI) (D1 : ZR) => [(0, .ptr 0 0), (4, .ptr 4 0), (5, .ptr 5 0), (6, .own 1000050 pl1.length), (8, .d true (.int .i64 i))]) (fun (i : Int) (c3 : Cur) (O1 : ZI) (D1 : ZR) => [(0, .box 76 [.d false (.lit u (.sl (.bytes code))), .d true (.int .i64 c3.pos), .d true (.int .u64 c3.seed)]), (4, .box 27 [.d true (.nil), .d true (.nil)]), (1000102, .arr true 3 (.ints O1)), (1000103, .mat 3 24 D1 none), (5, .box 27 [.own 1000102 O1.length, .own 1000103 D1.length]), (1000050, .arr true 3 (.ints pl1))])) (fun g => J0m u code c most pl c0 O0 D0 pl1 c2 g.1 g.2.1 g.2.2.1 g.2.2.2) (fun g => (fun (i : Int) (c3 : Cur) (O1 : ZI) (D1 : ZR) => .two (.none) (.two (.cut (.mark [] [(1, .cell [.int .i64 ((J1 code c3 20).pos), .int .u64 ((J1 code c3 20).seed)] (.one (.d (.int .i64 (J3 code c3 20)))))]) (cut2 (fun (x : Int) (c5 : Cur) => J1h u code c most pl c0 O0 D0 pl1 c2 i c3 O1 D1 x c5) (fun (x : Int) (c5 : Cur) => [(0, .ptr 0 0), (4, .ptr 4 0), (5, .ptr 5 0), (6, .own 1000050 pl1.length), (8, .d true (.int .i64 i)), (9, .d true (.int .i64 x))]) (fun (x : Int) (c5 : Cur) => [(0, .box 76 [.d false (.lit u (.sl (.bytes code))), .d true (.int .i64 c5.pos), .d true (.int .u64 c5.seed)]), (4, .box 27 [.d true (.nil), .d true (.nil)]), (5, .box 27 [.own 1000102 O1.length, .own 1000103 D1.length]), (1000050, .arr true 3 (.ints pl1)), (1000102, .arr true 3 (.ints O1)), (1000103, .mat 3 24 D1 none)])) (fun g => (fun (x : Int) (c5 : Cur) => .two (.none) (.loop (cut2 (fun (a2 : Int) (D2 : ZR) => J0i u code c most pl c0 O0 D0 pl1 c2 i c3 O1 D1 x c5 a2 D2) (fun (a2 : Int) (D2 : ZR) => [(0, .ptr 0 0), (4, .ptr 4 0), (5, .ptr 5 0), (6, .own 1000050 pl1.length), (8, .d true (.int .i64 i)), (9, .d true (.int .i64 x)), (10, .d true (.int .i64 a2))]) (fun (a2 : Int) (D2 : ZR) => [(0, .box 76 [.d false (.lit u (.sl (.bytes code))), .d true (.int .i64 c5.pos), .d true (.int .u64 c5.seed)]), (4, .box 27 [.d true (.nil), .d true (.nil)]), (1000201, .mat 3 24 D2 none), (5, .box 27 [.own 1000102 O1.length, .own 1000201 D2.length]), (1000050, .arr true 3 (.ints pl1)), (1000102, .arr true 3 (.ints O1))])) (fun g => J0j u code c most pl c0 O0 D0 pl1 c2 i c3 O1 D1 x c5 g.1 g.2) (fun _ => .none))) (g.1) (g.2))) (.none))) (g.1) (g.2.1) (g.2.2.1) (g.2.2.2)))) (.none)) (g.1) (g.2))) (g.1) (g.2.1) (g.2.2.1) (g.2.2.2)))
def J1A (u : Value) (code : List Nat) (c : Cur) (most : Int) : Prop :=
  (((PKE Tryz.prog 188 76 (.sl (.bytes code)) [.int .i64 c.pos, .int .u64 c.seed] [.int .i64 most] (Jq code c most)) ∧ (∀ Or1 : ZI, ∀ Dr1 : ZR, ∀ cfr1 : Cur, JX code c most Or1 Dr1 cfr1 → ((true = true) ∧ (∃ pl' : ZI, ∃ c0' : Cur, ∃ O0' : ZI, ∃ D0' : ZR, (J1g u code c most pl' c0' O0' D0') ∧ ((0 : Nat) = pl'.length) ∧ ([] = pl') ∧ ((.lit u (.sl (.bytes code)) : D) = .lit u (.sl (.bytes code))) ∧ (cfr1.pos = c0'.pos) ∧ (cfr1.seed = c0'.seed) ∧ (Or1 = O0') ∧ (Dr1 = D0') ∧ (Or1.length = O0'.length) ∧ (Dr1.length = D0'.length))))) ∧ (∀ pl : ZI, ∀ c0 : Cur, ∀ O0 : ZI, ∀ D0 : ZR, (J1g u code c most pl c0 O0 D0) → ((((∃ pl2' : ZI, ∃ a' : Int, ∃ c1' : Cur, (J0k u code c most pl c0 O0 D0 pl2' a' c1') ∧ (pl.length = pl2'.length) ∧ ((0 : Int) = a') ∧ (pl = pl2') ∧ ((.lit u (.sl (.bytes code)) : D) = .lit u (.sl (.bytes code))) ∧ (c0.pos = c1'.pos) ∧ (c0.seed = c1'.seed) ∧ (O0.length = O0.length) ∧ (D0.length = D0.length) ∧ (O0 = O0) ∧ (D0 = D0)) ∧ (∀ pl2 : ZI, ∀ a : Int, ∀ c1 : Cur, (J0k u code c most pl c0 O0 D0 pl2 a c1) → (((decide (a < (O0.length : Int))) = true → (PK Tryz.prog 156 76 (.sl (.bytes code)) [.int .i64 c1.pos, .int .u64 c1.seed] [.int .i64 ((J1 code c1 20).pos), .int .u64 ((J1 code c1 20).seed)] [.int .i64 20] (.one (.d (.int .i64 (J3 code c1 20))))) ∧ (pl2.length = pl2.length) ∧ ((1 : Nat) = 1) ∧ ((pl2.length + 1) * 8 ≤ 140737488355328) ∧ (I6 (a + 1)) ∧ (∃ pl2' : ZI, ∃ a' : Int, ∃ c1' : Cur, (J0k u code c most pl c0 O0 D0 pl2' a' c1') ∧ (J0n u code c most pl c0 O0 D0 pl2' a' c1' < J0n u code c most pl c0 O0 D0 pl2 a c1) ∧ ((pl2.length + 1) = pl2'.length) ∧ ((a + 1) = a') ∧ ((pl2 ++ [(J3 code c1 20)]) = pl2') ∧ ((.lit u (.sl (.bytes code)) : D) = .lit u (.sl (.bytes code))) ∧ ((J1 code c1 20).pos = c1'.pos) ∧ ((J1 code c1 20).seed = c1'.seed) ∧ (O0.length = O0.length) ∧ (D0.length = D0.length) ∧ (O0 = O0) ∧ (D0 = D0))) ∧ ((decide (a < (O0.length : Int))) = false → (∃ pl1' : ZI, ∃ c2' : Cur, (J1k u code c most pl c0 O0 D0 pl1' c2') ∧ (pl2.length = pl1'.length) ∧ (pl2 = pl1') ∧ ((.lit u (.sl (.bytes code)) : D) = .lit u (.sl (.bytes code))) ∧ (c1.pos = c2'.pos) ∧ (c1.seed = c2'.seed) ∧ (O0.length = O0.length) ∧ (D0.length = D0.length) ∧ (O0 = O0) ∧ (D0 = D0))))))) ∧ (∀ pl1 : ZI, ∀ c2 : Cur, (J1k u code c most pl c0 O0 D0 pl1 c2) → ((∃ i' : Int, ∃ c3' : Cur, ∃ O1' : ZI, ∃ D1' : ZR, (J0l u code c most pl c0 O0 D0 pl1 c2 i' c3' O1' D1') ∧ (pl1.length = pl1.length) ∧ ((0 : Int) = i') ∧ ((.lit u (.sl (.bytes code)) : D) = .lit u (.sl (.bytes code))) ∧ (c2.pos = c3'.pos) ∧ (c2.seed = c3'.seed) ∧ (O0 = O1') ∧ (D0 = D1') ∧ (O0.length = O1'.length) ∧ (D0.length = D1'.length) ∧ (pl1 = pl1)) ∧ (∀ i : Int, ∀ c3 : Cur, ∀ O1 : ZI, ∀ D1 : ZR, (J0l u code c most pl c0 O0 D0 pl1 c2 i c3 O1 D1) → (((decide (i < (D1.length : Int))) = true → (((PK Tryz.prog 156 76 (.sl (.bytes code)) [.int .i64 c3.pos, .int .u64 c3.seed] [.int .i64 ((J1 code c3 20).pos), .int .u64 ((J1 code c3 20).seed)] [.int .i64 20] (.one (.d (.int .i64 (J3 code c3 20))))) ∧ (∃ x' : Int, ∃ c5' : Cur, (J1h u code c most pl c0 O0 D0 pl1 c2 i c3 O1 D1 x' c5') ∧ (pl1.length = pl1.length) ∧ (i = i) ∧ ((J3 code c3 20) = x') ∧ ((.lit u (.sl (.bytes code)) : D) = .lit u (.sl (.bytes code))) ∧ ((J1 code c3 20).pos = c5'.pos) ∧ ((J1 code c3 20).seed = c5'.seed) ∧ (O1.length = O1.length) ∧ (D1.length = D1.length) ∧ (pl1 = pl1) ∧ (O1 = O1) ∧ (D1 = D1))) ∧ (∀ x : Int, ∀ c5 : Cur, (J1h u code c most pl c0 O0 D0 pl1 c2 i c3 O1 D1 x c5) → ((∃ a2' : Int, ∃ D2' : ZR, (J0i u code c most pl c0 O0 D0 pl1 c2 i c3 O1 D1 x c5 a2' D2') ∧ (pl1.length = pl1.length) ∧ (i = i) ∧ (x = x) ∧ ((0 : Int) = a2') ∧ ((.lit u (.sl (.bytes code)) : D) = .lit u (.sl (.bytes code))) ∧ (c5.pos = c5.pos) ∧ (c5.seed = c5.seed) ∧ (D1 = D2') ∧ (O1.length = O1.length) ∧ (D1.length = D2'.length) ∧ (pl1 = pl1) ∧ (O1 = O1)) ∧ (∀ a2 : Int, ∀ D2 : ZR, (J0i u code c most pl c0 O0 D0 pl1 c2 i c3 O1 D1 x c5 a2 D2) → (((decide (a2 < (O1.length : Int))) = true → (true = true) ∧ ((0 : Int) ≤ i) ∧ ((i : Int) < (D2.length : Int)) ∧ (i.toNat < D2.length) ∧ ((0 : Int) ≤ a2) ∧ ((a2 : Int) < (pl1.length : Int)) ∧ (a2.toNat < pl1.length) ∧ (I6 (x - (pl1.getD a2.toNat 0))) ∧ ((0 : Int) ≤ a2) ∧ ((a2 : Int) < (pl1.length : Int)) ∧ (a2.toNat < pl1.length) ∧ (I6 ((pl1.getD a2.toNat 0) - x)) ∧ (PC Tryz.prog 154 [.int .i64 (x - (pl1.getD a2.toNat 0)), .int .i64 ((pl1.getD a2.toNat 0) - x)] (.one (.d (.int .i64 (max (x - (pl1.getD a2.toNat 0)) ((pl1.getD a2.toNat 0) - x)))))) ∧ ((0 : Int) ≤ a2) ∧ ((a2 : Int) < (((D2.getD i.toNat []).length) : Int)) ∧ (i.toNat < D2.length) ∧ (a2.toNat < (D2.getD i.toNat []).length) ∧ (I6 (a2 + 1)) ∧ (∃ a2' : Int, ∃ D2' : ZR, (J0i u code c most pl c0 O0 D0 pl1 c2 i c3 O1 D1 x c5 a2' D2') ∧ (J0j u code c most pl c0 O0 D0 pl1 c2 i c3 O1 D1 x c5 a2' D2' < J0j u code c most pl c0 O0 D0 pl1 c2 i c3 O1 D1 x c5 a2 D2) ∧ (pl1.length = pl1.length) ∧ (i = i) ∧ (x = x) ∧ ((a2 + 1) = a2') ∧ ((.lit u (.sl (.bytes code)) : D) = .lit u (.sl (.bytes code))) ∧ (c5.pos = c5.pos) ∧ (c5.seed = c5.seed) ∧ ((D2.set i.toNat ((D2.getD i.toNat []).set a2.toNat (max (x - (pl1.getD a2.toNat 0)) ((pl1.getD a2.toNat 0) - x)))) = D2') ∧ (O1.length = O1.length) ∧ (D2.length = D2'.length) ∧ (pl1 = pl1) ∧ (O1 = O1))) ∧ ((decide (a2 < (O1.length : Int))) = false → (I6 (i + 1)) ∧ (∃ i' : Int, ∃ c3' : Cur, ∃ O1' : ZI, ∃ D1' : ZR, (J0l u code c most pl c0 O0 D0 pl1 c2 i' c3' O1' D1') ∧ (J0m u code c most pl c0 O0 D0 pl1 c2 i' c3' O1' D1' < J0m u code c most pl c0 O0 D0 pl1 c2 i c3 O1 D1) ∧ (pl1.length = pl1.length) ∧ ((i + 1) = i') ∧ ((.lit u (.sl (.bytes code)) : D) = .lit u (.sl (.bytes code))) ∧ (c5.pos = c3'.pos) ∧ (c5.seed = c3'.seed) ∧ (O1 = O1') ∧ (D2 = D1') ∧ (O1.length = O1'.length) ∧ (D2.length = D1'.length) ∧ (pl1 = pl1))))))))) ∧ ((decide (i < (D1.length : Int))) = false → (∃ O' : ZI, ∃ D' : ZR, ∃ cg' : Cur, (J0W code c most O' D' cg') ∧ (true = true) ∧ ((.lit u (.sl (.bytes code)) : D) = .lit u (.sl (.bytes code))) ∧ (c3.pos = cg'.pos) ∧ (c3.seed = cg'.seed) ∧ (O1.length = O1.length) ∧ ((O1 : ZI) = O') ∧ (D1.length = D1.length) ∧ ((D1 : ZR) = D'))))))))))
theorem J6d (u : Value) (code : List Nat) (c : Cur) (most : Int) (hb : ∀ x9 ∈ code, x9 < 256) (hc : okC c 3000000) (hm : 0 ≤ most ∧ most ≤ 7)  : J1A u code c most := by
  unfold J1A
  refine ⟨?_, ?_⟩
  ·refine ⟨?_, ?_⟩
   ·refine J0x code c most ?_ ?_ ?_
    ·exact hb
    ·exact J5 (by assumption) (by omega)
    ·omega
   ·intro Or1 Dr1 cfr1 hQ9
    obtain ⟨f1r1, f2r1⟩ := hQ9
    refine ⟨rfl, ?_⟩
    ·refine ⟨([]), cfr1, Or1, Dr1, ?_⟩
     refine ⟨?_, rfl, ?_, rfl, rfl, rfl, rfl, rfl, rfl, rfl⟩
     ·refine ⟨?_, ?_, ?_⟩
      ·rfl
      ·exact J5 (by assumption) (by omega)
      ·assumption
     rfl
  intro pl c0 O0 D0 hJ
  obtain ⟨p1, p2, d0⟩ := hJ
  refine ⟨?_, ?_⟩
  ·refine ⟨?_, ?_⟩
   ·refine ⟨pl, 0, c0, ?_⟩
    refine ⟨?_, rfl, rfl, rfl, rfl, rfl, rfl, rfl, rfl, rfl, rfl⟩
    ·refine ⟨?_, ?_, ?_, ?_, ?_⟩
     ·omega
     ·omega
     ·(simp_all; done)
     ·(rw [p1]; intro y hy; cases hy)
     ·exact J5 (by assumption) (by omega)
   ·intro pl2 a c1 hJ
    obtain ⟨h1, h2, h3, h4, h5⟩ := hJ
    refine ⟨?_, ?_⟩
    ·intro b1
     try simp only [nrmT] at b1
     refine ⟨?_, rfl, rfl, ?_, ?_, ?_⟩
     ·refine Jk code c1 20 ?_ ?_
      ·exact hb
      ·(have q9 := d0.1; exact J5 (by repeat (first | assumption | apply J5P | apply Ja | apply J0C | exact J8E)) (by omega))
     ·have q := d0.1; omega
     ·(have q := d0.1; omega)
     refine ⟨(pl2 ++ [(J3 code c1 20)]), (a + 1), (J1 code c1 20), ?_⟩
     refine ⟨?_, ?_, ?_, rfl, rfl, rfl, rfl, rfl, rfl, rfl, rfl, rfl⟩
     ·refine ⟨?_, ?_, ?_, ?_, ?_⟩
      ·omega
      ·omega
      ·(simp_all <;> omega)
      ·refine J8z (by assumption) ?_
       exact Jt code c1 (n := 20) (by omega)
      ·exact J5 (Ja (by assumption)) (by omega)
     ·(simp only [J0n]; omega)
     simp
    intro b2
    try simp only [nrmT] at b2
    refine ⟨pl2, c1, ?_⟩
    refine ⟨?_, rfl, rfl, rfl, rfl, rfl, rfl, rfl, rfl, rfl⟩
    ·refine ⟨?_, ?_, ?_⟩
     ·(have q9 := d0.1; exact J5 (by repeat (first | assumption | apply J5P | apply Ja | apply J0C | exact J8E)) (by omega))
     ·omega
     ·assumption
  intro pl1 c2 hJ
  obtain ⟨p4, p5, p3⟩ := hJ
  refine ⟨?_, ?_⟩
  ·refine ⟨0, c2, O0, D0, ?_⟩
   refine ⟨?_, rfl, rfl, rfl, rfl, rfl, rfl, rfl, rfl, rfl, rfl⟩
   ·refine ⟨?_, ?_, ?_, ?_, ?_⟩
    ·omega
    ·omega
    ·assumption
    ·omega
    ·exact J5 (by assumption) (by omega)
  intro i c3 O1 D1 hJ
  obtain ⟨k1, k2, d1, k6, k5⟩ := hJ
  refine ⟨?_, ?_⟩
  ·intro b3
   try simp only [nrmT] at b3
   refine ⟨?_, ?_⟩
   ·refine ⟨?_, ?_⟩
    ·refine Jk code c3 20 ?_ ?_
     ·exact hb
     ·(have q9 := d1.2.1; exact J5 (by repeat (first | assumption | apply J5P | apply Ja | apply J0C | exact J8E)) (by omega))
    ·refine ⟨(J3 code c3 20), (J1 code c3 20), ?_⟩
     refine ⟨?_, rfl, rfl, rfl, rfl, rfl, rfl, rfl, rfl, rfl, rfl, rfl⟩
     ·refine ⟨?_, ?_⟩
      ·exact Jt code _ (n := 20) (by omega)
      ·exact J5 (Ja (by assumption)) (by omega)
   intro x c5 hJ
   obtain ⟨x1, x2⟩ := hJ
   refine ⟨?_, ?_⟩
   ·refine ⟨0, D1, ?_⟩
    refine ⟨?_, rfl, rfl, rfl, rfl, rfl, rfl, rfl, rfl, rfl, rfl, rfl, rfl⟩
    ·refine ⟨?_, ?_, ?_, ?_⟩
     ·omega
     ·have := d1.1; omega
     ·assumption
     ·omega
   intro a2 D2 hJ
   obtain ⟨m1, m2, d2, m3⟩ := hJ
   refine ⟨?_, ?_⟩
   ·intro b4
    try simp only [nrmT] at b4
    refine ⟨rfl, ?_, ?_, ?_, ?_, ?_, ?_, ?_, ?_, ?_, ?_, ?_, J86 (x - (pl1.getD a2.toNat 0)) ((pl1.getD a2.toNat 0) - x), ?_, ?_, ?_, ?_, ?_, ?_⟩
    ·omega
    ·omega
    ·omega
    ·omega
    ·omega
    ·omega
    ·have q := p3 _ (getD_mem (d := 0) (show a2.toNat < pl1.length by omega))
     have q2 := x1
     omega
    ·omega
    ·omega
    ·omega
    ·have q := p3 _ (getD_mem (d := 0) (show a2.toNat < pl1.length by omega))
     have q2 := x1
     omega
    ·omega
    ·have q := (J7 d2 (i := i.toNat) (a := a2.toNat) (by omega) (by omega)).1
     omega
    ·omega
    ·have q := (J7 d2 (i := i.toNat) (a := a2.toNat) (by omega) (by omega)).1
     omega
    ·(have q := d1.1; have q2 := d1.2.1; omega)
    refine ⟨(a2 + 1), (D2.set i.toNat ((D2.getD i.toNat []).set a2.toNat (max (x - (pl1.getD a2.toNat 0)) ((pl1.getD a2.toNat 0) - x)))), ?_⟩
    refine ⟨?_, ?_, rfl, rfl, rfl, rfl, rfl, rfl, rfl, rfl, rfl, ?_, rfl, rfl⟩
    ·refine ⟨?_, ?_, ?_, ?_⟩
     ·omega
     ·have := d1.1; omega
     ·refine Jcl (by assumption) (by omega) ?_
      have q := p3 _ (getD_mem (d := 0) (show a2.toNat < pl1.length by omega))
      omega
     ·simp; try omega
    ·(simp only [J0j]; omega)
    (simp_all; done)
   intro b5
   try simp only [nrmT] at b5
   refine ⟨?_, ?_⟩
   ·(have q := d1.1; have q2 := d1.2.1; omega)
   refine ⟨(i + 1), c5, O1, D2, ?_⟩
   refine ⟨?_, ?_, rfl, rfl, rfl, rfl, rfl, rfl, rfl, rfl, rfl, rfl⟩
   ·refine ⟨?_, ?_, ?_, ?_, ?_⟩
    ·omega
    ·omega
    ·assumption
    ·have := d1.1; omega
    ·exact J5 (by assumption) (by omega)
   (simp only [J0m]; omega)
  intro b6
  try simp only [nrmT] at b6
  refine ⟨O1, D1, c3, ?_⟩
  refine ⟨?_, rfl, rfl, rfl, rfl, rfl, rfl, rfl, rfl⟩
  ·refine ⟨?_, ?_⟩
   ·(have q9 := d1.2.1; exact J5 (by repeat (first | assumption | apply J5P | apply Ja | apply J0C | exact J8E)) (by omega))
   ·assumption
theorem J3e (code : List Nat) (c : Cur) (most : Int) (hb : ∀ x9 ∈ code, x9 < 256) (hc : okC c 3000000) (hm : 0 ≤ most ∧ most ≤ 7) : PKE Tryz.prog 186 76 (.sl (.bytes code)) [.int .i64 c.pos, .int .u64 c.seed] [.int .i64 most] (J0b code c most) :=
  pke_by (Q := fun u => J1A u code c most) (by kernel_rfl) Tryz.func186 @Tryz.call186 (by kernel_rfl) J6K (fun u => J6Q u code c most) (by kernel_rfl) (fun u => J6d u code c most hb hc hm) (fun u => by kernel_rfl)
abbrev J0S (u : Value) (code : List Nat) (c : Cur) (U : ZI) (E : ZR) (aa : Int) (c1 : Cur) (O1 : ZI) (D1 : ZR) : Prop := (D1.length ≤ 8) ∧ (O1.length ≤ 7)
abbrev J0Q (u : Value) (code : List Nat) (c : Cur) (U : ZI) (E : ZR) (aa : Int) (c1 : Cur) (O1 : ZI) (D1 : ZR) : Nat := 8 - D1.length
abbrev J1z (u : Value) (code : List Nat) (c : Cur) (U : ZI) (E : ZR) (aa : Int) (c1 : Cur) : Prop := (0 ≤ aa ∧ aa < (U.length : Int)) ∧ (okC c1 7000100)
abbrev Jj (code : List Nat) (c : Cur) (U : ZI) (E : ZR) (O : ZI) (D : ZR) (ch : Cur) : Prop := (okC ch 8000000) ∧ (O.length ≤ 8) ∧ (D.length ≤ 8)
def JL (code : List Nat) (c : Cur) (U : ZI) (E : ZR) : Ex := ex3 2 (fun (O : ZI) (D : ZR) (ch : Cur) => Jj code c U E O D ch) (fun (O : ZI) (D : ZR) (ch : Cur) => [.int .i64 ch.pos, .int .u64 ch.seed]) (fun (O : ZI) (D : ZR) (ch : Cur) => .agg [.own 3 (.ints O), .mat 3 24 D])
def J7L (f : FuncId) (ds : List D) : Orc := bif Nat.beq f 98 then J5y ds else .no
def J7U (u : Value) (code : List Nat) (c : Cur) (U : ZI) (E : ZR) : Ann := .two (.none) (.two (.none) (.cut (.mark [] [(4, .cell [.int .i64 ((J1 code c (U.length : Int)).pos), .int .u64 ((J1 code c (U.length : Int)).seed)] (.one (.d (.int .i64 (J3 code c (U.length : Int))))))]) (cut2 (fun (aa : Int) (c1 : Cur) => J1z u code c U E aa c1) (fun (aa : Int) (c1 : Cur) => [(0, .ptr 0 0), (3, .ptr 3 0), (4, .ptr 4 0), (5, .d true (.int .i64 aa))]) (fun (aa : Int) (c1 : Cur) => [(0, .box 76 [.d false (.lit u (.sl (.bytes code))), .d true (.int .i64 c1.pos), .d true (.int .u64 c1.seed)]), (3, .box 27 [.own 1 U.length, .own 2 E.length]), (4, .box 27 [.d true (.nil), .d true (.nil)]), (1, .arr true 3 (.ints U)), (2, .mat 3 24 E none)])) (fun g => (fun (aa : Int) (c1 : Cur) => .two (.two (.mark [] [(1, .cell [.int .i64 ((J1 code c1 60).pos), .int .u64 ((J1 code c1 60).seed)] (.one (.d (.int .i64 (J3 code c1 60)))))]) (.two (.none) (.two (.reg [(5, .cell [.int .i64 ((J1 code (J1 code c1 60) (([(-1), 99, 100, 4611686018427387904]).length : Int)).pos), .int .u64 ((J1 code (J1 code c1 60) (([(-1), 99, 100, 4611686018427387904]).length : Int)).seed)] (.one (.d (.int .i64 (([(-1), 99, 100, 4611686018427387904]).getD (J3 code (J1 code c1 60) (([(-1), 99, 100, 4611686018427387904]).length : Int)).toNat 0)))))]) (.two (.none) (.two (.two (.none) (.two (.reg [(7, .cell [.int .i64 ((J1 code (J1 code c1 60) (([(-1), 99, 100, (-9223372036854775808)]).length : Int)).pos), .int .u64 ((J1 code (J1 code c1 60) (([(-1), 99, 100, (-9223372036854775808)]).length : Int)).seed)] (.one (.d (.int .i64 (([(-1), 99, 100, (-9223372036854775808)]).getD (J3 code (J1 code c1 60) (([(-1), 99, 100, (-9223372036854775808)]).length : Int)).toNat 0)))))]) (.none))) (.two (.none) (.two (.none) (.two (.none) (.two (.loop (cut2 (fun (O1 : ZI) (D1 : ZR) => J0S u code c U E aa c1 O1 D1) (fun (O1 : ZI) (D1 : ZR) => [(0, .ptr 0 0), (3, .ptr 3 0), (4, .ptr 4 0)]) (fun (O1 : ZI) (D1 : ZR) => [(0, .box 76 [.d false (.lit u (.sl (.bytes code))), .d true (.int .i64 ((J1 code c1 60).pos)), .d true (.int .u64 ((J1 code c1 60).seed))]), (1000000, .arr true 3 (.ints O1)), (1000001, .mat 3 24 D1 none), (3, .box 27 [.own 1000000 O1.length, .own 1000001 D1.length]), (4, .box 27 [.d true (.nil), .d true (.nil)])])) (fun g => J0Q u code c U E aa c1 g.1 g.2) (fun _ => .none)) (.none)))))))))) (.none)) (g.1) (g.2))))
def J2n (u : Value) (code : List Nat) (c : Cur) (U : ZI) (E : ZR) : Prop :=
  ((((U.length : Int) == 0) = true → (∃ O' : ZI, ∃ D' : ZR, ∃ ch' : Cur, (Jj code c U E O' D' ch') ∧ (true = true) ∧ ((.lit u (.sl (.bytes code)) : D) = .lit u (.sl (.bytes code))) ∧ (c.pos = ch'.pos) ∧ (c.seed = ch'.seed) ∧ (U.length = U.length) ∧ ((U : ZI) = O') ∧ (E.length = E.length) ∧ ((E : ZR) = D'))) ∧ (((U.length : Int) == 0) = false → (((PK Tryz.prog 156 76 (.sl (.bytes code)) [.int .i64 c.pos, .int .u64 c.seed] [.int .i64 ((J1 code c (U.length : Int)).pos), .int .u64 ((J1 code c (U.length : Int)).seed)] [.int .i64 (U.length : Int)] (.one (.d (.int .i64 (J3 code c (U.length : Int)))))) ∧ (∃ aa' : Int, ∃ c1' : Cur, (J1z u code c U E aa' c1') ∧ ((J3 code c (U.length : Int)) = aa') ∧ ((.lit u (.sl (.bytes code)) : D) = .lit u (.sl (.bytes code))) ∧ ((J1 code c (U.length : Int)).pos = c1'.pos) ∧ ((J1 code c (U.length : Int)).seed = c1'.seed) ∧ (U.length = U.length) ∧ (E.length = E.length) ∧ (U = U) ∧ (E = E))) ∧ (∀ aa : Int, ∀ c1 : Cur, (J1z u code c U E aa c1) → (PK Tryz.prog 156 76 (.sl (.bytes code)) [.int .i64 c1.pos, .int .u64 c1.seed] [.int .i64 ((J1 code c1 60).pos), .int .u64 ((J1 code c1 60).seed)] [.int .i64 60] (.one (.d (.int .i64 (J3 code c1 60))))) ∧ ((((J3 code c1 60) == 0) = true → (true = true) ∧ ((4 : Nat) = 4) ∧ (PK Tryz.prog 155 76 (.sl (.bytes code)) [.int .i64 ((J1 code c1 60).pos), .int .u64 ((J1 code c1 60).seed)] [.int .i64 ((J1 code (J1 code c1 60) (([(-1), 99, 100, 4611686018427387904]).length : Int)).pos), .int .u64 ((J1 code (J1 code c1 60) (([(-1), 99, 100, 4611686018427387904]).length : Int)).seed)] [.sl (.ints ([(-1), 99, 100, 4611686018427387904]))] (.one (.d (.int .i64 (([(-1), 99, 100, 4611686018427387904]).getD (J3 code (J1 code c1 60) (([(-1), 99, 100, 4611686018427387904]).length : Int)).toNat 0))))) ∧ ((0 : Int) ≤ aa) ∧ ((aa : Int) < (U.length : Int)) ∧ (aa.toNat < U.length) ∧ (∃ O' : ZI, ∃ D' : ZR, ∃ ch' : Cur, (Jj code c U E O' D' ch') ∧ (true = true) ∧ ((.lit u (.sl (.bytes code)) : D) = .lit u (.sl (.bytes code))) ∧ ((J1 code (J1 code c1 60) (([(-1), 99, 100, 4611686018427387904]).length : Int)).pos = ch'.pos) ∧ ((J1 code (J1 code c1 60) (([(-1), 99, 100, 4611686018427387904]).length : Int)).seed = ch'.seed) ∧ (U.length = (U.set aa.toNat (([(-1), 99, 100, 4611686018427387904]).getD (J3 code (J1 code c1 60) (([(-1), 99, 100, 4611686018427387904]).length : Int)).toNat 0)).length) ∧ (((U.set aa.toNat (([(-1), 99, 100, 4611686018427387904]).getD (J3 code (J1 code c1 60) (([(-1), 99, 100, 4611686018427387904]).length : Int)).toNat 0)) : ZI) = O') ∧ (E.length = E.length) ∧ ((E : ZR) = D'))) ∧ (((J3 code c1 60) == 0) = false → ((((J3 code c1 60) == 1) = true → (((decide ((E.length : Int) > 0)) = true → (true = true) ∧ ((0 : Int) ≤ 0) ∧ ((0 : Int) < (E.length : Int)) ∧ (0 < E.length) ∧ ((4 : Nat) = 4) ∧ (PK Tryz.prog 155 76 (.sl (.bytes code)) [.int .i64 ((J1 code c1 60).pos), .int .u64 ((J1 code c1 60).seed)] [.int .i64 ((J1 code (J1 code c1 60) (([(-1), 99, 100, (-9223372036854775808)]).length : Int)).pos), .int .u64 ((J1 code (J1 code c1 60) (([(-1), 99, 100, (-9223372036854775808)]).length : Int)).seed)] [.sl (.ints ([(-1), 99, 100, (-9223372036854775808)]))] (.one (.d (.int .i64 (([(-1), 99, 100, (-9223372036854775808)]).getD (J3 code (J1 code c1 60) (([(-1), 99, 100, (-9223372036854775808)]).length : Int)).toNat 0))))) ∧ ((0 : Int) ≤ aa) ∧ ((aa : Int) < (((E.getD 0 []).length) : Int)) ∧ (0 < E.length) ∧ (aa.toNat < (E.getD 0 []).length) ∧ (∃ O' : ZI, ∃ D' : ZR, ∃ ch' : Cur, (Jj code c U E O' D' ch') ∧ (true = true) ∧ ((.lit u (.sl (.bytes code)) : D) = .lit u (.sl (.bytes code))) ∧ ((J1 code (J1 code c1 60) (([(-1), 99, 100, (-9223372036854775808)]).length : Int)).pos = ch'.pos) ∧ ((J1 code (J1 code c1 60) (([(-1), 99, 100, (-9223372036854775808)]).length : Int)).seed = ch'.seed) ∧ (U.length = U.length) ∧ ((U : ZI) = O') ∧ (E.length = (E.set 0 ((E.getD 0 []).set aa.toNat (([(-1), 99, 100, (-9223372036854775808)]).getD (J3 code (J1 code c1 60) (([(-1), 99, 100, (-9223372036854775808)]).length : Int)).toNat 0))).length) ∧ (((E.set 0 ((E.getD 0 []).set aa.toNat (([(-1), 99, 100, (-9223372036854775808)]).getD (J3 code (J1 code c1 60) (([(-1), 99, 100, (-9223372036854775808)]).length : Int)).toNat 0))) : ZR) = D'))) ∧ ((decide ((E.length : Int) > 0)) = false → (∃ O' : ZI, ∃ D' : ZR, ∃ ch' : Cur, (Jj code c U E O' D' ch') ∧ (true = true) ∧ ((.lit u (.sl (.bytes code)) : D) = .lit u (.sl (.bytes code))) ∧ ((J1 code c1 60).pos = ch'.pos) ∧ ((J1 code c1 60).seed = ch'.seed) ∧ (U.length = U.length) ∧ ((U : ZI) = O') ∧ (E.length = E.length) ∧ ((E : ZR) = D'))))) ∧ (((J3 code c1 60) == 1) = false → ((((J3 code c1 60) == 2) = true → (U.length = U.length) ∧ ((1 : Nat) = 1) ∧ ((U.length + 1) * 8 ≤ 140737488355328) ∧ (∃ O' : ZI, ∃ D' : ZR, ∃ ch' : Cur, (Jj code c U E O' D' ch') ∧ (true = true) ∧ ((.lit u (.sl (.bytes code)) : D) = .lit u (.sl (.bytes code))) ∧ ((J1 code c1 60).pos = ch'.pos) ∧ ((J1 code c1 60).seed = ch'.seed) ∧ ((U.length + 1) = (U ++ [1]).length) ∧ (((U ++ [1]) : ZI) = O') ∧ (E.length = E.length) ∧ ((E : ZR) = D'))) ∧ (((J3 code c1 60) == 2) = false → ((((J3 code c1 60) == 3) = true → ((∃ O1' : ZI, ∃ D1' : ZR, (J0S u code c U E aa c1 O1' D1') ∧ ((.lit u (.sl (.bytes code)) : D) = .lit u (.sl (.bytes code))) ∧ ((J1 code c1 60).pos = (J1 code c1 60).pos) ∧ ((J1 code c1 60).seed = (J1 code c1 60).seed) ∧ (U = O1') ∧ (E = D1') ∧ (U.length = O1'.length) ∧ (E.length = D1'.length)) ∧ (∀ O1 : ZI, ∀ D1 : ZR, (J0S u code c U E aa c1 O1 D1) → (((decide ((D1.length : Int) < 8)) = true → (true = true) ∧ (O1.length = O1.length) ∧ (PC Tryz.prog 98 [.sl (.ints O1)] (.one (.own 3 (.ints O1)))) ∧ (O1.length = O1.length) ∧ (D1.length = D1.length) ∧ ((1 : Nat) = 1) ∧ (0 < 1) ∧ ((D1.length + 1) * 24 ≤ 140737488355328) ∧ (∃ O1' : ZI, ∃ D1' : ZR, (J0S u code c U E aa c1 O1' D1') ∧ (J0Q u code c U E aa c1 O1' D1' < J0Q u code c U E aa c1 O1 D1) ∧ ((.lit u (.sl (.bytes code)) : D) = .lit u (.sl (.bytes code))) ∧ ((J1 code c1 60).pos = (J1 code c1 60).pos) ∧ ((J1 code c1 60).seed = (J1 code c1 60).seed) ∧ (O1 = O1') ∧ ((D1 ++ [O1]) = D1') ∧ (O1.length = O1'.length) ∧ ((D1.length + 1) = D1'.length))) ∧ ((decide ((D1.length : Int) < 8)) = false → (∃ O' : ZI, ∃ D' : ZR, ∃ ch' : Cur, (Jj code c U E O' D' ch') ∧ (true = true) ∧ ((.lit u (.sl (.bytes code)) : D) = .lit u (.sl (.bytes code))) ∧ ((J1 code c1 60).pos = ch'.pos) ∧ ((J1 code c1 60).seed = ch'.seed) ∧ (O1.length = O1.length) ∧ ((O1 : ZI) = O') ∧ (D1.length = D1.length) ∧ ((D1 : ZR) = D'))))))) ∧ (((J3 code c1 60) == 3) = false → ((((J3 code c1 60) == 4) = true → (∃ O' : ZI, ∃ D' : ZR, ∃ ch' : Cur, (Jj code c U E O' D' ch') ∧ (true = true) ∧ ((.lit u (.sl (.bytes code)) : D) = .lit u (.sl (.bytes code))) ∧ ((J1 code c1 60).pos = ch'.pos) ∧ ((J1 code c1 60).seed = ch'.seed) ∧ (O'.length = 0) ∧ (D'.length = 0))) ∧ (((J3 code c1 60) == 4) = false → (∃ O' : ZI, ∃ D' : ZR, ∃ ch' : Cur, (Jj code c U E O' D' ch') ∧ (true = true) ∧ ((.lit u (.sl (.bytes code)) : D) = .lit u (.sl (.bytes code))) ∧ ((J1 code c1 60).pos = ch'.pos) ∧ ((J1 code c1 60).seed = ch'.seed) ∧ (U.length = U.length) ∧ ((U : ZI) = O') ∧ (E.length = E.length) ∧ ((E : ZR) = D'))))))))))))))))
theorem J7o (u : Value) (code : List Nat) (c : Cur) (U : ZI) (E : ZR) (hb : ∀ x9 ∈ code, x9 < 256) (hc : okC c 7000000) (hf : drF U E)  : J2n u code c U E := by
  unfold J2n
  refine ⟨?_, ?_⟩
  ·intro b1
   try simp only [nrmT] at b1
   refine ⟨U, E, c, ?_⟩
   refine ⟨?_, rfl, rfl, rfl, rfl, rfl, rfl, rfl, rfl⟩
   ·refine ⟨?_, ?_, ?_⟩
    ·exact J5 (by assumption) (by omega)
    ·(have := hf.1; have := hf.2.1; omega)
    ·(have := hf.1; have := hf.2.1; omega)
  intro b2
  try simp only [nrmT] at b2
  refine ⟨?_, ?_⟩
  ·refine ⟨?_, ?_⟩
   ·refine Jk code c (U.length : Int) ?_ ?_
    ·exact hb
    ·exact J5 (by assumption) (by omega)
   ·refine ⟨(J3 code c (U.length : Int)), (J1 code c (U.length : Int)), ?_⟩
    refine ⟨?_, rfl, rfl, rfl, rfl, rfl, rfl, rfl, rfl⟩
    ·refine ⟨?_, ?_⟩
     ·exact Jt code _ (by omega)
     ·exact J5 (Ja (by assumption)) (by omega)
  intro aa c1 hJ
  obtain ⟨a1, a2⟩ := hJ
  refine ⟨?_, ?_, ?_⟩
  ·refine Jk code c1 60 ?_ ?_
   ·exact hb
   ·exact J5 (by assumption) (by omega)
  ·intro b3
   try simp only [nrmT] at b3
   refine ⟨rfl, rfl, ?_, ?_, ?_, ?_, ?_⟩
   ·refine JV code (J1 code c1 60) ([(-1), 99, 100, 4611686018427387904]) ?_ ?_ ?_
    ·exact hb
    ·exact J5 (Ja (by assumption)) (by omega)
    ·simp
   ·omega
   ·omega
   ·omega
   refine ⟨(U.set aa.toNat (([(-1), 99, 100, 4611686018427387904]).getD (J3 code (J1 code c1 60) (([(-1), 99, 100, 4611686018427387904]).length : Int)).toNat 0)), E, (J1 code (J1 code c1 60) (([(-1), 99, 100, 4611686018427387904]).length : Int)), ?_⟩
   refine ⟨?_, rfl, rfl, rfl, rfl, ?_, rfl, rfl, rfl⟩
   ·refine ⟨?_, ?_, ?_⟩
    ·exact J5 (Ja (Ja (by assumption))) (by omega)
    ·(have := hf.1; have := hf.2.1; simp; try omega)
    ·(have := hf.1; have := hf.2.1; omega)
   simp; try omega
  intro b4
  try simp only [nrmT] at b4
  refine ⟨?_, ?_⟩
  ·intro b5
   try simp only [nrmT] at b5
   refine ⟨?_, ?_⟩
   ·intro b6
    try simp only [nrmT] at b6
    refine ⟨rfl, ?_, ?_, ?_, rfl, ?_, ?_, ?_, ?_, ?_, ?_⟩
    ·omega
    ·have := hf.2.1; omega
    ·have := hf.2.1; omega
    ·refine JV code (J1 code c1 60) ([(-1), 99, 100, (-9223372036854775808)]) ?_ ?_ ?_
     ·exact hb
     ·exact J5 (Ja (by assumption)) (by omega)
     ·simp
    ·omega
    ·have q := (J7 hf (i := 0) (a := aa.toNat) (by omega) (by omega)).1
     omega
    ·have := hf.2.1; omega
    ·have q := (J7 hf (i := 0) (a := aa.toNat) (by omega) (by omega)).1
     omega
    refine ⟨U, (E.set 0 ((E.getD 0 []).set aa.toNat (([(-1), 99, 100, (-9223372036854775808)]).getD (J3 code (J1 code c1 60) (([(-1), 99, 100, (-9223372036854775808)]).length : Int)).toNat 0))), (J1 code (J1 code c1 60) (([(-1), 99, 100, (-9223372036854775808)]).length : Int)), ?_⟩
    refine ⟨?_, rfl, rfl, rfl, rfl, rfl, rfl, ?_, rfl⟩
    ·refine ⟨?_, ?_, ?_⟩
     ·exact J5 (Ja (Ja (by assumption))) (by omega)
     ·(have := hf.1; have := hf.2.1; omega)
     ·(have := hf.1; have := hf.2.1; simp; try omega)
    simp; try omega
   intro b7
   try simp only [nrmT] at b7
   refine ⟨U, E, (J1 code c1 60), ?_⟩
   refine ⟨?_, rfl, rfl, rfl, rfl, rfl, rfl, rfl, rfl⟩
   ·refine ⟨?_, ?_, ?_⟩
    ·exact J5 (Ja (by assumption)) (by omega)
    ·(have := hf.1; have := hf.2.1; omega)
    ·(have := hf.1; have := hf.2.1; omega)
  intro b8
  try simp only [nrmT] at b8
  refine ⟨?_, ?_⟩
  ·intro b9
   try simp only [nrmT] at b9
   refine ⟨rfl, rfl, ?_, ?_⟩
   ·have := hf.1; omega
   refine ⟨(U ++ [1]), E, (J1 code c1 60), ?_⟩
   refine ⟨?_, rfl, rfl, rfl, rfl, ?_, rfl, rfl, rfl⟩
   ·refine ⟨?_, ?_, ?_⟩
    ·exact J5 (Ja (by assumption)) (by omega)
    ·(have := hf.1; have := hf.2.1; simp; try omega)
    ·(have := hf.1; have := hf.2.1; omega)
   simp
  intro b10
  try simp only [nrmT] at b10
  refine ⟨?_, ?_⟩
  ·intro b11
   try simp only [nrmT] at b11
   refine ⟨?_, ?_⟩
   ·refine ⟨U, E, ?_⟩
    refine ⟨?_, rfl, rfl, rfl, rfl, rfl, rfl, rfl⟩
    ·refine ⟨?_, ?_⟩
     ·(have := hf.1; have := hf.2.1; omega)
     ·(have := hf.1; have := hf.2.1; omega)
   intro O1 D1 hJ
   obtain ⟨h1, h2⟩ := hJ
   refine ⟨?_, ?_⟩
   ·intro b12
    try simp only [nrmT] at b12
    refine ⟨rfl, rfl, ?_, rfl, rfl, rfl, by decide, ?_, ?_⟩
    ·refine J4L O1 ?_
     ·omega
    ·omega
    refine ⟨O1, (D1 ++ [O1]), ?_⟩
    refine ⟨?_, ?_, rfl, rfl, rfl, rfl, rfl, rfl, ?_⟩
    ·refine ⟨?_, ?_⟩
     ·(have := hf.1; have := hf.2.1; simp; try omega)
     ·assumption
    ·(simp only [J0Q] at *; simp at *; omega)
    simp
   intro b13
   try simp only [nrmT] at b13
   refine ⟨O1, D1, (J1 code c1 60), ?_⟩
   refine ⟨?_, rfl, rfl, rfl, rfl, rfl, rfl, rfl, rfl⟩
   ·refine ⟨?_, ?_, ?_⟩
    ·exact J5 (Ja (by assumption)) (by omega)
    ·(have := hf.1; have := hf.2.1; omega)
    ·assumption
  intro b14
  try simp only [nrmT] at b14
  refine ⟨?_, ?_⟩
  ·intro b15
   try simp only [nrmT] at b15
   refine ⟨[], [], (J1 code c1 60), ?_⟩
   refine ⟨?_, rfl, rfl, rfl, rfl, rfl, rfl⟩
   ·refine ⟨?_, ?_, ?_⟩
    ·exact J5 (Ja (by assumption)) (by omega)
    ·(have := hf.1; have := hf.2.1; simp; try omega)
    ·(have := hf.1; have := hf.2.1; simp; try omega)
  intro b16
  try simp only [nrmT] at b16
  refine ⟨U, E, (J1 code c1 60), ?_⟩
  refine ⟨?_, rfl, rfl, rfl, rfl, rfl, rfl, rfl, rfl⟩
  ·refine ⟨?_, ?_, ?_⟩
   ·exact J5 (Ja (by assumption)) (by omega)
   ·(have := hf.1; have := hf.2.1; omega)
   ·(have := hf.1; have := hf.2.1; omega)
theorem J1y (code : List Nat) (c : Cur) (U : ZI) (E : ZR) (hb : ∀ x9 ∈ code, x9 < 256) (hc : okC c 7000000) (hf : drF U E) : PKV Tryz.prog 232 76 (.sl (.bytes code)) [.int .i64 c.pos, .int .u64 c.seed] 3 U 3 24 E (JL code c U E) :=
  pkv_by (Q := fun u => J2n u code c U E) (by kernel_rfl) Tryz.func232 @Tryz.call232 (by kernel_rfl) J7L (fun u => J7U u code c U E) (by kernel_rfl) (fun u => J7o u code c U E hb hc hf) (fun u => by kernel_rfl)
theorem JcU {α : Type} {l : List α} {i : Int} {d : α} (h0 : 0 ≤ i) (h : i < (l.length : Int)) : l.take i.toNat ++ [l.getD i.toNat d] = l.take (i + 1).toNat := (take_step h0 h).symm
abbrev J4f (U : ZI) (E : ZR) (i : Int) (O1 : ZI) (D1 : ZR) : Prop := (0 ≤ i) ∧ (i ≤ (E.length : Int)) ∧ (O1 = U) ∧ (D1 = E.take i.toNat)
abbrev J47 (U : ZI) (E : ZR) (i : Int) (O1 : ZI) (D1 : ZR) : Nat := (E.length - i).toNat
def JdN (f : FuncId) (ds : List D) : Orc := bif Nat.beq f 98 then J5y ds else .no
def Jdq (U : ZI) (E : ZR) : Ann := .two (.none) (.two (.none) (.two (.two (.none) (.loop (cut3 (fun (i : Int) (O1 : ZI) (D1 : ZR) => J4f U E i O1 D1) (fun (i : Int) (O1 : ZI) (D1 : ZR) => [(1, .ptr 1 0), (2, .ptr 2 0), (3, .ptr 3 0), (4, .d true (.int .i64 i))]) (fun (i : Int) (O1 : ZI) (D1 : ZR) => [(1, .box 27 [.d false (.sl (.ints U)), .d false (.sl (.rows E))]), (2, .box 27 [.d true (.nil), .d true (.nil)]), (1000001, .arr true 3 (.ints O1)), (1000002, .mat 3 24 D1 none), (3, .box 27 [.own 1000001 O1.length, .own 1000002 D1.length])])) (fun g => J47 U E g.1 g.2.1 g.2.2) (fun _ => .none))) (.none)))
def Jaq (U : ZI) (E : ZR) : Prop :=
  (PC Tryz.prog 98 [.sl (.ints U)] (.one (.own 3 (.ints U)))) ∧ ((∃ i' : Int, ∃ O1' : ZI, ∃ D1' : ZR, (J4f U E i' O1' D1') ∧ ((0 : Int) = i') ∧ (U = U) ∧ (E = E) ∧ (U = O1') ∧ ((D1').length = 0) ∧ (U.length = O1'.length) ∧ ((0 : Nat) = D1'.length)) ∧ (∀ i : Int, ∀ O1 : ZI, ∀ D1 : ZR, (J4f U E i O1 D1) → (((decide (i < (E.length : Int))) = true → (true = true) ∧ ((0 : Int) ≤ i) ∧ ((i : Int) < E.length) ∧ (i.toNat < E.length) ∧ (PC Tryz.prog 98 [.sl (.ints (E.getD i.toNat []))] (.one (.own 3 (.ints (E.getD i.toNat []))))) ∧ ((E.getD i.toNat []).length = (E.getD i.toNat []).length) ∧ (D1.length = D1.length) ∧ ((1 : Nat) = 1) ∧ (0 < 1) ∧ ((D1.length + 1) * 24 ≤ 140737488355328) ∧ (I6 (i + 1)) ∧ (∃ i' : Int, ∃ O1' : ZI, ∃ D1' : ZR, (J4f U E i' O1' D1') ∧ (J47 U E i' O1' D1' < J47 U E i O1 D1) ∧ ((i + 1) = i') ∧ (U = U) ∧ (E = E) ∧ (O1 = O1') ∧ ((D1 ++ [(E.getD i.toNat [])]) = D1') ∧ (O1.length = O1'.length) ∧ ((D1.length + 1) = D1'.length))) ∧ ((decide (i < (E.length : Int))) = false → ((O1.length = O1.length) ∧ ((O1 : ZI) = U) ∧ (D1.length = D1.length) ∧ ((D1 : ZR) = E))))))
theorem JcH (U : ZI) (E : ZR) (hl : U.length ≤ 1048576) (hd : E.length ≤ 1048576) (hr : ∀ r ∈ E, r.length ≤ 1048576) (w_Open : (U.length : Int) ≤ 9223372036854775807) (w_Dist : (E.length : Int) ≤ 9223372036854775807) (v_Dist : ∀ x9 ∈ E, (x9.length : Int) ≤ 9223372036854775807) : Jaq U E := by
  unfold Jaq
  refine ⟨?_, ?_, ?_⟩
  ·refine J4L U ?_
   ·omega
  ·refine ⟨0, U, ([]), ?_⟩
   refine ⟨?_, rfl, rfl, rfl, rfl, ?_, rfl, rfl⟩
   ·refine ⟨?_, ?_, ?_, ?_⟩
    ·omega
    ·omega
    ·rfl
    ·simp
   rfl
  intro i O1 D1 hJ
  obtain ⟨h1, h2, h3, h4⟩ := hJ
  refine ⟨?_, ?_⟩
  ·intro b1
   try simp only [nrmT] at b1
   refine ⟨rfl, ?_, ?_, ?_, ?_, rfl, rfl, rfl, by decide, ?_, ?_, ?_⟩
   ·omega
   ·omega
   ·omega
   ·refine J4L (E.getD i.toNat []) ?_
    ·exact hr _ (getD_memI h1 (by omega))
   ·rw [h4, List.length_take]; omega
   ·omega
   refine ⟨(i + 1), O1, (D1 ++ [(E.getD i.toNat [])]), ?_⟩
   refine ⟨?_, ?_, rfl, rfl, rfl, rfl, rfl, rfl, ?_⟩
   ·refine ⟨?_, ?_, ?_, ?_⟩
    ·omega
    ·omega
    ·exact h3
    ·rw [h4]; exact JcU h1 (by omega)
   ·(simp only [J47]; omega)
   simp
  intro b2
  try simp only [nrmT] at b2
  refine ⟨rfl, ?_, rfl, ?_⟩
  ·exact h3
  rw [h4, take_all (by omega)]
theorem Jcx (U : ZI) (E : ZR) (hl : U.length ≤ 1048576) (hd : E.length ≤ 1048576) (hr : ∀ r ∈ E, r.length ≤ 1048576) : PC Tryz.prog 224 [.agg [.sl (.ints U), .sl (.rows E)]] (.agg [.own 3 (.ints U), .mat 3 24 E]) :=
  pc_wf @Tryz.call224 fun hw => pc_by (by kernel_rfl) Tryz.func224 @Tryz.call224 (by kernel_rfl) JdN (Jdq U E) (by kernel_rfl) (JcH U E hl hd hr hw.1.1 hw.1.2.1.1 hw.1.2.1.2) (by kernel_rfl)
def JbV : List D → Orc := orcN [none] fun ds => match ds with
  | [.agg [.sl (.ints U), .sl (.rows E)]] => some (.agg [.own 3 (.ints U), .mat 3 24 E])
  | _ => none
/-- A way by two other lengths is shorter. -/
def J1f (D : ZR) (i j a b : Nat) : Bool := decide ((D.getD i []).getD a 0 > (D.getD i []).getD b 0 + (D.getD j []).getD b 0 + (D.getD j []).getD a 0)
def J7u (n : Nat) (D : ZR) (i j a : Nat) : Bool := allTo (fun b => !J1f D i j a b) n
def J6k (n : Nat) (D : ZR) (i j : Nat) : Bool := allTo (J7u n D i j) n
def J5v (n : Nat) (D : ZR) (i : Nat) : Bool := allTo (J6k n D i) D.length
def JG (n : Nat) (D : ZR) : Bool := allTo (J5v n D) D.length
def tot (D : ZR) : Int := (D.map fun r => J37 (fun y => y) r).sum
theorem J57 (r : ZI) (D : ZR) : tot (r :: D) = J37 (fun y => y) r + tot D := rfl
theorem JbA : ∀ {l : ZI} {k : Nat} {v : Int}, k < l.length → J37 (fun y => y) (l.set k v) = J37 (fun y => y) l - l.getD k 0 + v
  | x :: r, 0, v, _ => by rw [List.set_cons_zero, J1n, J1n, List.getD_cons_zero]; omega
  | x :: r, k + 1, v, h => by
    rw [List.set_cons_succ, J1n, J1n, List.getD_cons_succ, JbA (by simpa using h)]; omega
theorem Jcn : ∀ {D : ZR} {i : Nat} {r : ZI}, i < D.length → tot (D.set i r) = tot D - J37 (fun y => y) (D.getD i []) + J37 (fun y => y) r
  | x :: D, 0, r, _ => by rw [List.set_cons_zero, J57, J57, List.getD_cons_zero]; omega
  | x :: D, k + 1, r, h => by
    rw [List.set_cons_succ, J57, J57, List.getD_cons_succ, Jcn (by simpa using h)]; omega
theorem JcC {D : ZR} (h : ∀ r ∈ D, ∀ x ∈ r, 0 ≤ x) : 0 ≤ tot D := by
  induction D with
  | nil => exact Int.le_refl _
  | cons r D ih =>
    rw [J57]
    have h1 := JbQ (f := fun y => y) (h r List.mem_cons_self)
    have h2 := ih fun r' hr => h r' (List.mem_cons_of_mem _ hr)
    omega
/-- A round under way: nothing was changed and nothing was found, or the sum fell. -/
def Clo (D0 D : ZR) (c : Bool) : Prop := (D = D0 ∧ c = true) ∨ tot D < tot D0
theorem Jbu {O : ZI} {D0 D : ZR} (hf : drF O D) {i j a b : Nat} (hi : i < D.length) (hj : j < D.length) (ha : a < O.length) (hb : b < O.length) {c : Bool} (h : Clo D0 D (c && allTo (fun b => !J1f D0 i j a b) b)) :
    drF O (D.set i ((D.getD i []).set a (min ((D.getD i []).getD a 0) ((D.getD i []).getD b 0 + (D.getD j []).getD b 0 + (D.getD j []).getD a 0)))) ∧
    Clo D0 (D.set i ((D.getD i []).set a (min ((D.getD i []).getD a 0) ((D.getD i []).getD b 0 + (D.getD j []).getD b 0 + (D.getD j []).getD a 0)))) (c && allTo (fun b => !J1f D0 i j a b) (b + 1)) := by
  have e1 := J7 hf hi ha
  have e2 := J7 hf hi hb
  have e3 := J7 hf hj hb
  have e4 := J7 hf hj ha
  refine ⟨Jcl hf hi (by omega), ?_⟩
  have ht := Jcn (D := D) (i := i) (r := (D.getD i []).set a (min ((D.getD i []).getD a 0) ((D.getD i []).getD b 0 + (D.getD j []).getD b 0 + (D.getD j []).getD a 0))) hi
  rw [JbA (by omega)] at ht
  rcases h with ⟨rfl, hc⟩ | h
  · by_cases hx : (D.getD i []).getD a 0 ≤ (D.getD i []).getD b 0 + (D.getD j []).getD b 0 + (D.getD j []).getD a 0
    · left
      refine ⟨?_, ?_⟩
      · rw [Int.min_eq_left hx]
        have h1 : (D.getD i []).set a ((D.getD i []).getD a 0) = D.getD i [] := by
          rw [Jh (show a < (D.getD i []).length by omega)]; exact List.set_getElem_self _
        rw [h1, Jh hi]; exact List.set_getElem_self _
      rw [Bool.and_eq_true] at hc ⊢
      refine ⟨hc.1, ?_⟩
      have e : allTo (fun b => !J1f D i j a b) (b + 1) = (allTo (fun b => !J1f D i j a b) b && !J1f D i j a b) := rfl
      rw [e, hc.2, Bool.true_and]
      unfold J1f
      rw [decide_eq_false (by omega)]; rfl
    · right
      rw [Int.min_eq_right (by omega)] at ht ⊢
      omega
  right
  omega
theorem Jec {D0 D : ZR} {n : Nat} (h : Clo D0 D (allTo (J5v n D0) D0.length)) (hm : JG n D0 = false) : tot D < tot D0 := by
  rcases h with ⟨_, h⟩ | h
  · unfold JG at hm
    rw [hm] at h; cases h
  exact h
theorem J41 {D0 D : ZR} {c c' : Bool} (h : Clo D0 D c) (hc : c = true → c' = true) : Clo D0 D c' := by
  rcases h with ⟨h1, h2⟩ | h
  · exact .inl ⟨h1, hc h2⟩
  exact .inr h
abbrev J2f (U : ZI) (E : ZR) (i : Int) : Prop := (0 ≤ i) ∧ (i ≤ (E.length : Int)) ∧ (allTo (J5v U.length E) i.toNat = true)
abbrev J2j (U : ZI) (E : ZR) (i : Int) : Nat := (E.length - i).toNat
abbrev J2b (U : ZI) (E : ZR) (i : Int) (j : Int) : Prop := (0 ≤ j) ∧ (j ≤ (E.length : Int)) ∧ (allTo (J6k U.length E i.toNat) j.toNat = true)
abbrev J2a (U : ZI) (E : ZR) (i : Int) (j : Int) : Nat := (E.length - j).toNat
abbrev J22 (U : ZI) (E : ZR) (i : Int) (j : Int) (a : Int) : Prop := (0 ≤ a) ∧ (a ≤ (U.length : Int)) ∧ (allTo (J7u U.length E i.toNat j.toNat) a.toNat = true)
abbrev J1Y (U : ZI) (E : ZR) (i : Int) (j : Int) (a : Int) : Nat := (U.length - a).toNat
abbrev J2i (U : ZI) (E : ZR) (i : Int) (j : Int) (a : Int) (b : Int) : Prop := (0 ≤ b) ∧ (b ≤ (U.length : Int)) ∧ (allTo (fun b => !J1f E i.toNat j.toNat a.toNat b) b.toNat = true)
abbrev J2g (U : ZI) (E : ZR) (i : Int) (j : Int) (a : Int) (b : Int) : Nat := (U.length - b).toNat
def Jbd (f : FuncId) (ds : List D) : Orc := .no
def Jbi (U : ZI) (E : ZR) : Ann := .two (.none) (.two (.two (.none) (.loop (cut1 (fun (i : Int) => J2f U E i) (fun (i : Int) => [(1, .ptr 1 0), (3, .d true (.int .i64 i))]) (fun (i : Int) => [(1, .box 27 [.d false (.sl (.ints U)), .d false (.sl (.rows E))])])) (fun g => J2j U E g) (fun g => (fun (i : Int) => .two (.none) (.two (.two (.none) (.loop (cut1 (fun (j : Int) => J2b U E i j) (fun (j : Int) => [(1, .ptr 1 0), (3, .d true (.int .i64 i)), (4, .d true (.int .i64 j))]) (fun (j : Int) => [(1, .box 27 [.d false (.sl (.ints U)), .d false (.sl (.rows E))])])) (fun g => J2a U E i g) (fun g => (fun (j : Int) => .two (.none) (.two (.two (.none) (.loop (cut1 (fun (a : Int) => J22 U E i j a) (fun (a : Int) => [(1, .ptr 1 0), (3, .d true (.int .i64 i)), (4, .d true (.int .i64 j)), (5, .d true (.int .i64 a))]) (fun (a : Int) => [(1, .box 27 [.d false (.sl (.ints U)), .d false (.sl (.rows E))])])) (fun g => J1Y U E i j g) (fun g => (fun (a : Int) => .two (.none) (.two (.two (.none) (.loop (cut1 (fun (b : Int) => J2i U E i j a b) (fun (b : Int) => [(1, .ptr 1 0), (3, .d true (.int .i64 i)), (4, .d true (.int .i64 j)), (5, .d true (.int .i64 a)), (6, .d true (.int .i64 b))]) (fun (b : Int) => [(1, .box 27 [.d false (.sl (.ints U)), .d false (.sl (.rows E))])])) (fun g => J2g U E i j a g) (fun _ => .none))) (.none))) g))) (.none))) g))) (.none))) g))) (.none))
def J7r (U : ZI) (E : ZR) : Prop :=
  ((∃ i' : Int, (J2f U E i') ∧ ((0 : Int) = i') ∧ (U = U) ∧ (E = E)) ∧ (∀ i : Int, (J2f U E i) → (((decide (i < (E.length : Int))) = true → ((∃ j' : Int, (J2b U E i j') ∧ (i = i) ∧ ((0 : Int) = j') ∧ (U = U) ∧ (E = E)) ∧ (∀ j : Int, (J2b U E i j) → (((decide (j < (E.length : Int))) = true → ((∃ a' : Int, (J22 U E i j a') ∧ (i = i) ∧ (j = j) ∧ ((0 : Int) = a') ∧ (U = U) ∧ (E = E)) ∧ (∀ a : Int, (J22 U E i j a) → (((decide (a < (U.length : Int))) = true → ((∃ b' : Int, (J2i U E i j a b') ∧ (i = i) ∧ (j = j) ∧ (a = a) ∧ ((0 : Int) = b') ∧ (U = U) ∧ (E = E)) ∧ (∀ b : Int, (J2i U E i j a b) → (((decide (b < (U.length : Int))) = true → (true = true) ∧ ((0 : Int) ≤ i) ∧ ((i : Int) < E.length) ∧ (i.toNat < E.length) ∧ ((0 : Int) ≤ a) ∧ ((a : Int) < (E.getD i.toNat []).length) ∧ (a.toNat < (E.getD i.toNat []).length) ∧ ((0 : Int) ≤ i) ∧ ((i : Int) < E.length) ∧ (i.toNat < E.length) ∧ ((0 : Int) ≤ b) ∧ ((b : Int) < (E.getD i.toNat []).length) ∧ (b.toNat < (E.getD i.toNat []).length) ∧ ((0 : Int) ≤ j) ∧ ((j : Int) < E.length) ∧ (j.toNat < E.length) ∧ ((0 : Int) ≤ b) ∧ ((b : Int) < (E.getD j.toNat []).length) ∧ (b.toNat < (E.getD j.toNat []).length) ∧ (I6 (((E.getD i.toNat []).getD b.toNat 0) + ((E.getD j.toNat []).getD b.toNat 0))) ∧ ((0 : Int) ≤ j) ∧ ((j : Int) < E.length) ∧ (j.toNat < E.length) ∧ ((0 : Int) ≤ a) ∧ ((a : Int) < (E.getD j.toNat []).length) ∧ (a.toNat < (E.getD j.toNat []).length) ∧ (I6 ((((E.getD i.toNat []).getD b.toNat 0) + ((E.getD j.toNat []).getD b.toNat 0)) + ((E.getD j.toNat []).getD a.toNat 0))) ∧ (((decide (((E.getD i.toNat []).getD a.toNat 0) > ((((E.getD i.toNat []).getD b.toNat 0) + ((E.getD j.toNat []).getD b.toNat 0)) + ((E.getD j.toNat []).getD a.toNat 0)))) = true → ((false = (JG U.length E)))) ∧ ((decide (((E.getD i.toNat []).getD a.toNat 0) > ((((E.getD i.toNat []).getD b.toNat 0) + ((E.getD j.toNat []).getD b.toNat 0)) + ((E.getD j.toNat []).getD a.toNat 0)))) = false → (I6 (b + 1)) ∧ (∃ b' : Int, (J2i U E i j a b') ∧ (J2g U E i j a b' < J2g U E i j a b) ∧ (i = i) ∧ (j = j) ∧ (a = a) ∧ ((b + 1) = b') ∧ (U = U) ∧ (E = E))))) ∧ ((decide (b < (U.length : Int))) = false → (I6 (a + 1)) ∧ (∃ a' : Int, (J22 U E i j a') ∧ (J1Y U E i j a' < J1Y U E i j a) ∧ (i = i) ∧ (j = j) ∧ ((a + 1) = a') ∧ (U = U) ∧ (E = E))))))) ∧ ((decide (a < (U.length : Int))) = false → (I6 (j + 1)) ∧ (∃ j' : Int, (J2b U E i j') ∧ (J2a U E i j' < J2a U E i j) ∧ (i = i) ∧ ((j + 1) = j') ∧ (U = U) ∧ (E = E))))))) ∧ ((decide (j < (E.length : Int))) = false → (I6 (i + 1)) ∧ (∃ i' : Int, (J2f U E i') ∧ (J2j U E i' < J2j U E i) ∧ ((i + 1) = i') ∧ (U = U) ∧ (E = E))))))) ∧ ((decide (i < (E.length : Int))) = false → ((true = (JG U.length E)))))))
theorem JaG (U : ZI) (E : ZR) (hm : ∀ i a : Nat, i < E.length → a < U.length → a < (E.getD i []).length ∧ 0 ≤ (E.getD i []).getD a 0 ∧ (E.getD i []).getD a 0 ≤ 99) (w_Open : (U.length : Int) ≤ 9223372036854775807) (w_Dist : (E.length : Int) ≤ 9223372036854775807) (v_Dist : ∀ x9 ∈ E, (x9.length : Int) ≤ 9223372036854775807) : J7r U E := by
  unfold J7r
  refine ⟨?_, ?_⟩
  ·refine ⟨0, ?_⟩
   refine ⟨?_, rfl, rfl, rfl⟩
   ·refine ⟨?_, ?_, ?_⟩
    ·omega
    ·omega
    ·rfl
  intro i hJ
  obtain ⟨h1, h2, h3⟩ := hJ
  refine ⟨?_, ?_⟩
  ·intro b1
   try simp only [nrmT] at b1
   refine ⟨?_, ?_⟩
   ·refine ⟨0, ?_⟩
    refine ⟨?_, rfl, rfl, rfl, rfl⟩
    ·refine ⟨?_, ?_, ?_⟩
     ·omega
     ·omega
     ·rfl
   intro j hJ
   obtain ⟨h4, h5, h6⟩ := hJ
   refine ⟨?_, ?_⟩
   ·intro b2
    try simp only [nrmT] at b2
    refine ⟨?_, ?_⟩
    ·refine ⟨0, ?_⟩
     refine ⟨?_, rfl, rfl, rfl, rfl, rfl⟩
     ·refine ⟨?_, ?_, ?_⟩
      ·omega
      ·omega
      ·rfl
    intro a hJ
    obtain ⟨h7, h8, h9⟩ := hJ
    refine ⟨?_, ?_⟩
    ·intro b3
     try simp only [nrmT] at b3
     refine ⟨?_, ?_⟩
     ·refine ⟨0, ?_⟩
      refine ⟨?_, rfl, rfl, rfl, rfl, rfl, rfl⟩
      ·refine ⟨?_, ?_, ?_⟩
       ·omega
       ·omega
       ·rfl
     intro b hJ
     obtain ⟨k1, k2, k3⟩ := hJ
     refine ⟨?_, ?_⟩
     ·intro b4
      try simp only [nrmT] at b4
      refine ⟨rfl, ?_, ?_, ?_, ?_, ?_, ?_, ?_, ?_, ?_, ?_, ?_, ?_, ?_, ?_, ?_, ?_, ?_, ?_, ?_, ?_, ?_, ?_, ?_, ?_, ?_, ?_, ?_, ?_⟩
      ·omega
      ·omega
      ·omega
      ·omega
      ·have q1 := hm i.toNat a.toNat (by omega) (by omega)
       have q2 := hm i.toNat b.toNat (by omega) (by omega)
       have q3 := hm j.toNat b.toNat (by omega) (by omega)
       have q4 := hm j.toNat a.toNat (by omega) (by omega)
       omega
      ·have q1 := hm i.toNat a.toNat (by omega) (by omega)
       have q2 := hm i.toNat b.toNat (by omega) (by omega)
       have q3 := hm j.toNat b.toNat (by omega) (by omega)
       have q4 := hm j.toNat a.toNat (by omega) (by omega)
       omega
      ·omega
      ·omega
      ·omega
      ·omega
      ·have q1 := hm i.toNat a.toNat (by omega) (by omega)
       have q2 := hm i.toNat b.toNat (by omega) (by omega)
       have q3 := hm j.toNat b.toNat (by omega) (by omega)
       have q4 := hm j.toNat a.toNat (by omega) (by omega)
       omega
      ·have q1 := hm i.toNat a.toNat (by omega) (by omega)
       have q2 := hm i.toNat b.toNat (by omega) (by omega)
       have q3 := hm j.toNat b.toNat (by omega) (by omega)
       have q4 := hm j.toNat a.toNat (by omega) (by omega)
       omega
      ·omega
      ·omega
      ·omega
      ·omega
      ·have q1 := hm i.toNat a.toNat (by omega) (by omega)
       have q2 := hm i.toNat b.toNat (by omega) (by omega)
       have q3 := hm j.toNat b.toNat (by omega) (by omega)
       have q4 := hm j.toNat a.toNat (by omega) (by omega)
       omega
      ·have q1 := hm i.toNat a.toNat (by omega) (by omega)
       have q2 := hm i.toNat b.toNat (by omega) (by omega)
       have q3 := hm j.toNat b.toNat (by omega) (by omega)
       have q4 := hm j.toNat a.toNat (by omega) (by omega)
       omega
      ·have q1 := hm i.toNat a.toNat (by omega) (by omega)
       have q2 := hm i.toNat b.toNat (by omega) (by omega)
       have q3 := hm j.toNat b.toNat (by omega) (by omega)
       have q4 := hm j.toNat a.toNat (by omega) (by omega)
       omega
      ·omega
      ·omega
      ·omega
      ·omega
      ·have q1 := hm i.toNat a.toNat (by omega) (by omega)
       have q2 := hm i.toNat b.toNat (by omega) (by omega)
       have q3 := hm j.toNat b.toNat (by omega) (by omega)
       have q4 := hm j.toNat a.toNat (by omega) (by omega)
       omega
      ·have q1 := hm i.toNat a.toNat (by omega) (by omega)
       have q2 := hm i.toNat b.toNat (by omega) (by omega)
       have q3 := hm j.toNat b.toNat (by omega) (by omega)
       have q4 := hm j.toNat a.toNat (by omega) (by omega)
       omega
      ·have q1 := hm i.toNat a.toNat (by omega) (by omega)
       have q2 := hm i.toNat b.toNat (by omega) (by omega)
       have q3 := hm j.toNat b.toNat (by omega) (by omega)
       have q4 := hm j.toNat a.toNat (by omega) (by omega)
       omega
      ·intro b5
       try simp only [nrmT] at b5
       have e1 : J7u U.length E i.toNat j.toNat a.toNat = false := allTo_falseI k1 (by omega) (by unfold J1f; rw [decide_eq_true (by omega)]; rfl)
       have e2 : J6k U.length E i.toNat j.toNat = false := allTo_falseI h7 (by omega) e1
       have e3 : J5v U.length E i.toNat = false := allTo_falseI h4 (by omega) e2
       exact (show JG U.length E = false from allTo_falseI h1 (by omega) e3).symm
      intro b6
      try simp only [nrmT] at b6
      refine ⟨?_, ?_⟩
      ·omega
      refine ⟨(b + 1), ?_⟩
      refine ⟨?_, ?_, rfl, rfl, rfl, rfl, rfl, rfl⟩
      ·refine ⟨?_, ?_, ?_⟩
       ·omega
       ·omega
       ·refine allTo_step k1 k3 ?_
        unfold J1f
        rw [decide_eq_false (by omega)]; rfl
      (simp only [J2g]; omega)
     intro b7
     try simp only [nrmT] at b7
     refine ⟨?_, ?_⟩
     ·omega
     refine ⟨(a + 1), ?_⟩
     refine ⟨?_, ?_, rfl, rfl, rfl, rfl, rfl⟩
     ·refine ⟨?_, ?_, ?_⟩
      ·omega
      ·omega
      ·refine allTo_step h7 h9 ?_
       show allTo _ U.length = true
       rw [← k3]; congr 1; omega
     (simp only [J1Y]; omega)
    intro b8
    try simp only [nrmT] at b8
    refine ⟨?_, ?_⟩
    ·omega
    refine ⟨(j + 1), ?_⟩
    refine ⟨?_, ?_, rfl, rfl, rfl, rfl⟩
    ·refine ⟨?_, ?_, ?_⟩
     ·omega
     ·omega
     ·refine allTo_step h4 h6 ?_
      show allTo _ U.length = true
      rw [← h9]; congr 1; omega
    (simp only [J2a]; omega)
   intro b9
   try simp only [nrmT] at b9
   refine ⟨?_, ?_⟩
   ·omega
   refine ⟨(i + 1), ?_⟩
   refine ⟨?_, ?_, rfl, rfl, rfl⟩
   ·refine ⟨?_, ?_, ?_⟩
    ·omega
    ·omega
    ·refine allTo_step h1 h3 ?_
     show allTo _ E.length = true
     rw [← h6]; congr 1; omega
   (simp only [J2j]; omega)
  intro b10
  try simp only [nrmT] at b10
  unfold JG
  rw [← h3]; congr 1; omega
theorem JaP (U : ZI) (E : ZR) (hm : ∀ i a : Nat, i < E.length → a < U.length → a < (E.getD i []).length ∧ 0 ≤ (E.getD i []).getD a 0 ∧ (E.getD i []).getD a 0 ≤ 99) : PC Tryz.prog 225 [.agg [.sl (.ints U), .sl (.rows E)]] (.one (.d (.bool (JG U.length E)))) :=
  pc_wf @Tryz.call225 fun hw => pc_by (by kernel_rfl) Tryz.func225 @Tryz.call225 (by kernel_rfl) Jbd (Jbi U E) (by kernel_rfl) (JaG U E hm hw.1.1 hw.1.2.1.1 hw.1.2.1.2) (by kernel_rfl)
def J9E : List D → Orc := orcN [none] fun ds => match ds with
  | [.agg [.sl (.ints U), .sl (.rows E)]] => some (.one (.d (.bool (JG U.length E))))
  | _ => none
abbrev J11 (U : ZI) (E : ZR) (O1 : ZI) (D1 : ZR) : Prop := (drF O1 D1)
abbrev J4y (U : ZI) (E : ZR) (O1 : ZI) (D1 : ZR) : Nat := (tot D1).toNat
abbrev J2P (U : ZI) (E : ZR) (O1 : ZI) (D1 : ZR) (i : Int) (O2 : ZI) (D2 : ZR) : Prop := (O2 = O1) ∧ (0 ≤ i) ∧ (i ≤ (D2.length : Int)) ∧ (drF O1 D2) ∧ (D2.length = D1.length) ∧ (Clo D1 D2 (allTo (J5v O1.length D1) i.toNat))
abbrev J2Z (U : ZI) (E : ZR) (O1 : ZI) (D1 : ZR) (i : Int) (O2 : ZI) (D2 : ZR) : Nat := (D2.length - i).toNat
abbrev J2Q (U : ZI) (E : ZR) (O1 : ZI) (D1 : ZR) (i : Int) (O2 : ZI) (D2 : ZR) (j : Int) (O3 : ZI) (D3 : ZR) : Prop := (O3 = O1) ∧ (0 ≤ j) ∧ (j ≤ (D3.length : Int)) ∧ (drF O1 D3) ∧ (D3.length = D1.length) ∧ (Clo D1 D3 (allTo (J5v O1.length D1) i.toNat && allTo (J6k O1.length D1 i.toNat) j.toNat))
abbrev J2S (U : ZI) (E : ZR) (O1 : ZI) (D1 : ZR) (i : Int) (O2 : ZI) (D2 : ZR) (j : Int) (O3 : ZI) (D3 : ZR) : Nat := (D3.length - j).toNat
abbrev J2X (U : ZI) (E : ZR) (O1 : ZI) (D1 : ZR) (i : Int) (O2 : ZI) (D2 : ZR) (j : Int) (O3 : ZI) (D3 : ZR) (a : Int) (O4 : ZI) (D4 : ZR) : Prop := (O4 = O1) ∧ (0 ≤ a) ∧ (a ≤ (O1.length : Int)) ∧ (drF O1 D4) ∧ (D4.length = D1.length) ∧ (Clo D1 D4 (allTo (J5v O1.length D1) i.toNat && allTo (J6k O1.length D1 i.toNat) j.toNat && allTo (J7u O1.length D1 i.toNat j.toNat) a.toNat))
abbrev J2N (U : ZI) (E : ZR) (O1 : ZI) (D1 : ZR) (i : Int) (O2 : ZI) (D2 : ZR) (j : Int) (O3 : ZI) (D3 : ZR) (a : Int) (O4 : ZI) (D4 : ZR) : Nat := (O1.length - a).toNat
abbrev J2R (U : ZI) (E : ZR) (O1 : ZI) (D1 : ZR) (i : Int) (O2 : ZI) (D2 : ZR) (j : Int) (O3 : ZI) (D3 : ZR) (a : Int) (O4 : ZI) (D4 : ZR) (b : Int) (D5 : ZR) : Prop := (0 ≤ b) ∧ (b ≤ (O1.length : Int)) ∧ (drF O1 D5) ∧ (D5.length = D1.length) ∧ (Clo D1 D5 (allTo (J5v O1.length D1) i.toNat && allTo (J6k O1.length D1 i.toNat) j.toNat && allTo (J7u O1.length D1 i.toNat j.toNat) a.toNat && allTo (fun b => !J1f D1 i.toNat j.toNat a.toNat b) b.toNat))
abbrev J2Y (U : ZI) (E : ZR) (O1 : ZI) (D1 : ZR) (i : Int) (O2 : ZI) (D2 : ZR) (j : Int) (O3 : ZI) (D3 : ZR) (a : Int) (O4 : ZI) (D4 : ZR) (b : Int) (D5 : ZR) : Nat := (O1.length - b).toNat
abbrev J2I (U : ZI) (E : ZR) (O : ZI) (D : ZR) : Prop := (drF O D)
def J2L (U : ZI) (E : ZR) : Ex := ex2 0 (fun (O : ZI) (D : ZR) => J2I U E O D) (fun (O : ZI) (D : ZR) => []) (fun (O : ZI) (D : ZR) => .agg [.own 3 (.ints O), .mat 3 24 D])
def Jc4 (f : FuncId) (ds : List D) : Orc := bif Nat.beq f 224 then JbV ds else bif Nat.beq f 225 then J9E ds else bif Nat.beq f 161 then J4u ds else .no
def JbW (U : ZI) (E : ZR) : Ann := .two (.none) (.two (.none) (.two (.loop (cut2 (fun (O1 : ZI) (D1 : ZR) => J11 U E O1 D1) (fun (O1 : ZI) (D1 : ZR) => [(2, .ptr 2 0), (3, .ptr 3 0)]) (fun (O1 : ZI) (D1 : ZR) => [(2, .box 27 [.d true (.nil), .d true (.nil)]), (1000000, .arr true 3 (.ints O1)), (1000001, .mat 3 24 D1 none), (3, .box 27 [.own 1000000 O1.length, .own 1000001 D1.length])])) (fun g => J4y U E g.1 g.2) (fun g => (fun (O1 : ZI) (D1 : ZR) => .two (.none) (.two (.none) (.loop (cut3 (fun (i : Int) (O2 : ZI) (D2 : ZR) => J2P U E O1 D1 i O2 D2) (fun (i : Int) (O2 : ZI) (D2 : ZR) => [(2, .ptr 2 0), (3, .ptr 3 0), (4, .d true (.int .i64 i))]) (fun (i : Int) (O2 : ZI) (D2 : ZR) => [(2, .box 27 [.d true (.nil), .d true (.nil)]), (1000101, .arr true 3 (.ints O2)), (1000102, .mat 3 24 D2 none), (3, .box 27 [.own 1000101 O2.length, .own 1000102 D2.length])])) (fun g => J2Z U E O1 D1 g.1 g.2.1 g.2.2) (fun g => (fun (i : Int) (O2 : ZI) (D2 : ZR) => .two (.none) (.two (.two (.none) (.loop (cut3 (fun (j : Int) (O3 : ZI) (D3 : ZR) => J2Q U E O1 D1 i O2 D2 j O3 D3) (fun (j : Int) (O3 : ZI) (D3 : ZR) => [(2, .ptr 2 0), (3, .ptr 3 0), (4, .d true (.int .i64 i)), (5, .d true (.int .i64 j))]) (fun (j : Int) (O3 : ZI) (D3 : ZR) => [(2, .box 27 [.d true (.nil), .d true (.nil)]), (1000201, .arr true 3 (.ints O3)), (1000202, .mat 3 24 D3 none), (3, .box 27 [.own 1000201 O3.length, .own 1000202 D3.length])])) (fun g => J2S U E O1 D1 i O2 D2 g.1 g.2.1 g.2.2) (fun g => (fun (j : Int) (O3 : ZI) (D3 : ZR) => .two (.none) (.two (.two (.none) (.loop (cut3 (fun (a : Int) (O4 : ZI) (D4 : ZR) => J2X U E O1 D1 i O2 D2 j O3 D3 a O4 D4) (fun (a : Int) (O4 : ZI) (D4 : ZR) => [(2, .ptr 2 0), (3, .ptr 3 0), (4, .d true (.int .i64 i)), (5, .d true (.int .i64 j)), (6, .d true (.int .i64 a))]) (fun (a : Int) (O4 : ZI) (D4 : ZR) => [(2, .box 27 [.d true (.nil), .d true (.nil)]), (1000301, .arr true 3 (.ints O4)), (1000302, .mat 3 24 D4 none), (3, .box 27 [.own 1000301 O4.length, .own 1000302 D4.length])])) (fun g => J2N U E O1 D1 i O2 D2 j O3 D3 g.1 g.2.1 g.2.2) (fun g => (fun (a : Int) (O4 : ZI) (D4 : ZR) => .two (.none) (.two (.two (.none) (.loop (cut2 (fun (b : Int) (D5 : ZR) => J2R U E O1 D1 i O2 D2 j O3 D3 a O4 D4 b D5) (fun (b : Int) (D5 : ZR) => [(2, .ptr 2 0), (3, .ptr 3 0), (4, .d true (.int .i64 i)), (5, .d true (.int .i64 j)), (6, .d true (.int .i64 a)), (7, .d true (.int .i64 b))]) (fun (b : Int) (D5 : ZR) => [(2, .box 27 [.d true (.nil), .d true (.nil)]), (1000401, .mat 3 24 D5 none), (3, .box 27 [.own 1000301 O4.length, .own 1000401 D5.length]), (1000301, .arr true 3 (.ints O4))])) (fun g => J2Y U E O1 D1 i O2 D2 j O3 D3 a O4 D4 g.1 g.2) (fun _ => .none))) (.none))) (g.1) (g.2.1) (g.2.2)))) (.none))) (g.1) (g.2.1) (g.2.2)))) (.none))) (g.1) (g.2.1) (g.2.2))))) (g.1) (g.2))) (.none)))
def J87 (U : ZI) (E : ZR) : Prop :=
  (PC Tryz.prog 224 [.agg [.sl (.ints U), .sl (.rows E)]] (.agg [.own 3 (.ints U), .mat 3 24 E])) ∧ ((∃ O1' : ZI, ∃ D1' : ZR, (J11 U E O1' D1') ∧ (U = O1') ∧ (E = D1') ∧ (U.length = O1'.length) ∧ (E.length = D1'.length)) ∧ (∀ O1 : ZI, ∀ D1 : ZR, (J11 U E O1 D1) → (O1.length = O1.length) ∧ (D1.length = D1.length) ∧ (PC Tryz.prog 225 [.agg [.sl (.ints O1), .sl (.rows D1)]] (.one (.d (.bool (JG O1.length D1))))) ∧ (((!(JG O1.length D1)) = true → ((∃ i' : Int, ∃ O2' : ZI, ∃ D2' : ZR, (J2P U E O1 D1 i' O2' D2') ∧ ((0 : Int) = i') ∧ (O1 = O2') ∧ (D1 = D2') ∧ (O1.length = O2'.length) ∧ (D1.length = D2'.length)) ∧ (∀ i : Int, ∀ O2 : ZI, ∀ D2 : ZR, (J2P U E O1 D1 i O2 D2) → (((decide (i < (D2.length : Int))) = true → ((∃ j' : Int, ∃ O3' : ZI, ∃ D3' : ZR, (J2Q U E O1 D1 i O2 D2 j' O3' D3') ∧ (i = i) ∧ ((0 : Int) = j') ∧ (O2 = O3') ∧ (D2 = D3') ∧ (O2.length = O3'.length) ∧ (D2.length = D3'.length)) ∧ (∀ j : Int, ∀ O3 : ZI, ∀ D3 : ZR, (J2Q U E O1 D1 i O2 D2 j O3 D3) → (((decide (j < (D3.length : Int))) = true → ((∃ a' : Int, ∃ O4' : ZI, ∃ D4' : ZR, (J2X U E O1 D1 i O2 D2 j O3 D3 a' O4' D4') ∧ (i = i) ∧ (j = j) ∧ ((0 : Int) = a') ∧ (O3 = O4') ∧ (D3 = D4') ∧ (O3.length = O4'.length) ∧ (D3.length = D4'.length)) ∧ (∀ a : Int, ∀ O4 : ZI, ∀ D4 : ZR, (J2X U E O1 D1 i O2 D2 j O3 D3 a O4 D4) → (((decide (a < (O4.length : Int))) = true → ((∃ b' : Int, ∃ D5' : ZR, (J2R U E O1 D1 i O2 D2 j O3 D3 a O4 D4 b' D5') ∧ (i = i) ∧ (j = j) ∧ (a = a) ∧ ((0 : Int) = b') ∧ (D4 = D5') ∧ (O4.length = O4.length) ∧ (D4.length = D5'.length) ∧ (O4 = O4)) ∧ (∀ b : Int, ∀ D5 : ZR, (J2R U E O1 D1 i O2 D2 j O3 D3 a O4 D4 b D5) → (((decide (b < (O4.length : Int))) = true → (true = true) ∧ ((0 : Int) ≤ i) ∧ ((i : Int) < (D5.length : Int)) ∧ (i.toNat < D5.length) ∧ ((0 : Int) ≤ i) ∧ ((i : Int) < (D5.length : Int)) ∧ (i.toNat < D5.length) ∧ ((0 : Int) ≤ a) ∧ ((a : Int) < (((D5.getD i.toNat []).length) : Int)) ∧ (i.toNat < D5.length) ∧ (a.toNat < (D5.getD i.toNat []).length) ∧ ((0 : Int) ≤ i) ∧ ((i : Int) < (D5.length : Int)) ∧ (i.toNat < D5.length) ∧ ((0 : Int) ≤ b) ∧ ((b : Int) < (((D5.getD i.toNat []).length) : Int)) ∧ (i.toNat < D5.length) ∧ (b.toNat < (D5.getD i.toNat []).length) ∧ ((0 : Int) ≤ j) ∧ ((j : Int) < (D5.length : Int)) ∧ (j.toNat < D5.length) ∧ ((0 : Int) ≤ b) ∧ ((b : Int) < (((D5.getD j.toNat []).length) : Int)) ∧ (j.toNat < D5.length) ∧ (b.toNat < (D5.getD j.toNat []).length) ∧ (I6 (((D5.getD i.toNat []).getD b.toNat 0) + ((D5.getD j.toNat []).getD b.toNat 0))) ∧ ((0 : Int) ≤ j) ∧ ((j : Int) < (D5.length : Int)) ∧ (j.toNat < D5.length) ∧ ((0 : Int) ≤ a) ∧ ((a : Int) < (((D5.getD j.toNat []).length) : Int)) ∧ (j.toNat < D5.length) ∧ (a.toNat < (D5.getD j.toNat []).length) ∧ (I6 ((((D5.getD i.toNat []).getD b.toNat 0) + ((D5.getD j.toNat []).getD b.toNat 0)) + ((D5.getD j.toNat []).getD a.toNat 0))) ∧ (PC Tryz.prog 161 [.int .i64 ((D5.getD i.toNat []).getD a.toNat 0), .int .i64 ((((D5.getD i.toNat []).getD b.toNat 0) + ((D5.getD j.toNat []).getD b.toNat 0)) + ((D5.getD j.toNat []).getD a.toNat 0))] (.one (.d (.int .i64 (min ((D5.getD i.toNat []).getD a.toNat 0) ((((D5.getD i.toNat []).getD b.toNat 0) + ((D5.getD j.toNat []).getD b.toNat 0)) + ((D5.getD j.toNat []).getD a.toNat 0))))))) ∧ ((0 : Int) ≤ a) ∧ ((a : Int) < (((D5.getD i.toNat []).length) : Int)) ∧ (i.toNat < D5.length) ∧ (a.toNat < (D5.getD i.toNat []).length) ∧ (I6 (b + 1)) ∧ (∃ b' : Int, ∃ D5' : ZR, (J2R U E O1 D1 i O2 D2 j O3 D3 a O4 D4 b' D5') ∧ (J2Y U E O1 D1 i O2 D2 j O3 D3 a O4 D4 b' D5' < J2Y U E O1 D1 i O2 D2 j O3 D3 a O4 D4 b D5) ∧ (i = i) ∧ (j = j) ∧ (a = a) ∧ ((b + 1) = b') ∧ ((D5.set i.toNat ((D5.getD i.toNat []).set a.toNat (min ((D5.getD i.toNat []).getD a.toNat 0) ((((D5.getD i.toNat []).getD b.toNat 0) + ((D5.getD j.toNat []).getD b.toNat 0)) + ((D5.getD j.toNat []).getD a.toNat 0))))) = D5') ∧ (O4.length = O4.length) ∧ (D5.length = D5'.length) ∧ (O4 = O4))) ∧ ((decide (b < (O4.length : Int))) = false → (I6 (a + 1)) ∧ (∃ a' : Int, ∃ O4' : ZI, ∃ D4' : ZR, (J2X U E O1 D1 i O2 D2 j O3 D3 a' O4' D4') ∧ (J2N U E O1 D1 i O2 D2 j O3 D3 a' O4' D4' < J2N U E O1 D1 i O2 D2 j O3 D3 a O4 D4) ∧ (i = i) ∧ (j = j) ∧ ((a + 1) = a') ∧ (O4 = O4') ∧ (D5 = D4') ∧ (O4.length = O4'.length) ∧ (D5.length = D4'.length))))))) ∧ ((decide (a < (O4.length : Int))) = false → (I6 (j + 1)) ∧ (∃ j' : Int, ∃ O3' : ZI, ∃ D3' : ZR, (J2Q U E O1 D1 i O2 D2 j' O3' D3') ∧ (J2S U E O1 D1 i O2 D2 j' O3' D3' < J2S U E O1 D1 i O2 D2 j O3 D3) ∧ (i = i) ∧ ((j + 1) = j') ∧ (O4 = O3') ∧ (D4 = D3') ∧ (O4.length = O3'.length) ∧ (D4.length = D3'.length))))))) ∧ ((decide (j < (D3.length : Int))) = false → (I6 (i + 1)) ∧ (∃ i' : Int, ∃ O2' : ZI, ∃ D2' : ZR, (J2P U E O1 D1 i' O2' D2') ∧ (J2Z U E O1 D1 i' O2' D2' < J2Z U E O1 D1 i O2 D2) ∧ ((i + 1) = i') ∧ (O3 = O2') ∧ (D3 = D2') ∧ (O3.length = O2'.length) ∧ (D3.length = D2'.length))))))) ∧ ((decide (i < (D2.length : Int))) = false → (∃ O1' : ZI, ∃ D1' : ZR, (J11 U E O1' D1') ∧ (J4y U E O1' D1' < J4y U E O1 D1) ∧ (O2 = O1') ∧ (D2 = D1') ∧ (O2.length = O1'.length) ∧ (D2.length = D1'.length))))))) ∧ ((!(JG O1.length D1)) = false → (∃ O' : ZI, ∃ D' : ZR, (J2I U E O' D') ∧ (O1.length = O1.length) ∧ ((O1 : ZI) = O') ∧ (D1.length = D1.length) ∧ ((D1 : ZR) = D'))))))
theorem Jb7 (U : ZI) (E : ZR) (hf : drF U E) (w_Open : (U.length : Int) ≤ 9223372036854775807) (w_Dist : (E.length : Int) ≤ 9223372036854775807) (v_Dist : ∀ x9 ∈ E, (x9.length : Int) ≤ 9223372036854775807) : J87 U E := by
  unfold J87
  refine ⟨?_, ?_, ?_⟩
  ·refine Jcx U E ?_ ?_ ?_
   ·have q := hf.1; have q2 := hf.2.1; omega
   ·have q := hf.1; have q2 := hf.2.1; omega
   ·intro r hr
    have q := (hf.2.2 r hr).1
    have q2 := hf.1
    omega
  ·refine ⟨U, E, ?_⟩
   refine ⟨?_, rfl, rfl, rfl, rfl⟩
   ·unfold J11
    assumption
  intro O1 D1 hJ
  have d1 := hJ
  refine ⟨rfl, rfl, ?_, ?_, ?_⟩
  ·refine JaP O1 D1 ?_
   ·intro i a hi ha
    have q := J7 d1 hi ha
    omega
  ·intro b1
   try simp only [nrmT] at b1
   refine ⟨?_, ?_⟩
   ·refine ⟨0, O1, D1, ?_⟩
    refine ⟨?_, rfl, rfl, rfl, rfl, rfl⟩
    ·refine ⟨?_, ?_, ?_, ?_, ?_, ?_⟩
     ·rfl
     ·omega
     ·omega
     ·assumption
     ·omega
     ·exact .inl ⟨rfl, rfl⟩
   intro i O2 D2 hJ
   obtain ⟨o2, h1, h2, d2, l2, c2⟩ := hJ
   refine ⟨?_, ?_⟩
   ·intro b2
    try simp only [nrmT] at b2
    refine ⟨?_, ?_⟩
    ·refine ⟨0, O2, D2, ?_⟩
     refine ⟨?_, rfl, rfl, rfl, rfl, rfl, rfl⟩
     ·refine ⟨?_, ?_, ?_, ?_, ?_, ?_⟩
      ·assumption
      ·omega
      ·omega
      ·assumption
      ·omega
      ·exact J41 c2 fun h => by rw [h]; rfl
    intro j O3 D3 hJ
    obtain ⟨o3, h4, h5, d3, l3, c3⟩ := hJ
    refine ⟨?_, ?_⟩
    ·intro b3
     try simp only [nrmT] at b3
     refine ⟨?_, ?_⟩
     ·refine ⟨0, O3, D3, ?_⟩
      refine ⟨?_, rfl, rfl, rfl, rfl, rfl, rfl, rfl⟩
      ·refine ⟨?_, ?_, ?_, ?_, ?_, ?_⟩
       ·assumption
       ·omega
       ·omega
       ·assumption
       ·omega
       ·exact J41 c3 fun h => by rw [h]; rfl
     intro a O4 D4 hJ
     obtain ⟨o4, h7, h8, d4, l4, c4⟩ := hJ
     refine ⟨?_, ?_⟩
     ·intro b4
      try simp only [nrmT] at b4
      refine ⟨?_, ?_⟩
      ·refine ⟨0, D4, ?_⟩
       refine ⟨?_, rfl, rfl, rfl, rfl, rfl, rfl, rfl, rfl⟩
       ·refine ⟨?_, ?_, ?_, ?_, ?_⟩
        ·omega
        ·omega
        ·assumption
        ·omega
        ·exact J41 c4 fun h => by rw [h]; rfl
      intro b D5 hJ
      obtain ⟨k1, k2, d5, l5, c5⟩ := hJ
      refine ⟨?_, ?_⟩
      ·intro b5
       try simp only [nrmT] at b5
       refine ⟨rfl, ?_, ?_, ?_, ?_, ?_, ?_, ?_, ?_, ?_, ?_, ?_, ?_, ?_, ?_, ?_, ?_, ?_, ?_, ?_, ?_, ?_, ?_, ?_, ?_, ?_, ?_, ?_, ?_, ?_, ?_, ?_, ?_, ?_, J54 ((D5.getD i.toNat []).getD a.toNat 0) ((((D5.getD i.toNat []).getD b.toNat 0) + ((D5.getD j.toNat []).getD b.toNat 0)) + ((D5.getD j.toNat []).getD a.toNat 0)), ?_, ?_, ?_, ?_, ?_, ?_⟩
       ·omega
       ·omega
       ·omega
       ·omega
       ·omega
       ·omega
       ·omega
       ·have eo := congrArg List.length o4
        have q1 := J7 d5 (i := i.toNat) (a := a.toNat) (by omega) (by omega)
        have q2 := J7 d5 (i := i.toNat) (a := b.toNat) (by omega) (by omega)
        have q3 := J7 d5 (i := j.toNat) (a := b.toNat) (by omega) (by omega)
        have q4 := J7 d5 (i := j.toNat) (a := a.toNat) (by omega) (by omega)
        omega
       ·omega
       ·have eo := congrArg List.length o4
        have q1 := J7 d5 (i := i.toNat) (a := a.toNat) (by omega) (by omega)
        have q2 := J7 d5 (i := i.toNat) (a := b.toNat) (by omega) (by omega)
        have q3 := J7 d5 (i := j.toNat) (a := b.toNat) (by omega) (by omega)
        have q4 := J7 d5 (i := j.toNat) (a := a.toNat) (by omega) (by omega)
        omega
       ·omega
       ·omega
       ·omega
       ·omega
       ·have eo := congrArg List.length o4
        have q1 := J7 d5 (i := i.toNat) (a := a.toNat) (by omega) (by omega)
        have q2 := J7 d5 (i := i.toNat) (a := b.toNat) (by omega) (by omega)
        have q3 := J7 d5 (i := j.toNat) (a := b.toNat) (by omega) (by omega)
        have q4 := J7 d5 (i := j.toNat) (a := a.toNat) (by omega) (by omega)
        omega
       ·omega
       ·have eo := congrArg List.length o4
        have q1 := J7 d5 (i := i.toNat) (a := a.toNat) (by omega) (by omega)
        have q2 := J7 d5 (i := i.toNat) (a := b.toNat) (by omega) (by omega)
        have q3 := J7 d5 (i := j.toNat) (a := b.toNat) (by omega) (by omega)
        have q4 := J7 d5 (i := j.toNat) (a := a.toNat) (by omega) (by omega)
        omega
       ·omega
       ·omega
       ·omega
       ·omega
       ·have eo := congrArg List.length o4
        have q1 := J7 d5 (i := i.toNat) (a := a.toNat) (by omega) (by omega)
        have q2 := J7 d5 (i := i.toNat) (a := b.toNat) (by omega) (by omega)
        have q3 := J7 d5 (i := j.toNat) (a := b.toNat) (by omega) (by omega)
        have q4 := J7 d5 (i := j.toNat) (a := a.toNat) (by omega) (by omega)
        omega
       ·omega
       ·have eo := congrArg List.length o4
        have q1 := J7 d5 (i := i.toNat) (a := a.toNat) (by omega) (by omega)
        have q2 := J7 d5 (i := i.toNat) (a := b.toNat) (by omega) (by omega)
        have q3 := J7 d5 (i := j.toNat) (a := b.toNat) (by omega) (by omega)
        have q4 := J7 d5 (i := j.toNat) (a := a.toNat) (by omega) (by omega)
        omega
       ·have eo := congrArg List.length o4
        have q1 := J7 d5 (i := i.toNat) (a := a.toNat) (by omega) (by omega)
        have q2 := J7 d5 (i := i.toNat) (a := b.toNat) (by omega) (by omega)
        have q3 := J7 d5 (i := j.toNat) (a := b.toNat) (by omega) (by omega)
        have q4 := J7 d5 (i := j.toNat) (a := a.toNat) (by omega) (by omega)
        omega
       ·omega
       ·omega
       ·omega
       ·omega
       ·have eo := congrArg List.length o4
        have q1 := J7 d5 (i := i.toNat) (a := a.toNat) (by omega) (by omega)
        have q2 := J7 d5 (i := i.toNat) (a := b.toNat) (by omega) (by omega)
        have q3 := J7 d5 (i := j.toNat) (a := b.toNat) (by omega) (by omega)
        have q4 := J7 d5 (i := j.toNat) (a := a.toNat) (by omega) (by omega)
        omega
       ·omega
       ·have eo := congrArg List.length o4
        have q1 := J7 d5 (i := i.toNat) (a := a.toNat) (by omega) (by omega)
        have q2 := J7 d5 (i := i.toNat) (a := b.toNat) (by omega) (by omega)
        have q3 := J7 d5 (i := j.toNat) (a := b.toNat) (by omega) (by omega)
        have q4 := J7 d5 (i := j.toNat) (a := a.toNat) (by omega) (by omega)
        omega
       ·have eo := congrArg List.length o4
        have q1 := J7 d5 (i := i.toNat) (a := a.toNat) (by omega) (by omega)
        have q2 := J7 d5 (i := i.toNat) (a := b.toNat) (by omega) (by omega)
        have q3 := J7 d5 (i := j.toNat) (a := b.toNat) (by omega) (by omega)
        have q4 := J7 d5 (i := j.toNat) (a := a.toNat) (by omega) (by omega)
        omega
       ·omega
       ·have eo := congrArg List.length o4
        have q1 := J7 d5 (i := i.toNat) (a := a.toNat) (by omega) (by omega)
        have q2 := J7 d5 (i := i.toNat) (a := b.toNat) (by omega) (by omega)
        have q3 := J7 d5 (i := j.toNat) (a := b.toNat) (by omega) (by omega)
        have q4 := J7 d5 (i := j.toNat) (a := a.toNat) (by omega) (by omega)
        omega
       ·omega
       ·have eo := congrArg List.length o4
        have q1 := J7 d5 (i := i.toNat) (a := a.toNat) (by omega) (by omega)
        have q2 := J7 d5 (i := i.toNat) (a := b.toNat) (by omega) (by omega)
        have q3 := J7 d5 (i := j.toNat) (a := b.toNat) (by omega) (by omega)
        have q4 := J7 d5 (i := j.toNat) (a := a.toNat) (by omega) (by omega)
        omega
       ·(have q := d4.1; have eo := congrArg List.length o4; omega)
       refine ⟨(b + 1), (D5.set i.toNat ((D5.getD i.toNat []).set a.toNat (min ((D5.getD i.toNat []).getD a.toNat 0) ((((D5.getD i.toNat []).getD b.toNat 0) + ((D5.getD j.toNat []).getD b.toNat 0)) + ((D5.getD j.toNat []).getD a.toNat 0))))), ?_⟩
       refine ⟨?_, ?_, rfl, rfl, rfl, rfl, rfl, rfl, ?_, rfl⟩
       ·refine ⟨?_, ?_, ?_, ?_, ?_⟩
        ·omega
        ·(simp_all <;> omega)
        ·have eo := congrArg List.length o4
         have hs := Jbu d5 (i := i.toNat) (j := j.toNat) (a := a.toNat) (b := b.toNat) (by omega) (by omega) (by omega) (by omega) c5
         exact hs.1
        ·simp; try omega
        ·have eo := congrArg List.length o4
         have hs := Jbu d5 (i := i.toNat) (j := j.toNat) (a := a.toNat) (b := b.toNat) (by omega) (by omega) (by omega) (by omega) c5
         rw [show (b + 1).toNat = b.toNat + 1 by omega]
         exact hs.2
       ·have eo := congrArg List.length o4
        (simp only [J2Y]; omega)
       (simp_all; done)
      intro b6
      try simp only [nrmT] at b6
      refine ⟨?_, ?_⟩
      ·(have q := d4.1; have eo := congrArg List.length o4; omega)
      refine ⟨(a + 1), O4, D5, ?_⟩
      refine ⟨?_, ?_, rfl, rfl, rfl, rfl, rfl, rfl, rfl⟩
      ·refine ⟨?_, ?_, ?_, ?_, ?_, ?_⟩
       ·assumption
       ·omega
       ·omega
       ·assumption
       ·omega
       ·have eo := congrArg List.length o4
        refine J41 c5 fun h => ?_
        simp only [Bool.and_eq_true] at h ⊢
        refine ⟨h.1.1, allTo_step h7 h.1.2 ?_⟩
        show allTo _ O1.length = true
        rw [← h.2]; congr 1; omega
      (simp only [J2N]; omega)
     intro b7
     try simp only [nrmT] at b7
     refine ⟨?_, ?_⟩
     ·(have q := d2.2.1; omega)
     refine ⟨(j + 1), O4, D4, ?_⟩
     refine ⟨?_, ?_, rfl, rfl, rfl, rfl, rfl, rfl⟩
     ·refine ⟨?_, ?_, ?_, ?_, ?_, ?_⟩
      ·assumption
      ·omega
      ·omega
      ·assumption
      ·omega
      ·refine J41 c4 fun h => ?_
       simp only [Bool.and_eq_true] at h ⊢
       refine ⟨h.1.1, allTo_step h4 h.1.2 ?_⟩
       show allTo _ O1.length = true
       rw [← h.2]; congr 1
       have eo := congrArg List.length o4
       omega
     (simp only [J2S]; omega)
    intro b8
    try simp only [nrmT] at b8
    refine ⟨?_, ?_⟩
    ·(have q := d2.2.1; omega)
    refine ⟨(i + 1), O3, D3, ?_⟩
    refine ⟨?_, ?_, rfl, rfl, rfl, rfl, rfl⟩
    ·refine ⟨?_, ?_, ?_, ?_, ?_, ?_⟩
     ·assumption
     ·omega
     ·omega
     ·assumption
     ·omega
     ·refine J41 c3 fun h => ?_
      simp only [Bool.and_eq_true] at h
      refine allTo_step h1 h.1 ?_
      show allTo _ D1.length = true
      rw [← h.2]; congr 1; omega
    (simp only [J2Z]; omega)
   intro b9
   try simp only [nrmT] at b9
   refine ⟨O2, D2, ?_⟩
   refine ⟨?_, ?_, rfl, rfl, rfl, rfl⟩
   ·unfold J11
    (rw [o2]; assumption)
   have hlt := Jec (n := O1.length) (D0 := D1) (D := D2) (by rw [show D1.length = i.toNat by omega]; exact c2) (by simpa using b1)
   have hn := JcC (D := D2) fun r hr x hx => ((d2.2.2 r hr).2 x hx).1
   show (tot D2).toNat < (tot D1).toNat
   omega
  intro b10
  try simp only [nrmT] at b10
  refine ⟨O1, D1, ?_⟩
  refine ⟨?_, rfl, rfl, rfl, rfl⟩
  ·unfold J2I
   assumption
theorem J6U (U : ZI) (E : ZR) (hf : drF U E) : PE Tryz.prog 187 [.agg [.sl (.ints U), .sl (.rows E)]] (J2L U E) :=
  pe_wf @Tryz.call187 fun hw => pe_by (by kernel_rfl) Tryz.func187 @Tryz.call187 (by kernel_rfl) Jc4 (JbW U E) (by kernel_rfl) (Jb7 U E hf hw.1.1 hw.1.2.1.1 hw.1.2.1.2) (by kernel_rfl)
abbrev J0p (code : List Nat) (c : Cur) (most : Int) (O : ZI) (D : ZR) (ck : Cur) : Prop := (okC ck 8000000) ∧ (O.length ≤ 8) ∧ (D.length ≤ 8)
def J2y (code : List Nat) (c : Cur) (most : Int) : Ex := ex3 1 (fun (O : ZI) (D : ZR) (ck : Cur) => J0p code c most O D ck) (fun (O : ZI) (D : ZR) (ck : Cur) => [.int .i64 ck.pos, .int .u64 ck.seed]) (fun (O : ZI) (D : ZR) (ck : Cur) => .one (.d (.agg [.sl (.ints O), .sl (.rows D)])))
def J7I (f : FuncId) (ds : List D) : Orc := .no
def J7D (u : Value) (code : List Nat) (c : Cur) (most : Int) : Ann := .two (.none) (.two (.two (.mark [] [(1, .cell [.int .i64 ((J1 code c 3).pos), .int .u64 ((J1 code c 3).seed)] (.one (.d (.int .i64 (J3 code c 3)))))]) (.two (.none) (.two (.two (.exr (.ex [] 3 (Jq code (J1 code c 3) most) (fun g => (fun (Or3 : ZI) (Dr3 : ZR) (cfr3 : Cur) => .ex [] 4 (JL code cfr3 Or3 Dr3) (fun g => (fun (Or3x4 : ZI) (Dr3x4 : ZR) (chr3x4 : Cur) => .ms [] []) (g.1) (g.2.1) (g.2.2))) (g.1) (g.2.1) (g.2.2)))) (.none)) (.two (.none) (.two (.two (.exr (.ex [] 3 (J0b code (J1 code c 3) most) (fun g => (fun (Or5 : ZI) (Dr5 : ZR) (cgr5 : Cur) => .ex [] 4 (JL code cgr5 Or5 Dr5) (fun g => (fun (Or5x4 : ZI) (Dr5x4 : ZR) (chr5x4 : Cur) => .ms [] []) (g.1) (g.2.1) (g.2.2))) (g.1) (g.2.1) (g.2.2)))) (.none)) (.none)))))) (.two (.exr (.ex [] 3 (Jq code (J1 code c 3) most) (fun g => (fun (Or6 : ZI) (Dr6 : ZR) (cfr6 : Cur) => .ex [] 4 (J2L Or6 Dr6) (fun g => (fun (Or6x4 : ZI) (Dr6x4 : ZR) => .ex [] 5 (JL code cfr6 Or6x4 Dr6x4) (fun g => (fun (Or6x5 : ZI) (Dr6x5 : ZR) (chr6x5 : Cur) => .ms [] []) (g.1) (g.2.1) (g.2.2))) (g.1) (g.2))) (g.1) (g.2.1) (g.2.2)))) (.none)))
def J2q (u : Value) (code : List Nat) (c : Cur) (most : Int) : Prop :=
  (PK Tryz.prog 156 76 (.sl (.bytes code)) [.int .i64 c.pos, .int .u64 c.seed] [.int .i64 ((J1 code c 3).pos), .int .u64 ((J1 code c 3).seed)] [.int .i64 3] (.one (.d (.int .i64 (J3 code c 3))))) ∧ ((((J3 code c 3) == 0) = true → (PKE Tryz.prog 188 76 (.sl (.bytes code)) [.int .i64 ((J1 code c 3).pos), .int .u64 ((J1 code c 3).seed)] [.int .i64 most] (Jq code (J1 code c 3) most)) ∧ (∀ Or3 : ZI, ∀ Dr3 : ZR, ∀ cfr3 : Cur, JX code (J1 code c 3) most Or3 Dr3 cfr3 → ((true = true) ∧ (Or3.length = Or3.length) ∧ (Dr3.length = Dr3.length) ∧ (PKV Tryz.prog 232 76 (.sl (.bytes code)) [.int .i64 cfr3.pos, .int .u64 cfr3.seed] 3 Or3 3 24 Dr3 (JL code cfr3 Or3 Dr3)) ∧ (∀ Or3x4 : ZI, ∀ Dr3x4 : ZR, ∀ chr3x4 : Cur, Jj code cfr3 Or3 Dr3 Or3x4 Dr3x4 chr3x4 → ((true = true) ∧ (∃ O' : ZI, ∃ D' : ZR, ∃ ck' : Cur, (J0p code c most O' D' ck') ∧ (true = true) ∧ ((.lit u (.sl (.bytes code)) : D) = .lit u (.sl (.bytes code))) ∧ (chr3x4.pos = ck'.pos) ∧ (chr3x4.seed = ck'.seed) ∧ (Or3x4.length = Or3x4.length) ∧ (Dr3x4.length = Dr3x4.length) ∧ ((.agg [.sl (.ints Or3x4), .sl (.rows Dr3x4)] : D) = .agg [.sl (.ints O'), .sl (.rows D')]))))))) ∧ (((J3 code c 3) == 0) = false → ((((J3 code c 3) == 1) = true → (PKE Tryz.prog 186 76 (.sl (.bytes code)) [.int .i64 ((J1 code c 3).pos), .int .u64 ((J1 code c 3).seed)] [.int .i64 most] (J0b code (J1 code c 3) most)) ∧ (∀ Or5 : ZI, ∀ Dr5 : ZR, ∀ cgr5 : Cur, J0W code (J1 code c 3) most Or5 Dr5 cgr5 → ((true = true) ∧ (Or5.length = Or5.length) ∧ (Dr5.length = Dr5.length) ∧ (PKV Tryz.prog 232 76 (.sl (.bytes code)) [.int .i64 cgr5.pos, .int .u64 cgr5.seed] 3 Or5 3 24 Dr5 (JL code cgr5 Or5 Dr5)) ∧ (∀ Or5x4 : ZI, ∀ Dr5x4 : ZR, ∀ chr5x4 : Cur, Jj code cgr5 Or5 Dr5 Or5x4 Dr5x4 chr5x4 → ((true = true) ∧ (∃ O' : ZI, ∃ D' : ZR, ∃ ck' : Cur, (J0p code c most O' D' ck') ∧ (true = true) ∧ ((.lit u (.sl (.bytes code)) : D) = .lit u (.sl (.bytes code))) ∧ (chr5x4.pos = ck'.pos) ∧ (chr5x4.seed = ck'.seed) ∧ (Or5x4.length = Or5x4.length) ∧ (Dr5x4.length = Dr5x4.length) ∧ ((.agg [.sl (.ints Or5x4), .sl (.rows Dr5x4)] : D) = .agg [.sl (.ints O'), .sl (.rows D')]))))))) ∧ (((J3 code c 3) == 1) = false → (PKE Tryz.prog 188 76 (.sl (.bytes code)) [.int .i64 ((J1 code c 3).pos), .int .u64 ((J1 code c 3).seed)] [.int .i64 most] (Jq code (J1 code c 3) most)) ∧ (∀ Or6 : ZI, ∀ Dr6 : ZR, ∀ cfr6 : Cur, JX code (J1 code c 3) most Or6 Dr6 cfr6 → ((true = true) ∧ (Or6.length = Or6.length) ∧ (Dr6.length = Dr6.length) ∧ (PE Tryz.prog 187 [.agg [.sl (.ints Or6), .sl (.rows Dr6)]] (J2L Or6 Dr6)) ∧ (∀ Or6x4 : ZI, ∀ Dr6x4 : ZR, J2I Or6 Dr6 Or6x4 Dr6x4 → ((true = true) ∧ (Or6x4.length = Or6x4.length) ∧ (Dr6x4.length = Dr6x4.length) ∧ (PKV Tryz.prog 232 76 (.sl (.bytes code)) [.int .i64 cfr6.pos, .int .u64 cfr6.seed] 3 Or6x4 3 24 Dr6x4 (JL code cfr6 Or6x4 Dr6x4)) ∧ (∀ Or6x5 : ZI, ∀ Dr6x5 : ZR, ∀ chr6x5 : Cur, Jj code cfr6 Or6x4 Dr6x4 Or6x5 Dr6x5 chr6x5 → ((true = true) ∧ (∃ O' : ZI, ∃ D' : ZR, ∃ ck' : Cur, (J0p code c most O' D' ck') ∧ (true = true) ∧ ((.lit u (.sl (.bytes code)) : D) = .lit u (.sl (.bytes code))) ∧ (chr6x5.pos = ck'.pos) ∧ (chr6x5.seed = ck'.seed) ∧ (Or6x5.length = Or6x5.length) ∧ (Dr6x5.length = Dr6x5.length) ∧ ((.agg [.sl (.ints Or6x5), .sl (.rows Dr6x5)] : D) = .agg [.sl (.ints O'), .sl (.rows D')]))))))))))))
theorem J7h (u : Value) (code : List Nat) (c : Cur) (most : Int) (hb : ∀ x9 ∈ code, x9 < 256) (hc : okC c 2000000) (hm : 0 ≤ most ∧ most ≤ 7)  : J2q u code c most := by
  unfold J2q
  refine ⟨?_, ?_, ?_⟩
  ·refine Jk code c 3 ?_ ?_
   ·exact hb
   ·exact J5 (by assumption) (by omega)
  ·intro b1
   refine ⟨?_, ?_⟩
   ·refine J0x code (J1 code c 3) most ?_ ?_ ?_
    ·exact hb
    ·exact J5 (Ja (by assumption)) (by omega)
    ·omega
   intro Or3 Dr3 cfr3 hQ9
   obtain ⟨f1r3, f2r3⟩ := hQ9
   refine ⟨rfl, rfl, rfl, ?_, ?_⟩
   ·refine J1y code cfr3 Or3 Dr3 ?_ ?_ ?_
    ·exact hb
    ·exact J5 (by assumption) (by omega)
    ·assumption
   intro Or3x4 Dr3x4 chr3x4 hQ9
   obtain ⟨f1r3x4, f2r3x4, f3r3x4⟩ := hQ9
   refine ⟨rfl, ?_⟩
   ·refine ⟨Or3x4, Dr3x4, chr3x4, ?_⟩
    refine ⟨?_, rfl, rfl, rfl, rfl, rfl, rfl, rfl⟩
    ·refine ⟨?_, ?_, ?_⟩
     ·exact J5 (by assumption) (by omega)
     ·assumption
     ·assumption
  intro b2
  refine ⟨?_, ?_⟩
  ·intro b3
   refine ⟨?_, ?_⟩
   ·refine J3e code (J1 code c 3) most ?_ ?_ ?_
    ·exact hb
    ·exact J5 (Ja (by assumption)) (by omega)
    ·omega
   intro Or5 Dr5 cgr5 hQ9
   obtain ⟨f1r5, f2r5⟩ := hQ9
   refine ⟨rfl, rfl, rfl, ?_, ?_⟩
   ·refine J1y code cgr5 Or5 Dr5 ?_ ?_ ?_
    ·exact hb
    ·exact J5 (by assumption) (by omega)
    ·assumption
   intro Or5x4 Dr5x4 chr5x4 hQ9
   obtain ⟨f1r5x4, f2r5x4, f3r5x4⟩ := hQ9
   refine ⟨rfl, ?_⟩
   ·refine ⟨Or5x4, Dr5x4, chr5x4, ?_⟩
    refine ⟨?_, rfl, rfl, rfl, rfl, rfl, rfl, rfl⟩
    ·refine ⟨?_, ?_, ?_⟩
     ·exact J5 (by assumption) (by omega)
     ·assumption
     ·assumption
  intro b4
  refine ⟨?_, ?_⟩
  ·refine J0x code (J1 code c 3) most ?_ ?_ ?_
   ·exact hb
   ·exact J5 (Ja (by assumption)) (by omega)
   ·omega
  intro Or6 Dr6 cfr6 hQ9
  obtain ⟨f1r6, f2r6⟩ := hQ9
  refine ⟨rfl, rfl, rfl, ?_, ?_⟩
  ·refine J6U Or6 Dr6 ?_
   ·assumption
  intro Or6x4 Dr6x4 hQ9
  have f2r6x4 := hQ9
  refine ⟨rfl, rfl, rfl, ?_, ?_⟩
  ·refine J1y code cfr6 Or6x4 Dr6x4 ?_ ?_ ?_
   ·exact hb
   ·exact J5 (by assumption) (by omega)
   ·assumption
  intro Or6x5 Dr6x5 chr6x5 hQ9
  obtain ⟨f1r6x5, f2r6x5, f3r6x5⟩ := hQ9
  refine ⟨rfl, ?_⟩
  ·refine ⟨Or6x5, Dr6x5, chr6x5, ?_⟩
   refine ⟨?_, rfl, rfl, rfl, rfl, rfl, rfl, rfl⟩
   ·refine ⟨?_, ?_, ?_⟩
    ·exact J5 (by assumption) (by omega)
    ·assumption
    ·assumption
theorem J6R (code : List Nat) (c : Cur) (most : Int) (hb : ∀ x9 ∈ code, x9 < 256) (hc : okC c 2000000) (hm : 0 ≤ most ∧ most ≤ 7) : PKE Tryz.prog 209 76 (.sl (.bytes code)) [.int .i64 c.pos, .int .u64 c.seed] [.int .i64 most] (J2y code c most) :=
  pke_by (Q := fun u => J2q u code c most) (by kernel_rfl) Tryz.func209 @Tryz.call209 (by kernel_rfl) J7I (fun u => J7D u code c most) (by kernel_rfl) (fun u => J7h u code c most hb hc hm) (fun u => by kernel_rfl)
abbrev J19 (code : List Nat) (c : Cur) (O : ZI) (D : ZR) (cl : Cur) : Prop := (okC cl 8000000) ∧ (O.length ≤ 8) ∧ (D.length ≤ 8)
def J04 (code : List Nat) (c : Cur) : Ex := ex3 1 (fun (O : ZI) (D : ZR) (cl : Cur) => J19 code c O D cl) (fun (O : ZI) (D : ZR) (cl : Cur) => [.int .i64 cl.pos, .int .u64 cl.seed]) (fun (O : ZI) (D : ZR) (cl : Cur) => .one (.d (.agg [.sl (.ints O), .sl (.rows D)])))
def J8O (f : FuncId) (ds : List D) : Orc := .no
def J98 (u : Value) (code : List Nat) (c : Cur) : Ann := .two (.none) (.two (.exr (.ex [] 1 (J2y code c 7) (fun g => (fun (Or1 : ZI) (Dr1 : ZR) (ckr1 : Cur) => .ms [] []) (g.1) (g.2.1) (g.2.2)))) (.none))
def J3J (u : Value) (code : List Nat) (c : Cur) : Prop :=
  (PKE Tryz.prog 209 76 (.sl (.bytes code)) [.int .i64 c.pos, .int .u64 c.seed] [.int .i64 7] (J2y code c 7)) ∧ (∀ Or1 : ZI, ∀ Dr1 : ZR, ∀ ckr1 : Cur, J0p code c 7 Or1 Dr1 ckr1 → ((true = true) ∧ (∃ O' : ZI, ∃ D' : ZR, ∃ cl' : Cur, (J19 code c O' D' cl') ∧ (true = true) ∧ ((.lit u (.sl (.bytes code)) : D) = .lit u (.sl (.bytes code))) ∧ (ckr1.pos = cl'.pos) ∧ (ckr1.seed = cl'.seed) ∧ ((.agg [.sl (.ints Or1), .sl (.rows Dr1)] : D) = .agg [.sl (.ints O'), .sl (.rows D')]))))
theorem J8m (u : Value) (code : List Nat) (c : Cur) (hb : ∀ x9 ∈ code, x9 < 256) (hc : okC c 2000000)  : J3J u code c := by
  unfold J3J
  refine ⟨?_, ?_⟩
  ·refine J6R code c 7 ?_ ?_ ?_
   ·exact hb
   ·exact J5 (by assumption) (by omega)
   ·omega
  intro Or1 Dr1 ckr1 hQ9
  obtain ⟨f1r1, f2r1, f3r1⟩ := hQ9
  refine ⟨rfl, ?_⟩
  ·refine ⟨Or1, Dr1, ckr1, ?_⟩
   refine ⟨?_, rfl, rfl, rfl, rfl, rfl⟩
   ·refine ⟨?_, ?_, ?_⟩
    ·exact J5 (by assumption) (by omega)
    ·assumption
    ·assumption
theorem J2u (code : List Nat) (c : Cur) (hb : ∀ x9 ∈ code, x9 < 256) (hc : okC c 2000000) : PKE Tryz.prog 133 76 (.sl (.bytes code)) [.int .i64 c.pos, .int .u64 c.seed] [] (J04 code c) :=
  pke_by (Q := fun u => J3J u code c) (by kernel_rfl) Tryz.func133 @Tryz.call133 (by kernel_rfl) J8O (fun u => J98 u code c) (by kernel_rfl) (fun u => J8m u code c hb hc) (fun u => by kernel_rfl)
theorem JdP {D : ZR} {s : ZI} {a : Int} (ha : a ∈ s) (j : Nat) : J2V D s j ≤ (D.getD j []).getD a.toNat 0 := by
  obtain ⟨i, hi, e⟩ := List.mem_iff_getElem.1 ha
  have h := Jaj (D.getD j []) s s.length i hi
  rw [Jh hi, e] at h
  exact h
theorem Jem {l : ZI} (h : Asc l) (i j : Nat) (hij : i < j) (hj : j < l.length) : l.getD i 0 < l.getD j 0 := by
  rw [Jh hj, Jh (show i < l.length by omega)]
  exact List.pairwise_iff_getElem.1 h i j (by omega) hj hij
abbrev J2d (U : ZI) (E : ZR) (i : Int) : Prop := (0 ≤ i) ∧ (i ≤ (E.length : Int)) ∧ (allTo (J5v U.length E) i.toNat = true)
abbrev J2h (U : ZI) (E : ZR) (i : Int) : Nat := (E.length - i).toNat
abbrev J24 (U : ZI) (E : ZR) (i : Int) (j : Int) : Prop := (0 ≤ j) ∧ (j ≤ (E.length : Int)) ∧ (allTo (J6k U.length E i.toNat) j.toNat = true)
abbrev J25 (U : ZI) (E : ZR) (i : Int) (j : Int) : Nat := (E.length - j).toNat
abbrev J29 (U : ZI) (E : ZR) (i : Int) (j : Int) (a : Int) : Prop := (0 ≤ a) ∧ (a ≤ (U.length : Int)) ∧ (allTo (J7u U.length E i.toNat j.toNat) a.toNat = true)
abbrev J27 (U : ZI) (E : ZR) (i : Int) (j : Int) (a : Int) : Nat := (U.length - a).toNat
abbrev J2k (U : ZI) (E : ZR) (i : Int) (j : Int) (a : Int) (b : Int) : Prop := (0 ≤ b) ∧ (b ≤ (U.length : Int)) ∧ (allTo (fun b => !J1f E i.toNat j.toNat a.toNat b) b.toNat = true)
abbrev J20 (U : ZI) (E : ZR) (i : Int) (j : Int) (a : Int) (b : Int) : Nat := (U.length - b).toNat
def JbC (f : FuncId) (ds : List D) : Orc := bif Nat.beq f 111 then J2O ds else .no
def Jbl (U : ZI) (E : ZR) : Ann := .two (.none) (.two (.none) (.two (.two (.none) (.loop (cut1 (fun (i : Int) => J2d U E i) (fun (i : Int) => [(1, .ptr 1 0), (14, .d false (.sl (.rows E))), (15, .d true (.int .i64 (E.length : Int))), (16, .d true (.int .i64 i))]) (fun (i : Int) => [(1, .box 27 [.d false (.sl (.ints U)), .d false (.sl (.rows E))])])) (fun g => J2h U E g) (fun g => (fun (i : Int) => .two (.none) (.two (.none) (.two (.two (.none) (.two (.none) (.loop (cut1 (fun (j : Int) => J24 U E i j) (fun (j : Int) => [(1, .ptr 1 0), (5, .d false (.sl (.ints (E.getD i.toNat [])))), (14, .d false (.sl (.rows E))), (15, .d true (.int .i64 (E.length : Int))), (16, .d true (.int .i64 i)), (21, .d false (.sl (.rows E))), (22, .d true (.int .i64 (E.length : Int))), (23, .d true (.int .i64 j))]) (fun (j : Int) => [(1, .box 27 [.d false (.sl (.ints U)), .d false (.sl (.rows E))])])) (fun g => J25 U E i g) (fun g => (fun (j : Int) => .two (.none) (.two (.none) (.two (.two (.none) (.two (.none) (.loop (cut1 (fun (a : Int) => J29 U E i j a) (fun (a : Int) => [(1, .ptr 1 0), (5, .d false (.sl (.ints (E.getD i.toNat [])))), (7, .d false (.sl (.ints (E.getD j.toNat [])))), (14, .d false (.sl (.rows E))), (15, .d true (.int .i64 (E.length : Int))), (16, .d true (.int .i64 i)), (21, .d false (.sl (.rows E))), (22, .d true (.int .i64 (E.length : Int))), (23, .d true (.int .i64 j)), (29, .d true (.int .i64 (U.length : Int))), (30, .d true (.int .i64 a))]) (fun (a : Int) => [(1, .box 27 [.d false (.sl (.ints U)), .d false (.sl (.rows E))])])) (fun g => J27 U E i j g) (fun g => (fun (a : Int) => .two (.none) (.two (.none) (.two (.two (.none) (.two (.none) (.loop (cut1 (fun (b : Int) => J2k U E i j a b) (fun (b : Int) => [(1, .ptr 1 0), (5, .d false (.sl (.ints (E.getD i.toNat [])))), (7, .d false (.sl (.ints (E.getD j.toNat [])))), (8, .d true (.int .i64 a)), (14, .d false (.sl (.rows E))), (15, .d true (.int .i64 (E.length : Int))), (16, .d true (.int .i64 i)), (21, .d false (.sl (.rows E))), (22, .d true (.int .i64 (E.length : Int))), (23, .d true (.int .i64 j)), (29, .d true (.int .i64 (U.length : Int))), (30, .d true (.int .i64 a)), (35, .d true (.int .i64 (U.length : Int))), (36, .d true (.int .i64 b))]) (fun (b : Int) => [(1, .box 27 [.d false (.sl (.ints U)), .d false (.sl (.rows E))])])) (fun g => J20 U E i j a g) (fun _ => .none)))) (.none)))) g)))) (.none)))) g)))) (.none)))) g))) (.none)))
def J6V (U : ZI) (E : ZR) : Prop :=
  (PC Tryz.prog 111 [.agg [.sl (.ints U), .sl (.rows E)]] (.one (.d (.bool (J0 U E))))) ∧ (((!(J0 U E)) = true → ((false = (J0 U E && JG U.length E)) ∧ (false = (J0 U E)))) ∧ ((!(J0 U E)) = false → ((∃ i' : Int, (J2d U E i') ∧ (E = E) ∧ ((E.length : Int) = (E.length : Int)) ∧ ((0 : Int) = i') ∧ (U = U) ∧ (E = E)) ∧ (∀ i : Int, (J2d U E i) → (((decide (i < (E.length : Int))) = true → ((0 : Int) ≤ i) ∧ ((i : Int) < E.length) ∧ (i.toNat < E.length) ∧ ((∃ j' : Int, (J24 U E i j') ∧ ((E.getD i.toNat []) = (E.getD i.toNat [])) ∧ (E = E) ∧ ((E.length : Int) = (E.length : Int)) ∧ (i = i) ∧ (E = E) ∧ ((E.length : Int) = (E.length : Int)) ∧ ((0 : Int) = j') ∧ (U = U) ∧ (E = E)) ∧ (∀ j : Int, (J24 U E i j) → (((decide (j < (E.length : Int))) = true → ((0 : Int) ≤ j) ∧ ((j : Int) < E.length) ∧ (j.toNat < E.length) ∧ ((∃ a' : Int, (J29 U E i j a') ∧ ((E.getD i.toNat []) = (E.getD i.toNat [])) ∧ ((E.getD j.toNat []) = (E.getD j.toNat [])) ∧ (E = E) ∧ ((E.length : Int) = (E.length : Int)) ∧ (i = i) ∧ (E = E) ∧ ((E.length : Int) = (E.length : Int)) ∧ (j = j) ∧ ((U.length : Int) = (U.length : Int)) ∧ ((0 : Int) = a') ∧ (U = U) ∧ (E = E)) ∧ (∀ a : Int, (J29 U E i j a) → (((decide (a < (U.length : Int))) = true → ((∃ b' : Int, (J2k U E i j a b') ∧ ((E.getD i.toNat []) = (E.getD i.toNat [])) ∧ ((E.getD j.toNat []) = (E.getD j.toNat [])) ∧ (a = a) ∧ (E = E) ∧ ((E.length : Int) = (E.length : Int)) ∧ (i = i) ∧ (E = E) ∧ ((E.length : Int) = (E.length : Int)) ∧ (j = j) ∧ ((U.length : Int) = (U.length : Int)) ∧ (a = a) ∧ ((U.length : Int) = (U.length : Int)) ∧ ((0 : Int) = b') ∧ (U = U) ∧ (E = E)) ∧ (∀ b : Int, (J2k U E i j a b) → (((decide (b < (U.length : Int))) = true → (true = true) ∧ ((0 : Int) ≤ a) ∧ ((a : Int) < (E.getD i.toNat []).length) ∧ (a.toNat < (E.getD i.toNat []).length) ∧ ((0 : Int) ≤ b) ∧ ((b : Int) < (E.getD i.toNat []).length) ∧ (b.toNat < (E.getD i.toNat []).length) ∧ ((0 : Int) ≤ b) ∧ ((b : Int) < (E.getD j.toNat []).length) ∧ (b.toNat < (E.getD j.toNat []).length) ∧ (I6 (((E.getD i.toNat []).getD b.toNat 0) + ((E.getD j.toNat []).getD b.toNat 0))) ∧ ((0 : Int) ≤ a) ∧ ((a : Int) < (E.getD j.toNat []).length) ∧ (a.toNat < (E.getD j.toNat []).length) ∧ (I6 ((((E.getD i.toNat []).getD b.toNat 0) + ((E.getD j.toNat []).getD b.toNat 0)) + ((E.getD j.toNat []).getD a.toNat 0))) ∧ (((decide (((E.getD i.toNat []).getD a.toNat 0) > ((((E.getD i.toNat []).getD b.toNat 0) + ((E.getD j.toNat []).getD b.toNat 0)) + ((E.getD j.toNat []).getD a.toNat 0)))) = true → ((false = (J0 U E && JG U.length E)) ∧ (true = (J0 U E)))) ∧ ((decide (((E.getD i.toNat []).getD a.toNat 0) > ((((E.getD i.toNat []).getD b.toNat 0) + ((E.getD j.toNat []).getD b.toNat 0)) + ((E.getD j.toNat []).getD a.toNat 0)))) = false → (I6 (b + 1)) ∧ (∃ b' : Int, (J2k U E i j a b') ∧ (J20 U E i j a b' < J20 U E i j a b) ∧ ((E.getD i.toNat []) = (E.getD i.toNat [])) ∧ ((E.getD j.toNat []) = (E.getD j.toNat [])) ∧ (a = a) ∧ (E = E) ∧ ((E.length : Int) = (E.length : Int)) ∧ (i = i) ∧ (E = E) ∧ ((E.length : Int) = (E.length : Int)) ∧ (j = j) ∧ ((U.length : Int) = (U.length : Int)) ∧ (a = a) ∧ ((U.length : Int) = (U.length : Int)) ∧ ((b + 1) = b') ∧ (U = U) ∧ (E = E))))) ∧ ((decide (b < (U.length : Int))) = false → (I6 (a + 1)) ∧ (∃ a' : Int, (J29 U E i j a') ∧ (J27 U E i j a' < J27 U E i j a) ∧ ((E.getD i.toNat []) = (E.getD i.toNat [])) ∧ ((E.getD j.toNat []) = (E.getD j.toNat [])) ∧ (E = E) ∧ ((E.length : Int) = (E.length : Int)) ∧ (i = i) ∧ (E = E) ∧ ((E.length : Int) = (E.length : Int)) ∧ (j = j) ∧ ((U.length : Int) = (U.length : Int)) ∧ ((a + 1) = a') ∧ (U = U) ∧ (E = E))))))) ∧ ((decide (a < (U.length : Int))) = false → (I6 (j + 1)) ∧ (∃ j' : Int, (J24 U E i j') ∧ (J25 U E i j' < J25 U E i j) ∧ ((E.getD i.toNat []) = (E.getD i.toNat [])) ∧ (E = E) ∧ ((E.length : Int) = (E.length : Int)) ∧ (i = i) ∧ (E = E) ∧ ((E.length : Int) = (E.length : Int)) ∧ ((j + 1) = j') ∧ (U = U) ∧ (E = E))))))) ∧ ((decide (j < (E.length : Int))) = false → (I6 (i + 1)) ∧ (∃ i' : Int, (J2d U E i') ∧ (J2h U E i' < J2h U E i) ∧ (E = E) ∧ ((E.length : Int) = (E.length : Int)) ∧ ((i + 1) = i') ∧ (U = U) ∧ (E = E))))))) ∧ ((decide (i < (E.length : Int))) = false → ((true = (J0 U E && JG U.length E)) ∧ (true = (J0 U E)))))))))
theorem JaO (U : ZI) (E : ZR)  (w_Open : (U.length : Int) ≤ 9223372036854775807) (w_Dist : (E.length : Int) ≤ 9223372036854775807) (v_Dist : ∀ x9 ∈ E, (x9.length : Int) ≤ 9223372036854775807) : J6V U E := by
  unfold J6V
  refine ⟨J3Q U E, ?_, ?_⟩
  ·intro b1
   try simp only [nrmT] at b1
   refine ⟨?_, ?_⟩
   ·have e1 : J0 U E = false := by simpa using b1
    rw [e1]; rfl
   have e1 : J0 U E = false := by simpa using b1
   exact e1.symm
  intro b2
  try simp only [nrmT] at b2
  refine ⟨?_, ?_⟩
  ·refine ⟨0, ?_⟩
   refine ⟨?_, rfl, rfl, rfl, rfl, rfl⟩
   ·refine ⟨?_, ?_, ?_⟩
    ·omega
    ·omega
    ·rfl
  intro i hJ
  obtain ⟨h1, h2, h3⟩ := hJ
  refine ⟨?_, ?_⟩
  ·intro b3
   try simp only [nrmT] at b3
   refine ⟨?_, ?_, ?_, ?_, ?_⟩
   ·omega
   ·omega
   ·omega
   ·refine ⟨0, ?_⟩
    refine ⟨?_, rfl, rfl, rfl, rfl, rfl, rfl, rfl, rfl, rfl⟩
    ·refine ⟨?_, ?_, ?_⟩
     ·omega
     ·omega
     ·rfl
   intro j hJ
   obtain ⟨h4, h5, h6⟩ := hJ
   refine ⟨?_, ?_⟩
   ·intro b4
    try simp only [nrmT] at b4
    refine ⟨?_, ?_, ?_, ?_, ?_⟩
    ·omega
    ·omega
    ·omega
    ·refine ⟨0, ?_⟩
     refine ⟨?_, rfl, rfl, rfl, rfl, rfl, rfl, rfl, rfl, rfl, rfl, rfl, rfl⟩
     ·refine ⟨?_, ?_, ?_⟩
      ·omega
      ·omega
      ·rfl
    intro a hJ
    obtain ⟨h7, h8, h9⟩ := hJ
    refine ⟨?_, ?_⟩
    ·intro b5
     try simp only [nrmT] at b5
     refine ⟨?_, ?_⟩
     ·refine ⟨0, ?_⟩
      refine ⟨?_, rfl, rfl, rfl, rfl, rfl, rfl, rfl, rfl, rfl, rfl, rfl, rfl, rfl, rfl, rfl⟩
      ·refine ⟨?_, ?_, ?_⟩
       ·omega
       ·omega
       ·rfl
     intro b hJ
     obtain ⟨k1, k2, k3⟩ := hJ
     refine ⟨?_, ?_⟩
     ·intro b6
      try simp only [nrmT] at b6
      refine ⟨rfl, ?_, ?_, ?_, ?_, ?_, ?_, ?_, ?_, ?_, ?_, ?_, ?_, ?_, ?_, ?_, ?_⟩
      ·omega
      ·have hg : J0 U E = true := by simpa using b2
       obtain ⟨g1, g2, g3⟩ := Jb hg
       have r1 := J8 hg (i := i.toNat) (by omega)
       have r2 := J8 hg (i := j.toNat) (by omega)
       have q1 := r1.2 a.toNat (by omega)
       have q2 := r1.2 b.toNat (by omega)
       have q3 := r2.2 b.toNat (by omega)
       have q4 := r2.2 a.toNat (by omega)
       omega
      ·have hg : J0 U E = true := by simpa using b2
       obtain ⟨g1, g2, g3⟩ := Jb hg
       have r1 := J8 hg (i := i.toNat) (by omega)
       have r2 := J8 hg (i := j.toNat) (by omega)
       have q1 := r1.2 a.toNat (by omega)
       have q2 := r1.2 b.toNat (by omega)
       have q3 := r2.2 b.toNat (by omega)
       have q4 := r2.2 a.toNat (by omega)
       omega
      ·omega
      ·have hg : J0 U E = true := by simpa using b2
       obtain ⟨g1, g2, g3⟩ := Jb hg
       have r1 := J8 hg (i := i.toNat) (by omega)
       have r2 := J8 hg (i := j.toNat) (by omega)
       have q1 := r1.2 a.toNat (by omega)
       have q2 := r1.2 b.toNat (by omega)
       have q3 := r2.2 b.toNat (by omega)
       have q4 := r2.2 a.toNat (by omega)
       omega
      ·have hg : J0 U E = true := by simpa using b2
       obtain ⟨g1, g2, g3⟩ := Jb hg
       have r1 := J8 hg (i := i.toNat) (by omega)
       have r2 := J8 hg (i := j.toNat) (by omega)
       have q1 := r1.2 a.toNat (by omega)
       have q2 := r1.2 b.toNat (by omega)
       have q3 := r2.2 b.toNat (by omega)
       have q4 := r2.2 a.toNat (by omega)
       omega
      ·omega
      ·have hg : J0 U E = true := by simpa using b2
       obtain ⟨g1, g2, g3⟩ := Jb hg
       have r1 := J8 hg (i := i.toNat) (by omega)
       have r2 := J8 hg (i := j.toNat) (by omega)
       have q1 := r1.2 a.toNat (by omega)
       have q2 := r1.2 b.toNat (by omega)
       have q3 := r2.2 b.toNat (by omega)
       have q4 := r2.2 a.toNat (by omega)
       omega
      ·have hg : J0 U E = true := by simpa using b2
       obtain ⟨g1, g2, g3⟩ := Jb hg
       have r1 := J8 hg (i := i.toNat) (by omega)
       have r2 := J8 hg (i := j.toNat) (by omega)
       have q1 := r1.2 a.toNat (by omega)
       have q2 := r1.2 b.toNat (by omega)
       have q3 := r2.2 b.toNat (by omega)
       have q4 := r2.2 a.toNat (by omega)
       omega
      ·have hg : J0 U E = true := by simpa using b2
       obtain ⟨g1, g2, g3⟩ := Jb hg
       have r1 := J8 hg (i := i.toNat) (by omega)
       have r2 := J8 hg (i := j.toNat) (by omega)
       have q1 := r1.2 a.toNat (by omega)
       have q2 := r1.2 b.toNat (by omega)
       have q3 := r2.2 b.toNat (by omega)
       have q4 := r2.2 a.toNat (by omega)
       omega
      ·omega
      ·have hg : J0 U E = true := by simpa using b2
       obtain ⟨g1, g2, g3⟩ := Jb hg
       have r1 := J8 hg (i := i.toNat) (by omega)
       have r2 := J8 hg (i := j.toNat) (by omega)
       have q1 := r1.2 a.toNat (by omega)
       have q2 := r1.2 b.toNat (by omega)
       have q3 := r2.2 b.toNat (by omega)
       have q4 := r2.2 a.toNat (by omega)
       omega
      ·have hg : J0 U E = true := by simpa using b2
       obtain ⟨g1, g2, g3⟩ := Jb hg
       have r1 := J8 hg (i := i.toNat) (by omega)
       have r2 := J8 hg (i := j.toNat) (by omega)
       have q1 := r1.2 a.toNat (by omega)
       have q2 := r1.2 b.toNat (by omega)
       have q3 := r2.2 b.toNat (by omega)
       have q4 := r2.2 a.toNat (by omega)
       omega
      ·have hg : J0 U E = true := by simpa using b2
       obtain ⟨g1, g2, g3⟩ := Jb hg
       have r1 := J8 hg (i := i.toNat) (by omega)
       have r2 := J8 hg (i := j.toNat) (by omega)
       have q1 := r1.2 a.toNat (by omega)
       have q2 := r1.2 b.toNat (by omega)
       have q3 := r2.2 b.toNat (by omega)
       have q4 := r2.2 a.toNat (by omega)
       omega
      ·intro b7
       try simp only [nrmT] at b7
       refine ⟨?_, ?_⟩
       ·have e1 : J7u U.length E i.toNat j.toNat a.toNat = false := allTo_falseI k1 (by omega) (by unfold J1f; rw [decide_eq_true (by omega)]; rfl)
        have e2 : J6k U.length E i.toNat j.toNat = false := allTo_falseI h7 (by omega) e1
        have e3 : J5v U.length E i.toNat = false := allTo_falseI h4 (by omega) e2
        rw [show JG U.length E = false from allTo_falseI h1 (by omega) e3, Bool.and_false]
       have hg : J0 U E = true := by simpa using b2
       obtain ⟨g1, g2, g3⟩ := Jb hg
       exact hg.symm
      intro b8
      try simp only [nrmT] at b8
      refine ⟨?_, ?_⟩
      ·omega
      refine ⟨(b + 1), ?_⟩
      refine ⟨?_, ?_, rfl, rfl, rfl, rfl, rfl, rfl, rfl, rfl, rfl, rfl, rfl, rfl, rfl, rfl, rfl⟩
      ·refine ⟨?_, ?_, ?_⟩
       ·omega
       ·omega
       ·refine allTo_step k1 k3 ?_
        unfold J1f
        rw [decide_eq_false (by omega)]; rfl
      (simp only [J20]; omega)
     intro b9
     try simp only [nrmT] at b9
     refine ⟨?_, ?_⟩
     ·omega
     refine ⟨(a + 1), ?_⟩
     refine ⟨?_, ?_, rfl, rfl, rfl, rfl, rfl, rfl, rfl, rfl, rfl, rfl, rfl, rfl⟩
     ·refine ⟨?_, ?_, ?_⟩
      ·omega
      ·omega
      ·refine allTo_step h7 h9 ?_
       show allTo _ U.length = true
       rw [← k3]; congr 1; omega
     (simp only [J27]; omega)
    intro b10
    try simp only [nrmT] at b10
    refine ⟨?_, ?_⟩
    ·omega
    refine ⟨(j + 1), ?_⟩
    refine ⟨?_, ?_, rfl, rfl, rfl, rfl, rfl, rfl, rfl, rfl, rfl⟩
    ·refine ⟨?_, ?_, ?_⟩
     ·omega
     ·omega
     ·refine allTo_step h4 h6 ?_
      show allTo _ U.length = true
      rw [← h9]; congr 1; omega
    (simp only [J25]; omega)
   intro b11
   try simp only [nrmT] at b11
   refine ⟨?_, ?_⟩
   ·omega
   refine ⟨(i + 1), ?_⟩
   refine ⟨?_, ?_, rfl, rfl, rfl, rfl, rfl⟩
   ·refine ⟨?_, ?_, ?_⟩
    ·omega
    ·omega
    ·refine allTo_step h1 h3 ?_
     show allTo _ E.length = true
     rw [← h6]; congr 1; omega
   (simp only [J2h]; omega)
  intro b12
  try simp only [nrmT] at b12
  refine ⟨?_, ?_⟩
  ·have hg : J0 U E = true := by simpa using b2
   obtain ⟨g1, g2, g3⟩ := Jb hg
   have hm : JG U.length E = true := by
     unfold JG
     rw [← h3]; congr 1; omega
   rw [hg, hm]; rfl
  have hg : J0 U E = true := by simpa using b2
  obtain ⟨g1, g2, g3⟩ := Jb hg
  exact hg.symm
theorem JaR (U : ZI) (E : ZR)  : PC Tryz.prog 25 [.agg [.sl (.ints U), .sl (.rows E)]] (.tup [.d (.bool (J0 U E && JG U.length E)), .d (.bool (J0 U E))]) :=
  pc_wf @Tryz.call25 fun hw => pc_by (by kernel_rfl) Tryz.func25 @Tryz.call25 (by kernel_rfl) JbC (Jbl U E) (by kernel_rfl) (JaO U E hw.1.1 hw.1.2.1.1 hw.1.2.1.2) (by kernel_rfl)
def Ja1 : List D → Orc := orcN [none] fun ds => match ds with
  | [.agg [.sl (.ints U), .sl (.rows E)]] => some (.tup [.d (.bool (J0 U E && JG U.length E)), .d (.bool (J0 U E))])
  | _ => none
abbrev J0G (code : List Nat) (c : Cur) (O : ZI) (D : ZR) (cm : Cur) : Prop := (okC cm 9000000) ∧ (O.length ≤ 8) ∧ (D.length ≤ 8)
def J33 (code : List Nat) (c : Cur) : Ex := ex3 1 (fun (O : ZI) (D : ZR) (cm : Cur) => J0G code c O D cm) (fun (O : ZI) (D : ZR) (cm : Cur) => [.int .i64 cm.pos, .int .u64 cm.seed]) (fun (O : ZI) (D : ZR) (cm : Cur) => .one (.d (.agg [.sl (.ints O), .sl (.rows D)])))
def J8H (f : FuncId) (ds : List D) : Orc := .no
def J8y (u : Value) (code : List Nat) (c : Cur) : Ann := .two (.none) (.two (.two (.mark [] [(1, .cell [.int .i64 ((J1 code c 12).pos), .int .u64 ((J1 code c 12).seed)] (.one (.d (.bool (J3 code c 12 == 0)))))]) (.two (.two (.exr (.ex [] 1 (J04 code (J1 code c 12)) (fun g => (fun (Or2 : ZI) (Dr2 : ZR) (clr2 : Cur) => .ms [] []) (g.1) (g.2.1) (g.2.2)))) (.none)) (.none))) (.two (.two (.mark [] [(1, .cell [.int .i64 ((J1 code (J1 code c 12) 2).pos), .int .u64 ((J1 code (J1 code c 12) 2).seed)] (.one (.d (.bool (J3 code (J1 code c 12) 2 == 0)))))]) (.two (.two (.exr (.ex [] 1 (J0b code (J1 code (J1 code c 12) 2) 7) (fun g => (fun (Or4 : ZI) (Dr4 : ZR) (cgr4 : Cur) => .ms [] []) (g.1) (g.2.1) (g.2.2)))) (.none)) (.none))) (.two (.exr (.ex [] 1 (Jq code (J1 code (J1 code c 12) 2) 7) (fun g => (fun (Or5 : ZI) (Dr5 : ZR) (cfr5 : Cur) => .ex [] 2 (J2L Or5 Dr5) (fun g => (fun (Or5x2 : ZI) (Dr5x2 : ZR) => .ms [] []) (g.1) (g.2))) (g.1) (g.2.1) (g.2.2)))) (.none))))
def J39 (u : Value) (code : List Nat) (c : Cur) : Prop :=
  (PK Tryz.prog 124 76 (.sl (.bytes code)) [.int .i64 c.pos, .int .u64 c.seed] [.int .i64 ((J1 code c 12).pos), .int .u64 ((J1 code c 12).seed)] [.int .i64 12] (.one (.d (.bool (J3 code c 12 == 0))))) ∧ (((J3 code c 12 == 0) = true → (PKE Tryz.prog 133 76 (.sl (.bytes code)) [.int .i64 ((J1 code c 12).pos), .int .u64 ((J1 code c 12).seed)] [] (J04 code (J1 code c 12))) ∧ (∀ Or2 : ZI, ∀ Dr2 : ZR, ∀ clr2 : Cur, J19 code (J1 code c 12) Or2 Dr2 clr2 → ((true = true) ∧ (∃ O' : ZI, ∃ D' : ZR, ∃ cm' : Cur, (J0G code c O' D' cm') ∧ (true = true) ∧ ((.lit u (.sl (.bytes code)) : D) = .lit u (.sl (.bytes code))) ∧ (clr2.pos = cm'.pos) ∧ (clr2.seed = cm'.seed) ∧ ((.agg [.sl (.ints Or2), .sl (.rows Dr2)] : D) = .agg [.sl (.ints O'), .sl (.rows D')]))))) ∧ ((J3 code c 12 == 0) = false → (PK Tryz.prog 124 76 (.sl (.bytes code)) [.int .i64 ((J1 code c 12).pos), .int .u64 ((J1 code c 12).seed)] [.int .i64 ((J1 code (J1 code c 12) 2).pos), .int .u64 ((J1 code (J1 code c 12) 2).seed)] [.int .i64 2] (.one (.d (.bool (J3 code (J1 code c 12) 2 == 0))))) ∧ (((J3 code (J1 code c 12) 2 == 0) = true → (PKE Tryz.prog 186 76 (.sl (.bytes code)) [.int .i64 ((J1 code (J1 code c 12) 2).pos), .int .u64 ((J1 code (J1 code c 12) 2).seed)] [.int .i64 7] (J0b code (J1 code (J1 code c 12) 2) 7)) ∧ (∀ Or4 : ZI, ∀ Dr4 : ZR, ∀ cgr4 : Cur, J0W code (J1 code (J1 code c 12) 2) 7 Or4 Dr4 cgr4 → ((true = true) ∧ (∃ O' : ZI, ∃ D' : ZR, ∃ cm' : Cur, (J0G code c O' D' cm') ∧ (true = true) ∧ ((.lit u (.sl (.bytes code)) : D) = .lit u (.sl (.bytes code))) ∧ (cgr4.pos = cm'.pos) ∧ (cgr4.seed = cm'.seed) ∧ (Or4.length = Or4.length) ∧ (Dr4.length = Dr4.length) ∧ ((.agg [.sl (.ints Or4), .sl (.rows Dr4)] : D) = .agg [.sl (.ints O'), .sl (.rows D')]))))) ∧ ((J3 code (J1 code c 12) 2 == 0) = false → (PKE Tryz.prog 188 76 (.sl (.bytes code)) [.int .i64 ((J1 code (J1 code c 12) 2).pos), .int .u64 ((J1 code (J1 code c 12) 2).seed)] [.int .i64 7] (Jq code (J1 code (J1 code c 12) 2) 7)) ∧ (∀ Or5 : ZI, ∀ Dr5 : ZR, ∀ cfr5 : Cur, JX code (J1 code (J1 code c 12) 2) 7 Or5 Dr5 cfr5 → ((true = true) ∧ (Or5.length = Or5.length) ∧ (Dr5.length = Dr5.length) ∧ (PE Tryz.prog 187 [.agg [.sl (.ints Or5), .sl (.rows Dr5)]] (J2L Or5 Dr5)) ∧ (∀ Or5x2 : ZI, ∀ Dr5x2 : ZR, J2I Or5 Dr5 Or5x2 Dr5x2 → ((true = true) ∧ (∃ O' : ZI, ∃ D' : ZR, ∃ cm' : Cur, (J0G code c O' D' cm') ∧ (true = true) ∧ ((.lit u (.sl (.bytes code)) : D) = .lit u (.sl (.bytes code))) ∧ (cfr5.pos = cm'.pos) ∧ (cfr5.seed = cm'.seed) ∧ (Or5x2.length = Or5x2.length) ∧ (Dr5x2.length = Dr5x2.length) ∧ ((.agg [.sl (.ints Or5x2), .sl (.rows Dr5x2)] : D) = .agg [.sl (.ints O'), .sl (.rows D')]))))))))))
theorem J7V (u : Value) (code : List Nat) (c : Cur) (hb : ∀ x9 ∈ code, x9 < 256) (hc : okC c 1000000)  : J39 u code c := by
  unfold J39
  refine ⟨?_, ?_, ?_⟩
  ·refine J1l code c 12 ?_ ?_
   ·exact hb
   ·exact J5 (by assumption) (by omega)
  ·intro b1
   refine ⟨?_, ?_⟩
   ·refine J2u code (J1 code c 12) ?_ ?_
    ·exact hb
    ·exact J5 (Ja (by assumption)) (by omega)
   intro Or2 Dr2 clr2 hQ9
   obtain ⟨f1r2, f2r2, f3r2⟩ := hQ9
   refine ⟨rfl, ?_⟩
   ·refine ⟨Or2, Dr2, clr2, ?_⟩
    refine ⟨?_, rfl, rfl, rfl, rfl, rfl⟩
    ·refine ⟨?_, ?_, ?_⟩
     ·exact J5 (by assumption) (by omega)
     ·assumption
     ·assumption
  intro b2
  refine ⟨?_, ?_, ?_⟩
  ·refine J1l code (J1 code c 12) 2 ?_ ?_
   ·exact hb
   ·exact J5 (Ja (by assumption)) (by omega)
  ·intro b3
   refine ⟨?_, ?_⟩
   ·refine J3e code (J1 code (J1 code c 12) 2) 7 ?_ ?_ ?_
    ·exact hb
    ·exact J5 (Ja (Ja (by assumption))) (by omega)
    ·omega
   intro Or4 Dr4 cgr4 hQ9
   obtain ⟨f1r4, f2r4⟩ := hQ9
   refine ⟨rfl, ?_⟩
   ·refine ⟨Or4, Dr4, cgr4, ?_⟩
    refine ⟨?_, rfl, rfl, rfl, rfl, rfl, rfl, rfl⟩
    ·refine ⟨?_, ?_, ?_⟩
     ·exact J5 (by assumption) (by omega)
     ·exact Nat.le_trans (And.left (show drF _ _ by assumption)) (by decide)
     ·exact Nat.le_trans (And.left (And.right (show drF _ _ by assumption))) (by decide)
  intro b4
  refine ⟨?_, ?_⟩
  ·refine J0x code (J1 code (J1 code c 12) 2) 7 ?_ ?_ ?_
   ·exact hb
   ·exact J5 (Ja (Ja (by assumption))) (by omega)
   ·omega
  intro Or5 Dr5 cfr5 hQ9
  obtain ⟨f1r5, f2r5⟩ := hQ9
  refine ⟨rfl, rfl, rfl, ?_, ?_⟩
  ·refine J6U Or5 Dr5 ?_
   ·assumption
  intro Or5x2 Dr5x2 hQ9
  have f2r5x2 := hQ9
  refine ⟨rfl, ?_⟩
  ·refine ⟨Or5x2, Dr5x2, cfr5, ?_⟩
   refine ⟨?_, rfl, rfl, rfl, rfl, rfl, rfl, rfl⟩
   ·refine ⟨?_, ?_, ?_⟩
    ·exact J5 (by assumption) (by omega)
    ·exact Nat.le_trans (And.left (show drF _ _ by assumption)) (by decide)
    ·exact Nat.le_trans (And.left (And.right (show drF _ _ by assumption))) (by decide)
theorem J7m (code : List Nat) (c : Cur) (hb : ∀ x9 ∈ code, x9 < 256) (hc : okC c 1000000) : PKE Tryz.prog 91 76 (.sl (.bytes code)) [.int .i64 c.pos, .int .u64 c.seed] [] (J33 code c) :=
  pke_by (Q := fun u => J39 u code c) (by kernel_rfl) Tryz.func91 @Tryz.call91 (by kernel_rfl) J8H (fun u => J8y u code c) (by kernel_rfl) (fun u => J7V u code c hb hc) (fun u => by kernel_rfl)
def n5B (n : Nat) : Int := max 1 (min (n : Int) 3)
def n5C (code : List Nat) (c : Cur) (n : Nat) : Cur := if J3 code c 24 = 0 then J1 code (J1 code c 24) 3 else J1 code (J1 code c 24) (n5B n)
theorem Jeq {code : List Nat} {c : Cur} {n : Nat} {b : Int} (h : okC c b) : okC (n5C code c n) (b + 4) := by
  unfold n5C
  split
  · exact J5 (Ja (Ja h)) (by omega)
  exact J5 (Ja (Ja h)) (by omega)
def dst (D : ZR) (c a : Int) : Int := (D.getD c.toNat []).getD a.toNat 0
theorem Jeh {n : Nat} {D : ZR} (h : JG n D = true) {i j a b : Nat} (hi : i < D.length) (hj : j < D.length) (ha : a < n) (hb : b < n) : (D.getD i []).getD a 0 ≤ (D.getD i []).getD b 0 + (D.getD j []).getD b 0 + (D.getD j []).getD a 0 := by
  have h1 : allTo (J6k n D i) D.length = true := allTo_iff.1 h i hi
  have h2 : allTo (J7u n D i j) n = true := allTo_iff.1 h1 j hj
  have h3 : allTo (fun b => !J1f D i j a b) n = true := allTo_iff.1 h2 a ha
  have h4 := allTo_iff.1 h3 b hb
  unfold J1f at h4
  simp only [Bool.not_eq_true', decide_eq_false_iff_not] at h4
  omega
theorem Jei {n : Nat} {D : ZR} (h : JG n D = true) {i j a b : Int} (hi : 0 ≤ i ∧ i < (D.length : Int)) (hj : 0 ≤ j ∧ j < (D.length : Int)) (ha : 0 ≤ a ∧ a < (n : Int)) (hb : 0 ≤ b ∧ b < (n : Int)) : dst D i a ≤ dst D i b + dst D j b + dst D j a :=
  Jeh h (by omega) (by omega) (by omega) (by omega)
theorem Je9 {D : ZR} {S L : ZI} {r : Int} (hS : 0 < S.length) (h0 : 0 ≤ r) (hr : Jy D S ≤ r) (hL : ∀ x ∈ L, 0 ≤ x ∧ x < (D.length : Int))
    (hp : ∀ p q, p < q → q < L.length → ∀ a, a ∈ S → dst D (L.getD p 0) a ≤ r → dst D (L.getD q 0) a ≤ r → False) : L.length ≤ S.length := by
  have hre := (Jdl h0).1 hr
  have hsv : ∀ x ∈ L, Jn (D.getD x.toNat []) S S.length ∈ S ∧ dst D x (Jn (D.getD x.toNat []) S S.length) ≤ r := fun x hx =>
    ⟨J9p hS S.length (Nat.le_refl _), hre x.toNat (by have := hL x hx; omega)⟩
  have hnd : (L.map fun x => Jn (D.getD x.toNat []) S S.length).Nodup := by
    refine List.pairwise_iff_getElem.2 fun p q hp1 hq1 hpq e => ?_
    simp only [List.length_map] at hp1 hq1
    simp only [List.getElem_map] at e
    have h1 := hsv _ (List.getElem_mem hp1)
    have h2 := hsv _ (List.getElem_mem hq1)
    rw [← e] at h2
    refine hp p q hpq hq1 _ h1.1 ?_ ?_
    · rw [Jh hp1]; exact h1.2
    rw [Jh hq1]; exact h2.2
  have hl := List.Nodup.length_le_of_subset hnd (fun y hy => by
    obtain ⟨x, hx, rfl⟩ := List.mem_map.1 hy
    exact (hsv x hx).1 : ∀ y ∈ _, y ∈ S)
  rwa [List.length_map] at hl
theorem Jaw {U : ZI} {D : ZR} (hg : J0 U D = true) {cl : ZI} (hc : ∀ c ∈ cl, 0 ≤ c ∧ c < (D.length : Int)) :
    J2 (Jo D cl) 0 ((U.length : Int) - 1) = true ∧ 0 < (Jo D cl).length ∧ (Jo D cl).length ≤ max 1 cl.length ∧
    ∀ c ∈ cl, ∃ a, a ∈ Jo D cl ∧ 0 ≤ a ∧ a < (U.length : Int) ∧ ∀ b : Int, 0 ≤ b ∧ b < (U.length : Int) → dst D c a ≤ dst D c b := by
  obtain ⟨g1, g2, g3⟩ := Jb hg
  unfold Jo
  split
  · rename_i h0
    have : cl = [] := List.eq_nil_of_length_eq_zero h0
    subst this
    refine ⟨J4s (List.pairwise_singleton _ _) (fun x hx => by rw [List.mem_singleton] at hx; omega), by simp, by simp, fun c h => by cases h⟩
  rename_i h0
  have hmem : ∀ c ∈ cl, J0g (D.getD c.toNat []) ∈ J1P D cl cl.length := fun c h => by
    obtain ⟨j, hj, rfl⟩ := List.mem_iff_getElem.1 h
    exact (J4V _).2 ⟨j, hj, by rw [Jh hj]⟩
  refine ⟨J4s (J8q _) (fun x hx => ?_), ?_, ?_, fun c h => ?_⟩
  · obtain ⟨j, hj, rfl⟩ := (J4V _).1 hx
    have := JQ hg (hc _ (getD_mem (d := 0) hj))
    omega
  · exact List.length_pos_of_mem (hmem _ (getD_mem (d := 0) (show 0 < cl.length by omega)))
  · have := J8r (E := D) (clients := cl) cl.length
    omega
  have h1 := JQ hg (hc c h)
  obtain ⟨rl, _⟩ := J8 (i := c.toNat) hg (by have := hc c h; omega)
  have h2 := J6l (D.getD c.toNat []) (D.getD c.toNat []).length (by omega)
  exact ⟨_, hmem c h, h1.1, h1.2.1, fun b hb => h2.2.2.1 b.toNat (by omega)⟩
theorem JdW {p : Nat → Bool} {n : Nat} (h : allTo p n = false) : ∃ k, k < n ∧ p k = false := by
  apply Classical.byContradiction
  intro hno
  rw [allTo_iff.2 fun k hk => by
    cases e : p k with
    | true => rfl
    | false => exact absurd ⟨k, hk, e⟩ hno] at h
  cases h
theorem Jb5 {n : Nat} {D : ZR} {i j r : Int} : J05 n D i j r = false ↔ ∃ a : Nat, a < n ∧ dst D i a ≤ r ∧ dst D j a ≤ r := by
  constructor
  · intro h
    obtain ⟨a, ha, h1⟩ := JdW h
    refine ⟨a, ha, ?_⟩
    unfold J26 at h1
    simpa [dst] using h1
  rintro ⟨a, ha, h1, h2⟩
  refine allTo_false ha ?_
  unfold J26
  simp only [dst, Int.toNat_natCast] at h1 h2
  rw [decide_eq_true h1, decide_eq_true h2]; rfl
theorem JdQ {n : Nat} {D : ZR} {L : ZI} {r : Int} (hn : L.Nodup) : J6 n D L r = true ↔ ∀ x y, x ∈ L → y ∈ L → x ≠ y → J05 n D x y r = true := by
  unfold J6
  constructor
  · intro h x y hx hy hne
    obtain ⟨i, hi, rfl⟩ := List.mem_iff_getElem.1 hx
    obtain ⟨j, hj, rfl⟩ := List.mem_iff_getElem.1 hy
    rcases Nat.lt_trichotomy i j with hij | hij | hij
    · have h1 := allTo_iff.1 (allTo_iff.1 h j hj) i hij
      rw [J6n, Jh hi, Jh hj] at h1
      exact h1
    · subst hij; exact absurd rfl hne
    have h1 := allTo_iff.1 (allTo_iff.1 h i hi) j hij
    rw [Jh hi, Jh hj] at h1
    exact h1
  intro h
  refine allTo_iff.2 fun i hi => allTo_iff.2 fun k hk => ?_
  refine h _ _ (getD_mem hi) (getD_mem (by omega)) fun e => ?_
  rw [Jh hi, Jh (show k < L.length by omega)] at e
  exact List.pairwise_iff_getElem.1 hn k i (by omega) hi hk e.symm
theorem Jb4 {n : Nat} {D : ZR} {r : Int} : ∀ k, J6 n D (J02 n D r k) r = true ∧ (∃ c, J02 n D r k = lst D.length c) ∧ ∀ c, c < k → J6 n D (lst D.length c) r = true → (lst D.length c).length ≤ (J02 n D r k).length
  | 0 => ⟨rfl, ⟨0, (Jbz _).symm⟩, fun c hc => by omega⟩
  | k + 1 => by
    obtain ⟨h1, h2, h3⟩ := Jb4 (n := n) (D := D) (r := r) k
    rw [J4q]
    unfold lfF
    split
    · rename_i h
      rw [Bool.and_eq_true, Bool.or_eq_true, Bool.and_eq_true, decide_eq_true_eq, decide_eq_true_eq] at h
      refine ⟨h.2, ⟨k, rfl⟩, fun c hc hf => ?_⟩
      by_cases e : c = k
      · subst e; exact Nat.le_refl _
      have := h3 c (by omega) hf
      omega
    rename_i h
    refine ⟨h1, h2, fun c hc hf => ?_⟩
    by_cases e : c = k
    · subst e
      rw [hf, Bool.and_true, Bool.or_eq_true, Bool.and_eq_true, decide_eq_true_eq, decide_eq_true_eq] at h
      omega
    exact h3 c (by omega) hf
theorem Jdf {l : ZI} (h : Asc l) : l.Nodup := h.imp fun {a b} hab e => by omega
theorem JdX (n : Nat) (D : ZR) (r : Int) : J6 n D (J02 n D r (2 ^ D.length)) r = true ∧ Asc (J02 n D r (2 ^ D.length)) ∧ (∀ x ∈ J02 n D r (2 ^ D.length), 0 ≤ x ∧ x < (D.length : Int)) ∧
    ∀ s, J2 s 0 ((D.length : Int) - 1) = true → J6 n D s r = true → s.length ≤ (J02 n D r (2 ^ D.length)).length := by
  obtain ⟨h1, ⟨c, h2⟩, h3⟩ := Jb4 (n := n) (D := D) (r := r) (2 ^ D.length)
  refine ⟨h1, by rw [h2]; exact Jcg, fun x hx => by rw [h2] at hx; exact J9g x hx, fun s hs hf => ?_⟩
  obtain ⟨c2, k1, k2⟩ := Jci.1 (JcA hs)
  rw [← k2] at hf ⊢
  exact h3 c2 k1 hf
theorem Jc1 {U : ZI} {D : ZR} (hg : J0 U D = true) {r : Int} : J4 D r = true ↔ ∀ j, j < D.length → ∃ a, a < U.length ∧ (D.getD j []).getD a 0 ≤ r := by
  obtain ⟨g1, g2, g3⟩ := Jb hg
  have hone : ∀ j, j < D.length → (decide (Jl (D.getD j []) ≤ r) = true ↔ ∃ a, a < U.length ∧ (D.getD j []).getD a 0 ≤ r) := fun j hj => by
    have hl := (J8 hg hj).1
    obtain ⟨m1, i, m2, m3⟩ := J6h (D.getD j []) (D.getD j []).length (by omega)
    rw [decide_eq_true_eq]
    unfold Jl
    constructor
    · intro h; exact ⟨i, by omega, by omega⟩
    rintro ⟨a, ha, h⟩; have := m1 a (by omega); omega
  unfold J4
  rw [List.all_eq_true]
  constructor
  · intro h j hj
    exact (hone j hj).1 (h _ (getD_mem hj))
  intro h row hr
  obtain ⟨j, hj, rfl⟩ := List.mem_iff_getElem.1 hr
  have := (hone j hj).2 (h j hj)
  rwa [Jh hj] at this
theorem Jdx {U : ZI} {D : ZR} {r : Int} (hc : Js U D r = true) : J0 U D = true ∧ 0 ≤ r ∧ JH U D r ∈ Jf (U.length : Int).toNat ∧ Jy D (JH U D r) ≤ r := by
  have h := hc
  rw [Js, Bool.and_eq_true, Bool.and_eq_true, decide_eq_true_eq, decide_eq_true_eq] at h
  have hlt : (J73 U D r).toNat < (Jf (U.length : Int).toNat).length ∧ Jy D ((Jf (U.length : Int).toNat).getD (J73 U D r).toNat []) ≤ r := by
    have h2 := h.2
    unfold J73 at h2 ⊢
    have h3 := decide_eq_true (show idxI (fun s => decide (Jy D s ≤ r)) (Jf (U.length : Int).toNat) ≥ 0 from h2)
    rw [idx_any, List.any_eq_true] at h3
    obtain ⟨s, hs, hle⟩ := h3
    obtain ⟨i, hi, rfl⟩ := List.mem_iff_getElem.1 hs
    have h9 := Jdk (p := fun s => decide (Jy D s ≤ r)) (xs := Jf (U.length : Int).toNat) (d := []) h.2 hi (by rw [Jh hi]; exact hle)
    have h10 := h.2
    unfold J73 at h10
    exact ⟨by omega, of_decide_eq_true h9.2⟩
  refine ⟨h.1.1, h.1.2, ?_, ?_⟩
  · rw [JH, if_pos hc]; exact getD_mem hlt.1
  rw [JH, if_pos hc]; exact hlt.2
abbrev J0M (code : List Nat) (c1 : Cur) (Oz : ZI) (Dz : ZR) : Prop := (okC c1 9000000) ∧ (Oz.length ≤ 8) ∧ (Dz.length ≤ 8)
abbrev J1c (code : List Nat) (O : ZI) (Ds : ZR) (rr : Int) : Prop := True
def J1b (code : List Nat) : Ex := ex3 0 (fun (O : ZI) (Ds : ZR) (rr : Int) => J1c code O Ds rr) (fun (O : ZI) (Ds : ZR) (rr : Int) => []) (fun (O : ZI) (Ds : ZR) (rr : Int) => .tup [.d (.agg [.sl (.ints O), .sl (.rows Ds)]), .d (.int .i64 rr)])
def J5s (f : FuncId) (ds : List D) : Orc := .no
def J5D (code : List Nat) : Ann := .two (.none) (.two (.none) (.cut (.exr (.ex [] 1 (J33 code J42) (fun g => (fun (Or2 : ZI) (Dr2 : ZR) (cmr2 : Cur) => .ms [] []) (g.1) (g.2.1) (g.2.2)))) (cut3 (fun (c1 : Cur) (Oz : ZI) (Dz : ZR) => J0M code c1 Oz Dz) (fun (c1 : Cur) (Oz : ZI) (Dz : ZR) => [(2, .ptr 2 0), (4, .ptr 8 0), (5, .ptr 5 0)]) (fun (c1 : Cur) (Oz : ZI) (Dz : ZR) => [(2, .box 27 [.d true (.nil), .d true (.nil)]), (8, .box 76 [.d false (.sl (.bytes code)), .d true (.int .i64 c1.pos), .d true (.int .u64 c1.seed)]), (5, .box 27 [.d true (.sl (.ints Oz)), .d true (.sl (.rows Dz))])])) (fun g => (fun (c1 : Cur) (Oz : ZI) (Dz : ZR) => .two (.reg [(3, .cell [.int .i64 ((J0H code c1 Oz Dz).pos), .int .u64 ((J0H code c1 Oz Dz).seed)] (.one (.d (.int .i64 (J3Y code c1 Oz Dz)))))]) (.none)) (g.1) (g.2.1) (g.2.2))))
def J2B (code : List Nat) : Prop :=
  (((PKE Tryz.prog 91 76 (.sl (.bytes code)) [.int .i64 0, .int .u64 0] [] (J33 code J42)) ∧ (∀ Or2 : ZI, ∀ Dr2 : ZR, ∀ cmr2 : Cur, J0G code J42 Or2 Dr2 cmr2 → ((true = true) ∧ (∃ c1' : Cur, ∃ Oz' : ZI, ∃ Dz' : ZR, (J0M code c1' Oz' Dz') ∧ (code = code) ∧ (cmr2.pos = c1'.pos) ∧ (cmr2.seed = c1'.seed) ∧ (Or2 = Oz') ∧ (Dr2 = Dz'))))) ∧ (∀ c1 : Cur, ∀ Oz : ZI, ∀ Dz : ZR, (J0M code c1 Oz Dz) → (true = true) ∧ (PK Tryz.prog 147 76 (.sl (.bytes code)) [.int .i64 c1.pos, .int .u64 c1.seed] [.int .i64 ((J0H code c1 Oz Dz).pos), .int .u64 ((J0H code c1 Oz Dz).seed)] [.agg [.sl (.ints Oz), .sl (.rows Dz)]] (.one (.d (.int .i64 (J3Y code c1 Oz Dz))))) ∧ (∃ O' : ZI, ∃ Ds' : ZR, ∃ rr' : Int, (J1c code O' Ds' rr') ∧ ((.agg [.sl (.ints Oz), .sl (.rows Dz)] : D) = .agg [.sl (.ints O'), .sl (.rows Ds')]) ∧ ((J3Y code c1 Oz Dz) = rr'))))
theorem J5a (code : List Nat) (hb : ∀ x9 ∈ code, x9 < 256) (w_code : (code.length : Int) ≤ 9223372036854775807) : J2B code := by
  unfold J2B
  refine ⟨?_, ?_⟩
  ·refine ⟨?_, ?_⟩
   ·refine J7m code J42 ?_ ?_
    ·exact hb
    ·exact J5 J8E (by omega)
   ·intro Or2 Dr2 cmr2 hQ9
    obtain ⟨f1r2, f2r2, f3r2⟩ := hQ9
    refine ⟨rfl, ?_⟩
    ·refine ⟨cmr2, Or2, Dr2, ?_⟩
     refine ⟨?_, rfl, rfl, rfl, rfl, rfl⟩
     ·refine ⟨?_, ?_, ?_⟩
      ·exact J5 (by assumption) (by omega)
      ·assumption
      ·assumption
  intro c1 Oz Dz hJ
  obtain ⟨q1, q2, q3⟩ := hJ
  refine ⟨rfl, ?_, ?_⟩
  ·refine J4r code c1 Oz Dz ?_ ?_
   ·exact hb
   ·exact J5 (by assumption) (by omega)
  refine ⟨Oz, Dz, (J3Y code c1 Oz Dz), ?_⟩
  refine ⟨?_, rfl, rfl⟩
  ·trivial
theorem J59 (code : List Nat) (hb : ∀ x9 ∈ code, x9 < 256) : PE Tryz.prog 72 [.sl (.bytes code)] (J1b code) :=
  pe_wf @Tryz.call72 fun hw => pe_by (by kernel_rfl) Tryz.func72 @Tryz.call72 (by kernel_rfl) J5s (J5D code) (by kernel_rfl) (J5a code hb hw.1) (by kernel_rfl)
abbrev J3K (code : List Nat) (c1 : Cur) (Oz : ZI) (Dz : ZR) : Prop := (okC c1 8000000) ∧ (Oz.length ≤ 8) ∧ (Dz.length ≤ 8)
abbrev J4x (code : List Nat) (O : ZI) (Ds : ZR) (ii : Int) (jj : Int) : Prop := True
def J4A (code : List Nat) : Ex := ex4 0 (fun (O : ZI) (Ds : ZR) (ii : Int) (jj : Int) => J4x code O Ds ii jj) (fun (O : ZI) (Ds : ZR) (ii : Int) (jj : Int) => []) (fun (O : ZI) (Ds : ZR) (ii : Int) (jj : Int) => .tup [.d (.agg [.sl (.ints O), .sl (.rows Ds)]), .d (.int .i64 ii), .d (.int .i64 jj)])
def Jax (f : FuncId) (ds : List D) : Orc := bif Nat.beq f 154 then J7e ds else .no
def JaI (code : List Nat) : Ann := .two (.none) (.two (.none) (.cut (.exr (.ex [] 1 (J04 code J42) (fun g => (fun (Or2 : ZI) (Dr2 : ZR) (clr2 : Cur) => .ms [] []) (g.1) (g.2.1) (g.2.2)))) (cut3 (fun (c1 : Cur) (Oz : ZI) (Dz : ZR) => J3K code c1 Oz Dz) (fun (c1 : Cur) (Oz : ZI) (Dz : ZR) => [(2, .ptr 2 0), (5, .ptr 9 0), (6, .ptr 6 0)]) (fun (c1 : Cur) (Oz : ZI) (Dz : ZR) => [(2, .box 27 [.d true (.nil), .d true (.nil)]), (9, .box 76 [.d false (.sl (.bytes code)), .d true (.int .i64 c1.pos), .d true (.int .u64 c1.seed)]), (6, .box 27 [.d true (.sl (.ints Oz)), .d true (.sl (.rows Dz))])])) (fun g => (fun (c1 : Cur) (Oz : ZI) (Dz : ZR) => .two (.reg [(6, .cell [.int .i64 ((J1 code c1 ((Dz.length : Int) + 2)).pos), .int .u64 ((J1 code c1 ((Dz.length : Int) + 2)).seed)] (.one (.d (.int .i64 (J3 code c1 ((Dz.length : Int) + 2)))))), (13, .cell [.int .i64 ((J1 code (J1 code c1 ((Dz.length : Int) + 2)) (max 1 (Dz.length : Int))).pos), .int .u64 ((J1 code (J1 code c1 ((Dz.length : Int) + 2)) (max 1 (Dz.length : Int))).seed)] (.one (.d (.int .i64 (J3 code (J1 code c1 ((Dz.length : Int) + 2)) (max 1 (Dz.length : Int)))))))]) (.none)) (g.1) (g.2.1) (g.2.2))))
def J6B (code : List Nat) : Prop :=
  (((PKE Tryz.prog 133 76 (.sl (.bytes code)) [.int .i64 0, .int .u64 0] [] (J04 code J42)) ∧ (∀ Or2 : ZI, ∀ Dr2 : ZR, ∀ clr2 : Cur, J19 code J42 Or2 Dr2 clr2 → ((true = true) ∧ (∃ c1' : Cur, ∃ Oz' : ZI, ∃ Dz' : ZR, (J3K code c1' Oz' Dz') ∧ (code = code) ∧ (clr2.pos = c1'.pos) ∧ (clr2.seed = c1'.seed) ∧ (Or2 = Oz') ∧ (Dr2 = Dz'))))) ∧ (∀ c1 : Cur, ∀ Oz : ZI, ∀ Dz : ZR, (J3K code c1 Oz Dz) → (true = true) ∧ (I6 ((Dz.length : Int) + 2)) ∧ (PK Tryz.prog 156 76 (.sl (.bytes code)) [.int .i64 c1.pos, .int .u64 c1.seed] [.int .i64 ((J1 code c1 ((Dz.length : Int) + 2)).pos), .int .u64 ((J1 code c1 ((Dz.length : Int) + 2)).seed)] [.int .i64 ((Dz.length : Int) + 2)] (.one (.d (.int .i64 (J3 code c1 ((Dz.length : Int) + 2)))))) ∧ (I6 ((J3 code c1 ((Dz.length : Int) + 2)) - 1)) ∧ (PC Tryz.prog 154 [.int .i64 1, .int .i64 (Dz.length : Int)] (.one (.d (.int .i64 (max 1 (Dz.length : Int)))))) ∧ (PK Tryz.prog 156 76 (.sl (.bytes code)) [.int .i64 ((J1 code c1 ((Dz.length : Int) + 2)).pos), .int .u64 ((J1 code c1 ((Dz.length : Int) + 2)).seed)] [.int .i64 ((J1 code (J1 code c1 ((Dz.length : Int) + 2)) (max 1 (Dz.length : Int))).pos), .int .u64 ((J1 code (J1 code c1 ((Dz.length : Int) + 2)) (max 1 (Dz.length : Int))).seed)] [.int .i64 (max 1 (Dz.length : Int))] (.one (.d (.int .i64 (J3 code (J1 code c1 ((Dz.length : Int) + 2)) (max 1 (Dz.length : Int))))))) ∧ (∃ O' : ZI, ∃ Ds' : ZR, ∃ ii' : Int, ∃ jj' : Int, (J4x code O' Ds' ii' jj') ∧ ((.agg [.sl (.ints Oz), .sl (.rows Dz)] : D) = .agg [.sl (.ints O'), .sl (.rows Ds')]) ∧ (((J3 code c1 ((Dz.length : Int) + 2)) - 1) = ii') ∧ ((J3 code (J1 code c1 ((Dz.length : Int) + 2)) (max 1 (Dz.length : Int))) = jj'))))
theorem J9C (code : List Nat) (hb : ∀ x9 ∈ code, x9 < 256) (w_code : (code.length : Int) ≤ 9223372036854775807) : J6B code := by
  unfold J6B
  refine ⟨?_, ?_⟩
  ·refine ⟨?_, ?_⟩
   ·refine J2u code J42 ?_ ?_
    ·exact hb
    ·exact J5 J8E (by omega)
   ·intro Or2 Dr2 clr2 hQ9
    obtain ⟨f1r2, f2r2, f3r2⟩ := hQ9
    refine ⟨rfl, ?_⟩
    ·refine ⟨clr2, Or2, Dr2, ?_⟩
     refine ⟨?_, rfl, rfl, rfl, rfl, rfl⟩
     ·refine ⟨?_, ?_, ?_⟩
      ·exact J5 (by assumption) (by omega)
      ·assumption
      ·assumption
  intro c1 Oz Dz hJ
  obtain ⟨q1, q2, q3⟩ := hJ
  refine ⟨rfl, ?_, ?_, ?_, J86 1 (Dz.length : Int), ?_, ?_⟩
  ·omega
  ·refine Jk code c1 ((Dz.length : Int) + 2) ?_ ?_
   ·exact hb
   ·exact J5 (by assumption) (by omega)
  ·have v := Jt code c1 (n := (Dz.length : Int) + 2) (by omega)
   omega
  ·refine Jk code (J1 code c1 ((Dz.length : Int) + 2)) (max 1 (Dz.length : Int)) ?_ ?_
   ·exact hb
   ·exact J5 (Ja (by assumption)) (by omega)
  refine ⟨Oz, Dz, ((J3 code c1 ((Dz.length : Int) + 2)) - 1), (J3 code (J1 code c1 ((Dz.length : Int) + 2)) (max 1 (Dz.length : Int))), ?_⟩
  refine ⟨?_, rfl, rfl, rfl⟩
  ·trivial
theorem J9L (code : List Nat) (hb : ∀ x9 ∈ code, x9 < 256) : PE Tryz.prog 77 [.sl (.bytes code)] (J4A code) :=
  pe_wf @Tryz.call77 fun hw => pe_by (by kernel_rfl) Tryz.func77 @Tryz.call77 (by kernel_rfl) Jax (JaI code) (by kernel_rfl) (J9C code hb hw.1) (by kernel_rfl)
def stN (m : Nat) : Int := min (m : Int) 7
def stQ (m : Nat) : Int := 1 * 2 ^ (stN m).toNat
theorem Jek (m : Nat) : 1 ≤ stQ m ∧ stQ m ≤ 128 := by
  have h : ∀ k : Nat, k ≤ 7 → 1 ≤ (1 * 2 ^ k : Int) ∧ (1 * 2 ^ k : Int) ≤ 128 := by decide
  exact h _ (by unfold stN; omega)
def afQ (m : Nat) : Int := 1 * 2 ^ (stN m).toNat
theorem J7d (m : Nat) : 1 ≤ afQ m ∧ afQ m ≤ 128 := Jek m
abbrev J10 (code : List Nat) (c1 : Cur) (Oz : ZI) (Dz : ZR) : Prop := (okC c1 8000000) ∧ (Oz.length ≤ 8) ∧ (Dz.length ≤ 8)
abbrev J06 (code : List Nat) (c1 : Cur) (Oz : ZI) (Dz : ZR) (r0 : Int) (c2 : Cur) : Prop := (okC c2 8000100)
abbrev J0Y (code : List Nat) (c1 : Cur) (Oz : ZI) (Dz : ZR) (r0 : Int) (c2 : Cur) (gd : Bool) (c3 : Cur) : Prop := (gd = true → J0 Oz Dz = true) ∧ (okC c3 8000200)
abbrev JT (code : List Nat) (c1 : Cur) (Oz : ZI) (Dz : ZR) (r0 : Int) (c2 : Cur) (c4 : Cur) : Prop := (okC c4 8000200)
abbrev J0o (code : List Nat) (c1 : Cur) (Oz : ZI) (Dz : ZR) (r0 : Int) (c2 : Cur) (c4 : Cur) (l1 : ZI) (c5 : Cur) : Prop := (okC c5 8000300) ∧ (l1.length ≤ 8)
abbrev JZ (code : List Nat) (O : ZI) (Ds : ZR) (ll : ZI) (rr : Int) : Prop := True
def J1j (code : List Nat) : Ex := ex4 0 (fun (O : ZI) (Ds : ZR) (ll : ZI) (rr : Int) => JZ code O Ds ll rr) (fun (O : ZI) (Ds : ZR) (ll : ZI) (rr : Int) => []) (fun (O : ZI) (Ds : ZR) (ll : ZI) (rr : Int) => .tup [.d (.agg [.sl (.ints O), .sl (.rows Ds)]), .d (.sl (.ints ll)), .d (.int .i64 rr)])
def J5Y (f : FuncId) (ds : List D) : Orc := bif Nat.beq f 112 then J0K ds else bif Nat.beq f 106 then J78 ds else bif Nat.beq f 161 then J4u ds else .no
def J61 (code : List Nat) : Ann := .two (.none) (.two (.none) (.cut (.exr (.ex [] 1 (J04 code J42) (fun g => (fun (Or2 : ZI) (Dr2 : ZR) (clr2 : Cur) => .ms [] []) (g.1) (g.2.1) (g.2.2)))) (cut3 (fun (c1 : Cur) (Oz : ZI) (Dz : ZR) => J10 code c1 Oz Dz) (fun (c1 : Cur) (Oz : ZI) (Dz : ZR) => [(2, .ptr 2 0), (5, .ptr 12 0), (6, .ptr 6 0)]) (fun (c1 : Cur) (Oz : ZI) (Dz : ZR) => [(2, .box 27 [.d true (.nil), .d true (.nil)]), (12, .box 76 [.d false (.sl (.bytes code)), .d true (.int .i64 c1.pos), .d true (.int .u64 c1.seed)]), (6, .box 27 [.d true (.sl (.ints Oz)), .d true (.sl (.rows Dz))])])) (fun g => (fun (c1 : Cur) (Oz : ZI) (Dz : ZR) => .cut (.mark [] [(2, .cell [.int .i64 ((J0H code c1 Oz Dz).pos), .int .u64 ((J0H code c1 Oz Dz).seed)] (.one (.d (.int .i64 (J3Y code c1 Oz Dz)))))]) (cut2 (fun (r0 : Int) (c2 : Cur) => J06 code c1 Oz Dz r0 c2) (fun (r0 : Int) (c2 : Cur) => [(2, .ptr 2 0), (5, .ptr 12 0), (6, .ptr 6 0), (7, .d true (.int .i64 r0))]) (fun (r0 : Int) (c2 : Cur) => [(2, .box 27 [.d true (.nil), .d true (.nil)]), (12, .box 76 [.d false (.sl (.bytes code)), .d true (.int .i64 c2.pos), .d true (.int .u64 c2.seed)]), (6, .box 27 [.d true (.sl (.ints Oz)), .d true (.sl (.rows Dz))])])) (fun g => (fun (r0 : Int) (c2 : Cur) => .cut (.cut (.mark [] [(4, .cell [.int .i64 ((J1 code c2 2).pos), .int .u64 ((J1 code c2 2).seed)] (.one (.d (.bool (J3 code c2 2 == 0)))))]) (cut2 (fun (gd : Bool) (c3 : Cur) => J0Y code c1 Oz Dz r0 c2 gd c3) (fun (gd : Bool) (c3 : Cur) => [(2, .ptr 2 0), (5, .ptr 12 0), (6, .ptr 6 0), (7, .d true (.int .i64 r0)), (23, .d true (.bool gd))]) (fun (gd : Bool) (c3 : Cur) => [(2, .box 27 [.d true (.nil), .d true (.nil)]), (12, .box 76 [.d false (.sl (.bytes code)), .d true (.int .i64 c3.pos), .d true (.int .u64 c3.seed)]), (6, .box 27 [.d true (.sl (.ints Oz)), .d true (.sl (.rows Dz))])])) (fun _ => .none)) (cut1 (fun (c4 : Cur) => JT code c1 Oz Dz r0 c2 c4) (fun (c4 : Cur) => [(2, .ptr 2 0), (5, .ptr 12 0), (6, .ptr 6 0), (7, .d true (.int .i64 r0))]) (fun (c4 : Cur) => [(2, .box 27 [.d true (.nil), .d true (.nil)]), (12, .box 76 [.d false (.sl (.bytes code)), .d true (.int .i64 c4.pos), .d true (.int .u64 c4.seed)]), (6, .box 27 [.d true (.sl (.ints Oz)), .d true (.sl (.rows Dz))])])) (fun g => (fun (c4 : Cur) => .two (.none) (.cut (.mark [(5, .call none (.one (.own 3 (.ints (members (fun k => (J3 code c4 ((1 : Int) * 2 ^ ((min (Dz.length : Int) 7).toNat))).toNat.testBit k) (min (Dz.length : Int) 7).toNat)))))] [(4, .cell [.int .i64 ((J1 code c4 ((1 : Int) * 2 ^ ((min (Dz.length : Int) 7).toNat))).pos), .int .u64 ((J1 code c4 ((1 : Int) * 2 ^ ((min (Dz.length : Int) 7).toNat))).seed)] (.one (.d (.int .i64 (J3 code c4 ((1 : Int) * 2 ^ ((min (Dz.length : Int) 7).toNat)))))))]) (cut2 (fun (l1 : ZI) (c5 : Cur) => J0o code c1 Oz Dz r0 c2 c4 l1 c5) (fun (l1 : ZI) (c5 : Cur) => [(2, .ptr 2 0), (5, .ptr 12 0), (6, .ptr 6 0), (7, .d true (.int .i64 r0)), (9, .own 1600800 l1.length)]) (fun (l1 : ZI) (c5 : Cur) => [(1600800, .arr true 3 (.ints l1)), (2, .box 27 [.d true (.nil), .d true (.nil)]), (12, .box 76 [.d false (.sl (.bytes code)), .d true (.int .i64 c5.pos), .d true (.int .u64 c5.seed)]), (6, .box 27 [.d true (.sl (.ints Oz)), .d true (.sl (.rows Dz))])])) (fun g => (fun (l1 : ZI) (c5 : Cur) => .two (.two (.mark [] [(1, .cell [.int .i64 ((J1 code c5 16).pos), .int .u64 ((J1 code c5 16).seed)] (.one (.d (.bool (J3 code c5 16 == 0)))))]) (.two (.mark [] [(3, .cell [.int .i64 ((J1 code (J1 code c5 16) (([(-1), 0, 7]).length : Int)).pos), .int .u64 ((J1 code (J1 code c5 16) (([(-1), 0, 7]).length : Int)).seed)] (.one (.d (.int .i64 (([(-1), 0, 7]).getD (J3 code (J1 code c5 16) (([(-1), 0, 7]).length : Int)).toNat 0)))))]) (.none))) (.none)) (g.1) (g.2)))) g)) (g.1) (g.2))) (g.1) (g.2.1) (g.2.2))))
def J3g (code : List Nat) : Prop :=
  (((PKE Tryz.prog 133 76 (.sl (.bytes code)) [.int .i64 0, .int .u64 0] [] (J04 code J42)) ∧ (∀ Or2 : ZI, ∀ Dr2 : ZR, ∀ clr2 : Cur, J19 code J42 Or2 Dr2 clr2 → ((true = true) ∧ (∃ c1' : Cur, ∃ Oz' : ZI, ∃ Dz' : ZR, (J10 code c1' Oz' Dz') ∧ (code = code) ∧ (clr2.pos = c1'.pos) ∧ (clr2.seed = c1'.seed) ∧ (Or2 = Oz') ∧ (Dr2 = Dz'))))) ∧ (∀ c1 : Cur, ∀ Oz : ZI, ∀ Dz : ZR, (J10 code c1 Oz Dz) → (((PK Tryz.prog 147 76 (.sl (.bytes code)) [.int .i64 c1.pos, .int .u64 c1.seed] [.int .i64 ((J0H code c1 Oz Dz).pos), .int .u64 ((J0H code c1 Oz Dz).seed)] [.agg [.sl (.ints Oz), .sl (.rows Dz)]] (.one (.d (.int .i64 (J3Y code c1 Oz Dz))))) ∧ (∃ r0' : Int, ∃ c2' : Cur, (J06 code c1 Oz Dz r0' c2') ∧ ((J3Y code c1 Oz Dz) = r0') ∧ (code = code) ∧ ((J0H code c1 Oz Dz).pos = c2'.pos) ∧ ((J0H code c1 Oz Dz).seed = c2'.seed) ∧ (Oz = Oz) ∧ (Dz = Dz))) ∧ (∀ r0 : Int, ∀ c2 : Cur, (J06 code c1 Oz Dz r0 c2) → ((((PC Tryz.prog 112 [.agg [.sl (.ints Oz), .sl (.rows Dz)]] (.one (.d (.bool (J0 Oz Dz))))) ∧ ((J0 Oz Dz) = true → (J0 Oz Dz) = true) ∧ ((J0 Oz Dz) = true → PK Tryz.prog 124 76 (.sl (.bytes code)) [.int .i64 c2.pos, .int .u64 c2.seed] [.int .i64 ((J1 code c2 2).pos), .int .u64 ((J1 code c2 2).seed)] [.int .i64 2] (.one (.d (.bool (J3 code c2 2 == 0))))) ∧ (true = true) ∧ (((J0 Oz Dz) = true → (J0 Oz Dz) = true)) ∧ (((J0 Oz Dz) = false → true = true)) ∧ (∃ gd' : Bool, ∃ c3' : Cur, (J0Y code c1 Oz Dz r0 c2 gd' c3') ∧ (r0 = r0) ∧ ((cond (J0 Oz Dz) (J3 code c2 2 == 0) false) = gd') ∧ (code = code) ∧ ((cond (J0 Oz Dz) ((J1 code c2 2).pos) c2.pos) = c3'.pos) ∧ ((cond (J0 Oz Dz) ((J1 code c2 2).seed) c2.seed) = c3'.seed) ∧ (Oz = Oz) ∧ (Dz = Dz))) ∧ (∀ gd : Bool, ∀ c3 : Cur, (J0Y code c1 Oz Dz r0 c2 gd c3) → ((gd = true → (true = true) ∧ (PC Tryz.prog 106 [.agg [.sl (.ints Oz), .sl (.rows Dz)], .int .i64 r0] (.one (.d (.sl (.ints (J02 Oz.length Dz r0 (2 ^ Dz.length))))))) ∧ (∃ O' : ZI, ∃ Ds' : ZR, ∃ ll' : ZI, ∃ rr' : Int, (JZ code O' Ds' ll' rr') ∧ ((.agg [.sl (.ints Oz), .sl (.rows Dz)] : D) = .agg [.sl (.ints O'), .sl (.rows Ds')]) ∧ (((J02 Oz.length Dz r0 (2 ^ Dz.length)) : ZI) = ll') ∧ (r0 = rr'))) ∧ (gd = false → (∃ c4' : Cur, (JT code c1 Oz Dz r0 c2 c4') ∧ (r0 = r0) ∧ (code = code) ∧ (c3.pos = c4'.pos) ∧ (c3.seed = c4'.seed) ∧ (Oz = Oz) ∧ (Dz = Dz)))))) ∧ (∀ c4 : Cur, (JT code c1 Oz Dz r0 c2 c4) → (PC Tryz.prog 161 [.int .i64 (Dz.length : Int), .int .i64 7] (.one (.d (.int .i64 (min (Dz.length : Int) 7))))) ∧ ((((0 : Int) ≤ 1) ∧ ((0 : Int) ≤ (min (Dz.length : Int) 7)) ∧ ((0 : Int) ≤ ((1 : Int) * 2 ^ ((min (Dz.length : Int) 7).toNat)) ∧ (((1 : Int) * 2 ^ ((min (Dz.length : Int) 7).toNat)) : Int) ≤ 9223372036854775807) ∧ (PK Tryz.prog 156 76 (.sl (.bytes code)) [.int .i64 c4.pos, .int .u64 c4.seed] [.int .i64 ((J1 code c4 ((1 : Int) * 2 ^ ((min (Dz.length : Int) 7).toNat))).pos), .int .u64 ((J1 code c4 ((1 : Int) * 2 ^ ((min (Dz.length : Int) 7).toNat))).seed)] [.int .i64 ((1 : Int) * 2 ^ ((min (Dz.length : Int) 7).toNat))] (.one (.d (.int .i64 (J3 code c4 ((1 : Int) * 2 ^ ((min (Dz.length : Int) 7).toNat))))))) ∧ (PC Tryz.prog 142 [.int .i64 (min (Dz.length : Int) 7), .int .i64 (J3 code c4 ((1 : Int) * 2 ^ ((min (Dz.length : Int) 7).toNat)))] (.one (.own 3 (.ints (members (fun k => (J3 code c4 ((1 : Int) * 2 ^ ((min (Dz.length : Int) 7).toNat))).toNat.testBit k) (min (Dz.length : Int) 7).toNat))))) ∧ (∃ l1' : ZI, ∃ c5' : Cur, (J0o code c1 Oz Dz r0 c2 c4 l1' c5') ∧ (r0 = r0) ∧ ((members (fun k => (J3 code c4 ((1 : Int) * 2 ^ ((min (Dz.length : Int) 7).toNat))).toNat.testBit k) (min (Dz.length : Int) 7).toNat).length = l1'.length) ∧ (members (fun k => (J3 code c4 ((1 : Int) * 2 ^ ((min (Dz.length : Int) 7).toNat))).toNat.testBit k) (min (Dz.length : Int) 7).toNat = l1') ∧ (code = code) ∧ ((J1 code c4 ((1 : Int) * 2 ^ ((min (Dz.length : Int) 7).toNat))).pos = c5'.pos) ∧ ((J1 code c4 ((1 : Int) * 2 ^ ((min (Dz.length : Int) 7).toNat))).seed = c5'.seed) ∧ (Oz = Oz) ∧ (Dz = Dz))) ∧ (∀ l1 : ZI, ∀ c5 : Cur, (J0o code c1 Oz Dz r0 c2 c4 l1 c5) → (PK Tryz.prog 124 76 (.sl (.bytes code)) [.int .i64 c5.pos, .int .u64 c5.seed] [.int .i64 ((J1 code c5 16).pos), .int .u64 ((J1 code c5 16).seed)] [.int .i64 16] (.one (.d (.bool (J3 code c5 16 == 0))))) ∧ (((J3 code c5 16 == 0) = true → ((3 : Nat) = 3) ∧ (PK Tryz.prog 155 76 (.sl (.bytes code)) [.int .i64 ((J1 code c5 16).pos), .int .u64 ((J1 code c5 16).seed)] [.int .i64 ((J1 code (J1 code c5 16) (([(-1), 0, 7]).length : Int)).pos), .int .u64 ((J1 code (J1 code c5 16) (([(-1), 0, 7]).length : Int)).seed)] [.sl (.ints ([(-1), 0, 7]))] (.one (.d (.int .i64 (([(-1), 0, 7]).getD (J3 code (J1 code c5 16) (([(-1), 0, 7]).length : Int)).toNat 0))))) ∧ (l1.length = l1.length) ∧ ((1 : Nat) = 1) ∧ ((l1.length + 1) * 8 ≤ 140737488355328) ∧ (∃ O' : ZI, ∃ Ds' : ZR, ∃ ll' : ZI, ∃ rr' : Int, (JZ code O' Ds' ll' rr') ∧ ((.agg [.sl (.ints Oz), .sl (.rows Dz)] : D) = .agg [.sl (.ints O'), .sl (.rows Ds')]) ∧ ((l1.length + 1) = (l1 ++ [(([(-1), 0, 7]).getD (J3 code (J1 code c5 16) (([(-1), 0, 7]).length : Int)).toNat 0)]).length) ∧ (((l1 ++ [(([(-1), 0, 7]).getD (J3 code (J1 code c5 16) (([(-1), 0, 7]).length : Int)).toNat 0)]) : ZI) = ll') ∧ (r0 = rr'))) ∧ ((J3 code c5 16 == 0) = false → (∃ O' : ZI, ∃ Ds' : ZR, ∃ ll' : ZI, ∃ rr' : Int, (JZ code O' Ds' ll' rr') ∧ ((.agg [.sl (.ints Oz), .sl (.rows Dz)] : D) = .agg [.sl (.ints O'), .sl (.rows Ds')]) ∧ (l1.length = l1.length) ∧ ((l1 : ZI) = ll') ∧ (r0 = rr'))))))))))))
theorem J5x (code : List Nat) (hb : ∀ x9 ∈ code, x9 < 256) (w_code : (code.length : Int) ≤ 9223372036854775807) : J3g code := by
  unfold J3g
  refine ⟨?_, ?_⟩
  ·refine ⟨?_, ?_⟩
   ·refine J2u code J42 ?_ ?_
    ·exact hb
    ·exact J5 J8E (by omega)
   ·intro Or2 Dr2 clr2 hQ9
    obtain ⟨f1r2, f2r2, f3r2⟩ := hQ9
    refine ⟨rfl, ?_⟩
    ·refine ⟨clr2, Or2, Dr2, ?_⟩
     refine ⟨?_, rfl, rfl, rfl, rfl, rfl⟩
     ·refine ⟨?_, ?_, ?_⟩
      ·exact J5 (by assumption) (by omega)
      ·assumption
      ·assumption
  intro c1 Oz Dz hJ
  obtain ⟨q1, q2, q3⟩ := hJ
  refine ⟨?_, ?_⟩
  ·refine ⟨?_, ?_⟩
   ·refine J4r code c1 Oz Dz ?_ ?_
    ·exact hb
    ·exact J5 (by assumption) (by omega)
   ·refine ⟨(J3Y code c1 Oz Dz), (J0H code c1 Oz Dz), ?_⟩
    refine ⟨?_, rfl, rfl, rfl, rfl, rfl, rfl⟩
    ·unfold J06
     exact J5 (Jep (by assumption)) (by omega)
  intro r0 c2 hJ
  have q4 := hJ
  refine ⟨?_, ?_⟩
  ·refine ⟨?_, ?_⟩
   ·refine ⟨J1a Oz Dz, id, ?_, rfl, id, fun _ => rfl, ?_⟩
    ·intro hg
     refine J1l code c2 2 ?_ ?_
     ·exact hb
     exact J5 (by assumption) (by omega)
    ·refine ⟨(cond (J0 Oz Dz) (J3 code c2 2 == 0) false), (cond (J0 Oz Dz) (J1 code c2 2) c2), ?_⟩
     refine ⟨?_, rfl, rfl, rfl, J6T _ _ _, J6u _ _ _, rfl, rfl⟩
     ·refine ⟨?_, ?_⟩
      ·intro h; first | exact h | (revert h; cases J0 Oz Dz <;> simp)
      ·exact J5 (by repeat (first | assumption | apply J5P | apply Jeq | apply Ja | apply J0C)) (by omega)
   ·intro gd c3 hJ
    obtain ⟨g1, q5⟩ := hJ
    refine ⟨?_, ?_⟩
    ·intro b1
     refine ⟨rfl, ?_, ?_⟩
     ·refine J83 Oz Dz r0 ?_
      ·exact g1 (by assumption)
     refine ⟨Oz, Dz, (J02 Oz.length Dz r0 (2 ^ Dz.length)), r0, ?_⟩
     refine ⟨?_, rfl, rfl, rfl⟩
     ·trivial
    intro b2
    refine ⟨c3, ?_⟩
    refine ⟨?_, rfl, rfl, rfl, rfl, rfl, rfl⟩
    ·unfold JT
     exact J5 (by assumption) (by omega)
  intro c4 hJ
  have q6 := hJ
  refine ⟨J54 (Dz.length : Int) 7, ?_, ?_⟩
  ·refine ⟨?_, ?_, ?_, ?_, ?_, ?_⟩
   ·omega
   ·omega
   ·have q0 := J7d Dz.length
    have v := Jt code c4 (n := afQ Dz.length) (by omega)
    have hl := members_len_le (fun k => (J3 code c4 (afQ Dz.length)).toNat.testBit k) (stN Dz.length).toNat
    unfold afQ stN at q0 v hl
    omega
   ·refine Jk code c4 ((1 : Int) * 2 ^ ((min (Dz.length : Int) 7).toNat)) ?_ ?_
    ·exact hb
    ·exact J5 (by assumption) (by omega)
   ·refine J9e (min (Dz.length : Int) 7) (J3 code c4 ((1 : Int) * 2 ^ ((min (Dz.length : Int) 7).toNat))) ?_ ?_
    ·omega
    ·have q0 := J7d Dz.length
     have v := Jt code c4 (n := afQ Dz.length) (by omega)
     have hl := members_len_le (fun k => (J3 code c4 (afQ Dz.length)).toNat.testBit k) (stN Dz.length).toNat
     unfold afQ stN at q0 v hl
     omega
   ·refine ⟨(members (fun k => (J3 code c4 ((1 : Int) * 2 ^ ((min (Dz.length : Int) 7).toNat))).toNat.testBit k) (min (Dz.length : Int) 7).toNat), (J1 code c4 ((1 : Int) * 2 ^ ((min (Dz.length : Int) 7).toNat))), ?_⟩
    refine ⟨?_, rfl, rfl, ?_, rfl, rfl, rfl, rfl, rfl⟩
    ·refine ⟨?_, ?_⟩
     ·exact J5 (Ja (by assumption)) (by omega)
     ·have q0 := J7d Dz.length
      have v := Jt code c4 (n := afQ Dz.length) (by omega)
      have hl := members_len_le (fun k => (J3 code c4 (afQ Dz.length)).toNat.testBit k) (stN Dz.length).toNat
      unfold afQ stN at q0 v hl
      omega
    have q0 := J7d Dz.length
    have v := Jt code c4 (n := afQ Dz.length) (by omega)
    have hl := members_len_le (fun k => (J3 code c4 (afQ Dz.length)).toNat.testBit k) (stN Dz.length).toNat
    unfold afQ stN at q0 v hl
    rfl
  intro l1 c5 hJ
  obtain ⟨q7, q8⟩ := hJ
  refine ⟨?_, ?_, ?_⟩
  ·refine J1l code c5 16 ?_ ?_
   ·exact hb
   ·exact J5 (by assumption) (by omega)
  ·intro b3
   refine ⟨rfl, ?_, rfl, rfl, ?_, ?_⟩
   ·refine JV code (J1 code c5 16) ([(-1), 0, 7]) ?_ ?_ ?_
    ·exact hb
    ·exact J5 (Ja (by assumption)) (by omega)
    ·simp
   ·have q0 := J7d Dz.length
    have v := Jt code c4 (n := afQ Dz.length) (by omega)
    have hl := members_len_le (fun k => (J3 code c4 (afQ Dz.length)).toNat.testBit k) (stN Dz.length).toNat
    unfold afQ stN at q0 v hl
    omega
   refine ⟨Oz, Dz, (l1 ++ [(([(-1), 0, 7]).getD (J3 code (J1 code c5 16) (([(-1), 0, 7]).length : Int)).toNat 0)]), r0, ?_⟩
   refine ⟨?_, rfl, ?_, rfl, rfl⟩
   ·trivial
   (simp_all; done)
  intro b4
  refine ⟨Oz, Dz, l1, r0, ?_⟩
  refine ⟨?_, rfl, rfl, rfl, rfl⟩
  ·trivial
theorem J5r (code : List Nat) (hb : ∀ x9 ∈ code, x9 < 256) : PE Tryz.prog 67 [.sl (.bytes code)] (J1j code) :=
  pe_wf @Tryz.call67 fun hw => pe_by (by kernel_rfl) Tryz.func67 @Tryz.call67 (by kernel_rfl) J5Y (J61 code) (by kernel_rfl) (J5x code hb hw.1) (by kernel_rfl)
def J0D (code : List Nat) (n : Int) : List Nat := code.drop (min n (code.length : Int)).toNat ++ [(min n (code.length : Int)).toNat]
theorem Jco {code : List Nat} (h : ∀ x ∈ code, x < 256) {n : Int} (hn : 0 ≤ n ∧ n ≤ 8) : ∀ x ∈ J0D code n, x < 256 := fun x hx => by
  rcases List.mem_append.1 hx with hx | hx
  · exact h x (List.mem_of_mem_drop hx)
  rw [List.mem_singleton.1 hx]; omega
def Je4 (f : FuncId) (ds : List D) : Orc := .no
def Je6 (code : List Nat) (n : Int) : Ann := .none
def Jb6 (code : List Nat) (n : Int) : Prop :=
  (((decide (n > (code.length : Int))) = true → ((0 : Int) ≤ (code.length : Int)) ∧ (((code.length : Int) : Int) ≤ code.length) ∧ ((0 : Nat) = 0) ∧ (True) ∧ ((0 + ((code.take code.length).drop ((code.length : Int).toNat)).length) * 1 ≤ 140737488355328) ∧ (0 ≤ (code.length : Int) ∧ (code.length : Int) ≤ 255) ∧ ((0 : Int) ≤ (code.length : Int)) ∧ ((0 + ((code.take code.length).drop ((code.length : Int).toNat)).length) = ([] ++ ((code.take code.length).drop ((code.length : Int).toNat))).length) ∧ ((1 : Nat) = 1) ∧ ((([] ++ ((code.take code.length).drop ((code.length : Int).toNat))).length + 1) * 1 ≤ 140737488355328) ∧ ((((0 + ((code.take code.length).drop ((code.length : Int).toNat)).length) + 1) = (([] ++ ((code.take code.length).drop ((code.length : Int).toNat))) ++ [(code.length : Int).toNat]).length) ∧ (((([] ++ ((code.take code.length).drop ((code.length : Int).toNat))) ++ [(code.length : Int).toNat]) : List Nat) = J0D code n))) ∧ ((decide (n > (code.length : Int))) = false → ((0 : Int) ≤ n) ∧ ((n : Int) ≤ code.length) ∧ ((0 : Nat) = 0) ∧ (True) ∧ ((0 + ((code.take code.length).drop n.toNat).length) * 1 ≤ 140737488355328) ∧ (0 ≤ n ∧ n ≤ 255) ∧ ((0 : Int) ≤ n) ∧ ((0 + ((code.take code.length).drop n.toNat).length) = ([] ++ ((code.take code.length).drop n.toNat)).length) ∧ ((1 : Nat) = 1) ∧ ((([] ++ ((code.take code.length).drop n.toNat)).length + 1) * 1 ≤ 140737488355328) ∧ ((((0 + ((code.take code.length).drop n.toNat).length) + 1) = (([] ++ ((code.take code.length).drop n.toNat)) ++ [n.toNat]).length) ∧ (((([] ++ ((code.take code.length).drop n.toNat)) ++ [n.toNat]) : List Nat) = J0D code n))))
theorem JdB (code : List Nat) (n : Int) (hn : 0 ≤ n ∧ n ≤ 8) (hl : code.length ≤ 65536) (w_code : (code.length : Int) ≤ 9223372036854775807) : Jb6 code n := by
  unfold Jb6
  refine ⟨?_, ?_⟩
  ·intro b1
   try simp only [nrmT] at b1
   refine ⟨?_, ?_, rfl, trivial, ?_, ?_, ?_, ?_, rfl, ?_, ?_, ?_⟩
   ·first | omega | rfl | (intro hg; simp only [nrmT] at hg; omega) | (intro g1 g2; simp [g1, g2]; done) | (intro g1; simp at g1 ⊢; simp [g1]; done) | (simp only [nrmT] at *; omega) | (simp at * <;> omega) | (simp_all <;> omega) | (simp_all; done)
   ·first | omega | rfl | (intro hg; simp only [nrmT] at hg; omega) | (intro g1 g2; simp [g1, g2]; done) | (intro g1; simp at g1 ⊢; simp [g1]; done) | (simp only [nrmT] at *; omega) | (simp at * <;> omega) | (simp_all <;> omega) | (simp_all; done)
   ·first | omega | rfl | (intro hg; simp only [nrmT] at hg; omega) | (intro g1 g2; simp [g1, g2]; done) | (intro g1; simp at g1 ⊢; simp [g1]; done) | (simp only [nrmT] at *; omega) | (simp at * <;> omega) | (simp_all <;> omega) | (simp_all; done)
   ·first | omega | rfl | (intro hg; simp only [nrmT] at hg; omega) | (intro g1 g2; simp [g1, g2]; done) | (intro g1; simp at g1 ⊢; simp [g1]; done) | (simp only [nrmT] at *; omega) | (simp at * <;> omega) | (simp_all <;> omega) | (simp_all; done)
   ·first | omega | rfl | (intro hg; simp only [nrmT] at hg; omega) | (intro g1 g2; simp [g1, g2]; done) | (intro g1; simp at g1 ⊢; simp [g1]; done) | (simp only [nrmT] at *; omega) | (simp at * <;> omega) | (simp_all <;> omega) | (simp_all; done)
   ·first | omega | rfl | (intro hg; simp only [nrmT] at hg; omega) | (intro g1 g2; simp [g1, g2]; done) | (intro g1; simp at g1 ⊢; simp [g1]; done) | (simp only [nrmT] at *; omega) | (simp at * <;> omega) | (simp_all <;> omega) | (simp_all; done)
   ·first | omega | rfl | (intro hg; simp only [nrmT] at hg; omega) | (intro g1 g2; simp [g1, g2]; done) | (intro g1; simp at g1 ⊢; simp [g1]; done) | (simp only [nrmT] at *; omega) | (simp at * <;> omega) | (simp_all <;> omega) | (simp_all; done)
   ·first | omega | rfl | (intro hg; simp only [nrmT] at hg; omega) | (intro g1 g2; simp [g1, g2]; done) | (intro g1; simp at g1 ⊢; simp [g1]; done) | (simp only [nrmT] at *; omega) | (simp at * <;> omega) | (simp_all <;> omega) | (simp_all; done)
   unfold J0D
   first | rw [Int.min_eq_right (by omega)] | rw [Int.min_eq_left (by omega)]
   simp
  intro b2
  try simp only [nrmT] at b2
  refine ⟨?_, ?_, rfl, trivial, ?_, ?_, ?_, ?_, rfl, ?_, ?_, ?_⟩
  ·first | omega | rfl | (intro hg; simp only [nrmT] at hg; omega) | (intro g1 g2; simp [g1, g2]; done) | (intro g1; simp at g1 ⊢; simp [g1]; done) | (simp only [nrmT] at *; omega) | (simp at * <;> omega) | (simp_all <;> omega) | (simp_all; done)
  ·first | omega | rfl | (intro hg; simp only [nrmT] at hg; omega) | (intro g1 g2; simp [g1, g2]; done) | (intro g1; simp at g1 ⊢; simp [g1]; done) | (simp only [nrmT] at *; omega) | (simp at * <;> omega) | (simp_all <;> omega) | (simp_all; done)
  ·first | omega | rfl | (intro hg; simp only [nrmT] at hg; omega) | (intro g1 g2; simp [g1, g2]; done) | (intro g1; simp at g1 ⊢; simp [g1]; done) | (simp only [nrmT] at *; omega) | (simp at * <;> omega) | (simp_all <;> omega) | (simp_all; done)
  ·first | omega | rfl | (intro hg; simp only [nrmT] at hg; omega) | (intro g1 g2; simp [g1, g2]; done) | (intro g1; simp at g1 ⊢; simp [g1]; done) | (simp only [nrmT] at *; omega) | (simp at * <;> omega) | (simp_all <;> omega) | (simp_all; done)
  ·first | omega | rfl | (intro hg; simp only [nrmT] at hg; omega) | (intro g1 g2; simp [g1, g2]; done) | (intro g1; simp at g1 ⊢; simp [g1]; done) | (simp only [nrmT] at *; omega) | (simp at * <;> omega) | (simp_all <;> omega) | (simp_all; done)
  ·first | omega | rfl | (intro hg; simp only [nrmT] at hg; omega) | (intro g1 g2; simp [g1, g2]; done) | (intro g1; simp at g1 ⊢; simp [g1]; done) | (simp only [nrmT] at *; omega) | (simp at * <;> omega) | (simp_all <;> omega) | (simp_all; done)
  ·first | omega | rfl | (intro hg; simp only [nrmT] at hg; omega) | (intro g1 g2; simp [g1, g2]; done) | (intro g1; simp at g1 ⊢; simp [g1]; done) | (simp only [nrmT] at *; omega) | (simp at * <;> omega) | (simp_all <;> omega) | (simp_all; done)
  ·first | omega | rfl | (intro hg; simp only [nrmT] at hg; omega) | (intro g1 g2; simp [g1, g2]; done) | (intro g1; simp at g1 ⊢; simp [g1]; done) | (simp only [nrmT] at *; omega) | (simp at * <;> omega) | (simp_all <;> omega) | (simp_all; done)
  unfold J0D
  first | rw [Int.min_eq_right (by omega)] | rw [Int.min_eq_left (by omega)]
  simp
theorem Jao (code : List Nat) (n : Int) (hn : 0 ≤ n ∧ n ≤ 8) (hl : code.length ≤ 65536) : PC Tryz.prog 58 [.sl (.bytes code), .int .i64 n] (.one (.own 5 (.bytes (J0D code n)))) :=
  pc_wf @Tryz.call58 fun hw => pc_by (by kernel_rfl) Tryz.func58 @Tryz.call58 (by kernel_rfl) Je4 (Je6 code n) (by kernel_rfl) (JdB code n hn hl hw.1) (by kernel_rfl)
def Jda : List D → Orc := orcN [some .bytes, none] fun ds => match ds with
  | [.sl (.bytes code), .int .i64 n] => some (.one (.own 5 (.bytes (J0D code n))))
  | _ => none
theorem Jam (n : Nat) (D : ZR) (r : Int) : ∀ k, Asc (Jm n D r k)
  | 0 => List.Pairwise.nil
  | k + 1 => by
    have h1 := Jam n D r k
    have h2 := (J03 n D r k).2.2
    rw [J1q]
    unfold J6b
    split
    · exact List.pairwise_append.2 ⟨h1, List.pairwise_singleton _ _, fun a ha b hb => by rw [List.mem_singleton.1 hb]; exact (h2 a ha).2⟩
    exact h1
theorem Jb1 {n : Nat} {D : ZR} {r : Int} : ∀ k (j : Nat), j < k → ∃ c, c ∈ Jm n D r k ∧ ((j : Int) = c ∨ ∃ a : Nat, a < n ∧ dst D c a ≤ r ∧ dst D j a ≤ r)
  | k + 1, j, hj => by
    rw [J1q]
    unfold J6b
    by_cases e : j = k
    · subst e
      split
      · exact ⟨j, List.mem_append.2 (.inr List.mem_cons_self), .inl rfl⟩
      rename_i h
      rw [List.all_eq_true] at h
      apply Classical.byContradiction
      intro hno
      refine h fun c hc => ?_
      cases e2 : J05 n D (j : Int) c r with
      | true => rfl
      | false =>
        rw [J6n] at e2
        exact absurd ⟨c, hc, .inr (Jb5.1 e2)⟩ hno
    obtain ⟨c, h1, h2⟩ := Jb1 (n := n) (D := D) (r := r) k j (by omega)
    refine ⟨c, ?_, h2⟩
    split
    · exact List.mem_append.2 (.inl h1)
    exact h1
theorem JdU {U : ZI} {D : ZR} (hg : J0 U D = true) {i j : Int} (hi : 0 ≤ i ∧ i < (D.length : Int)) (hj : 0 ≤ j ∧ j < (D.length : Int)) : Je D i j = Je D j i := by
  unfold Je
  by_cases e : i = j
  · subst e; rfl
  rw [if_neg e, if_neg (fun h => e h.symm), (J8 hg (i := i.toNat) (by omega)).1, (J8 hg (i := j.toNat) (by omega)).1]
  have key : ∀ n, foldTo (J6a D i.toNat j.toNat) 199 n = foldTo (J6a D j.toNat i.toNat) 199 n := fun n => by
    induction n with
    | zero => rfl
    | succ n ih =>
      show min _ _ = min _ _
      rw [ih, Int.add_comm]
  exact key _
theorem J8h {U : ZI} {D : ZR} {r : Int} (hc : (J0 U D && decide (0 ≤ r)) = true) :
    (J0 U D && J2 (lfL U D r) 0 ((D.length : Int) - 1) && decide (0 ≤ r)) = true ∧ J6 U.length D (lfL U D r) r = true ∧ (∀ s, (J0 U D && J2 s 0 ((D.length : Int) - 1) && decide (0 ≤ r)) = true → J6 U.length D s r = true → s.length ≤ (lfL U D r).length) ∧
    (Js U D r = true → (lfL U D r).length ≤ (JH U D r).length) ∧ (J0 U D && J2 (Jc U D r) 0 ((D.length : Int) - 1) && decide (0 ≤ r)) = true ∧ J6 U.length D (Jc U D r) r = true := by
  have e1 : lfL U D r = J02 U.length D r (2 ^ D.length) := by unfold lfL; rw [if_pos hc]
  have e2 : Jc U D r = Jm U.length D r D.length := by unfold Jc; rw [if_pos hc]
  obtain ⟨hg, hr⟩ := (Bool.and_eq_true _ _ ▸ hc : _ ∧ _)
  have hr2 := of_decide_eq_true hr
  obtain ⟨f1, f2, f3, f4⟩ := JdX U.length D r
  obtain ⟨t1, t2, t3⟩ := J03 U.length D r D.length
  have t4 := Jam U.length D r D.length
  rw [e1, e2]
  generalize J02 U.length D r (2 ^ D.length) = F at f1 f2 f3 f4
  refine ⟨by rw [hg, hr, J4s f2 (fun x hx => by have := f3 x hx; omega)]; rfl, f1, fun s hs hf => ?_, fun hco => ?_, by rw [hg, hr, J4s t4 (fun x hx => by have := t3 x hx; omega)]; rfl, t1⟩
  · rw [Bool.and_eq_true, Bool.and_eq_true] at hs
    exact f4 s hs.1.2 hf
  obtain ⟨c1, c2, c3, c4⟩ := Jdx hco
  obtain ⟨_, hCr, hCp⟩ := J3b (J7B hg c3).1
  refine Je9 hCp hr2 c4 f3 fun p q hpq hq a ha h1 h2 => ?_
  have h3 := J8Y hCr a ha
  have hne : F.getD p 0 ≠ F.getD q 0 := fun e => by have := Jem f2 p q hpq hq; omega
  have h4 := (JdQ (Jdf f2)).1 f1 _ _ (getD_mem (d := 0) (show p < F.length by omega)) (getD_mem (d := 0) hq) hne
  rw [Jb5.2 ⟨a.toNat, by omega, by rw [Int.toNat_of_nonneg h3.1]; exact ⟨h1, h2⟩⟩] at h4
  cases h4
theorem Je1 {U : ZI} {D : ZR} {r : Int} (hc : (J0 U D && decide (0 ≤ r) && J4 D r) = true) :
    (J0 U D && J2 (tsL U D r) 0 ((U.length : Int) - 1) && decide (0 < (tsL U D r).length)) = true ∧ (JG U.length D = true → Jy D (tsL U D r) ≤ 3 * r) := by
  have e1 : tsL U D r = Jo D (Jm U.length D r D.length) := by unfold tsL; rw [if_pos hc]
  rw [Bool.and_eq_true, Bool.and_eq_true, decide_eq_true_eq] at hc
  obtain ⟨⟨hg, hr⟩, hn⟩ := hc
  obtain ⟨t1, t2, t3⟩ := J03 U.length D r D.length
  obtain ⟨s1, s2, s3, s4⟩ := Jaw hg t3
  rw [e1]
  refine ⟨by rw [hg, s1, decide_eq_true s2]; rfl, fun hm => (Jdl (by omega)).2 fun j hj => ?_⟩
  rw [Jc1 hg] at hn
  obtain ⟨c, hcT, hcj⟩ := Jb1 (n := U.length) (D := D) (r := r) D.length j hj
  have hcr := t3 c hcT
  obtain ⟨s, u1, u2, u3, u4⟩ := s4 c hcT
  obtain ⟨b, v1, v2⟩ := hn c.toNat (by omega)
  have hcs : dst D c s ≤ r := Int.le_trans (u4 b (by omega)) v2
  have hle : J2V D (Jo D (Jm U.length D r D.length)) j ≤ dst D j s := JdP u1 j
  rcases hcj with e | ⟨a, w1, w2, w3⟩
  · rw [e] at hle; omega
  have := Jei hm (i := (j : Int)) (j := c) (a := s) (b := (a : Int)) (by omega) hcr ⟨u2, u3⟩ (by omega)
  omega
theorem Je7 {U : ZI} {D : ZR} {i j : Int} (hc : (J0 U D && inB i 0 ((D.length : Int) - 1) && inB j 0 ((D.length : Int) - 1)) = true) :
    (J0 U D && inB j 0 ((D.length : Int) - 1) && inB i 0 ((D.length : Int) - 1)) = true ∧ Je D j i = Je D i j ∧ 0 ≤ Je D i j := by
  rw [Bool.and_eq_true, Bool.and_eq_true] at hc
  have h1 := J2E hc.1.2
  have h2 := J2E hc.2
  exact ⟨by rw [hc.1.1, hc.1.2, hc.2]; rfl, JdU hc.1.1 (by omega) (by omega), (JbU hc.1.1 (by omega) (by omega)).1⟩
abbrev l_FnFarClients_JR3 (code : List Nat) (ll : ZI) (rr : Int) (Oz : ZI) (Dz : ZR) : Prop := True
abbrev l_FnFarClients_JR8 (code : List Nat) (ll : ZI) (rr : Int) (Oz : ZI) (Dz : ZR) (ss : Int) (Og : ZI) (Dg : ZR) : Prop := True
abbrev l_FnFarClients_JR13 (code : List Nat) (ll : ZI) (rr : Int) (Oz : ZI) (Dz : ZR) (ss : Int) (Og : ZI) (Dg : ZR) (hi : Int) (hj : Int) (Oh : ZI) (Dh : ZR) : Prop := True
abbrev l_FnFarClients_JR1022 (code : List Nat) (ll : ZI) (rr : Int) (Oz : ZI) (Dz : ZR) (ss : Int) (Og : ZI) (Dg : ZR) (hi : Int) (hj : Int) (Oh : ZI) (Dh : ZR) : Prop := True
abbrev l_FnFarClients_JR1029 (code : List Nat) (ll : ZI) (rr : Int) (Oz : ZI) (Dz : ZR) (ss : Int) (Og : ZI) (Dg : ZR) (hi : Int) (hj : Int) (Oh : ZI) (Dh : ZR) : Prop := True
abbrev l_FnFarClients_JR1033 (code : List Nat) (ll : ZI) (rr : Int) (Oz : ZI) (Dz : ZR) (ss : Int) (Og : ZI) (Dg : ZR) (hi : Int) (hj : Int) (Oh : ZI) (Dh : ZR) : Prop := True
end Go.Proofs.YtomnmacmlhkceaaGreat
