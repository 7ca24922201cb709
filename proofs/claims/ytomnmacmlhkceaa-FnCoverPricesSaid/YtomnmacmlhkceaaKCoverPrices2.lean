/- Contracts of the functions that the law reaches. -/
import Derived.Test.YtomnmacmlhkceaaKCoverPrices1
import Derived.KernelRfl
set_option linter.unusedVariables false
set_option linter.unusedSimpArgs false
namespace Go.Proofs.Ytomnmacmlhkceaa
open Go

theorem cmp_Compare_int__pc (a : Int) (b : Int)  : PC Try.prog 235 [.int .i64 a, .int .i64 b] (.one (.d (.int .i64 (cmpI a b)))) :=
  pc_wf @Try.call235 fun _ => pc_by (by kernel_rfl) Try.func235 @Try.call235 (by kernel_rfl) cmp_Compare_int__C (cmp_Compare_int__A a b) (by kernel_rfl) (cmp_Compare_int__vc a b) (by kernel_rfl)
def cmp_Compare_int__orc : List D → Orc := orcN [none, none] fun ds => match ds with
  | [.int .i64 a, .int .i64 b] => some (.one (.d (.int .i64 (cmpI a b))))
  | _ => none
abbrev slices_Compare_int_int__JJ0 (xs : List Int) (ys : List Int) (i : Int) : Prop := (0 ≤ i) ∧ (i ≤ (xs.length : Int)) ∧ (i ≤ (ys.length : Int)) ∧ (cmpL xs ys = cmpL (xs.drop i.toNat) (ys.drop i.toNat))
abbrev slices_Compare_int_int__mJ0 (xs : List Int) (ys : List Int) (i : Int) : Nat := (xs.length - i).toNat
def slices_Compare_int_int__C (f : FuncId) (ds : List D) : Orc := bif Nat.beq f 235 then cmp_Compare_int__orc ds else .no
def slices_Compare_int_int__A (xs : List Int) (ys : List Int) : Ann := .two (.none) (.two (.two (.none) (.loop (cut1 (fun (i : Int) => slices_Compare_int_int__JJ0 xs ys i) (fun (i : Int) => [(0, .d false (.sl (.ints xs))), (1, .d false (.sl (.ints ys))), (9, .d false (.sl (.ints xs))), (10, .d true (.int .i64 (xs.length : Int))), (11, .d true (.int .i64 i))]) (fun (i : Int) => [])) (fun g => slices_Compare_int_int__mJ0 xs ys g) (fun _ => .none))) (.none))
def slices_Compare_int_int__P (xs : List Int) (ys : List Int) : Prop :=
  ((∃ i' : Int, (slices_Compare_int_int__JJ0 xs ys i') ∧ (xs = xs) ∧ (ys = ys) ∧ (xs = xs) ∧ ((xs.length : Int) = (xs.length : Int)) ∧ ((0 : Int) = i')) ∧ (∀ i : Int, (slices_Compare_int_int__JJ0 xs ys i) → (((decide (i < (xs.length : Int))) = true → ((0 : Int) ≤ i) ∧ ((i : Int) < xs.length) ∧ (i.toNat < xs.length) ∧ (((decide (i ≥ (ys.length : Int))) = true → (((1 : Int) = (cmpL xs ys)))) ∧ ((decide (i ≥ (ys.length : Int))) = false → ((0 : Int) ≤ i) ∧ ((i : Int) < ys.length) ∧ (i.toNat < ys.length) ∧ (PC Try.prog 235 [.int .i64 (xs.getD i.toNat 0), .int .i64 (ys.getD i.toNat 0)] (.one (.d (.int .i64 (cmpI (xs.getD i.toNat 0) (ys.getD i.toNat 0)))))) ∧ ((((cmpI (xs.getD i.toNat 0) (ys.getD i.toNat 0)) != 0) = true → (((cmpI (xs.getD i.toNat 0) (ys.getD i.toNat 0)) = (cmpL xs ys)))) ∧ (((cmpI (xs.getD i.toNat 0) (ys.getD i.toNat 0)) != 0) = false → (-9223372036854775808 ≤ (i + 1) ∧ (i + 1) ≤ 9223372036854775807) ∧ (∃ i' : Int, (slices_Compare_int_int__JJ0 xs ys i') ∧ (slices_Compare_int_int__mJ0 xs ys i' < slices_Compare_int_int__mJ0 xs ys i) ∧ (xs = xs) ∧ (ys = ys) ∧ (xs = xs) ∧ ((xs.length : Int) = (xs.length : Int)) ∧ ((i + 1) = i'))))))) ∧ ((decide (i < (xs.length : Int))) = false → (((decide ((xs.length : Int) < (ys.length : Int))) = true → ((((-1) : Int) = (cmpL xs ys)))) ∧ ((decide ((xs.length : Int) < (ys.length : Int))) = false → (((0 : Int) = (cmpL xs ys)))))))))
theorem slices_Compare_int_int__vc (xs : List Int) (ys : List Int)  (w_xs : (xs.length : Int) ≤ 9223372036854775807) (w_ys : (ys.length : Int) ≤ 9223372036854775807) : slices_Compare_int_int__P xs ys := by
  unfold slices_Compare_int_int__P
  refine ⟨?_, ?_⟩
  ·refine ⟨0, ?_⟩
   refine ⟨?_, rfl, rfl, rfl, rfl, rfl⟩
   ·refine ⟨?_, ?_, ?_, ?_⟩
    ·omega
    ·omega
    ·omega
    ·rfl
  ·intro i hJ
   obtain ⟨h1, h2, h2y, h3⟩ := hJ
   refine ⟨?_, ?_⟩
   ·intro b1
    try simp only [nrmT] at b1
    refine ⟨?_, ?_, ?_, ?_, ?_⟩
    ·omega
    ·omega
    ·omega
    ·intro b2
     try simp only [nrmT] at b2
     exact (cmpL_short h3 (by omega) (by omega)).symm
    ·intro b3
     try simp only [nrmT] at b3
     refine ⟨?_, ?_, ?_, cmp_Compare_int__pc (xs.getD i.toNat 0) (ys.getD i.toNat 0), ?_, ?_⟩
     ·omega
     ·omega
     ·omega
     ·intro b4
      try simp only [nrmT] at b4
      rw [cmpL_drop h3 (by omega) (by omega)]
      unfold cmpI at b4 ⊢
      by_cases h5 : xs.getD i.toNat 0 < ys.getD i.toNat 0
      · rw [if_pos h5, if_pos h5]
      · rw [if_neg h5] at b4 ⊢
        by_cases h6 : xs.getD i.toNat 0 > ys.getD i.toNat 0
        · rw [if_pos h6, if_neg h5, if_pos h6]
        · rw [if_neg h6] at b4; omega
     ·intro b5
      try simp only [nrmT] at b5
      refine ⟨?_, ?_⟩
      ·omega
      ·refine ⟨(i + 1), ?_⟩
       refine ⟨?_, ?_, rfl, rfl, rfl, rfl, rfl⟩
       ·refine ⟨?_, ?_, ?_, ?_⟩
        ·omega
        ·omega
        ·omega
        ·have h7 := cmpL_drop h3 (by omega) (by omega)
         unfold cmpI at b5
         rw [h7, show (i + 1).toNat = i.toNat + 1 by omega]
         by_cases h5 : xs.getD i.toNat 0 < ys.getD i.toNat 0
         · rw [if_pos h5] at b5; omega
         · rw [if_neg h5] at b5 ⊢
           by_cases h6 : xs.getD i.toNat 0 > ys.getD i.toNat 0
           · rw [if_pos h6] at b5; omega
           · rw [if_neg h6]
       ·first | (show _ < _; omega) | (simp only [slices_Compare_int_int__mJ0]; omega) | (simp only [slices_Compare_int_int__mJ0] at *; simp at *; omega)
   ·intro b6
    try simp only [nrmT] at b6
    refine ⟨?_, ?_⟩
    ·intro b7
     try simp only [nrmT] at b7
     rw [cmpL_end h3 (by omega) (by omega) (by omega), if_pos (by omega)]
    ·intro b8
     try simp only [nrmT] at b8
     rw [cmpL_end h3 (by omega) (by omega) (by omega), if_neg (by omega)]
theorem slices_Compare_int_int__pc (xs : List Int) (ys : List Int)  : PC Try.prog 236 [.sl (.ints xs), .sl (.ints ys)] (.one (.d (.int .i64 (cmpL xs ys)))) :=
  pc_wf @Try.call236 fun hw => pc_by (by kernel_rfl) Try.func236 @Try.call236 (by kernel_rfl) slices_Compare_int_int__C (slices_Compare_int_int__A xs ys) (by kernel_rfl) (slices_Compare_int_int__vc xs ys hw.1 hw.2.1) (by kernel_rfl)
def slices_Compare_int_int__orc : List D → Orc := orcN [some .ints, some .ints] fun ds => match ds with
  | [.sl (.ints xs), .sl (.ints ys)] => some (.one (.d (.int .i64 (cmpL xs ys))))
  | _ => none
def lst (n code : Nat) : List Int := members (fun k => code.testBit k) n
theorem one_shl (n : Nat) : (1 : Int) * 2 ^ ((n : Int)).toNat = ((2 ^ n : Nat) : Int) := by
  rw [Int.toNat_natCast]; simp
def cmpS (a b : List Int) : Int := if cmpI (a.length : Int) (b.length : Int) = 0 then cmpL a b else cmpI (a.length : Int) (b.length : Int)
theorem cmpL_self : ∀ x : List Int, cmpL x x = 0
  | [] => rfl
  | x :: r => by unfold cmpL; rw [if_neg (by omega), if_neg (by omega)]; exact cmpL_self r
theorem cmpL_zero : ∀ {x y : List Int}, cmpL x y = 0 → x = y
  | [], [], _ => rfl
  | [], _ :: _, h => by simp [cmpL] at h
  | _ :: _, [], h => by simp [cmpL] at h
  | x :: r, y :: s, h => by
    unfold cmpL at h
    by_cases h1 : x < y
    · rw [if_pos h1] at h; omega
    · rw [if_neg h1] at h
      by_cases h2 : x > y
      · rw [if_pos h2] at h; omega
      · rw [if_neg h2] at h
        have : x = y := by omega
        rw [this, cmpL_zero h]
theorem cmpL_flip : ∀ {x y : List Int}, cmpL x y < 0 ↔ 0 < cmpL y x
  | [], [] => by simp [cmpL]
  | [], _ :: _ => by simp [cmpL]
  | _ :: _, [] => by simp [cmpL]
  | x :: r, y :: s => by
    unfold cmpL
    by_cases h1 : x < y
    · rw [if_pos h1, if_neg (by omega), if_pos (by omega)]; omega
    · rw [if_neg h1]
      by_cases h2 : x > y
      · rw [if_pos h2, if_pos (by omega)]; omega
      · rw [if_neg h2, if_neg (by omega), if_neg (by omega)]; exact cmpL_flip
theorem cmpL_tr : ∀ {x y z : List Int}, cmpL x y < 0 → cmpL y z < 0 → cmpL x z < 0
  | [], _, [], h1, h2 => by
    exfalso
    rename_i y
    cases y with
    | nil => simp [cmpL] at h1
    | cons y s => simp [cmpL] at h2
  | [], _, _ :: _, _, _ => by simp [cmpL]
  | _ :: _, [], _, h, _ => by simp [cmpL] at h
  | _ :: _, _ :: _, [], _, h => by simp [cmpL] at h
  | x :: r, y :: s, z :: t, h1, h2 => by
    unfold cmpL at h1 h2 ⊢
    by_cases a1 : x < y
    · by_cases a2 : y < z
      · rw [if_pos (by omega)]; omega
      · rw [if_neg a2] at h2
        by_cases a3 : y > z
        · rw [if_pos a3] at h2; omega
        · rw [if_pos (by omega)]; omega
    · rw [if_neg a1] at h1
      by_cases a4 : x > y
      · rw [if_pos a4] at h1; omega
      · rw [if_neg a4] at h1
        by_cases a2 : y < z
        · rw [if_pos (by omega)]; omega
        · rw [if_neg a2] at h2
          by_cases a3 : y > z
          · rw [if_pos a3] at h2; omega
          · rw [if_neg a3] at h2
            rw [if_neg (by omega), if_neg (by omega)]
            exact cmpL_tr h1 h2
theorem cmpS_cases (a b : List Int) : (a.length < b.length ∧ cmpS a b < 0) ∨ (b.length < a.length ∧ 0 < cmpS a b) ∨ (a.length = b.length ∧ cmpS a b = cmpL a b) := by
  unfold cmpS cmpI
  by_cases h1 : (a.length : Int) < b.length
  · rw [if_pos h1]; left; exact ⟨by omega, by rw [if_neg (by omega)]; omega⟩
  · rw [if_neg h1]
    by_cases h2 : (a.length : Int) > b.length
    · rw [if_pos h2]; right; left; exact ⟨by omega, by rw [if_neg (by omega)]; omega⟩
    · rw [if_neg h2]; right; right; exact ⟨by omega, by rw [if_pos rfl]⟩
theorem cmpS_self (a : List Int) : cmpS a a = 0 := by
  rcases cmpS_cases a a with h | h | h
  · omega
  · omega
  · rw [h.2, cmpL_self]
theorem cmpS_zero {a b : List Int} (h : cmpS a b = 0) : a = b := by
  rcases cmpS_cases a b with h1 | h1 | h1
  · omega
  · omega
  · exact cmpL_zero (h1.2 ▸ h)
theorem cmpS_flip {a b : List Int} : cmpS a b < 0 ↔ 0 < cmpS b a := by
  rcases cmpS_cases a b with h1 | h1 | h1 <;> rcases cmpS_cases b a with h2 | h2 | h2
  · omega
  · omega
  · omega
  · omega
  · omega
  · omega
  · omega
  · omega
  · rw [h1.2, h2.2]; exact cmpL_flip
theorem cmpS_tr {a b c : List Int} (h : cmpS a b < 0) (k : cmpS b c < 0) : cmpS a c < 0 := by
  rcases cmpS_cases a b with h1 | h1 | h1 <;> rcases cmpS_cases b c with h2 | h2 | h2 <;> rcases cmpS_cases a c with h3 | h3 | h3
  all_goals first | omega | (rw [h3.2]; exact cmpL_tr (h1.2 ▸ h) (h2.2 ▸ k))
theorem swo_of {β : Type} {c : β → β → Int} (hs : ∀ x, c x x = 0) (h0 : ∀ {x y}, c x y = 0 → x = y) (hf : ∀ {x y}, c x y < 0 ↔ 0 < c y x) (ht : ∀ {x y z}, c x y < 0 → c y z < 0 → c x z < 0) :
    Go.Sort.SWO (ltOf c) ∧ ∀ x y, ltOf c x y = false → ltOf c y x = false → x = y := by
  refine ⟨⟨fun x => ?_, fun x y z h1 h2 => ?_, fun x y z h1 h2 => ?_⟩, fun x y h1 h2 => ?_⟩
  · exact decide_eq_false (by rw [hs]; omega)
  · exact decide_eq_true (ht (of_decide_eq_true h1) (of_decide_eq_true h2))
  · have h1 := of_decide_eq_false h1
    have h2 := of_decide_eq_false h2
    refine decide_eq_false fun h3 => ?_
    by_cases e1 : c x y = 0
    · rw [h0 e1] at h3; omega
    · by_cases e2 : c y z = 0
      · rw [← h0 e2] at h3; omega
      · have a1 : c y x < 0 := hf.2 (by omega)
        have a2 : c z y < 0 := hf.2 (by omega)
        have a3 := ht a2 a1
        have a4 := hf.1 h3
        omega
  · have h1 := of_decide_eq_false h1
    have h2 := of_decide_eq_false h2
    refine h0 ?_
    by_cases e1 : 0 < c x y
    · have := hf.2 e1; omega
    · omega
theorem swoS : Go.Sort.SWO (ltOf cmpS) := (swo_of cmpS_self cmpS_zero cmpS_flip cmpS_tr).1
theorem totS : ∀ x y, ltOf cmpS x y = false → ltOf cmpS y x = false → x = y := (swo_of cmpS_self cmpS_zero cmpS_flip cmpS_tr).2
def orI : List Int → Int
  | [] => 0
  | x :: r => if x = 0 then orI r else x
theorem orI_drop {xs : List Int} {i : Nat} (h : orI xs = orI (xs.drop i)) (hi : i < xs.length) : orI xs = if xs.getD i 0 = 0 then orI (xs.drop (i + 1)) else xs.getD i 0 := by
  rw [h, List.drop_eq_getElem_cons hi, getD_get hi]; rfl
theorem orI_end {xs : List Int} {i : Nat} (h : orI xs = orI (xs.drop i)) (hi : xs.length ≤ i) : orI xs = 0 := by
  rw [h, List.drop_eq_nil_of_le hi]; rfl
theorem orI_two (a b : Int) : orI [a, b] = if a = 0 then b else a := by
  unfold orI orI orI
  by_cases h : b = 0
  · rw [if_pos h, h]
  · rw [if_neg h]
def preS (n m : Nat) : List (List Int) := (List.range m).map fun c => lst n (c + 1)
def setsL (n : Nat) : List (List Int) := (preS n (2 ^ n - 1)).mergeSort fun x9 y9 => !(ltOf cmpS) y9 x9
theorem preS_len (n m : Nat) : (preS n m).length = m := by simp [preS]
theorem setsL_len (n : Nat) : (setsL n).length = 2 ^ n - 1 := by unfold setsL; rw [List.length_mergeSort, preS_len]
theorem preS_succ (n m : Nat) : preS n (m + 1) = preS n m ++ [lst n (m + 1)] := by simp [preS, List.range_succ]
theorem setsL_mem {n : Nat} {s : List Int} : s ∈ setsL n ↔ ∃ c, 1 ≤ c ∧ c < 2 ^ n ∧ lst n c = s := by
  unfold setsL
  rw [(List.mergeSort_perm _ _).mem_iff, preS, List.mem_map]
  constructor
  · rintro ⟨c, hc, rfl⟩
    have := List.mem_range.1 hc
    exact ⟨c + 1, by omega, by omega, rfl⟩
  · rintro ⟨c, h1, h2, rfl⟩
    exact ⟨c - 1, List.mem_range.2 (by omega), by rw [show c - 1 + 1 = c by omega]⟩
theorem list62 {n c : Nat} (hn : n ≤ 62) (h : c < 2 ^ n) : members (fun k => c.testBit k) 62 = lst n c :=
  members_stop (fun k hk => Nat.testBit_lt_two_pow (Nat.lt_of_lt_of_le h (Nat.pow_le_pow_right (by omega) hk))) 62 hn
theorem ins_sorted {out : List (List Int)} {s : List Int} {k : Nat} (ho : out.Pairwise fun x9 y9 => ltOf cmpS y9 x9 = false) (hk : k ≤ out.length) (h1 : ∀ j, k ≤ j → j < out.length → cmpS s (out.getD j []) < 0) (h2 : k = 0 ∨ ¬ cmpS s (out.getD (k - 1) []) < 0) :
    ((out.take k ++ [s]) ++ out.drop k).Pairwise fun x9 y9 => ltOf cmpS y9 x9 = false := by
  have hle : ∀ x ∈ out.take k, ltOf cmpS s x = false := by
    intro x hx
    obtain ⟨j, hj, rfl⟩ := List.mem_iff_getElem.1 hx
    have hj' : j < k ∧ j < out.length := by rw [List.length_take] at hj; omega
    rcases h2 with h2 | h2
    · omega
    · have hs : ltOf cmpS s (out.getD (k - 1) []) = false := decide_eq_false h2
      by_cases e : j = k - 1
      · subst e; rw [getD_get (by omega)] at hs; simpa using hs
      · have := List.pairwise_iff_getElem.1 ho j (k - 1) (by omega) (by omega) (by omega)
        rw [getD_get (by omega)] at hs
        simpa using swoS.ntrans _ _ _ hs this
  have hgt : ∀ y ∈ out.drop k, ltOf cmpS y s = false := by
    intro y hy
    obtain ⟨j, hj, rfl⟩ := List.mem_iff_getElem.1 hy
    have hj' : k + j < out.length := by rw [List.length_drop] at hj; omega
    have := h1 (k + j) (by omega) hj'
    rw [getD_get hj'] at this
    rw [List.getElem_drop]
    refine decide_eq_false fun h => ?_
    have := cmpS_flip.1 h
    omega
  refine List.pairwise_append.2 ⟨List.pairwise_append.2 ⟨ho.sublist (List.take_sublist _ _), by simp, fun a ha b hb => ?_⟩, ho.sublist (List.drop_sublist _ _), fun a ha b hb => ?_⟩
  · have : b = s := by simpa using hb
    subst this; exact hle a ha
  · rcases List.mem_append.1 ha with ha | ha
    · obtain ⟨i, hi, rfl⟩ := List.mem_iff_getElem.1 ha
      obtain ⟨j, hj, rfl⟩ := List.mem_iff_getElem.1 hb
      have hi' : i < k ∧ i < out.length := by rw [List.length_take] at hi; omega
      have hj' : k + j < out.length := by rw [List.length_drop] at hj; omega
      have := List.pairwise_iff_getElem.1 ho i (k + j) hi'.2 hj' (by omega)
      simpa using this
    · have : a = s := by simpa using ha
      subst this; exact hgt b hb
theorem ins_perm {out : List (List Int)} {s : List Int} {n m k : Nat} (hp : out.Perm (preS n m)) (hs : s = lst n (m + 1)) : ((out.take k ++ [s]) ++ out.drop k).Perm (preS n (m + 1)) := by
  rw [preS_succ, ← hs, List.append_assoc]
  refine List.Perm.trans (List.perm_append_comm_assoc _ _ _) ?_
  refine List.Perm.trans ?_ (List.perm_append_comm)
  rw [List.take_append_drop]
  exact hp.append_left [s]
theorem sets_done {out : List (List Int)} {n m : Nat} (hp : out.Perm (preS n m)) (hm : m = 2 ^ n - 1) (ho : out.Pairwise fun x9 y9 => ltOf cmpS y9 x9 = false) : out = setsL n := by
  subst hm
  exact sortedBy_unique swoS totS hp ho
abbrev cmp_Or_int__JJ0 (xs : List Int) (i : Int) : Prop := (0 ≤ i) ∧ (i ≤ (xs.length : Int)) ∧ (orI xs = orI (xs.drop i.toNat))
abbrev cmp_Or_int__mJ0 (xs : List Int) (i : Int) : Nat := (xs.length - i).toNat
def cmp_Or_int__C (f : FuncId) (ds : List D) : Orc := .no
def cmp_Or_int__A (xs : List Int) : Ann := .two (.none) (.two (.none) (.two (.two (.none) (.loop (cut1 (fun (i : Int) => cmp_Or_int__JJ0 xs i) (fun (i : Int) => [(3, .d true (.int .i64 0)), (6, .d false (.sl (.ints xs))), (7, .d true (.int .i64 (xs.length : Int))), (8, .d true (.int .i64 i))]) (fun (i : Int) => [])) (fun g => cmp_Or_int__mJ0 xs g) (fun _ => .none))) (.none)))
def cmp_Or_int__P (xs : List Int) : Prop :=
  ((∃ i' : Int, (cmp_Or_int__JJ0 xs i') ∧ ((0 : Int) = 0) ∧ (xs = xs) ∧ ((xs.length : Int) = (xs.length : Int)) ∧ ((0 : Int) = i')) ∧ (∀ i : Int, (cmp_Or_int__JJ0 xs i) → (((decide (i < (xs.length : Int))) = true → ((0 : Int) ≤ i) ∧ ((i : Int) < xs.length) ∧ (i.toNat < xs.length) ∧ ((((xs.getD i.toNat 0) != 0) = true → (((xs.getD i.toNat 0) = (orI xs)))) ∧ (((xs.getD i.toNat 0) != 0) = false → (-9223372036854775808 ≤ (i + 1) ∧ (i + 1) ≤ 9223372036854775807) ∧ (∃ i' : Int, (cmp_Or_int__JJ0 xs i') ∧ (cmp_Or_int__mJ0 xs i' < cmp_Or_int__mJ0 xs i) ∧ ((0 : Int) = 0) ∧ (xs = xs) ∧ ((xs.length : Int) = (xs.length : Int)) ∧ ((i + 1) = i'))))) ∧ ((decide (i < (xs.length : Int))) = false → (((0 : Int) = (orI xs)))))))
theorem cmp_Or_int__vc (xs : List Int)  (w_xs : (xs.length : Int) ≤ 9223372036854775807) : cmp_Or_int__P xs := by
  unfold cmp_Or_int__P
  refine ⟨?_, ?_⟩
  ·refine ⟨0, ?_⟩
   refine ⟨?_, rfl, rfl, rfl, rfl⟩
   ·refine ⟨?_, ?_, ?_⟩
    ·omega
    ·omega
    ·rfl
  ·intro i hJ
   obtain ⟨h1, h2, h3⟩ := hJ
   refine ⟨?_, ?_⟩
   ·intro b1
    try simp only [nrmT] at b1
    refine ⟨?_, ?_, ?_, ?_, ?_⟩
    ·omega
    ·omega
    ·omega
    ·intro b2
     try simp only [nrmT] at b2
     rw [orI_drop h3 (by omega), if_neg (by omega)]
    ·intro b3
     try simp only [nrmT] at b3
     refine ⟨?_, ?_⟩
     ·omega
     ·refine ⟨(i + 1), ?_⟩
      refine ⟨?_, ?_, rfl, rfl, rfl, rfl⟩
      ·refine ⟨?_, ?_, ?_⟩
       ·omega
       ·omega
       ·rw [orI_drop h3 (by omega), if_pos (by omega), show (i + 1).toNat = i.toNat + 1 by omega]
      ·first | (show _ < _; omega) | (simp only [cmp_Or_int__mJ0]; omega) | (simp only [cmp_Or_int__mJ0] at *; simp at *; omega)
   ·intro b4
    try simp only [nrmT] at b4
    exact (orI_end h3 (by omega)).symm
theorem cmp_Or_int__pc (xs : List Int)  : PC Try.prog 234 [.sl (.ints xs)] (.one (.d (.int .i64 (orI xs)))) :=
  pc_wf @Try.call234 fun hw => pc_by (by kernel_rfl) Try.func234 @Try.call234 (by kernel_rfl) cmp_Or_int__C (cmp_Or_int__A xs) (by kernel_rfl) (cmp_Or_int__vc xs hw.1) (by kernel_rfl)
def cmp_Or_int__orc : List D → Orc := orcN [some .ints] fun ds => match ds with
  | [.sl (.ints xs)] => some (.one (.d (.int .i64 (orI xs))))
  | _ => none
def i_compareSets_C (f : FuncId) (ds : List D) : Orc := bif Nat.beq f 235 then cmp_Compare_int__orc ds else bif Nat.beq f 236 then slices_Compare_int_int__orc ds else bif Nat.beq f 234 then cmp_Or_int__orc ds else .no
def i_compareSets_A (xs : List Int) (ys : List Int) : Ann := .none
def i_compareSets_P (xs : List Int) (ys : List Int) : Prop :=
  (PC Try.prog 235 [.int .i64 (xs.length : Int), .int .i64 (ys.length : Int)] (.one (.d (.int .i64 (cmpI (xs.length : Int) (ys.length : Int)))))) ∧ (PC Try.prog 236 [.sl (.ints xs), .sl (.ints ys)] (.one (.d (.int .i64 (cmpL xs ys))))) ∧ ((2 : Nat) = 2) ∧ (PC Try.prog 234 [.sl (.ints ([(cmpI (xs.length : Int) (ys.length : Int)), (cmpL xs ys)]))] (.one (.d (.int .i64 (orI ([(cmpI (xs.length : Int) (ys.length : Int)), (cmpL xs ys)])))))) ∧ (((orI ([(cmpI (xs.length : Int) (ys.length : Int)), (cmpL xs ys)])) = (cmpS xs ys)))
theorem i_compareSets_vc (xs : List Int) (ys : List Int)  (w_xs : (xs.length : Int) ≤ 9223372036854775807) (w_ys : (ys.length : Int) ≤ 9223372036854775807) : i_compareSets_P xs ys := by
  unfold i_compareSets_P
  refine ⟨cmp_Compare_int__pc (xs.length : Int) (ys.length : Int), slices_Compare_int_int__pc xs ys, rfl, cmp_Or_int__pc ([(cmpI (xs.length : Int) (ys.length : Int)), (cmpL xs ys)]), ?_⟩
  ·rw [orI_two]; rfl
theorem i_compareSets_pc (xs : List Int) (ys : List Int)  : PC Try.prog 208 [.sl (.ints xs), .sl (.ints ys)] (.one (.d (.int .i64 (cmpS xs ys)))) :=
  pc_wf @Try.call208 fun hw => pc_by (by kernel_rfl) Try.func208 @Try.call208 (by kernel_rfl) i_compareSets_C (i_compareSets_A xs ys) (by kernel_rfl) (i_compareSets_vc xs ys hw.1 hw.2.1) (by kernel_rfl)
abbrev s_l2Before_JJ0 (xs : List Int) (ys : List Int) (i : Int) : Prop := (0 ≤ i) ∧ (i ≤ (xs.length : Int)) ∧ (xs.length = ys.length) ∧ (cmpL xs ys = cmpL (xs.drop i.toNat) (ys.drop i.toNat))
abbrev s_l2Before_mJ0 (xs : List Int) (ys : List Int) (i : Int) : Nat := (xs.length - i).toNat
def s_l2Before_C (f : FuncId) (ds : List D) : Orc := .no
def s_l2Before_A (xs : List Int) (ys : List Int) : Ann := .two (.none) (.two (.none) (.two (.two (.none) (.loop (cut1 (fun (i : Int) => s_l2Before_JJ0 xs ys i) (fun (i : Int) => [(0, .d false (.sl (.ints xs))), (1, .d false (.sl (.ints ys))), (5, .d true (.int .i64 i))]) (fun (i : Int) => [])) (fun g => s_l2Before_mJ0 xs ys g) (fun _ => .none))) (.none)))
def s_l2Before_P (xs : List Int) (ys : List Int) : Prop :=
  ((((xs.length : Int) != (ys.length : Int)) = true → (((decide ((xs.length : Int) < (ys.length : Int))) = (decide (cmpS xs ys < 0))))) ∧ (((xs.length : Int) != (ys.length : Int)) = false → ((∃ i' : Int, (s_l2Before_JJ0 xs ys i') ∧ (xs = xs) ∧ (ys = ys) ∧ ((0 : Int) = i')) ∧ (∀ i : Int, (s_l2Before_JJ0 xs ys i) → (((decide (i < (xs.length : Int))) = true → (true = true) ∧ ((0 : Int) ≤ i) ∧ ((i : Int) < xs.length) ∧ (i.toNat < xs.length) ∧ ((0 : Int) ≤ i) ∧ ((i : Int) < ys.length) ∧ (i.toNat < ys.length) ∧ ((((xs.getD i.toNat 0) != (ys.getD i.toNat 0)) = true → (true = true) ∧ ((0 : Int) ≤ i) ∧ ((i : Int) < xs.length) ∧ (i.toNat < xs.length) ∧ ((0 : Int) ≤ i) ∧ ((i : Int) < ys.length) ∧ (i.toNat < ys.length) ∧ (((decide ((xs.getD i.toNat 0) < (ys.getD i.toNat 0))) = (decide (cmpS xs ys < 0))))) ∧ (((xs.getD i.toNat 0) != (ys.getD i.toNat 0)) = false → (-9223372036854775808 ≤ (i + 1) ∧ (i + 1) ≤ 9223372036854775807) ∧ (∃ i' : Int, (s_l2Before_JJ0 xs ys i') ∧ (s_l2Before_mJ0 xs ys i' < s_l2Before_mJ0 xs ys i) ∧ (xs = xs) ∧ (ys = ys) ∧ ((i + 1) = i'))))) ∧ ((decide (i < (xs.length : Int))) = false → ((false = (decide (cmpS xs ys < 0))))))))))
theorem s_l2Before_vc (xs : List Int) (ys : List Int)  (w_xs : (xs.length : Int) ≤ 9223372036854775807) (w_ys : (ys.length : Int) ≤ 9223372036854775807) : s_l2Before_P xs ys := by
  unfold s_l2Before_P
  refine ⟨?_, ?_⟩
  ·intro b1
   try simp only [nrmT] at b1
   rcases cmpS_cases xs ys with h | h | h
   · rw [decide_eq_true h.2, decide_eq_true (by omega)]
   · rw [decide_eq_false (by omega), decide_eq_false (by omega)]
   · omega
  ·intro b2
   try simp only [nrmT] at b2
   refine ⟨?_, ?_⟩
   ·refine ⟨0, ?_⟩
    refine ⟨?_, rfl, rfl, rfl⟩
    ·refine ⟨?_, ?_, ?_, ?_⟩
     ·omega
     ·omega
     ·omega
     ·rfl
   ·intro i hJ
    obtain ⟨h1, h2, hl, h3⟩ := hJ
    refine ⟨?_, ?_⟩
    ·intro b3
     try simp only [nrmT] at b3
     refine ⟨rfl, ?_, ?_, ?_, ?_, ?_, ?_, ?_, ?_⟩
     ·omega
     ·omega
     ·omega
     ·omega
     ·omega
     ·omega
     ·intro b4
      try simp only [nrmT] at b4
      refine ⟨rfl, ?_, ?_, ?_, ?_, ?_, ?_, ?_⟩
      ·omega
      ·omega
      ·omega
      ·omega
      ·omega
      ·omega
      ·have h5 : cmpS xs ys = cmpL xs ys := by rcases cmpS_cases xs ys with h | h | h <;> first | omega | exact h.2
       rw [h5, cmpL_drop h3 (by omega) (by omega)]
       by_cases h6 : xs.getD i.toNat 0 < ys.getD i.toNat 0
       · rw [if_pos h6, decide_eq_true h6]; rfl
       · rw [if_neg h6, if_pos (by omega), decide_eq_false h6]; rfl
     ·intro b5
      try simp only [nrmT] at b5
      refine ⟨?_, ?_⟩
      ·omega
      ·refine ⟨(i + 1), ?_⟩
       refine ⟨?_, ?_, rfl, rfl, rfl⟩
       ·refine ⟨?_, ?_, ?_, ?_⟩
        ·omega
        ·omega
        ·exact hl
        ·rw [cmpL_drop h3 (by omega) (by omega), show (i + 1).toNat = i.toNat + 1 by omega, if_neg (by omega), if_neg (by omega)]
       ·first | (show _ < _; omega) | (simp only [s_l2Before_mJ0]; omega) | (simp only [s_l2Before_mJ0] at *; simp at *; omega)
    ·intro b6
     try simp only [nrmT] at b6
     have h5 : cmpS xs ys = cmpL xs ys := by rcases cmpS_cases xs ys with h | h | h <;> first | omega | exact h.2
     rw [h5, cmpL_end h3 (by omega) (by omega) (by omega), if_neg (by omega)]; rfl
theorem s_l2Before_pc (xs : List Int) (ys : List Int)  : PC Try.prog 239 [.sl (.ints xs), .sl (.ints ys)] (.one (.d (.bool (decide (cmpS xs ys < 0))))) :=
  pc_wf @Try.call239 fun hw => pc_by (by kernel_rfl) Try.func239 @Try.call239 (by kernel_rfl) s_l2Before_C (s_l2Before_A xs ys) (by kernel_rfl) (s_l2Before_vc xs ys hw.1 hw.2.1) (by kernel_rfl)
def s_l2Before_orc : List D → Orc := orcN [some .ints, some .ints] fun ds => match ds with
  | [.sl (.ints xs), .sl (.ints ys)] => some (.one (.d (.bool (decide (cmpS xs ys < 0)))))
  | _ => none
theorem slices_SortFunc_int_int_rows_pu (xss : List (List Int)) (hz : xss.length < 4611686018427387904) : PU Try.prog 207 26 (.rows xss) (.rows (xss.mergeSort (fun x9 y9 => !(ltOf cmpS) y9 x9))) [.fn 208 0 []] false :=
  pu_sortFunc Try.laySortRows 26 xss (fun x => .sl (.ints x)) cmpS swoS totS 208 (fun x _ y _ => i_compareSets_pc x y) _ _ rfl rfl rfl (List.length_mergeSort _) (fun _ => rfl) (fun i x h => by simp [Mem.get, h]) (fun i x h => by simp [Mem.get, h]) hz @Try.call208
abbrev i_bag_list_d_JJ0 (b : Int) (out : List Int) (x : Int) : Prop := (0 ≤ x) ∧ (x ≤ 62) ∧ (out = members (fun k => b.toNat.testBit k) x.toNat)
abbrev i_bag_list_d_mJ0 (b : Int) (out : List Int) (x : Int) : Nat := (62 - x).toNat
def i_bag_list_d_C (f : FuncId) (ds : List D) : Orc := bif Nat.beq f 226 then i_bag_has_orc ds else .no
def i_bag_list_d_A (b : Int) : Ann := .two (.none) (.two (.none) (.two (.two (.none) (.loop (cut2 (fun (out : List Int) (x : Int) => i_bag_list_d_JJ0 b out x) (fun (out : List Int) (x : Int) => [(0, .d false (.int .u64 b)), (3, .own 1000000 out.length), (4, .d true (.int .i64 x))]) (fun (out : List Int) (x : Int) => [(1000000, .arr true 3 (.ints out))])) (fun g => i_bag_list_d_mJ0 b g.1 g.2) (fun _ => .none))) (.none)))
def i_bag_list_d_P (b : Int) : Prop :=
  ((∃ out' : List Int, ∃ x' : Int, (i_bag_list_d_JJ0 b out' x') ∧ (b = b) ∧ ((0 : Nat) = out'.length) ∧ ((0 : Int) = x') ∧ ([] = out')) ∧ (∀ out : List Int, ∀ x : Int, (i_bag_list_d_JJ0 b out x) → ((0 : Int) ≤ b ∧ (b : Int) ≤ 18446744073709551615) ∧ ((0 : Int) ≤ x) ∧ (((decide ((b / 2 ^ x.toNat) > 0)) = true → (PC Try.prog 226 [.int .u64 b, .int .i64 x] (.one (.d (.bool (b.toNat.testBit x.toNat))))) ∧ (((b.toNat.testBit x.toNat) = true → (out.length = out.length) ∧ ((1 : Nat) = 1) ∧ ((out.length + 1) * 8 ≤ 140737488355328) ∧ (-9223372036854775808 ≤ (x + 1) ∧ (x + 1) ≤ 9223372036854775807) ∧ (∃ out' : List Int, ∃ x' : Int, (i_bag_list_d_JJ0 b out' x') ∧ (i_bag_list_d_mJ0 b out' x' < i_bag_list_d_mJ0 b out x) ∧ (b = b) ∧ ((out.length + 1) = out'.length) ∧ ((x + 1) = x') ∧ ((out ++ [x]) = out'))) ∧ ((b.toNat.testBit x.toNat) = false → (-9223372036854775808 ≤ (x + 1) ∧ (x + 1) ≤ 9223372036854775807) ∧ (∃ out' : List Int, ∃ x' : Int, (i_bag_list_d_JJ0 b out' x') ∧ (i_bag_list_d_mJ0 b out' x' < i_bag_list_d_mJ0 b out x) ∧ (b = b) ∧ (out.length = out'.length) ∧ ((x + 1) = x') ∧ (out = out'))))) ∧ ((decide ((b / 2 ^ x.toNat) > 0)) = false → ((out.length = out.length) ∧ ((out : List Int) = (members (fun k => b.toNat.testBit k) 62)))))))
theorem i_bag_list_d_vc (b : Int) (hb : 0 ≤ b ∧ b ≤ 4611686018427387903)  : i_bag_list_d_P b := by
  unfold i_bag_list_d_P
  refine ⟨?_, ?_⟩
  ·refine ⟨([]), 0, ?_⟩
   refine ⟨?_, rfl, rfl, rfl, ?_⟩
   ·refine ⟨?_, ?_, ?_⟩
    ·omega
    ·omega
    ·rfl
   ·rfl
  ·intro out x hJ
   obtain ⟨h1, h2, h3⟩ := hJ
   refine ⟨?_, ?_, ?_, ?_⟩
   ·omega
   ·omega
   ·intro b1
    try simp only [nrmT] at b1
    refine ⟨?_, ?_, ?_⟩
    ·refine i_bag_has_pc b x ?_ ?_
     ·omega
     ·omega
    ·intro b2
     try simp only [nrmT] at b2
     refine ⟨rfl, rfl, ?_, ?_, ?_⟩
     ·rw [h3]; have := members_len_le (fun k => b.toNat.testBit k) x.toNat; omega
     ·omega
     ·refine ⟨(out ++ [x]), (x + 1), ?_⟩
      refine ⟨?_, ?_, rfl, ?_, rfl, rfl⟩
      ·refine ⟨?_, ?_, ?_⟩
       ·omega
       ·have := lt62 hb h2 b1; omega
       ·rw [h3, show (x + 1).toNat = x.toNat + 1 by omega, members_succ, b2]; simp; try omega
      ·have := lt62 hb h2 b1
       first | (show _ < _; omega) | (simp only [i_bag_list_d_mJ0]; omega) | (simp only [i_bag_list_d_mJ0] at *; simp at *; omega)
      ·(simp_all; done)
    ·intro b3
     try simp only [nrmT] at b3
     refine ⟨?_, ?_⟩
     ·omega
     ·refine ⟨out, (x + 1), ?_⟩
      refine ⟨?_, ?_, rfl, rfl, rfl, rfl⟩
      ·refine ⟨?_, ?_, ?_⟩
       ·omega
       ·have := lt62 hb h2 b1; omega
       ·rw [h3, show (x + 1).toNat = x.toNat + 1 by omega, members_succ, b3]; simp; try omega
      ·have := lt62 hb h2 b1
       first | (show _ < _; omega) | (simp only [i_bag_list_d_mJ0]; omega) | (simp only [i_bag_list_d_mJ0] at *; simp at *; omega)
   ·intro b4
    try simp only [nrmT] at b4
    refine ⟨rfl, ?_⟩
    ·rw [h3]; refine (members_stop (fun k hk => bit_out hb.1 (m := x.toNat) (by omega) k hk) 62 (by omega)).symm
theorem i_bag_list_d_pc (b : Int) (hb : 0 ≤ b ∧ b ≤ 4611686018427387903) : PC Try.prog 188 [.int .u64 b] (.one (.d (.sl (.ints (members (fun k => b.toNat.testBit k) 62))))) :=
  pc_wf @Try.call188 fun _ => pc_by (by kernel_rfl) Try.func188 @Try.call188 (by kernel_rfl) i_bag_list_d_C (i_bag_list_d_A b) (by kernel_rfl) (i_bag_list_d_vc b hb) (by kernel_rfl)
abbrev i_sets_JJ0 (n : Int) (out : List (List Int)) (b : Int) : Prop := (1 ≤ b) ∧ (b ≤ ((2 ^ n.toNat : Nat) : Int)) ∧ (out = preS n.toNat (b.toNat - 1))
abbrev i_sets_mJ0 (n : Int) (out : List (List Int)) (b : Int) : Nat := (((2 ^ n.toNat : Nat) : Int) - b).toNat
abbrev i_sets_JA0 (n : Int) (out2 : List (List Int)) : Prop := (out2 = preS n.toNat (2 ^ n.toNat - 1))
def i_sets_C (f : FuncId) (ds : List D) : Orc := .no
def i_sets_A (n : Int) : Ann := .two (.none) (.two (.none) (.cut (.two (.none) (.loop (cut2 (fun (out : List (List Int)) (b : Int) => i_sets_JJ0 n out b) (fun (out : List (List Int)) (b : Int) => [(0, .d false (.int .i64 n)), (3, .own 1000000 out.length), (4, .d true (.int .u64 b))]) (fun (out : List (List Int)) (b : Int) => [(1000000, .arr true 26 (.rows out))])) (fun g => i_sets_mJ0 n g.1 g.2) (fun g => (fun (out : List (List Int)) (b : Int) => .two (.none) (.two (.reg [(2, .call none (.one (.d (.sl (.ints (members (fun k => b.toNat.testBit k) 62))))))]) (.none))) (g.1) (g.2)))) (cut1 (fun (out2 : List (List Int)) => i_sets_JA0 n out2) (fun (out2 : List (List Int)) => [(3, .own 1000050 out2.length)]) (fun (out2 : List (List Int)) => [(1000050, .arr true 26 (.rows out2))])) (fun g => (fun (out2 : List (List Int)) => .two (.mark [] [(1, .up (.rows (out2.mergeSort (fun x9 y9 => !(ltOf cmpS) y9 x9))) false)]) (.none)) g)))
def i_sets_P (n : Int) : Prop :=
  ((((∃ out' : List (List Int), ∃ b' : Int, (i_sets_JJ0 n out' b') ∧ (n = n) ∧ ((0 : Nat) = out'.length) ∧ ((1 : Int) = b') ∧ ([] = out')) ∧ (∀ out : List (List Int), ∀ b : Int, (i_sets_JJ0 n out b) → ((0 : Int) ≤ 1) ∧ ((0 : Int) ≤ n) ∧ ((0 : Int) ≤ ((1 : Int) * 2 ^ n.toNat) ∧ (((1 : Int) * 2 ^ n.toNat) : Int) ≤ 18446744073709551615) ∧ (((decide (b < ((1 : Int) * 2 ^ n.toNat))) = true → (PC Try.prog 188 [.int .u64 b] (.one (.d (.sl (.ints (members (fun k => b.toNat.testBit k) 62)))))) ∧ (out.length = out.length) ∧ ((1 : Nat) = 1) ∧ ((out.length + 1) * 24 ≤ 140737488355328) ∧ (0 ≤ (b + 1) ∧ (b + 1) ≤ 18446744073709551615) ∧ (∃ out' : List (List Int), ∃ b' : Int, (i_sets_JJ0 n out' b') ∧ (i_sets_mJ0 n out' b' < i_sets_mJ0 n out b) ∧ (n = n) ∧ ((out.length + 1) = out'.length) ∧ ((b + 1) = b') ∧ ((out ++ [(members (fun k => b.toNat.testBit k) 62)]) = out'))) ∧ ((decide (b < ((1 : Int) * 2 ^ n.toNat))) = false → (∃ out2' : List (List Int), (i_sets_JA0 n out2') ∧ (out.length = out2'.length) ∧ (out = out2'))))))) ∧ (∀ out2 : List (List Int), (i_sets_JA0 n out2) → (out2.length = out2.length) ∧ (PU Try.prog 207 26 (.rows out2) (.rows (out2.mergeSort (fun x9 y9 => !(ltOf cmpS) y9 x9))) [.fn 208 0 []] false) ∧ ((out2.length = (out2.mergeSort (fun x9 y9 => !(ltOf cmpS) y9 x9)).length) ∧ (((out2.mergeSort (fun x9 y9 => !(ltOf cmpS) y9 x9)) : List (List Int)) = setsL n.toNat))))
theorem i_sets_vc (n : Int) (hn : 0 ≤ n ∧ n ≤ 8)  : i_sets_P n := by
  unfold i_sets_P
  have p7 := pow8 (n := n.toNat) (by omega)
  have pp := Nat.two_pow_pos n.toNat
  have e0 := one_shl n.toNat
  have e1 : ((2 : Int) ^ n.toNat) = ((2 ^ n.toNat : Nat) : Int) := by simp
  refine ⟨?_, ?_⟩
  ·refine ⟨?_, ?_⟩
   ·refine ⟨([]), 1, ?_⟩
    refine ⟨?_, rfl, rfl, rfl, ?_⟩
    ·refine ⟨?_, ?_, ?_⟩
     ·omega
     ·generalize 2 ^ n.toNat = M at *
      omega
     ·rfl
    ·rfl
   ·intro out b hJ
    obtain ⟨h1, h2, h3⟩ := hJ
    refine ⟨?_, ?_, ?_, ?_, ?_⟩
    ·omega
    ·omega
    ·rw [Int.one_mul, e1]
     generalize 2 ^ n.toNat = M at *
     omega
    ·intro b1
     try simp only [nrmT] at b1
     refine ⟨?_, rfl, rfl, ?_, ?_, ?_⟩
     ·refine i_bag_list_d_pc b ?_
      ·rw [Int.one_mul, e1] at b1
       generalize 2 ^ n.toNat = M at *
       omega
     ·rw [Int.one_mul, e1] at b1
      rw [h3, preS_len]
      generalize 2 ^ n.toNat = M at *
      omega
     ·rw [Int.one_mul, e1] at b1
      generalize 2 ^ n.toNat = M at *
      omega
     ·refine ⟨(out ++ [(members (fun k => b.toNat.testBit k) 62)]), (b + 1), ?_⟩
      refine ⟨?_, ?_, rfl, ?_, rfl, rfl⟩
      ·refine ⟨?_, ?_, ?_⟩
       ·omega
       ·rw [Int.one_mul, e1] at b1
        generalize 2 ^ n.toNat = M at *
        omega
       ·rw [Int.one_mul, e1] at b1
        have hb : b.toNat < 2 ^ n.toNat := by
          generalize 2 ^ n.toNat = M at *
          omega
        rw [h3, show (b + 1).toNat - 1 = (b.toNat - 1) + 1 by omega, preS_succ, show b.toNat - 1 + 1 = b.toNat by omega, list62 (n := n.toNat) (by omega) hb]
      ·rw [Int.one_mul, e1] at b1
       first | (show _ < _; omega) | (simp only [i_sets_mJ0]; omega) | (simp only [i_sets_mJ0] at *; simp at *; omega)
      ·first | omega | rfl | (intro hg; simp only [nrmT] at hg; omega) | (intro g1 g2; simp [g1, g2]; done) | (intro g1; simp at g1 ⊢; simp [g1]; done) | (simp only [nrmT] at *; omega) | (simp at * <;> omega) | (simp_all <;> omega) | (simp_all; done)
    ·intro b2
     try simp only [nrmT] at b2
     refine ⟨out, ?_⟩
     refine ⟨?_, rfl, rfl⟩
     ·unfold i_sets_JA0
      rw [Int.one_mul, e1] at b2
      have hm : b.toNat - 1 = 2 ^ n.toNat - 1 := by
        generalize 2 ^ n.toNat = M at *
        omega
      rw [h3, hm]
  ·intro out2 hJ
   have h8 := hJ
   refine ⟨rfl, ?_, ?_, ?_⟩
   ·refine slices_SortFunc_int_int_rows_pu out2 ?_
    ·rw [h8, preS_len]
     generalize 2 ^ n.toNat = M at *
     omega
   ·simp
   ·rw [h8]; rfl
theorem i_sets_pc (n : Int) (hn : 0 ≤ n ∧ n ≤ 8) : PC Try.prog 134 [.int .i64 n] (.one (.own 26 (.rows (setsL n.toNat)))) :=
  pc_wf @Try.call134 fun _ => pc_by (by kernel_rfl) Try.func134 @Try.call134 (by kernel_rfl) i_sets_C (i_sets_A n) (by kernel_rfl) (i_sets_vc n hn) (by kernel_rfl)
def i_sets_orc : List D → Orc := orcN [none] fun ds => match ds with
  | [.int .i64 n] => some (.one (.own 26 (.rows (setsL n.toNat))))
  | _ => none
abbrev s_l2Sets_JJ0 (n : Int) (out : List (List Int)) (code : Int) : Prop := (1 ≤ code) ∧ (code ≤ ((2 ^ n.toNat : Nat) : Int)) ∧ (out.Perm (preS n.toNat (code.toNat - 1))) ∧ (out.Pairwise (fun x9 y9 => ltOf cmpS y9 x9 = false))
abbrev s_l2Sets_mJ0 (n : Int) (out : List (List Int)) (code : Int) : Nat := (((2 ^ n.toNat : Nat) : Int) - code).toNat
abbrev s_l2Sets_JJ1 (n : Int) (out : List (List Int)) (code : Int) (k : Int) : Prop := (0 ≤ k) ∧ (k ≤ (out.length : Int)) ∧ (∀ j, k.toNat ≤ j → j < out.length → cmpS (lst n.toNat code.toNat) (out.getD j []) < 0)
abbrev s_l2Sets_mJ1 (n : Int) (out : List (List Int)) (code : Int) (k : Int) : Nat := k.toNat
def s_l2Sets_C (f : FuncId) (ds : List D) : Orc := bif Nat.beq f 164 then s_l2Bits_orc ds else bif Nat.beq f 239 then s_l2Before_orc ds else .no
def s_l2Sets_A (n : Int) : Ann := .two (.none) (.two (.reg [(0, .frz)]) (.two (.two (.none) (.loop (cut2 (fun (out : List (List Int)) (code : Int) => s_l2Sets_JJ0 n out code) (fun (out : List (List Int)) (code : Int) => [(0, .d false (.int .i64 n)), (3, .d true (.sl (.rows out))), (4, .d true (.int .i64 code))]) (fun (out : List (List Int)) (code : Int) => [])) (fun g => s_l2Sets_mJ0 n g.1 g.2) (fun g => (fun (out : List (List Int)) (code : Int) => .two (.none) (.two (.two (.none) (.two (.loop (cut1 (fun (k : Int) => s_l2Sets_JJ1 n out code k) (fun (k : Int) => [(0, .d false (.int .i64 n)), (3, .d true (.sl (.rows out))), (4, .d true (.int .i64 code)), (5, .d true (.sl (.ints (members (fun k => code.toNat.testBit k) n.toNat)))), (6, .d true (.int .i64 k))]) (fun (k : Int) => [])) (fun g => s_l2Sets_mJ1 n out code g) (fun _ => .none)) (.none))) (.none))) (g.1) (g.2)))) (.none)))
def s_l2Sets_P (n : Int) : Prop :=
  ((∃ out' : List (List Int), ∃ code' : Int, (s_l2Sets_JJ0 n out' code') ∧ (n = n) ∧ ([] = out') ∧ ((1 : Int) = code')) ∧ (∀ out : List (List Int), ∀ code : Int, (s_l2Sets_JJ0 n out code) → ((0 : Int) ≤ 1) ∧ ((0 : Int) ≤ n) ∧ ((0 : Int) ≤ ((1 : Int) * 2 ^ n.toNat) ∧ (((1 : Int) * 2 ^ n.toNat) : Int) ≤ 9223372036854775807) ∧ (((decide (code < ((1 : Int) * 2 ^ n.toNat))) = true → (PC Try.prog 164 [.int .i64 n, .int .i64 code] (.one (.d (.sl (.ints (members (fun k => code.toNat.testBit k) n.toNat)))))) ∧ ((∃ k' : Int, (s_l2Sets_JJ1 n out code k') ∧ (n = n) ∧ (out = out) ∧ (code = code) ∧ ((members (fun k => code.toNat.testBit k) n.toNat) = (members (fun k => code.toNat.testBit k) n.toNat)) ∧ ((out.length : Int) = k')) ∧ (∀ k : Int, (s_l2Sets_JJ1 n out code k) → ((decide (k > 0)) = true → (decide (k > 0)) = true) ∧ (((decide (k > 0)) = true → -9223372036854775808 ≤ (k - 1) ∧ (k - 1) ≤ 9223372036854775807)) ∧ ((decide (k > 0)) = true → (decide (k > 0)) = true) ∧ ((decide (k > 0)) = true → (decide (k > 0)) = true) ∧ (((decide (k > 0)) = true → (0 : Int) ≤ (k - 1))) ∧ (((decide (k > 0)) = true → ((k - 1) : Int) < out.length)) ∧ ((decide (k > 0)) = true → (decide (k > 0)) = true) ∧ (((decide (k > 0)) = true → (k - 1).toNat < out.length)) ∧ ((decide (k > 0)) = true → (decide (k > 0)) = true) ∧ ((decide (k > 0)) = true → (decide (k > 0)) = true) ∧ ((decide (k > 0)) = true → PC Try.prog 239 [.sl (.ints (members (fun k => code.toNat.testBit k) n.toNat)), .sl (.ints (out.getD ((k - 1).toNat) []))] (.one (.d (.bool (decide (cmpS (members (fun k => code.toNat.testBit k) n.toNat) (out.getD ((k - 1).toNat) []) < 0)))))) ∧ (true = true) ∧ (((decide (k > 0)) = true → (decide (k > 0)) = true)) ∧ (((decide (k > 0)) = false → true = true)) ∧ (((cond (decide (k > 0)) (decide (cmpS (members (fun k => code.toNat.testBit k) n.toNat) (out.getD ((k - 1).toNat) []) < 0)) false) = true → (-9223372036854775808 ≤ (k - 1) ∧ (k - 1) ≤ 9223372036854775807) ∧ (∃ k' : Int, (s_l2Sets_JJ1 n out code k') ∧ (s_l2Sets_mJ1 n out code k' < s_l2Sets_mJ1 n out code k) ∧ (n = n) ∧ (out = out) ∧ (code = code) ∧ ((members (fun k => code.toNat.testBit k) n.toNat) = (members (fun k => code.toNat.testBit k) n.toNat)) ∧ ((k - 1) = k'))) ∧ ((cond (decide (k > 0)) (decide (cmpS (members (fun k => code.toNat.testBit k) n.toNat) (out.getD ((k - 1).toNat) []) < 0)) false) = false → (true = true) ∧ ((0 : Int) ≤ k) ∧ ((k : Int) ≤ out.length) ∧ ((0 : Nat) = 0) ∧ (True) ∧ ((0 + ((out.take k.toNat).drop 0).length) * 24 ≤ 140737488355328) ∧ ((0 + ((out.take k.toNat).drop 0).length) = ([] ++ ((out.take k.toNat).drop 0)).length) ∧ ((1 : Nat) = 1) ∧ ((([] ++ ((out.take k.toNat).drop 0)).length + 1) * 24 ≤ 140737488355328) ∧ ((0 : Int) ≤ k) ∧ ((k : Int) ≤ out.length) ∧ (((0 + ((out.take k.toNat).drop 0).length) + 1) = (([] ++ ((out.take k.toNat).drop 0)) ++ [(members (fun k => code.toNat.testBit k) n.toNat)]).length) ∧ (True) ∧ (((([] ++ ((out.take k.toNat).drop 0)) ++ [(members (fun k => code.toNat.testBit k) n.toNat)]).length + ((out.take out.length).drop k.toNat).length) * 24 ≤ 140737488355328) ∧ (-9223372036854775808 ≤ (code + 1) ∧ (code + 1) ≤ 9223372036854775807) ∧ (∃ out' : List (List Int), ∃ code' : Int, (s_l2Sets_JJ0 n out' code') ∧ (s_l2Sets_mJ0 n out' code' < s_l2Sets_mJ0 n out code) ∧ (n = n) ∧ ((((0 + ((out.take k.toNat).drop 0).length) + 1) + ((out.take out.length).drop k.toNat).length) = ((([] ++ ((out.take k.toNat).drop 0)) ++ [(members (fun k => code.toNat.testBit k) n.toNat)]) ++ ((out.take out.length).drop k.toNat)).length) ∧ (((([] ++ ((out.take k.toNat).drop 0)) ++ [(members (fun k => code.toNat.testBit k) n.toNat)]) ++ ((out.take out.length).drop k.toNat)) = out') ∧ ((code + 1) = code'))))))) ∧ ((decide (code < ((1 : Int) * 2 ^ n.toNat))) = false → (((out : List (List Int)) = (setsL n.toNat)))))))
theorem s_l2Sets_vc (n : Int) (hn : 0 ≤ n ∧ n ≤ 8)  : s_l2Sets_P n := by
  unfold s_l2Sets_P
  have p7 := pow8 (n := n.toNat) (by omega)
  have pp := Nat.two_pow_pos n.toNat
  have e0 := one_shl n.toNat
  have e1 : ((2 : Int) ^ n.toNat) = ((2 ^ n.toNat : Nat) : Int) := by simp
  refine ⟨?_, ?_⟩
  ·refine ⟨([]), 1, ?_⟩
   refine ⟨?_, rfl, ?_, rfl⟩
   ·refine ⟨?_, ?_, ?_, ?_⟩
    ·omega
    ·generalize 2 ^ n.toNat = M at *
     omega
    ·exact List.Perm.refl _
    ·exact List.Pairwise.nil
   ·rfl
  ·intro out code hJ
   obtain ⟨h1, h2, h3, h4⟩ := hJ
   refine ⟨?_, ?_, ?_, ?_, ?_⟩
   ·omega
   ·omega
   ·rw [Int.one_mul, e1]
    generalize 2 ^ n.toNat = M at *
    omega
   ·intro b1
    try simp only [nrmT] at b1
    refine ⟨?_, ?_, ?_⟩
    ·refine s_l2Bits_pc n code ?_ ?_
     ·omega
     ·rw [Int.one_mul, e1] at b1
      generalize 2 ^ n.toNat = M at *
      omega
    ·refine ⟨(out.length : Int), ?_⟩
     refine ⟨?_, rfl, rfl, rfl, rfl, rfl⟩
     ·refine ⟨?_, ?_, ?_⟩
      ·omega
      ·omega
      ·intro j h8 h9; omega
    ·intro k hJ
     obtain ⟨h5, h6, h7⟩ := hJ
     refine ⟨id, ?_, id, id, ?_, ?_, id, ?_, id, id, fun _ => s_l2Before_pc (members (fun k => code.toNat.testBit k) n.toNat) (out.getD ((k - 1).toNat) []), rfl, id, fun _ => rfl, ?_, ?_⟩
     ·have ol := h3.length_eq
      rw [preS_len] at ol
      rw [Int.one_mul, e1] at b1
      intro hg2
      have := of_decide_eq_true hg2
      generalize 2 ^ n.toNat = M at *
      omega
     ·(intro hg; simp only [nrmT] at hg; omega)
     ·omega
     ·(intro hg; simp only [nrmT] at hg; omega)
     ·intro b2
      refine ⟨?_, ?_⟩
      ·have ol := h3.length_eq
       rw [preS_len] at ol
       rw [Int.one_mul, e1] at b1
       have hk : 0 < k := by
         revert b2
         by_cases h : k > 0
         · intro _; exact h
         · rw [decide_eq_false h]; intro g; cases g
       generalize 2 ^ n.toNat = M at *
       omega
      ·refine ⟨(k - 1), ?_⟩
       refine ⟨?_, ?_, rfl, rfl, rfl, rfl, rfl⟩
       ·refine ⟨?_, ?_, ?_⟩
        ·have ol := h3.length_eq
         rw [preS_len] at ol
         rw [Int.one_mul, e1] at b1
         have hk : 0 < k := by
           revert b2
           by_cases h : k > 0
           · intro _; exact h
           · rw [decide_eq_false h]; intro g; cases g
         generalize 2 ^ n.toNat = M at *
         omega
        ·have ol := h3.length_eq
         rw [preS_len] at ol
         rw [Int.one_mul, e1] at b1
         have hk : 0 < k := by
           revert b2
           by_cases h : k > 0
           · intro _; exact h
           · rw [decide_eq_false h]; intro g; cases g
         generalize 2 ^ n.toNat = M at *
         omega
        ·intro j h8 h9
         have hk : 0 < k ∧ cmpS (lst n.toNat code.toNat) (out.getD (k - 1).toNat []) < 0 := by
           revert b2
           by_cases h : k > 0
           · rw [decide_eq_true h]; intro g; exact ⟨h, of_decide_eq_true g⟩
           · rw [decide_eq_false h]; intro g; cases g
         by_cases e : j = (k - 1).toNat
         · rw [e]; exact hk.2
         · exact h7 j (by omega) h9
       ·have hk : 0 < k := by
          revert b2
          by_cases h : k > 0
          · intro _; exact h
          · rw [decide_eq_false h]; intro g; cases g
        first | (show _ < _; omega) | (simp only [s_l2Sets_mJ1]; omega) | (simp only [s_l2Sets_mJ1] at *; simp at *; omega)
     ·intro b3
      refine ⟨rfl, ?_, ?_, rfl, trivial, ?_, ?_, rfl, ?_, ?_, ?_, ?_, trivial, ?_, ?_, ?_⟩
      ·omega
      ·omega
      ·have ol := h3.length_eq
       rw [preS_len] at ol
       rw [Int.one_mul, e1] at b1
       simp only [List.length_append, List.length_drop, List.length_take, List.length_cons, List.length_nil]
       generalize 2 ^ n.toNat = M at *
       omega
      ·simp only [List.length_append, List.length_cons, List.length_nil] <;> omega
      ·have ol := h3.length_eq
       rw [preS_len] at ol
       rw [Int.one_mul, e1] at b1
       simp only [List.length_append, List.length_drop, List.length_take, List.length_cons, List.length_nil]
       generalize 2 ^ n.toNat = M at *
       omega
      ·omega
      ·omega
      ·first | omega | rfl | (intro hg; simp only [nrmT] at hg; omega) | (intro g1 g2; simp [g1, g2]; done) | (intro g1; simp at g1 ⊢; simp [g1]; done) | (simp only [nrmT] at *; omega) | (simp at * <;> omega) | (simp_all <;> omega) | (simp_all; done)
      ·have ol := h3.length_eq
       rw [preS_len] at ol
       rw [Int.one_mul, e1] at b1
       simp only [List.length_append, List.length_drop, List.length_take, List.length_cons, List.length_nil]
       generalize 2 ^ n.toNat = M at *
       omega
      ·rw [Int.one_mul, e1] at b1
       generalize 2 ^ n.toNat = M at *
       omega
      ·refine ⟨((([] ++ ((out.take k.toNat).drop 0)) ++ [(members (fun k => code.toNat.testBit k) n.toNat)]) ++ ((out.take out.length).drop k.toNat)), (code + 1), ?_⟩
       refine ⟨?_, ?_, rfl, ?_, rfl, rfl⟩
       ·refine ⟨?_, ?_, ?_, ?_⟩
        ·omega
        ·rw [Int.one_mul, e1] at b1
         generalize 2 ^ n.toNat = M at *
         omega
        ·have hq : (((([] : List (List Int)) ++ ((out.take k.toNat).drop 0)) ++ [(members (fun k => code.toNat.testBit k) n.toNat)]) ++ ((out.take out.length).drop k.toNat)) = (out.take k.toNat ++ [lst n.toNat code.toNat]) ++ out.drop k.toNat := by
           rw [List.nil_append, List.drop_zero, List.take_length]; rfl
         rw [hq, show (code + 1).toNat - 1 = (code.toNat - 1) + 1 by omega]
         exact ins_perm h3 (by rw [show code.toNat - 1 + 1 = code.toNat by omega])
        ·have hq : (((([] : List (List Int)) ++ ((out.take k.toNat).drop 0)) ++ [(members (fun k => code.toNat.testBit k) n.toNat)]) ++ ((out.take out.length).drop k.toNat)) = (out.take k.toNat ++ [lst n.toNat code.toNat]) ++ out.drop k.toNat := by
           rw [List.nil_append, List.drop_zero, List.take_length]; rfl
         rw [hq]
         refine ins_sorted h4 (by omega) h7 ?_
         by_cases e : k.toNat = 0
         · exact .inl e
         · refine .inr fun h => ?_
           rw [decide_eq_true (show k > 0 by omega), decide_eq_true (by rw [show (k - 1).toNat = k.toNat - 1 by omega]; exact h)] at b3
           cases b3
       ·rw [Int.one_mul, e1] at b1
        first | (show _ < _; omega) | (simp only [s_l2Sets_mJ0]; omega) | (simp only [s_l2Sets_mJ0] at *; simp at *; omega)
       ·simp only [List.length_append, List.length_cons, List.length_nil] <;> omega
   ·intro b4
    try simp only [nrmT] at b4
    rw [Int.one_mul, e1] at b4
    exact sets_done h3 (by
      generalize 2 ^ n.toNat = M at *
      omega) h4
theorem s_l2Sets_pc (n : Int) (hn : 0 ≤ n ∧ n ≤ 8) : PC Try.prog 214 [.int .i64 n] (.one (.d (.sl (.rows (setsL n.toNat))))) :=
  pc_wf @Try.call214 fun _ => pc_by (by kernel_rfl) Try.func214 @Try.call214 (by kernel_rfl) s_l2Sets_C (s_l2Sets_A n) (by kernel_rfl) (s_l2Sets_vc n hn) (by kernel_rfl)
def s_l2Sets_orc : List D → Orc := orcN [none] fun ds => match ds with
  | [.int .i64 n] => some (.one (.d (.sl (.rows (setsL n.toNat)))))
  | _ => none
def lsB (v : List Int → Int) (b s : List Int) : List Int := if v s < v b then s else b
def leastL (v : List Int → Int) (l : List (List Int)) : List Int := l.foldl (lsB v) (l.getD 0 [])
theorem lsB_self (v : List Int → Int) (b : List Int) : lsB v b b = b := by unfold lsB; split <;> rfl
theorem fold_snoc {α β : Type} {f : β → α → β} {b : β} {l : List α} {i : Int} {d : α} (h0 : 0 ≤ i) (h : i < (l.length : Int)) : (l.take (i + 1).toNat).foldl f b = f ((l.take i.toNat).foldl f b) (l.getD i.toNat d) := by
  rw [take_step (d := d) h0 h, List.foldl_append]
  rfl
theorem leastL_mem {v : List Int → Int} {l : List (List Int)} (h : 0 < l.length) : leastL v l ∈ l := by
  have key : ∀ (r : List (List Int)) (b : List Int), b ∈ l → (∀ x ∈ r, x ∈ l) → r.foldl (lsB v) b ∈ l := by
    intro r
    induction r with
    | nil => intro b hb _; exact hb
    | cons x r ih =>
      intro b hb hr
      refine ih _ ?_ fun y hy => hr y (List.mem_cons_of_mem _ hy)
      unfold lsB
      split
      · exact hr x List.mem_cons_self
      · exact hb
  exact key l _ (getD_mem h) fun x hx => hx
theorem filter_pos {p : List Int → Bool} {l : List (List Int)} (h : ∃ s ∈ l, p s = true) : 0 < (l.filter p).length := by
  obtain ⟨s, h1, h2⟩ := h
  exact List.length_pos_of_mem (List.mem_filter.2 ⟨h1, h2⟩)
theorem filter_step {l : List (List Int)} {p : List Int → Bool} {i : Int} (h0 : 0 ≤ i) (h : i < (l.length : Int)) : (l.take (i + 1).toNat).filter p = if p (l.getD i.toNat []) = true then (l.take i.toNat).filter p ++ [l.getD i.toNat []] else (l.take i.toNat).filter p := by
  rw [take_step (d := []) h0 h, List.filter_append]
  by_cases e : p (l.getD i.toNat []) = true
  · rw [if_pos e, List.filter_cons, if_pos e]; rfl
  · rw [if_neg e, List.filter_cons, if_neg e]; simp
def chs (n : Nat) : List (List Int) := [[]] ++ setsL n
theorem chs_len (n : Nat) : (chs n).length = 2 ^ n := by
  unfold chs
  rw [List.length_append, setsL_len]
  have := Nat.two_pow_pos n
  simp only [List.length_cons, List.length_nil]
  omega
theorem chs_small {n : Nat} (h : n ≤ 8) : (chs n).length ≤ 256 := by rw [chs_len]; exact pow8 h
theorem chs_mem {n : Nat} {s : List Int} : s ∈ chs n ↔ ∃ c, c < 2 ^ n ∧ lst n c = s := by
  unfold chs
  rw [List.mem_append, setsL_mem]
  have h0 : lst n 0 = [] := by
    cases e : lst n 0 with
    | nil => rfl
    | cons x r =>
      have hm : x ∈ lst n 0 := by rw [e]; exact List.mem_cons_self
      have := (mem_members.1 hm).2.2
      rw [Nat.zero_testBit] at this
      cases this
  constructor
  · rintro (h | ⟨c, h1, h2, h3⟩)
    · exact ⟨0, Nat.two_pow_pos n, by rw [List.mem_singleton.1 h, h0]⟩
    · exact ⟨c, h2, h3⟩
  · rintro ⟨c, h1, h2⟩
    by_cases e : c = 0
    · left; rw [← h2, e, h0]; exact List.mem_singleton.2 rfl
    · exact .inr ⟨c, by omega, h1, h2⟩
theorem chs_rising {n : Nat} {s : List Int} (h : s ∈ chs n) : rising s 0 ((n : Int) - 1) = true := by
  obtain ⟨c, _, rfl⟩ := chs_mem.1 h
  exact rising_asc (asc_members _ _) fun x hx => by have := mem_members.1 hx; omega
theorem chs_all (n : Nat) : allN n ∈ chs n := by
  refine chs_mem.2 ⟨2 ^ n - 1, by have := Nat.two_pow_pos n; omega, ?_⟩
  exact allN_bits
def s_l6Choices_C (f : FuncId) (ds : List D) : Orc := bif Nat.beq f 214 then s_l2Sets_orc ds else .no
def s_l6Choices_A (n : Int) : Ann := .two (.none) (.two (.reg [(0, .frz)]) (.none))
def s_l6Choices_P (n : Int) : Prop :=
  (PC Try.prog 214 [.int .i64 n] (.one (.d (.sl (.rows (setsL n.toNat)))))) ∧ ((1 : Nat) = 1) ∧ (True) ∧ ((1 + (setsL n.toNat).length) * 24 ≤ 140737488355328) ∧ (((1 + (setsL n.toNat).length) = ([[]] ++ (setsL n.toNat)).length) ∧ ((([[]] ++ (setsL n.toNat)) : List (List Int)) = (chs n.toNat)))
theorem s_l6Choices_vc (n : Int) (hn : 0 ≤ n ∧ n ≤ 8)  : s_l6Choices_P n := by
  unfold s_l6Choices_P
  have cs := chs_small (n := n.toNat) (by omega)
  have ce : (chs n.toNat).length = 1 + (setsL n.toNat).length := by unfold chs; rw [List.length_append]; rfl
  refine ⟨?_, rfl, trivial, ?_, ?_, ?_⟩
  ·refine s_l2Sets_pc n ?_
   ·omega
  ·omega
  ·(simp_all <;> omega)
  ·rfl
theorem s_l6Choices_pc (n : Int) (hn : 0 ≤ n ∧ n ≤ 8) : PC Try.prog 176 [.int .i64 n] (.one (.d (.sl (.rows (chs n.toNat))))) :=
  pc_wf @Try.call176 fun _ => pc_by (by kernel_rfl) Try.func176 @Try.call176 (by kernel_rfl) s_l6Choices_C (s_l6Choices_A n) (by kernel_rfl) (s_l6Choices_vc n hn) (by kernel_rfl)
def s_l6Choices_orc : List D → Orc := orcN [none] fun ds => match ds with
  | [.int .i64 n] => some (.one (.d (.sl (.rows (chs n.toNat)))))
  | _ => none
theorem least_min {v : List Int → Int} : ∀ (r : List (List Int)) (b : List Int), v (r.foldl (lsB v) b) ≤ v b ∧ ∀ x ∈ r, v (r.foldl (lsB v) b) ≤ v x
  | [], b => ⟨Int.le_refl _, fun x hx => by cases hx⟩
  | y :: r, b => by
    obtain ⟨h1, h2⟩ := least_min (v := v) r (lsB v b y)
    have h3 : v (lsB v b y) ≤ v b ∧ v (lsB v b y) ≤ v y := by unfold lsB; split <;> omega
    rw [List.foldl_cons]
    refine ⟨by omega, fun x hx => ?_⟩
    rcases List.mem_cons.1 hx with rfl | hx
    · omega
    · exact h2 x hx
theorem leastL_min {v : List Int → Int} {l : List (List Int)} {x : List Int} (h : x ∈ l) : v (leastL v l) ≤ v x := (least_min l _).2 x h
theorem lsB_head {v : List Int → Int} : ∀ (r : List (List Int)) (b y : List Int), (y :: r).foldl (lsB v) b = if v (r.foldl (lsB v) y) < v b then r.foldl (lsB v) y else b
  | [], b, y => rfl
  | z :: r, b, y => by
    rw [List.foldl_cons, lsB_head r (lsB v b y) z, lsB_head r y z]
    unfold lsB
    by_cases h1 : v y < v b
    · rw [if_pos h1]
      by_cases h2 : v (List.foldl (lsB v) z r) < v y
      · unfold lsB at h2
        rw [if_pos h2, if_pos (by omega)]
      · unfold lsB at h2
        rw [if_neg h2, if_pos h1]
    · rw [if_neg h1]
      by_cases h2 : v (List.foldl (lsB v) z r) < v y
      · unfold lsB at h2
        rw [if_pos h2]
      · unfold lsB at h2
        rw [if_neg h2, if_neg h1, if_neg (by omega)]
def leB (v : List Int → Int) (p : List Int → Bool) (x b : List Int) : List Int := if p x = true ∧ v x ≤ v b then x else b
theorem foldr_least {v : List Int → Int} {p : List Int → Bool} {z : List Int} : ∀ (l : List (List Int)), (l.filter p = [] → l.foldr (leB v p) z = z) ∧ (∀ y s, l.filter p = y :: s → l.foldr (leB v p) z = if v (s.foldl (lsB v) y) ≤ v z then s.foldl (lsB v) y else z)
  | [] => ⟨fun _ => rfl, fun y s h => (by cases h)⟩
  | x :: r => by
    obtain ⟨i1, i2⟩ := foldr_least (v := v) (p := p) (z := z) r
    rw [List.foldr_cons, List.filter_cons]
    by_cases e : p x = true
    · rw [if_pos e]
      refine ⟨fun h => (by cases h), fun y s h => ?_⟩
      cases h
      cases hf : r.filter p with
      | nil =>
        rw [i1 hf, List.foldl_nil]
        unfold leB
        by_cases e4 : v x ≤ v z
        · rw [if_pos ⟨e, e4⟩, if_pos e4]
        · rw [if_neg (fun h => e4 h.2), if_neg e4]
      | cons y s =>
        have hF := i2 y s hf
        rw [lsB_head]
        generalize s.foldl (lsB v) y = m at *
        by_cases c1 : v m ≤ v z
        · rw [if_pos c1] at hF
          rw [hF]
          by_cases c2 : v m < v x
          · rw [if_pos c2, if_pos c1]; unfold leB; rw [if_neg (fun h => by omega)]
          · rw [if_neg c2, if_pos (show v x ≤ v z by omega)]; unfold leB; rw [if_pos ⟨e, by omega⟩]
        · rw [if_neg c1] at hF
          rw [hF]
          by_cases c2 : v m < v x
          · rw [if_pos c2, if_neg c1]; unfold leB; rw [if_neg (fun h => by omega)]
          · rw [if_neg c2]
            unfold leB
            by_cases c3 : v x ≤ v z
            · rw [if_pos ⟨e, c3⟩, if_pos c3]
            · rw [if_neg (fun h => c3 h.2), if_neg c3]
    · rw [if_neg e]
      have e2 : leB v p x (r.foldr (leB v p) z) = r.foldr (leB v p) z := by
        show (if _ then _ else _) = _
        rw [if_neg (fun h => e h.1)]
      rw [e2]
      exact ⟨i1, i2⟩
theorem leastL_cons {v : List Int → Int} {y : List Int} {s : List (List Int)} : leastL v (y :: s) = s.foldl (lsB v) y := by
  show s.foldl (lsB v) (lsB v y y) = _
  rw [lsB_self]
theorem cond_and {a b : Bool} : cond a b false = (a && b) := by cases a <;> rfl
theorem foldr_at {f : List Int → List Int → List Int} {z : List Int} {l : List (List Int)} {i : Int} (h0 : 0 ≤ i) (h : i < (l.length : Int)) : (l.drop (i - 1 + 1).toNat).foldr f z = f (l.getD i.toNat []) ((l.drop (i + 1).toNat).foldr f z) := by
  rw [show (i - 1 + 1).toNat = i.toNat by omega, List.drop_eq_getElem_cons (show i.toNat < l.length by omega), List.foldr_cons, show (i + 1).toNat = i.toNat + 1 by omega, getD_get (show i.toNat < l.length by omega)]
theorem foldr_all {v : List Int → Int} {p : List Int → Bool} {z : List Int} {l : List (List Int)} (hz : z ∈ l) (hp : p z = true) : l.foldr (leB v p) z = leastL v (l.filter p) := by
  have hm : z ∈ l.filter p := List.mem_filter.2 ⟨hz, hp⟩
  cases hf : l.filter p with
  | nil => rw [hf] at hm; cases hm
  | cons y s =>
    rw [(foldr_least l).2 y s hf, leastL_cons, if_pos]
    rw [← leastL_cons, ← hf]
    exact leastL_min hm
abbrev i_lists_cover_JJ0 (below : Int) (Size : Int) (Sets : List (List Int)) (Costs : List Int) (out : List (List Int)) (i : Int) : Prop := (0 ≤ i) ∧ (i ≤ ((chs below.toNat).length : Int)) ∧ (out = ((chs below.toNat).take i.toNat).filter (coverB Size Sets))
abbrev i_lists_cover_mJ0 (below : Int) (Size : Int) (Sets : List (List Int)) (Costs : List Int) (out : List (List Int)) (i : Int) : Nat := ((chs below.toNat).length - i).toNat
def i_lists_cover_C (f : FuncId) (ds : List D) : Orc := bif Nat.beq f 134 then i_sets_orc ds else bif Nat.beq f 166 then i_System_isCover_orc ds else .no
def i_lists_cover_A (below : Int) (Size : Int) (Sets : List (List Int)) (Costs : List Int) : Ann := .two (.none) (.two (.none) (.two (.two (.reg [(0, .frz)]) (.loop (cut2 (fun (out : List (List Int)) (i : Int) => i_lists_cover_JJ0 below Size Sets Costs out i) (fun (out : List (List Int)) (i : Int) => [(1, .d false (.fn 166 1 [.agg [.int .i64 Size, .sl (.rows Sets), .sl (.ints Costs)]])), (5, .own 1000000 out.length), (13, .own 13 (1 + (setsL below.toNat).length)), (14, .d true (.int .i64 ((1 + (setsL below.toNat).length) : Int))), (15, .d true (.int .i64 i))]) (fun (out : List (List Int)) (i : Int) => [(1000000, .arr true 26 (.rows out)), (13, .arr true 26 (.rows ([[]] ++ setsL below.toNat)))])) (fun g => i_lists_cover_mJ0 below Size Sets Costs g.1 g.2) (fun _ => .none))) (.none)))
def i_lists_cover_P (below : Int) (Size : Int) (Sets : List (List Int)) (Costs : List Int) : Prop :=
  (PC Try.prog 134 [.int .i64 below] (.one (.own 26 (.rows (setsL below.toNat))))) ∧ ((1 : Nat) = 1) ∧ ((setsL below.toNat).length = (setsL below.toNat).length) ∧ ((1 + (setsL below.toNat).length) * 24 ≤ 140737488355328) ∧ ((∃ out' : List (List Int), ∃ i' : Int, (i_lists_cover_JJ0 below Size Sets Costs out' i') ∧ ((.fn 166 1 [.agg [.int .i64 Size, .sl (.rows Sets), .sl (.ints Costs)]] : D) = (.fn 166 1 [.agg [.int .i64 Size, .sl (.rows Sets), .sl (.ints Costs)]] : D)) ∧ ((0 : Nat) = out'.length) ∧ ((1 + (setsL below.toNat).length) = (1 + (setsL below.toNat).length)) ∧ (((1 + (setsL below.toNat).length) : Int) = ((1 + (setsL below.toNat).length) : Int)) ∧ ((0 : Int) = i') ∧ ([] = out') ∧ ((([[]] ++ setsL below.toNat) : List (List Int)) = ([[]] ++ setsL below.toNat))) ∧ (∀ out : List (List Int), ∀ i : Int, (i_lists_cover_JJ0 below Size Sets Costs out i) → (((decide (i < ((1 + (setsL below.toNat).length) : Int))) = true → ((0 : Int) ≤ i) ∧ ((i : Int) < ((1 + (setsL below.toNat).length) : Int)) ∧ (i.toNat < ([[]] ++ setsL below.toNat).length) ∧ (PC Try.prog 166 [.agg [.int .i64 Size, .sl (.rows Sets), .sl (.ints Costs)], .sl (.ints (([[]] ++ setsL below.toNat).getD i.toNat []))] (.one (.d (.bool (coverB Size Sets (([[]] ++ setsL below.toNat).getD i.toNat [])))))) ∧ (((coverB Size Sets (([[]] ++ setsL below.toNat).getD i.toNat [])) = true → (out.length = out.length) ∧ ((1 : Nat) = 1) ∧ ((out.length + 1) * 24 ≤ 140737488355328) ∧ (-9223372036854775808 ≤ (i + 1) ∧ (i + 1) ≤ 9223372036854775807) ∧ (∃ out' : List (List Int), ∃ i' : Int, (i_lists_cover_JJ0 below Size Sets Costs out' i') ∧ (i_lists_cover_mJ0 below Size Sets Costs out' i' < i_lists_cover_mJ0 below Size Sets Costs out i) ∧ ((.fn 166 1 [.agg [.int .i64 Size, .sl (.rows Sets), .sl (.ints Costs)]] : D) = (.fn 166 1 [.agg [.int .i64 Size, .sl (.rows Sets), .sl (.ints Costs)]] : D)) ∧ ((out.length + 1) = out'.length) ∧ ((1 + (setsL below.toNat).length) = (1 + (setsL below.toNat).length)) ∧ (((1 + (setsL below.toNat).length) : Int) = ((1 + (setsL below.toNat).length) : Int)) ∧ ((i + 1) = i') ∧ ((out ++ [(([[]] ++ setsL below.toNat).getD i.toNat [])]) = out') ∧ ((([[]] ++ setsL below.toNat) : List (List Int)) = ([[]] ++ setsL below.toNat)))) ∧ ((coverB Size Sets (([[]] ++ setsL below.toNat).getD i.toNat [])) = false → (-9223372036854775808 ≤ (i + 1) ∧ (i + 1) ≤ 9223372036854775807) ∧ (∃ out' : List (List Int), ∃ i' : Int, (i_lists_cover_JJ0 below Size Sets Costs out' i') ∧ (i_lists_cover_mJ0 below Size Sets Costs out' i' < i_lists_cover_mJ0 below Size Sets Costs out i) ∧ ((.fn 166 1 [.agg [.int .i64 Size, .sl (.rows Sets), .sl (.ints Costs)]] : D) = (.fn 166 1 [.agg [.int .i64 Size, .sl (.rows Sets), .sl (.ints Costs)]] : D)) ∧ (out.length = out'.length) ∧ ((1 + (setsL below.toNat).length) = (1 + (setsL below.toNat).length)) ∧ (((1 + (setsL below.toNat).length) : Int) = ((1 + (setsL below.toNat).length) : Int)) ∧ ((i + 1) = i') ∧ (out = out') ∧ ((([[]] ++ setsL below.toNat) : List (List Int)) = ([[]] ++ setsL below.toNat)))))) ∧ ((decide (i < ((1 + (setsL below.toNat).length) : Int))) = false → ((out.length = out.length) ∧ ((out : List (List Int)) = ((chs below.toNat).filter (coverB Size Sets))))))))
theorem i_lists_cover_vc (below : Int) (Size : Int) (Sets : List (List Int)) (Costs : List Int) (hn : 0 ≤ below ∧ below ≤ 8) (hx : ∀ s ∈ chs below.toNat, goodSys Size Sets Costs = true ∧ rising s 0 ((Sets.length : Int) - 1) = true) (w_Sets : (Sets.length : Int) ≤ 9223372036854775807) (v_Sets : ∀ x9 ∈ Sets, (x9.length : Int) ≤ 9223372036854775807) (w_Costs : (Costs.length : Int) ≤ 9223372036854775807) : i_lists_cover_P below Size Sets Costs := by
  unfold i_lists_cover_P
  have cs := chs_small (n := below.toNat) (by omega)
  have ce : (chs below.toNat).length = 1 + (setsL below.toNat).length := by unfold chs; rw [List.length_append]; rfl
  refine ⟨?_, rfl, rfl, ?_, ?_, ?_⟩
  ·refine i_sets_pc below ?_
   ·omega
  ·omega
  ·refine ⟨([]), 0, ?_⟩
   refine ⟨?_, rfl, rfl, rfl, rfl, rfl, ?_, rfl⟩
   ·refine ⟨?_, ?_, ?_⟩
    ·omega
    ·omega
    ·rfl
   ·rfl
  ·intro out i hJ
   obtain ⟨h1, h2, h3⟩ := hJ
   refine ⟨?_, ?_⟩
   ·intro b1
    try simp only [nrmT] at b1
    refine ⟨?_, ?_, ?_, ?_, ?_, ?_⟩
    ·omega
    ·omega
    ·show i.toNat < (chs below.toNat).length
     omega
    ·refine i_System_isCover_pc Size Sets Costs (([[]] ++ setsL below.toNat).getD i.toNat []) ?_ ?_
     ·have hm : ([[]] ++ setsL below.toNat).getD i.toNat [] ∈ chs below.toNat := getD_memI (xs := chs below.toNat) h1 (by omega)
      exact (hx _ hm).1
     ·have hm : ([[]] ++ setsL below.toNat).getD i.toNat [] ∈ chs below.toNat := getD_memI (xs := chs below.toNat) h1 (by omega)
      exact (hx _ hm).2
    ·intro b2
     try simp only [nrmT] at b2
     refine ⟨rfl, rfl, ?_, ?_, ?_⟩
     ·have := List.length_filter_le (coverB Size Sets) ((chs below.toNat).take i.toNat)
      rw [← h3, List.length_take] at this
      omega
     ·omega
     ·refine ⟨(out ++ [(([[]] ++ setsL below.toNat).getD i.toNat [])]), (i + 1), ?_⟩
      refine ⟨?_, ?_, rfl, ?_, rfl, rfl, rfl, rfl, rfl⟩
      ·refine ⟨?_, ?_, ?_⟩
       ·omega
       ·omega
       ·rw [filter_step h1 (by omega), ← h3, if_pos (by first | exact b2 | exact decide_eq_true b2)]; rfl
      ·first | (show _ < _; omega) | (simp only [i_lists_cover_mJ0]; omega) | (simp only [i_lists_cover_mJ0] at *; simp at *; omega)
      ·(simp_all; done)
    ·intro b3
     try simp only [nrmT] at b3
     refine ⟨?_, ?_⟩
     ·omega
     ·refine ⟨out, (i + 1), ?_⟩
      refine ⟨?_, ?_, rfl, rfl, rfl, rfl, rfl, rfl, rfl⟩
      ·refine ⟨?_, ?_, ?_⟩
       ·omega
       ·omega
       ·rw [filter_step h1 (by omega), ← h3]
        exact (if_neg (by first | exact ne_true_of_eq_false b3 | exact fun h => absurd (of_decide_eq_true h) (Int.not_le.2 b3))).symm
      ·first | (show _ < _; omega) | (simp only [i_lists_cover_mJ0]; omega) | (simp only [i_lists_cover_mJ0] at *; simp at *; omega)
   ·intro b4
    try simp only [nrmT] at b4
    refine ⟨rfl, ?_⟩
    ·rw [h3, take_all (by omega)]
theorem i_lists_cover_pc (below : Int) (Size : Int) (Sets : List (List Int)) (Costs : List Int) (hn : 0 ≤ below ∧ below ≤ 8) (hx : ∀ s ∈ chs below.toNat, goodSys Size Sets Costs = true ∧ rising s 0 ((Sets.length : Int) - 1) = true) : PC Try.prog 173 [.int .i64 below, .fn 166 1 [.agg [.int .i64 Size, .sl (.rows Sets), .sl (.ints Costs)]]] (.one (.d (.sl (.rows ((chs below.toNat).filter (coverB Size Sets)))))) :=
  pc_wf @Try.call173 fun hw => pc_by (by kernel_rfl) Try.func173 @Try.call173 (by kernel_rfl) i_lists_cover_C (i_lists_cover_A below Size Sets Costs) (by kernel_rfl) (i_lists_cover_vc below Size Sets Costs hn hx hw.2.1.1.2.1.1 hw.2.1.1.2.1.2 hw.2.1.1.2.2.1) (by kernel_rfl)
def i_lists_cover_orc : List D → Orc := orcN [none, none] fun ds => match ds with
  | [.int .i64 below, .fn f0 1 [.agg [.int .i64 Size, .sl (.rows Sets), .sl (.ints Costs)]]] => bif Nat.beq f0 166 then some (.one (.d (.sl (.rows ((chs below.toNat).filter (coverB Size Sets)))))) else none
  | _ => none
abbrev i_least_cost_JJ0 (xss : List (List Int)) (Size : Int) (Sets : List (List Int)) (Costs : List Int) (best : List Int) (i : Int) : Prop := (0 ≤ i) ∧ (i ≤ (xss.length : Int)) ∧ (best ∈ xss) ∧ (best = (xss.take i.toNat).foldl (lsB (costOf Costs)) (xss.getD 0 []))
abbrev i_least_cost_mJ0 (xss : List (List Int)) (Size : Int) (Sets : List (List Int)) (Costs : List Int) (best : List Int) (i : Int) : Nat := (xss.length - i).toNat
def i_least_cost_C (f : FuncId) (ds : List D) : Orc := bif Nat.beq f 178 then i_System_cost_orc ds else .no
def i_least_cost_A (xss : List (List Int)) (Size : Int) (Sets : List (List Int)) (Costs : List Int) : Ann := .two (.none) (.two (.none) (.two (.two (.none) (.loop (cut2 (fun (best : List Int) (i : Int) => i_least_cost_JJ0 xss Size Sets Costs best i) (fun (best : List Int) (i : Int) => [(1, .d false (.fn 178 1 [.agg [.int .i64 Size, .sl (.rows Sets), .sl (.ints Costs)]])), (5, .d true (.sl (.ints best))), (11, .d true (.sl (.rows xss))), (12, .d true (.int .i64 (xss.length : Int))), (13, .d true (.int .i64 i))]) (fun (best : List Int) (i : Int) => [])) (fun g => i_least_cost_mJ0 xss Size Sets Costs g.1 g.2) (fun _ => .none))) (.none)))
def i_least_cost_P (xss : List (List Int)) (Size : Int) (Sets : List (List Int)) (Costs : List Int) : Prop :=
  ((0 : Int) ≤ 0) ∧ ((0 : Int) < xss.length) ∧ (0 < xss.length) ∧ ((∃ best' : List Int, ∃ i' : Int, (i_least_cost_JJ0 xss Size Sets Costs best' i') ∧ ((.fn 178 1 [.agg [.int .i64 Size, .sl (.rows Sets), .sl (.ints Costs)]] : D) = (.fn 178 1 [.agg [.int .i64 Size, .sl (.rows Sets), .sl (.ints Costs)]] : D)) ∧ ((xss.getD 0 []) = best') ∧ (xss = xss) ∧ ((xss.length : Int) = (xss.length : Int)) ∧ ((0 : Int) = i')) ∧ (∀ best : List Int, ∀ i : Int, (i_least_cost_JJ0 xss Size Sets Costs best i) → (((decide (i < (xss.length : Int))) = true → ((0 : Int) ≤ i) ∧ ((i : Int) < xss.length) ∧ (i.toNat < xss.length) ∧ (PC Try.prog 178 [.agg [.int .i64 Size, .sl (.rows Sets), .sl (.ints Costs)], .sl (.ints (xss.getD i.toNat []))] (.one (.d (.int .i64 (costOf Costs (xss.getD i.toNat [])))))) ∧ (PC Try.prog 178 [.agg [.int .i64 Size, .sl (.rows Sets), .sl (.ints Costs)], .sl (.ints best)] (.one (.d (.int .i64 (costOf Costs best))))) ∧ (((decide ((costOf Costs (xss.getD i.toNat [])) < (costOf Costs best))) = true → (-9223372036854775808 ≤ (i + 1) ∧ (i + 1) ≤ 9223372036854775807) ∧ (∃ best' : List Int, ∃ i' : Int, (i_least_cost_JJ0 xss Size Sets Costs best' i') ∧ (i_least_cost_mJ0 xss Size Sets Costs best' i' < i_least_cost_mJ0 xss Size Sets Costs best i) ∧ ((.fn 178 1 [.agg [.int .i64 Size, .sl (.rows Sets), .sl (.ints Costs)]] : D) = (.fn 178 1 [.agg [.int .i64 Size, .sl (.rows Sets), .sl (.ints Costs)]] : D)) ∧ ((xss.getD i.toNat []) = best') ∧ (xss = xss) ∧ ((xss.length : Int) = (xss.length : Int)) ∧ ((i + 1) = i'))) ∧ ((decide ((costOf Costs (xss.getD i.toNat [])) < (costOf Costs best))) = false → (-9223372036854775808 ≤ (i + 1) ∧ (i + 1) ≤ 9223372036854775807) ∧ (∃ best' : List Int, ∃ i' : Int, (i_least_cost_JJ0 xss Size Sets Costs best' i') ∧ (i_least_cost_mJ0 xss Size Sets Costs best' i' < i_least_cost_mJ0 xss Size Sets Costs best i) ∧ ((.fn 178 1 [.agg [.int .i64 Size, .sl (.rows Sets), .sl (.ints Costs)]] : D) = (.fn 178 1 [.agg [.int .i64 Size, .sl (.rows Sets), .sl (.ints Costs)]] : D)) ∧ (best = best') ∧ (xss = xss) ∧ ((xss.length : Int) = (xss.length : Int)) ∧ ((i + 1) = i'))))) ∧ ((decide (i < (xss.length : Int))) = false → (((best : List Int) = (leastL (costOf Costs) xss)))))))
theorem i_least_cost_vc (xss : List (List Int)) (Size : Int) (Sets : List (List Int)) (Costs : List Int) (hp : 0 < xss.length) (hx : ∀ s ∈ xss, goodSys Size Sets Costs = true ∧ rising s 0 ((Sets.length : Int) - 1) = true) (w_xss : (xss.length : Int) ≤ 9223372036854775807) (v_xss : ∀ x9 ∈ xss, (x9.length : Int) ≤ 9223372036854775807) (w_Sets : (Sets.length : Int) ≤ 9223372036854775807) (v_Sets : ∀ x9 ∈ Sets, (x9.length : Int) ≤ 9223372036854775807) (w_Costs : (Costs.length : Int) ≤ 9223372036854775807) : i_least_cost_P xss Size Sets Costs := by
  unfold i_least_cost_P
  refine ⟨?_, ?_, ?_, ?_, ?_⟩
  ·omega
  ·omega
  ·omega
  ·refine ⟨(xss.getD 0 []), 0, ?_⟩
   refine ⟨?_, rfl, rfl, rfl, rfl, rfl⟩
   ·refine ⟨?_, ?_, ?_, ?_⟩
    ·omega
    ·omega
    ·exact getD_mem hp
    ·rfl
  ·intro best i hJ
   obtain ⟨h1, h2, h3, h4⟩ := hJ
   refine ⟨?_, ?_⟩
   ·intro b1
    try simp only [nrmT] at b1
    refine ⟨?_, ?_, ?_, ?_, ?_, ?_, ?_⟩
    ·omega
    ·omega
    ·omega
    ·refine i_System_cost_pc Size Sets Costs (xss.getD i.toNat []) ?_ ?_
     ·exact (hx _ (getD_memI (d := []) h1 (by omega))).1
     ·exact (hx _ (getD_memI h1 (by omega))).2
    ·refine i_System_cost_pc Size Sets Costs best ?_ ?_
     ·exact (hx _ h3).1
     ·exact (hx _ h3).2
    ·intro b2
     try simp only [nrmT] at b2
     refine ⟨?_, ?_⟩
     ·omega
     ·refine ⟨(xss.getD i.toNat []), (i + 1), ?_⟩
      refine ⟨?_, ?_, rfl, rfl, rfl, rfl, rfl⟩
      ·refine ⟨?_, ?_, ?_, ?_⟩
       ·omega
       ·omega
       ·exact getD_memI h1 (by omega)
       ·rw [fold_snoc (d := []) h1 (by omega), ← h4]; unfold lsB; rw [if_pos b2]
      ·first | (show _ < _; omega) | (simp only [i_least_cost_mJ0]; omega) | (simp only [i_least_cost_mJ0] at *; simp at *; omega)
    ·intro b3
     try simp only [nrmT] at b3
     refine ⟨?_, ?_⟩
     ·omega
     ·refine ⟨best, (i + 1), ?_⟩
      refine ⟨?_, ?_, rfl, rfl, rfl, rfl, rfl⟩
      ·refine ⟨?_, ?_, ?_, ?_⟩
       ·omega
       ·omega
       ·exact h3
       ·rw [fold_snoc (d := []) h1 (by omega), ← h4]; unfold lsB; (try dsimp only); rw [if_neg (by omega)]
      ·first | (show _ < _; omega) | (simp only [i_least_cost_mJ0]; omega) | (simp only [i_least_cost_mJ0] at *; simp at *; omega)
   ·intro b4
    try simp only [nrmT] at b4
    rw [h4, take_all (by omega)]; rfl
theorem i_least_cost_pc (xss : List (List Int)) (Size : Int) (Sets : List (List Int)) (Costs : List Int) (hp : 0 < xss.length) (hx : ∀ s ∈ xss, goodSys Size Sets Costs = true ∧ rising s 0 ((Sets.length : Int) - 1) = true) : PCs Try.prog 172 [.sl (.rows xss), .fn 178 1 [.agg [.int .i64 Size, .sl (.rows Sets), .sl (.ints Costs)]]] 0 (.sl (.ints (leastL (costOf Costs) xss))) :=
  pcs_wf @Try.call172 fun hw => pcs_by (by kernel_rfl) Try.func172 @Try.call172 (by kernel_rfl) i_least_cost_C (i_least_cost_A xss Size Sets Costs) (by kernel_rfl) (i_least_cost_vc xss Size Sets Costs hp hx hw.1.1 hw.1.2 hw.2.1.1.2.1.1 hw.2.1.1.2.1.2 hw.2.1.1.2.2.1) (by kernel_rfl)
def i_least_cost_orc : List D → Orc := orcS 0 fun ds => match ds with
  | [.sl (.rows xss), .fn f0 1 [.agg [.int .i64 Size, .sl (.rows Sets), .sl (.ints Costs)]]] => some (.sl (.ints (leastL (costOf Costs) xss)))
  | _ => none
def lcS (Size : Int) (Sets : List (List Int)) (Costs : List Int) : List Int := leastL (costOf Costs) ((chs Sets.length).filter (coverB Size Sets))
def lcOk (Size : Int) (Sets : List (List Int)) (Costs : List Int) : Bool := goodSys Size Sets Costs && coverB Size Sets (allN Sets.length)
def lcL (Size : Int) (Sets : List (List Int)) (Costs : List Int) : List Int := if lcOk Size Sets Costs = true then lcS Size Sets Costs else []
theorem lc_pos {Size : Int} {Sets : List (List Int)} (h : coverB Size Sets (allN Sets.length) = true) : 0 < ((chs Sets.length).filter (coverB Size Sets)).length := filter_pos ⟨_, chs_all _, h⟩
theorem chs_inR {Sets : List (List Int)} {s : List Int} (h : s ∈ chs Sets.length) : InR Sets s := fun c hc => by
  have := rising_mem (chs_rising h) c hc
  omega
theorem lc_none {Size : Int} {Sets : List (List Int)} (h : ((chs Sets.length).filter (coverB Size Sets)).length = 0) : coverB Size Sets (allN Sets.length) = false := by
  cases e : coverB Size Sets (allN Sets.length) with
  | false => rfl
  | true => have := lc_pos e; omega
theorem lc_some {Size : Int} {Sets : List (List Int)} (h : ¬ ((chs Sets.length).filter (coverB Size Sets)).length = 0) : coverB Size Sets (allN Sets.length) = true := by
  obtain ⟨s, hs⟩ := List.exists_mem_of_length_pos (Nat.pos_of_ne_zero h)
  obtain ⟨h1, h2⟩ := List.mem_filter.1 hs
  exact cover_all (chs_inR h1) h2
abbrev s_l6Least_JJ0 (Size : Int) (Sets : List (List Int)) (Costs : List Int) (best : List Int) (i : Int) : Prop := (-1 ≤ i) ∧ (i < ((chs Sets.length).length : Int)) ∧ (coverB Size Sets (allN Sets.length) = true) ∧ (best ∈ chs Sets.length) ∧ (best = ((chs Sets.length).drop (i + 1).toNat).foldr (leB (costOf Costs) (coverB Size Sets)) (allN Sets.length))
abbrev s_l6Least_mJ0 (Size : Int) (Sets : List (List Int)) (Costs : List Int) (best : List Int) (i : Int) : Nat := (i + 1).toNat
def s_l6Least_C (f : FuncId) (ds : List D) : Orc := bif Nat.beq f 192 then s_l6All_orc ds else bif Nat.beq f 186 then s_l6Cover_orc ds else bif Nat.beq f 176 then s_l6Choices_orc ds else bif Nat.beq f 190 then s_l6Cost_orc ds else .no
def s_l6Least_A (Size : Int) (Sets : List (List Int)) (Costs : List Int) : Ann := .two (.none) (.two (.none) (.two (.none) (.two (.two (.none) (.loop (cut2 (fun (best : List Int) (i : Int) => s_l6Least_JJ0 Size Sets Costs best i) (fun (best : List Int) (i : Int) => [(1, .ptr 1 0), (4, .d true (.sl (.ints best))), (5, .d true (.sl (.rows (chs (Sets.length : Int).toNat)))), (6, .d true (.int .i64 i))]) (fun (best : List Int) (i : Int) => [(1, .box 36 [.d false (.int .i64 Size), .d false (.sl (.rows Sets)), .d false (.sl (.ints Costs))])])) (fun g => s_l6Least_mJ0 Size Sets Costs g.1 g.2) (fun _ => .none))) (.none))))
def s_l6Least_e1 (Size : Int) (Sets : List (List Int)) (Costs : List Int) (best : List Int) (i : Int) : Bool := (cond (coverB Size Sets ((chs (Sets.length : Int).toNat).getD i.toNat [])) (decide ((costOf Costs ((chs (Sets.length : Int).toNat).getD i.toNat [])) ≤ (costOf Costs best))) false)
def s_l6Least_P (Size : Int) (Sets : List (List Int)) (Costs : List Int) : Prop :=
  (true = true) ∧ (PC Try.prog 192 [.agg [.int .i64 Size, .sl (.rows Sets), .sl (.ints Costs)]] (.one (.d (.sl (.ints (allN Sets.length)))))) ∧ (PC Try.prog 186 [.agg [.int .i64 Size, .sl (.rows Sets), .sl (.ints Costs)], .sl (.ints (allN Sets.length))] (.one (.d (.bool (coverB Size Sets (allN Sets.length)))))) ∧ (((!(coverB Size Sets (allN Sets.length))) = true → (((0 : Nat) = 0) ∧ (([] : List Int) = (if coverB Size Sets (allN Sets.length) = true then lcS Size Sets Costs else [])) ∧ (false = (coverB Size Sets (allN Sets.length))))) ∧ ((!(coverB Size Sets (allN Sets.length))) = false → (true = true) ∧ (PC Try.prog 192 [.agg [.int .i64 Size, .sl (.rows Sets), .sl (.ints Costs)]] (.one (.d (.sl (.ints (allN Sets.length)))))) ∧ (PC Try.prog 176 [.int .i64 (Sets.length : Int)] (.one (.d (.sl (.rows (chs (Sets.length : Int).toNat)))))) ∧ (-9223372036854775808 ≤ ((((chs (Sets.length : Int).toNat).length) : Int) - 1) ∧ ((((chs (Sets.length : Int).toNat).length) : Int) - 1) ≤ 9223372036854775807) ∧ ((∃ best' : List Int, ∃ i' : Int, (s_l6Least_JJ0 Size Sets Costs best' i') ∧ ((allN Sets.length) = best') ∧ ((chs (Sets.length : Int).toNat) = (chs (Sets.length : Int).toNat)) ∧ (((((chs (Sets.length : Int).toNat).length) : Int) - 1) = i') ∧ (Size = Size) ∧ (Sets = Sets) ∧ (Costs = Costs)) ∧ (∀ best : List Int, ∀ i : Int, (s_l6Least_JJ0 Size Sets Costs best i) → (((decide (i ≥ 0)) = true → (true = true) ∧ ((0 : Int) ≤ i) ∧ ((i : Int) < (chs (Sets.length : Int).toNat).length) ∧ (i.toNat < (chs (Sets.length : Int).toNat).length) ∧ (PC Try.prog 186 [.agg [.int .i64 Size, .sl (.rows Sets), .sl (.ints Costs)], .sl (.ints ((chs (Sets.length : Int).toNat).getD i.toNat []))] (.one (.d (.bool (coverB Size Sets ((chs (Sets.length : Int).toNat).getD i.toNat [])))))) ∧ ((coverB Size Sets ((chs (Sets.length : Int).toNat).getD i.toNat [])) = true → (coverB Size Sets ((chs (Sets.length : Int).toNat).getD i.toNat [])) = true) ∧ ((coverB Size Sets ((chs (Sets.length : Int).toNat).getD i.toNat [])) = true → (coverB Size Sets ((chs (Sets.length : Int).toNat).getD i.toNat [])) = true) ∧ (((coverB Size Sets ((chs (Sets.length : Int).toNat).getD i.toNat [])) = true → (0 : Int) ≤ i)) ∧ (((coverB Size Sets ((chs (Sets.length : Int).toNat).getD i.toNat [])) = true → (i : Int) < (chs (Sets.length : Int).toNat).length)) ∧ ((coverB Size Sets ((chs (Sets.length : Int).toNat).getD i.toNat [])) = true → (coverB Size Sets ((chs (Sets.length : Int).toNat).getD i.toNat [])) = true) ∧ (((coverB Size Sets ((chs (Sets.length : Int).toNat).getD i.toNat [])) = true → i.toNat < (chs (Sets.length : Int).toNat).length)) ∧ ((coverB Size Sets ((chs (Sets.length : Int).toNat).getD i.toNat [])) = true → (coverB Size Sets ((chs (Sets.length : Int).toNat).getD i.toNat [])) = true) ∧ ((coverB Size Sets ((chs (Sets.length : Int).toNat).getD i.toNat [])) = true → (coverB Size Sets ((chs (Sets.length : Int).toNat).getD i.toNat [])) = true) ∧ ((coverB Size Sets ((chs (Sets.length : Int).toNat).getD i.toNat [])) = true → PC Try.prog 190 [.agg [.int .i64 Size, .sl (.rows Sets), .sl (.ints Costs)], .sl (.ints ((chs (Sets.length : Int).toNat).getD i.toNat []))] (.one (.d (.int .i64 (costOf Costs ((chs (Sets.length : Int).toNat).getD i.toNat [])))))) ∧ ((coverB Size Sets ((chs (Sets.length : Int).toNat).getD i.toNat [])) = true → (coverB Size Sets ((chs (Sets.length : Int).toNat).getD i.toNat [])) = true) ∧ ((coverB Size Sets ((chs (Sets.length : Int).toNat).getD i.toNat [])) = true → (coverB Size Sets ((chs (Sets.length : Int).toNat).getD i.toNat [])) = true) ∧ ((coverB Size Sets ((chs (Sets.length : Int).toNat).getD i.toNat [])) = true → PC Try.prog 190 [.agg [.int .i64 Size, .sl (.rows Sets), .sl (.ints Costs)], .sl (.ints best)] (.one (.d (.int .i64 (costOf Costs best))))) ∧ ((coverB Size Sets ((chs (Sets.length : Int).toNat).getD i.toNat [])) = true → (coverB Size Sets ((chs (Sets.length : Int).toNat).getD i.toNat [])) = true) ∧ ((coverB Size Sets ((chs (Sets.length : Int).toNat).getD i.toNat [])) = true → (coverB Size Sets ((chs (Sets.length : Int).toNat).getD i.toNat [])) = true) ∧ (true = true) ∧ (((coverB Size Sets ((chs (Sets.length : Int).toNat).getD i.toNat [])) = true → (coverB Size Sets ((chs (Sets.length : Int).toNat).getD i.toNat [])) = true)) ∧ (((coverB Size Sets ((chs (Sets.length : Int).toNat).getD i.toNat [])) = false → true = true)) ∧ (((s_l6Least_e1 Size Sets Costs best i) = true → ((0 : Int) ≤ i) ∧ ((i : Int) < (chs (Sets.length : Int).toNat).length) ∧ (i.toNat < (chs (Sets.length : Int).toNat).length) ∧ (-9223372036854775808 ≤ (i - 1) ∧ (i - 1) ≤ 9223372036854775807) ∧ (∃ best' : List Int, ∃ i' : Int, (s_l6Least_JJ0 Size Sets Costs best' i') ∧ (s_l6Least_mJ0 Size Sets Costs best' i' < s_l6Least_mJ0 Size Sets Costs best i) ∧ (((chs (Sets.length : Int).toNat).getD i.toNat []) = best') ∧ ((chs (Sets.length : Int).toNat) = (chs (Sets.length : Int).toNat)) ∧ ((i - 1) = i') ∧ (Size = Size) ∧ (Sets = Sets) ∧ (Costs = Costs))) ∧ ((s_l6Least_e1 Size Sets Costs best i) = false → (-9223372036854775808 ≤ (i - 1) ∧ (i - 1) ≤ 9223372036854775807) ∧ (∃ best' : List Int, ∃ i' : Int, (s_l6Least_JJ0 Size Sets Costs best' i') ∧ (s_l6Least_mJ0 Size Sets Costs best' i' < s_l6Least_mJ0 Size Sets Costs best i) ∧ (best = best') ∧ ((chs (Sets.length : Int).toNat) = (chs (Sets.length : Int).toNat)) ∧ ((i - 1) = i') ∧ (Size = Size) ∧ (Sets = Sets) ∧ (Costs = Costs))))) ∧ ((decide (i ≥ 0)) = false → (((best : List Int) = (if coverB Size Sets (allN Sets.length) = true then lcS Size Sets Costs else [])) ∧ (true = (coverB Size Sets (allN Sets.length))))))))))
theorem s_l6Least_vc (Size : Int) (Sets : List (List Int)) (Costs : List Int) (hg : goodSys Size Sets Costs = true) (w_Sets : (Sets.length : Int) ≤ 9223372036854775807) (v_Sets : ∀ x9 ∈ Sets, (x9.length : Int) ≤ 9223372036854775807) (w_Costs : (Costs.length : Int) ≤ 9223372036854775807) : s_l6Least_P Size Sets Costs := by
  unfold s_l6Least_P s_l6Least_e1
  have gf := gs_facts hg
  have cs := chs_small (n := Sets.length) (by omega)
  have ar := all_rising Sets.length
  refine ⟨rfl, ?_, ?_, ?_, ?_⟩
  ·refine s_l6All_pc Size Sets Costs ?_
   ·omega
  ·refine s_l6Cover_pc Size Sets Costs (allN Sets.length) ?_ ?_
   ·omega
   ·omega
  ·intro b1
   try simp only [nrmT] at b1
   refine ⟨rfl, ?_, ?_⟩
   ·(simp_all; done)
   ·(simp_all; done)
  ·intro b2
   try simp only [nrmT] at b2
   refine ⟨rfl, ?_, ?_, ?_, ?_, ?_⟩
   ·refine s_l6All_pc Size Sets Costs ?_
    ·omega
   ·refine s_l6Choices_pc (Sets.length : Int) ?_
    ·omega
   ·(simp_all <;> omega)
   ·refine ⟨(allN Sets.length), ((((chs (Sets.length : Int).toNat).length) : Int) - 1), ?_⟩
    refine ⟨?_, rfl, rfl, rfl, rfl, rfl, rfl⟩
    ·refine ⟨?_, ?_, ?_, ?_, ?_⟩
     ·omega
     ·(simp_all <;> omega)
     ·omega
     ·exact chs_all _
     ·rw [Int.toNat_natCast, show (((chs Sets.length).length : Int) - 1 + 1).toNat = (chs Sets.length).length by omega, List.drop_length]; rfl
   ·intro best i hJ
    obtain ⟨h1, h2, hcv, h3, h4⟩ := hJ
    refine ⟨?_, ?_⟩
    ·intro b3
     try simp only [nrmT] at b3
     refine ⟨rfl, ?_, ?_, ?_, ?_, id, id, ?_, ?_, id, ?_, id, id, ?_, id, id, ?_, id, id, rfl, id, fun _ => rfl, ?_, ?_⟩
     ·omega
     ·(simp_all; done)
     ·(simp_all; done)
     ·refine s_l6Cover_pc Size Sets Costs ((chs (Sets.length : Int).toNat).getD i.toNat []) ?_ ?_
      ·omega
      ·exact chs_rising (getD_memI (by omega) h2)
     ·omega
     ·(simp_all; done)
     ·(simp_all; done)
     ·intro hg
      refine s_l6Cost_pc Size Sets Costs ((chs (Sets.length : Int).toNat).getD i.toNat []) ?_ ?_
      ·omega
      ·exact chs_rising (getD_memI (by omega) h2)
     ·intro hg
      refine s_l6Cost_pc Size Sets Costs best ?_ ?_
      ·omega
      ·exact chs_rising h3
     ·intro b4
      refine ⟨?_, ?_, ?_, ?_, ?_⟩
      ·omega
      ·(simp_all; done)
      ·(simp_all; done)
      ·omega
      ·refine ⟨((chs (Sets.length : Int).toNat).getD i.toNat []), (i - 1), ?_⟩
       refine ⟨?_, ?_, rfl, rfl, rfl, rfl, rfl, rfl⟩
       ·refine ⟨?_, ?_, ?_, ?_, ?_⟩
        ·omega
        ·omega
        ·omega
        ·exact getD_memI (by omega) h2
        ·rw [Int.toNat_natCast] at b4 ⊢
         rw [cond_and, Bool.and_eq_true, decide_eq_true_eq] at b4
         rw [foldr_at (by omega) h2, ← h4]; unfold leB; rw [if_pos b4]
       ·first | (show _ < _; omega) | (simp only [s_l6Least_mJ0]; omega) | (simp only [s_l6Least_mJ0] at *; simp at *; omega)
     ·intro b5
      refine ⟨?_, ?_⟩
      ·omega
      ·refine ⟨best, (i - 1), ?_⟩
       refine ⟨?_, ?_, rfl, rfl, rfl, rfl, rfl, rfl⟩
       ·refine ⟨?_, ?_, ?_, ?_, ?_⟩
        ·omega
        ·omega
        ·omega
        ·exact h3
        ·rw [Int.toNat_natCast] at b5
         rw [cond_and, Bool.eq_false_iff, Ne, Bool.and_eq_true, decide_eq_true_eq] at b5
         rw [foldr_at (by omega) h2, ← h4]; unfold leB; rw [if_neg b5]
       ·first | (show _ < _; omega) | (simp only [s_l6Least_mJ0]; omega) | (simp only [s_l6Least_mJ0] at *; simp at *; omega)
    ·intro b6
     try simp only [nrmT] at b6
     refine ⟨?_, ?_⟩
     ·rw [if_pos hcv, h4, show (i + 1).toNat = 0 by omega, List.drop_zero]; exact foldr_all (chs_all _) hcv
     ·(simp_all; done)
theorem s_l6Least_pc (Size : Int) (Sets : List (List Int)) (Costs : List Int) (hg : goodSys Size Sets Costs = true) : PC Try.prog 171 [.agg [.int .i64 Size, .sl (.rows Sets), .sl (.ints Costs)]] (.tup [.d (.sl (.ints (if coverB Size Sets (allN Sets.length) = true then lcS Size Sets Costs else []))), .d (.bool (coverB Size Sets (allN Sets.length)))]) :=
  pc_wf @Try.call171 fun hw => pc_by (by kernel_rfl) Try.func171 @Try.call171 (by kernel_rfl) s_l6Least_C (s_l6Least_A Size Sets Costs) (by kernel_rfl) (s_l6Least_vc Size Sets Costs hg hw.1.2.1.1 hw.1.2.1.2 hw.1.2.2.1) (by kernel_rfl)
def s_l6Least_orc : List D → Orc := orcN [none] fun ds => match ds with
  | [.agg [.int .i64 Size, .sl (.rows Sets), .sl (.ints Costs)]] => some (.tup [.d (.sl (.ints (if coverB Size Sets (allN Sets.length) = true then lcS Size Sets Costs else []))), .d (.bool (coverB Size Sets (allN Sets.length)))])
  | _ => none
def s_LeastCover_C (f : FuncId) (ds : List D) : Orc := bif Nat.beq f 122 then s_l6Good_orc ds else bif Nat.beq f 171 then s_l6Least_orc ds else .no
def s_LeastCover_A (Size : Int) (Sets : List (List Int)) (Costs : List Int) : Ann := .none
def s_LeastCover_P (Size : Int) (Sets : List (List Int)) (Costs : List Int) : Prop :=
  (PC Try.prog 122 [.agg [.int .i64 Size, .sl (.rows Sets), .sl (.ints Costs)]] (.one (.d (.bool (goodSys Size Sets Costs))))) ∧ (((!(goodSys Size Sets Costs)) = true → (((0 : Nat) = 0) ∧ (([] : List Int) = (lcL Size Sets Costs)) ∧ (false = (lcOk Size Sets Costs)))) ∧ ((!(goodSys Size Sets Costs)) = false → (PC Try.prog 171 [.agg [.int .i64 Size, .sl (.rows Sets), .sl (.ints Costs)]] (.tup [.d (.sl (.ints (if coverB Size Sets (allN Sets.length) = true then lcS Size Sets Costs else []))), .d (.bool (coverB Size Sets (allN Sets.length)))])) ∧ ((((if coverB Size Sets (allN Sets.length) = true then lcS Size Sets Costs else []) : List Int) = (lcL Size Sets Costs)) ∧ ((coverB Size Sets (allN Sets.length)) = (lcOk Size Sets Costs)))))
theorem s_LeastCover_vc (Size : Int) (Sets : List (List Int)) (Costs : List Int)  (w_Sets : (Sets.length : Int) ≤ 9223372036854775807) (v_Sets : ∀ x9 ∈ Sets, (x9.length : Int) ≤ 9223372036854775807) (w_Costs : (Costs.length : Int) ≤ 9223372036854775807) : s_LeastCover_P Size Sets Costs := by
  unfold s_LeastCover_P
  refine ⟨s_l6Good_pc Size Sets Costs, ?_, ?_⟩
  ·intro b1
   try simp only [nrmT] at b1
   refine ⟨rfl, ?_, ?_⟩
   ·have hq : goodSys Size Sets Costs = false := by simpa using b1
    unfold lcL lcOk; rw [hq]; rfl
   ·have hq : goodSys Size Sets Costs = false := by simpa using b1
    unfold lcOk; rw [hq]; rfl
  ·intro b2
   try simp only [nrmT] at b2
   refine ⟨?_, ?_, ?_⟩
   ·refine s_l6Least_pc Size Sets Costs ?_
    ·have hq : goodSys Size Sets Costs = true := by simpa using b2
     exact hq
   ·have hq : goodSys Size Sets Costs = true := by simpa using b2
    unfold lcL lcOk; rw [hq, Bool.true_and]
   ·have hq : goodSys Size Sets Costs = true := by simpa using b2
    unfold lcOk; rw [hq, Bool.true_and]
theorem s_LeastCover_pc (Size : Int) (Sets : List (List Int)) (Costs : List Int)  : PC Try.prog 89 [.agg [.int .i64 Size, .sl (.rows Sets), .sl (.ints Costs)]] (.tup [.d (.sl (.ints (lcL Size Sets Costs))), .d (.bool (lcOk Size Sets Costs))]) :=
  pc_wf @Try.call89 fun hw => pc_by (by kernel_rfl) Try.func89 @Try.call89 (by kernel_rfl) s_LeastCover_C (s_LeastCover_A Size Sets Costs) (by kernel_rfl) (s_LeastCover_vc Size Sets Costs hw.1.2.1.1 hw.1.2.1.2 hw.1.2.2.1) (by kernel_rfl)
def s_LeastCover_orc : List D → Orc := orcN [none] fun ds => match ds with
  | [.agg [.int .i64 Size, .sl (.rows Sets), .sl (.ints Costs)]] => some (.tup [.d (.sl (.ints (lcL Size Sets Costs))), .d (.bool (lcOk Size Sets Costs))])
  | _ => none
def i_LeastCover_C (f : FuncId) (ds : List D) : Orc := bif Nat.beq f 76 then i_IsSystem_orc ds else bif Nat.beq f 173 then i_lists_cover_orc ds else bif Nat.beq f 172 then i_least_cost_orc ds else .no
def i_LeastCover_A (Size : Int) (Sets : List (List Int)) (Costs : List Int) : Ann := .none
def i_LeastCover_P (Size : Int) (Sets : List (List Int)) (Costs : List Int) : Prop :=
  (PC Try.prog 76 [.agg [.int .i64 Size, .sl (.rows Sets), .sl (.ints Costs)]] (.one (.d (.bool (goodSys Size Sets Costs))))) ∧ (((!(goodSys Size Sets Costs)) = true → (((lcL Size Sets Costs).length = 0) ∧ (false = (lcOk Size Sets Costs)))) ∧ ((!(goodSys Size Sets Costs)) = false → (PC Try.prog 173 [.int .i64 (Sets.length : Int), .fn 166 1 [.agg [.int .i64 Size, .sl (.rows Sets), .sl (.ints Costs)]]] (.one (.d (.sl (.rows ((chs (Sets.length : Int).toNat).filter (coverB Size Sets))))))) ∧ ((((((chs (Sets.length : Int).toNat).filter (coverB Size Sets)).length : Int) == 0) = true → (((lcL Size Sets Costs).length = 0) ∧ (false = (lcOk Size Sets Costs)))) ∧ (((((chs (Sets.length : Int).toNat).filter (coverB Size Sets)).length : Int) == 0) = false → (PCs Try.prog 172 [.sl (.rows ((chs (Sets.length : Int).toNat).filter (coverB Size Sets))), .fn 178 1 [.agg [.int .i64 Size, .sl (.rows Sets), .sl (.ints Costs)]]] 0 (.sl (.ints (leastL (costOf Costs) ((chs (Sets.length : Int).toNat).filter (coverB Size Sets)))))) ∧ ((((leastL (costOf Costs) ((chs (Sets.length : Int).toNat).filter (coverB Size Sets))) : List Int) = (lcL Size Sets Costs)) ∧ (true = (lcOk Size Sets Costs)))))))
theorem i_LeastCover_vc (Size : Int) (Sets : List (List Int)) (Costs : List Int)  (w_Sets : (Sets.length : Int) ≤ 9223372036854775807) (v_Sets : ∀ x9 ∈ Sets, (x9.length : Int) ≤ 9223372036854775807) (w_Costs : (Costs.length : Int) ≤ 9223372036854775807) : i_LeastCover_P Size Sets Costs := by
  unfold i_LeastCover_P
  refine ⟨i_IsSystem_pc Size Sets Costs, ?_, ?_⟩
  ·intro b1
   try simp only [nrmT] at b1
   refine ⟨?_, ?_⟩
   ·have hq : goodSys Size Sets Costs = false := by simpa using b1
    unfold lcL lcOk; rw [hq]; rfl
   ·have hq : goodSys Size Sets Costs = false := by simpa using b1
    unfold lcOk; rw [hq]; rfl
  ·intro b2
   try simp only [nrmT] at b2
   refine ⟨?_, ?_, ?_⟩
   ·refine i_lists_cover_pc (Sets.length : Int) Size Sets Costs ?_ ?_
    ·have hq : goodSys Size Sets Costs = true := by simpa using b2
     have := gs_facts hq
     omega
    ·have hq : goodSys Size Sets Costs = true := by simpa using b2
     intro s hs
     rw [Int.toNat_natCast] at hs
     exact ⟨hq, chs_rising hs⟩
   ·intro b3
    try simp only [nrmT] at b3
    refine ⟨?_, ?_⟩
    ·rw [Int.toNat_natCast] at b3
     unfold lcL lcOk; rw [lc_none (by omega), Bool.and_false]; rfl
    ·rw [Int.toNat_natCast] at b3
     unfold lcOk; rw [lc_none (by omega), Bool.and_false]
   ·intro b4
    try simp only [nrmT] at b4
    refine ⟨?_, ?_, ?_⟩
    ·refine i_least_cost_pc ((chs (Sets.length : Int).toNat).filter (coverB Size Sets)) Size Sets Costs ?_ ?_
     ·rw [Int.toNat_natCast] at *; omega
     ·have hq : goodSys Size Sets Costs = true := by simpa using b2
      intro s hs
      rw [Int.toNat_natCast] at hs
      exact ⟨hq, chs_rising (List.mem_filter.1 hs).1⟩
    ·have hq : goodSys Size Sets Costs = true := by simpa using b2
     rw [Int.toNat_natCast] at *
     unfold lcL lcOk; rw [hq, lc_some (by omega)]; rfl
    ·have hq : goodSys Size Sets Costs = true := by simpa using b2
     rw [Int.toNat_natCast] at *
     unfold lcOk; rw [hq, lc_some (by omega)]; rfl
theorem i_LeastCover_pc (Size : Int) (Sets : List (List Int)) (Costs : List Int)  : PC Try.prog 82 [.agg [.int .i64 Size, .sl (.rows Sets), .sl (.ints Costs)]] (.tup [.d (.sl (.ints (lcL Size Sets Costs))), .d (.bool (lcOk Size Sets Costs))]) :=
  pc_wf @Try.call82 fun hw => pc_by (by kernel_rfl) Try.func82 @Try.call82 (by kernel_rfl) i_LeastCover_C (i_LeastCover_A Size Sets Costs) (by kernel_rfl) (i_LeastCover_vc Size Sets Costs hw.1.2.1.1 hw.1.2.1.2 hw.1.2.2.1) (by kernel_rfl)
def i_LeastCover_orc : List D → Orc := orcN [none] fun ds => match ds with
  | [.agg [.int .i64 Size, .sl (.rows Sets), .sl (.ints Costs)]] => some (.tup [.d (.sl (.ints (lcL Size Sets Costs))), .d (.bool (lcOk Size Sets Costs))])
  | _ => none
/-- How far a cursor has read, and its seed. -/
structure Cur where
  pos : Int
  seed : Int
abbrev cur0 : Cur := ⟨0, 0⟩
def okC (c : Cur) (b : Int) : Prop := 0 ≤ c.pos ∧ c.pos ≤ b ∧ 0 ≤ c.seed ∧ c.seed ≤ 18446744073709551615
theorem cond_cur_pos (g : Bool) (a b : Cur) : cond g a.pos b.pos = (cond g a b).pos := by cases g <;> rfl
theorem cond_cur_seed (g : Bool) (a b : Cur) : cond g a.seed b.seed = (cond g a b).seed := by cases g <;> rfl
def nxB (code : List Nat) (c : Cur) : Int := if c.pos < (code.length : Int) then ((code.getD c.pos.toNat 0 : Nat) : Int) else 0
def nextC (code : List Nat) (c : Cur) : Cur := ⟨c.pos + 1, IntKind.u64.wrap (IntKind.u64.wrap (IntKind.u64.wrap (c.seed * 6364136223846793005) + nxB code c) + 462197)⟩
def nextV (code : List Nat) (c : Cur) : Int := if c.pos + 1 ≤ (code.length : Int) then nxB code c else ((((nextC code c).seed / 2 ^ 40).toNat &&& 255 : Nat) : Int)
theorem wrap_u64 (n : Int) : 0 ≤ IntKind.u64.wrap n ∧ IntKind.u64.wrap n ≤ 18446744073709551615 := by
  have h : IntKind.u64.wrap n = n % 18446744073709551616 := rfl
  omega
theorem nxB_in {code : List Nat} (hb : ∀ x9 ∈ code, x9 < 256) (c : Cur) (h0 : 0 ≤ c.pos) : 0 ≤ nxB code c ∧ nxB code c ≤ 255 := by
  unfold nxB
  split
  · have := hb _ (getD_mem (d := 0) (show c.pos.toNat < code.length by omega))
    omega
  · omega
theorem and255 (n : Nat) : n &&& 255 ≤ 255 := Nat.and_le_right
theorem nextV_in {code : List Nat} (hb : ∀ x9 ∈ code, x9 < 256) {c : Cur} (h0 : 0 ≤ c.pos) : 0 ≤ nextV code c ∧ nextV code c ≤ 255 := by
  unfold nextV
  split
  · exact nxB_in hb c h0
  · have := and255 ((nextC code c).seed / 2 ^ 40).toNat
    omega
theorem ok_next {code : List Nat} {c : Cur} {b : Int} (h : okC c b) : okC (nextC code c) (b + 1) := by
  obtain ⟨h1, h2, _, _⟩ := h
  exact ⟨by show 0 ≤ c.pos + 1; omega, by show c.pos + 1 ≤ b + 1; omega, (wrap_u64 _).1, (wrap_u64 _).2⟩
theorem okC_le {c : Cur} {b b' : Int} (h : okC c b) (hb : b ≤ b') : okC c b' := ⟨h.1, Int.le_trans h.2.1 hb, h.2.2⟩
def s_l1Cur_next_C (f : FuncId) (ds : List D) : Orc := .no
def s_l1Cur_next_A (u : Value) (code : List Nat) (c : Cur) : Ann := .two (.none) (.two (.none) (.two (.none) (.two (.none) (.two (.reg [(5, .wrap), (8, .wrap), (9, .wrap)]) (.none)))))
def s_l1Cur_next_P (u : Value) (code : List Nat) (c : Cur) : Prop :=
  (true = true) ∧ (((decide (c.pos < (code.length : Int))) = true → (true = true) ∧ ((0 : Int) ≤ c.pos) ∧ ((c.pos : Int) < code.length) ∧ (c.pos.toNat < code.length) ∧ (-9223372036854775808 ≤ ((code.getD c.pos.toNat 0 : Nat) : Int) ∧ ((code.getD c.pos.toNat 0 : Nat) : Int) ≤ 9223372036854775807) ∧ (-9223372036854775808 ≤ (c.pos + 1) ∧ (c.pos + 1) ≤ 9223372036854775807) ∧ (0 ≤ ((code.getD c.pos.toNat 0 : Nat) : Int) ∧ ((code.getD c.pos.toNat 0 : Nat) : Int) ≤ 18446744073709551615) ∧ (true = true) ∧ (((decide ((c.pos + 1) ≤ (code.length : Int))) = true → (((.lit u (.sl (.bytes code)) : D) = .lit u (.sl (.bytes code))) ∧ ((c.pos + 1) = (nextC code c).pos) ∧ ((IntKind.u64.wrap ((IntKind.u64.wrap ((IntKind.u64.wrap (c.seed * 6364136223846793005)) + ((code.getD c.pos.toNat 0 : Nat) : Int))) + 462197)) = (nextC code c).seed) ∧ (((code.getD c.pos.toNat 0 : Nat) : Int) = (nextV code c)))) ∧ ((decide ((c.pos + 1) ≤ (code.length : Int))) = false → ((0 : Int) ≤ (IntKind.u64.wrap ((IntKind.u64.wrap ((IntKind.u64.wrap (c.seed * 6364136223846793005)) + ((code.getD c.pos.toNat 0 : Nat) : Int))) + 462197)) ∧ ((IntKind.u64.wrap ((IntKind.u64.wrap ((IntKind.u64.wrap (c.seed * 6364136223846793005)) + ((code.getD c.pos.toNat 0 : Nat) : Int))) + 462197)) : Int) ≤ 18446744073709551615) ∧ ((0 : Int) ≤ 40) ∧ ((0 : Int) ≤ ((IntKind.u64.wrap ((IntKind.u64.wrap ((IntKind.u64.wrap (c.seed * 6364136223846793005)) + ((code.getD c.pos.toNat 0 : Nat) : Int))) + 462197)) / 2 ^ 40) ∧ (((IntKind.u64.wrap ((IntKind.u64.wrap ((IntKind.u64.wrap (c.seed * 6364136223846793005)) + ((code.getD c.pos.toNat 0 : Nat) : Int))) + 462197)) / 2 ^ 40) : Int) ≤ 18446744073709551615) ∧ ((0 : Int) ≤ 255 ∧ (255 : Int) ≤ 18446744073709551615) ∧ (-9223372036854775808 ≤ ((((IntKind.u64.wrap ((IntKind.u64.wrap ((IntKind.u64.wrap (c.seed * 6364136223846793005)) + ((code.getD c.pos.toNat 0 : Nat) : Int))) + 462197)) / 2 ^ 40).toNat &&& 255 : Nat) : Int) ∧ ((((IntKind.u64.wrap ((IntKind.u64.wrap ((IntKind.u64.wrap (c.seed * 6364136223846793005)) + ((code.getD c.pos.toNat 0 : Nat) : Int))) + 462197)) / 2 ^ 40).toNat &&& 255 : Nat) : Int) ≤ 9223372036854775807) ∧ (((.lit u (.sl (.bytes code)) : D) = .lit u (.sl (.bytes code))) ∧ ((c.pos + 1) = (nextC code c).pos) ∧ ((IntKind.u64.wrap ((IntKind.u64.wrap ((IntKind.u64.wrap (c.seed * 6364136223846793005)) + ((code.getD c.pos.toNat 0 : Nat) : Int))) + 462197)) = (nextC code c).seed) ∧ (((((IntKind.u64.wrap ((IntKind.u64.wrap ((IntKind.u64.wrap (c.seed * 6364136223846793005)) + ((code.getD c.pos.toNat 0 : Nat) : Int))) + 462197)) / 2 ^ 40).toNat &&& 255 : Nat) : Int) = (nextV code c)))))) ∧ ((decide (c.pos < (code.length : Int))) = false → (-9223372036854775808 ≤ (c.pos + 1) ∧ (c.pos + 1) ≤ 9223372036854775807) ∧ (0 ≤ (0 : Int) ∧ (0 : Int) ≤ 18446744073709551615) ∧ (true = true) ∧ (((decide ((c.pos + 1) ≤ (code.length : Int))) = true → (((.lit u (.sl (.bytes code)) : D) = .lit u (.sl (.bytes code))) ∧ ((c.pos + 1) = (nextC code c).pos) ∧ ((IntKind.u64.wrap ((IntKind.u64.wrap ((IntKind.u64.wrap (c.seed * 6364136223846793005)) + 0)) + 462197)) = (nextC code c).seed) ∧ ((0 : Int) = (nextV code c)))) ∧ ((decide ((c.pos + 1) ≤ (code.length : Int))) = false → ((0 : Int) ≤ (IntKind.u64.wrap ((IntKind.u64.wrap ((IntKind.u64.wrap (c.seed * 6364136223846793005)) + 0)) + 462197)) ∧ ((IntKind.u64.wrap ((IntKind.u64.wrap ((IntKind.u64.wrap (c.seed * 6364136223846793005)) + 0)) + 462197)) : Int) ≤ 18446744073709551615) ∧ ((0 : Int) ≤ 40) ∧ ((0 : Int) ≤ ((IntKind.u64.wrap ((IntKind.u64.wrap ((IntKind.u64.wrap (c.seed * 6364136223846793005)) + 0)) + 462197)) / 2 ^ 40) ∧ (((IntKind.u64.wrap ((IntKind.u64.wrap ((IntKind.u64.wrap (c.seed * 6364136223846793005)) + 0)) + 462197)) / 2 ^ 40) : Int) ≤ 18446744073709551615) ∧ ((0 : Int) ≤ 255 ∧ (255 : Int) ≤ 18446744073709551615) ∧ (-9223372036854775808 ≤ ((((IntKind.u64.wrap ((IntKind.u64.wrap ((IntKind.u64.wrap (c.seed * 6364136223846793005)) + 0)) + 462197)) / 2 ^ 40).toNat &&& 255 : Nat) : Int) ∧ ((((IntKind.u64.wrap ((IntKind.u64.wrap ((IntKind.u64.wrap (c.seed * 6364136223846793005)) + 0)) + 462197)) / 2 ^ 40).toNat &&& 255 : Nat) : Int) ≤ 9223372036854775807) ∧ (((.lit u (.sl (.bytes code)) : D) = .lit u (.sl (.bytes code))) ∧ ((c.pos + 1) = (nextC code c).pos) ∧ ((IntKind.u64.wrap ((IntKind.u64.wrap ((IntKind.u64.wrap (c.seed * 6364136223846793005)) + 0)) + 462197)) = (nextC code c).seed) ∧ (((((IntKind.u64.wrap ((IntKind.u64.wrap ((IntKind.u64.wrap (c.seed * 6364136223846793005)) + 0)) + 462197)) / 2 ^ 40).toNat &&& 255 : Nat) : Int) = (nextV code c)))))))
theorem s_l1Cur_next_vc (u : Value) (code : List Nat) (c : Cur) (hb : ∀ x9 ∈ code, x9 < 256) (hc : okC c 1000000000000)  : s_l1Cur_next_P u code c := by
  unfold s_l1Cur_next_P
  obtain ⟨c1, c2, c3, c4⟩ := hc
  have nb := nxB_in hb c c1
  have w64 := wrap_u64
  refine ⟨rfl, ?_, ?_⟩
  ·intro b1
   try simp only [nrmT] at b1
   refine ⟨rfl, ?_, ?_, ?_, ?_, ?_, ?_, rfl, ?_, ?_⟩
   ·omega
   ·omega
   ·omega
   ·have := hb _ (getD_mem (d := 0) (show c.pos.toNat < code.length by omega))
    omega
   ·omega
   ·have := hb _ (getD_mem (d := 0) (show c.pos.toNat < code.length by omega))
    omega
   ·intro b2
    try simp only [nrmT] at b2
    refine ⟨rfl, ?_, ?_, ?_⟩
    ·rfl
    ·have hs : (nextC code c).seed = IntKind.u64.wrap (IntKind.u64.wrap (IntKind.u64.wrap (c.seed * 6364136223846793005) + nxB code c) + 462197) := rfl
     first | rw [show nxB code c = ((code.getD c.pos.toNat 0 : Nat) : Int) from if_pos (by omega)] at hs | rw [show nxB code c = 0 from if_neg (by omega)] at hs
     first | exact hs.symm | (exfalso; omega)
    ·unfold nextV nxB; rw [if_pos (by omega), if_pos (by omega)]
   ·intro b3
    try simp only [nrmT] at b3
    refine ⟨?_, ?_, ?_, ?_, ?_, rfl, ?_, ?_, ?_⟩
    ·have := hb _ (getD_mem (d := 0) (show c.pos.toNat < code.length by omega))
     omega
    ·omega
    ·have := hb _ (getD_mem (d := 0) (show c.pos.toNat < code.length by omega))
     omega
    ·omega
    ·have := hb _ (getD_mem (d := 0) (show c.pos.toNat < code.length by omega))
     omega
    ·omega
    ·have hs : (nextC code c).seed = IntKind.u64.wrap (IntKind.u64.wrap (IntKind.u64.wrap (c.seed * 6364136223846793005) + nxB code c) + 462197) := rfl
     first | rw [show nxB code c = ((code.getD c.pos.toNat 0 : Nat) : Int) from if_pos (by omega)] at hs | rw [show nxB code c = 0 from if_neg (by omega)] at hs
     first | exact hs.symm | (exfalso; omega)
    ·have hs : (nextC code c).seed = IntKind.u64.wrap (IntKind.u64.wrap (IntKind.u64.wrap (c.seed * 6364136223846793005) + nxB code c) + 462197) := rfl
     first | rw [show nxB code c = ((code.getD c.pos.toNat 0 : Nat) : Int) from if_pos (by omega)] at hs | rw [show nxB code c = 0 from if_neg (by omega)] at hs
     unfold nextV
     rw [if_neg (by omega), hs]
  ·intro b4
   try simp only [nrmT] at b4
   refine ⟨?_, ?_, rfl, ?_, ?_⟩
   ·omega
   ·omega
   ·intro b5
    try simp only [nrmT] at b5
    refine ⟨rfl, ?_, ?_, ?_⟩
    ·omega
    ·have hs : (nextC code c).seed = IntKind.u64.wrap (IntKind.u64.wrap (IntKind.u64.wrap (c.seed * 6364136223846793005) + nxB code c) + 462197) := rfl
     first | rw [show nxB code c = ((code.getD c.pos.toNat 0 : Nat) : Int) from if_pos (by omega)] at hs | rw [show nxB code c = 0 from if_neg (by omega)] at hs
     first | exact hs.symm | (exfalso; omega)
    ·omega
   ·intro b6
    try simp only [nrmT] at b6
    refine ⟨?_, ?_, ?_, ?_, ?_, rfl, ?_, ?_, ?_⟩
    ·exact w64 _
    ·omega
    ·have := w64 (IntKind.u64.wrap (IntKind.u64.wrap (c.seed * 6364136223846793005) + 0) + 462197)
     generalize IntKind.u64.wrap (IntKind.u64.wrap (IntKind.u64.wrap (c.seed * 6364136223846793005) + 0) + 462197) = z at *
     omega
    ·omega
    ·have := and255 ((IntKind.u64.wrap (IntKind.u64.wrap (IntKind.u64.wrap (c.seed * 6364136223846793005) + 0) + 462197)) / 2 ^ 40).toNat
     omega
    ·rfl
    ·have hs : (nextC code c).seed = IntKind.u64.wrap (IntKind.u64.wrap (IntKind.u64.wrap (c.seed * 6364136223846793005) + nxB code c) + 462197) := rfl
     first | rw [show nxB code c = ((code.getD c.pos.toNat 0 : Nat) : Int) from if_pos (by omega)] at hs | rw [show nxB code c = 0 from if_neg (by omega)] at hs
     first | exact hs.symm | (exfalso; omega)
    ·have hs : (nextC code c).seed = IntKind.u64.wrap (IntKind.u64.wrap (IntKind.u64.wrap (c.seed * 6364136223846793005) + nxB code c) + 462197) := rfl
     first | rw [show nxB code c = ((code.getD c.pos.toNat 0 : Nat) : Int) from if_pos (by omega)] at hs | rw [show nxB code c = 0 from if_neg (by omega)] at hs
     unfold nextV
     rw [if_neg (by omega), hs]
theorem s_l1Cur_next_pk (code : List Nat) (c : Cur) (hb : ∀ x9 ∈ code, x9 < 256) (hc : okC c 1000000000000) : PK Try.prog 195 98 (.sl (.bytes code)) [.int .i64 c.pos, .int .u64 c.seed] [.int .i64 (nextC code c).pos, .int .u64 (nextC code c).seed] [] (.one (.d (.int .i64 (nextV code c)))) :=
  pk_by (Q := fun u => s_l1Cur_next_P u code c) (by kernel_rfl) Try.func195 @Try.call195 (by kernel_rfl) s_l1Cur_next_C (fun u => s_l1Cur_next_A u code c) (by kernel_rfl) (fun u => s_l1Cur_next_vc u code c hb hc) (fun u => by kernel_rfl)
def pickC (code : List Nat) (c : Cur) (n : Int) : Cur := if n ≤ 1 then c else if n > 200 then nextC code (nextC code c) else nextC code c
def pickV (code : List Nat) (c : Cur) (n : Int) : Int := if n ≤ 1 then 0 else (if n > 200 then nextV code c * 256 + nextV code (nextC code c) else nextV code c) % n
theorem ok_pick {code : List Nat} {c : Cur} {n b : Int} (h : okC c b) : okC (pickC code c n) (b + 2) := by
  unfold pickC
  split
  · exact okC_le h (by omega)
  · split
    · have := ok_next (code := code) (ok_next (code := code) h)
      exact okC_le this (by omega)
    · exact okC_le (ok_next h) (by omega)
theorem pickV_in (code : List Nat) (c : Cur) {n : Int} (hn : 1 ≤ n) : 0 ≤ pickV code c n ∧ pickV code c n < n := by
  unfold pickV
  split
  · omega
  · exact ⟨Int.emod_nonneg _ (by omega), Int.emod_lt_of_pos _ (by omega)⟩
theorem pickV_le (code : List Nat) (c : Cur) (n : Int) : 0 ≤ pickV code c n := by
  by_cases h : 1 ≤ n
  · exact (pickV_in code c h).1
  · unfold pickV; rw [if_pos (by omega)]; omega
def s_l1Cur_pick_C (f : FuncId) (ds : List D) : Orc := .no
def s_l1Cur_pick_A (u : Value) (code : List Nat) (c : Cur) (n : Int) : Ann := .two (.none) (.two (.none) (.two (.mark [] [(1, .cell [.int .i64 ((nextC code c).pos), .int .u64 ((nextC code c).seed)] (.one (.d (.int .i64 (nextV code c)))))]) (.two (.two (.none) (.two (.mark [] [(3, .cell [.int .i64 ((nextC code (nextC code c)).pos), .int .u64 ((nextC code (nextC code c)).seed)] (.one (.d (.int .i64 (nextV code (nextC code c))))))]) (.none))) (.none))))
def s_l1Cur_pick_P (u : Value) (code : List Nat) (c : Cur) (n : Int) : Prop :=
  (((decide (n ≤ 1)) = true → (((.lit u (.sl (.bytes code)) : D) = .lit u (.sl (.bytes code))) ∧ (c.pos = (pickC code c n).pos) ∧ (c.seed = (pickC code c n).seed) ∧ ((0 : Int) = (pickV code c n)))) ∧ ((decide (n ≤ 1)) = false → (PK Try.prog 195 98 (.sl (.bytes code)) [.int .i64 c.pos, .int .u64 c.seed] [.int .i64 ((nextC code c).pos), .int .u64 ((nextC code c).seed)] [] (.one (.d (.int .i64 (nextV code c))))) ∧ (((decide (n > 200)) = true → (-9223372036854775808 ≤ ((nextV code c) * 256) ∧ ((nextV code c) * 256) ≤ 9223372036854775807) ∧ (PK Try.prog 195 98 (.sl (.bytes code)) [.int .i64 ((nextC code c).pos), .int .u64 ((nextC code c).seed)] [.int .i64 ((nextC code (nextC code c)).pos), .int .u64 ((nextC code (nextC code c)).seed)] [] (.one (.d (.int .i64 (nextV code (nextC code c)))))) ∧ (-9223372036854775808 ≤ (((nextV code c) * 256) + (nextV code (nextC code c))) ∧ (((nextV code c) * 256) + (nextV code (nextC code c))) ≤ 9223372036854775807) ∧ ((0 : Int) ≤ (((nextV code c) * 256) + (nextV code (nextC code c)))) ∧ ((1 : Int) ≤ n) ∧ (((.lit u (.sl (.bytes code)) : D) = .lit u (.sl (.bytes code))) ∧ ((nextC code (nextC code c)).pos = (pickC code c n).pos) ∧ ((nextC code (nextC code c)).seed = (pickC code c n).seed) ∧ (((((nextV code c) * 256) + (nextV code (nextC code c))) % n) = (pickV code c n)))) ∧ ((decide (n > 200)) = false → ((0 : Int) ≤ (nextV code c)) ∧ ((1 : Int) ≤ n) ∧ (((.lit u (.sl (.bytes code)) : D) = .lit u (.sl (.bytes code))) ∧ ((nextC code c).pos = (pickC code c n).pos) ∧ ((nextC code c).seed = (pickC code c n).seed) ∧ (((nextV code c) % n) = (pickV code c n)))))))
theorem s_l1Cur_pick_vc (u : Value) (code : List Nat) (c : Cur) (n : Int) (hb : ∀ x9 ∈ code, x9 < 256) (hc : okC c 900000000000)  : s_l1Cur_pick_P u code c n := by
  unfold s_l1Cur_pick_P
  refine ⟨?_, ?_⟩
  ·intro b1
   try simp only [nrmT] at b1
   refine ⟨rfl, ?_, ?_, ?_⟩
   ·unfold pickC; first | rw [if_pos (by omega)] | rw [if_neg (by omega), if_pos (by omega)] | rw [if_neg (by omega), if_neg (by omega)]
   ·unfold pickC; first | rw [if_pos (by omega)] | rw [if_neg (by omega), if_pos (by omega)] | rw [if_neg (by omega), if_neg (by omega)]
   ·unfold pickV; first | rw [if_pos (by omega)] | rw [if_neg (by omega), if_pos (by omega)] | rw [if_neg (by omega), if_neg (by omega)]
  ·intro b2
   try simp only [nrmT] at b2
   refine ⟨?_, ?_, ?_⟩
   ·refine s_l1Cur_next_pk code c ?_ ?_
    ·exact hb
    ·exact okC_le (by repeat (first | assumption | apply ok_pick | apply ok_next)) (by omega)
   ·intro b3
    try simp only [nrmT] at b3
    refine ⟨?_, ?_, ?_, ?_, ?_, rfl, ?_, ?_, ?_⟩
    ·have q0 := nextV_in hb (c := c) hc.1
     have q1 := nextV_in hb (c := nextC code c) (ok_next hc).1
     omega
    ·refine s_l1Cur_next_pk code (nextC code c) ?_ ?_
     ·exact hb
     ·exact okC_le (by repeat (first | assumption | apply ok_pick | apply ok_next)) (by omega)
    ·have q0 := nextV_in hb (c := c) hc.1
     have q1 := nextV_in hb (c := nextC code c) (ok_next hc).1
     omega
    ·have q0 := nextV_in hb (c := c) hc.1
     have q1 := nextV_in hb (c := nextC code c) (ok_next hc).1
     omega
    ·omega
    ·unfold pickC; first | rw [if_pos (by omega)] | rw [if_neg (by omega), if_pos (by omega)] | rw [if_neg (by omega), if_neg (by omega)]
    ·unfold pickC; first | rw [if_pos (by omega)] | rw [if_neg (by omega), if_pos (by omega)] | rw [if_neg (by omega), if_neg (by omega)]
    ·unfold pickV; first | rw [if_pos (by omega)] | rw [if_neg (by omega), if_pos (by omega)] | rw [if_neg (by omega), if_neg (by omega)]
   ·intro b4
    try simp only [nrmT] at b4
    refine ⟨?_, ?_, rfl, ?_, ?_, ?_⟩
    ·have q0 := nextV_in hb (c := c) hc.1
     have q1 := nextV_in hb (c := nextC code c) (ok_next hc).1
     omega
    ·omega
    ·unfold pickC; first | rw [if_pos (by omega)] | rw [if_neg (by omega), if_pos (by omega)] | rw [if_neg (by omega), if_neg (by omega)]
    ·unfold pickC; first | rw [if_pos (by omega)] | rw [if_neg (by omega), if_pos (by omega)] | rw [if_neg (by omega), if_neg (by omega)]
    ·unfold pickV; first | rw [if_pos (by omega)] | rw [if_neg (by omega), if_pos (by omega)] | rw [if_neg (by omega), if_neg (by omega)]
theorem s_l1Cur_pick_pk (code : List Nat) (c : Cur) (n : Int) (hb : ∀ x9 ∈ code, x9 < 256) (hc : okC c 900000000000) : PK Try.prog 107 98 (.sl (.bytes code)) [.int .i64 c.pos, .int .u64 c.seed] [.int .i64 (pickC code c n).pos, .int .u64 (pickC code c n).seed] [.int .i64 n] (.one (.d (.int .i64 (pickV code c n)))) :=
  pk_by (Q := fun u => s_l1Cur_pick_P u code c n) (by kernel_rfl) Try.func107 @Try.call107 (by kernel_rfl) s_l1Cur_pick_C (fun u => s_l1Cur_pick_A u code c n) (by kernel_rfl) (fun u => s_l1Cur_pick_vc u code c n hb hc) (fun u => by kernel_rfl)
def s_l1Cur_among_C (f : FuncId) (ds : List D) : Orc := .no
def s_l1Cur_among_A (u : Value) (code : List Nat) (c : Cur) (list : List Int) : Ann := .two (.none) (.two (.mark [] [(4, .cell [.int .i64 ((pickC code c (list.length : Int)).pos), .int .u64 ((pickC code c (list.length : Int)).seed)] (.one (.d (.int .i64 (pickV code c (list.length : Int))))))]) (.none))
def s_l1Cur_among_P (u : Value) (code : List Nat) (c : Cur) (list : List Int) : Prop :=
  (PK Try.prog 107 98 (.sl (.bytes code)) [.int .i64 c.pos, .int .u64 c.seed] [.int .i64 ((pickC code c (list.length : Int)).pos), .int .u64 ((pickC code c (list.length : Int)).seed)] [.int .i64 (list.length : Int)] (.one (.d (.int .i64 (pickV code c (list.length : Int)))))) ∧ ((0 : Int) ≤ (pickV code c (list.length : Int))) ∧ (((pickV code c (list.length : Int)) : Int) < list.length) ∧ ((pickV code c (list.length : Int)).toNat < list.length) ∧ (((.lit u (.sl (.bytes code)) : D) = .lit u (.sl (.bytes code))) ∧ ((pickC code c (list.length : Int)).pos = (pickC code c (list.length : Int)).pos) ∧ ((pickC code c (list.length : Int)).seed = (pickC code c (list.length : Int)).seed) ∧ ((list.getD ((pickV code c (list.length : Int)).toNat) 0) = (list.getD (pickV code c (list.length : Int)).toNat 0)))
theorem s_l1Cur_among_vc (u : Value) (code : List Nat) (c : Cur) (list : List Int) (hb : ∀ x9 ∈ code, x9 < 256) (hc : okC c 800000000000) (hl : 0 < list.length)  : s_l1Cur_among_P u code c list := by
  unfold s_l1Cur_among_P
  refine ⟨?_, ?_, ?_, ?_, rfl, rfl, rfl, ?_⟩
  ·refine s_l1Cur_pick_pk code c (list.length : Int) ?_ ?_
   ·exact hb
   ·exact okC_le (by repeat (first | assumption | apply ok_pick | apply ok_next)) (by omega)
  ·have := pickV_in code c (n := (list.length : Int)) (by omega)
   omega
  ·have := pickV_in code c (n := (list.length : Int)) (by omega)
   omega
  ·have := pickV_in code c (n := (list.length : Int)) (by omega)
   omega
  ·have := pickV_in code c (n := (list.length : Int)) (by omega)
   omega
theorem s_l1Cur_among_pk (code : List Nat) (c : Cur) (list : List Int) (hb : ∀ x9 ∈ code, x9 < 256) (hc : okC c 800000000000) (hl : 0 < list.length) : PK Try.prog 106 98 (.sl (.bytes code)) [.int .i64 c.pos, .int .u64 c.seed] [.int .i64 (pickC code c (list.length : Int)).pos, .int .u64 (pickC code c (list.length : Int)).seed] [.sl (.ints list)] (.one (.d (.int .i64 (list.getD (pickV code c (list.length : Int)).toNat 0)))) :=
  pk_by (Q := fun u => s_l1Cur_among_P u code c list) (by kernel_rfl) Try.func106 @Try.call106 (by kernel_rfl) s_l1Cur_among_C (fun u => s_l1Cur_among_A u code c list) (by kernel_rfl) (fun u => s_l1Cur_among_vc u code c list hb hc hl) (fun u => by kernel_rfl)
def s_l1Cur_one_C (f : FuncId) (ds : List D) : Orc := .no
def s_l1Cur_one_A (u : Value) (code : List Nat) (c : Cur) (n : Int) : Ann := .two (.none) (.two (.mark [] [(2, .cell [.int .i64 ((pickC code c n).pos), .int .u64 ((pickC code c n).seed)] (.one (.d (.int .i64 (pickV code c n)))))]) (.none))
def s_l1Cur_one_P (u : Value) (code : List Nat) (c : Cur) (n : Int) : Prop :=
  (PK Try.prog 107 98 (.sl (.bytes code)) [.int .i64 c.pos, .int .u64 c.seed] [.int .i64 ((pickC code c n).pos), .int .u64 ((pickC code c n).seed)] [.int .i64 n] (.one (.d (.int .i64 (pickV code c n))))) ∧ (((.lit u (.sl (.bytes code)) : D) = .lit u (.sl (.bytes code))) ∧ ((pickC code c n).pos = (pickC code c n).pos) ∧ ((pickC code c n).seed = (pickC code c n).seed) ∧ (((pickV code c n) == 0) = (pickV code c n == 0)))
theorem s_l1Cur_one_vc (u : Value) (code : List Nat) (c : Cur) (n : Int) (hb : ∀ x9 ∈ code, x9 < 256) (hc : okC c 800000000000)  : s_l1Cur_one_P u code c n := by
  unfold s_l1Cur_one_P
  refine ⟨?_, rfl, rfl, rfl, ?_⟩
  ·refine s_l1Cur_pick_pk code c n ?_ ?_
   ·exact hb
   ·exact okC_le (by repeat (first | assumption | apply ok_pick | apply ok_next)) (by omega)
  ·rfl
theorem s_l1Cur_one_pk (code : List Nat) (c : Cur) (n : Int) (hb : ∀ x9 ∈ code, x9 < 256) (hc : okC c 800000000000) : PK Try.prog 108 98 (.sl (.bytes code)) [.int .i64 c.pos, .int .u64 c.seed] [.int .i64 (pickC code c n).pos, .int .u64 (pickC code c n).seed] [.int .i64 n] (.one (.d (.bool (pickV code c n == 0)))) :=
  pk_by (Q := fun u => s_l1Cur_one_P u code c n) (by kernel_rfl) Try.func108 @Try.call108 (by kernel_rfl) s_l1Cur_one_C (fun u => s_l1Cur_one_A u code c n) (by kernel_rfl) (fun u => s_l1Cur_one_vc u code c n hb hc) (fun u => by kernel_rfl)
theorem okC0 : okC cur0 0 := by unfold okC; decide
theorem pick_mem (l : List Int) (code : List Nat) (c : Cur) (h : 0 < l.length) : l.getD (pickV code c (l.length : Int)).toNat 0 ∈ l := by
  have := pickV_in code c (n := (l.length : Int)) (by omega)
  exact getD_mem (by omega)
def l_rBig_C (f : FuncId) (ds : List D) : Orc := .no
def l_rBig_A (code : List Nat) : Ann := .none
def l_rBig_P (code : List Nat) : Prop :=
  (((decide ((code.length : Int) > 65536)) = (decide ((code.length : Int) > 65536))))
theorem l_rBig_vc (code : List Nat)  (w_code : (code.length : Int) ≤ 9223372036854775807) : l_rBig_P code := by
  unfold l_rBig_P
  exact rfl
theorem l_rBig_pc (code : List Nat)  : PC Try.prog 14 [.sl (.bytes code)] (.one (.d (.bool (decide ((code.length : Int) > 65536))))) :=
  pc_wf @Try.call14 fun hw => pc_by (by kernel_rfl) Try.func14 @Try.call14 (by kernel_rfl) l_rBig_C (l_rBig_A code) (by kernel_rfl) (l_rBig_vc code hw.1) (by kernel_rfl)
def l_rBig_orc : List D → Orc := orcN [some .bytes] fun ds => match ds with
  | [.sl (.bytes code)] => some (.one (.d (.bool (decide ((code.length : Int) > 65536)))))
  | _ => none
abbrev l_rInts_JJ0 (xs : List Int) (ys : List Int) (i : Int) : Prop := (0 ≤ i) ∧ (i ≤ (xs.length : Int)) ∧ (allTo (fun k => xs.getD k 0 == ys.getD k 0) i.toNat = true) ∧ (xs.length = ys.length)
abbrev l_rInts_mJ0 (xs : List Int) (ys : List Int) (i : Int) : Nat := (xs.length - i).toNat
def l_rInts_C (f : FuncId) (ds : List D) : Orc := .no
def l_rInts_A (xs : List Int) (ys : List Int) : Ann := .two (.none) (.two (.none) (.two (.two (.none) (.loop (cut1 (fun (i : Int) => l_rInts_JJ0 xs ys i) (fun (i : Int) => [(0, .d false (.sl (.ints xs))), (1, .d false (.sl (.ints ys))), (5, .d true (.int .i64 i))]) (fun (i : Int) => [])) (fun g => l_rInts_mJ0 xs ys g) (fun _ => .none))) (.none)))
def l_rInts_P (xs : List Int) (ys : List Int) : Prop :=
  ((((xs.length : Int) != (ys.length : Int)) = true → ((false = (xs == ys)))) ∧ (((xs.length : Int) != (ys.length : Int)) = false → ((∃ i' : Int, (l_rInts_JJ0 xs ys i') ∧ (xs = xs) ∧ (ys = ys) ∧ ((0 : Int) = i')) ∧ (∀ i : Int, (l_rInts_JJ0 xs ys i) → (((decide (i < (xs.length : Int))) = true → (true = true) ∧ ((0 : Int) ≤ i) ∧ ((i : Int) < xs.length) ∧ (i.toNat < xs.length) ∧ ((0 : Int) ≤ i) ∧ ((i : Int) < ys.length) ∧ (i.toNat < ys.length) ∧ ((((xs.getD i.toNat 0) != (ys.getD i.toNat 0)) = true → ((false = (xs == ys)))) ∧ (((xs.getD i.toNat 0) != (ys.getD i.toNat 0)) = false → (-9223372036854775808 ≤ (i + 1) ∧ (i + 1) ≤ 9223372036854775807) ∧ (∃ i' : Int, (l_rInts_JJ0 xs ys i') ∧ (l_rInts_mJ0 xs ys i' < l_rInts_mJ0 xs ys i) ∧ (xs = xs) ∧ (ys = ys) ∧ ((i + 1) = i'))))) ∧ ((decide (i < (xs.length : Int))) = false → ((true = (xs == ys)))))))))
theorem l_rInts_vc (xs : List Int) (ys : List Int)  (w_xs : (xs.length : Int) ≤ 9223372036854775807) (w_ys : (ys.length : Int) ≤ 9223372036854775807) : l_rInts_P xs ys := by
  unfold l_rInts_P
  refine ⟨?_, ?_⟩
  ·intro b1
   try simp only [nrmT] at b1
   exact (len_ne (by omega)).symm
  ·intro b2
   try simp only [nrmT] at b2
   refine ⟨?_, ?_⟩
   ·refine ⟨0, ?_⟩
    refine ⟨?_, rfl, rfl, rfl⟩
    ·refine ⟨?_, ?_, ?_, ?_⟩
     ·omega
     ·omega
     ·rfl
     ·omega
   ·intro i hJ
    obtain ⟨h1, h2, h3, h4⟩ := hJ
    refine ⟨?_, ?_⟩
    ·intro b3
     try simp only [nrmT] at b3
     refine ⟨rfl, ?_, ?_, ?_, ?_, ?_, ?_, ?_, ?_⟩
     ·omega
     ·omega
     ·omega
     ·omega
     ·omega
     ·omega
     ·intro b4
      try simp only [nrmT] at b4
      rw [← beq_of_all (d := 0) h4]; exact (allTo_falseI h1 (by omega) (by simpa using b4)).symm
     ·intro b5
      try simp only [nrmT] at b5
      refine ⟨?_, ?_⟩
      ·omega
      ·refine ⟨(i + 1), ?_⟩
       refine ⟨?_, ?_, rfl, rfl, rfl⟩
       ·refine ⟨?_, ?_, ?_, ?_⟩
        ·omega
        ·omega
        ·exact allTo_step h1 h3 (by simpa using b5)
        ·omega
       ·first | (show _ < _; omega) | (simp only [l_rInts_mJ0]; omega) | (simp only [l_rInts_mJ0] at *; simp at *; omega)
    ·intro b6
     try simp only [nrmT] at b6
     rw [← beq_of_all (d := 0) h4, ← h3]; congr 1; omega
theorem l_rInts_pc (xs : List Int) (ys : List Int)  : PC Try.prog 18 [.sl (.ints xs), .sl (.ints ys)] (.one (.d (.bool (xs == ys)))) :=
  pc_wf @Try.call18 fun hw => pc_by (by kernel_rfl) Try.func18 @Try.call18 (by kernel_rfl) l_rInts_C (l_rInts_A xs ys) (by kernel_rfl) (l_rInts_vc xs ys hw.1 hw.2.1) (by kernel_rfl)
def l_rInts_orc : List D → Orc := orcN [some .ints, some .ints] fun ds => match ds with
  | [.sl (.ints xs), .sl (.ints ys)] => some (.one (.d (.bool (xs == ys))))
  | _ => none
abbrev s_l2Bits_own_JJ0 (n : Int) (code : Int) (out : List Int) (x : Int) : Prop := (0 ≤ x) ∧ (x ≤ n) ∧ (out = members (fun k => code.toNat.testBit k) x.toNat)
abbrev s_l2Bits_own_mJ0 (n : Int) (code : Int) (out : List Int) (x : Int) : Nat := (n - x).toNat
def s_l2Bits_own_C (f : FuncId) (ds : List D) : Orc := .no
def s_l2Bits_own_A (n : Int) (code : Int) : Ann := .two (.none) (.two (.none) (.two (.two (.none) (.loop (cut2 (fun (out : List Int) (x : Int) => s_l2Bits_own_JJ0 n code out x) (fun (out : List Int) (x : Int) => [(0, .d false (.int .i64 n)), (1, .d false (.int .i64 code)), (5, .own 1000000 out.length), (6, .d true (.int .i64 x))]) (fun (out : List Int) (x : Int) => [(1000000, .arr true 3 (.ints out))])) (fun g => s_l2Bits_own_mJ0 n code g.1 g.2) (fun _ => .none))) (.none)))
def s_l2Bits_own_P (n : Int) (code : Int) : Prop :=
  ((∃ out' : List Int, ∃ x' : Int, (s_l2Bits_own_JJ0 n code out' x') ∧ (n = n) ∧ (code = code) ∧ ((0 : Nat) = out'.length) ∧ ((0 : Int) = x') ∧ ([] = out')) ∧ (∀ out : List Int, ∀ x : Int, (s_l2Bits_own_JJ0 n code out x) → (((decide (x < n)) = true → ((0 : Int) ≤ code ∧ (code : Int) ≤ 9223372036854775807) ∧ ((0 : Int) ≤ x) ∧ ((0 : Int) ≤ (code / 2 ^ x.toNat) ∧ ((code / 2 ^ x.toNat) : Int) ≤ 9223372036854775807) ∧ ((0 : Int) ≤ 1 ∧ (1 : Int) ≤ 9223372036854775807) ∧ ((((((code / 2 ^ x.toNat).toNat &&& 1 : Nat) : Int) == 1) = true → (out.length = out.length) ∧ ((1 : Nat) = 1) ∧ ((out.length + 1) * 8 ≤ 140737488355328) ∧ (-9223372036854775808 ≤ (x + 1) ∧ (x + 1) ≤ 9223372036854775807) ∧ (∃ out' : List Int, ∃ x' : Int, (s_l2Bits_own_JJ0 n code out' x') ∧ (s_l2Bits_own_mJ0 n code out' x' < s_l2Bits_own_mJ0 n code out x) ∧ (n = n) ∧ (code = code) ∧ ((out.length + 1) = out'.length) ∧ ((x + 1) = x') ∧ ((out ++ [x]) = out'))) ∧ (((((code / 2 ^ x.toNat).toNat &&& 1 : Nat) : Int) == 1) = false → (-9223372036854775808 ≤ (x + 1) ∧ (x + 1) ≤ 9223372036854775807) ∧ (∃ out' : List Int, ∃ x' : Int, (s_l2Bits_own_JJ0 n code out' x') ∧ (s_l2Bits_own_mJ0 n code out' x' < s_l2Bits_own_mJ0 n code out x) ∧ (n = n) ∧ (code = code) ∧ (out.length = out'.length) ∧ ((x + 1) = x') ∧ (out = out'))))) ∧ ((decide (x < n)) = false → ((out.length = out.length) ∧ ((out : List Int) = members (fun k => code.toNat.testBit k) n.toNat))))))
theorem s_l2Bits_own_vc (n : Int) (code : Int) (hn : 0 ≤ n ∧ n ≤ 62) (hc : 0 ≤ code ∧ code ≤ 4611686018427387903)  : s_l2Bits_own_P n code := by
  unfold s_l2Bits_own_P
  refine ⟨?_, ?_⟩
  ·refine ⟨([]), 0, ?_⟩
   refine ⟨?_, rfl, rfl, rfl, rfl, ?_⟩
   ·refine ⟨?_, ?_, ?_⟩
    ·omega
    ·omega
    ·rfl
   ·rfl
  ·intro out x hJ
   obtain ⟨h1, h2, h3⟩ := hJ
   refine ⟨?_, ?_⟩
   ·intro b1
    try simp only [nrmT] at b1
    refine ⟨?_, ?_, ?_, ?_, ?_, ?_⟩
    ·omega
    ·omega
    ·have h5 : 0 ≤ code / 2 ^ x.toNat := Int.ediv_nonneg hc.1 (Int.le_of_lt (Int.pow_pos (by omega)))
     have h6 : code / 2 ^ x.toNat ≤ code := Int.ediv_le_self _ hc.1
     omega
    ·omega
    ·intro b2
     try simp only [nrmT] at b2
     refine ⟨rfl, rfl, ?_, ?_, ?_⟩
     ·rw [h3]; have := members_len_le (fun k => code.toNat.testBit k) x.toNat; omega
     ·omega
     ·refine ⟨(out ++ [x]), (x + 1), ?_⟩
      refine ⟨?_, ?_, rfl, rfl, ?_, rfl, rfl⟩
      ·refine ⟨?_, ?_, ?_⟩
       ·omega
       ·omega
       ·have hb := shr_bit (n := code.toNat) (k := x.toNat)
        rw [show ((code.toNat : Nat) : Int) = code by omega] at hb
        have ht : code.toNat.testBit x.toNat = true := by
          cases h : code.toNat.testBit x.toNat with
          | true => rfl
          | false => rw [h] at hb; simp at hb; simp at b2; omega
        rw [h3, show (x + 1).toNat = x.toNat + 1 by omega, members_succ, if_pos ht, show ((x.toNat : Nat) : Int) = x by omega]
      ·first | (show _ < _; omega) | (simp only [s_l2Bits_own_mJ0]; omega) | (simp only [s_l2Bits_own_mJ0] at *; simp at *; omega)
      ·simp
    ·intro b3
     try simp only [nrmT] at b3
     refine ⟨?_, ?_⟩
     ·omega
     ·refine ⟨out, (x + 1), ?_⟩
      refine ⟨?_, ?_, rfl, rfl, rfl, rfl, rfl⟩
      ·refine ⟨?_, ?_, ?_⟩
       ·omega
       ·omega
       ·have hb := shr_bit (n := code.toNat) (k := x.toNat)
        rw [show ((code.toNat : Nat) : Int) = code by omega] at hb
        have ht : code.toNat.testBit x.toNat = false := by
          cases h : code.toNat.testBit x.toNat with
          | false => rfl
          | true => rw [h] at hb; simp at hb; simp at b3; omega
        rw [h3, show (x + 1).toNat = x.toNat + 1 by omega, members_succ, ht]; simp
      ·first | (show _ < _; omega) | (simp only [s_l2Bits_own_mJ0]; omega) | (simp only [s_l2Bits_own_mJ0] at *; simp at *; omega)
   ·intro b4
    try simp only [nrmT] at b4
    refine ⟨rfl, ?_⟩
    ·rw [h3, show x.toNat = n.toNat by omega]
theorem s_l2Bits_own_pc (n : Int) (code : Int) (hn : 0 ≤ n ∧ n ≤ 62) (hc : 0 ≤ code ∧ code ≤ 4611686018427387903) : PC Try.prog 164 [.int .i64 n, .int .i64 code] (.one (.own 3 (.ints (members (fun k => code.toNat.testBit k) n.toNat)))) :=
  pc_wf @Try.call164 fun _ => pc_by (by kernel_rfl) Try.func164 @Try.call164 (by kernel_rfl) s_l2Bits_own_C (s_l2Bits_own_A n code) (by kernel_rfl) (s_l2Bits_own_vc n code hn hc) (by kernel_rfl)
theorem ok_cond {g : Bool} {a b : Cur} {x y : Int} (ha : okC a x) (hb : okC b y) : okC (cond g a b) (max x y) := by
  cases g
  · exact okC_le hb (by omega)
  · exact okC_le ha (by omega)
theorem pick_ev {p : Int → Prop} (l : List Int) (code : List Nat) (c : Cur) (h0 : 0 < l.length) (h : ∀ x ∈ l, p x) : p (l.getD (pickV code c (l.length : Int)).toNat 0) := h _ (pick_mem l code c h0)
theorem or256 {a b : Int} (ha : 0 ≤ a ∧ a < 256) (hb : 0 ≤ b ∧ b ≤ 255) : ((a.toNat ||| b.toNat : Nat) : Int) < 256 := by
  have h := Nat.or_lt_two_pow (n := 8) (x := a.toNat) (y := b.toNat) (by omega) (by omega)
  have he : (2 : Nat) ^ 8 = 256 := by decide
  omega
theorem and256 {a : Int} {n : Nat} (ha : 0 ≤ a ∧ a < 256) : ((a.toNat &&& n : Nat) : Int) < 256 := by
  have h := Nat.and_le_left (n := a.toNat) (m := n)
  omega
theorem rows_snoc {l : List (List Int)} {x : List Int} {m : Nat} (h : ∀ r ∈ l, r.length ≤ m) (hx : x.length ≤ m) : ∀ r ∈ l ++ [x], r.length ≤ m := by
  intro r hr
  rcases List.mem_append.1 hr with hr | hr
  · exact h r hr
  · rw [List.mem_singleton.1 hr]; exact hx
abbrev s_l1Cur_system_JJ0 (u : Value) (code : List Nat) (c : Cur) (n : Int) (c0 : Cur) (sz0 : Int) (se0 : List (List Int)) (co0 : List Int) (i : Int) (c1 : Cur) (sz : Int) (sets : List (List Int)) (costs : List Int) : Prop := (0 ≤ sz ∧ sz ≤ 8) ∧ (0 ≤ i) ∧ (i ≤ n) ∧ (sets.length = i.toNat) ∧ (costs.length = i.toNat) ∧ (okC c1 (1000010 + 10 * i)) ∧ (∀ r ∈ sets, r.length ≤ 8)
abbrev s_l1Cur_system_mJ0 (u : Value) (code : List Nat) (c : Cur) (n : Int) (c0 : Cur) (sz0 : Int) (se0 : List (List Int)) (co0 : List Int) (i : Int) (c1 : Cur) (sz : Int) (sets : List (List Int)) (costs : List Int) : Nat := (n - i).toNat
abbrev s_l1Cur_system_JA0 (u : Value) (code : List Nat) (c : Cur) (n : Int) (c0 : Cur) (sz0 : Int) (se0 : List (List Int)) (co0 : List Int) (c2 : Cur) (sz1 : Int) (set1 : List (List Int)) (cost1 : List Int) : Prop := (okC c2 1000200) ∧ (set1.length = n.toNat) ∧ (cost1.length = n.toNat) ∧ (∀ r ∈ set1, r.length ≤ 8)
abbrev s_l1Cur_system_JJ1 (u : Value) (code : List Nat) (c : Cur) (n : Int) (c0 : Cur) (sz0 : Int) (se0 : List (List Int)) (co0 : List Int) (c2 : Cur) (sz1 : Int) (set1 : List (List Int)) (cost1 : List Int) (sz2 : Int) (se : List (List Int)) (co : List Int) : Prop := (se.length ≤ 9) ∧ (co.length = se.length)
abbrev s_l1Cur_system_mJ1 (u : Value) (code : List Nat) (c : Cur) (n : Int) (c0 : Cur) (sz0 : Int) (se0 : List (List Int)) (co0 : List Int) (c2 : Cur) (sz1 : Int) (set1 : List (List Int)) (cost1 : List Int) (sz2 : Int) (se : List (List Int)) (co : List Int) : Nat := 9 - se.length
abbrev s_l1Cur_system_JR1 (u : Value) (code : List Nat) (c : Cur) (n : Int) (c0 : Cur) (sz0 : Int) (se0 : List (List Int)) (co0 : List Int) : Prop := (0 ≤ n ∧ n ≤ 8) ∧ (okC c0 1000010) ∧ (0 ≤ sz0 ∧ sz0 ≤ 8) ∧ (se0 = []) ∧ (co0 = [])
abbrev s_l1Cur_system_Q (code : List Nat) (c : Cur) (Z : Int) (S : List (List Int)) (K : List Int) (cz : Cur) : Prop := (okC cz 1001000)
def s_l1Cur_system_X (code : List Nat) (c : Cur) : Ex := ex4 1 (fun (Z : Int) (S : List (List Int)) (K : List Int) (cz : Cur) => s_l1Cur_system_Q code c Z S K cz) (fun (Z : Int) (S : List (List Int)) (K : List Int) (cz : Cur) => [.int .i64 cz.pos, .int .u64 cz.seed]) (fun (Z : Int) (S : List (List Int)) (K : List Int) (cz : Cur) => .one (.d (.agg [.int .i64 Z, .sl (.rows S), .sl (.ints K)])))
def s_l1Cur_system_C (f : FuncId) (ds : List D) : Orc := .no
def s_l1Cur_system_A (u : Value) (code : List Nat) (c : Cur) : Ann := .two (.none) (.cut (.mark [] [(2, .cell [.int .i64 ((pickC code c (([5, 4, 6, 3, 8, 2, 1, 0]).length : Int)).pos), .int .u64 ((pickC code c (([5, 4, 6, 3, 8, 2, 1, 0]).length : Int)).seed)] (.one (.d (.int .i64 (([5, 4, 6, 3, 8, 2, 1, 0]).getD (pickV code c (([5, 4, 6, 3, 8, 2, 1, 0]).length : Int)).toNat 0))))), (6, .cell [.int .i64 ((pickC code (pickC code c (([5, 4, 6, 3, 8, 2, 1, 0]).length : Int)) (([4, 5, 3, 6, 8, 2, 1, 0]).length : Int)).pos), .int .u64 ((pickC code (pickC code c (([5, 4, 6, 3, 8, 2, 1, 0]).length : Int)) (([4, 5, 3, 6, 8, 2, 1, 0]).length : Int)).seed)] (.one (.d (.int .i64 (([4, 5, 3, 6, 8, 2, 1, 0]).getD (pickV code (pickC code c (([5, 4, 6, 3, 8, 2, 1, 0]).length : Int)) (([4, 5, 3, 6, 8, 2, 1, 0]).length : Int)).toNat 0)))))]) (cut5 (fun (n : Int) (c0 : Cur) (sz0 : Int) (se0 : List (List Int)) (co0 : List Int) => s_l1Cur_system_JR1 u code c n c0 sz0 se0 co0) (fun (n : Int) (c0 : Cur) (sz0 : Int) (se0 : List (List Int)) (co0 : List Int) => [(0, .ptr 0 0), (2, .ptr 2 0), (3, .ptr 3 0), (4, .d true (.int .i64 n))]) (fun (n : Int) (c0 : Cur) (sz0 : Int) (se0 : List (List Int)) (co0 : List Int) => [(0, .box 98 [.d false (.lit u (.sl (.bytes code))), .d true (.int .i64 c0.pos), .d true (.int .u64 c0.seed)]), (2, .box 36 [.d true (.int .i64 0), .d true (.nil), .d true (.nil)]), (1500103, .mat 3 26 se0 none), (1500104, .arr true 3 (.ints co0)), (3, .box 36 [.d true (.int .i64 sz0), .own 1500103 se0.length, .own 1500104 co0.length])])) (fun g => (fun (n : Int) (c0 : Cur) (sz0 : Int) (se0 : List (List Int)) (co0 : List Int) => .cut (.two (.none) (.loop (cut5 (fun (i : Int) (c1 : Cur) (sz : Int) (sets : List (List Int)) (costs : List Int) => s_l1Cur_system_JJ0 u code c n c0 sz0 se0 co0 i c1 sz sets costs) (fun (i : Int) (c1 : Cur) (sz : Int) (sets : List (List Int)) (costs : List Int) => [(0, .ptr 0 0), (2, .ptr 2 0), (3, .ptr 3 0), (4, .d true (.int .i64 n)), (5, .d true (.int .i64 i))]) (fun (i : Int) (c1 : Cur) (sz : Int) (sets : List (List Int)) (costs : List Int) => [(0, .box 98 [.d false (.lit u (.sl (.bytes code))), .d true (.int .i64 c1.pos), .d true (.int .u64 c1.seed)]), (2, .box 36 [.d true (.int .i64 0), .d true (.nil), .d true (.nil)]), (1000003, .mat 3 26 sets none), (1000004, .arr true 3 (.ints costs)), (3, .box 36 [.d true (.int .i64 sz), .own 1000003 sets.length, .own 1000004 costs.length])])) (fun g => s_l1Cur_system_mJ0 u code c n c0 sz0 se0 co0 g.1 g.2.1 g.2.2.1 g.2.2.2.1 g.2.2.2.2) (fun g => (fun (i : Int) (c1 : Cur) (sz : Int) (sets : List (List Int)) (costs : List Int) => .two (.none) (.two (.two (.reg [(13, .call none (.one (.own 3 (.ints (members (fun k => (((pickV code c1 256).toNat &&& (((pickV code (pickC code c1 256) 256).toNat ||| ((([0, 255]).getD (pickV code (pickC code (pickC code c1 256) 256) (([0, 255]).length : Int)).toNat 0) : Int).toNat : Nat) : Int).toNat : Nat) : Int).toNat.testBit k) sz.toNat))))), (5, .cell [.int .i64 ((pickC code c1 256).pos), .int .u64 ((pickC code c1 256).seed)] (.one (.d (.int .i64 (pickV code c1 256))))), (7, .cell [.int .i64 ((pickC code (pickC code c1 256) 256).pos), .int .u64 ((pickC code (pickC code c1 256) 256).seed)] (.one (.d (.int .i64 (pickV code (pickC code c1 256) 256))))), (10, .cell [.int .i64 ((pickC code (pickC code (pickC code c1 256) 256) (([0, 255]).length : Int)).pos), .int .u64 ((pickC code (pickC code (pickC code c1 256) 256) (([0, 255]).length : Int)).seed)] (.one (.d (.int .i64 (([0, 255]).getD (pickV code (pickC code (pickC code c1 256) 256) (([0, 255]).length : Int)).toNat 0)))))]) (.reg [(4, .cell [.int .i64 ((pickC code (pickC code (pickC code (pickC code c1 256) 256) (([0, 255]).length : Int)) (([1, 1, 2, 3, 5, 8]).length : Int)).pos), .int .u64 ((pickC code (pickC code (pickC code (pickC code c1 256) 256) (([0, 255]).length : Int)) (([1, 1, 2, 3, 5, 8]).length : Int)).seed)] (.one (.d (.int .i64 (([1, 1, 2, 3, 5, 8]).getD (pickV code (pickC code (pickC code (pickC code c1 256) 256) (([0, 255]).length : Int)) (([1, 1, 2, 3, 5, 8]).length : Int)).toNat 0)))))])) (.none))) (g.1) (g.2.1) (g.2.2.1) (g.2.2.2.1) (g.2.2.2.2)))) (cut4 (fun (c2 : Cur) (sz1 : Int) (set1 : List (List Int)) (cost1 : List Int) => s_l1Cur_system_JA0 u code c n c0 sz0 se0 co0 c2 sz1 set1 cost1) (fun (c2 : Cur) (sz1 : Int) (set1 : List (List Int)) (cost1 : List Int) => [(0, .ptr 0 0), (2, .ptr 2 0), (3, .ptr 3 0), (4, .d true (.int .i64 n))]) (fun (c2 : Cur) (sz1 : Int) (set1 : List (List Int)) (cost1 : List Int) => [(0, .box 98 [.d false (.lit u (.sl (.bytes code))), .d true (.int .i64 c2.pos), .d true (.int .u64 c2.seed)]), (2, .box 36 [.d true (.int .i64 0), .d true (.nil), .d true (.nil)]), (1000052, .mat 3 26 set1 none), (1000053, .arr true 3 (.ints cost1)), (3, .box 36 [.d true (.int .i64 sz1), .own 1000052 set1.length, .own 1000053 cost1.length])])) (fun g => (fun (c2 : Cur) (sz1 : Int) (set1 : List (List Int)) (cost1 : List Int) => .two (.two (.none) (.two (.two (.mark [] [(2, .cell [.int .i64 ((pickC code c2 n).pos), .int .u64 ((pickC code c2 n).seed)] (.one (.d (.int .i64 (pickV code c2 n)))))]) (.two (.mark [] [(1, .cell [.int .i64 ((pickC code (pickC code c2 n) 40).pos), .int .u64 ((pickC code (pickC code c2 n) 40).seed)] (.one (.d (.int .i64 (pickV code (pickC code c2 n) 40)))))]) (.two (.none) (.two (.mark [] [(2, .cell [.int .i64 ((pickC code (pickC code (pickC code c2 n) 40) (([(-1), 8, 9, 4611686018427387904]).length : Int)).pos), .int .u64 ((pickC code (pickC code (pickC code c2 n) 40) (([(-1), 8, 9, 4611686018427387904]).length : Int)).seed)] (.one (.d (.int .i64 (([(-1), 8, 9, 4611686018427387904]).getD (pickV code (pickC code (pickC code c2 n) 40) (([(-1), 8, 9, 4611686018427387904]).length : Int)).toNat 0)))))]) (.two (.none) (.two (.reg [(7, .take), (12, .cell [.int .i64 ((pickC code (pickC code (pickC code c2 n) 40) (([(-1), 0, sz1]).length : Int)).pos), .int .u64 ((pickC code (pickC code (pickC code c2 n) 40) (([(-1), 0, sz1]).length : Int)).seed)] (.one (.d (.int .i64 (([(-1), 0, sz1]).getD (pickV code (pickC code (pickC code c2 n) 40) (([(-1), 0, sz1]).length : Int)).toNat 0)))))]) (.two (.none) (.two (.reg [(5, .cell [.int .i64 ((pickC code (pickC code (pickC code c2 n) 40) (([0, (-1), 99, 100]).length : Int)).pos), .int .u64 ((pickC code (pickC code (pickC code c2 n) 40) (([0, (-1), 99, 100]).length : Int)).seed)] (.one (.d (.int .i64 (([0, (-1), 99, 100]).getD (pickV code (pickC code (pickC code c2 n) 40) (([0, (-1), 99, 100]).length : Int)).toNat 0)))))]) (.two (.none) (.two (.none) (.two (.none) (.two (.loop (cut3 (fun (sz2 : Int) (se : List (List Int)) (co : List Int) => s_l1Cur_system_JJ1 u code c n c0 sz0 se0 co0 c2 sz1 set1 cost1 sz2 se co) (fun (sz2 : Int) (se : List (List Int)) (co : List Int) => [(0, .ptr 0 0), (2, .ptr 2 0), (3, .ptr 3 0)]) (fun (sz2 : Int) (se : List (List Int)) (co : List Int) => [(0, .box 98 [.d false (.lit u (.sl (.bytes code))), .d true (.int .i64 ((pickC code (pickC code c2 n) 40).pos)), .d true (.int .u64 ((pickC code (pickC code c2 n) 40).seed))]), (2, .box 36 [.d true (.int .i64 0), .d true (.nil), .d true (.nil)]), (1000101, .mat 3 26 se none), (1000102, .arr true 3 (.ints co)), (3, .box 36 [.d true (.int .i64 sz2), .own 1000101 se.length, .own 1000102 co.length])])) (fun g => s_l1Cur_system_mJ1 u code c n c0 sz0 se0 co0 c2 sz1 set1 cost1 g.1 g.2.1 g.2.2) (fun _ => .none)) (.none))))))))))))) (.none))) (.none)) (g.1) (g.2.1) (g.2.2.1) (g.2.2.2))) (g.1) (g.2.1) (g.2.2.1) (g.2.2.2.1) (g.2.2.2.2)))
set_option maxRecDepth 100000 in
def s_l1Cur_system_P (u : Value) (code : List Nat) (c : Cur) : Prop :=
  ((((8 : Nat) = 8) ∧ (PK Try.prog 106 98 (.sl (.bytes code)) [.int .i64 c.pos, .int .u64 c.seed] [.int .i64 ((pickC code c (([5, 4, 6, 3, 8, 2, 1, 0]).length : Int)).pos), .int .u64 ((pickC code c (([5, 4, 6, 3, 8, 2, 1, 0]).length : Int)).seed)] [.sl (.ints ([5, 4, 6, 3, 8, 2, 1, 0]))] (.one (.d (.int .i64 (([5, 4, 6, 3, 8, 2, 1, 0]).getD (pickV code c (([5, 4, 6, 3, 8, 2, 1, 0]).length : Int)).toNat 0))))) ∧ ((8 : Nat) = 8) ∧ (PK Try.prog 106 98 (.sl (.bytes code)) [.int .i64 ((pickC code c (([5, 4, 6, 3, 8, 2, 1, 0]).length : Int)).pos), .int .u64 ((pickC code c (([5, 4, 6, 3, 8, 2, 1, 0]).length : Int)).seed)] [.int .i64 ((pickC code (pickC code c (([5, 4, 6, 3, 8, 2, 1, 0]).length : Int)) (([4, 5, 3, 6, 8, 2, 1, 0]).length : Int)).pos), .int .u64 ((pickC code (pickC code c (([5, 4, 6, 3, 8, 2, 1, 0]).length : Int)) (([4, 5, 3, 6, 8, 2, 1, 0]).length : Int)).seed)] [.sl (.ints ([4, 5, 3, 6, 8, 2, 1, 0]))] (.one (.d (.int .i64 (([4, 5, 3, 6, 8, 2, 1, 0]).getD (pickV code (pickC code c (([5, 4, 6, 3, 8, 2, 1, 0]).length : Int)) (([4, 5, 3, 6, 8, 2, 1, 0]).length : Int)).toNat 0))))) ∧ (∃ n' : Int, ∃ c0' : Cur, ∃ sz0' : Int, ∃ se0' : List (List Int), ∃ co0' : List Int, (s_l1Cur_system_JR1 u code c n' c0' sz0' se0' co0') ∧ ((([4, 5, 3, 6, 8, 2, 1, 0]).getD (pickV code (pickC code c (([5, 4, 6, 3, 8, 2, 1, 0]).length : Int)) (([4, 5, 3, 6, 8, 2, 1, 0]).length : Int)).toNat 0) = n') ∧ ((.lit u (.sl (.bytes code)) : D) = .lit u (.sl (.bytes code))) ∧ ((pickC code (pickC code c (([5, 4, 6, 3, 8, 2, 1, 0]).length : Int)) (([4, 5, 3, 6, 8, 2, 1, 0]).length : Int)).pos = c0'.pos) ∧ ((pickC code (pickC code c (([5, 4, 6, 3, 8, 2, 1, 0]).length : Int)) (([4, 5, 3, 6, 8, 2, 1, 0]).length : Int)).seed = c0'.seed) ∧ ((0 : Int) = 0) ∧ ((se0').length = 0) ∧ ((co0').length = 0) ∧ ((([5, 4, 6, 3, 8, 2, 1, 0]).getD (pickV code c (([5, 4, 6, 3, 8, 2, 1, 0]).length : Int)).toNat 0) = sz0') ∧ ((0 : Nat) = se0'.length) ∧ ((0 : Nat) = co0'.length))) ∧ (∀ n : Int, ∀ c0 : Cur, ∀ sz0 : Int, ∀ se0 : List (List Int), ∀ co0 : List Int, (s_l1Cur_system_JR1 u code c n c0 sz0 se0 co0) → ((((∃ i' : Int, ∃ c1' : Cur, ∃ sz' : Int, ∃ sets' : List (List Int), ∃ costs' : List Int, (s_l1Cur_system_JJ0 u code c n c0 sz0 se0 co0 i' c1' sz' sets' costs') ∧ (n = n) ∧ ((0 : Int) = i') ∧ ((.lit u (.sl (.bytes code)) : D) = .lit u (.sl (.bytes code))) ∧ (c0.pos = c1'.pos) ∧ (c0.seed = c1'.seed) ∧ ((0 : Int) = 0) ∧ (se0 = sets') ∧ (co0 = costs') ∧ (sz0 = sz') ∧ (se0.length = sets'.length) ∧ (co0.length = costs'.length)) ∧ (∀ i : Int, ∀ c1 : Cur, ∀ sz : Int, ∀ sets : List (List Int), ∀ costs : List Int, (s_l1Cur_system_JJ0 u code c n c0 sz0 se0 co0 i c1 sz sets costs) → (((decide (i < n)) = true → (true = true) ∧ (PK Try.prog 107 98 (.sl (.bytes code)) [.int .i64 c1.pos, .int .u64 c1.seed] [.int .i64 ((pickC code c1 256).pos), .int .u64 ((pickC code c1 256).seed)] [.int .i64 256] (.one (.d (.int .i64 (pickV code c1 256))))) ∧ (PK Try.prog 107 98 (.sl (.bytes code)) [.int .i64 ((pickC code c1 256).pos), .int .u64 ((pickC code c1 256).seed)] [.int .i64 ((pickC code (pickC code c1 256) 256).pos), .int .u64 ((pickC code (pickC code c1 256) 256).seed)] [.int .i64 256] (.one (.d (.int .i64 (pickV code (pickC code c1 256) 256))))) ∧ ((2 : Nat) = 2) ∧ (PK Try.prog 106 98 (.sl (.bytes code)) [.int .i64 ((pickC code (pickC code c1 256) 256).pos), .int .u64 ((pickC code (pickC code c1 256) 256).seed)] [.int .i64 ((pickC code (pickC code (pickC code c1 256) 256) (([0, 255]).length : Int)).pos), .int .u64 ((pickC code (pickC code (pickC code c1 256) 256) (([0, 255]).length : Int)).seed)] [.sl (.ints ([0, 255]))] (.one (.d (.int .i64 (([0, 255]).getD (pickV code (pickC code (pickC code c1 256) 256) (([0, 255]).length : Int)).toNat 0))))) ∧ ((0 : Int) ≤ (pickV code (pickC code c1 256) 256) ∧ ((pickV code (pickC code c1 256) 256) : Int) ≤ 9223372036854775807) ∧ ((0 : Int) ≤ (([0, 255]).getD (pickV code (pickC code (pickC code c1 256) 256) (([0, 255]).length : Int)).toNat 0) ∧ ((([0, 255]).getD (pickV code (pickC code (pickC code c1 256) 256) (([0, 255]).length : Int)).toNat 0) : Int) ≤ 9223372036854775807) ∧ ((0 : Int) ≤ (pickV code c1 256) ∧ ((pickV code c1 256) : Int) ≤ 9223372036854775807) ∧ ((0 : Int) ≤ (((pickV code (pickC code c1 256) 256).toNat ||| ((([0, 255]).getD (pickV code (pickC code (pickC code c1 256) 256) (([0, 255]).length : Int)).toNat 0) : Int).toNat : Nat) : Int) ∧ ((((pickV code (pickC code c1 256) 256).toNat ||| ((([0, 255]).getD (pickV code (pickC code (pickC code c1 256) 256) (([0, 255]).length : Int)).toNat 0) : Int).toNat : Nat) : Int) : Int) ≤ 9223372036854775807) ∧ (PC Try.prog 164 [.int .i64 sz, .int .i64 (((pickV code c1 256).toNat &&& (((pickV code (pickC code c1 256) 256).toNat ||| ((([0, 255]).getD (pickV code (pickC code (pickC code c1 256) 256) (([0, 255]).length : Int)).toNat 0) : Int).toNat : Nat) : Int).toNat : Nat) : Int)] (.one (.own 3 (.ints (members (fun k => (((pickV code c1 256).toNat &&& (((pickV code (pickC code c1 256) 256).toNat ||| ((([0, 255]).getD (pickV code (pickC code (pickC code c1 256) 256) (([0, 255]).length : Int)).toNat 0) : Int).toNat : Nat) : Int).toNat : Nat) : Int).toNat.testBit k) sz.toNat))))) ∧ ((members (fun k => (((pickV code c1 256).toNat &&& (((pickV code (pickC code c1 256) 256).toNat ||| ((([0, 255]).getD (pickV code (pickC code (pickC code c1 256) 256) (([0, 255]).length : Int)).toNat 0) : Int).toNat : Nat) : Int).toNat : Nat) : Int).toNat.testBit k) sz.toNat).length = (members (fun k => (((pickV code c1 256).toNat &&& (((pickV code (pickC code c1 256) 256).toNat ||| ((([0, 255]).getD (pickV code (pickC code (pickC code c1 256) 256) (([0, 255]).length : Int)).toNat 0) : Int).toNat : Nat) : Int).toNat : Nat) : Int).toNat.testBit k) sz.toNat).length) ∧ (sets.length = sets.length) ∧ ((1 : Nat) = 1) ∧ (0 < 1) ∧ ((sets.length + 1) * 24 ≤ 140737488355328) ∧ (true = true) ∧ ((6 : Nat) = 6) ∧ (PK Try.prog 106 98 (.sl (.bytes code)) [.int .i64 ((pickC code (pickC code (pickC code c1 256) 256) (([0, 255]).length : Int)).pos), .int .u64 ((pickC code (pickC code (pickC code c1 256) 256) (([0, 255]).length : Int)).seed)] [.int .i64 ((pickC code (pickC code (pickC code (pickC code c1 256) 256) (([0, 255]).length : Int)) (([1, 1, 2, 3, 5, 8]).length : Int)).pos), .int .u64 ((pickC code (pickC code (pickC code (pickC code c1 256) 256) (([0, 255]).length : Int)) (([1, 1, 2, 3, 5, 8]).length : Int)).seed)] [.sl (.ints ([1, 1, 2, 3, 5, 8]))] (.one (.d (.int .i64 (([1, 1, 2, 3, 5, 8]).getD (pickV code (pickC code (pickC code (pickC code c1 256) 256) (([0, 255]).length : Int)) (([1, 1, 2, 3, 5, 8]).length : Int)).toNat 0))))) ∧ (costs.length = costs.length) ∧ ((1 : Nat) = 1) ∧ ((costs.length + 1) * 8 ≤ 140737488355328) ∧ (-9223372036854775808 ≤ (i + 1) ∧ (i + 1) ≤ 9223372036854775807) ∧ (∃ i' : Int, ∃ c1' : Cur, ∃ sz' : Int, ∃ sets' : List (List Int), ∃ costs' : List Int, (s_l1Cur_system_JJ0 u code c n c0 sz0 se0 co0 i' c1' sz' sets' costs') ∧ (s_l1Cur_system_mJ0 u code c n c0 sz0 se0 co0 i' c1' sz' sets' costs' < s_l1Cur_system_mJ0 u code c n c0 sz0 se0 co0 i c1 sz sets costs) ∧ (n = n) ∧ ((i + 1) = i') ∧ ((.lit u (.sl (.bytes code)) : D) = .lit u (.sl (.bytes code))) ∧ ((pickC code (pickC code (pickC code (pickC code c1 256) 256) (([0, 255]).length : Int)) (([1, 1, 2, 3, 5, 8]).length : Int)).pos = c1'.pos) ∧ ((pickC code (pickC code (pickC code (pickC code c1 256) 256) (([0, 255]).length : Int)) (([1, 1, 2, 3, 5, 8]).length : Int)).seed = c1'.seed) ∧ ((0 : Int) = 0) ∧ ((sets ++ [members (fun k => (((pickV code c1 256).toNat &&& (((pickV code (pickC code c1 256) 256).toNat ||| ((([0, 255]).getD (pickV code (pickC code (pickC code c1 256) 256) (([0, 255]).length : Int)).toNat 0) : Int).toNat : Nat) : Int).toNat : Nat) : Int).toNat.testBit k) sz.toNat]) = sets') ∧ ((costs ++ [(([1, 1, 2, 3, 5, 8]).getD (pickV code (pickC code (pickC code (pickC code c1 256) 256) (([0, 255]).length : Int)) (([1, 1, 2, 3, 5, 8]).length : Int)).toNat 0)]) = costs') ∧ (sz = sz') ∧ ((sets.length + 1) = sets'.length) ∧ ((costs.length + 1) = costs'.length))) ∧ ((decide (i < n)) = false → (∃ c2' : Cur, ∃ sz1' : Int, ∃ set1' : List (List Int), ∃ cost1' : List Int, (s_l1Cur_system_JA0 u code c n c0 sz0 se0 co0 c2' sz1' set1' cost1') ∧ (n = n) ∧ ((.lit u (.sl (.bytes code)) : D) = .lit u (.sl (.bytes code))) ∧ (c1.pos = c2'.pos) ∧ (c1.seed = c2'.seed) ∧ ((0 : Int) = 0) ∧ (sets = set1') ∧ (costs = cost1') ∧ (sz = sz1') ∧ (sets.length = set1'.length) ∧ (costs.length = cost1'.length))))))) ∧ (∀ c2 : Cur, ∀ sz1 : Int, ∀ set1 : List (List Int), ∀ cost1 : List Int, (s_l1Cur_system_JA0 u code c n c0 sz0 se0 co0 c2 sz1 set1 cost1) → (((decide (n > 0)) = true → (PK Try.prog 107 98 (.sl (.bytes code)) [.int .i64 c2.pos, .int .u64 c2.seed] [.int .i64 ((pickC code c2 n).pos), .int .u64 ((pickC code c2 n).seed)] [.int .i64 n] (.one (.d (.int .i64 (pickV code c2 n))))) ∧ (PK Try.prog 107 98 (.sl (.bytes code)) [.int .i64 ((pickC code c2 n).pos), .int .u64 ((pickC code c2 n).seed)] [.int .i64 ((pickC code (pickC code c2 n) 40).pos), .int .u64 ((pickC code (pickC code c2 n) 40).seed)] [.int .i64 40] (.one (.d (.int .i64 (pickV code (pickC code c2 n) 40))))) ∧ ((((pickV code (pickC code c2 n) 40) == 0) = true → ((4 : Nat) = 4) ∧ (PK Try.prog 106 98 (.sl (.bytes code)) [.int .i64 ((pickC code (pickC code c2 n) 40).pos), .int .u64 ((pickC code (pickC code c2 n) 40).seed)] [.int .i64 ((pickC code (pickC code (pickC code c2 n) 40) (([(-1), 8, 9, 4611686018427387904]).length : Int)).pos), .int .u64 ((pickC code (pickC code (pickC code c2 n) 40) (([(-1), 8, 9, 4611686018427387904]).length : Int)).seed)] [.sl (.ints ([(-1), 8, 9, 4611686018427387904]))] (.one (.d (.int .i64 (([(-1), 8, 9, 4611686018427387904]).getD (pickV code (pickC code (pickC code c2 n) 40) (([(-1), 8, 9, 4611686018427387904]).length : Int)).toNat 0))))) ∧ (∃ Z' : Int, ∃ S' : List (List Int), ∃ K' : List Int, ∃ cz' : Cur, (s_l1Cur_system_Q code c Z' S' K' cz') ∧ (true = true) ∧ ((.lit u (.sl (.bytes code)) : D) = .lit u (.sl (.bytes code))) ∧ ((pickC code (pickC code (pickC code c2 n) 40) (([(-1), 8, 9, 4611686018427387904]).length : Int)).pos = cz'.pos) ∧ ((pickC code (pickC code (pickC code c2 n) 40) (([(-1), 8, 9, 4611686018427387904]).length : Int)).seed = cz'.seed) ∧ (set1.length = set1.length) ∧ (cost1.length = cost1.length) ∧ ((.agg [.int .i64 (([(-1), 8, 9, 4611686018427387904]).getD (pickV code (pickC code (pickC code c2 n) 40) (([(-1), 8, 9, 4611686018427387904]).length : Int)).toNat 0), .sl (.rows set1), .sl (.ints cost1)] : D) = .agg [.int .i64 Z', .sl (.rows S'), .sl (.ints K')]))) ∧ (((pickV code (pickC code c2 n) 40) == 0) = false → ((((pickV code (pickC code c2 n) 40) == 1) = true → (true = true) ∧ ((0 : Int) ≤ (pickV code c2 n)) ∧ (((pickV code c2 n) : Int) < (set1.length : Int)) ∧ ((pickV code c2 n).toNat < set1.length) ∧ ((3 : Nat) = 3) ∧ (PK Try.prog 106 98 (.sl (.bytes code)) [.int .i64 ((pickC code (pickC code c2 n) 40).pos), .int .u64 ((pickC code (pickC code c2 n) 40).seed)] [.int .i64 ((pickC code (pickC code (pickC code c2 n) 40) (([(-1), 0, sz1]).length : Int)).pos), .int .u64 ((pickC code (pickC code (pickC code c2 n) 40) (([(-1), 0, sz1]).length : Int)).seed)] [.sl (.ints ([(-1), 0, sz1]))] (.one (.d (.int .i64 (([(-1), 0, sz1]).getD (pickV code (pickC code (pickC code c2 n) 40) (([(-1), 0, sz1]).length : Int)).toNat 0))))) ∧ ((set1.getD ((pickV code c2 n).toNat) []).length = (set1.getD ((pickV code c2 n).toNat) []).length) ∧ ((1 : Nat) = 1) ∧ (((set1.getD ((pickV code c2 n).toNat) []).length + 1) * 8 ≤ 140737488355328) ∧ ((0 : Int) ≤ (pickV code c2 n)) ∧ (((pickV code c2 n) : Int) < (set1.length : Int)) ∧ ((pickV code c2 n).toNat = (pickV code c2 n).toNat) ∧ ((pickV code c2 n).toNat < set1.length) ∧ (((set1.getD ((pickV code c2 n).toNat) []).length + 1) = ((set1.getD ((pickV code c2 n).toNat) []) ++ [(([(-1), 0, sz1]).getD (pickV code (pickC code (pickC code c2 n) 40) (([(-1), 0, sz1]).length : Int)).toNat 0)]).length) ∧ (∃ Z' : Int, ∃ S' : List (List Int), ∃ K' : List Int, ∃ cz' : Cur, (s_l1Cur_system_Q code c Z' S' K' cz') ∧ (true = true) ∧ ((.lit u (.sl (.bytes code)) : D) = .lit u (.sl (.bytes code))) ∧ ((pickC code (pickC code (pickC code c2 n) 40) (([(-1), 0, sz1]).length : Int)).pos = cz'.pos) ∧ ((pickC code (pickC code (pickC code c2 n) 40) (([(-1), 0, sz1]).length : Int)).seed = cz'.seed) ∧ (set1.length = (set1.set ((pickV code c2 n).toNat) ((set1.getD ((pickV code c2 n).toNat) []) ++ [(([(-1), 0, sz1]).getD (pickV code (pickC code (pickC code c2 n) 40) (([(-1), 0, sz1]).length : Int)).toNat 0)])).length) ∧ (cost1.length = cost1.length) ∧ ((.agg [.int .i64 sz1, .sl (.rows (set1.set ((pickV code c2 n).toNat) ((set1.getD ((pickV code c2 n).toNat) []) ++ [(([(-1), 0, sz1]).getD (pickV code (pickC code (pickC code c2 n) 40) (([(-1), 0, sz1]).length : Int)).toNat 0)]))), .sl (.ints cost1)] : D) = .agg [.int .i64 Z', .sl (.rows S'), .sl (.ints K')]))) ∧ (((pickV code (pickC code c2 n) 40) == 1) = false → ((((pickV code (pickC code c2 n) 40) == 2) = true → (true = true) ∧ ((4 : Nat) = 4) ∧ (PK Try.prog 106 98 (.sl (.bytes code)) [.int .i64 ((pickC code (pickC code c2 n) 40).pos), .int .u64 ((pickC code (pickC code c2 n) 40).seed)] [.int .i64 ((pickC code (pickC code (pickC code c2 n) 40) (([0, (-1), 99, 100]).length : Int)).pos), .int .u64 ((pickC code (pickC code (pickC code c2 n) 40) (([0, (-1), 99, 100]).length : Int)).seed)] [.sl (.ints ([0, (-1), 99, 100]))] (.one (.d (.int .i64 (([0, (-1), 99, 100]).getD (pickV code (pickC code (pickC code c2 n) 40) (([0, (-1), 99, 100]).length : Int)).toNat 0))))) ∧ ((0 : Int) ≤ (pickV code c2 n)) ∧ (((pickV code c2 n) : Int) < (cost1.length : Int)) ∧ ((pickV code c2 n).toNat < cost1.length) ∧ (∃ Z' : Int, ∃ S' : List (List Int), ∃ K' : List Int, ∃ cz' : Cur, (s_l1Cur_system_Q code c Z' S' K' cz') ∧ (true = true) ∧ ((.lit u (.sl (.bytes code)) : D) = .lit u (.sl (.bytes code))) ∧ ((pickC code (pickC code (pickC code c2 n) 40) (([0, (-1), 99, 100]).length : Int)).pos = cz'.pos) ∧ ((pickC code (pickC code (pickC code c2 n) 40) (([0, (-1), 99, 100]).length : Int)).seed = cz'.seed) ∧ (set1.length = set1.length) ∧ (cost1.length = (cost1.set ((pickV code c2 n).toNat) (([0, (-1), 99, 100]).getD (pickV code (pickC code (pickC code c2 n) 40) (([0, (-1), 99, 100]).length : Int)).toNat 0)).length) ∧ ((.agg [.int .i64 sz1, .sl (.rows set1), .sl (.ints (cost1.set ((pickV code c2 n).toNat) (([0, (-1), 99, 100]).getD (pickV code (pickC code (pickC code c2 n) 40) (([0, (-1), 99, 100]).length : Int)).toNat 0)))] : D) = .agg [.int .i64 Z', .sl (.rows S'), .sl (.ints K')]))) ∧ (((pickV code (pickC code c2 n) 40) == 2) = false → ((((pickV code (pickC code c2 n) 40) == 3) = true → (cost1.length = cost1.length) ∧ ((1 : Nat) = 1) ∧ ((cost1.length + 1) * 8 ≤ 140737488355328) ∧ (∃ Z' : Int, ∃ S' : List (List Int), ∃ K' : List Int, ∃ cz' : Cur, (s_l1Cur_system_Q code c Z' S' K' cz') ∧ (true = true) ∧ ((.lit u (.sl (.bytes code)) : D) = .lit u (.sl (.bytes code))) ∧ ((pickC code (pickC code c2 n) 40).pos = cz'.pos) ∧ ((pickC code (pickC code c2 n) 40).seed = cz'.seed) ∧ (set1.length = set1.length) ∧ ((cost1.length + 1) = (cost1 ++ [1]).length) ∧ ((.agg [.int .i64 sz1, .sl (.rows set1), .sl (.ints (cost1 ++ [1]))] : D) = .agg [.int .i64 Z', .sl (.rows S'), .sl (.ints K')]))) ∧ (((pickV code (pickC code c2 n) 40) == 3) = false → ((((pickV code (pickC code c2 n) 40) == 4) = true → ((∃ sz2' : Int, ∃ se' : List (List Int), ∃ co' : List Int, (s_l1Cur_system_JJ1 u code c n c0 sz0 se0 co0 c2 sz1 set1 cost1 sz2' se' co') ∧ ((.lit u (.sl (.bytes code)) : D) = .lit u (.sl (.bytes code))) ∧ ((pickC code (pickC code c2 n) 40).pos = (pickC code (pickC code c2 n) 40).pos) ∧ ((pickC code (pickC code c2 n) 40).seed = (pickC code (pickC code c2 n) 40).seed) ∧ ((0 : Int) = 0) ∧ (set1 = se') ∧ (cost1 = co') ∧ (sz1 = sz2') ∧ (set1.length = se'.length) ∧ (cost1.length = co'.length)) ∧ (∀ sz2 : Int, ∀ se : List (List Int), ∀ co : List Int, (s_l1Cur_system_JJ1 u code c n c0 sz0 se0 co0 c2 sz1 set1 cost1 sz2 se co) → (((decide ((se.length : Int) < 9)) = true → ((0 : Nat) = 0) ∧ (se.length = se.length) ∧ ((1 : Nat) = 1) ∧ (0 < 1) ∧ ((se.length + 1) * 24 ≤ 140737488355328) ∧ (co.length = co.length) ∧ ((1 : Nat) = 1) ∧ ((co.length + 1) * 8 ≤ 140737488355328) ∧ (∃ sz2' : Int, ∃ se' : List (List Int), ∃ co' : List Int, (s_l1Cur_system_JJ1 u code c n c0 sz0 se0 co0 c2 sz1 set1 cost1 sz2' se' co') ∧ (s_l1Cur_system_mJ1 u code c n c0 sz0 se0 co0 c2 sz1 set1 cost1 sz2' se' co' < s_l1Cur_system_mJ1 u code c n c0 sz0 se0 co0 c2 sz1 set1 cost1 sz2 se co) ∧ ((.lit u (.sl (.bytes code)) : D) = .lit u (.sl (.bytes code))) ∧ ((pickC code (pickC code c2 n) 40).pos = (pickC code (pickC code c2 n) 40).pos) ∧ ((pickC code (pickC code c2 n) 40).seed = (pickC code (pickC code c2 n) 40).seed) ∧ ((0 : Int) = 0) ∧ ((se ++ [[]]) = se') ∧ ((co ++ [1]) = co') ∧ (sz2 = sz2') ∧ ((se.length + 1) = se'.length) ∧ ((co.length + 1) = co'.length))) ∧ ((decide ((se.length : Int) < 9)) = false → (∃ Z' : Int, ∃ S' : List (List Int), ∃ K' : List Int, ∃ cz' : Cur, (s_l1Cur_system_Q code c Z' S' K' cz') ∧ (true = true) ∧ ((.lit u (.sl (.bytes code)) : D) = .lit u (.sl (.bytes code))) ∧ ((pickC code (pickC code c2 n) 40).pos = cz'.pos) ∧ ((pickC code (pickC code c2 n) 40).seed = cz'.seed) ∧ (se.length = se.length) ∧ (co.length = co.length) ∧ ((.agg [.int .i64 sz2, .sl (.rows se), .sl (.ints co)] : D) = .agg [.int .i64 Z', .sl (.rows S'), .sl (.ints K')]))))))) ∧ (((pickV code (pickC code c2 n) 40) == 4) = false → (∃ Z' : Int, ∃ S' : List (List Int), ∃ K' : List Int, ∃ cz' : Cur, (s_l1Cur_system_Q code c Z' S' K' cz') ∧ (true = true) ∧ ((.lit u (.sl (.bytes code)) : D) = .lit u (.sl (.bytes code))) ∧ ((pickC code (pickC code c2 n) 40).pos = cz'.pos) ∧ ((pickC code (pickC code c2 n) 40).seed = cz'.seed) ∧ (set1.length = set1.length) ∧ (cost1.length = cost1.length) ∧ ((.agg [.int .i64 sz1, .sl (.rows set1), .sl (.ints cost1)] : D) = .agg [.int .i64 Z', .sl (.rows S'), .sl (.ints K')]))))))))))))) ∧ ((decide (n > 0)) = false → (∃ Z' : Int, ∃ S' : List (List Int), ∃ K' : List Int, ∃ cz' : Cur, (s_l1Cur_system_Q code c Z' S' K' cz') ∧ (true = true) ∧ ((.lit u (.sl (.bytes code)) : D) = .lit u (.sl (.bytes code))) ∧ (c2.pos = cz'.pos) ∧ (c2.seed = cz'.seed) ∧ (set1.length = set1.length) ∧ (cost1.length = cost1.length) ∧ ((.agg [.int .i64 sz1, .sl (.rows set1), .sl (.ints cost1)] : D) = .agg [.int .i64 Z', .sl (.rows S'), .sl (.ints K')]))))))))
set_option maxRecDepth 100000 in
theorem s_l1Cur_system_vc (u : Value) (code : List Nat) (c : Cur) (hb : ∀ x9 ∈ code, x9 < 256) (hc : okC c 1000000)  : s_l1Cur_system_P u code c := by
  unfold s_l1Cur_system_P
  refine ⟨?_, ?_⟩
  ·refine ⟨rfl, ?_, rfl, ?_, ?_⟩
   ·refine s_l1Cur_among_pk code c ([5, 4, 6, 3, 8, 2, 1, 0]) ?_ ?_ ?_
    ·exact hb
    ·exact okC_le (by repeat (first | assumption | apply ok_pick | apply ok_next)) (by omega)
    ·(simp_all; done)
   ·refine s_l1Cur_among_pk code (pickC code c (([5, 4, 6, 3, 8, 2, 1, 0]).length : Int)) ([4, 5, 3, 6, 8, 2, 1, 0]) ?_ ?_ ?_
    ·exact hb
    ·exact okC_le (by repeat (first | assumption | apply ok_pick | apply ok_next)) (by omega)
    ·(simp_all; done)
   ·refine ⟨(([4, 5, 3, 6, 8, 2, 1, 0]).getD (pickV code (pickC code c (([5, 4, 6, 3, 8, 2, 1, 0]).length : Int)) (([4, 5, 3, 6, 8, 2, 1, 0]).length : Int)).toNat 0), (pickC code (pickC code c (([5, 4, 6, 3, 8, 2, 1, 0]).length : Int)) (([4, 5, 3, 6, 8, 2, 1, 0]).length : Int)), (([5, 4, 6, 3, 8, 2, 1, 0]).getD (pickV code c (([5, 4, 6, 3, 8, 2, 1, 0]).length : Int)).toNat 0), ([]), ([]), ?_⟩
    refine ⟨?_, rfl, rfl, rfl, rfl, rfl, ?_, ?_, rfl, rfl, rfl⟩
    ·refine ⟨?_, ?_, ?_, ?_, ?_⟩
     ·exact pick_ev (p := fun z => 0 ≤ z ∧ z ≤ 8) [4, 5, 3, 6, 8, 2, 1, 0] code _ (by simp) (by simp)
     ·exact okC_le (by repeat (first | assumption | apply ok_pick | apply ok_next)) (by omega)
     ·exact pick_ev (p := fun z => 0 ≤ z ∧ z ≤ 8) [5, 4, 6, 3, 8, 2, 1, 0] code _ (by simp) (by simp)
     ·rfl
     ·rfl
    ·rfl
    ·rfl
  ·intro n c0 sz0 se0 co0 hJ
   obtain ⟨n0, n1, n2, n3, n4⟩ := hJ
   refine ⟨?_, ?_⟩
   ·refine ⟨?_, ?_⟩
    ·refine ⟨0, c0, sz0, se0, co0, ?_⟩
     refine ⟨?_, rfl, rfl, rfl, rfl, rfl, rfl, rfl, rfl, rfl, rfl, rfl⟩
     ·refine ⟨?_, ?_, ?_, ?_, ?_, ?_, ?_⟩
      ·omega
      ·omega
      ·omega
      ·simp [n3, n4]
      ·simp [n3, n4]
      ·exact okC_le (by repeat (first | assumption | apply ok_pick | apply ok_next)) (by omega)
      ·rw [n3]; intro r hr; cases hr
    ·intro i c1 sz sets costs hJ
     obtain ⟨h0, h1, h2, h3, h4, h5, h6⟩ := hJ
     refine ⟨?_, ?_⟩
     ·intro b1
      try simp only [nrmT] at b1
      refine ⟨rfl, ?_, ?_, rfl, ?_, ?_, ?_, ?_, ?_, ?_, rfl, rfl, rfl, by decide, ?_, rfl, rfl, ?_, rfl, rfl, ?_, ?_, ?_⟩
      ·refine s_l1Cur_pick_pk code c1 256 ?_ ?_
       ·exact hb
       ·exact okC_le (by repeat (first | assumption | apply ok_pick | apply ok_next)) (by omega)
      ·refine s_l1Cur_pick_pk code (pickC code c1 256) 256 ?_ ?_
       ·exact hb
       ·exact okC_le (by repeat (first | assumption | apply ok_pick | apply ok_next)) (by omega)
      ·refine s_l1Cur_among_pk code (pickC code (pickC code c1 256) 256) ([0, 255]) ?_ ?_ ?_
       ·exact hb
       ·exact okC_le (by repeat (first | assumption | apply ok_pick | apply ok_next)) (by omega)
       ·(simp_all; done)
      ·have v1 := pickV_in code c1 (n := 256) (by omega)
       have v2 := pickV_in code (pickC code c1 256) (n := 256) (by omega)
       have v3 := pick_ev (p := fun z => 0 ≤ z ∧ z ≤ 255) [0, 255] code (pickC code (pickC code c1 256) 256) (by simp) (by simp)
       omega
      ·have v1 := pickV_in code c1 (n := 256) (by omega)
       have v2 := pickV_in code (pickC code c1 256) (n := 256) (by omega)
       have v3 := pick_ev (p := fun z => 0 ≤ z ∧ z ≤ 255) [0, 255] code (pickC code (pickC code c1 256) 256) (by simp) (by simp)
       omega
      ·have v1 := pickV_in code c1 (n := 256) (by omega)
       have v2 := pickV_in code (pickC code c1 256) (n := 256) (by omega)
       have v3 := pick_ev (p := fun z => 0 ≤ z ∧ z ≤ 255) [0, 255] code (pickC code (pickC code c1 256) 256) (by simp) (by simp)
       omega
      ·have v1 := pickV_in code c1 (n := 256) (by omega)
       have v2 := pickV_in code (pickC code c1 256) (n := 256) (by omega)
       have v3 := pick_ev (p := fun z => 0 ≤ z ∧ z ≤ 255) [0, 255] code (pickC code (pickC code c1 256) 256) (by simp) (by simp)
       have v4 := or256 v2 v3
       omega
      ·refine s_l2Bits_own_pc sz (((pickV code c1 256).toNat &&& (((pickV code (pickC code c1 256) 256).toNat ||| ((([0, 255]).getD (pickV code (pickC code (pickC code c1 256) 256) (([0, 255]).length : Int)).toNat 0) : Int).toNat : Nat) : Int).toNat : Nat) : Int) ?_ ?_
       ·omega
       ·have v1 := pickV_in code c1 (n := 256) (by omega)
        have v2 := pickV_in code (pickC code c1 256) (n := 256) (by omega)
        have v3 := pick_ev (p := fun z => 0 ≤ z ∧ z ≤ 255) [0, 255] code (pickC code (pickC code c1 256) 256) (by simp) (by simp)
        have v4 := and256 (n := (((pickV code (pickC code c1 256) 256).toNat ||| (([0, 255] : List Int).getD (pickV code (pickC code (pickC code c1 256) 256) (([0, 255] : List Int).length : Int)).toNat 0).toNat : Nat) : Int).toNat) v1
        omega
      ·omega
      ·refine s_l1Cur_among_pk code (pickC code (pickC code (pickC code c1 256) 256) (([0, 255]).length : Int)) ([1, 1, 2, 3, 5, 8]) ?_ ?_ ?_
       ·exact hb
       ·exact okC_le (by repeat (first | assumption | apply ok_pick | apply ok_next)) (by omega)
       ·(simp_all; done)
      ·omega
      ·omega
      ·refine ⟨(i + 1), (pickC code (pickC code (pickC code (pickC code c1 256) 256) (([0, 255]).length : Int)) (([1, 1, 2, 3, 5, 8]).length : Int)), sz, (sets ++ [members (fun k => (((pickV code c1 256).toNat &&& (((pickV code (pickC code c1 256) 256).toNat ||| ((([0, 255]).getD (pickV code (pickC code (pickC code c1 256) 256) (([0, 255]).length : Int)).toNat 0) : Int).toNat : Nat) : Int).toNat : Nat) : Int).toNat.testBit k) sz.toNat]), (costs ++ [(([1, 1, 2, 3, 5, 8]).getD (pickV code (pickC code (pickC code (pickC code c1 256) 256) (([0, 255]).length : Int)) (([1, 1, 2, 3, 5, 8]).length : Int)).toNat 0)]), ?_⟩
       refine ⟨?_, ?_, rfl, rfl, rfl, rfl, rfl, rfl, rfl, rfl, rfl, ?_, ?_⟩
       ·refine ⟨?_, ?_, ?_, ?_, ?_, ?_, ?_⟩
        ·omega
        ·omega
        ·omega
        ·simp; try omega
        ·simp; try omega
        ·exact okC_le (by repeat (first | assumption | apply ok_pick | apply ok_next)) (by omega)
        ·refine rows_snoc h6 ?_
         have h := members_len_le (fun k => (((pickV code c1 256).toNat &&& (((pickV code (pickC code c1 256) 256).toNat ||| (([0, 255] : List Int).getD (pickV code (pickC code (pickC code c1 256) 256) (([0, 255] : List Int).length : Int)).toNat 0).toNat : Nat) : Int).toNat : Nat) : Int).toNat.testBit k) sz.toNat
         refine Nat.le_trans h ?_
         omega
       ·first | (show _ < _; omega) | (simp only [s_l1Cur_system_mJ0]; omega) | (simp only [s_l1Cur_system_mJ0] at *; simp at *; omega)
       ·simp; try omega
       ·simp; try omega
     ·intro b2
      try simp only [nrmT] at b2
      refine ⟨c1, sz, sets, costs, ?_⟩
      refine ⟨?_, rfl, rfl, rfl, rfl, rfl, rfl, rfl, rfl, rfl, rfl⟩
      ·refine ⟨?_, ?_, ?_, ?_⟩
       ·exact okC_le (by repeat (first | assumption | apply ok_pick | apply ok_next)) (by omega)
       ·omega
       ·omega
       ·assumption
   ·intro c2 sz1 set1 cost1 hJ
    obtain ⟨k0, k1, k2, k4⟩ := hJ
    refine ⟨?_, ?_⟩
    ·intro b3
     try simp only [nrmT] at b3
     refine ⟨?_, ?_, ?_, ?_⟩
     ·refine s_l1Cur_pick_pk code c2 n ?_ ?_
      ·exact hb
      ·exact okC_le (by repeat (first | assumption | apply ok_pick | apply ok_next)) (by omega)
     ·refine s_l1Cur_pick_pk code (pickC code c2 n) 40 ?_ ?_
      ·exact hb
      ·exact okC_le (by repeat (first | assumption | apply ok_pick | apply ok_next)) (by omega)
     ·intro b4
      try simp only [nrmT] at b4
      refine ⟨rfl, ?_, ?_⟩
      ·refine s_l1Cur_among_pk code (pickC code (pickC code c2 n) 40) ([(-1), 8, 9, 4611686018427387904]) ?_ ?_ ?_
       ·exact hb
       ·exact okC_le (by repeat (first | assumption | apply ok_pick | apply ok_next)) (by omega)
       ·(simp_all; done)
      ·refine ⟨(([(-1), 8, 9, 4611686018427387904]).getD (pickV code (pickC code (pickC code c2 n) 40) (([(-1), 8, 9, 4611686018427387904]).length : Int)).toNat 0), set1, cost1, (pickC code (pickC code (pickC code c2 n) 40) (([(-1), 8, 9, 4611686018427387904]).length : Int)), ?_⟩
       refine ⟨?_, rfl, rfl, rfl, rfl, rfl, rfl, rfl⟩
       ·unfold s_l1Cur_system_Q
        exact okC_le (by repeat (first | assumption | apply ok_pick | apply ok_next)) (by omega)
     ·intro b5
      try simp only [nrmT] at b5
      refine ⟨?_, ?_⟩
      ·intro b6
       try simp only [nrmT] at b6
       refine ⟨rfl, ?_, ?_, ?_, rfl, ?_, rfl, rfl, ?_, ?_, ?_, rfl, ?_, ?_, ?_⟩
       ·have ix := pickV_in code c2 (n := n) (by omega)
        omega
       ·have ix := pickV_in code c2 (n := n) (by omega)
        omega
       ·have ix := pickV_in code c2 (n := n) (by omega)
        omega
       ·refine s_l1Cur_among_pk code (pickC code (pickC code c2 n) 40) ([(-1), 0, sz1]) ?_ ?_ ?_
        ·exact hb
        ·exact okC_le (by repeat (first | assumption | apply ok_pick | apply ok_next)) (by omega)
        ·(simp_all; done)
       ·have ix := pickV_in code c2 (n := n) (by omega)
        have q := k4 _ (getD_mem (d := []) (show (pickV code c2 n).toNat < set1.length by omega))
        omega
       ·have ix := pickV_in code c2 (n := n) (by omega)
        omega
       ·have ix := pickV_in code c2 (n := n) (by omega)
        omega
       ·have ix := pickV_in code c2 (n := n) (by omega)
        omega
       ·simp
       ·refine ⟨sz1, (set1.set ((pickV code c2 n).toNat) ((set1.getD ((pickV code c2 n).toNat) []) ++ [(([(-1), 0, sz1]).getD (pickV code (pickC code (pickC code c2 n) 40) (([(-1), 0, sz1]).length : Int)).toNat 0)])), cost1, (pickC code (pickC code (pickC code c2 n) 40) (([(-1), 0, sz1]).length : Int)), ?_⟩
        refine ⟨?_, rfl, rfl, rfl, rfl, ?_, rfl, rfl⟩
        ·unfold s_l1Cur_system_Q
         exact okC_le (by repeat (first | assumption | apply ok_pick | apply ok_next)) (by omega)
        ·first | omega | rfl | simp
      ·intro b7
       try simp only [nrmT] at b7
       refine ⟨?_, ?_⟩
       ·intro b8
        try simp only [nrmT] at b8
        refine ⟨rfl, rfl, ?_, ?_, ?_, ?_, ?_⟩
        ·refine s_l1Cur_among_pk code (pickC code (pickC code c2 n) 40) ([0, (-1), 99, 100]) ?_ ?_ ?_
         ·exact hb
         ·exact okC_le (by repeat (first | assumption | apply ok_pick | apply ok_next)) (by omega)
         ·(simp_all; done)
        ·have ix := pickV_in code c2 (n := n) (by omega)
         omega
        ·have ix := pickV_in code c2 (n := n) (by omega)
         omega
        ·have ix := pickV_in code c2 (n := n) (by omega)
         omega
        ·refine ⟨sz1, set1, (cost1.set ((pickV code c2 n).toNat) (([0, (-1), 99, 100]).getD (pickV code (pickC code (pickC code c2 n) 40) (([0, (-1), 99, 100]).length : Int)).toNat 0)), (pickC code (pickC code (pickC code c2 n) 40) (([0, (-1), 99, 100]).length : Int)), ?_⟩
         refine ⟨?_, rfl, rfl, rfl, rfl, rfl, ?_, rfl⟩
         ·unfold s_l1Cur_system_Q
          exact okC_le (by repeat (first | assumption | apply ok_pick | apply ok_next)) (by omega)
         ·first | omega | rfl | simp
       ·intro b9
        try simp only [nrmT] at b9
        refine ⟨?_, ?_⟩
        ·intro b10
         try simp only [nrmT] at b10
         refine ⟨rfl, rfl, ?_, ?_⟩
         ·omega
         ·refine ⟨sz1, set1, (cost1 ++ [1]), (pickC code (pickC code c2 n) 40), ?_⟩
          refine ⟨?_, rfl, rfl, rfl, rfl, rfl, ?_, rfl⟩
          ·unfold s_l1Cur_system_Q
           exact okC_le (by repeat (first | assumption | apply ok_pick | apply ok_next)) (by omega)
          ·simp; try omega
        ·intro b11
         try simp only [nrmT] at b11
         refine ⟨?_, ?_⟩
         ·intro b12
          try simp only [nrmT] at b12
          refine ⟨?_, ?_⟩
          ·refine ⟨sz1, set1, cost1, ?_⟩
           refine ⟨?_, rfl, rfl, rfl, rfl, rfl, rfl, rfl, rfl, rfl⟩
           ·refine ⟨?_, ?_⟩
            ·omega
            ·first | omega | rfl | simp
          ·intro sz2 se co hJ
           obtain ⟨j0, j1⟩ := hJ
           refine ⟨?_, ?_⟩
           ·intro b13
            try simp only [nrmT] at b13
            refine ⟨rfl, rfl, rfl, by decide, ?_, rfl, rfl, ?_, ?_⟩
            ·omega
            ·omega
            ·refine ⟨sz2, (se ++ [[]]), (co ++ [1]), ?_⟩
             refine ⟨?_, ?_, rfl, rfl, rfl, rfl, rfl, rfl, rfl, ?_, ?_⟩
             ·refine ⟨?_, ?_⟩
              ·simp; try omega
              ·simp; try omega
             ·first | (show _ < _; omega) | (simp only [s_l1Cur_system_mJ1]; omega) | (simp only [s_l1Cur_system_mJ1] at *; simp at *; omega)
             ·simp; try omega
             ·simp; try omega
           ·intro b14
            try simp only [nrmT] at b14
            refine ⟨sz2, se, co, (pickC code (pickC code c2 n) 40), ?_⟩
            refine ⟨?_, rfl, rfl, rfl, rfl, rfl, rfl, rfl⟩
            ·unfold s_l1Cur_system_Q
             exact okC_le (by repeat (first | assumption | apply ok_pick | apply ok_next)) (by omega)
         ·intro b15
          try simp only [nrmT] at b15
          refine ⟨sz1, set1, cost1, (pickC code (pickC code c2 n) 40), ?_⟩
          refine ⟨?_, rfl, rfl, rfl, rfl, rfl, rfl, rfl⟩
          ·unfold s_l1Cur_system_Q
           exact okC_le (by repeat (first | assumption | apply ok_pick | apply ok_next)) (by omega)
    ·intro b16
     try simp only [nrmT] at b16
     refine ⟨sz1, set1, cost1, c2, ?_⟩
     refine ⟨?_, rfl, rfl, rfl, rfl, rfl, rfl, rfl⟩
     ·unfold s_l1Cur_system_Q
      exact okC_le (by repeat (first | assumption | apply ok_pick | apply ok_next)) (by omega)
theorem s_l1Cur_system_pke (code : List Nat) (c : Cur) (hb : ∀ x9 ∈ code, x9 < 256) (hc : okC c 1000000) : PKE Try.prog 163 98 (.sl (.bytes code)) [.int .i64 c.pos, .int .u64 c.seed] [] (s_l1Cur_system_X code c) :=
  pke_by (Q := fun u => s_l1Cur_system_P u code c) (by kernel_rfl) Try.func163 @Try.call163 (by kernel_rfl) s_l1Cur_system_C (fun u => s_l1Cur_system_A u code c) (by kernel_rfl) (fun u => s_l1Cur_system_vc u code c hb hc) (fun u => by kernel_rfl)
theorem rising_chs {n : Nat} {s : List Int} (h : rising s 0 ((n : Int) - 1) = true) : s ∈ chs n := by
  have ha := asc_rising h
  have hr := rising_mem h
  have hp : ∀ x ∈ s, 0 ≤ x ∧ x < (n : Int) := fun x hx => by have := hr x hx; omega
  refine chs_mem.2 ⟨bagN s, bagN_lt (m := n) hp, ?_⟩
  unfold lst
  refine asc_ext (asc_members _ _) ha fun x => ?_
  rw [mem_members]
  constructor
  · rintro ⟨h1, h2, h3⟩
    rw [bagN_bit fun y hy => (hp y hy).1, List.contains_iff_mem, show ((x.toNat : Nat) : Int) = x by omega] at h3
    exact h3
  · intro hx
    have h1 := hp x hx
    refine ⟨h1.1, h1.2, ?_⟩
    rw [bagN_bit fun y hy => (hp y hy).1, List.contains_iff_mem, show ((x.toNat : Nat) : Int) = x by omega]
    exact hx
abbrev l_rHas_JJ0 (list : List Int) (x : Int) (i : Int) : Prop := (0 ≤ i) ∧ (i ≤ (list.length : Int)) ∧ (∀ j, j < i.toNat → list.getD j 0 ≠ x)
abbrev l_rHas_mJ0 (list : List Int) (x : Int) (i : Int) : Nat := (list.length - i).toNat
def l_rHas_C (f : FuncId) (ds : List D) : Orc := .no
def l_rHas_A (list : List Int) (x : Int) : Ann := .two (.none) (.two (.two (.none) (.loop (cut1 (fun (i : Int) => l_rHas_JJ0 list x i) (fun (i : Int) => [(0, .d false (.sl (.ints list))), (1, .d false (.int .i64 x)), (5, .d true (.int .i64 i))]) (fun (i : Int) => [])) (fun g => l_rHas_mJ0 list x g) (fun _ => .none))) (.none))
def l_rHas_P (list : List Int) (x : Int) : Prop :=
  ((∃ i' : Int, (l_rHas_JJ0 list x i') ∧ (list = list) ∧ (x = x) ∧ ((0 : Int) = i')) ∧ (∀ i : Int, (l_rHas_JJ0 list x i) → (((decide (i < (list.length : Int))) = true → ((0 : Int) ≤ i) ∧ ((i : Int) < list.length) ∧ (i.toNat < list.length) ∧ ((((list.getD i.toNat 0) == x) = true → ((true = (list.contains x)))) ∧ (((list.getD i.toNat 0) == x) = false → (-9223372036854775808 ≤ (i + 1) ∧ (i + 1) ≤ 9223372036854775807) ∧ (∃ i' : Int, (l_rHas_JJ0 list x i') ∧ (l_rHas_mJ0 list x i' < l_rHas_mJ0 list x i) ∧ (list = list) ∧ (x = x) ∧ ((i + 1) = i'))))) ∧ ((decide (i < (list.length : Int))) = false → ((false = (list.contains x)))))))
theorem l_rHas_vc (list : List Int) (x : Int)  (w_list : (list.length : Int) ≤ 9223372036854775807) : l_rHas_P list x := by
  unfold l_rHas_P
  refine ⟨?_, ?_⟩
  ·refine ⟨0, ?_⟩
   refine ⟨?_, rfl, rfl, rfl⟩
   ·refine ⟨?_, ?_, ?_⟩
    ·omega
    ·omega
    ·intro j hj; exact absurd hj (by omega)
  ·intro i hJ
   obtain ⟨h1, h2, h3⟩ := hJ
   refine ⟨?_, ?_⟩
   ·intro b1
    try simp only [nrmT] at b1
    refine ⟨?_, ?_, ?_, ?_, ?_⟩
    ·omega
    ·omega
    ·omega
    ·intro b2
     try simp only [nrmT] at b2
     symm
     rw [List.contains_iff_mem]
     have e : list.getD i.toNat 0 = x := by simpa using b2
     rw [← e]; exact getD_memI h1 (by omega)
    ·intro b3
     try simp only [nrmT] at b3
     refine ⟨?_, ?_⟩
     ·omega
     ·refine ⟨(i + 1), ?_⟩
      refine ⟨?_, ?_, rfl, rfl, rfl⟩
      ·refine ⟨?_, ?_, ?_⟩
       ·omega
       ·omega
       ·intro j hj
        by_cases e : j = i.toNat
        · rw [e]; simpa using b3
        · exact h3 j (by omega)
      ·first | (show _ < _; omega) | (simp only [l_rHas_mJ0]; omega) | (simp only [l_rHas_mJ0] at *; simp at *; omega)
   ·intro b4
    try simp only [nrmT] at b4
    symm
    rw [Bool.eq_false_iff, Ne, List.contains_iff_mem]
    intro hm
    obtain ⟨j, hj, e⟩ := List.mem_iff_getElem.1 hm
    exact h3 j (by omega) (by rw [getD_get hj]; exact e)
theorem l_rHas_pc (list : List Int) (x : Int)  : PC Try.prog 83 [.sl (.ints list), .int .i64 x] (.one (.d (.bool (list.contains x)))) :=
  pc_wf @Try.call83 fun hw => pc_by (by kernel_rfl) Try.func83 @Try.call83 (by kernel_rfl) l_rHas_C (l_rHas_A list x) (by kernel_rfl) (l_rHas_vc list x hw.1) (by kernel_rfl)
def l_rHas_orc : List D → Orc := orcN [some .ints, none] fun ds => match ds with
  | [.sl (.ints list), .int .i64 x] => some (.one (.d (.bool (list.contains x))))
  | _ => none
def harmSum : Nat → Int
  | 0 => 0
  | k + 1 => harmSum k + 840 / ((k : Int) + 1)
theorem harmSum_bound : ∀ k : Nat, 0 ≤ harmSum k ∧ harmSum k ≤ 840 * k
  | 0 => by simp [harmSum]
  | k + 1 => by
    have h := harmSum_bound k
    have h1 : (840 : Int) / ((k : Int) + 1) ≤ 840 := Int.ediv_le_self _ (by omega)
    have h2 : 0 ≤ (840 : Int) / ((k : Int) + 1) := Int.ediv_nonneg (by omega) (by omega)
    simp only [harmSum]
    omega
theorem harmSum_step {i : Int} (h : 0 ≤ i) : harmSum (i + 1).toNat = harmSum i.toNat + 840 / (i + 1) := by
  have e : (i + 1).toNat = i.toNat + 1 := by omega
  rw [e, harmSum, Int.toNat_of_nonneg h]
def harm (n : Int) : Int := if 0 ≤ n ∧ n ≤ 8 then harmSum n.toNat else 0
abbrev i_HarmonicOf_JJ0 (n : Int) (total : Int) (i : Int) : Prop := (0 ≤ i) ∧ (i ≤ n) ∧ (total = harmSum i.toNat) ∧ (0 ≤ n ∧ n ≤ 8)
abbrev i_HarmonicOf_mJ0 (n : Int) (total : Int) (i : Int) : Nat := (n - i).toNat
def i_HarmonicOf_C (f : FuncId) (ds : List D) : Orc := bif Nat.beq f 120 then i_between_orc ds else .no
def i_HarmonicOf_A (n : Int) : Ann := .two (.none) (.two (.none) (.two (.none) (.two (.two (.none) (.loop (cut2 (fun (total : Int) (i : Int) => i_HarmonicOf_JJ0 n total i) (fun (total : Int) (i : Int) => [(4, .d true (.int .i64 total)), (9, .d false (.int .i64 n)), (10, .d true (.int .i64 i))]) (fun (total : Int) (i : Int) => [])) (fun g => i_HarmonicOf_mJ0 n g.1 g.2) (fun _ => .none))) (.none))))
def i_HarmonicOf_P (n : Int) : Prop :=
  (PC Try.prog 120 [.int .i64 n, .int .i64 0, .int .i64 8] (.one (.d (.bool (inB n 0 8))))) ∧ (((!(inB n 0 8)) = true → (((0 : Int) = (harm n)) ∧ (false = (decide (0 ≤ n ∧ n ≤ 8))))) ∧ ((!(inB n 0 8)) = false → ((∃ total' : Int, ∃ i' : Int, (i_HarmonicOf_JJ0 n total' i') ∧ ((0 : Int) = total') ∧ (n = n) ∧ ((0 : Int) = i')) ∧ (∀ total : Int, ∀ i : Int, (i_HarmonicOf_JJ0 n total i) → (((decide (i < n)) = true → (-9223372036854775808 ≤ (i + 1) ∧ (i + 1) ≤ 9223372036854775807) ∧ ((0 : Int) ≤ 840 ∧ (840 : Int) ≤ 9223372036854775807) ∧ ((1 : Int) ≤ (i + 1)) ∧ (-9223372036854775808 ≤ (total + (840 / (i + 1))) ∧ (total + (840 / (i + 1))) ≤ 9223372036854775807) ∧ (-9223372036854775808 ≤ (i + 1) ∧ (i + 1) ≤ 9223372036854775807) ∧ (∃ total' : Int, ∃ i' : Int, (i_HarmonicOf_JJ0 n total' i') ∧ (i_HarmonicOf_mJ0 n total' i' < i_HarmonicOf_mJ0 n total i) ∧ ((total + (840 / (i + 1))) = total') ∧ (n = n) ∧ ((i + 1) = i'))) ∧ ((decide (i < n)) = false → ((total = (harm n)) ∧ (true = (decide (0 ≤ n ∧ n ≤ 8))))))))))
theorem i_HarmonicOf_vc (n : Int)   : i_HarmonicOf_P n := by
  unfold i_HarmonicOf_P
  refine ⟨i_between_pc n 0 8, ?_, ?_⟩
  ·intro b1
   try simp only [nrmT] at b1
   refine ⟨?_, ?_⟩
   ·have e0 : inB n 0 8 = false := by first | assumption | simpa using b1
    have e : ¬ (0 ≤ n ∧ n ≤ 8) := of_decide_eq_false e0
    unfold harm; rw [if_neg e]
   ·have e0 : inB n 0 8 = false := by first | assumption | simpa using b1
    have e : ¬ (0 ≤ n ∧ n ≤ 8) := of_decide_eq_false e0
    exact (decide_eq_false e).symm
  ·intro b2
   try simp only [nrmT] at b2
   refine ⟨?_, ?_⟩
   ·refine ⟨0, 0, ?_⟩
    refine ⟨?_, rfl, rfl, rfl⟩
    ·refine ⟨?_, ?_, ?_, ?_⟩
     ·omega
     ·have e0 : inB n 0 8 = true := by first | assumption | simpa using b2
      have e : 0 ≤ n ∧ n ≤ 8 := of_decide_eq_true e0
      omega
     ·rfl
     ·have e0 : inB n 0 8 = true := by first | assumption | simpa using b2
      have e : 0 ≤ n ∧ n ≤ 8 := of_decide_eq_true e0
      exact e
   ·intro total i hJ
    obtain ⟨h1, h2, h3, h4⟩ := hJ
    refine ⟨?_, ?_⟩
    ·intro b3
     try simp only [nrmT] at b3
     refine ⟨?_, ?_, ?_, ?_, ?_, ?_⟩
     ·omega
     ·omega
     ·omega
     ·have h5 := harmSum_bound i.toNat
      have h6 : (840 : Int) / (i + 1) ≤ 840 := Int.ediv_le_self _ (by omega)
      have h7 : 0 ≤ (840 : Int) / (i + 1) := Int.ediv_nonneg (by omega) (by omega)
      omega
     ·omega
     ·refine ⟨(total + (840 / (i + 1))), (i + 1), ?_⟩
      refine ⟨?_, ?_, rfl, rfl, rfl⟩
      ·refine ⟨?_, ?_, ?_, ?_⟩
       ·omega
       ·omega
       ·rw [h3, harmSum_step h1]
       ·have e0 : inB n 0 8 = true := by first | assumption | simpa using b3
        have e : 0 ≤ n ∧ n ≤ 8 := of_decide_eq_true e0
        exact e
      ·first | (show _ < _; omega) | (simp only [i_HarmonicOf_mJ0]; omega) | (simp only [i_HarmonicOf_mJ0] at *; simp at *; omega)
    ·intro b4
     try simp only [nrmT] at b4
     refine ⟨?_, ?_⟩
     ·unfold harm; rw [if_pos h4, h3]; congr 1; omega
     ·exact (decide_eq_true h4).symm
theorem i_HarmonicOf_pc (n : Int)  : PC Try.prog 91 [.int .i64 n] (.tup [.d (.int .i64 (harm n)), .d (.bool (decide (0 ≤ n ∧ n ≤ 8)))]) :=
  pc_wf @Try.call91 fun _ => pc_by (by kernel_rfl) Try.func91 @Try.call91 (by kernel_rfl) i_HarmonicOf_C (i_HarmonicOf_A n) (by kernel_rfl) (i_HarmonicOf_vc n) (by kernel_rfl)
def i_HarmonicOf_orc : List D → Orc := orcN [none] fun ds => match ds with
  | [.int .i64 n] => some (.tup [.d (.int .i64 (harm n)), .d (.bool (decide (0 ≤ n ∧ n ≤ 8)))])
  | _ => none
abbrev s_HarmonicOf_JJ0 (n : Int) (total : Int) (i : Int) : Prop := (1 ≤ i) ∧ (i ≤ n + 1) ∧ (total = harmSum (i - 1).toNat) ∧ (0 ≤ n ∧ n ≤ 8)
abbrev s_HarmonicOf_mJ0 (n : Int) (total : Int) (i : Int) : Nat := (n + 1 - i).toNat
def s_HarmonicOf_C (f : FuncId) (ds : List D) : Orc := bif Nat.beq f 116 then s_l1In_orc ds else .no
def s_HarmonicOf_A (n : Int) : Ann := .two (.none) (.two (.none) (.two (.none) (.two (.two (.none) (.loop (cut2 (fun (total : Int) (i : Int) => s_HarmonicOf_JJ0 n total i) (fun (total : Int) (i : Int) => [(0, .d false (.int .i64 n)), (4, .d true (.int .i64 total)), (5, .d true (.int .i64 i))]) (fun (total : Int) (i : Int) => [])) (fun g => s_HarmonicOf_mJ0 n g.1 g.2) (fun _ => .none))) (.none))))
def s_HarmonicOf_P (n : Int) : Prop :=
  (PC Try.prog 116 [.int .i64 n, .int .i64 0, .int .i64 8] (.one (.d (.bool (inB n 0 8))))) ∧ (((!(inB n 0 8)) = true → (((0 : Int) = (harm n)) ∧ (false = (decide (0 ≤ n ∧ n ≤ 8))))) ∧ ((!(inB n 0 8)) = false → ((∃ total' : Int, ∃ i' : Int, (s_HarmonicOf_JJ0 n total' i') ∧ (n = n) ∧ ((0 : Int) = total') ∧ ((1 : Int) = i')) ∧ (∀ total : Int, ∀ i : Int, (s_HarmonicOf_JJ0 n total i) → (((decide (i ≤ n)) = true → ((0 : Int) ≤ 840 ∧ (840 : Int) ≤ 9223372036854775807) ∧ ((1 : Int) ≤ i) ∧ (-9223372036854775808 ≤ (total + (840 / i)) ∧ (total + (840 / i)) ≤ 9223372036854775807) ∧ (-9223372036854775808 ≤ (i + 1) ∧ (i + 1) ≤ 9223372036854775807) ∧ (∃ total' : Int, ∃ i' : Int, (s_HarmonicOf_JJ0 n total' i') ∧ (s_HarmonicOf_mJ0 n total' i' < s_HarmonicOf_mJ0 n total i) ∧ (n = n) ∧ ((total + (840 / i)) = total') ∧ ((i + 1) = i'))) ∧ ((decide (i ≤ n)) = false → ((total = (harm n)) ∧ (true = (decide (0 ≤ n ∧ n ≤ 8))))))))))
theorem s_HarmonicOf_vc (n : Int)   : s_HarmonicOf_P n := by
  unfold s_HarmonicOf_P
  refine ⟨s_l1In_pc n 0 8, ?_, ?_⟩
  ·intro b1
   try simp only [nrmT] at b1
   refine ⟨?_, ?_⟩
   ·have e0 : inB n 0 8 = false := by first | assumption | simpa using b1
    have e : ¬ (0 ≤ n ∧ n ≤ 8) := of_decide_eq_false e0
    unfold harm; rw [if_neg e]
   ·have e0 : inB n 0 8 = false := by first | assumption | simpa using b1
    have e : ¬ (0 ≤ n ∧ n ≤ 8) := of_decide_eq_false e0
    exact (decide_eq_false e).symm
  ·intro b2
   try simp only [nrmT] at b2
   refine ⟨?_, ?_⟩
   ·refine ⟨0, 1, ?_⟩
    refine ⟨?_, rfl, rfl, rfl⟩
    ·refine ⟨?_, ?_, ?_, ?_⟩
     ·omega
     ·have e0 : inB n 0 8 = true := by first | assumption | simpa using b2
      have e : 0 ≤ n ∧ n ≤ 8 := of_decide_eq_true e0
      omega
     ·rfl
     ·have e0 : inB n 0 8 = true := by first | assumption | simpa using b2
      have e : 0 ≤ n ∧ n ≤ 8 := of_decide_eq_true e0
      exact e
   ·intro total i hJ
    obtain ⟨h1, h2, h3, h4⟩ := hJ
    refine ⟨?_, ?_⟩
    ·intro b3
     try simp only [nrmT] at b3
     refine ⟨?_, ?_, ?_, ?_, ?_⟩
     ·omega
     ·omega
     ·have h5 := harmSum_bound (i - 1).toNat
      have h6 : (840 : Int) / (i) ≤ 840 := Int.ediv_le_self _ (by omega)
      have h7 : 0 ≤ (840 : Int) / (i) := Int.ediv_nonneg (by omega) (by omega)
      omega
     ·omega
     ·refine ⟨(total + (840 / i)), (i + 1), ?_⟩
      refine ⟨?_, ?_, rfl, rfl, rfl⟩
      ·refine ⟨?_, ?_, ?_, ?_⟩
       ·omega
       ·omega
       ·have e := harmSum_step (i := i - 1) (by omega)
        rw [show i - 1 + 1 = i by omega] at e
        rw [h3, show i + 1 - 1 = i by omega, e]
       ·have e0 : inB n 0 8 = true := by first | assumption | simpa using b3
        have e : 0 ≤ n ∧ n ≤ 8 := of_decide_eq_true e0
        exact e
      ·first | (show _ < _; omega) | (simp only [s_HarmonicOf_mJ0]; omega) | (simp only [s_HarmonicOf_mJ0] at *; simp at *; omega)
    ·intro b4
     try simp only [nrmT] at b4
     refine ⟨?_, ?_⟩
     ·unfold harm; rw [if_pos h4, h3]; congr 1; omega
     ·exact (decide_eq_true h4).symm
theorem s_HarmonicOf_pc (n : Int)  : PC Try.prog 92 [.int .i64 n] (.tup [.d (.int .i64 (harm n)), .d (.bool (decide (0 ≤ n ∧ n ≤ 8)))]) :=
  pc_wf @Try.call92 fun _ => pc_by (by kernel_rfl) Try.func92 @Try.call92 (by kernel_rfl) s_HarmonicOf_C (s_HarmonicOf_A n) (by kernel_rfl) (s_HarmonicOf_vc n) (by kernel_rfl)
def s_HarmonicOf_orc : List D → Orc := orcN [none] fun ds => match ds with
  | [.int .i64 n] => some (.tup [.d (.int .i64 (harm n)), .d (.bool (decide (0 ≤ n ∧ n ≤ 8)))])
  | _ => none
def lsum (f : Int → Int) (l : List Int) : Int := (l.map f).sum
theorem lsum_nil (f : Int → Int) : lsum f [] = 0 := rfl
theorem lsum_cons (f : Int → Int) (x : Int) (l : List Int) : lsum f (x :: l) = f x + lsum f l := rfl
theorem lsum_app (f : Int → Int) : ∀ a b : List Int, lsum f (a ++ b) = lsum f a + lsum f b
  | [], b => by rw [List.nil_append, lsum_nil, Int.zero_add]
  | x :: r, b => by rw [List.cons_append, lsum_cons, lsum_cons, lsum_app f r b, Int.add_assoc]
theorem lsum_le {f g : Int → Int} : ∀ {l : List Int}, (∀ x ∈ l, f x ≤ g x) → lsum f l ≤ lsum g l
  | [], _ => Int.le_refl _
  | x :: r, h => by
    have h1 := h x List.mem_cons_self
    have h2 := lsum_le (f := f) (g := g) (l := r) fun y hy => h y (List.mem_cons_of_mem _ hy)
    rw [lsum_cons, lsum_cons]; omega
theorem lsum_congr {f g : Int → Int} {l : List Int} (h : ∀ x ∈ l, f x = g x) : lsum f l = lsum g l := by
  unfold lsum; rw [List.map_congr_left h]
theorem lsum_mul (c : Int) (f : Int → Int) : ∀ l : List Int, lsum (fun x => c * f x) l = c * lsum f l
  | [] => by simp [lsum]
  | x :: r => by rw [lsum_cons, lsum_cons, lsum_mul c f r, Int.mul_add]
theorem sumTo_lsum (f : Int → Int) (l : List Int) : sumTo (fun k => f (l.getD k 0)) l.length = lsum f l := by
  have key : ∀ k, k ≤ l.length → sumTo (fun k => f (l.getD k 0)) k = lsum f (l.take k) := by
    intro k
    induction k with
    | zero => intro _; simp [sumTo, foldTo, lsum]
    | succ k ih =>
      intro hk
      rw [sumTo_succ, ih (by omega), List.take_add_one, List.getElem?_eq_getElem (show k < l.length by omega), getD_get (show k < l.length by omega), lsum_app]
      simp [lsum]
  rw [key _ (Nat.le_refl _), List.take_length]
theorem cost_lsum (Costs c : List Int) : costOf Costs c = lsum (fun y => Costs.getD y.toNat 0) c := sumTo_lsum (fun y => Costs.getD y.toNat 0) c
theorem priced_lsum (S p : List Int) : priced S p = lsum (fun y => p.getD y.toNat 0) S := sumTo_lsum (fun y => p.getD y.toNat 0) S
theorem sumTo_add (f g : Nat → Int) : ∀ n, sumTo (fun k => f k + g k) n = sumTo f n + sumTo g n
  | 0 => rfl
  | n + 1 => by rw [sumTo_succ, sumTo_succ, sumTo_succ, sumTo_add f g n]; omega
theorem sumTo_le {f g : Nat → Int} : ∀ n, (∀ k, k < n → f k ≤ g k) → sumTo f n ≤ sumTo g n
  | 0, _ => Int.le_refl _
  | n + 1, h => by
    have := sumTo_le (f := f) (g := g) n fun k hk => h k (by omega)
    have := h n (by omega)
    rw [sumTo_succ, sumTo_succ]; omega
theorem sumTo_cong {f g : Nat → Int} {n : Nat} (h : ∀ k, k < n → f k = g k) : sumTo f n = sumTo g n := by
  have h1 := sumTo_le (f := f) (g := g) n fun k hk => by rw [h k hk]; exact Int.le_refl _
  have h2 := sumTo_le (f := g) (g := f) n fun k hk => by rw [h k hk]; exact Int.le_refl _
  omega
theorem sumTo_mul (c : Int) (f : Nat → Int) : ∀ n, sumTo (fun k => c * f k) n = c * sumTo f n
  | 0 => by simp [sumTo, foldTo]
  | n + 1 => by rw [sumTo_succ, sumTo_succ, sumTo_mul c f n, Int.mul_add]
theorem sumTo_zero : ∀ n, sumTo (fun _ => 0) n = 0
  | 0 => rfl
  | n + 1 => by rw [sumTo_succ, sumTo_zero n]; rfl
theorem members_sum (f : Int → Int) (q : Nat → Bool) : ∀ n, lsum f (members q n) = sumTo (fun x => if q x = true then f (x : Int) else 0) n
  | 0 => by simp [members, lsum, sumTo, foldTo]
  | n + 1 => by
    rw [members_succ, lsum_app, members_sum f q n, sumTo_succ]
    by_cases h : q n = true
    · rw [if_pos h, if_pos h]; simp [lsum]
    · rw [if_neg h, if_neg h]; simp [lsum]
theorem members_count (q : Nat → Bool) (n : Nat) : ((members q n).length : Int) = sumTo (fun x => if q x = true then 1 else 0) n := by
  rw [← members_sum (fun _ => 1) q n]
  unfold lsum
  induction members q n with
  | nil => rfl
  | cons x r ih => rw [List.map_cons, List.sum_cons, ← ih, List.length_cons]; omega
/-- A set of a system, as what it has. -/
theorem set_members {Size : Int} {Sets : List (List Int)} {Costs : List Int} (hg : goodSys Size Sets Costs = true) {k : Nat} (hk : k < Sets.length) : Sets.getD k [] = members (fun x => (Sets.getD k []).contains (x : Int)) Size.toNat :=
  asc_eq_members (asc_rising (gs_set hg hk)) fun x hx => set_memS hg hk x hx
theorem set_sum {Size : Int} {Sets : List (List Int)} {Costs : List Int} (hg : goodSys Size Sets Costs = true) {k : Nat} (hk : k < Sets.length) (f : Int → Int) :
    lsum f (Sets.getD k []) = sumTo (fun x => if (Sets.getD k []).contains (x : Int) = true then f (x : Int) else 0) Size.toNat := by
  have h := members_sum f (fun x => (Sets.getD k []).contains (x : Int)) Size.toNat
  rw [← set_members hg hk] at h
  exact h
/-- What covers has the prices of all that is covered. -/
theorem dual_le {Size : Int} {Sets : List (List Int)} {Costs : List Int} (hg : goodSys Size Sets Costs = true) {f : Int → Int} (hf : ∀ x : Nat, x < Size.toNat → 0 ≤ f (x : Int)) : ∀ {c : List Int}, InR Sets c →
    sumTo (fun x => if covB Sets c x = true then f (x : Int) else 0) Size.toNat ≤ lsum (fun i => lsum f (Sets.getD i.toNat [])) c
  | [], _ => by
    rw [lsum_nil]
    have : sumTo (fun x => if covB Sets [] x = true then f (x : Int) else 0) Size.toNat = sumTo (fun _ => 0) Size.toNat := sumTo_cong fun k _ => rfl
    rw [this, sumTo_zero]; exact Int.le_refl _
  | i :: r, hc => by
    have h0 := hc i List.mem_cons_self
    have ih := dual_le hg hf (c := r) fun y hy => hc y (List.mem_cons_of_mem _ hy)
    rw [lsum_cons, set_sum hg (k := i.toNat) (by omega) f]
    refine Int.le_trans ?_ (Int.add_le_add_left ih _)
    rw [← sumTo_add]
    refine sumTo_le _ fun x hx => ?_
    have e : covB Sets (i :: r) x = ((Sets.getD i.toNat []).contains (x : Int) || covB Sets r x) := rfl
    have hp := hf x hx
    rw [e]
    cases (Sets.getD i.toNat []).contains (x : Int) <;> cases covB Sets r x <;> simp <;> omega
theorem dual_cover {Size : Int} {Sets : List (List Int)} {Costs : List Int} (hg : goodSys Size Sets Costs = true) {f : Int → Int} (hf : ∀ x : Nat, x < Size.toNat → 0 ≤ f (x : Int)) {c : List Int} (hc : InR Sets c) (hv : coverB Size Sets c = true) :
    sumTo (fun x => f (x : Int)) Size.toNat ≤ lsum (fun i => lsum f (Sets.getD i.toNat [])) c := by
  refine Int.le_trans (Int.le_of_eq ?_) (dual_le hg hf hc)
  refine sumTo_cong fun x hx => ?_
  rw [if_pos (allTo_iff.1 hv x hx)]
def GrBy (Sets : List (List Int)) (Costs r : List Int) : Prop := ∀ i, i < r.length → r.getD i 0 = grTo Sets Costs (r.take i) Sets.length
theorem grBy_app {Sets : List (List Int)} {Costs out : List Int} (h : GrBy Sets Costs out) : GrBy Sets Costs (out ++ [grTo Sets Costs out Sets.length]) := by
  intro i hi
  rw [List.length_append, List.length_singleton] at hi
  by_cases e : i = out.length
  · subst e; rw [take_last, getD_last]
  · rw [List.take_append_of_le_length (by omega), ← h i (by omega)]
    simp only [List.getD_eq_getElem?_getD]
    rw [List.getElem?_append_left (by omega)]
theorem grRun_by {Size : Int} {Sets : List (List Int)} {Costs : List Int} : ∀ n out r, GrBy Sets Costs out → grRun Size Sets Costs n out = some r → GrBy Sets Costs r
  | 0, out, r, h, e => by
    unfold grRun at e
    split at e
    · cases e; exact h
    · cases e
  | n + 1, out, r, h, e => by
    unfold grRun at e
    split at e
    · cases e; exact h
    · split at e
      · cases e
      · exact grRun_by n _ r (grBy_app h) e
theorem grO_by (Size : Int) (Sets : List (List Int)) (Costs : List Int) : GrBy Sets Costs (grO Size Sets Costs) := by
  unfold grO
  cases h : grs Size Sets Costs [] with
  | none => exact fun i hi => by simp at hi
  | some r => exact grRun_by _ _ r (fun i hi => by simp at hi) h
theorem grRun_full {Size : Int} {Sets : List (List Int)} {Costs : List Int} : ∀ n out r, grRun Size Sets Costs n out = some r → coverB Size Sets r = true
  | 0, out, r, e => by
    unfold grRun at e
    split at e
    · rename_i h; cases e; exact h
    · cases e
  | n + 1, out, r, e => by
    unfold grRun at e
    split at e
    · rename_i h; cases e; exact h
    · split at e
      · cases e
      · exact grRun_full n _ r e
theorem grO_full {Size : Int} {Sets : List (List Int)} {Costs : List Int} (hg : goodSys Size Sets Costs = true) (ha : coverB Size Sets (allN Sets.length) = true) : coverB Size Sets (grO Size Sets Costs) = true := by
  have h1 := grs_some (Costs := Costs) hg
  rw [ha] at h1
  obtain ⟨r, hr⟩ := Option.isSome_iff_exists.1 h1
  unfold grO
  rw [hr]
  exact grRun_full _ _ r hr
/-- No set has a less quotient. -/
theorem grTo_min {Size : Int} {Sets : List (List Int)} {Costs out : List Int} (hg : goodSys Size Sets Costs = true) : ∀ k, k ≤ Sets.length → 0 ≤ grTo Sets Costs out k → ∀ j, j < k → 0 < newN Sets out j →
    Costs.getD (grTo Sets Costs out k).toNat 0 * newN Sets out j ≤ Costs.getD j 0 * newN Sets out (grTo Sets Costs out k).toNat
  | 0, _, _, j, hj, _ => by omega
  | k + 1, hk, h0, j, hj, hn => by
    have gf := gs_facts hg
    obtain ⟨f1, f2, f3⟩ := grTo_facts Sets Costs out k
    rw [grTo_succ] at h0 ⊢
    unfold grF at h0 ⊢
    split
    · rename_i hif
      rw [Bool.and_eq_true, decide_eq_true_eq, Bool.or_eq_true, decide_eq_true_eq, decide_eq_true_eq] at hif
      rw [Int.toNat_natCast]
      by_cases e : j = k
      · subst e; exact Int.le_refl _
      · by_cases hb : grTo Sets Costs out k < 0
        · have := f3 hb j (by omega); omega
        · have ih := grTo_min hg (out := out) k (by omega) (by omega) j (by omega) hn
          have hlt : Costs.getD k 0 * newN Sets out (grTo Sets Costs out k).toNat < Costs.getD (grTo Sets Costs out k).toNat 0 * newN Sets out k := by omega
          have hb1 := f2 (by omega)
          have c1 := gs_cost hg (k := k) (by omega)
          have c2 := gs_cost hg (k := (grTo Sets Costs out k).toNat) (by omega)
          have c3 := gs_cost hg (k := j) (by omega)
          revert ih hlt hb1 c1 c2 c3
          generalize Costs.getD k 0 = ck
          generalize Costs.getD (grTo Sets Costs out k).toNat 0 = cb
          generalize Costs.getD j 0 = cj
          generalize newN Sets out (grTo Sets Costs out k).toNat = nb
          have hnk := hif.1
          revert hnk hn
          generalize newN Sets out k = nk
          generalize newN Sets out j = nj
          intro hn hnk ih hlt hb1 c1 c2 c3
          have h1 : ck * nb * nj ≤ cb * nk * nj := Int.mul_le_mul_of_nonneg_right (by omega) (by omega)
          have h2 : cb * nj * nk ≤ cj * nb * nk := Int.mul_le_mul_of_nonneg_right ih (by omega)
          have h3 : (ck * nj) * nb ≤ (cj * nk) * nb := by
            calc (ck * nj) * nb = ck * nb * nj := by ac_rfl
              _ ≤ cb * nk * nj := h1
              _ = cb * nj * nk := by ac_rfl
              _ ≤ cj * nb * nk := h2
              _ = (cj * nk) * nb := by ac_rfl
          exact Int.le_of_mul_le_mul_right h3 hb1
    · rename_i hif
      rw [if_neg hif] at h0
      by_cases e : j = k
      · subst e
        rw [Bool.and_eq_true, decide_eq_true_eq, Bool.or_eq_true, decide_eq_true_eq, decide_eq_true_eq] at hif
        omega
      · exact grTo_min hg k (by omega) h0 j (by omega) hn
theorem prAt_zero {Sets : List (List Int)} {Costs r : List Int} {x : Nat} : ∀ i, i ≤ r.length → covB Sets (r.take i) x = false → prAt Sets Costs r i x = 0
  | 0, _, _ => rfl
  | i + 1, hi, h => by
    have e : r.take (i + 1) = r.take i ++ [r.getD i 0] := by rw [List.take_add_one, List.getElem?_eq_getElem (show i < r.length by omega), getD_get (show i < r.length by omega)]; rfl
    rw [e, covB_app, Bool.or_eq_false_iff] at h
    simp only [prAt]
    rw [h.2, Bool.and_false, if_neg (by simp)]
    exact prAt_zero i (by omega) h.1
theorem new_count {Size : Int} {Sets : List (List Int)} {Costs r : List Int} (hg : goodSys Size Sets Costs = true) {j : Nat} (hj : j < Sets.length) :
    newN Sets r j = sumTo (fun x => if (!(covB Sets r x) && (Sets.getD j []).contains (x : Int)) = true then 1 else 0) Size.toNat := by
  unfold newN
  rw [newOf_filter, ← members_count]
  congr 2
  refine asc_ext ((asc_rising (gs_set hg hj)).filter _) (asc_members _ _) fun x => ?_
  rw [List.mem_filter, mem_members]
  constructor
  · rintro ⟨h1, h2⟩
    have h3 := set_memS hg hj x h1
    refine ⟨h3.1, h3.2, ?_⟩
    have ex : ((x.toNat : Nat) : Int) = x := by omega
    rw [Bool.and_eq_true, ex, List.contains_iff_mem]
    refine ⟨?_, h1⟩
    have e : covB Sets r x.toNat = (covL Sets r r.length).contains x := by
      rw [Bool.eq_iff_iff, covB_iff2, List.contains_iff_mem, ex]
    rw [e]; exact h2
  · rintro ⟨h1, h2, h3⟩
    have ex : ((x.toNat : Nat) : Int) = x := by omega
    rw [Bool.and_eq_true, ex, List.contains_iff_mem] at h3
    have e : covB Sets r x.toNat = (covL Sets r r.length).contains x := by
      rw [Bool.eq_iff_iff, covB_iff2, List.contains_iff_mem, ex]
    rw [e] at h3
    exact ⟨h3.2, h3.1⟩
theorem take_snoc {r : List Int} {i : Nat} (hi : i < r.length) : r.take (i + 1) = r.take i ++ [r.getD i 0] := by
  rw [List.take_add_one, List.getElem?_eq_getElem hi, getD_get hi]; rfl
/-- The prices' sum is that of the sets' costs, scaled. -/
theorem pr_sum {Size : Int} {Sets : List (List Int)} {Costs r : List Int} (hg : goodSys Size Sets Costs = true) (ho : GrOk Sets r) : ∀ i, i ≤ r.length → sumTo (prAt Sets Costs r i) Size.toNat = 840 * lsum (fun y => Costs.getD y.toNat 0) (r.take i)
  | 0, _ => by
    have : sumTo (prAt Sets Costs r 0) Size.toNat = sumTo (fun _ => 0) Size.toNat := rfl
    rw [this, sumTo_zero]; simp [lsum]
  | i + 1, hi => by
    have hin := ho.inR _ (getD_mem (d := 0) (show i < r.length by omega))
    have h1 : sumTo (prAt Sets Costs r (i + 1)) Size.toNat = sumTo (fun x => prAt Sets Costs r i x + prV Sets Costs r i * (if (!(covB Sets (r.take i) x) && (Sets.getD (r.getD i 0).toNat []).contains (x : Int)) = true then 1 else 0)) Size.toNat := by
      refine sumTo_cong fun x _ => ?_
      simp only [prAt]
      by_cases hc : (!(covB Sets (r.take i) x) && (Sets.getD (r.getD i 0).toNat []).contains (x : Int)) = true
      · rw [if_pos hc, if_pos hc]
        rw [Bool.and_eq_true, Bool.not_eq_true'] at hc
        rw [prAt_zero i (by omega) hc.1]; omega
      · rw [if_neg hc, if_neg hc]; omega
    rw [h1, sumTo_add, sumTo_mul, pr_sum hg ho i (by omega), ← new_count hg (show (r.getD i 0).toNat < Sets.length by omega), take_snoc (by omega), lsum_app, lsum_cons, lsum_nil]
    have hn := new_one hg ho (show i < r.length by omega)
    unfold prV
    revert hn
    generalize newN Sets (r.take i) (r.getD i 0).toNat = n
    generalize Costs.getD (r.getD i 0).toNat 0 = c
    intro hn
    have e : 840 / n * c * n = 840 * c := by
      have : n = 1 ∨ n = 2 ∨ n = 3 ∨ n = 4 ∨ n = 5 ∨ n = 6 ∨ n = 7 ∨ n = 8 := by omega
      rcases this with rfl | rfl | rfl | rfl | rfl | rfl | rfl | rfl <;> omega
    rw [e]; omega
theorem price_le {n u cb cj : Int} (hn : 1 ≤ n ∧ n ≤ 8) (hu : 1 ≤ u ∧ u ≤ 8) (h : cb * u ≤ cj * n) : 840 / n * cb ≤ 840 / u * cj := by
  have a : n = 1 ∨ n = 2 ∨ n = 3 ∨ n = 4 ∨ n = 5 ∨ n = 6 ∨ n = 7 ∨ n = 8 := by omega
  have b : u = 1 ∨ u = 2 ∨ u = 3 ∨ u = 4 ∨ u = 5 ∨ u = 6 ∨ u = 7 ∨ u = 8 := by omega
  rcases a with rfl | rfl | rfl | rfl | rfl | rfl | rfl | rfl <;> rcases b with rfl | rfl | rfl | rfl | rfl | rfl | rfl | rfl <;> omega
theorem harm_step : ∀ u : Nat, u ≤ 8 → ∀ d : Nat, d ≤ u → 0 < u → (d : Int) * (840 / (u : Int)) ≤ harmSum u - harmSum (u - d) := by decide
/-- A set's prices are no more than its harmonic share. -/
theorem pr_share {Size : Int} {Sets : List (List Int)} {Costs r : List Int} (hg : goodSys Size Sets Costs = true) (ho : GrOk Sets r) (hb : GrBy Sets Costs r) {j : Nat} (hj : j < Sets.length) : ∀ i, i ≤ r.length →
    sumTo (fun x => if (Sets.getD j []).contains (x : Int) = true then prAt Sets Costs r i x else 0) Size.toNat + harmSum (newN Sets (r.take i) j).toNat * Costs.getD j 0 ≤ harmSum (Sets.getD j []).length * Costs.getD j 0
  | 0, _ => by
    have gf := gs_facts hg
    have e0 : sumTo (fun x => if (Sets.getD j []).contains (x : Int) = true then prAt Sets Costs r 0 x else 0) Size.toNat = sumTo (fun _ => 0) Size.toNat := sumTo_cong fun x _ => by simp [prAt]
    have e1 : (newN Sets (r.take 0) j).toNat = (Sets.getD j []).length := by
      unfold newN
      rw [newOf_filter]
      simp only [List.take_zero, List.length_nil, covL, foldTo, List.contains_nil, Bool.not_false]
      rw [Int.toNat_natCast, List.filter_eq_self.2 (fun _ _ => rfl)]
    rw [e0, sumTo_zero, e1]; omega
  | i + 1, hi => by
    have gf := gs_facts hg
    have ih := pr_share hg ho hb hj i (by omega)
    have hin := ho.inR _ (getD_mem (d := 0) (show i < r.length by omega))
    have hn := new_one hg ho (show i < r.length by omega)
    have u8 := new_le8 hg (covL Sets (r.take i) (r.take i).length) hj
    have c1 := gs_cost hg (k := j) (by omega)
    -- how many of the set are new
    have hU : newN Sets (r.take i) j = newN Sets (r.take (i + 1)) j + sumTo (fun x => if ((Sets.getD j []).contains (x : Int) && (!(covB Sets (r.take i) x) && (Sets.getD (r.getD i 0).toNat []).contains (x : Int))) = true then 1 else 0) Size.toNat := by
      rw [new_count hg hj, new_count hg hj, ← sumTo_add]
      refine sumTo_cong fun x _ => ?_
      rw [take_snoc (by omega), covB_app]
      cases covB Sets (r.take i) x <;> cases (Sets.getD j []).contains (x : Int) <;> cases (Sets.getD (r.getD i 0).toNat []).contains (x : Int) <;> rfl
    have hS : sumTo (fun x => if (Sets.getD j []).contains (x : Int) = true then prAt Sets Costs r (i + 1) x else 0) Size.toNat = sumTo (fun x => if (Sets.getD j []).contains (x : Int) = true then prAt Sets Costs r i x else 0) Size.toNat
        + prV Sets Costs r i * sumTo (fun x => if ((Sets.getD j []).contains (x : Int) && (!(covB Sets (r.take i) x) && (Sets.getD (r.getD i 0).toNat []).contains (x : Int))) = true then 1 else 0) Size.toNat := by
      rw [← sumTo_mul, ← sumTo_add]
      refine sumTo_cong fun x _ => ?_
      simp only [prAt]
      cases hs : (Sets.getD j []).contains (x : Int)
      · simp
      · rw [Bool.true_and]
        by_cases hc : (!(covB Sets (r.take i) x) && (Sets.getD (r.getD i 0).toNat []).contains (x : Int)) = true
        · rw [if_pos hc, if_pos hc]
          rw [Bool.and_eq_true, Bool.not_eq_true'] at hc
          rw [prAt_zero i (by omega) hc.1]; simp
        · rw [if_neg hc, if_neg hc]; simp
    have hD0 := (sumTo_bound (f := fun x => if ((Sets.getD j []).contains (x : Int) && (!(covB Sets (r.take i) x) && (Sets.getD (r.getD i 0).toNat []).contains (x : Int))) = true then 1 else 0) (m := 1) Size.toNat fun k _ => by split <;> omega).1
    have w8 := new_le8 hg (covL Sets (r.take (i + 1)) (r.take (i + 1)).length) hj
    rw [hS]
    have hgr := hb i (by omega)
    have hmin := grTo_min hg (out := r.take i) Sets.length (Nat.le_refl _) (by rw [← hgr]; omega) j hj
    rw [← hgr] at hmin
    have nU : newN Sets (r.take i) j = newOf (Sets.getD j []) (covL Sets (r.take i) (r.take i).length) := rfl
    have nW : newN Sets (r.take (i + 1)) j = newOf (Sets.getD j []) (covL Sets (r.take (i + 1)) (r.take (i + 1)).length) := rfl
    rw [← nU] at u8
    rw [← nW] at w8
    unfold prV
    revert hU hD0 ih hmin hn u8 w8 c1
    generalize sumTo (fun x => if ((Sets.getD j []).contains (x : Int) && (!(covB Sets (r.take i) x) && (Sets.getD (r.getD i 0).toNat []).contains (x : Int))) = true then 1 else 0) Size.toNat = d
    generalize newN Sets (r.take i) j = u
    generalize newN Sets (r.take (i + 1)) j = w
    generalize newN Sets (r.take i) (r.getD i 0).toNat = n
    generalize Costs.getD (r.getD i 0).toNat 0 = cb
    generalize Costs.getD j 0 = cj
    generalize harmSum (Sets.getD j []).length * cj = top
    generalize sumTo (fun x => if (Sets.getD j []).contains (x : Int) = true then prAt Sets Costs r i x else 0) Size.toNat = s
    intro ih hn u8 c1 hU hD0 w8 hmin
    by_cases hz : d = 0
    · have : w = u := by omega
      rw [hz, this, Int.mul_zero]; omega
    · have hp := price_le (cb := cb) (cj := cj) hn (show 1 ≤ u ∧ u ≤ 8 by omega) (hmin (by omega))
      have hh := harm_step u.toNat (by omega) d.toNat (by omega) (by omega)
      rw [show ((d.toNat : Nat) : Int) = d by omega, show ((u.toNat : Nat) : Int) = u by omega, show u.toNat - d.toNat = w.toNat by omega] at hh
      have h1 : 840 / n * cb * d ≤ 840 / u * cj * d := Int.mul_le_mul_of_nonneg_right hp hD0
      have h2 : d * (840 / u) * cj ≤ (harmSum u.toNat - harmSum w.toNat) * cj := Int.mul_le_mul_of_nonneg_right hh (by omega)
      have h3 : 840 / u * cj * d = d * (840 / u) * cj := by ac_rfl
      rw [Int.sub_mul] at h2
      omega
def srtF (list out : List Int) (i : Nat) : List Int := if list.contains ((i : Int) - 1) = true then out ++ [(i : Int) - 1] else out
def srtTo (list : List Int) (k : Nat) : List Int := foldTo (srtF list) [] k
def srt (list : List Int) : List Int := srtTo list 1002
theorem srtTo_succ (list : List Int) (k : Nat) : srtTo list (k + 1) = if list.contains ((k : Int) - 1) = true then srtTo list k ++ [(k : Int) - 1] else srtTo list k := rfl
theorem srt_eq {list : List Int} (h : ∀ y ∈ list, 0 ≤ y) : ∀ k, srtTo list (k + 1) = members (fun x => list.contains (x : Int)) k
  | 0 => by
    rw [srtTo_succ, if_neg]
    · rfl
    · intro hc
      have := h _ (List.contains_iff_mem.1 hc)
      omega
  | k + 1 => by
    have e : (((k + 1 : Nat) : Int) - 1) = (k : Int) := by omega
    rw [srtTo_succ, srt_eq h k, members_succ, e]
    by_cases hc : list.contains (k : Int) = true
    · rw [if_pos hc, if_pos hc]
    · rw [if_neg hc, if_neg hc, List.append_nil]
theorem mem_srt {list : List Int} (h : ∀ y ∈ list, 0 ≤ y ∧ y ≤ 1000) (x : Int) : x ∈ srt list ↔ x ∈ list := by
  unfold srt
  rw [srt_eq (fun y hy => (h y hy).1), mem_members]
  constructor
  · rintro ⟨h1, h2, h3⟩
    rw [show ((x.toNat : Nat) : Int) = x by omega] at h3
    exact List.contains_iff_mem.1 h3
  · intro hx
    have := h x hx
    refine ⟨this.1, by omega, ?_⟩
    rw [show ((x.toNat : Nat) : Int) = x by omega]
    exact List.contains_iff_mem.2 hx
theorem asc_srt {list : List Int} (h : ∀ y ∈ list, 0 ≤ y) : Asc (srt list) := by
  unfold srt
  rw [srt_eq h]; exact asc_members _ _
theorem one_sum {f : Nat → Int} {j : Nat} : ∀ n, j < n → sumTo (fun x => if x = j then f x else 0) n = f j
  | 0, h => by omega
  | n + 1, h => by
    rw [sumTo_succ]
    by_cases e : n = j
    · subst e
      rw [if_pos rfl]
      have : sumTo (fun x => if x = n then f x else 0) n = sumTo (fun _ => 0) n := sumTo_cong fun k hk => if_neg (by omega)
      rw [this, sumTo_zero]; omega
    · rw [if_neg e, one_sum n (by omega)]; omega
theorem nodup_sum {f : Int → Int} {m : Nat} : ∀ {r : List Int}, r.Nodup → (∀ y ∈ r, 0 ≤ y ∧ y < (m : Int)) → lsum f r = sumTo (fun x => if r.contains (x : Int) = true then f (x : Int) else 0) m
  | [], _, _ => by
    have : sumTo (fun x => if ([] : List Int).contains (x : Int) = true then f (x : Int) else 0) m = sumTo (fun _ => 0) m := sumTo_cong fun x _ => rfl
    rw [this, sumTo_zero]; rfl
  | y :: r, hn, hb => by
    rw [List.nodup_cons] at hn
    have hy := hb y List.mem_cons_self
    rw [lsum_cons, nodup_sum hn.2 fun z hz => hb z (List.mem_cons_of_mem _ hz)]
    have e1 := one_sum (f := fun x => f (x : Int)) (j := y.toNat) m (by omega)
    rw [show ((y.toNat : Nat) : Int) = y by omega] at e1
    rw [← e1, ← sumTo_add]
    refine sumTo_cong fun x _ => ?_
    have ec : (y :: r).contains (x : Int) = (decide (x = y.toNat) || r.contains (x : Int)) := by
      rw [Bool.eq_iff_iff, Bool.or_eq_true, List.contains_iff_mem, List.mem_cons, List.contains_iff_mem, decide_eq_true_eq]
      constructor
      · rintro (h | h)
        · exact .inl (by omega)
        · exact .inr h
      · rintro (h | h)
        · exact .inl (by omega)
        · exact .inr h
    rw [ec]
    by_cases e : x = y.toNat
    · have hnc : r.contains (x : Int) = false := by
        rw [Bool.eq_false_iff, Ne, List.contains_iff_mem, e, show ((y.toNat : Nat) : Int) = y by omega]
        exact hn.1
      rw [if_pos e, decide_eq_true e, hnc]; simp
    · rw [if_neg e, decide_eq_false e, Bool.false_or, Int.zero_add]
theorem srt_sum {f : Int → Int} {r : List Int} (hn : r.Nodup) (hb : ∀ y ∈ r, 0 ≤ y ∧ y ≤ 1000) : lsum f (srt r) = lsum f r := by
  unfold srt
  rw [srt_eq fun y hy => (hb y hy).1, members_sum, nodup_sum hn (m := 1001) fun y hy => by have := hb y hy; omega]
theorem covB_mem {Sets : List (List Int)} {a b : List Int} (h : ∀ y, y ∈ a ↔ y ∈ b) (x : Nat) : covB Sets a x = covB Sets b x := by
  unfold covB
  rw [Bool.eq_iff_iff, List.any_eq_true, List.any_eq_true]
  exact ⟨fun ⟨y, h1, h2⟩ => ⟨y, (h y).1 h1, h2⟩, fun ⟨y, h1, h2⟩ => ⟨y, (h y).2 h1, h2⟩⟩
theorem coverB_mem {Size : Int} {Sets : List (List Int)} {a b : List Int} (h : ∀ y, y ∈ a ↔ y ∈ b) : coverB Size Sets a = coverB Size Sets b := allTo_congr fun x _ => covB_mem h x
theorem grOk_nodup {Sets : List (List Int)} {r : List Int} (h : GrOk Sets r) : r.Nodup := by
  refine List.pairwise_iff_getElem.2 fun p q hp hq hpq e => ?_
  have h1 := h.pos q hq
  obtain ⟨x, hx, hnx⟩ := new_pos h1
  refine hnx ((mem_covL _).2 ⟨p, by rw [List.length_take]; omega, ?_⟩)
  have e2 : (r.take q).getD p 0 = r.getD q 0 := by
    rw [getD_get (show p < (r.take q).length by rw [List.length_take]; omega), List.getElem_take, getD_get hq, e]
  rw [e2]; exact hx
theorem lsum_nonneg {f : Int → Int} {l : List Int} (h : ∀ x ∈ l, 0 ≤ f x) : 0 ≤ lsum f l := by
  have := lsum_le (f := fun _ => 0) (g := f) h
  have e : lsum (fun _ => 0) l = 0 := by
    have := lsum_mul 0 (fun _ => 0) l
    simp at this
    exact this
  omega
theorem harm_mono : ∀ a : Nat, a ≤ 8 → ∀ b : Nat, b ≤ a → harmSum b ≤ harmSum a := by decide
theorem gr_srt {Size : Int} {Sets : List (List Int)} {Costs : List Int} (hg : goodSys Size Sets Costs = true) (ha : coverB Size Sets (allN Sets.length) = true) :
    rising (srt (grO Size Sets Costs)) 0 ((Sets.length : Int) - 1) = true ∧ coverB Size Sets (srt (grO Size Sets Costs)) = true ∧ costOf Costs (srt (grO Size Sets Costs)) = costOf Costs (grO Size Sets Costs) := by
  have gf := gs_facts hg
  have ok := grO_ok (Costs := Costs) hg
  have hb : ∀ y ∈ grO Size Sets Costs, 0 ≤ y ∧ y ≤ 1000 := fun y hy => by have := ok.inR y hy; omega
  refine ⟨rising_asc (asc_srt fun y hy => (hb y hy).1) fun x hx => ?_, ?_, ?_⟩
  · have := ok.inR x ((mem_srt hb x).1 hx); omega
  · rw [coverB_mem (mem_srt hb)]; exact grO_full hg ha
  · rw [cost_lsum, cost_lsum, srt_sum (grOk_nodup ok) hb]
theorem gp_get {Size : Int} {Sets : List (List Int)} {Costs r : List Int} {i : Nat} {x : Nat} (hx : x < Size.toNat) : (prL Size Sets Costs r i).getD x 0 = prAt Sets Costs r i x := tabTo_get hx
theorem gr_prices {Size : Int} {Sets : List (List Int)} {Costs : List Int} (hg : goodSys Size Sets Costs = true) (ha : coverB Size Sets (allN Sets.length) = true) :
    sumTo (fun x => (gpL Size Sets Costs).getD x 0) Size.toNat = 840 * costOf Costs (grO Size Sets Costs) ∧
    (∀ j, j < Sets.length → priced (Sets.getD j []) (gpL Size Sets Costs) ≤ harmSum (Sets.getD j []).length * Costs.getD j 0) ∧ ∀ x : Nat, x < Size.toNat → 0 ≤ (gpL Size Sets Costs).getD x 0 := by
  have gf := gs_facts hg
  have ok := grO_ok (Costs := Costs) hg
  have by' := grO_by Size Sets Costs
  have eg : gpL Size Sets Costs = prL Size Sets Costs (grO Size Sets Costs) (grO Size Sets Costs).length := by unfold gpL; rw [hg, ha]; rfl
  rw [eg]
  refine ⟨?_, fun j hj => ?_, fun x hx => ?_⟩
  · have h := pr_sum hg ok _ (Nat.le_refl _)
    rw [List.take_length, ← cost_lsum] at h
    rw [← h]
    exact sumTo_cong fun x hx => gp_get hx
  · have h := pr_share hg ok by' hj _ (Nat.le_refl _)
    have e : priced (Sets.getD j []) (prL Size Sets Costs (grO Size Sets Costs) (grO Size Sets Costs).length) = sumTo (fun x => if (Sets.getD j []).contains (x : Int) = true then prAt Sets Costs (grO Size Sets Costs) (grO Size Sets Costs).length x else 0) Size.toNat := by
      rw [priced_lsum, set_sum hg hj]
      refine sumTo_cong fun x hx => ?_
      simp only [Int.toNat_natCast]
      rw [gp_get hx]
    rw [e]
    have h0 : 0 ≤ harmSum (newN Sets ((grO Size Sets Costs).take (grO Size Sets Costs).length) j).toNat * Costs.getD j 0 := by
      have u8 := new_le8 hg (covL Sets ((grO Size Sets Costs).take (grO Size Sets Costs).length) ((grO Size Sets Costs).take (grO Size Sets Costs).length).length) hj
      have c1 := gs_cost hg (k := j) (by omega)
      exact Int.mul_nonneg (by have := harm_mono (newN Sets ((grO Size Sets Costs).take (grO Size Sets Costs).length) j).toNat (by unfold newN; omega) 0 (by omega); simpa [harmSum] using this) (by omega)
    omega
  · rw [gp_get hx]
    have key : ∀ i, i ≤ (grO Size Sets Costs).length → 0 ≤ prAt Sets Costs (grO Size Sets Costs) i x := by
      intro i
      induction i with
      | zero => intro _; exact Int.le_refl _
      | succ i ih =>
        intro hi
        simp only [prAt]
        split
        · have hin := ok.inR _ (getD_mem (d := 0) (show i < (grO Size Sets Costs).length by omega))
          exact (pr_bound (n := newN Sets ((grO Size Sets Costs).take i) ((grO Size Sets Costs).getD i 0).toNat) (new_one hg ok (by omega)).1 (gs_cost hg (k := ((grO Size Sets Costs).getD i 0).toNat) (by omega))).1
        · exact ih (by omega)
    exact key _ (Nat.le_refl _)
/-- The greedy cover's cost, within its harmonic share of any cover's. -/
theorem gr_bound {Size : Int} {Sets : List (List Int)} {Costs c : List Int} (hg : goodSys Size Sets Costs = true) (ha : coverB Size Sets (allN Sets.length) = true) (hc : InR Sets c) (hv : coverB Size Sets c = true) {most : Nat} (hm8 : most ≤ 8)
    (hm : ∀ j, j < Sets.length → (Sets.getD j []).length ≤ most) : 840 * costOf Costs (grO Size Sets Costs) ≤ harmSum most * costOf Costs c := by
  have gf := gs_facts hg
  obtain ⟨p1, p2, p3⟩ := gr_prices hg ha
  have h := dual_cover hg (f := fun y => (gpL Size Sets Costs).getD y.toNat 0) (fun x hx => by simpa using p3 x hx) hc hv
  simp only [Int.toNat_natCast] at h
  rw [p1] at h
  refine Int.le_trans h ?_
  rw [cost_lsum, ← lsum_mul]
  refine lsum_le fun i hi => ?_
  have hin := hc i hi
  rw [← priced_lsum]
  refine Int.le_trans (p2 i.toNat (by omega)) ?_
  have c1 := gs_cost hg (k := i.toNat) (by omega)
  exact Int.mul_le_mul_of_nonneg_right (harm_mono most hm8 _ (hm i.toNat (by omega))) (by omega)
theorem lsum_take {l : List Int} {i : Int} (h0 : 0 ≤ i) (h : i < (l.length : Int)) : lsum (fun y => y) (l.take (i + 1).toNat) = lsum (fun y => y) (l.take i.toNat) + l.getD i.toNat 0 := by
  rw [take_step (d := 0) h0 h, lsum_app]; simp [lsum]
theorem lsum_upto {l : List Int} (h : ∀ y ∈ l, 0 ≤ y ∧ y ≤ 1000000) : 0 ≤ lsum (fun y => y) l ∧ lsum (fun y => y) l ≤ 1000000 * (l.length : Int) := by
  induction l with
  | nil => simp [lsum]
  | cons x r ih =>
    have h1 := h x List.mem_cons_self
    have h2 := ih fun y hy => h y (List.mem_cons_of_mem _ hy)
    rw [lsum_cons, List.length_cons]
    omega
abbrev l_rSum_JJ0 (list : List Int) (sum : Int) (i : Int) : Prop := (0 ≤ i) ∧ (i ≤ (list.length : Int)) ∧ (sum = lsum (fun y => y) (list.take i.toNat))
abbrev l_rSum_mJ0 (list : List Int) (sum : Int) (i : Int) : Nat := (list.length - i).toNat
def l_rSum_C (f : FuncId) (ds : List D) : Orc := .no
def l_rSum_A (list : List Int) : Ann := .two (.none) (.two (.none) (.two (.two (.none) (.loop (cut2 (fun (sum : Int) (i : Int) => l_rSum_JJ0 list sum i) (fun (sum : Int) (i : Int) => [(0, .d false (.sl (.ints list))), (3, .d true (.int .i64 sum)), (4, .d true (.int .i64 i))]) (fun (sum : Int) (i : Int) => [])) (fun g => l_rSum_mJ0 list g.1 g.2) (fun _ => .none))) (.none)))
def l_rSum_P (list : List Int) : Prop :=
  ((∃ sum' : Int, ∃ i' : Int, (l_rSum_JJ0 list sum' i') ∧ (list = list) ∧ ((0 : Int) = sum') ∧ ((0 : Int) = i')) ∧ (∀ sum : Int, ∀ i : Int, (l_rSum_JJ0 list sum i) → (((decide (i < (list.length : Int))) = true → ((0 : Int) ≤ i) ∧ ((i : Int) < list.length) ∧ (i.toNat < list.length) ∧ (-9223372036854775808 ≤ (sum + (list.getD i.toNat 0)) ∧ (sum + (list.getD i.toNat 0)) ≤ 9223372036854775807) ∧ (-9223372036854775808 ≤ (i + 1) ∧ (i + 1) ≤ 9223372036854775807) ∧ (∃ sum' : Int, ∃ i' : Int, (l_rSum_JJ0 list sum' i') ∧ (l_rSum_mJ0 list sum' i' < l_rSum_mJ0 list sum i) ∧ (list = list) ∧ ((sum + (list.getD i.toNat 0)) = sum') ∧ ((i + 1) = i'))) ∧ ((decide (i < (list.length : Int))) = false → ((sum = (lsum (fun y => y) list)))))))
theorem l_rSum_vc (list : List Int) (hl : list.length ≤ 8) (hy : ∀ y ∈ list, 0 ≤ y ∧ y ≤ 1000000) (w_list : (list.length : Int) ≤ 9223372036854775807) : l_rSum_P list := by
  unfold l_rSum_P
  have hy9 := hy
  refine ⟨?_, ?_⟩
  ·refine ⟨0, 0, ?_⟩
   refine ⟨?_, rfl, rfl, rfl⟩
   ·refine ⟨?_, ?_, ?_⟩
    ·omega
    ·omega
    ·simp [lsum]
  ·intro sum i hJ
   obtain ⟨h1, h2, h3⟩ := hJ
   refine ⟨?_, ?_⟩
   ·intro b1
    try simp only [nrmT] at b1
    refine ⟨?_, ?_, ?_, ?_, ?_, ?_⟩
    ·omega
    ·omega
    ·omega
    ·have h4 := lsum_upto (l := list.take i.toNat) fun y hy => hy9 y (List.mem_of_mem_take hy)
     rw [← h3, List.length_take] at h4
     have h5 := hy9 _ (getD_memI (d := 0) h1 (by omega))
     omega
    ·omega
    ·refine ⟨(sum + (list.getD i.toNat 0)), (i + 1), ?_⟩
     refine ⟨?_, ?_, rfl, rfl, rfl⟩
     ·refine ⟨?_, ?_, ?_⟩
      ·omega
      ·omega
      ·rw [lsum_take h1 (by omega), h3]
     ·first | (show _ < _; omega) | (simp only [l_rSum_mJ0]; omega) | (simp only [l_rSum_mJ0] at *; simp at *; omega)
   ·intro b2
    try simp only [nrmT] at b2
    rw [h3, take_all (by omega)]
theorem l_rSum_pc (list : List Int) (hl : list.length ≤ 8) (hy : ∀ y ∈ list, 0 ≤ y ∧ y ≤ 1000000) : PC Try.prog 95 [.sl (.ints list)] (.one (.d (.int .i64 (lsum (fun y => y) list)))) :=
  pc_wf @Try.call95 fun hw => pc_by (by kernel_rfl) Try.func95 @Try.call95 (by kernel_rfl) l_rSum_C (l_rSum_A list) (by kernel_rfl) (l_rSum_vc list hl hy hw.1) (by kernel_rfl)
def l_rSum_orc : List D → Orc := orcN [some .ints] fun ds => match ds with
  | [.sl (.ints list)] => some (.one (.d (.int .i64 (lsum (fun y => y) list))))
  | _ => none
theorem cv_min {Size : Int} {Sets : List (List Int)} {Costs c : List Int} (hg : goodSys Size Sets Costs = true) (hr : rising c 0 ((Sets.length : Int) - 1) = true) (hv : coverB Size Sets c = true) :
    lcOk Size Sets Costs = true ∧ costOf Costs (lcL Size Sets Costs) ≤ costOf Costs c := by
  have hm := rising_chs hr
  have hk : lcOk Size Sets Costs = true := by unfold lcOk; rw [hg, cover_all (chs_inR hm) hv]; rfl
  refine ⟨hk, ?_⟩
  unfold lcL
  rw [if_pos hk]
  exact leastL_min (v := costOf Costs) (List.mem_filter.2 ⟨hm, hv⟩)
theorem cost_small {Size : Int} {Sets : List (List Int)} {Costs c : List Int} (hg : goodSys Size Sets Costs = true) (hr : rising c 0 ((Sets.length : Int) - 1) = true) : 0 ≤ costOf Costs c ∧ costOf Costs c ≤ 792 := by
  have gf := gs_facts hg
  have h1 := sumTo_bound (f := costAt Costs c) c.length fun k hk => costAt_bound hg hr hk
  have h2 := rising_len hr (by omega)
  unfold costOf
  omega
theorem cv_facts {Size : Int} {Sets : List (List Int)} {Costs : List Int} (hk : lcOk Size Sets Costs = true) :
    goodSys Size Sets Costs = true ∧ rising (lcL Size Sets Costs) 0 ((Sets.length : Int) - 1) = true ∧ coverB Size Sets (lcL Size Sets Costs) = true ∧ rising (srt (gcvL Size Sets Costs)) 0 ((Sets.length : Int) - 1) = true ∧ coverB Size Sets (srt (gcvL Size Sets Costs)) = true ∧
    costOf Costs (lcL Size Sets Costs) ≤ costOf Costs (srt (gcvL Size Sets Costs)) ∧ lsum (fun y => y) (gpL Size Sets Costs) = 840 * costOf Costs (srt (gcvL Size Sets Costs)) ∧ (gpL Size Sets Costs).length = Size.toNat ∧
    (∀ y ∈ gpL Size Sets Costs, 0 ≤ y ∧ y ≤ 1000000) ∧ (∀ j, j < Sets.length → lsum (fun y => (gpL Size Sets Costs).getD y.toNat 0) (Sets.getD j []) ≤ harmSum (Sets.getD j []).length * Costs.getD j 0) ∧
    ∀ most : Nat, most ≤ 8 → (∀ j, j < Sets.length → (Sets.getD j []).length ≤ most) → 840 * costOf Costs (srt (gcvL Size Sets Costs)) ≤ harmSum most * costOf Costs (lcL Size Sets Costs) := by
  have hk2 := hk
  unfold lcOk at hk2
  rw [Bool.and_eq_true] at hk2
  obtain ⟨hg, ha⟩ := hk2
  have gf := gs_facts hg
  have eg : gcvL Size Sets Costs = grO Size Sets Costs := by unfold gcvL; rw [if_pos hg]
  have el : lcL Size Sets Costs = lcS Size Sets Costs := by unfold lcL; rw [if_pos hk]
  have ep : gpL Size Sets Costs = prL Size Sets Costs (grO Size Sets Costs) (grO Size Sets Costs).length := by unfold gpL; rw [hg, ha]; rfl
  obtain ⟨s1, s2, s3⟩ := gr_srt hg ha
  obtain ⟨p1, p2, p3⟩ := gr_prices hg ha
  have hm := leastL_mem (v := costOf Costs) (lc_pos (Size := Size) ha)
  obtain ⟨m1, m2⟩ := List.mem_filter.1 hm
  have r1 : rising (lcL Size Sets Costs) 0 ((Sets.length : Int) - 1) = true := by rw [el]; exact chs_rising m1
  have v1 : coverB Size Sets (lcL Size Sets Costs) = true := by rw [el]; exact m2
  have hl : (gpL Size Sets Costs).length = Size.toNat := by rw [ep, prL_len]
  have ok := grO_ok (Costs := Costs) hg
  rw [eg]
  refine ⟨hg, r1, v1, s1, s2, (cv_min hg s1 s2).2, ?_, hl, fun y hy => ?_, fun j hj => ?_, fun most h8 hmost => ?_⟩
  · rw [s3, ← p1, ← sumTo_lsum, hl]
  · obtain ⟨x, hx, rfl⟩ := List.mem_iff_getElem.1 hy
    have h0 := p3 x (by omega)
    rw [getD_get hx] at h0
    refine ⟨h0, ?_⟩
    have key : ∀ i, i ≤ (grO Size Sets Costs).length → prAt Sets Costs (grO Size Sets Costs) i x ≤ 1000000 := by
      intro i
      induction i with
      | zero => intro _; show (0 : Int) ≤ _; omega
      | succ i ih =>
        intro hi
        simp only [prAt]
        split
        · have hin := ok.inR _ (getD_mem (d := 0) (show i < (grO Size Sets Costs).length by omega))
          have := (pr_bound (n := newN Sets ((grO Size Sets Costs).take i) ((grO Size Sets Costs).getD i 0).toNat) (new_one hg ok (by omega)).1 (gs_cost hg (k := ((grO Size Sets Costs).getD i 0).toNat) (by omega))).2
          unfold prV
          omega
        · exact ih (by omega)
    have h9 := key _ (Nat.le_refl _)
    rw [← gp_get (Size := Size) (show x < Size.toNat by omega), ← ep, getD_get hx] at h9
    exact h9
  · have := p2 j hj
    rw [priced_lsum] at this
    exact this
  · rw [s3]
    exact gr_bound hg ha (fun y hy => by have := rising_mem r1 y hy; omega) v1 h8 hmost
theorem set_getD {p : List Int} {x y : Nat} {v : Int} (hx : x < p.length) : (p.set x v).getD y 0 = if y = x then v else p.getD y 0 := by
  simp only [List.getD_eq_getElem?_getD, List.getElem?_set]
  by_cases e : x = y
  · subst e; simp [hx]
  · rw [if_neg e, if_neg (fun h => e h.symm)]
theorem priced_set {Size : Int} {Sets : List (List Int)} {Costs p : List Int} (hg : goodSys Size Sets Costs = true) (hl : p.length = Size.toNat) {j : Nat} (hj : j < Sets.length) {x : Nat} (hx : x < Size.toNat) (v : Int) :
    priced (Sets.getD j []) (p.set x v) = priced (Sets.getD j []) p + if (Sets.getD j []).contains (x : Int) = true then v - p.getD x 0 else 0 := by
  rw [priced_lsum, priced_lsum, set_sum hg hj, set_sum hg hj]
  rw [← one_sum (f := fun y => if (Sets.getD j []).contains (y : Int) = true then v - p.getD y 0 else 0) (j := x) Size.toNat hx, ← sumTo_add]
  refine sumTo_cong fun y hy => ?_
  simp only [Int.toNat_natCast]
  rw [set_getD (by omega)]
  by_cases e : y = x
  · rw [if_pos e, if_pos e]; split <;> omega
  · rw [if_neg e, if_neg e]; omega
theorem room_spec {Sets : List (List Int)} {Costs p : List Int} {x : Int} (hf : ∀ j, j < Sets.length → priced (Sets.getD j []) p ≤ Costs.getD j 0) : ∀ k, k ≤ Sets.length →
    (roomTo Sets Costs p x k = -1 ∧ ∀ j, j < k → (Sets.getD j []).contains x = false) ∨
    (∃ j, j < k ∧ (Sets.getD j []).contains x = true ∧ roomTo Sets Costs p x k = Costs.getD j 0 - priced (Sets.getD j []) p ∧ ∀ i, i < k → (Sets.getD i []).contains x = true → roomTo Sets Costs p x k ≤ Costs.getD i 0 - priced (Sets.getD i []) p)
  | 0, _ => .inl ⟨rfl, fun j hj => by omega⟩
  | k + 1, hk => by
    have hfk := hf k (by omega)
    have hst : roomTo Sets Costs p x (k + 1) = if ((Sets.getD k []).contains x && (decide (roomTo Sets Costs p x k < 0) || decide (Costs.getD k 0 - priced (Sets.getD k []) p < roomTo Sets Costs p x k))) = true then Costs.getD k 0 - priced (Sets.getD k []) p else roomTo Sets Costs p x k := rfl
    rw [hst]
    cases hc : (Sets.getD k []).contains x with
    | false =>
      rw [Bool.false_and, if_neg (by simp)]
      rcases room_spec (x := x) hf k (by omega) with ⟨h1, h2⟩ | ⟨j, h1, h2, h3, h4⟩
      · exact .inl ⟨h1, fun j hj => by
          by_cases e : j = k
          · rw [e]; exact hc
          · exact h2 j (by omega)⟩
      · refine .inr ⟨j, by omega, h2, h3, fun i hi hci => ?_⟩
        by_cases e : i = k
        · rw [e, hc] at hci; cases hci
        · exact h4 i (by omega) hci
    | true =>
      rw [Bool.true_and]
      right
      rcases room_spec (x := x) hf k (by omega) with ⟨h1, h2⟩ | ⟨j, h1, h2, h3, h4⟩
      · rw [h1, if_pos (by simp)]
        refine ⟨k, by omega, hc, rfl, fun i hi hci => ?_⟩
        by_cases e : i = k
        · rw [e]; exact Int.le_refl _
        · rw [h2 i (by omega)] at hci; cases hci
      · have hfj := hf j (by omega)
        split
        · rename_i h
          rw [Bool.or_eq_true, decide_eq_true_eq, decide_eq_true_eq] at h
          refine ⟨k, by omega, hc, rfl, fun i hi hci => ?_⟩
          by_cases e : i = k
          · rw [e]; exact Int.le_refl _
          · have := h4 i (by omega) hci; omega
        · rename_i h
          rw [Bool.or_eq_true, decide_eq_true_eq, decide_eq_true_eq] at h
          refine ⟨j, by omega, h2, h3, fun i hi hci => ?_⟩
          by_cases e : i = k
          · rw [e]; omega
          · exact h4 i (by omega) hci
theorem raise_inv {Size : Int} {Sets : List (List Int)} {Costs : List Int} (hg : goodSys Size Sets Costs = true) : ∀ k, k ≤ Size.toNat →
    (∀ y, k ≤ y → y < Size.toNat → (raiseTo Size Sets Costs k).getD y 0 = 0) ∧ (∀ j, j < Sets.length → priced (Sets.getD j []) (raiseTo Size Sets Costs k) ≤ Costs.getD j 0) ∧
    ∀ x : Nat, x < k → (∃ j, j < Sets.length ∧ (Sets.getD j []).contains (x : Int) = true) → ∃ j, j < Sets.length ∧ (Sets.getD j []).contains (x : Int) = true ∧ priced (Sets.getD j []) (raiseTo Size Sets Costs k) = Costs.getD j 0
  | 0, _ => by
    have gf := gs_facts hg
    have hz : ∀ y, y < Size.toNat → (raiseTo Size Sets Costs 0).getD y 0 = 0 := fun y hy => by
      show (List.replicate Size.toNat (0 : Int)).getD y 0 = 0
      rw [getD_get (by rw [List.length_replicate]; exact hy), List.getElem_replicate]
    refine ⟨fun y _ hy => hz y hy, fun j hj => ?_, fun x hx => by omega⟩
    rw [priced_lsum, set_sum hg hj]
    have : sumTo (fun x => if (Sets.getD j []).contains (x : Int) = true then (raiseTo Size Sets Costs 0).getD (x : Int).toNat 0 else 0) Size.toNat = sumTo (fun _ => 0) Size.toNat := sumTo_cong fun x hx => by
      rw [Int.toNat_natCast, hz x hx]; split <;> rfl
    rw [this, sumTo_zero]
    have := gs_cost hg (k := j) (by omega)
    omega
  | k + 1, hk => by
    have gf := gs_facts hg
    obtain ⟨i1, i2, i3⟩ := raise_inv hg k (by omega)
    obtain ⟨l1, l2⟩ := raiseTo_ok hg k
    have h0 := i1 k (Nat.le_refl _) (by omega)
    have hst : raiseTo Size Sets Costs (k + 1) = (raiseTo Size Sets Costs k).set k (max 0 (roomTo Sets Costs (raiseTo Size Sets Costs k) (k : Int) Sets.length)) := rfl
    have hp := fun (j : Nat) (hj : j < Sets.length) => priced_set hg l1 hj (show k < Size.toNat by omega) (max 0 (roomTo Sets Costs (raiseTo Size Sets Costs k) (k : Int) Sets.length))
    rw [hst]
    have hroom := room_spec (x := (k : Int)) i2 Sets.length (Nat.le_refl _)
    refine ⟨fun y hy hn => ?_, fun j hj => ?_, fun x hx hex => ?_⟩
    · rw [set_getD (by omega), if_neg (by omega)]; exact i1 y (by omega) hn
    · rw [hp j hj, h0]
      have := i2 j hj
      split
      · rename_i hc
        rcases hroom with ⟨h1, h2⟩ | ⟨i, h1, h2, h3, h4⟩
        · rw [h2 j hj] at hc; cases hc
        · have := h4 j hj hc; have := i2 i h1; omega
      · omega
    · by_cases e : x = k
      · subst e
        rcases hroom with ⟨h1, h2⟩ | ⟨i, h1, h2, h3, h4⟩
        · obtain ⟨j, hj, hc⟩ := hex
          rw [h2 j hj] at hc; cases hc
        · refine ⟨i, h1, h2, ?_⟩
          have := i2 i h1
          rw [hp i h1, h0, if_pos h2, h3]
          omega
      · obtain ⟨j, hj, hc, ht⟩ := i3 x (by omega) hex
        refine ⟨j, hj, hc, ?_⟩
        rw [hp j hj, h0, ht]
        have hle : priced (Sets.getD j []) (raiseTo Size Sets Costs (k + 1)) ≤ Costs.getD j 0 := by
          rw [hst, hp j hj, h0]
          have := i2 j hj
          split
          · rename_i hc
            rcases hroom with ⟨h1, h2⟩ | ⟨i, h1, h2, h3, h4⟩
            · rw [h2 j hj] at hc; cases hc
            · have := h4 j hj hc; have := i2 i h1; omega
          · omega
        rw [hst, hp j hj, h0, ht] at hle
        split
        · rename_i hc2; rw [if_pos hc2] at hle; omega
        · omega
theorem raise_facts {Size : Int} {Sets : List (List Int)} {Costs : List Int} (hg : goodSys Size Sets Costs = true) :
    fair Sets Costs (raiseP Size Sets Costs) 1 = true ∧ (coverB Size Sets (allN Sets.length) = true → coverB Size Sets (raiseC Size Sets Costs) = true) ∧
    costOf Costs (raiseC Size Sets Costs) = lsum (fun i => priced (Sets.getD i.toNat []) (raiseP Size Sets Costs)) (raiseC Size Sets Costs) ∧ rising (raiseC Size Sets Costs) 0 ((Sets.length : Int) - 1) = true ∧ rowOk (raiseP Size Sets Costs) Size 1000000 = true ∧ (raiseP Size Sets Costs).length = Size.toNat := by
  have gf := gs_facts hg
  obtain ⟨i1, i2, i3⟩ := raise_inv hg Size.toNat (Nat.le_refl _)
  have e1 : raiseP Size Sets Costs = raiseTo Size Sets Costs Size.toNat := by unfold raiseP; rw [if_pos hg]
  have e2 : raiseC Size Sets Costs = members (tightAt Size Sets Costs) Sets.length := by unfold raiseC; rw [if_pos hg]
  have hr : rising (raiseC Size Sets Costs) 0 ((Sets.length : Int) - 1) = true := by
    rw [e2]; exact rising_asc (asc_members _ _) fun x hx => by have := mem_members.1 hx; omega
  refine ⟨?_, fun ha => ?_, ?_, hr, by rw [e1]; exact raiseTo_row hg _, by rw [e1]; exact (raiseTo_ok hg _).1⟩
  · unfold fair
    rw [allTo_iff]
    intro j hj
    unfold fairAt
    rw [e1, Int.mul_one]
    exact decide_eq_true (i2 j hj)
  · unfold coverB at ha ⊢
    rw [allTo_iff] at ha ⊢
    intro x hx
    obtain ⟨j, h1, h2⟩ := covB_iff.1 (ha x hx)
    have h3 := inR_all Sets _ (getD_mem (d := 0) h1)
    obtain ⟨i, hi, hc, ht⟩ := i3 x hx ⟨((allN Sets.length).getD j 0).toNat, by omega, List.contains_iff_mem.2 h2⟩
    have hm : (i : Int) ∈ raiseC Size Sets Costs := by
      rw [e2, mem_members]
      refine ⟨by omega, by omega, ?_⟩
      rw [Int.toNat_natCast]
      exact decide_eq_true ht
    unfold covB
    rw [List.any_eq_true]
    exact ⟨_, hm, by rw [Int.toNat_natCast]; exact hc⟩
  · rw [cost_lsum]
    refine lsum_congr fun i hi => ?_
    rw [e2, mem_members] at hi
    rw [e1]
    exact (of_decide_eq_true hi.2.2).symm
/-- In how many sets an element is. -/
def inTo (Sets : List (List Int)) (x : Int) (k : Nat) : Int := sumTo (fun i => if (Sets.getD i []).contains x = true then 1 else 0) k
def oftenTo (Sets : List (List Int)) (k : Nat) : Int := foldTo (fun b x => if inTo Sets (x : Int) Sets.length > b then inTo Sets (x : Int) Sets.length else b) 0 k
theorem oftenTo_succ (Sets : List (List Int)) (k : Nat) : oftenTo Sets (k + 1) = if inTo Sets (k : Int) Sets.length > oftenTo Sets k then inTo Sets (k : Int) Sets.length else oftenTo Sets k := rfl
theorem often_le {Sets : List (List Int)} : ∀ k, 0 ≤ oftenTo Sets k ∧ ∀ x : Nat, x < k → inTo Sets (x : Int) Sets.length ≤ oftenTo Sets k
  | 0 => ⟨Int.le_refl _, fun x hx => by omega⟩
  | k + 1 => by
    obtain ⟨h1, h2⟩ := often_le (Sets := Sets) k
    rw [oftenTo_succ]
    split
    · refine ⟨by omega, fun x hx => ?_⟩
      by_cases e : x = k
      · subst e; exact Int.le_refl _
      · have := h2 x (by omega); omega
    · refine ⟨h1, fun x hx => ?_⟩
      by_cases e : x = k
      · subst e; omega
      · exact h2 x (by omega)
theorem inTo_bound (Sets : List (List Int)) (x : Int) (k : Nat) : 0 ≤ inTo Sets x k ∧ inTo Sets x k ≤ k := by
  have := sumTo_bound (f := fun i => if (Sets.getD i []).contains x = true then 1 else 0) (m := 1) k fun i _ => by split <;> omega
  unfold inTo; omega
theorem often_bound (Sets : List (List Int)) : ∀ k, 0 ≤ oftenTo Sets k ∧ oftenTo Sets k ≤ Sets.length
  | 0 => ⟨Int.le_refl _, by show (0 : Int) ≤ _; omega⟩
  | k + 1 => by
    have h := often_bound Sets k
    have h2 := inTo_bound Sets (k : Int) Sets.length
    rw [oftenTo_succ]
    split <;> omega
theorem dear_le {Size : Int} {Sets : List (List Int)} {Costs : List Int} (hg : goodSys Size Sets Costs = true) {f : Int → Int} (hf : ∀ x : Nat, x < Size.toNat → 0 ≤ f (x : Int)) {t : Nat → Bool} :
    lsum (fun i => lsum f (Sets.getD i.toNat [])) (members t Sets.length) ≤ oftenTo Sets Size.toNat * sumTo (fun x => f (x : Int)) Size.toNat := by
  have key : ∀ k, k ≤ Sets.length → lsum (fun i => lsum f (Sets.getD i.toNat [])) (members t k) ≤ sumTo (fun x => inTo Sets (x : Int) k * f (x : Int)) Size.toNat := by
    intro k
    induction k with
    | zero =>
      intro _
      have : sumTo (fun x => inTo Sets (x : Int) 0 * f (x : Int)) Size.toNat = sumTo (fun _ => 0) Size.toNat := sumTo_cong fun x _ => by simp [inTo, sumTo, foldTo]
      rw [this, sumTo_zero]; simp [members, lsum]
    | succ k ih =>
      intro hk
      have e : sumTo (fun x => inTo Sets (x : Int) (k + 1) * f (x : Int)) Size.toNat = sumTo (fun x => inTo Sets (x : Int) k * f (x : Int)) Size.toNat + lsum f (Sets.getD k []) := by
        rw [set_sum hg (by omega), ← sumTo_add]
        refine sumTo_cong fun x hx => ?_
        have e2 : inTo Sets (x : Int) (k + 1) = inTo Sets (x : Int) k + if (Sets.getD k []).contains (x : Int) = true then 1 else 0 := rfl
        rw [e2, Int.add_mul]
        split <;> omega
      rw [e, members_succ, lsum_app]
      have h1 := ih (by omega)
      have h2 : 0 ≤ lsum f (Sets.getD k []) := lsum_nonneg fun y hy => by
        have h3 := set_memS hg (show k < Sets.length by omega) y hy
        have h4 := hf y.toNat (by omega)
        rwa [show ((y.toNat : Nat) : Int) = y by omega] at h4
      split
      · rw [lsum_cons, lsum_nil, Int.toNat_natCast]; omega
      · rw [lsum_nil]; omega
  refine Int.le_trans (key _ (Nat.le_refl _)) ?_
  rw [← sumTo_mul]
  refine sumTo_le _ fun x hx => ?_
  exact Int.mul_le_mul_of_nonneg_right ((often_le Size.toNat).2 x hx) (hf x hx)
/-- Fair prices bound every cover. -/
theorem fair_le {Size : Int} {Sets : List (List Int)} {Costs p c : List Int} {scale : Int} (hg : goodSys Size Sets Costs = true) (hp : rowOk p Size 1000000 = true) (hf : fair Sets Costs p scale = true) (hc : InR Sets c) (hv : coverB Size Sets c = true) :
    lsum (fun y => y) p ≤ scale * costOf Costs c := by
  have gf := gs_facts hg
  obtain ⟨r1, r2⟩ := rowOk_at hp
  have h := dual_cover hg (f := fun y => p.getD y.toNat 0) (fun x hx => by rw [Int.toNat_natCast]; exact (r2 x (by omega)).1) hc hv
  simp only [Int.toNat_natCast] at h
  have e : lsum (fun y => y) p = sumTo (fun x => p.getD x 0) Size.toNat := by rw [← sumTo_lsum, show Size.toNat = p.length by omega]
  rw [e]
  refine Int.le_trans h ?_
  rw [cost_lsum, ← lsum_mul]
  refine lsum_le fun i hi => ?_
  have hin := hc i hi
  have h1 := of_decide_eq_true (allTo_iff.1 hf i.toNat (by omega))
  rw [priced_lsum] at h1
  rw [Int.mul_comm]; exact h1
abbrev s_RaisePrices_own_JJ0 (Size : Int) (Sets : List (List Int)) (Costs : List Int) (prices : List Int) (x : Int) : Prop := (goodSys Size Sets Costs = true) ∧ (0 ≤ x) ∧ (x ≤ Size) ∧ (prices = raiseTo Size Sets Costs x.toNat)
abbrev s_RaisePrices_own_mJ0 (Size : Int) (Sets : List (List Int)) (Costs : List Int) (prices : List Int) (x : Int) : Nat := (Size - x).toNat
abbrev s_RaisePrices_own_JA0 (Size : Int) (Sets : List (List Int)) (Costs : List Int) (prices : List Int) : Prop := (goodSys Size Sets Costs = true) ∧ (prices = raiseTo Size Sets Costs Size.toNat)
abbrev s_RaisePrices_own_JJ1 (Size : Int) (Sets : List (List Int)) (Costs : List Int) (prices : List Int) (x : Int) (room : Int) (j : Int) : Prop := (0 ≤ j) ∧ (j ≤ (Sets.length : Int)) ∧ (room = roomTo Sets Costs prices x j.toNat)
abbrev s_RaisePrices_own_mJ1 (Size : Int) (Sets : List (List Int)) (Costs : List Int) (prices : List Int) (x : Int) (room : Int) (j : Int) : Nat := (Sets.length - j).toNat
abbrev s_RaisePrices_own_JJ2 (Size : Int) (Sets : List (List Int)) (Costs : List Int) (prices : List Int) (choice : List Int) (i : Int) : Prop := (0 ≤ i) ∧ (i ≤ (Sets.length : Int)) ∧ (choice = members (tightAt Size Sets Costs) i.toNat)
abbrev s_RaisePrices_own_mJ2 (Size : Int) (Sets : List (List Int)) (Costs : List Int) (prices : List Int) (choice : List Int) (i : Int) : Nat := (Sets.length - i).toNat
def s_RaisePrices_own_C (f : FuncId) (ds : List D) : Orc := bif Nat.beq f 122 then s_l6Good_orc ds else bif Nat.beq f 180 then s_l6Priced_orc ds else bif Nat.beq f 182 then s_l1Has_orc ds else bif Nat.beq f 152 then s_l1Most_orc ds else .no
def s_RaisePrices_own_A (Size : Int) (Sets : List (List Int)) (Costs : List Int) : Ann := .two (.none) (.two (.none) (.two (.none) (.cut (.two (.none) (.loop (cut2 (fun (prices : List Int) (x : Int) => s_RaisePrices_own_JJ0 Size Sets Costs prices x) (fun (prices : List Int) (x : Int) => [(1, .ptr 1 0), (5, .own 19 prices.length), (6, .own 20 0), (7, .d true (.int .i64 x))]) (fun (prices : List Int) (x : Int) => [(19, .arr true 3 (.ints prices)), (1, .box 36 [.d false (.int .i64 Size), .d false (.sl (.rows Sets)), .d false (.sl (.ints Costs))]), (20, .arr true 3 (.ints ([])))])) (fun g => s_RaisePrices_own_mJ0 Size Sets Costs g.1 g.2) (fun g => (fun (prices : List Int) (x : Int) => .two (.none) (.two (.two (.none) (.two (.two (.none) (.loop (cut2 (fun (room : Int) (j : Int) => s_RaisePrices_own_JJ1 Size Sets Costs prices x room j) (fun (room : Int) (j : Int) => [(1, .ptr 1 0), (5, .own 19 prices.length), (6, .own 20 0), (7, .d true (.int .i64 x)), (8, .d true (.int .i64 room)), (9, .d true (.int .i64 j))]) (fun (room : Int) (j : Int) => [(1, .box 36 [.d false (.int .i64 Size), .d false (.sl (.rows Sets)), .d false (.sl (.ints Costs))]), (19, .arr true 3 (.ints prices)), (20, .arr true 3 (.ints ([])))])) (fun g => s_RaisePrices_own_mJ1 Size Sets Costs prices x g.1 g.2) (fun _ => .none))) (.none))) (.none))) (g.1) (g.2)))) (cut1 (fun (prices : List Int) => s_RaisePrices_own_JA0 Size Sets Costs prices) (fun (prices : List Int) => [(1, .ptr 1 0), (5, .own 1000050 prices.length), (6, .own 20 0)]) (fun (prices : List Int) => [(1000050, .arr true 3 (.ints prices)), (1, .box 36 [.d false (.int .i64 Size), .d false (.sl (.rows Sets)), .d false (.sl (.ints Costs))]), (20, .arr true 3 (.ints ([])))])) (fun g => (fun (prices : List Int) => .two (.two (.none) (.loop (cut2 (fun (choice : List Int) (i : Int) => s_RaisePrices_own_JJ2 Size Sets Costs prices choice i) (fun (choice : List Int) (i : Int) => [(1, .ptr 1 0), (5, .own 1000050 prices.length), (6, .own 1000200 choice.length), (11, .d true (.int .i64 i))]) (fun (choice : List Int) (i : Int) => [(1000200, .arr true 3 (.ints choice)), (1, .box 36 [.d false (.int .i64 Size), .d false (.sl (.rows Sets)), .d false (.sl (.ints Costs))]), (1000050, .arr true 3 (.ints prices))])) (fun g => s_RaisePrices_own_mJ2 Size Sets Costs prices g.1 g.2) (fun _ => .none))) (.none)) g))))
def s_RaisePrices_own_e1 (Sets : List (List Int)) (Costs : List Int) (prices : List Int) (x : Int) (room : Int) (j : Int) : Bool := (cond ((Sets.getD j.toNat []).contains x) (cond (decide (room < 0)) true (decide (((Costs.getD j.toNat 0) - (priced (Sets.getD j.toNat []) prices)) < room))) false)
def s_RaisePrices_own_P (Size : Int) (Sets : List (List Int)) (Costs : List Int) : Prop :=
  (PC Try.prog 122 [.agg [.int .i64 Size, .sl (.rows Sets), .sl (.ints Costs)]] (.one (.d (.bool (goodSys Size Sets Costs))))) ∧ (((!(goodSys Size Sets Costs)) = true → (((0 : Nat) = 0) ∧ (([] : List Int) = raiseP Size Sets Costs) ∧ ((0 : Nat) = 0) ∧ (([] : List Int) = raiseC Size Sets Costs) ∧ (false = (goodSys Size Sets Costs)))) ∧ ((!(goodSys Size Sets Costs)) = false → (Size = Size) ∧ ((0 : Int) ≤ Size) ∧ ((Size : Int) * ((8 : Nat) : Int) ≤ 140737488355328) ∧ ((((∃ prices' : List Int, ∃ x' : Int, (s_RaisePrices_own_JJ0 Size Sets Costs prices' x') ∧ (Size.toNat = prices'.length) ∧ ((0 : Nat) = 0) ∧ ((0 : Int) = x') ∧ ((List.replicate Size.toNat (0 : Int)) = prices') ∧ (Size = Size) ∧ (Sets = Sets) ∧ (Costs = Costs) ∧ (([] : List Int) = [])) ∧ (∀ prices : List Int, ∀ x : Int, (s_RaisePrices_own_JJ0 Size Sets Costs prices x) → (((decide (x < Size)) = true → ((∃ room' : Int, ∃ j' : Int, (s_RaisePrices_own_JJ1 Size Sets Costs prices x room' j') ∧ (prices.length = prices.length) ∧ ((0 : Nat) = 0) ∧ (x = x) ∧ (((-1) : Int) = room') ∧ ((0 : Int) = j') ∧ (Size = Size) ∧ (Sets = Sets) ∧ (Costs = Costs) ∧ (prices = prices) ∧ (([] : List Int) = [])) ∧ (∀ room : Int, ∀ j : Int, (s_RaisePrices_own_JJ1 Size Sets Costs prices x room j) → (((decide (j < (Sets.length : Int))) = true → (true = true) ∧ ((0 : Int) ≤ j) ∧ ((j : Int) < Costs.length) ∧ (j.toNat < Costs.length) ∧ ((0 : Int) ≤ j) ∧ ((j : Int) < Sets.length) ∧ (j.toNat < Sets.length) ∧ (prices.length = prices.length) ∧ (PC Try.prog 180 [.sl (.ints (Sets.getD j.toNat [])), .sl (.ints prices)] (.one (.d (.int .i64 (priced (Sets.getD j.toNat []) prices))))) ∧ (-9223372036854775808 ≤ ((Costs.getD j.toNat 0) - (priced (Sets.getD j.toNat []) prices)) ∧ ((Costs.getD j.toNat 0) - (priced (Sets.getD j.toNat []) prices)) ≤ 9223372036854775807) ∧ ((0 : Int) ≤ j) ∧ ((j : Int) < Sets.length) ∧ (j.toNat < Sets.length) ∧ (PC Try.prog 182 [.sl (.ints (Sets.getD j.toNat [])), .int .i64 x] (.one (.d (.bool ((Sets.getD j.toNat []).contains x))))) ∧ (((Sets.getD j.toNat []).contains x) = true → ((Sets.getD j.toNat []).contains x) = true) ∧ (((Sets.getD j.toNat []).contains x) = true → ((Sets.getD j.toNat []).contains x) = true) ∧ ((((Sets.getD j.toNat []).contains x) && (!(decide (room < 0)))) = true → (((Sets.getD j.toNat []).contains x) && (!(decide (room < 0)))) = true) ∧ ((((Sets.getD j.toNat []).contains x) && (!(decide (room < 0)))) = true → (((Sets.getD j.toNat []).contains x) && (!(decide (room < 0)))) = true) ∧ ((((Sets.getD j.toNat []).contains x) = true → ((Sets.getD j.toNat []).contains x) = true)) ∧ ((((Sets.getD j.toNat []).contains x) = true → (decide (room < 0)) = true → true = true)) ∧ ((((Sets.getD j.toNat []).contains x) = true → (decide (room < 0)) = false → (((Sets.getD j.toNat []).contains x) && (!(decide (room < 0)))) = true)) ∧ (true = true) ∧ ((((Sets.getD j.toNat []).contains x) = true → ((Sets.getD j.toNat []).contains x) = true)) ∧ ((((Sets.getD j.toNat []).contains x) = false → true = true)) ∧ (((s_RaisePrices_own_e1 Sets Costs prices x room j) = true → (-9223372036854775808 ≤ (j + 1) ∧ (j + 1) ≤ 9223372036854775807) ∧ (∃ room' : Int, ∃ j' : Int, (s_RaisePrices_own_JJ1 Size Sets Costs prices x room' j') ∧ (s_RaisePrices_own_mJ1 Size Sets Costs prices x room' j' < s_RaisePrices_own_mJ1 Size Sets Costs prices x room j) ∧ (prices.length = prices.length) ∧ ((0 : Nat) = 0) ∧ (x = x) ∧ (((Costs.getD j.toNat 0) - (priced (Sets.getD j.toNat []) prices)) = room') ∧ ((j + 1) = j') ∧ (Size = Size) ∧ (Sets = Sets) ∧ (Costs = Costs) ∧ (prices = prices) ∧ (([] : List Int) = []))) ∧ ((s_RaisePrices_own_e1 Sets Costs prices x room j) = false → (-9223372036854775808 ≤ (j + 1) ∧ (j + 1) ≤ 9223372036854775807) ∧ (∃ room' : Int, ∃ j' : Int, (s_RaisePrices_own_JJ1 Size Sets Costs prices x room' j') ∧ (s_RaisePrices_own_mJ1 Size Sets Costs prices x room' j' < s_RaisePrices_own_mJ1 Size Sets Costs prices x room j) ∧ (prices.length = prices.length) ∧ ((0 : Nat) = 0) ∧ (x = x) ∧ (room = room') ∧ ((j + 1) = j') ∧ (Size = Size) ∧ (Sets = Sets) ∧ (Costs = Costs) ∧ (prices = prices) ∧ (([] : List Int) = []))))) ∧ ((decide (j < (Sets.length : Int))) = false → (PC Try.prog 152 [.int .i64 room, .int .i64 0] (.one (.d (.int .i64 (max room 0))))) ∧ ((0 : Int) ≤ x) ∧ ((x : Int) < (prices.length : Int)) ∧ (x.toNat < prices.length) ∧ (-9223372036854775808 ≤ (x + 1) ∧ (x + 1) ≤ 9223372036854775807) ∧ (∃ prices' : List Int, ∃ x' : Int, (s_RaisePrices_own_JJ0 Size Sets Costs prices' x') ∧ (s_RaisePrices_own_mJ0 Size Sets Costs prices' x' < s_RaisePrices_own_mJ0 Size Sets Costs prices x) ∧ (prices.length = prices'.length) ∧ ((0 : Nat) = 0) ∧ ((x + 1) = x') ∧ ((prices.set x.toNat (max room 0)) = prices') ∧ (Size = Size) ∧ (Sets = Sets) ∧ (Costs = Costs) ∧ (([] : List Int) = []))))))) ∧ ((decide (x < Size)) = false → (∃ prices' : List Int, (s_RaisePrices_own_JA0 Size Sets Costs prices') ∧ (prices.length = prices'.length) ∧ ((0 : Nat) = 0) ∧ (prices = prices') ∧ (Size = Size) ∧ (Sets = Sets) ∧ (Costs = Costs) ∧ (([] : List Int) = []))))))) ∧ (∀ prices : List Int, (s_RaisePrices_own_JA0 Size Sets Costs prices) → ((∃ choice' : List Int, ∃ i' : Int, (s_RaisePrices_own_JJ2 Size Sets Costs prices choice' i') ∧ (prices.length = prices.length) ∧ ((0 : Nat) = choice'.length) ∧ ((0 : Int) = i') ∧ ([] = choice') ∧ (Size = Size) ∧ (Sets = Sets) ∧ (Costs = Costs) ∧ (prices = prices)) ∧ (∀ choice : List Int, ∀ i : Int, (s_RaisePrices_own_JJ2 Size Sets Costs prices choice i) → (((decide (i < (Sets.length : Int))) = true → (true = true) ∧ ((0 : Int) ≤ i) ∧ ((i : Int) < Sets.length) ∧ (i.toNat < Sets.length) ∧ (prices.length = prices.length) ∧ (PC Try.prog 180 [.sl (.ints (Sets.getD i.toNat [])), .sl (.ints prices)] (.one (.d (.int .i64 (priced (Sets.getD i.toNat []) prices))))) ∧ ((0 : Int) ≤ i) ∧ ((i : Int) < Costs.length) ∧ (i.toNat < Costs.length) ∧ ((((priced (Sets.getD i.toNat []) prices) == (Costs.getD i.toNat 0)) = true → (choice.length = choice.length) ∧ ((1 : Nat) = 1) ∧ ((choice.length + 1) * 8 ≤ 140737488355328) ∧ (-9223372036854775808 ≤ (i + 1) ∧ (i + 1) ≤ 9223372036854775807) ∧ (∃ choice' : List Int, ∃ i' : Int, (s_RaisePrices_own_JJ2 Size Sets Costs prices choice' i') ∧ (s_RaisePrices_own_mJ2 Size Sets Costs prices choice' i' < s_RaisePrices_own_mJ2 Size Sets Costs prices choice i) ∧ (prices.length = prices.length) ∧ ((choice.length + 1) = choice'.length) ∧ ((i + 1) = i') ∧ ((choice ++ [i]) = choice') ∧ (Size = Size) ∧ (Sets = Sets) ∧ (Costs = Costs) ∧ (prices = prices))) ∧ (((priced (Sets.getD i.toNat []) prices) == (Costs.getD i.toNat 0)) = false → (-9223372036854775808 ≤ (i + 1) ∧ (i + 1) ≤ 9223372036854775807) ∧ (∃ choice' : List Int, ∃ i' : Int, (s_RaisePrices_own_JJ2 Size Sets Costs prices choice' i') ∧ (s_RaisePrices_own_mJ2 Size Sets Costs prices choice' i' < s_RaisePrices_own_mJ2 Size Sets Costs prices choice i) ∧ (prices.length = prices.length) ∧ (choice.length = choice'.length) ∧ ((i + 1) = i') ∧ (choice = choice') ∧ (Size = Size) ∧ (Sets = Sets) ∧ (Costs = Costs) ∧ (prices = prices))))) ∧ ((decide (i < (Sets.length : Int))) = false → ((prices.length = prices.length) ∧ ((prices : List Int) = raiseP Size Sets Costs) ∧ (choice.length = choice.length) ∧ ((choice : List Int) = raiseC Size Sets Costs) ∧ (true = (goodSys Size Sets Costs)))))))))))
theorem s_RaisePrices_own_vc (Size : Int) (Sets : List (List Int)) (Costs : List Int)  (w_Sets : (Sets.length : Int) ≤ 9223372036854775807) (v_Sets : ∀ x9 ∈ Sets, (x9.length : Int) ≤ 9223372036854775807) (w_Costs : (Costs.length : Int) ≤ 9223372036854775807) : s_RaisePrices_own_P Size Sets Costs := by
  unfold s_RaisePrices_own_P s_RaisePrices_own_e1
  refine ⟨s_l6Good_pc Size Sets Costs, ?_, ?_⟩
  ·intro b1
   try simp only [nrmT] at b1
   refine ⟨rfl, ?_, rfl, ?_, ?_⟩
   ·unfold raiseP; rw [b1]; rfl
   ·unfold raiseC; rw [b1]; rfl
   ·exact b1.symm
  ·intro b2
   try simp only [nrmT] at b2
   refine ⟨rfl, ?_, ?_, ?_, ?_⟩
   ·have gf := gs_facts (by first | exact hg | exact hg2 | exact b2)
    omega
   ·have gf := gs_facts (by first | exact hg | exact hg2 | exact b2)
    omega
   ·refine ⟨?_, ?_⟩
    ·refine ⟨(List.replicate Size.toNat (0 : Int)), 0, ?_⟩
     refine ⟨?_, ?_, rfl, rfl, rfl, rfl, rfl, rfl, rfl⟩
     ·refine ⟨?_, ?_, ?_, ?_⟩
      ·first | exact hg | exact hg2 | exact b2
      ·omega
      ·have gf := gs_facts (by first | exact hg | exact hg2 | exact b2)
       omega
      ·rfl
     ·(simp_all; done)
    ·intro prices x hJ
     obtain ⟨hg, h1, h2, h3⟩ := hJ
     refine ⟨?_, ?_⟩
     ·intro b3
      try simp only [nrmT] at b3
      refine ⟨?_, ?_⟩
      ·refine ⟨(-1), 0, ?_⟩
       refine ⟨?_, rfl, rfl, rfl, rfl, rfl, rfl, rfl, rfl, rfl, rfl⟩
       ·refine ⟨?_, ?_, ?_⟩
        ·omega
        ·omega
        ·rfl
      ·intro room j hJ
       obtain ⟨h4, h5, h6⟩ := hJ
       refine ⟨?_, ?_⟩
       ·intro b4
        try simp only [nrmT] at b4
        refine ⟨rfl, ?_, ?_, ?_, ?_, ?_, ?_, rfl, ?_, ?_, ?_, ?_, ?_, s_l1Has_pc (Sets.getD j.toNat []) x, id, id, id, id, id, fun _ _ => rfl, ?_, rfl, id, fun _ => rfl, ?_, ?_⟩
        ·omega
        ·have gf := gs_facts (by first | exact hg | exact hg2 | exact b4)
         omega
        ·have gf := gs_facts (by first | exact hg | exact hg2 | exact b4)
         omega
        ·omega
        ·have gf := gs_facts (by first | exact hg | exact hg2 | exact b4)
         omega
        ·have gf := gs_facts (by first | exact hg | exact hg2 | exact b4)
         omega
        ·refine s_l6Priced_pc (Sets.getD j.toNat []) prices ?_
         ·have hgg : goodSys Size Sets Costs = true := by first | exact hg | exact hg2
          have gf := gs_facts hgg
          exact ⟨Size, gs_set hgg (by omega), (by first | (rw [h8]; exact raiseTo_row hg2 _) | (rw [h3]; exact raiseTo_row hg _)), gf.1, gf.2.1⟩
        ·have gf := gs_facts (by first | exact hg | exact hg2 | exact b4)
         have gc := gs_cost hg (k := j.toNat) (by omega)
         have pb := priced_bound (prices := prices) (gs_set hg (k := j.toNat) (by omega)) (by first | (rw [h8]; exact raiseTo_row hg2 _) | (rw [h3]; exact raiseTo_row hg _)) ⟨gf.1, gf.2.1⟩
         omega
        ·omega
        ·have gf := gs_facts (by first | exact hg | exact hg2 | exact b4)
         omega
        ·have gf := gs_facts (by first | exact hg | exact hg2 | exact b4)
         omega
        ·intro g1 g2; rw [g1, g2]; rfl
        ·intro b5
         refine ⟨?_, ?_⟩
         ·omega
         ·refine ⟨((Costs.getD j.toNat 0) - (priced (Sets.getD j.toNat []) prices)), (j + 1), ?_⟩
          refine ⟨?_, ?_, rfl, rfl, rfl, rfl, rfl, rfl, rfl, rfl, rfl, rfl⟩
          ·refine ⟨?_, ?_, ?_⟩
           ·omega
           ·have gf := gs_facts (by first | exact hg | exact hg2 | exact b5)
            omega
           ·rw [cond_and_or] at b5
            rw [show (j + 1).toNat = j.toNat + 1 by omega, roomTo_succ, ← h6]
            unfold roomF
            rw [if_pos b5]
          ·have gf := gs_facts (by first | exact hg | exact hg2 | exact bX)
           first | (show _ < _; omega) | (simp only [s_RaisePrices_own_mJ1]; omega) | (simp only [s_RaisePrices_own_mJ1] at *; simp at *; omega)
        ·intro b6
         refine ⟨?_, ?_⟩
         ·omega
         ·refine ⟨room, (j + 1), ?_⟩
          refine ⟨?_, ?_, rfl, rfl, rfl, rfl, rfl, rfl, rfl, rfl, rfl, rfl⟩
          ·refine ⟨?_, ?_, ?_⟩
           ·omega
           ·have gf := gs_facts (by first | exact hg | exact hg2 | exact b6)
            omega
           ·rw [cond_and_or] at b6
            rw [show (j + 1).toNat = j.toNat + 1 by omega, roomTo_succ, ← h6]
            unfold roomF
            rw [if_neg (by rw [b6]; decide)]
          ·have gf := gs_facts (by first | exact hg | exact hg2 | exact bX)
           first | (show _ < _; omega) | (simp only [s_RaisePrices_own_mJ1]; omega) | (simp only [s_RaisePrices_own_mJ1] at *; simp at *; omega)
       ·intro b7
        try simp only [nrmT] at b7
        refine ⟨s_l1Most_pc room 0, ?_, ?_, ?_, ?_, ?_⟩
        ·omega
        ·have := (raiseTo_ok hg x.toNat).1
         rw [← h3] at this
         omega
        ·have := (raiseTo_ok hg x.toNat).1
         rw [← h3] at this
         omega
        ·have gf := gs_facts (by first | exact hg | exact hg2 | exact b7)
         omega
        ·refine ⟨(prices.set x.toNat (max room 0)), (x + 1), ?_⟩
         refine ⟨?_, ?_, ?_, rfl, rfl, rfl, rfl, rfl, rfl, rfl⟩
         ·refine ⟨?_, ?_, ?_, ?_⟩
          ·first | exact hg | exact hg2 | exact b7
          ·omega
          ·omega
          ·have er : room = roomTo Sets Costs prices x Sets.length := by rw [h6, show j.toNat = Sets.length by omega]
           rw [show (x + 1).toNat = x.toNat + 1 by omega, raiseTo_succ, ← h3]
           unfold raiseF
           rw [show ((x.toNat : Nat) : Int) = x by omega, ← er]
           first | done | rw [Int.max_comm]
         ·first | (show _ < _; omega) | (simp only [s_RaisePrices_own_mJ0]; omega) | (simp only [s_RaisePrices_own_mJ0] at *; simp at *; omega)
         ·(simp_all; done)
     ·intro b8
      try simp only [nrmT] at b8
      refine ⟨prices, ?_⟩
      refine ⟨?_, rfl, rfl, rfl, rfl, rfl, rfl, rfl⟩
      ·refine ⟨?_, ?_⟩
       ·first | exact hg | exact hg2 | exact b8
       ·rw [h3, show x.toNat = Size.toNat by omega]
   ·intro prices hJ
    obtain ⟨hg2, h8⟩ := hJ
    refine ⟨?_, ?_⟩
    ·refine ⟨([]), 0, ?_⟩
     refine ⟨?_, rfl, rfl, rfl, ?_, rfl, rfl, rfl, rfl⟩
     ·refine ⟨?_, ?_, ?_⟩
      ·omega
      ·omega
      ·rfl
     ·rfl
    ·intro choice i hJ
     obtain ⟨k1, k2, k3⟩ := hJ
     refine ⟨?_, ?_⟩
     ·intro b9
      try simp only [nrmT] at b9
      refine ⟨rfl, ?_, ?_, ?_, rfl, ?_, ?_, ?_, ?_, ?_, ?_⟩
      ·omega
      ·have gf := gs_facts (by first | exact hg | exact hg2 | exact b9)
       omega
      ·have gf := gs_facts (by first | exact hg | exact hg2 | exact b9)
       omega
      ·refine s_l6Priced_pc (Sets.getD i.toNat []) prices ?_
       ·have hgg : goodSys Size Sets Costs = true := by first | exact hg | exact hg2
        have gf := gs_facts hgg
        exact ⟨Size, gs_set hgg (by omega), (by first | (rw [h8]; exact raiseTo_row hg2 _) | (rw [h3]; exact raiseTo_row hg _)), gf.1, gf.2.1⟩
      ·omega
      ·have gf := gs_facts (by first | exact hg | exact hg2 | exact b9)
       omega
      ·have gf := gs_facts (by first | exact hg | exact hg2 | exact b9)
       omega
      ·intro b10
       try simp only [nrmT] at b10
       refine ⟨rfl, rfl, ?_, ?_, ?_⟩
       ·rw [k3]; have := members_len_le (tightAt Size Sets Costs) i.toNat
        have gf := gs_facts (by first | exact hg | exact hg2 | exact b10)
        omega
       ·omega
       ·refine ⟨(choice ++ [i]), (i + 1), ?_⟩
        refine ⟨?_, ?_, rfl, ?_, rfl, rfl, rfl, rfl, rfl, rfl⟩
        ·refine ⟨?_, ?_, ?_⟩
         ·omega
         ·have gf := gs_facts (by first | exact hg | exact hg2 | exact b10)
          omega
         ·rw [k3, show (i + 1).toNat = i.toNat + 1 by omega, members_succ, if_pos (by unfold tightAt; rw [← h8]; exact decide_eq_true b10), show ((i.toNat : Nat) : Int) = i by omega]
        ·have gf := gs_facts (by first | exact hg | exact hg2 | exact bX)
         first | (show _ < _; omega) | (simp only [s_RaisePrices_own_mJ2]; omega) | (simp only [s_RaisePrices_own_mJ2] at *; simp at *; omega)
        ·simp
      ·intro b11
       try simp only [nrmT] at b11
       refine ⟨?_, ?_⟩
       ·omega
       ·refine ⟨choice, (i + 1), ?_⟩
        refine ⟨?_, ?_, rfl, rfl, rfl, rfl, rfl, rfl, rfl, rfl⟩
        ·refine ⟨?_, ?_, ?_⟩
         ·omega
         ·have gf := gs_facts (by first | exact hg | exact hg2 | exact b11)
          omega
         ·rw [k3, show (i + 1).toNat = i.toNat + 1 by omega, members_succ, if_neg (by unfold tightAt; rw [← h8]; simpa using b11), List.append_nil]
        ·have gf := gs_facts (by first | exact hg | exact hg2 | exact bX)
         first | (show _ < _; omega) | (simp only [s_RaisePrices_own_mJ2]; omega) | (simp only [s_RaisePrices_own_mJ2] at *; simp at *; omega)
     ·intro b12
      try simp only [nrmT] at b12
      refine ⟨rfl, ?_, rfl, ?_, ?_⟩
      ·unfold raiseP; rw [if_pos hg2, ← h8]
      ·have gf := gs_facts (by first | exact hg | exact hg2 | exact b12)
       unfold raiseC; rw [if_pos hg2, k3, show i.toNat = Sets.length by omega]
      ·exact hg2.symm
theorem s_RaisePrices_own_pc (Size : Int) (Sets : List (List Int)) (Costs : List Int)  : PC Try.prog 88 [.agg [.int .i64 Size, .sl (.rows Sets), .sl (.ints Costs)]] (.tup [.own 3 (.ints (raiseP Size Sets Costs)), .own 3 (.ints (raiseC Size Sets Costs)), .d (.bool (goodSys Size Sets Costs))]) :=
  pc_wf @Try.call88 fun hw => pc_by (by kernel_rfl) Try.func88 @Try.call88 (by kernel_rfl) s_RaisePrices_own_C (s_RaisePrices_own_A Size Sets Costs) (by kernel_rfl) (s_RaisePrices_own_vc Size Sets Costs hw.1.2.1.1 hw.1.2.1.2 hw.1.2.2.1) (by kernel_rfl)
abbrev s_l6Greedy_own_JJ0 (Size : Int) (Sets : List (List Int)) (Costs : List Int) (out : List Int) (covered : List Int) (prices : List Int) : Prop := (GrOk Sets out) ∧ (grs Size Sets Costs out = grs Size Sets Costs []) ∧ (prices = prL Size Sets Costs out out.length) ∧ (covered = covL Sets out out.length)
abbrev s_l6Greedy_own_mJ0 (Size : Int) (Sets : List (List Int)) (Costs : List Int) (out : List Int) (covered : List Int) (prices : List Int) : Nat := Size.toNat - cnt Sets out
abbrev s_l6Greedy_own_JJ1 (Size : Int) (Sets : List (List Int)) (Costs : List Int) (out : List Int) (covered : List Int) (prices : List Int) (cov1 : List Int) (pr1 : List Int) (k : Int) : Prop := (0 ≤ k) ∧ (k ≤ ((Sets.getD (grC Sets Costs covered Sets.length).toNat []).length : Int)) ∧ (cov1 = putAll covered (Sets.getD (grC Sets Costs covered Sets.length).toNat []) k.toNat) ∧ (pr1 = setsTo (fun x => covered.contains x) (prV Sets Costs (out ++ [grC Sets Costs covered Sets.length]) out.length) (Sets.getD (grC Sets Costs covered Sets.length).toNat []) prices k.toNat)
abbrev s_l6Greedy_own_mJ1 (Size : Int) (Sets : List (List Int)) (Costs : List Int) (out : List Int) (covered : List Int) (prices : List Int) (cov1 : List Int) (pr1 : List Int) (k : Int) : Nat := ((Sets.getD (grC Sets Costs covered Sets.length).toNat []).length - k).toNat
def s_l6Greedy_own_C (f : FuncId) (ds : List D) : Orc := bif Nat.beq f 228 then s_l6Next_orc ds else bif Nat.beq f 223 then s_l6New_orc ds else bif Nat.beq f 182 then s_l1Has_orc ds else bif Nat.beq f 202 then s_l1Put_orc ds else .no
def s_l6Greedy_own_A (Size : Int) (Sets : List (List Int)) (Costs : List Int) : Ann := .two (.none) (.two (.reg [(1, .frz)]) (.two (.loop (cut3 (fun (out : List Int) (covered : List Int) (prices : List Int) => s_l6Greedy_own_JJ0 Size Sets Costs out covered prices) (fun (out : List Int) (covered : List Int) (prices : List Int) => [(1, .ptr 1 0), (4, .own 1000000 out.length), (5, .d true (.sl (.ints covered))), (6, .own 15 prices.length)]) (fun (out : List Int) (covered : List Int) (prices : List Int) => [(1000000, .arr true 3 (.ints out)), (15, .arr true 3 (.ints prices)), (1, .box 36 [.d false (.int .i64 Size), .d false (.sl (.rows Sets)), .d false (.sl (.ints Costs))])])) (fun g => s_l6Greedy_own_mJ0 Size Sets Costs g.1 g.2.1 g.2.2) (fun g => (fun (out : List Int) (covered : List Int) (prices : List Int) => .two (.none) (.two (.none) (.two (.none) (.two (.two (.none) (.loop (cut3 (fun (cov1 : List Int) (pr1 : List Int) (k : Int) => s_l6Greedy_own_JJ1 Size Sets Costs out covered prices cov1 pr1 k) (fun (cov1 : List Int) (pr1 : List Int) (k : Int) => [(1, .ptr 1 0), (4, .own 1000000 out.length), (5, .d true (.sl (.ints cov1))), (6, .own 15 pr1.length), (7, .d true (.int .i64 (grC Sets Costs covered Sets.length))), (8, .d true (.int .i64 (newOf (Sets.getD ((grC Sets Costs covered Sets.length).toNat) []) covered))), (9, .d true (.int .i64 k))]) (fun (cov1 : List Int) (pr1 : List Int) (k : Int) => [(15, .arr true 3 (.ints pr1)), (1, .box 36 [.d false (.int .i64 Size), .d false (.sl (.rows Sets)), .d false (.sl (.ints Costs))]), (1000000, .arr true 3 (.ints out))])) (fun g => s_l6Greedy_own_mJ1 Size Sets Costs out covered prices g.1 g.2.1 g.2.2) (fun _ => .none))) (.none))))) (g.1) (g.2.1) (g.2.2))) (.none)))
def s_l6Greedy_own_P (Size : Int) (Sets : List (List Int)) (Costs : List Int) : Prop :=
  (true = true) ∧ (Size = Size) ∧ ((0 : Int) ≤ Size) ∧ ((Size : Int) * ((8 : Nat) : Int) ≤ 140737488355328) ∧ ((∃ out' : List Int, ∃ covered' : List Int, ∃ prices' : List Int, (s_l6Greedy_own_JJ0 Size Sets Costs out' covered' prices') ∧ ((0 : Nat) = out'.length) ∧ ([] = covered') ∧ (Size.toNat = prices'.length) ∧ ([] = out') ∧ ((List.replicate Size.toNat (0 : Int)) = prices') ∧ (Size = Size) ∧ (Sets = Sets) ∧ (Costs = Costs)) ∧ (∀ out : List Int, ∀ covered : List Int, ∀ prices : List Int, (s_l6Greedy_own_JJ0 Size Sets Costs out covered prices) → (((decide ((covered.length : Int) < Size)) = true → (PC Try.prog 228 [.agg [.int .i64 Size, .sl (.rows Sets), .sl (.ints Costs)], .sl (.ints covered)] (.one (.d (.int .i64 (grC Sets Costs covered Sets.length))))) ∧ ((0 : Int) ≤ (grC Sets Costs covered Sets.length)) ∧ (((grC Sets Costs covered Sets.length) : Int) < Sets.length) ∧ ((grC Sets Costs covered Sets.length).toNat < Sets.length) ∧ (PC Try.prog 223 [.sl (.ints (Sets.getD ((grC Sets Costs covered Sets.length).toNat) [])), .sl (.ints covered)] (.one (.d (.int .i64 (newOf (Sets.getD ((grC Sets Costs covered Sets.length).toNat) []) covered))))) ∧ ((∃ cov1' : List Int, ∃ pr1' : List Int, ∃ k' : Int, (s_l6Greedy_own_JJ1 Size Sets Costs out covered prices cov1' pr1' k') ∧ (out.length = out.length) ∧ (covered = cov1') ∧ (prices.length = pr1'.length) ∧ ((grC Sets Costs covered Sets.length) = (grC Sets Costs covered Sets.length)) ∧ ((newOf (Sets.getD ((grC Sets Costs covered Sets.length).toNat) []) covered) = (newOf (Sets.getD ((grC Sets Costs covered Sets.length).toNat) []) covered)) ∧ ((0 : Int) = k') ∧ (prices = pr1') ∧ (Size = Size) ∧ (Sets = Sets) ∧ (Costs = Costs) ∧ (out = out)) ∧ (∀ cov1 : List Int, ∀ pr1 : List Int, ∀ k : Int, (s_l6Greedy_own_JJ1 Size Sets Costs out covered prices cov1 pr1 k) → ((0 : Int) ≤ (grC Sets Costs covered Sets.length)) ∧ (((grC Sets Costs covered Sets.length) : Int) < Sets.length) ∧ ((grC Sets Costs covered Sets.length).toNat < Sets.length) ∧ (((decide (k < (((Sets.getD ((grC Sets Costs covered Sets.length).toNat) []).length) : Int))) = true → ((0 : Int) ≤ (grC Sets Costs covered Sets.length)) ∧ (((grC Sets Costs covered Sets.length) : Int) < Sets.length) ∧ ((grC Sets Costs covered Sets.length).toNat < Sets.length) ∧ ((0 : Int) ≤ k) ∧ ((k : Int) < (Sets.getD ((grC Sets Costs covered Sets.length).toNat) []).length) ∧ (k.toNat < (Sets.getD ((grC Sets Costs covered Sets.length).toNat) []).length) ∧ (PC Try.prog 182 [.sl (.ints cov1), .int .i64 ((Sets.getD ((grC Sets Costs covered Sets.length).toNat) []).getD k.toNat 0)] (.one (.d (.bool (cov1.contains ((Sets.getD ((grC Sets Costs covered Sets.length).toNat) []).getD k.toNat 0)))))) ∧ (((!(cov1.contains ((Sets.getD ((grC Sets Costs covered Sets.length).toNat) []).getD k.toNat 0))) = true → (PCs Try.prog 202 [.sl (.ints cov1), .int .i64 ((Sets.getD ((grC Sets Costs covered Sets.length).toNat) []).getD k.toNat 0)] 0 (.sl (.ints (putL cov1 ((Sets.getD ((grC Sets Costs covered Sets.length).toNat) []).getD k.toNat 0))))) ∧ (true = true) ∧ ((0 : Int) ≤ 840 ∧ (840 : Int) ≤ 9223372036854775807) ∧ ((1 : Int) ≤ (newOf (Sets.getD ((grC Sets Costs covered Sets.length).toNat) []) covered)) ∧ ((0 : Int) ≤ (grC Sets Costs covered Sets.length)) ∧ (((grC Sets Costs covered Sets.length) : Int) < Costs.length) ∧ ((grC Sets Costs covered Sets.length).toNat < Costs.length) ∧ (-9223372036854775808 ≤ ((840 / (newOf (Sets.getD ((grC Sets Costs covered Sets.length).toNat) []) covered)) * (Costs.getD ((grC Sets Costs covered Sets.length).toNat) 0)) ∧ ((840 / (newOf (Sets.getD ((grC Sets Costs covered Sets.length).toNat) []) covered)) * (Costs.getD ((grC Sets Costs covered Sets.length).toNat) 0)) ≤ 9223372036854775807) ∧ ((0 : Int) ≤ ((Sets.getD ((grC Sets Costs covered Sets.length).toNat) []).getD k.toNat 0)) ∧ ((((Sets.getD ((grC Sets Costs covered Sets.length).toNat) []).getD k.toNat 0) : Int) < (pr1.length : Int)) ∧ (((Sets.getD ((grC Sets Costs covered Sets.length).toNat) []).getD k.toNat 0).toNat < pr1.length) ∧ (-9223372036854775808 ≤ (k + 1) ∧ (k + 1) ≤ 9223372036854775807) ∧ (∃ cov1' : List Int, ∃ pr1' : List Int, ∃ k' : Int, (s_l6Greedy_own_JJ1 Size Sets Costs out covered prices cov1' pr1' k') ∧ (s_l6Greedy_own_mJ1 Size Sets Costs out covered prices cov1' pr1' k' < s_l6Greedy_own_mJ1 Size Sets Costs out covered prices cov1 pr1 k) ∧ (out.length = out.length) ∧ ((putL cov1 ((Sets.getD ((grC Sets Costs covered Sets.length).toNat) []).getD k.toNat 0)) = cov1') ∧ (pr1.length = pr1'.length) ∧ ((grC Sets Costs covered Sets.length) = (grC Sets Costs covered Sets.length)) ∧ ((newOf (Sets.getD ((grC Sets Costs covered Sets.length).toNat) []) covered) = (newOf (Sets.getD ((grC Sets Costs covered Sets.length).toNat) []) covered)) ∧ ((k + 1) = k') ∧ ((pr1.set (((Sets.getD ((grC Sets Costs covered Sets.length).toNat) []).getD k.toNat 0).toNat) ((840 / (newOf (Sets.getD ((grC Sets Costs covered Sets.length).toNat) []) covered)) * (Costs.getD ((grC Sets Costs covered Sets.length).toNat) 0))) = pr1') ∧ (Size = Size) ∧ (Sets = Sets) ∧ (Costs = Costs) ∧ (out = out))) ∧ ((!(cov1.contains ((Sets.getD ((grC Sets Costs covered Sets.length).toNat) []).getD k.toNat 0))) = false → (-9223372036854775808 ≤ (k + 1) ∧ (k + 1) ≤ 9223372036854775807) ∧ (∃ cov1' : List Int, ∃ pr1' : List Int, ∃ k' : Int, (s_l6Greedy_own_JJ1 Size Sets Costs out covered prices cov1' pr1' k') ∧ (s_l6Greedy_own_mJ1 Size Sets Costs out covered prices cov1' pr1' k' < s_l6Greedy_own_mJ1 Size Sets Costs out covered prices cov1 pr1 k) ∧ (out.length = out.length) ∧ (cov1 = cov1') ∧ (pr1.length = pr1'.length) ∧ ((grC Sets Costs covered Sets.length) = (grC Sets Costs covered Sets.length)) ∧ ((newOf (Sets.getD ((grC Sets Costs covered Sets.length).toNat) []) covered) = (newOf (Sets.getD ((grC Sets Costs covered Sets.length).toNat) []) covered)) ∧ ((k + 1) = k') ∧ (pr1 = pr1') ∧ (Size = Size) ∧ (Sets = Sets) ∧ (Costs = Costs) ∧ (out = out))))) ∧ ((decide (k < (((Sets.getD ((grC Sets Costs covered Sets.length).toNat) []).length) : Int))) = false → (out.length = out.length) ∧ ((1 : Nat) = 1) ∧ ((out.length + 1) * 8 ≤ 140737488355328) ∧ (∃ out' : List Int, ∃ covered' : List Int, ∃ prices' : List Int, (s_l6Greedy_own_JJ0 Size Sets Costs out' covered' prices') ∧ (s_l6Greedy_own_mJ0 Size Sets Costs out' covered' prices' < s_l6Greedy_own_mJ0 Size Sets Costs out covered prices) ∧ ((out.length + 1) = out'.length) ∧ (cov1 = covered') ∧ (pr1.length = prices'.length) ∧ ((out ++ [(grC Sets Costs covered Sets.length)]) = out') ∧ (pr1 = prices') ∧ (Size = Size) ∧ (Sets = Sets) ∧ (Costs = Costs))))))) ∧ ((decide ((covered.length : Int) < Size)) = false → ((out.length = out.length) ∧ ((out : List Int) = (grO Size Sets Costs)) ∧ (prices.length = prices.length) ∧ ((prices : List Int) = prL Size Sets Costs (grO Size Sets Costs) (grO Size Sets Costs).length))))))
end Go.Proofs.Ytomnmacmlhkceaa
