/- Contracts of the functions that the law reaches. -/
import Derived.Test.YtmmoejdglnnmcaaKLeastHitting1
import Derived.KernelRfl
set_option linter.unusedVariables false
set_option linter.unusedSimpArgs false
namespace Go.Proofs.Ytmmoejdglnnmcaa
open Go

theorem slices_Compare_int_int__vc (xs : List Int) (ys : List Int)  (w_xs : (xs.length : Int) ≤ 9223372036854775807) (w_ys : (ys.length : Int) ≤ 9223372036854775807) : slices_Compare_int_int__P xs ys := by
  unfold slices_Compare_int_int__P
  refine ⟨?_, ?_⟩
  · refine ⟨0, ?_⟩
    refine ⟨?_, rfl, rfl, rfl, rfl, rfl⟩
    · refine ⟨?_, ?_, ?_, ?_⟩
      · first | omega | rfl | (intro hg; simp only [nrmT] at hg; omega) | (intro g1 g2; simp [g1, g2]; done) | (intro g1; simp at g1 ⊢; simp [g1]; done) | (simp only [nrmT] at *; omega) | (simp at * <;> omega) | (simp_all <;> omega) | (simp_all; done)
      · first | omega | rfl | (intro hg; simp only [nrmT] at hg; omega) | (intro g1 g2; simp [g1, g2]; done) | (intro g1; simp at g1 ⊢; simp [g1]; done) | (simp only [nrmT] at *; omega) | (simp at * <;> omega) | (simp_all <;> omega) | (simp_all; done)
      · first | omega | rfl | (intro hg; simp only [nrmT] at hg; omega) | (intro g1 g2; simp [g1, g2]; done) | (intro g1; simp at g1 ⊢; simp [g1]; done) | (simp only [nrmT] at *; omega) | (simp at * <;> omega) | (simp_all <;> omega) | (simp_all; done)
      · rfl
  · intro i hJ
    obtain ⟨h1, h2, h2y, h3⟩ := hJ
    refine ⟨?_, ?_⟩
    · intro b1
      try simp only [nrmT] at b1
      refine ⟨?_, ?_, ?_, ?_, ?_⟩
      · first | omega | rfl | (intro hg; simp only [nrmT] at hg; omega) | (intro g1 g2; simp [g1, g2]; done) | (intro g1; simp at g1 ⊢; simp [g1]; done) | (simp only [nrmT] at *; omega) | (simp at * <;> omega) | (simp_all <;> omega) | (simp_all; done)
      · first | omega | rfl | (intro hg; simp only [nrmT] at hg; omega) | (intro g1 g2; simp [g1, g2]; done) | (intro g1; simp at g1 ⊢; simp [g1]; done) | (simp only [nrmT] at *; omega) | (simp at * <;> omega) | (simp_all <;> omega) | (simp_all; done)
      · first | omega | rfl | (intro hg; simp only [nrmT] at hg; omega) | (intro g1 g2; simp [g1, g2]; done) | (intro g1; simp at g1 ⊢; simp [g1]; done) | (simp only [nrmT] at *; omega) | (simp at * <;> omega) | (simp_all <;> omega) | (simp_all; done)
      · intro b2
        try simp only [nrmT] at b2
        exact (cmpL_short h3 (by omega) (by omega)).symm
      · intro b3
        try simp only [nrmT] at b3
        refine ⟨?_, ?_, ?_, cmp_Compare_int__pc (xs.getD i.toNat 0) (ys.getD i.toNat 0), ?_, ?_⟩
        · first | omega | rfl | (intro hg; simp only [nrmT] at hg; omega) | (intro g1 g2; simp [g1, g2]; done) | (intro g1; simp at g1 ⊢; simp [g1]; done) | (simp only [nrmT] at *; omega) | (simp at * <;> omega) | (simp_all <;> omega) | (simp_all; done)
        · first | omega | rfl | (intro hg; simp only [nrmT] at hg; omega) | (intro g1 g2; simp [g1, g2]; done) | (intro g1; simp at g1 ⊢; simp [g1]; done) | (simp only [nrmT] at *; omega) | (simp at * <;> omega) | (simp_all <;> omega) | (simp_all; done)
        · first | omega | rfl | (intro hg; simp only [nrmT] at hg; omega) | (intro g1 g2; simp [g1, g2]; done) | (intro g1; simp at g1 ⊢; simp [g1]; done) | (simp only [nrmT] at *; omega) | (simp at * <;> omega) | (simp_all <;> omega) | (simp_all; done)
        · intro b4
          try simp only [nrmT] at b4
          rw [cmpL_drop h3 (by omega) (by omega)]
          unfold cmpI at b4 ⊢
          by_cases h5 : xs.getD i.toNat 0 < ys.getD i.toNat 0
          · rw [if_pos h5, if_pos h5]
          · rw [if_neg h5] at b4 ⊢
            by_cases h6 : xs.getD i.toNat 0 > ys.getD i.toNat 0
            · rw [if_pos h6, if_neg h5, if_pos h6]
            · rw [if_neg h6] at b4; omega
        · intro b5
          try simp only [nrmT] at b5
          refine ⟨?_, ?_⟩
          · first | omega | rfl | (intro hg; simp only [nrmT] at hg; omega) | (intro g1 g2; simp [g1, g2]; done) | (intro g1; simp at g1 ⊢; simp [g1]; done) | (simp only [nrmT] at *; omega) | (simp at * <;> omega) | (simp_all <;> omega) | (simp_all; done)
          · refine ⟨(i + 1), ?_⟩
            refine ⟨?_, ?_, rfl, rfl, rfl, rfl, rfl⟩
            · refine ⟨?_, ?_, ?_, ?_⟩
              · first | omega | rfl | (intro hg; simp only [nrmT] at hg; omega) | (intro g1 g2; simp [g1, g2]; done) | (intro g1; simp at g1 ⊢; simp [g1]; done) | (simp only [nrmT] at *; omega) | (simp at * <;> omega) | (simp_all <;> omega) | (simp_all; done)
              · first | omega | rfl | (intro hg; simp only [nrmT] at hg; omega) | (intro g1 g2; simp [g1, g2]; done) | (intro g1; simp at g1 ⊢; simp [g1]; done) | (simp only [nrmT] at *; omega) | (simp at * <;> omega) | (simp_all <;> omega) | (simp_all; done)
              · first | omega | rfl | (intro hg; simp only [nrmT] at hg; omega) | (intro g1 g2; simp [g1, g2]; done) | (intro g1; simp at g1 ⊢; simp [g1]; done) | (simp only [nrmT] at *; omega) | (simp at * <;> omega) | (simp_all <;> omega) | (simp_all; done)
              · have h7 := cmpL_drop h3 (by omega) (by omega)
                unfold cmpI at b5
                rw [h7, show (i + 1).toNat = i.toNat + 1 by omega]
                by_cases h5 : xs.getD i.toNat 0 < ys.getD i.toNat 0
                · rw [if_pos h5] at b5; omega
                · rw [if_neg h5] at b5 ⊢
                  by_cases h6 : xs.getD i.toNat 0 > ys.getD i.toNat 0
                  · rw [if_pos h6] at b5; omega
                  · rw [if_neg h6]
            · first | (show _ < _; omega) | (simp only [slices_Compare_int_int__mJ0]; omega) | (simp only [slices_Compare_int_int__mJ0] at *; simp at *; omega)
    · intro b6
      try simp only [nrmT] at b6
      refine ⟨?_, ?_⟩
      · intro b7
        try simp only [nrmT] at b7
        rw [cmpL_end h3 (by omega) (by omega) (by omega), if_pos (by omega)]
      · intro b8
        try simp only [nrmT] at b8
        rw [cmpL_end h3 (by omega) (by omega) (by omega), if_neg (by omega)]
theorem slices_Compare_int_int__pc (xs : List Int) (ys : List Int)  : PC Try.prog 170 [.sl (.ints xs), .sl (.ints ys)] (.one (.d (.int .i64 (cmpL xs ys)))) :=
  pc_wf @Try.call170 fun hw => pc_by (by kernel_rfl) Try.func170 @Try.call170 (by kernel_rfl) slices_Compare_int_int__C (slices_Compare_int_int__A xs ys) (by kernel_rfl) (slices_Compare_int_int__vc xs ys hw.1 hw.2.1) (by kernel_rfl)
def slices_Compare_int_int__orc : List D → Orc := orcN [some .ints, some .ints] fun ds => match ds with
  | [.sl (.ints xs), .sl (.ints ys)] => some (.one (.d (.int .i64 (cmpL xs ys))))
  | _ => none
def lst (n code : Nat) : List Int := members (fun k => code.testBit k) n
theorem one_shl (n : Nat) : (1 : Int) * 2 ^ ((n : Int)).toNat = ((2 ^ n : Nat) : Int) := by
  rw [Int.toNat_natCast]; simp
def cmpS (a b : List Int) : Int := if cmpI (a.length : Int) (b.length : Int) = 0 then cmpL a b else cmpI (a.length : Int) (b.length : Int)
theorem cmpL_self : ∀ x : List Int, cmpL x x = 0
  | [] => rfl
  | x :: r => by unfold cmpL; rw [if_neg (by omega), if_neg (by omega)]; exact cmpL_self r
theorem cmpL_zero : ∀ {x y : List Int}, cmpL x y = 0 → x = y
  | [], [], _ => rfl
  | [], _ :: _, h => by simp [cmpL] at h
  | _ :: _, [], h => by simp [cmpL] at h
  | x :: r, y :: s, h => by
    unfold cmpL at h
    by_cases h1 : x < y
    · rw [if_pos h1] at h; omega
    · rw [if_neg h1] at h
      by_cases h2 : x > y
      · rw [if_pos h2] at h; omega
      · rw [if_neg h2] at h
        have : x = y := by omega
        rw [this, cmpL_zero h]
theorem cmpL_flip : ∀ {x y : List Int}, cmpL x y < 0 ↔ 0 < cmpL y x
  | [], [] => by simp [cmpL]
  | [], _ :: _ => by simp [cmpL]
  | _ :: _, [] => by simp [cmpL]
  | x :: r, y :: s => by
    unfold cmpL
    by_cases h1 : x < y
    · rw [if_pos h1, if_neg (by omega), if_pos (by omega)]; omega
    · rw [if_neg h1]
      by_cases h2 : x > y
      · rw [if_pos h2, if_pos (by omega)]; omega
      · rw [if_neg h2, if_neg (by omega), if_neg (by omega)]; exact cmpL_flip
theorem cmpL_tr : ∀ {x y z : List Int}, cmpL x y < 0 → cmpL y z < 0 → cmpL x z < 0
  | [], _, [], h1, h2 => by
    exfalso
    rename_i y
    cases y with
    | nil => simp [cmpL] at h1
    | cons y s => simp [cmpL] at h2
  | [], _, _ :: _, _, _ => by simp [cmpL]
  | _ :: _, [], _, h, _ => by simp [cmpL] at h
  | _ :: _, _ :: _, [], _, h => by simp [cmpL] at h
  | x :: r, y :: s, z :: t, h1, h2 => by
    unfold cmpL at h1 h2 ⊢
    by_cases a1 : x < y
    · by_cases a2 : y < z
      · rw [if_pos (by omega)]; omega
      · rw [if_neg a2] at h2
        by_cases a3 : y > z
        · rw [if_pos a3] at h2; omega
        · rw [if_pos (by omega)]; omega
    · rw [if_neg a1] at h1
      by_cases a4 : x > y
      · rw [if_pos a4] at h1; omega
      · rw [if_neg a4] at h1
        by_cases a2 : y < z
        · rw [if_pos (by omega)]; omega
        · rw [if_neg a2] at h2
          by_cases a3 : y > z
          · rw [if_pos a3] at h2; omega
          · rw [if_neg a3] at h2
            rw [if_neg (by omega), if_neg (by omega)]
            exact cmpL_tr h1 h2
theorem cmpS_cases (a b : List Int) : (a.length < b.length ∧ cmpS a b < 0) ∨ (b.length < a.length ∧ 0 < cmpS a b) ∨ (a.length = b.length ∧ cmpS a b = cmpL a b) := by
  unfold cmpS cmpI
  by_cases h1 : (a.length : Int) < b.length
  · rw [if_pos h1]; left; exact ⟨by omega, by rw [if_neg (by omega)]; omega⟩
  · rw [if_neg h1]
    by_cases h2 : (a.length : Int) > b.length
    · rw [if_pos h2]; right; left; exact ⟨by omega, by rw [if_neg (by omega)]; omega⟩
    · rw [if_neg h2]; right; right; exact ⟨by omega, by rw [if_pos rfl]⟩
theorem cmpS_self (a : List Int) : cmpS a a = 0 := by
  rcases cmpS_cases a a with h | h | h
  · omega
  · omega
  · rw [h.2, cmpL_self]
theorem cmpS_zero {a b : List Int} (h : cmpS a b = 0) : a = b := by
  rcases cmpS_cases a b with h1 | h1 | h1
  · omega
  · omega
  · exact cmpL_zero (h1.2 ▸ h)
theorem cmpS_flip {a b : List Int} : cmpS a b < 0 ↔ 0 < cmpS b a := by
  rcases cmpS_cases a b with h1 | h1 | h1 <;> rcases cmpS_cases b a with h2 | h2 | h2
  · omega
  · omega
  · omega
  · omega
  · omega
  · omega
  · omega
  · omega
  · rw [h1.2, h2.2]; exact cmpL_flip
theorem cmpS_tr {a b c : List Int} (h : cmpS a b < 0) (k : cmpS b c < 0) : cmpS a c < 0 := by
  rcases cmpS_cases a b with h1 | h1 | h1 <;> rcases cmpS_cases b c with h2 | h2 | h2 <;> rcases cmpS_cases a c with h3 | h3 | h3
  all_goals first | omega | (rw [h3.2]; exact cmpL_tr (h1.2 ▸ h) (h2.2 ▸ k))
theorem swo_of {β : Type} {c : β → β → Int} (hs : ∀ x, c x x = 0) (h0 : ∀ {x y}, c x y = 0 → x = y) (hf : ∀ {x y}, c x y < 0 ↔ 0 < c y x) (ht : ∀ {x y z}, c x y < 0 → c y z < 0 → c x z < 0) :
    Go.Sort.SWO (ltOf c) ∧ ∀ x y, ltOf c x y = false → ltOf c y x = false → x = y := by
  refine ⟨⟨fun x => ?_, fun x y z h1 h2 => ?_, fun x y z h1 h2 => ?_⟩, fun x y h1 h2 => ?_⟩
  · exact decide_eq_false (by rw [hs]; omega)
  · exact decide_eq_true (ht (of_decide_eq_true h1) (of_decide_eq_true h2))
  · have h1 := of_decide_eq_false h1
    have h2 := of_decide_eq_false h2
    refine decide_eq_false fun h3 => ?_
    by_cases e1 : c x y = 0
    · rw [h0 e1] at h3; omega
    · by_cases e2 : c y z = 0
      · rw [← h0 e2] at h3; omega
      · have a1 : c y x < 0 := hf.2 (by omega)
        have a2 : c z y < 0 := hf.2 (by omega)
        have a3 := ht a2 a1
        have a4 := hf.1 h3
        omega
  · have h1 := of_decide_eq_false h1
    have h2 := of_decide_eq_false h2
    refine h0 ?_
    by_cases e1 : 0 < c x y
    · have := hf.2 e1; omega
    · omega
theorem swoS : Go.Sort.SWO (ltOf cmpS) := (swo_of cmpS_self cmpS_zero cmpS_flip cmpS_tr).1
theorem totS : ∀ x y, ltOf cmpS x y = false → ltOf cmpS y x = false → x = y := (swo_of cmpS_self cmpS_zero cmpS_flip cmpS_tr).2
def orI : List Int → Int
  | [] => 0
  | x :: r => if x = 0 then orI r else x
theorem orI_drop {xs : List Int} {i : Nat} (h : orI xs = orI (xs.drop i)) (hi : i < xs.length) : orI xs = if xs.getD i 0 = 0 then orI (xs.drop (i + 1)) else xs.getD i 0 := by
  rw [h, List.drop_eq_getElem_cons hi, getD_get hi]; rfl
theorem orI_end {xs : List Int} {i : Nat} (h : orI xs = orI (xs.drop i)) (hi : xs.length ≤ i) : orI xs = 0 := by
  rw [h, List.drop_eq_nil_of_le hi]; rfl
theorem orI_two (a b : Int) : orI [a, b] = if a = 0 then b else a := by
  unfold orI orI orI
  by_cases h : b = 0
  · rw [if_pos h, h]
  · rw [if_neg h]
def preS (n m : Nat) : List (List Int) := (List.range m).map fun c => lst n (c + 1)
def setsL (n : Nat) : List (List Int) := (preS n (2 ^ n - 1)).mergeSort fun x9 y9 => !(ltOf cmpS) y9 x9
theorem preS_len (n m : Nat) : (preS n m).length = m := by simp [preS]
theorem setsL_len (n : Nat) : (setsL n).length = 2 ^ n - 1 := by unfold setsL; rw [List.length_mergeSort, preS_len]
theorem preS_succ (n m : Nat) : preS n (m + 1) = preS n m ++ [lst n (m + 1)] := by simp [preS, List.range_succ]
theorem setsL_mem {n : Nat} {s : List Int} : s ∈ setsL n ↔ ∃ c, 1 ≤ c ∧ c < 2 ^ n ∧ lst n c = s := by
  unfold setsL
  rw [(List.mergeSort_perm _ _).mem_iff, preS, List.mem_map]
  constructor
  · rintro ⟨c, hc, rfl⟩
    have := List.mem_range.1 hc
    exact ⟨c + 1, by omega, by omega, rfl⟩
  · rintro ⟨c, h1, h2, rfl⟩
    exact ⟨c - 1, List.mem_range.2 (by omega), by rw [show c - 1 + 1 = c by omega]⟩
theorem list62 {n c : Nat} (hn : n ≤ 62) (h : c < 2 ^ n) : members (fun k => c.testBit k) 62 = lst n c :=
  members_stop (fun k hk => Nat.testBit_lt_two_pow (Nat.lt_of_lt_of_le h (Nat.pow_le_pow_right (by omega) hk))) 62 hn
theorem ins_sorted {out : List (List Int)} {s : List Int} {k : Nat} (ho : out.Pairwise fun x9 y9 => ltOf cmpS y9 x9 = false) (hk : k ≤ out.length) (h1 : ∀ j, k ≤ j → j < out.length → cmpS s (out.getD j []) < 0) (h2 : k = 0 ∨ ¬ cmpS s (out.getD (k - 1) []) < 0) :
    ((out.take k ++ [s]) ++ out.drop k).Pairwise fun x9 y9 => ltOf cmpS y9 x9 = false := by
  have hle : ∀ x ∈ out.take k, ltOf cmpS s x = false := by
    intro x hx
    obtain ⟨j, hj, rfl⟩ := List.mem_iff_getElem.1 hx
    have hj' : j < k ∧ j < out.length := by rw [List.length_take] at hj; omega
    rcases h2 with h2 | h2
    · omega
    · have hs : ltOf cmpS s (out.getD (k - 1) []) = false := decide_eq_false h2
      by_cases e : j = k - 1
      · subst e; rw [getD_get (by omega)] at hs; simpa using hs
      · have := List.pairwise_iff_getElem.1 ho j (k - 1) (by omega) (by omega) (by omega)
        rw [getD_get (by omega)] at hs
        simpa using swoS.ntrans _ _ _ hs this
  have hgt : ∀ y ∈ out.drop k, ltOf cmpS y s = false := by
    intro y hy
    obtain ⟨j, hj, rfl⟩ := List.mem_iff_getElem.1 hy
    have hj' : k + j < out.length := by rw [List.length_drop] at hj; omega
    have := h1 (k + j) (by omega) hj'
    rw [getD_get hj'] at this
    rw [List.getElem_drop]
    refine decide_eq_false fun h => ?_
    have := cmpS_flip.1 h
    omega
  refine List.pairwise_append.2 ⟨List.pairwise_append.2 ⟨ho.sublist (List.take_sublist _ _), by simp, fun a ha b hb => ?_⟩, ho.sublist (List.drop_sublist _ _), fun a ha b hb => ?_⟩
  · have : b = s := by simpa using hb
    subst this; exact hle a ha
  · rcases List.mem_append.1 ha with ha | ha
    · obtain ⟨i, hi, rfl⟩ := List.mem_iff_getElem.1 ha
      obtain ⟨j, hj, rfl⟩ := List.mem_iff_getElem.1 hb
      have hi' : i < k ∧ i < out.length := by rw [List.length_take] at hi; omega
      have hj' : k + j < out.length := by rw [List.length_drop] at hj; omega
      have := List.pairwise_iff_getElem.1 ho i (k + j) hi'.2 hj' (by omega)
      simpa using this
    · have : a = s := by simpa using ha
      subst this; exact hgt b hb
theorem ins_perm {out : List (List Int)} {s : List Int} {n m k : Nat} (hp : out.Perm (preS n m)) (hs : s = lst n (m + 1)) : ((out.take k ++ [s]) ++ out.drop k).Perm (preS n (m + 1)) := by
  rw [preS_succ, ← hs, List.append_assoc]
  refine List.Perm.trans (List.perm_append_comm_assoc _ _ _) ?_
  refine List.Perm.trans ?_ (List.perm_append_comm)
  rw [List.take_append_drop]
  exact hp.append_left [s]
theorem sets_done {out : List (List Int)} {n m : Nat} (hp : out.Perm (preS n m)) (hm : m = 2 ^ n - 1) (ho : out.Pairwise fun x9 y9 => ltOf cmpS y9 x9 = false) : out = setsL n := by
  subst hm
  exact sortedBy_unique swoS totS hp ho
abbrev cmp_Or_int__JJ0 (xs : List Int) (i : Int) : Prop := (0 ≤ i) ∧ (i ≤ (xs.length : Int)) ∧ (orI xs = orI (xs.drop i.toNat))
abbrev cmp_Or_int__mJ0 (xs : List Int) (i : Int) : Nat := (xs.length - i).toNat
def cmp_Or_int__C (f : FuncId) (ds : List D) : Orc := .no
def cmp_Or_int__A (xs : List Int) : Ann := .two (.none) (.two (.none) (.two (.two (.none) (.loop (cut1 (fun (i : Int) => cmp_Or_int__JJ0 xs i) (fun (i : Int) => [(3, .d true (.int .i64 0)), (6, .d false (.sl (.ints xs))), (7, .d true (.int .i64 (xs.length : Int))), (8, .d true (.int .i64 i))]) (fun (i : Int) => [])) (fun g => cmp_Or_int__mJ0 xs g) (fun _ => .none))) (.none)))
def cmp_Or_int__P (xs : List Int) : Prop :=
  ((∃ i' : Int, (cmp_Or_int__JJ0 xs i') ∧ ((0 : Int) = 0) ∧ (xs = xs) ∧ ((xs.length : Int) = (xs.length : Int)) ∧ ((0 : Int) = i')) ∧ (∀ i : Int, (cmp_Or_int__JJ0 xs i) → (((decide (i < (xs.length : Int))) = true → ((0 : Int) ≤ i) ∧ ((i : Int) < xs.length) ∧ (i.toNat < xs.length) ∧ ((((xs.getD i.toNat 0) != 0) = true → (((xs.getD i.toNat 0) = (orI xs)))) ∧ (((xs.getD i.toNat 0) != 0) = false → (-9223372036854775808 ≤ (i + 1) ∧ (i + 1) ≤ 9223372036854775807) ∧ (∃ i' : Int, (cmp_Or_int__JJ0 xs i') ∧ (cmp_Or_int__mJ0 xs i' < cmp_Or_int__mJ0 xs i) ∧ ((0 : Int) = 0) ∧ (xs = xs) ∧ ((xs.length : Int) = (xs.length : Int)) ∧ ((i + 1) = i'))))) ∧ ((decide (i < (xs.length : Int))) = false → (((0 : Int) = (orI xs)))))))
theorem cmp_Or_int__vc (xs : List Int)  (w_xs : (xs.length : Int) ≤ 9223372036854775807) : cmp_Or_int__P xs := by
  unfold cmp_Or_int__P
  refine ⟨?_, ?_⟩
  · refine ⟨0, ?_⟩
    refine ⟨?_, rfl, rfl, rfl, rfl⟩
    · refine ⟨?_, ?_, ?_⟩
      · first | omega | rfl | (intro hg; simp only [nrmT] at hg; omega) | (intro g1 g2; simp [g1, g2]; done) | (intro g1; simp at g1 ⊢; simp [g1]; done) | (simp only [nrmT] at *; omega) | (simp at * <;> omega) | (simp_all <;> omega) | (simp_all; done)
      · first | omega | rfl | (intro hg; simp only [nrmT] at hg; omega) | (intro g1 g2; simp [g1, g2]; done) | (intro g1; simp at g1 ⊢; simp [g1]; done) | (simp only [nrmT] at *; omega) | (simp at * <;> omega) | (simp_all <;> omega) | (simp_all; done)
      · rfl
  · intro i hJ
    obtain ⟨h1, h2, h3⟩ := hJ
    refine ⟨?_, ?_⟩
    · intro b1
      try simp only [nrmT] at b1
      refine ⟨?_, ?_, ?_, ?_, ?_⟩
      · first | omega | rfl | (intro hg; simp only [nrmT] at hg; omega) | (intro g1 g2; simp [g1, g2]; done) | (intro g1; simp at g1 ⊢; simp [g1]; done) | (simp only [nrmT] at *; omega) | (simp at * <;> omega) | (simp_all <;> omega) | (simp_all; done)
      · first | omega | rfl | (intro hg; simp only [nrmT] at hg; omega) | (intro g1 g2; simp [g1, g2]; done) | (intro g1; simp at g1 ⊢; simp [g1]; done) | (simp only [nrmT] at *; omega) | (simp at * <;> omega) | (simp_all <;> omega) | (simp_all; done)
      · first | omega | rfl | (intro hg; simp only [nrmT] at hg; omega) | (intro g1 g2; simp [g1, g2]; done) | (intro g1; simp at g1 ⊢; simp [g1]; done) | (simp only [nrmT] at *; omega) | (simp at * <;> omega) | (simp_all <;> omega) | (simp_all; done)
      · intro b2
        try simp only [nrmT] at b2
        rw [orI_drop h3 (by omega), if_neg (by omega)]
      · intro b3
        try simp only [nrmT] at b3
        refine ⟨?_, ?_⟩
        · first | omega | rfl | (intro hg; simp only [nrmT] at hg; omega) | (intro g1 g2; simp [g1, g2]; done) | (intro g1; simp at g1 ⊢; simp [g1]; done) | (simp only [nrmT] at *; omega) | (simp at * <;> omega) | (simp_all <;> omega) | (simp_all; done)
        · refine ⟨(i + 1), ?_⟩
          refine ⟨?_, ?_, rfl, rfl, rfl, rfl⟩
          · refine ⟨?_, ?_, ?_⟩
            · first | omega | rfl | (intro hg; simp only [nrmT] at hg; omega) | (intro g1 g2; simp [g1, g2]; done) | (intro g1; simp at g1 ⊢; simp [g1]; done) | (simp only [nrmT] at *; omega) | (simp at * <;> omega) | (simp_all <;> omega) | (simp_all; done)
            · first | omega | rfl | (intro hg; simp only [nrmT] at hg; omega) | (intro g1 g2; simp [g1, g2]; done) | (intro g1; simp at g1 ⊢; simp [g1]; done) | (simp only [nrmT] at *; omega) | (simp at * <;> omega) | (simp_all <;> omega) | (simp_all; done)
            · rw [orI_drop h3 (by omega), if_pos (by omega), show (i + 1).toNat = i.toNat + 1 by omega]
          · first | (show _ < _; omega) | (simp only [cmp_Or_int__mJ0]; omega) | (simp only [cmp_Or_int__mJ0] at *; simp at *; omega)
    · intro b4
      try simp only [nrmT] at b4
      exact (orI_end h3 (by omega)).symm
theorem cmp_Or_int__pc (xs : List Int)  : PC Try.prog 193 [.sl (.ints xs)] (.one (.d (.int .i64 (orI xs)))) :=
  pc_wf @Try.call193 fun hw => pc_by (by kernel_rfl) Try.func193 @Try.call193 (by kernel_rfl) cmp_Or_int__C (cmp_Or_int__A xs) (by kernel_rfl) (cmp_Or_int__vc xs hw.1) (by kernel_rfl)
def cmp_Or_int__orc : List D → Orc := orcN [some .ints] fun ds => match ds with
  | [.sl (.ints xs)] => some (.one (.d (.int .i64 (orI xs))))
  | _ => none
def i_compareSets_C (f : FuncId) (ds : List D) : Orc := bif Nat.beq f 175 then cmp_Compare_int__orc ds else bif Nat.beq f 170 then slices_Compare_int_int__orc ds else bif Nat.beq f 193 then cmp_Or_int__orc ds else .no
def i_compareSets_A (xs : List Int) (ys : List Int) : Ann := .none
def i_compareSets_P (xs : List Int) (ys : List Int) : Prop :=
  (PC Try.prog 175 [.int .i64 (xs.length : Int), .int .i64 (ys.length : Int)] (.one (.d (.int .i64 (cmpI (xs.length : Int) (ys.length : Int)))))) ∧ (PC Try.prog 170 [.sl (.ints xs), .sl (.ints ys)] (.one (.d (.int .i64 (cmpL xs ys))))) ∧ ((2 : Nat) = 2) ∧ (PC Try.prog 193 [.sl (.ints ([(cmpI (xs.length : Int) (ys.length : Int)), (cmpL xs ys)]))] (.one (.d (.int .i64 (orI ([(cmpI (xs.length : Int) (ys.length : Int)), (cmpL xs ys)])))))) ∧ (((orI ([(cmpI (xs.length : Int) (ys.length : Int)), (cmpL xs ys)])) = (cmpS xs ys)))
theorem i_compareSets_vc (xs : List Int) (ys : List Int)  (w_xs : (xs.length : Int) ≤ 9223372036854775807) (w_ys : (ys.length : Int) ≤ 9223372036854775807) : i_compareSets_P xs ys := by
  unfold i_compareSets_P
  refine ⟨cmp_Compare_int__pc (xs.length : Int) (ys.length : Int), slices_Compare_int_int__pc xs ys, rfl, cmp_Or_int__pc ([(cmpI (xs.length : Int) (ys.length : Int)), (cmpL xs ys)]), ?_⟩
  · rw [orI_two]; rfl
theorem i_compareSets_pc (xs : List Int) (ys : List Int)  : PC Try.prog 161 [.sl (.ints xs), .sl (.ints ys)] (.one (.d (.int .i64 (cmpS xs ys)))) :=
  pc_wf @Try.call161 fun hw => pc_by (by kernel_rfl) Try.func161 @Try.call161 (by kernel_rfl) i_compareSets_C (i_compareSets_A xs ys) (by kernel_rfl) (i_compareSets_vc xs ys hw.1 hw.2.1) (by kernel_rfl)
abbrev s_l2Before_JJ0 (xs : List Int) (ys : List Int) (i : Int) : Prop := (0 ≤ i) ∧ (i ≤ (xs.length : Int)) ∧ (xs.length = ys.length) ∧ (cmpL xs ys = cmpL (xs.drop i.toNat) (ys.drop i.toNat))
abbrev s_l2Before_mJ0 (xs : List Int) (ys : List Int) (i : Int) : Nat := (xs.length - i).toNat
def s_l2Before_C (f : FuncId) (ds : List D) : Orc := .no
def s_l2Before_A (xs : List Int) (ys : List Int) : Ann := .two (.none) (.two (.none) (.two (.two (.none) (.loop (cut1 (fun (i : Int) => s_l2Before_JJ0 xs ys i) (fun (i : Int) => [(0, .d false (.sl (.ints xs))), (1, .d false (.sl (.ints ys))), (5, .d true (.int .i64 i))]) (fun (i : Int) => [])) (fun g => s_l2Before_mJ0 xs ys g) (fun _ => .none))) (.none)))
def s_l2Before_P (xs : List Int) (ys : List Int) : Prop :=
  ((((xs.length : Int) != (ys.length : Int)) = true → (((decide ((xs.length : Int) < (ys.length : Int))) = (decide (cmpS xs ys < 0))))) ∧ (((xs.length : Int) != (ys.length : Int)) = false → ((∃ i' : Int, (s_l2Before_JJ0 xs ys i') ∧ (xs = xs) ∧ (ys = ys) ∧ ((0 : Int) = i')) ∧ (∀ i : Int, (s_l2Before_JJ0 xs ys i) → (((decide (i < (xs.length : Int))) = true → (true = true) ∧ ((0 : Int) ≤ i) ∧ ((i : Int) < xs.length) ∧ (i.toNat < xs.length) ∧ ((0 : Int) ≤ i) ∧ ((i : Int) < ys.length) ∧ (i.toNat < ys.length) ∧ ((((xs.getD i.toNat 0) != (ys.getD i.toNat 0)) = true → (true = true) ∧ ((0 : Int) ≤ i) ∧ ((i : Int) < xs.length) ∧ (i.toNat < xs.length) ∧ ((0 : Int) ≤ i) ∧ ((i : Int) < ys.length) ∧ (i.toNat < ys.length) ∧ (((decide ((xs.getD i.toNat 0) < (ys.getD i.toNat 0))) = (decide (cmpS xs ys < 0))))) ∧ (((xs.getD i.toNat 0) != (ys.getD i.toNat 0)) = false → (-9223372036854775808 ≤ (i + 1) ∧ (i + 1) ≤ 9223372036854775807) ∧ (∃ i' : Int, (s_l2Before_JJ0 xs ys i') ∧ (s_l2Before_mJ0 xs ys i' < s_l2Before_mJ0 xs ys i) ∧ (xs = xs) ∧ (ys = ys) ∧ ((i + 1) = i'))))) ∧ ((decide (i < (xs.length : Int))) = false → ((false = (decide (cmpS xs ys < 0))))))))))
theorem s_l2Before_vc (xs : List Int) (ys : List Int)  (w_xs : (xs.length : Int) ≤ 9223372036854775807) (w_ys : (ys.length : Int) ≤ 9223372036854775807) : s_l2Before_P xs ys := by
  unfold s_l2Before_P
  refine ⟨?_, ?_⟩
  · intro b1
    try simp only [nrmT] at b1
    rcases cmpS_cases xs ys with h | h | h
    · rw [decide_eq_true h.2, decide_eq_true (by omega)]
    · rw [decide_eq_false (by omega), decide_eq_false (by omega)]
    · omega
  · intro b2
    try simp only [nrmT] at b2
    refine ⟨?_, ?_⟩
    · refine ⟨0, ?_⟩
      refine ⟨?_, rfl, rfl, rfl⟩
      · refine ⟨?_, ?_, ?_, ?_⟩
        · first | omega | rfl | (intro hg; simp only [nrmT] at hg; omega) | (intro g1 g2; simp [g1, g2]; done) | (intro g1; simp at g1 ⊢; simp [g1]; done) | (simp only [nrmT] at *; omega) | (simp at * <;> omega) | (simp_all <;> omega) | (simp_all; done)
        · first | omega | rfl | (intro hg; simp only [nrmT] at hg; omega) | (intro g1 g2; simp [g1, g2]; done) | (intro g1; simp at g1 ⊢; simp [g1]; done) | (simp only [nrmT] at *; omega) | (simp at * <;> omega) | (simp_all <;> omega) | (simp_all; done)
        · omega
        · rfl
    · intro i hJ
      obtain ⟨h1, h2, hl, h3⟩ := hJ
      refine ⟨?_, ?_⟩
      · intro b3
        try simp only [nrmT] at b3
        refine ⟨rfl, ?_, ?_, ?_, ?_, ?_, ?_, ?_, ?_⟩
        · first | omega | rfl | (intro hg; simp only [nrmT] at hg; omega) | (intro g1 g2; simp [g1, g2]; done) | (intro g1; simp at g1 ⊢; simp [g1]; done) | (simp only [nrmT] at *; omega) | (simp at * <;> omega) | (simp_all <;> omega) | (simp_all; done)
        · first | omega | rfl | (intro hg; simp only [nrmT] at hg; omega) | (intro g1 g2; simp [g1, g2]; done) | (intro g1; simp at g1 ⊢; simp [g1]; done) | (simp only [nrmT] at *; omega) | (simp at * <;> omega) | (simp_all <;> omega) | (simp_all; done)
        · first | omega | rfl | (intro hg; simp only [nrmT] at hg; omega) | (intro g1 g2; simp [g1, g2]; done) | (intro g1; simp at g1 ⊢; simp [g1]; done) | (simp only [nrmT] at *; omega) | (simp at * <;> omega) | (simp_all <;> omega) | (simp_all; done)
        · first | omega | rfl | (intro hg; simp only [nrmT] at hg; omega) | (intro g1 g2; simp [g1, g2]; done) | (intro g1; simp at g1 ⊢; simp [g1]; done) | (simp only [nrmT] at *; omega) | (simp at * <;> omega) | (simp_all <;> omega) | (simp_all; done)
        · first | omega | rfl | (intro hg; simp only [nrmT] at hg; omega) | (intro g1 g2; simp [g1, g2]; done) | (intro g1; simp at g1 ⊢; simp [g1]; done) | (simp only [nrmT] at *; omega) | (simp at * <;> omega) | (simp_all <;> omega) | (simp_all; done)
        · first | omega | rfl | (intro hg; simp only [nrmT] at hg; omega) | (intro g1 g2; simp [g1, g2]; done) | (intro g1; simp at g1 ⊢; simp [g1]; done) | (simp only [nrmT] at *; omega) | (simp at * <;> omega) | (simp_all <;> omega) | (simp_all; done)
        · intro b4
          try simp only [nrmT] at b4
          refine ⟨rfl, ?_, ?_, ?_, ?_, ?_, ?_, ?_⟩
          · first | omega | rfl | (intro hg; simp only [nrmT] at hg; omega) | (intro g1 g2; simp [g1, g2]; done) | (intro g1; simp at g1 ⊢; simp [g1]; done) | (simp only [nrmT] at *; omega) | (simp at * <;> omega) | (simp_all <;> omega) | (simp_all; done)
          · first | omega | rfl | (intro hg; simp only [nrmT] at hg; omega) | (intro g1 g2; simp [g1, g2]; done) | (intro g1; simp at g1 ⊢; simp [g1]; done) | (simp only [nrmT] at *; omega) | (simp at * <;> omega) | (simp_all <;> omega) | (simp_all; done)
          · first | omega | rfl | (intro hg; simp only [nrmT] at hg; omega) | (intro g1 g2; simp [g1, g2]; done) | (intro g1; simp at g1 ⊢; simp [g1]; done) | (simp only [nrmT] at *; omega) | (simp at * <;> omega) | (simp_all <;> omega) | (simp_all; done)
          · first | omega | rfl | (intro hg; simp only [nrmT] at hg; omega) | (intro g1 g2; simp [g1, g2]; done) | (intro g1; simp at g1 ⊢; simp [g1]; done) | (simp only [nrmT] at *; omega) | (simp at * <;> omega) | (simp_all <;> omega) | (simp_all; done)
          · first | omega | rfl | (intro hg; simp only [nrmT] at hg; omega) | (intro g1 g2; simp [g1, g2]; done) | (intro g1; simp at g1 ⊢; simp [g1]; done) | (simp only [nrmT] at *; omega) | (simp at * <;> omega) | (simp_all <;> omega) | (simp_all; done)
          · first | omega | rfl | (intro hg; simp only [nrmT] at hg; omega) | (intro g1 g2; simp [g1, g2]; done) | (intro g1; simp at g1 ⊢; simp [g1]; done) | (simp only [nrmT] at *; omega) | (simp at * <;> omega) | (simp_all <;> omega) | (simp_all; done)
          · have h5 : cmpS xs ys = cmpL xs ys := by rcases cmpS_cases xs ys with h | h | h <;> first | omega | exact h.2
            rw [h5, cmpL_drop h3 (by omega) (by omega)]
            by_cases h6 : xs.getD i.toNat 0 < ys.getD i.toNat 0
            · rw [if_pos h6, decide_eq_true h6]; rfl
            · rw [if_neg h6, if_pos (by omega), decide_eq_false h6]; rfl
        · intro b5
          try simp only [nrmT] at b5
          refine ⟨?_, ?_⟩
          · first | omega | rfl | (intro hg; simp only [nrmT] at hg; omega) | (intro g1 g2; simp [g1, g2]; done) | (intro g1; simp at g1 ⊢; simp [g1]; done) | (simp only [nrmT] at *; omega) | (simp at * <;> omega) | (simp_all <;> omega) | (simp_all; done)
          · refine ⟨(i + 1), ?_⟩
            refine ⟨?_, ?_, rfl, rfl, rfl⟩
            · refine ⟨?_, ?_, ?_, ?_⟩
              · first | omega | rfl | (intro hg; simp only [nrmT] at hg; omega) | (intro g1 g2; simp [g1, g2]; done) | (intro g1; simp at g1 ⊢; simp [g1]; done) | (simp only [nrmT] at *; omega) | (simp at * <;> omega) | (simp_all <;> omega) | (simp_all; done)
              · first | omega | rfl | (intro hg; simp only [nrmT] at hg; omega) | (intro g1 g2; simp [g1, g2]; done) | (intro g1; simp at g1 ⊢; simp [g1]; done) | (simp only [nrmT] at *; omega) | (simp at * <;> omega) | (simp_all <;> omega) | (simp_all; done)
              · exact hl
              · rw [cmpL_drop h3 (by omega) (by omega), show (i + 1).toNat = i.toNat + 1 by omega, if_neg (by omega), if_neg (by omega)]
            · first | (show _ < _; omega) | (simp only [s_l2Before_mJ0]; omega) | (simp only [s_l2Before_mJ0] at *; simp at *; omega)
      · intro b6
        try simp only [nrmT] at b6
        have h5 : cmpS xs ys = cmpL xs ys := by rcases cmpS_cases xs ys with h | h | h <;> first | omega | exact h.2
        rw [h5, cmpL_end h3 (by omega) (by omega) (by omega), if_neg (by omega)]; rfl
theorem s_l2Before_pc (xs : List Int) (ys : List Int)  : PC Try.prog 157 [.sl (.ints xs), .sl (.ints ys)] (.one (.d (.bool (decide (cmpS xs ys < 0))))) :=
  pc_wf @Try.call157 fun hw => pc_by (by kernel_rfl) Try.func157 @Try.call157 (by kernel_rfl) s_l2Before_C (s_l2Before_A xs ys) (by kernel_rfl) (s_l2Before_vc xs ys hw.1 hw.2.1) (by kernel_rfl)
def s_l2Before_orc : List D → Orc := orcN [some .ints, some .ints] fun ds => match ds with
  | [.sl (.ints xs), .sl (.ints ys)] => some (.one (.d (.bool (decide (cmpS xs ys < 0)))))
  | _ => none
theorem slices_SortFunc_int_int_rows_pu (xss : List (List Int)) (hz : xss.length < 4611686018427387904) : PU Try.prog 160 22 (.rows xss) (.rows (xss.mergeSort (fun x9 y9 => !(ltOf cmpS) y9 x9))) [.fn 161 0 []] false :=
  pu_sortFunc Try.laySortRows 22 xss (fun x => .sl (.ints x)) cmpS swoS totS 161 (fun x _ y _ => i_compareSets_pc x y) _ _ rfl rfl rfl (List.length_mergeSort _) (fun _ => rfl) (fun i x h => by simp [Mem.get, h]) (fun i x h => by simp [Mem.get, h]) hz @Try.call161
abbrev i_bag_list_d_JJ0 (b : Int) (out : List Int) (x : Int) : Prop := (0 ≤ x) ∧ (x ≤ 62) ∧ (out = members (fun k => b.toNat.testBit k) x.toNat)
abbrev i_bag_list_d_mJ0 (b : Int) (out : List Int) (x : Int) : Nat := (62 - x).toNat
def i_bag_list_d_C (f : FuncId) (ds : List D) : Orc := bif Nat.beq f 191 then i_bag_has_orc ds else .no
def i_bag_list_d_A (b : Int) : Ann := .two (.none) (.two (.none) (.two (.two (.none) (.loop (cut2 (fun (out : List Int) (x : Int) => i_bag_list_d_JJ0 b out x) (fun (out : List Int) (x : Int) => [(0, .d false (.int .u64 b)), (3, .own 1000000 out.length), (4, .d true (.int .i64 x))]) (fun (out : List Int) (x : Int) => [(1000000, .arr true 3 (.ints out))])) (fun g => i_bag_list_d_mJ0 b g.1 g.2) (fun _ => .none))) (.none)))
def i_bag_list_d_P (b : Int) : Prop :=
  ((∃ out' : List Int, ∃ x' : Int, (i_bag_list_d_JJ0 b out' x') ∧ (b = b) ∧ ((0 : Nat) = out'.length) ∧ ((0 : Int) = x') ∧ ([] = out')) ∧ (∀ out : List Int, ∀ x : Int, (i_bag_list_d_JJ0 b out x) → ((0 : Int) ≤ b ∧ (b : Int) ≤ 18446744073709551615) ∧ ((0 : Int) ≤ x) ∧ (((decide ((b / 2 ^ x.toNat) > 0)) = true → (PC Try.prog 191 [.int .u64 b, .int .i64 x] (.one (.d (.bool (b.toNat.testBit x.toNat))))) ∧ (((b.toNat.testBit x.toNat) = true → (out.length = out.length) ∧ ((1 : Nat) = 1) ∧ ((out.length + 1) * 8 ≤ 140737488355328) ∧ (-9223372036854775808 ≤ (x + 1) ∧ (x + 1) ≤ 9223372036854775807) ∧ (∃ out' : List Int, ∃ x' : Int, (i_bag_list_d_JJ0 b out' x') ∧ (i_bag_list_d_mJ0 b out' x' < i_bag_list_d_mJ0 b out x) ∧ (b = b) ∧ ((out.length + 1) = out'.length) ∧ ((x + 1) = x') ∧ ((out ++ [x]) = out'))) ∧ ((b.toNat.testBit x.toNat) = false → (-9223372036854775808 ≤ (x + 1) ∧ (x + 1) ≤ 9223372036854775807) ∧ (∃ out' : List Int, ∃ x' : Int, (i_bag_list_d_JJ0 b out' x') ∧ (i_bag_list_d_mJ0 b out' x' < i_bag_list_d_mJ0 b out x) ∧ (b = b) ∧ (out.length = out'.length) ∧ ((x + 1) = x') ∧ (out = out'))))) ∧ ((decide ((b / 2 ^ x.toNat) > 0)) = false → ((out.length = out.length) ∧ ((out : List Int) = (members (fun k => b.toNat.testBit k) 62)))))))
theorem i_bag_list_d_vc (b : Int) (hb : 0 ≤ b ∧ b ≤ 4611686018427387903)  : i_bag_list_d_P b := by
  unfold i_bag_list_d_P
  refine ⟨?_, ?_⟩
  · refine ⟨([]), 0, ?_⟩
    refine ⟨?_, rfl, rfl, rfl, ?_⟩
    · refine ⟨?_, ?_, ?_⟩
      · first | omega | rfl | (intro hg; simp only [nrmT] at hg; omega) | (intro g1 g2; simp [g1, g2]; done) | (intro g1; simp at g1 ⊢; simp [g1]; done) | (simp only [nrmT] at *; omega) | (simp at * <;> omega) | (simp_all <;> omega) | (simp_all; done)
      · first | omega | rfl | (intro hg; simp only [nrmT] at hg; omega) | (intro g1 g2; simp [g1, g2]; done) | (intro g1; simp at g1 ⊢; simp [g1]; done) | (simp only [nrmT] at *; omega) | (simp at * <;> omega) | (simp_all <;> omega) | (simp_all; done)
      · first | omega | rfl | (intro hg; simp only [nrmT] at hg; omega) | (intro g1 g2; simp [g1, g2]; done) | (intro g1; simp at g1 ⊢; simp [g1]; done) | (simp only [nrmT] at *; omega) | (simp at * <;> omega) | (simp_all <;> omega) | (simp_all; done)
    · first | omega | rfl | (intro hg; simp only [nrmT] at hg; omega) | (intro g1 g2; simp [g1, g2]; done) | (intro g1; simp at g1 ⊢; simp [g1]; done) | (simp only [nrmT] at *; omega) | (simp at * <;> omega) | (simp_all <;> omega) | (simp_all; done)
  · intro out x hJ
    obtain ⟨h1, h2, h3⟩ := hJ
    refine ⟨?_, ?_, ?_, ?_⟩
    · first | omega | rfl | (intro hg; simp only [nrmT] at hg; omega) | (intro g1 g2; simp [g1, g2]; done) | (intro g1; simp at g1 ⊢; simp [g1]; done) | (simp only [nrmT] at *; omega) | (simp at * <;> omega) | (simp_all <;> omega) | (simp_all; done)
    · first | omega | rfl | (intro hg; simp only [nrmT] at hg; omega) | (intro g1 g2; simp [g1, g2]; done) | (intro g1; simp at g1 ⊢; simp [g1]; done) | (simp only [nrmT] at *; omega) | (simp at * <;> omega) | (simp_all <;> omega) | (simp_all; done)
    · intro b1
      try simp only [nrmT] at b1
      refine ⟨?_, ?_, ?_⟩
      · refine i_bag_has_pc b x ?_ ?_
        · first | omega | rfl | (intro hg; simp only [nrmT] at hg; omega) | (intro g1 g2; simp [g1, g2]; done) | (intro g1; simp at g1 ⊢; simp [g1]; done) | (simp only [nrmT] at *; omega) | (simp at * <;> omega) | (simp_all <;> omega) | (simp_all; done)
        · first | omega | rfl | (intro hg; simp only [nrmT] at hg; omega) | (intro g1 g2; simp [g1, g2]; done) | (intro g1; simp at g1 ⊢; simp [g1]; done) | (simp only [nrmT] at *; omega) | (simp at * <;> omega) | (simp_all <;> omega) | (simp_all; done)
      · intro b2
        try simp only [nrmT] at b2
        refine ⟨rfl, rfl, ?_, ?_, ?_⟩
        · rw [h3]; have := members_len_le (fun k => b.toNat.testBit k) x.toNat; omega
        · first | omega | rfl | (intro hg; simp only [nrmT] at hg; omega) | (intro g1 g2; simp [g1, g2]; done) | (intro g1; simp at g1 ⊢; simp [g1]; done) | (simp only [nrmT] at *; omega) | (simp at * <;> omega) | (simp_all <;> omega) | (simp_all; done)
        · refine ⟨(out ++ [x]), (x + 1), ?_⟩
          refine ⟨?_, ?_, rfl, ?_, rfl, rfl⟩
          · refine ⟨?_, ?_, ?_⟩
            · first | omega | rfl | (intro hg; simp only [nrmT] at hg; omega) | (intro g1 g2; simp [g1, g2]; done) | (intro g1; simp at g1 ⊢; simp [g1]; done) | (simp only [nrmT] at *; omega) | (simp at * <;> omega) | (simp_all <;> omega) | (simp_all; done)
            · have := lt62 hb h2 b1; omega
            · rw [h3, show (x + 1).toNat = x.toNat + 1 by omega, members_succ, b2]; simp; try omega
          · have := lt62 hb h2 b1
            first | (show _ < _; omega) | (simp only [i_bag_list_d_mJ0]; omega) | (simp only [i_bag_list_d_mJ0] at *; simp at *; omega)
          · first | omega | rfl | (intro hg; simp only [nrmT] at hg; omega) | (intro g1 g2; simp [g1, g2]; done) | (intro g1; simp at g1 ⊢; simp [g1]; done) | (simp only [nrmT] at *; omega) | (simp at * <;> omega) | (simp_all <;> omega) | (simp_all; done)
      · intro b3
        try simp only [nrmT] at b3
        refine ⟨?_, ?_⟩
        · first | omega | rfl | (intro hg; simp only [nrmT] at hg; omega) | (intro g1 g2; simp [g1, g2]; done) | (intro g1; simp at g1 ⊢; simp [g1]; done) | (simp only [nrmT] at *; omega) | (simp at * <;> omega) | (simp_all <;> omega) | (simp_all; done)
        · refine ⟨out, (x + 1), ?_⟩
          refine ⟨?_, ?_, rfl, rfl, rfl, rfl⟩
          · refine ⟨?_, ?_, ?_⟩
            · first | omega | rfl | (intro hg; simp only [nrmT] at hg; omega) | (intro g1 g2; simp [g1, g2]; done) | (intro g1; simp at g1 ⊢; simp [g1]; done) | (simp only [nrmT] at *; omega) | (simp at * <;> omega) | (simp_all <;> omega) | (simp_all; done)
            · have := lt62 hb h2 b1; omega
            · rw [h3, show (x + 1).toNat = x.toNat + 1 by omega, members_succ, b3]; simp; try omega
          · have := lt62 hb h2 b1
            first | (show _ < _; omega) | (simp only [i_bag_list_d_mJ0]; omega) | (simp only [i_bag_list_d_mJ0] at *; simp at *; omega)
    · intro b4
      try simp only [nrmT] at b4
      refine ⟨rfl, ?_⟩
      · rw [h3]; refine (members_stop (fun k hk => bit_out hb.1 (m := x.toNat) (by omega) k hk) 62 (by omega)).symm
theorem i_bag_list_d_pc (b : Int) (hb : 0 ≤ b ∧ b ≤ 4611686018427387903) : PC Try.prog 159 [.int .u64 b] (.one (.d (.sl (.ints (members (fun k => b.toNat.testBit k) 62))))) :=
  pc_wf @Try.call159 fun _ => pc_by (by kernel_rfl) Try.func159 @Try.call159 (by kernel_rfl) i_bag_list_d_C (i_bag_list_d_A b) (by kernel_rfl) (i_bag_list_d_vc b hb) (by kernel_rfl)
abbrev i_sets_JJ0 (n : Int) (out : List (List Int)) (b : Int) : Prop := (1 ≤ b) ∧ (b ≤ ((2 ^ n.toNat : Nat) : Int)) ∧ (out = preS n.toNat (b.toNat - 1))
abbrev i_sets_mJ0 (n : Int) (out : List (List Int)) (b : Int) : Nat := (((2 ^ n.toNat : Nat) : Int) - b).toNat
abbrev i_sets_JA0 (n : Int) (out2 : List (List Int)) : Prop := (out2 = preS n.toNat (2 ^ n.toNat - 1))
def i_sets_C (f : FuncId) (ds : List D) : Orc := .no
def i_sets_A (n : Int) : Ann := .two (.none) (.two (.none) (.cut (.two (.none) (.loop (cut2 (fun (out : List (List Int)) (b : Int) => i_sets_JJ0 n out b) (fun (out : List (List Int)) (b : Int) => [(0, .d false (.int .i64 n)), (3, .own 1000000 out.length), (4, .d true (.int .u64 b))]) (fun (out : List (List Int)) (b : Int) => [(1000000, .arr true 22 (.rows out))])) (fun g => i_sets_mJ0 n g.1 g.2) (fun g => (fun (out : List (List Int)) (b : Int) => .two (.none) (.two (.reg [(2, .call none (.one (.d (.sl (.ints (members (fun k => b.toNat.testBit k) 62))))))]) (.none))) (g.1) (g.2)))) (cut1 (fun (out2 : List (List Int)) => i_sets_JA0 n out2) (fun (out2 : List (List Int)) => [(3, .own 1000050 out2.length)]) (fun (out2 : List (List Int)) => [(1000050, .arr true 22 (.rows out2))])) (fun g => (fun (out2 : List (List Int)) => .two (.mark [] 1 (.up (.rows (out2.mergeSort (fun x9 y9 => !(ltOf cmpS) y9 x9))) false)) (.none)) g)))
def i_sets_P (n : Int) : Prop :=
  ((((∃ out' : List (List Int), ∃ b' : Int, (i_sets_JJ0 n out' b') ∧ (n = n) ∧ ((0 : Nat) = out'.length) ∧ ((1 : Int) = b') ∧ ([] = out')) ∧ (∀ out : List (List Int), ∀ b : Int, (i_sets_JJ0 n out b) → ((0 : Int) ≤ 1) ∧ ((0 : Int) ≤ n) ∧ ((0 : Int) ≤ ((1 : Int) * 2 ^ n.toNat) ∧ (((1 : Int) * 2 ^ n.toNat) : Int) ≤ 18446744073709551615) ∧ (((decide (b < ((1 : Int) * 2 ^ n.toNat))) = true → (PC Try.prog 159 [.int .u64 b] (.one (.d (.sl (.ints (members (fun k => b.toNat.testBit k) 62)))))) ∧ (out.length = out.length) ∧ ((1 : Nat) = 1) ∧ ((out.length + 1) * 24 ≤ 140737488355328) ∧ (0 ≤ (b + 1) ∧ (b + 1) ≤ 18446744073709551615) ∧ (∃ out' : List (List Int), ∃ b' : Int, (i_sets_JJ0 n out' b') ∧ (i_sets_mJ0 n out' b' < i_sets_mJ0 n out b) ∧ (n = n) ∧ ((out.length + 1) = out'.length) ∧ ((b + 1) = b') ∧ ((out ++ [(members (fun k => b.toNat.testBit k) 62)]) = out'))) ∧ ((decide (b < ((1 : Int) * 2 ^ n.toNat))) = false → (∃ out2' : List (List Int), (i_sets_JA0 n out2') ∧ (out.length = out2'.length) ∧ (out = out2'))))))) ∧ (∀ out2 : List (List Int), (i_sets_JA0 n out2) → (out2.length = out2.length) ∧ (PU Try.prog 160 22 (.rows out2) (.rows (out2.mergeSort (fun x9 y9 => !(ltOf cmpS) y9 x9))) [.fn 161 0 []] false) ∧ ((out2.length = (out2.mergeSort (fun x9 y9 => !(ltOf cmpS) y9 x9)).length) ∧ (((out2.mergeSort (fun x9 y9 => !(ltOf cmpS) y9 x9)) : List (List Int)) = setsL n.toNat))))
theorem i_sets_vc (n : Int) (hn : 0 ≤ n ∧ n ≤ 8)  : i_sets_P n := by
  unfold i_sets_P
  have p7 := pow8 (n := n.toNat) (by omega)
  have pp := Nat.two_pow_pos n.toNat
  have e0 := one_shl n.toNat
  have e1 : ((2 : Int) ^ n.toNat) = ((2 ^ n.toNat : Nat) : Int) := by simp
  refine ⟨?_, ?_⟩
  · refine ⟨?_, ?_⟩
    · refine ⟨([]), 1, ?_⟩
      refine ⟨?_, rfl, rfl, rfl, ?_⟩
      · refine ⟨?_, ?_, ?_⟩
        · first | omega | rfl | (intro hg; simp only [nrmT] at hg; omega) | (intro g1 g2; simp [g1, g2]; done) | (intro g1; simp at g1 ⊢; simp [g1]; done) | (simp only [nrmT] at *; omega) | (simp at * <;> omega) | (simp_all <;> omega) | (simp_all; done)
        · generalize 2 ^ n.toNat = M at *
          omega
        · rfl
      · first | omega | rfl | (intro hg; simp only [nrmT] at hg; omega) | (intro g1 g2; simp [g1, g2]; done) | (intro g1; simp at g1 ⊢; simp [g1]; done) | (simp only [nrmT] at *; omega) | (simp at * <;> omega) | (simp_all <;> omega) | (simp_all; done)
    · intro out b hJ
      obtain ⟨h1, h2, h3⟩ := hJ
      refine ⟨?_, ?_, ?_, ?_, ?_⟩
      · first | omega | rfl | (intro hg; simp only [nrmT] at hg; omega) | (intro g1 g2; simp [g1, g2]; done) | (intro g1; simp at g1 ⊢; simp [g1]; done) | (simp only [nrmT] at *; omega) | (simp at * <;> omega) | (simp_all <;> omega) | (simp_all; done)
      · first | omega | rfl | (intro hg; simp only [nrmT] at hg; omega) | (intro g1 g2; simp [g1, g2]; done) | (intro g1; simp at g1 ⊢; simp [g1]; done) | (simp only [nrmT] at *; omega) | (simp at * <;> omega) | (simp_all <;> omega) | (simp_all; done)
      · rw [Int.one_mul, e1]
        generalize 2 ^ n.toNat = M at *
        omega
      · intro b1
        try simp only [nrmT] at b1
        refine ⟨?_, rfl, rfl, ?_, ?_, ?_⟩
        · refine i_bag_list_d_pc b ?_
          · rw [Int.one_mul, e1] at b1
            generalize 2 ^ n.toNat = M at *
            omega
        · rw [Int.one_mul, e1] at b1
          rw [h3, preS_len]
          generalize 2 ^ n.toNat = M at *
          omega
        · rw [Int.one_mul, e1] at b1
          generalize 2 ^ n.toNat = M at *
          omega
        · refine ⟨(out ++ [(members (fun k => b.toNat.testBit k) 62)]), (b + 1), ?_⟩
          refine ⟨?_, ?_, rfl, ?_, rfl, rfl⟩
          · refine ⟨?_, ?_, ?_⟩
            · first | omega | rfl | (intro hg; simp only [nrmT] at hg; omega) | (intro g1 g2; simp [g1, g2]; done) | (intro g1; simp at g1 ⊢; simp [g1]; done) | (simp only [nrmT] at *; omega) | (simp at * <;> omega) | (simp_all <;> omega) | (simp_all; done)
            · rw [Int.one_mul, e1] at b1
              generalize 2 ^ n.toNat = M at *
              omega
            · rw [Int.one_mul, e1] at b1
              have hb : b.toNat < 2 ^ n.toNat := by
                generalize 2 ^ n.toNat = M at *
                omega
              rw [h3, show (b + 1).toNat - 1 = (b.toNat - 1) + 1 by omega, preS_succ, show b.toNat - 1 + 1 = b.toNat by omega, list62 (n := n.toNat) (by omega) hb]
          · rw [Int.one_mul, e1] at b1
            first | (show _ < _; omega) | (simp only [i_sets_mJ0]; omega) | (simp only [i_sets_mJ0] at *; simp at *; omega)
          · first | omega | rfl | (intro hg; simp only [nrmT] at hg; omega) | (intro g1 g2; simp [g1, g2]; done) | (intro g1; simp at g1 ⊢; simp [g1]; done) | (simp only [nrmT] at *; omega) | (simp at * <;> omega) | (simp_all <;> omega) | (simp_all; done)
      · intro b2
        try simp only [nrmT] at b2
        refine ⟨out, ?_⟩
        refine ⟨?_, rfl, rfl⟩
        · unfold i_sets_JA0
          rw [Int.one_mul, e1] at b2
          have hm : b.toNat - 1 = 2 ^ n.toNat - 1 := by
            generalize 2 ^ n.toNat = M at *
            omega
          rw [h3, hm]
  · intro out2 hJ
    have h8 := hJ
    refine ⟨rfl, ?_, ?_, ?_⟩
    · refine slices_SortFunc_int_int_rows_pu out2 ?_
      · rw [h8, preS_len]
        generalize 2 ^ n.toNat = M at *
        omega
    · simp
    · rw [h8]; rfl
theorem i_sets_pc (n : Int) (hn : 0 ≤ n ∧ n ≤ 8) : PC Try.prog 102 [.int .i64 n] (.one (.own 22 (.rows (setsL n.toNat)))) :=
  pc_wf @Try.call102 fun _ => pc_by (by kernel_rfl) Try.func102 @Try.call102 (by kernel_rfl) i_sets_C (i_sets_A n) (by kernel_rfl) (i_sets_vc n hn) (by kernel_rfl)
def i_sets_orc : List D → Orc := orcN [none] fun ds => match ds with
  | [.int .i64 n] => some (.one (.own 22 (.rows (setsL n.toNat))))
  | _ => none
abbrev s_l2Sets_JJ0 (n : Int) (out : List (List Int)) (code : Int) : Prop := (1 ≤ code) ∧ (code ≤ ((2 ^ n.toNat : Nat) : Int)) ∧ (out.Perm (preS n.toNat (code.toNat - 1))) ∧ (out.Pairwise (fun x9 y9 => ltOf cmpS y9 x9 = false))
abbrev s_l2Sets_mJ0 (n : Int) (out : List (List Int)) (code : Int) : Nat := (((2 ^ n.toNat : Nat) : Int) - code).toNat
abbrev s_l2Sets_JJ1 (n : Int) (out : List (List Int)) (code : Int) (k : Int) : Prop := (0 ≤ k) ∧ (k ≤ (out.length : Int)) ∧ (∀ j, k.toNat ≤ j → j < out.length → cmpS (lst n.toNat code.toNat) (out.getD j []) < 0)
abbrev s_l2Sets_mJ1 (n : Int) (out : List (List Int)) (code : Int) (k : Int) : Nat := k.toNat
def s_l2Sets_C (f : FuncId) (ds : List D) : Orc := bif Nat.beq f 156 then s_l2Bits_orc ds else bif Nat.beq f 157 then s_l2Before_orc ds else .no
def s_l2Sets_A (n : Int) : Ann := .two (.none) (.two (.reg [(0, .frz)]) (.two (.two (.none) (.loop (cut2 (fun (out : List (List Int)) (code : Int) => s_l2Sets_JJ0 n out code) (fun (out : List (List Int)) (code : Int) => [(0, .d false (.int .i64 n)), (3, .d true (.sl (.rows out))), (4, .d true (.int .i64 code))]) (fun (out : List (List Int)) (code : Int) => [])) (fun g => s_l2Sets_mJ0 n g.1 g.2) (fun g => (fun (out : List (List Int)) (code : Int) => .two (.none) (.two (.two (.none) (.two (.loop (cut1 (fun (k : Int) => s_l2Sets_JJ1 n out code k) (fun (k : Int) => [(0, .d false (.int .i64 n)), (3, .d true (.sl (.rows out))), (4, .d true (.int .i64 code)), (5, .d true (.sl (.ints (members (fun k => code.toNat.testBit k) n.toNat)))), (6, .d true (.int .i64 k))]) (fun (k : Int) => [])) (fun g => s_l2Sets_mJ1 n out code g) (fun _ => .none)) (.none))) (.none))) (g.1) (g.2)))) (.none)))
def s_l2Sets_P (n : Int) : Prop :=
  ((∃ out' : List (List Int), ∃ code' : Int, (s_l2Sets_JJ0 n out' code') ∧ (n = n) ∧ ([] = out') ∧ ((1 : Int) = code')) ∧ (∀ out : List (List Int), ∀ code : Int, (s_l2Sets_JJ0 n out code) → ((0 : Int) ≤ 1) ∧ ((0 : Int) ≤ n) ∧ ((0 : Int) ≤ ((1 : Int) * 2 ^ n.toNat) ∧ (((1 : Int) * 2 ^ n.toNat) : Int) ≤ 9223372036854775807) ∧ (((decide (code < ((1 : Int) * 2 ^ n.toNat))) = true → (PC Try.prog 156 [.int .i64 n, .int .i64 code] (.one (.d (.sl (.ints (members (fun k => code.toNat.testBit k) n.toNat)))))) ∧ ((∃ k' : Int, (s_l2Sets_JJ1 n out code k') ∧ (n = n) ∧ (out = out) ∧ (code = code) ∧ ((members (fun k => code.toNat.testBit k) n.toNat) = (members (fun k => code.toNat.testBit k) n.toNat)) ∧ ((out.length : Int) = k')) ∧ (∀ k : Int, (s_l2Sets_JJ1 n out code k) → ((decide (k > 0)) = true → (decide (k > 0)) = true) ∧ (((decide (k > 0)) = true → -9223372036854775808 ≤ (k - 1) ∧ (k - 1) ≤ 9223372036854775807)) ∧ ((decide (k > 0)) = true → (decide (k > 0)) = true) ∧ ((decide (k > 0)) = true → (decide (k > 0)) = true) ∧ (((decide (k > 0)) = true → (0 : Int) ≤ (k - 1))) ∧ (((decide (k > 0)) = true → ((k - 1) : Int) < out.length)) ∧ ((decide (k > 0)) = true → (decide (k > 0)) = true) ∧ (((decide (k > 0)) = true → (k - 1).toNat < out.length)) ∧ ((decide (k > 0)) = true → (decide (k > 0)) = true) ∧ ((decide (k > 0)) = true → (decide (k > 0)) = true) ∧ ((decide (k > 0)) = true → PC Try.prog 157 [.sl (.ints (members (fun k => code.toNat.testBit k) n.toNat)), .sl (.ints (out.getD ((k - 1).toNat) []))] (.one (.d (.bool (decide (cmpS (members (fun k => code.toNat.testBit k) n.toNat) (out.getD ((k - 1).toNat) []) < 0)))))) ∧ (true = true) ∧ (((decide (k > 0)) = true → (decide (k > 0)) = true)) ∧ (((decide (k > 0)) = false → true = true)) ∧ (((cond (decide (k > 0)) (decide (cmpS (members (fun k => code.toNat.testBit k) n.toNat) (out.getD ((k - 1).toNat) []) < 0)) false) = true → (-9223372036854775808 ≤ (k - 1) ∧ (k - 1) ≤ 9223372036854775807) ∧ (∃ k' : Int, (s_l2Sets_JJ1 n out code k') ∧ (s_l2Sets_mJ1 n out code k' < s_l2Sets_mJ1 n out code k) ∧ (n = n) ∧ (out = out) ∧ (code = code) ∧ ((members (fun k => code.toNat.testBit k) n.toNat) = (members (fun k => code.toNat.testBit k) n.toNat)) ∧ ((k - 1) = k'))) ∧ ((cond (decide (k > 0)) (decide (cmpS (members (fun k => code.toNat.testBit k) n.toNat) (out.getD ((k - 1).toNat) []) < 0)) false) = false → (true = true) ∧ ((0 : Int) ≤ k) ∧ ((k : Int) ≤ out.length) ∧ ((0 : Nat) = 0) ∧ (True) ∧ ((0 + ((out.take k.toNat).drop 0).length) * 24 ≤ 140737488355328) ∧ ((0 + ((out.take k.toNat).drop 0).length) = ([] ++ ((out.take k.toNat).drop 0)).length) ∧ ((1 : Nat) = 1) ∧ ((([] ++ ((out.take k.toNat).drop 0)).length + 1) * 24 ≤ 140737488355328) ∧ ((0 : Int) ≤ k) ∧ ((k : Int) ≤ out.length) ∧ (((0 + ((out.take k.toNat).drop 0).length) + 1) = (([] ++ ((out.take k.toNat).drop 0)) ++ [(members (fun k => code.toNat.testBit k) n.toNat)]).length) ∧ (True) ∧ (((([] ++ ((out.take k.toNat).drop 0)) ++ [(members (fun k => code.toNat.testBit k) n.toNat)]).length + ((out.take out.length).drop k.toNat).length) * 24 ≤ 140737488355328) ∧ (-9223372036854775808 ≤ (code + 1) ∧ (code + 1) ≤ 9223372036854775807) ∧ (∃ out' : List (List Int), ∃ code' : Int, (s_l2Sets_JJ0 n out' code') ∧ (s_l2Sets_mJ0 n out' code' < s_l2Sets_mJ0 n out code) ∧ (n = n) ∧ ((((0 + ((out.take k.toNat).drop 0).length) + 1) + ((out.take out.length).drop k.toNat).length) = ((([] ++ ((out.take k.toNat).drop 0)) ++ [(members (fun k => code.toNat.testBit k) n.toNat)]) ++ ((out.take out.length).drop k.toNat)).length) ∧ (((([] ++ ((out.take k.toNat).drop 0)) ++ [(members (fun k => code.toNat.testBit k) n.toNat)]) ++ ((out.take out.length).drop k.toNat)) = out') ∧ ((code + 1) = code'))))))) ∧ ((decide (code < ((1 : Int) * 2 ^ n.toNat))) = false → (((out : List (List Int)) = (setsL n.toNat)))))))
theorem s_l2Sets_vc (n : Int) (hn : 0 ≤ n ∧ n ≤ 8)  : s_l2Sets_P n := by
  unfold s_l2Sets_P
  have p7 := pow8 (n := n.toNat) (by omega)
  have pp := Nat.two_pow_pos n.toNat
  have e0 := one_shl n.toNat
  have e1 : ((2 : Int) ^ n.toNat) = ((2 ^ n.toNat : Nat) : Int) := by simp
  refine ⟨?_, ?_⟩
  · refine ⟨([]), 1, ?_⟩
    refine ⟨?_, rfl, ?_, rfl⟩
    · refine ⟨?_, ?_, ?_, ?_⟩
      · first | omega | rfl | (intro hg; simp only [nrmT] at hg; omega) | (intro g1 g2; simp [g1, g2]; done) | (intro g1; simp at g1 ⊢; simp [g1]; done) | (simp only [nrmT] at *; omega) | (simp at * <;> omega) | (simp_all <;> omega) | (simp_all; done)
      · generalize 2 ^ n.toNat = M at *
        omega
      · exact List.Perm.refl _
      · exact List.Pairwise.nil
    · first | omega | rfl | (intro hg; simp only [nrmT] at hg; omega) | (intro g1 g2; simp [g1, g2]; done) | (intro g1; simp at g1 ⊢; simp [g1]; done) | (simp only [nrmT] at *; omega) | (simp at * <;> omega) | (simp_all <;> omega) | (simp_all; done)
  · intro out code hJ
    obtain ⟨h1, h2, h3, h4⟩ := hJ
    refine ⟨?_, ?_, ?_, ?_, ?_⟩
    · first | omega | rfl | (intro hg; simp only [nrmT] at hg; omega) | (intro g1 g2; simp [g1, g2]; done) | (intro g1; simp at g1 ⊢; simp [g1]; done) | (simp only [nrmT] at *; omega) | (simp at * <;> omega) | (simp_all <;> omega) | (simp_all; done)
    · first | omega | rfl | (intro hg; simp only [nrmT] at hg; omega) | (intro g1 g2; simp [g1, g2]; done) | (intro g1; simp at g1 ⊢; simp [g1]; done) | (simp only [nrmT] at *; omega) | (simp at * <;> omega) | (simp_all <;> omega) | (simp_all; done)
    · rw [Int.one_mul, e1]
      generalize 2 ^ n.toNat = M at *
      omega
    · intro b1
      try simp only [nrmT] at b1
      refine ⟨?_, ?_, ?_⟩
      · refine s_l2Bits_pc n code ?_ ?_
        · omega
        · rw [Int.one_mul, e1] at b1
          generalize 2 ^ n.toNat = M at *
          omega
      · refine ⟨(out.length : Int), ?_⟩
        refine ⟨?_, rfl, rfl, rfl, rfl, rfl⟩
        · refine ⟨?_, ?_, ?_⟩
          · first | omega | rfl | (intro hg; simp only [nrmT] at hg; omega) | (intro g1 g2; simp [g1, g2]; done) | (intro g1; simp at g1 ⊢; simp [g1]; done) | (simp only [nrmT] at *; omega) | (simp at * <;> omega) | (simp_all <;> omega) | (simp_all; done)
          · first | omega | rfl | (intro hg; simp only [nrmT] at hg; omega) | (intro g1 g2; simp [g1, g2]; done) | (intro g1; simp at g1 ⊢; simp [g1]; done) | (simp only [nrmT] at *; omega) | (simp at * <;> omega) | (simp_all <;> omega) | (simp_all; done)
          · intro j h8 h9; omega
      · intro k hJ
        obtain ⟨h5, h6, h7⟩ := hJ
        refine ⟨id, ?_, id, id, ?_, ?_, id, ?_, id, id, fun _ => s_l2Before_pc (members (fun k => code.toNat.testBit k) n.toNat) (out.getD ((k - 1).toNat) []), rfl, id, fun _ => rfl, ?_, ?_⟩
        · have ol := h3.length_eq
          rw [preS_len] at ol
          rw [Int.one_mul, e1] at b1
          intro hg2
          have := of_decide_eq_true hg2
          generalize 2 ^ n.toNat = M at *
          omega
        · first | omega | rfl | (intro hg; simp only [nrmT] at hg; omega) | (intro g1 g2; simp [g1, g2]; done) | (intro g1; simp at g1 ⊢; simp [g1]; done) | (simp only [nrmT] at *; omega) | (simp at * <;> omega) | (simp_all <;> omega) | (simp_all; done)
        · first | omega | rfl | (intro hg; simp only [nrmT] at hg; omega) | (intro g1 g2; simp [g1, g2]; done) | (intro g1; simp at g1 ⊢; simp [g1]; done) | (simp only [nrmT] at *; omega) | (simp at * <;> omega) | (simp_all <;> omega) | (simp_all; done)
        · first | omega | rfl | (intro hg; simp only [nrmT] at hg; omega) | (intro g1 g2; simp [g1, g2]; done) | (intro g1; simp at g1 ⊢; simp [g1]; done) | (simp only [nrmT] at *; omega) | (simp at * <;> omega) | (simp_all <;> omega) | (simp_all; done)
        · intro b2
          refine ⟨?_, ?_⟩
          · have ol := h3.length_eq
            rw [preS_len] at ol
            rw [Int.one_mul, e1] at b1
            have hk : 0 < k := by
              revert b2
              by_cases h : k > 0
              · intro _; exact h
              · rw [decide_eq_false h]; intro g; cases g
            generalize 2 ^ n.toNat = M at *
            omega
          · refine ⟨(k - 1), ?_⟩
            refine ⟨?_, ?_, rfl, rfl, rfl, rfl, rfl⟩
            · refine ⟨?_, ?_, ?_⟩
              · have ol := h3.length_eq
                rw [preS_len] at ol
                rw [Int.one_mul, e1] at b1
                have hk : 0 < k := by
                  revert b2
                  by_cases h : k > 0
                  · intro _; exact h
                  · rw [decide_eq_false h]; intro g; cases g
                generalize 2 ^ n.toNat = M at *
                omega
              · have ol := h3.length_eq
                rw [preS_len] at ol
                rw [Int.one_mul, e1] at b1
                have hk : 0 < k := by
                  revert b2
                  by_cases h : k > 0
                  · intro _; exact h
                  · rw [decide_eq_false h]; intro g; cases g
                generalize 2 ^ n.toNat = M at *
                omega
              · intro j h8 h9
                have hk : 0 < k ∧ cmpS (lst n.toNat code.toNat) (out.getD (k - 1).toNat []) < 0 := by
                  revert b2
                  by_cases h : k > 0
                  · rw [decide_eq_true h]; intro g; exact ⟨h, of_decide_eq_true g⟩
                  · rw [decide_eq_false h]; intro g; cases g
                by_cases e : j = (k - 1).toNat
                · rw [e]; exact hk.2
                · exact h7 j (by omega) h9
            · have hk : 0 < k := by
                revert b2
                by_cases h : k > 0
                · intro _; exact h
                · rw [decide_eq_false h]; intro g; cases g
              first | (show _ < _; omega) | (simp only [s_l2Sets_mJ1]; omega) | (simp only [s_l2Sets_mJ1] at *; simp at *; omega)
        · intro b3
          refine ⟨rfl, ?_, ?_, rfl, trivial, ?_, ?_, rfl, ?_, ?_, ?_, ?_, trivial, ?_, ?_, ?_⟩
          · first | omega | rfl | (intro hg; simp only [nrmT] at hg; omega) | (intro g1 g2; simp [g1, g2]; done) | (intro g1; simp at g1 ⊢; simp [g1]; done) | (simp only [nrmT] at *; omega) | (simp at * <;> omega) | (simp_all <;> omega) | (simp_all; done)
          · first | omega | rfl | (intro hg; simp only [nrmT] at hg; omega) | (intro g1 g2; simp [g1, g2]; done) | (intro g1; simp at g1 ⊢; simp [g1]; done) | (simp only [nrmT] at *; omega) | (simp at * <;> omega) | (simp_all <;> omega) | (simp_all; done)
          · have ol := h3.length_eq
            rw [preS_len] at ol
            rw [Int.one_mul, e1] at b1
            simp only [List.length_append, List.length_drop, List.length_take, List.length_cons, List.length_nil]
            generalize 2 ^ n.toNat = M at *
            omega
          · simp only [List.length_append, List.length_cons, List.length_nil] <;> omega
          · have ol := h3.length_eq
            rw [preS_len] at ol
            rw [Int.one_mul, e1] at b1
            simp only [List.length_append, List.length_drop, List.length_take, List.length_cons, List.length_nil]
            generalize 2 ^ n.toNat = M at *
            omega
          · first | omega | rfl | (intro hg; simp only [nrmT] at hg; omega) | (intro g1 g2; simp [g1, g2]; done) | (intro g1; simp at g1 ⊢; simp [g1]; done) | (simp only [nrmT] at *; omega) | (simp at * <;> omega) | (simp_all <;> omega) | (simp_all; done)
          · first | omega | rfl | (intro hg; simp only [nrmT] at hg; omega) | (intro g1 g2; simp [g1, g2]; done) | (intro g1; simp at g1 ⊢; simp [g1]; done) | (simp only [nrmT] at *; omega) | (simp at * <;> omega) | (simp_all <;> omega) | (simp_all; done)
          · first | omega | rfl | (intro hg; simp only [nrmT] at hg; omega) | (intro g1 g2; simp [g1, g2]; done) | (intro g1; simp at g1 ⊢; simp [g1]; done) | (simp only [nrmT] at *; omega) | (simp at * <;> omega) | (simp_all <;> omega) | (simp_all; done)
          · have ol := h3.length_eq
            rw [preS_len] at ol
            rw [Int.one_mul, e1] at b1
            simp only [List.length_append, List.length_drop, List.length_take, List.length_cons, List.length_nil]
            generalize 2 ^ n.toNat = M at *
            omega
          · rw [Int.one_mul, e1] at b1
            generalize 2 ^ n.toNat = M at *
            omega
          · refine ⟨((([] ++ ((out.take k.toNat).drop 0)) ++ [(members (fun k => code.toNat.testBit k) n.toNat)]) ++ ((out.take out.length).drop k.toNat)), (code + 1), ?_⟩
            refine ⟨?_, ?_, rfl, ?_, rfl, rfl⟩
            · refine ⟨?_, ?_, ?_, ?_⟩
              · first | omega | rfl | (intro hg; simp only [nrmT] at hg; omega) | (intro g1 g2; simp [g1, g2]; done) | (intro g1; simp at g1 ⊢; simp [g1]; done) | (simp only [nrmT] at *; omega) | (simp at * <;> omega) | (simp_all <;> omega) | (simp_all; done)
              · rw [Int.one_mul, e1] at b1
                generalize 2 ^ n.toNat = M at *
                omega
              · have hq : (((([] : List (List Int)) ++ ((out.take k.toNat).drop 0)) ++ [(members (fun k => code.toNat.testBit k) n.toNat)]) ++ ((out.take out.length).drop k.toNat)) = (out.take k.toNat ++ [lst n.toNat code.toNat]) ++ out.drop k.toNat := by
                  rw [List.nil_append, List.drop_zero, List.take_length]; rfl
                rw [hq, show (code + 1).toNat - 1 = (code.toNat - 1) + 1 by omega]
                exact ins_perm h3 (by rw [show code.toNat - 1 + 1 = code.toNat by omega])
              · have hq : (((([] : List (List Int)) ++ ((out.take k.toNat).drop 0)) ++ [(members (fun k => code.toNat.testBit k) n.toNat)]) ++ ((out.take out.length).drop k.toNat)) = (out.take k.toNat ++ [lst n.toNat code.toNat]) ++ out.drop k.toNat := by
                  rw [List.nil_append, List.drop_zero, List.take_length]; rfl
                rw [hq]
                refine ins_sorted h4 (by omega) h7 ?_
                by_cases e : k.toNat = 0
                · exact .inl e
                · refine .inr fun h => ?_
                  rw [decide_eq_true (show k > 0 by omega), decide_eq_true (by rw [show (k - 1).toNat = k.toNat - 1 by omega]; exact h)] at b3
                  cases b3
            · rw [Int.one_mul, e1] at b1
              first | (show _ < _; omega) | (simp only [s_l2Sets_mJ0]; omega) | (simp only [s_l2Sets_mJ0] at *; simp at *; omega)
            · simp only [List.length_append, List.length_cons, List.length_nil] <;> omega
    · intro b4
      try simp only [nrmT] at b4
      rw [Int.one_mul, e1] at b4
      exact sets_done h3 (by
        generalize 2 ^ n.toNat = M at *
        omega) h4
theorem s_l2Sets_pc (n : Int) (hn : 0 ≤ n ∧ n ≤ 8) : PC Try.prog 98 [.int .i64 n] (.one (.d (.sl (.rows (setsL n.toNat))))) :=
  pc_wf @Try.call98 fun _ => pc_by (by kernel_rfl) Try.func98 @Try.call98 (by kernel_rfl) s_l2Sets_C (s_l2Sets_A n) (by kernel_rfl) (s_l2Sets_vc n hn) (by kernel_rfl)
def s_l2Sets_orc : List D → Orc := orcN [none] fun ds => match ds with
  | [.int .i64 n] => some (.one (.d (.sl (.rows (setsL n.toNat)))))
  | _ => none
def lsB (v : List Int → Int) (b s : List Int) : List Int := if v s < v b then s else b
def leastL (v : List Int → Int) (l : List (List Int)) : List Int := l.foldl (lsB v) (l.getD 0 [])
theorem lsB_self (v : List Int → Int) (b : List Int) : lsB v b b = b := by unfold lsB; split <;> rfl
theorem fold_snoc {α β : Type} {f : β → α → β} {b : β} {l : List α} {i : Int} {d : α} (h0 : 0 ≤ i) (h : i < (l.length : Int)) : (l.take (i + 1).toNat).foldl f b = f ((l.take i.toNat).foldl f b) (l.getD i.toNat d) := by
  rw [take_step (d := d) h0 h, List.foldl_append]
  rfl
theorem leastL_mem {v : List Int → Int} {l : List (List Int)} (h : 0 < l.length) : leastL v l ∈ l := by
  have key : ∀ (r : List (List Int)) (b : List Int), b ∈ l → (∀ x ∈ r, x ∈ l) → r.foldl (lsB v) b ∈ l := by
    intro r
    induction r with
    | nil => intro b hb _; exact hb
    | cons x r ih =>
      intro b hb hr
      refine ih _ ?_ fun y hy => hr y (List.mem_cons_of_mem _ hy)
      unfold lsB
      split
      · exact hr x List.mem_cons_self
      · exact hb
  exact key l _ (getD_mem h) fun x hx => hx
theorem filter_pos {p : List Int → Bool} {l : List (List Int)} (h : ∃ s ∈ l, p s = true) : 0 < (l.filter p).length := by
  obtain ⟨s, h1, h2⟩ := h
  exact List.length_pos_of_mem (List.mem_filter.2 ⟨h1, h2⟩)
theorem filter_step {l : List (List Int)} {p : List Int → Bool} {i : Int} (h0 : 0 ≤ i) (h : i < (l.length : Int)) : (l.take (i + 1).toNat).filter p = if p (l.getD i.toNat []) = true then (l.take i.toNat).filter p ++ [l.getD i.toNat []] else (l.take i.toNat).filter p := by
  rw [take_step (d := []) h0 h, List.filter_append]
  by_cases e : p (l.getD i.toNat []) = true
  · rw [if_pos e, List.filter_cons, if_pos e]; rfl
  · rw [if_neg e, List.filter_cons, if_neg e]; simp
def chs (n : Nat) : List (List Int) := [[]] ++ setsL n
theorem chs_len (n : Nat) : (chs n).length = 2 ^ n := by
  unfold chs
  rw [List.length_append, setsL_len]
  have := Nat.two_pow_pos n
  simp only [List.length_cons, List.length_nil]
  omega
theorem chs_small {n : Nat} (h : n ≤ 8) : (chs n).length ≤ 256 := by rw [chs_len]; exact pow8 h
theorem chs_mem {n : Nat} {s : List Int} : s ∈ chs n ↔ ∃ c, c < 2 ^ n ∧ lst n c = s := by
  unfold chs
  rw [List.mem_append, setsL_mem]
  have h0 : lst n 0 = [] := by
    cases e : lst n 0 with
    | nil => rfl
    | cons x r =>
      have hm : x ∈ lst n 0 := by rw [e]; exact List.mem_cons_self
      have := (mem_members.1 hm).2.2
      rw [Nat.zero_testBit] at this
      cases this
  constructor
  · rintro (h | ⟨c, h1, h2, h3⟩)
    · exact ⟨0, Nat.two_pow_pos n, by rw [List.mem_singleton.1 h, h0]⟩
    · exact ⟨c, h2, h3⟩
  · rintro ⟨c, h1, h2⟩
    by_cases e : c = 0
    · left; rw [← h2, e, h0]; exact List.mem_singleton.2 rfl
    · exact .inr ⟨c, by omega, h1, h2⟩
theorem chs_rising {n : Nat} {s : List Int} (h : s ∈ chs n) : rising s 0 ((n : Int) - 1) = true := by
  obtain ⟨c, _, rfl⟩ := chs_mem.1 h
  exact rising_asc (asc_members _ _) fun x hx => by have := mem_members.1 hx; omega
theorem chs_all (n : Nat) : allN n ∈ chs n := by
  refine chs_mem.2 ⟨2 ^ n - 1, by have := Nat.two_pow_pos n; omega, ?_⟩
  exact allN_bits
def s_l6Choices_C (f : FuncId) (ds : List D) : Orc := bif Nat.beq f 98 then s_l2Sets_orc ds else .no
def s_l6Choices_A (n : Int) : Ann := .two (.none) (.two (.reg [(0, .frz)]) (.none))
def s_l6Choices_P (n : Int) : Prop :=
  (PC Try.prog 98 [.int .i64 n] (.one (.d (.sl (.rows (setsL n.toNat)))))) ∧ ((1 : Nat) = 1) ∧ (True) ∧ ((1 + (setsL n.toNat).length) * 24 ≤ 140737488355328) ∧ (((1 + (setsL n.toNat).length) = ([[]] ++ (setsL n.toNat)).length) ∧ ((([[]] ++ (setsL n.toNat)) : List (List Int)) = (chs n.toNat)))
theorem s_l6Choices_vc (n : Int) (hn : 0 ≤ n ∧ n ≤ 8)  : s_l6Choices_P n := by
  unfold s_l6Choices_P
  have cs := chs_small (n := n.toNat) (by omega)
  have ce : (chs n.toNat).length = 1 + (setsL n.toNat).length := by unfold chs; rw [List.length_append]; rfl
  refine ⟨?_, rfl, trivial, ?_, ?_, ?_⟩
  · refine s_l2Sets_pc n ?_
    · first | omega | rfl | (intro hg; simp only [nrmT] at hg; omega) | (intro g1 g2; simp [g1, g2]; done) | (intro g1; simp at g1 ⊢; simp [g1]; done) | (simp only [nrmT] at *; omega) | (simp at * <;> omega) | (simp_all <;> omega) | (simp_all; done)
  · first | omega | rfl | (intro hg; simp only [nrmT] at hg; omega) | (intro g1 g2; simp [g1, g2]; done) | (intro g1; simp at g1 ⊢; simp [g1]; done) | (simp only [nrmT] at *; omega) | (simp at * <;> omega) | (simp_all <;> omega) | (simp_all; done)
  · first | omega | rfl | (intro hg; simp only [nrmT] at hg; omega) | (intro g1 g2; simp [g1, g2]; done) | (intro g1; simp at g1 ⊢; simp [g1]; done) | (simp only [nrmT] at *; omega) | (simp at * <;> omega) | (simp_all <;> omega) | (simp_all; done)
  · first | omega | rfl | (intro hg; simp only [nrmT] at hg; omega) | (intro g1 g2; simp [g1, g2]; done) | (intro g1; simp at g1 ⊢; simp [g1]; done) | (simp only [nrmT] at *; omega) | (simp at * <;> omega) | (simp_all <;> omega) | (simp_all; done)
theorem s_l6Choices_pc (n : Int) (hn : 0 ≤ n ∧ n ≤ 8) : PC Try.prog 109 [.int .i64 n] (.one (.d (.sl (.rows (chs n.toNat))))) :=
  pc_wf @Try.call109 fun _ => pc_by (by kernel_rfl) Try.func109 @Try.call109 (by kernel_rfl) s_l6Choices_C (s_l6Choices_A n) (by kernel_rfl) (s_l6Choices_vc n hn) (by kernel_rfl)
def s_l6Choices_orc : List D → Orc := orcN [none] fun ds => match ds with
  | [.int .i64 n] => some (.one (.d (.sl (.rows (chs n.toNat)))))
  | _ => none
theorem least_min {v : List Int → Int} : ∀ (r : List (List Int)) (b : List Int), v (r.foldl (lsB v) b) ≤ v b ∧ ∀ x ∈ r, v (r.foldl (lsB v) b) ≤ v x
  | [], b => ⟨Int.le_refl _, fun x hx => by cases hx⟩
  | y :: r, b => by
    obtain ⟨h1, h2⟩ := least_min (v := v) r (lsB v b y)
    have h3 : v (lsB v b y) ≤ v b ∧ v (lsB v b y) ≤ v y := by unfold lsB; split <;> omega
    rw [List.foldl_cons]
    refine ⟨by omega, fun x hx => ?_⟩
    rcases List.mem_cons.1 hx with rfl | hx
    · omega
    · exact h2 x hx
theorem leastL_min {v : List Int → Int} {l : List (List Int)} {x : List Int} (h : x ∈ l) : v (leastL v l) ≤ v x := (least_min l _).2 x h
theorem lsB_head {v : List Int → Int} : ∀ (r : List (List Int)) (b y : List Int), (y :: r).foldl (lsB v) b = if v (r.foldl (lsB v) y) < v b then r.foldl (lsB v) y else b
  | [], b, y => rfl
  | z :: r, b, y => by
    rw [List.foldl_cons, lsB_head r (lsB v b y) z, lsB_head r y z]
    unfold lsB
    by_cases h1 : v y < v b
    · rw [if_pos h1]
      by_cases h2 : v (List.foldl (lsB v) z r) < v y
      · unfold lsB at h2
        rw [if_pos h2, if_pos (by omega)]
      · unfold lsB at h2
        rw [if_neg h2, if_pos h1]
    · rw [if_neg h1]
      by_cases h2 : v (List.foldl (lsB v) z r) < v y
      · unfold lsB at h2
        rw [if_pos h2]
      · unfold lsB at h2
        rw [if_neg h2, if_neg h1, if_neg (by omega)]
def leB (v : List Int → Int) (p : List Int → Bool) (x b : List Int) : List Int := if p x = true ∧ v x ≤ v b then x else b
theorem foldr_least {v : List Int → Int} {p : List Int → Bool} {z : List Int} : ∀ (l : List (List Int)), (l.filter p = [] → l.foldr (leB v p) z = z) ∧ (∀ y s, l.filter p = y :: s → l.foldr (leB v p) z = if v (s.foldl (lsB v) y) ≤ v z then s.foldl (lsB v) y else z)
  | [] => ⟨fun _ => rfl, fun y s h => (by cases h)⟩
  | x :: r => by
    obtain ⟨i1, i2⟩ := foldr_least (v := v) (p := p) (z := z) r
    rw [List.foldr_cons, List.filter_cons]
    by_cases e : p x = true
    · rw [if_pos e]
      refine ⟨fun h => (by cases h), fun y s h => ?_⟩
      cases h
      cases hf : r.filter p with
      | nil =>
        rw [i1 hf, List.foldl_nil]
        unfold leB
        by_cases e4 : v x ≤ v z
        · rw [if_pos ⟨e, e4⟩, if_pos e4]
        · rw [if_neg (fun h => e4 h.2), if_neg e4]
      | cons y s =>
        have hF := i2 y s hf
        rw [lsB_head]
        generalize s.foldl (lsB v) y = m at *
        by_cases c1 : v m ≤ v z
        · rw [if_pos c1] at hF
          rw [hF]
          by_cases c2 : v m < v x
          · rw [if_pos c2, if_pos c1]; unfold leB; rw [if_neg (fun h => by omega)]
          · rw [if_neg c2, if_pos (show v x ≤ v z by omega)]; unfold leB; rw [if_pos ⟨e, by omega⟩]
        · rw [if_neg c1] at hF
          rw [hF]
          by_cases c2 : v m < v x
          · rw [if_pos c2, if_neg c1]; unfold leB; rw [if_neg (fun h => by omega)]
          · rw [if_neg c2]
            unfold leB
            by_cases c3 : v x ≤ v z
            · rw [if_pos ⟨e, c3⟩, if_pos c3]
            · rw [if_neg (fun h => c3 h.2), if_neg c3]
    · rw [if_neg e]
      have e2 : leB v p x (r.foldr (leB v p) z) = r.foldr (leB v p) z := by
        show (if _ then _ else _) = _
        rw [if_neg (fun h => e h.1)]
      rw [e2]
      exact ⟨i1, i2⟩
theorem leastL_cons {v : List Int → Int} {y : List Int} {s : List (List Int)} : leastL v (y :: s) = s.foldl (lsB v) y := by
  show s.foldl (lsB v) (lsB v y y) = _
  rw [lsB_self]
theorem cond_and {a b : Bool} : cond a b false = (a && b) := by cases a <;> rfl
theorem foldr_at {f : List Int → List Int → List Int} {z : List Int} {l : List (List Int)} {i : Int} (h0 : 0 ≤ i) (h : i < (l.length : Int)) : (l.drop (i - 1 + 1).toNat).foldr f z = f (l.getD i.toNat []) ((l.drop (i + 1).toNat).foldr f z) := by
  rw [show (i - 1 + 1).toNat = i.toNat by omega, List.drop_eq_getElem_cons (show i.toNat < l.length by omega), List.foldr_cons, show (i + 1).toNat = i.toNat + 1 by omega, getD_get (show i.toNat < l.length by omega)]
theorem foldr_all {v : List Int → Int} {p : List Int → Bool} {z : List Int} {l : List (List Int)} (hz : z ∈ l) (hp : p z = true) : l.foldr (leB v p) z = leastL v (l.filter p) := by
  have hm : z ∈ l.filter p := List.mem_filter.2 ⟨hz, hp⟩
  cases hf : l.filter p with
  | nil => rw [hf] at hm; cases hm
  | cons y s =>
    rw [(foldr_least l).2 y s hf, leastL_cons, if_pos]
    rw [← leastL_cons, ← hf]
    exact leastL_min hm
theorem chs_len8 {n : Nat} {s : List Int} (h : s ∈ chs n) : s.length ≤ n := by
  obtain ⟨c, _, rfl⟩ := chs_mem.1 h
  exact members_len_le _ _
abbrev i_lists_cover_JJ0 (below : Int) (Size : Int) (Sets : List (List Int)) (Costs : List Int) (out : List (List Int)) (i : Int) : Prop := (0 ≤ i) ∧ (i ≤ ((chs below.toNat).length : Int)) ∧ (out = ((chs below.toNat).take i.toNat).filter (coverB Size Sets))
abbrev i_lists_cover_mJ0 (below : Int) (Size : Int) (Sets : List (List Int)) (Costs : List Int) (out : List (List Int)) (i : Int) : Nat := ((chs below.toNat).length - i).toNat
def i_lists_cover_C (f : FuncId) (ds : List D) : Orc := bif Nat.beq f 102 then i_sets_orc ds else bif Nat.beq f 126 then i_System_isCover_orc ds else .no
def i_lists_cover_A (below : Int) (Size : Int) (Sets : List (List Int)) (Costs : List Int) : Ann := .two (.none) (.two (.none) (.two (.two (.reg [(0, .frz)]) (.loop (cut2 (fun (out : List (List Int)) (i : Int) => i_lists_cover_JJ0 below Size Sets Costs out i) (fun (out : List (List Int)) (i : Int) => [(1, .d false (.fn 126 1 [.agg [.int .i64 Size, .sl (.rows Sets), .sl (.ints Costs)]])), (5, .own 1000000 out.length), (13, .own 13 (1 + (setsL below.toNat).length)), (14, .d true (.int .i64 ((1 + (setsL below.toNat).length) : Int))), (15, .d true (.int .i64 i))]) (fun (out : List (List Int)) (i : Int) => [(1000000, .arr true 22 (.rows out)), (13, .arr true 22 (.rows ([[]] ++ setsL below.toNat)))])) (fun g => i_lists_cover_mJ0 below Size Sets Costs g.1 g.2) (fun _ => .none))) (.none)))
def i_lists_cover_P (below : Int) (Size : Int) (Sets : List (List Int)) (Costs : List Int) : Prop :=
  (PC Try.prog 102 [.int .i64 below] (.one (.own 22 (.rows (setsL below.toNat))))) ∧ ((1 : Nat) = 1) ∧ ((setsL below.toNat).length = (setsL below.toNat).length) ∧ ((1 + (setsL below.toNat).length) * 24 ≤ 140737488355328) ∧ ((∃ out' : List (List Int), ∃ i' : Int, (i_lists_cover_JJ0 below Size Sets Costs out' i') ∧ ((.fn 126 1 [.agg [.int .i64 Size, .sl (.rows Sets), .sl (.ints Costs)]] : D) = (.fn 126 1 [.agg [.int .i64 Size, .sl (.rows Sets), .sl (.ints Costs)]] : D)) ∧ ((0 : Nat) = out'.length) ∧ ((1 + (setsL below.toNat).length) = (1 + (setsL below.toNat).length)) ∧ (((1 + (setsL below.toNat).length) : Int) = ((1 + (setsL below.toNat).length) : Int)) ∧ ((0 : Int) = i') ∧ ([] = out') ∧ ((([[]] ++ setsL below.toNat) : List (List Int)) = ([[]] ++ setsL below.toNat))) ∧ (∀ out : List (List Int), ∀ i : Int, (i_lists_cover_JJ0 below Size Sets Costs out i) → (((decide (i < ((1 + (setsL below.toNat).length) : Int))) = true → ((0 : Int) ≤ i) ∧ ((i : Int) < ((1 + (setsL below.toNat).length) : Int)) ∧ (i.toNat < ([[]] ++ setsL below.toNat).length) ∧ (PC Try.prog 126 [.agg [.int .i64 Size, .sl (.rows Sets), .sl (.ints Costs)], .sl (.ints (([[]] ++ setsL below.toNat).getD i.toNat []))] (.one (.d (.bool (coverB Size Sets (([[]] ++ setsL below.toNat).getD i.toNat [])))))) ∧ (((coverB Size Sets (([[]] ++ setsL below.toNat).getD i.toNat [])) = true → (out.length = out.length) ∧ ((1 : Nat) = 1) ∧ ((out.length + 1) * 24 ≤ 140737488355328) ∧ (-9223372036854775808 ≤ (i + 1) ∧ (i + 1) ≤ 9223372036854775807) ∧ (∃ out' : List (List Int), ∃ i' : Int, (i_lists_cover_JJ0 below Size Sets Costs out' i') ∧ (i_lists_cover_mJ0 below Size Sets Costs out' i' < i_lists_cover_mJ0 below Size Sets Costs out i) ∧ ((.fn 126 1 [.agg [.int .i64 Size, .sl (.rows Sets), .sl (.ints Costs)]] : D) = (.fn 126 1 [.agg [.int .i64 Size, .sl (.rows Sets), .sl (.ints Costs)]] : D)) ∧ ((out.length + 1) = out'.length) ∧ ((1 + (setsL below.toNat).length) = (1 + (setsL below.toNat).length)) ∧ (((1 + (setsL below.toNat).length) : Int) = ((1 + (setsL below.toNat).length) : Int)) ∧ ((i + 1) = i') ∧ ((out ++ [(([[]] ++ setsL below.toNat).getD i.toNat [])]) = out') ∧ ((([[]] ++ setsL below.toNat) : List (List Int)) = ([[]] ++ setsL below.toNat)))) ∧ ((coverB Size Sets (([[]] ++ setsL below.toNat).getD i.toNat [])) = false → (-9223372036854775808 ≤ (i + 1) ∧ (i + 1) ≤ 9223372036854775807) ∧ (∃ out' : List (List Int), ∃ i' : Int, (i_lists_cover_JJ0 below Size Sets Costs out' i') ∧ (i_lists_cover_mJ0 below Size Sets Costs out' i' < i_lists_cover_mJ0 below Size Sets Costs out i) ∧ ((.fn 126 1 [.agg [.int .i64 Size, .sl (.rows Sets), .sl (.ints Costs)]] : D) = (.fn 126 1 [.agg [.int .i64 Size, .sl (.rows Sets), .sl (.ints Costs)]] : D)) ∧ (out.length = out'.length) ∧ ((1 + (setsL below.toNat).length) = (1 + (setsL below.toNat).length)) ∧ (((1 + (setsL below.toNat).length) : Int) = ((1 + (setsL below.toNat).length) : Int)) ∧ ((i + 1) = i') ∧ (out = out') ∧ ((([[]] ++ setsL below.toNat) : List (List Int)) = ([[]] ++ setsL below.toNat)))))) ∧ ((decide (i < ((1 + (setsL below.toNat).length) : Int))) = false → ((out.length = out.length) ∧ ((out : List (List Int)) = ((chs below.toNat).filter (coverB Size Sets))))))))
theorem i_lists_cover_vc (below : Int) (Size : Int) (Sets : List (List Int)) (Costs : List Int) (hn : 0 ≤ below ∧ below ≤ 8) (hx : ∀ s ∈ chs below.toNat, goodSys Size Sets Costs = true ∧ rising s 0 ((Sets.length : Int) - 1) = true) (w_Sets : (Sets.length : Int) ≤ 9223372036854775807) (v_Sets : ∀ x9 ∈ Sets, (x9.length : Int) ≤ 9223372036854775807) (w_Costs : (Costs.length : Int) ≤ 9223372036854775807) : i_lists_cover_P below Size Sets Costs := by
  unfold i_lists_cover_P
  have cs := chs_small (n := below.toNat) (by omega)
  have ce : (chs below.toNat).length = 1 + (setsL below.toNat).length := by unfold chs; rw [List.length_append]; rfl
  refine ⟨?_, rfl, rfl, ?_, ?_, ?_⟩
  · refine i_sets_pc below ?_
    · first | omega | rfl | (intro hg; simp only [nrmT] at hg; omega) | (intro g1 g2; simp [g1, g2]; done) | (intro g1; simp at g1 ⊢; simp [g1]; done) | (simp only [nrmT] at *; omega) | (simp at * <;> omega) | (simp_all <;> omega) | (simp_all; done)
  · first | omega | rfl | (intro hg; simp only [nrmT] at hg; omega) | (intro g1 g2; simp [g1, g2]; done) | (intro g1; simp at g1 ⊢; simp [g1]; done) | (simp only [nrmT] at *; omega) | (simp at * <;> omega) | (simp_all <;> omega) | (simp_all; done)
  · refine ⟨([]), 0, ?_⟩
    refine ⟨?_, rfl, rfl, rfl, rfl, rfl, ?_, rfl⟩
    · refine ⟨?_, ?_, ?_⟩
      · first | omega | rfl | (intro hg; simp only [nrmT] at hg; omega) | (intro g1 g2; simp [g1, g2]; done) | (intro g1; simp at g1 ⊢; simp [g1]; done) | (simp only [nrmT] at *; omega) | (simp at * <;> omega) | (simp_all <;> omega) | (simp_all; done)
      · first | omega | rfl | (intro hg; simp only [nrmT] at hg; omega) | (intro g1 g2; simp [g1, g2]; done) | (intro g1; simp at g1 ⊢; simp [g1]; done) | (simp only [nrmT] at *; omega) | (simp at * <;> omega) | (simp_all <;> omega) | (simp_all; done)
      · rfl
    · first | omega | rfl | (intro hg; simp only [nrmT] at hg; omega) | (intro g1 g2; simp [g1, g2]; done) | (intro g1; simp at g1 ⊢; simp [g1]; done) | (simp only [nrmT] at *; omega) | (simp at * <;> omega) | (simp_all <;> omega) | (simp_all; done)
  · intro out i hJ
    obtain ⟨h1, h2, h3⟩ := hJ
    refine ⟨?_, ?_⟩
    · intro b1
      try simp only [nrmT] at b1
      refine ⟨?_, ?_, ?_, ?_, ?_, ?_⟩
      · first | omega | rfl | (intro hg; simp only [nrmT] at hg; omega) | (intro g1 g2; simp [g1, g2]; done) | (intro g1; simp at g1 ⊢; simp [g1]; done) | (simp only [nrmT] at *; omega) | (simp at * <;> omega) | (simp_all <;> omega) | (simp_all; done)
      · first | omega | rfl | (intro hg; simp only [nrmT] at hg; omega) | (intro g1 g2; simp [g1, g2]; done) | (intro g1; simp at g1 ⊢; simp [g1]; done) | (simp only [nrmT] at *; omega) | (simp at * <;> omega) | (simp_all <;> omega) | (simp_all; done)
      · show i.toNat < (chs below.toNat).length
        omega
      · refine i_System_isCover_pc Size Sets Costs (([[]] ++ setsL below.toNat).getD i.toNat []) ?_ ?_
        · have hm : ([[]] ++ setsL below.toNat).getD i.toNat [] ∈ chs below.toNat := getD_memI (xs := chs below.toNat) h1 (by omega)
          exact (hx _ hm).1
        · have hm : ([[]] ++ setsL below.toNat).getD i.toNat [] ∈ chs below.toNat := getD_memI (xs := chs below.toNat) h1 (by omega)
          exact (hx _ hm).2
      · intro b2
        try simp only [nrmT] at b2
        refine ⟨rfl, rfl, ?_, ?_, ?_⟩
        · have := List.length_filter_le (coverB Size Sets) ((chs below.toNat).take i.toNat)
          rw [← h3, List.length_take] at this
          omega
        · first | omega | rfl | (intro hg; simp only [nrmT] at hg; omega) | (intro g1 g2; simp [g1, g2]; done) | (intro g1; simp at g1 ⊢; simp [g1]; done) | (simp only [nrmT] at *; omega) | (simp at * <;> omega) | (simp_all <;> omega) | (simp_all; done)
        · refine ⟨(out ++ [(([[]] ++ setsL below.toNat).getD i.toNat [])]), (i + 1), ?_⟩
          refine ⟨?_, ?_, rfl, ?_, rfl, rfl, rfl, rfl, rfl⟩
          · refine ⟨?_, ?_, ?_⟩
            · first | omega | rfl | (intro hg; simp only [nrmT] at hg; omega) | (intro g1 g2; simp [g1, g2]; done) | (intro g1; simp at g1 ⊢; simp [g1]; done) | (simp only [nrmT] at *; omega) | (simp at * <;> omega) | (simp_all <;> omega) | (simp_all; done)
            · first | omega | rfl | (intro hg; simp only [nrmT] at hg; omega) | (intro g1 g2; simp [g1, g2]; done) | (intro g1; simp at g1 ⊢; simp [g1]; done) | (simp only [nrmT] at *; omega) | (simp at * <;> omega) | (simp_all <;> omega) | (simp_all; done)
            · rw [filter_step h1 (by omega), ← h3, if_pos (by first | exact b2 | simpa using b2)]; rfl
          · first | (show _ < _; omega) | (simp only [i_lists_cover_mJ0]; omega) | (simp only [i_lists_cover_mJ0] at *; simp at *; omega)
          · first | omega | rfl | (intro hg; simp only [nrmT] at hg; omega) | (intro g1 g2; simp [g1, g2]; done) | (intro g1; simp at g1 ⊢; simp [g1]; done) | (simp only [nrmT] at *; omega) | (simp at * <;> omega) | (simp_all <;> omega) | (simp_all; done)
      · intro b3
        try simp only [nrmT] at b3
        refine ⟨?_, ?_⟩
        · first | omega | rfl | (intro hg; simp only [nrmT] at hg; omega) | (intro g1 g2; simp [g1, g2]; done) | (intro g1; simp at g1 ⊢; simp [g1]; done) | (simp only [nrmT] at *; omega) | (simp at * <;> omega) | (simp_all <;> omega) | (simp_all; done)
        · refine ⟨out, (i + 1), ?_⟩
          refine ⟨?_, ?_, rfl, rfl, rfl, rfl, rfl, rfl, rfl⟩
          · refine ⟨?_, ?_, ?_⟩
            · first | omega | rfl | (intro hg; simp only [nrmT] at hg; omega) | (intro g1 g2; simp [g1, g2]; done) | (intro g1; simp at g1 ⊢; simp [g1]; done) | (simp only [nrmT] at *; omega) | (simp at * <;> omega) | (simp_all <;> omega) | (simp_all; done)
            · first | omega | rfl | (intro hg; simp only [nrmT] at hg; omega) | (intro g1 g2; simp [g1, g2]; done) | (intro g1; simp at g1 ⊢; simp [g1]; done) | (simp only [nrmT] at *; omega) | (simp at * <;> omega) | (simp_all <;> omega) | (simp_all; done)
            · rw [filter_step h1 (by omega), ← h3]
              exact (if_neg (ne_true_of_eq_false b3)).symm
          · first | (show _ < _; omega) | (simp only [i_lists_cover_mJ0]; omega) | (simp only [i_lists_cover_mJ0] at *; simp at *; omega)
    · intro b4
      try simp only [nrmT] at b4
      refine ⟨rfl, ?_⟩
      · rw [h3, take_all (by omega)]
theorem i_lists_cover_pc (below : Int) (Size : Int) (Sets : List (List Int)) (Costs : List Int) (hn : 0 ≤ below ∧ below ≤ 8) (hx : ∀ s ∈ chs below.toNat, goodSys Size Sets Costs = true ∧ rising s 0 ((Sets.length : Int) - 1) = true) : PC Try.prog 112 [.int .i64 below, .fn 126 1 [.agg [.int .i64 Size, .sl (.rows Sets), .sl (.ints Costs)]]] (.one (.d (.sl (.rows ((chs below.toNat).filter (coverB Size Sets)))))) :=
  pc_wf @Try.call112 fun hw => pc_by (by kernel_rfl) Try.func112 @Try.call112 (by kernel_rfl) i_lists_cover_C (i_lists_cover_A below Size Sets Costs) (by kernel_rfl) (i_lists_cover_vc below Size Sets Costs hn hx hw.2.1.1.2.1.1 hw.2.1.1.2.1.2 hw.2.1.1.2.2.1) (by kernel_rfl)
def i_lists_cover_orc : List D → Orc := orcN [none, none] fun ds => match ds with
  | [.int .i64 below, .fn f0 1 [.agg [.int .i64 Size, .sl (.rows Sets), .sl (.ints Costs)]]] => bif Nat.beq f0 126 then some (.one (.d (.sl (.rows ((chs below.toNat).filter (coverB Size Sets)))))) else none
  | _ => none
abbrev i_least_cost_JJ0 (xss : List (List Int)) (Size : Int) (Sets : List (List Int)) (Costs : List Int) (best : List Int) (i : Int) : Prop := (0 ≤ i) ∧ (i ≤ (xss.length : Int)) ∧ (best ∈ xss) ∧ (best = (xss.take i.toNat).foldl (lsB (costOf Costs)) (xss.getD 0 []))
abbrev i_least_cost_mJ0 (xss : List (List Int)) (Size : Int) (Sets : List (List Int)) (Costs : List Int) (best : List Int) (i : Int) : Nat := (xss.length - i).toNat
def i_least_cost_C (f : FuncId) (ds : List D) : Orc := bif Nat.beq f 127 then i_System_cost_orc ds else .no
def i_least_cost_A (xss : List (List Int)) (Size : Int) (Sets : List (List Int)) (Costs : List Int) : Ann := .two (.none) (.two (.none) (.two (.two (.none) (.loop (cut2 (fun (best : List Int) (i : Int) => i_least_cost_JJ0 xss Size Sets Costs best i) (fun (best : List Int) (i : Int) => [(1, .d false (.fn 127 1 [.agg [.int .i64 Size, .sl (.rows Sets), .sl (.ints Costs)]])), (5, .d true (.sl (.ints best))), (11, .d true (.sl (.rows xss))), (12, .d true (.int .i64 (xss.length : Int))), (13, .d true (.int .i64 i))]) (fun (best : List Int) (i : Int) => [])) (fun g => i_least_cost_mJ0 xss Size Sets Costs g.1 g.2) (fun _ => .none))) (.none)))
def i_least_cost_P (xss : List (List Int)) (Size : Int) (Sets : List (List Int)) (Costs : List Int) : Prop :=
  ((0 : Int) ≤ 0) ∧ ((0 : Int) < xss.length) ∧ (0 < xss.length) ∧ ((∃ best' : List Int, ∃ i' : Int, (i_least_cost_JJ0 xss Size Sets Costs best' i') ∧ ((.fn 127 1 [.agg [.int .i64 Size, .sl (.rows Sets), .sl (.ints Costs)]] : D) = (.fn 127 1 [.agg [.int .i64 Size, .sl (.rows Sets), .sl (.ints Costs)]] : D)) ∧ ((xss.getD 0 []) = best') ∧ (xss = xss) ∧ ((xss.length : Int) = (xss.length : Int)) ∧ ((0 : Int) = i')) ∧ (∀ best : List Int, ∀ i : Int, (i_least_cost_JJ0 xss Size Sets Costs best i) → (((decide (i < (xss.length : Int))) = true → ((0 : Int) ≤ i) ∧ ((i : Int) < xss.length) ∧ (i.toNat < xss.length) ∧ (PC Try.prog 127 [.agg [.int .i64 Size, .sl (.rows Sets), .sl (.ints Costs)], .sl (.ints (xss.getD i.toNat []))] (.one (.d (.int .i64 (costOf Costs (xss.getD i.toNat [])))))) ∧ (PC Try.prog 127 [.agg [.int .i64 Size, .sl (.rows Sets), .sl (.ints Costs)], .sl (.ints best)] (.one (.d (.int .i64 (costOf Costs best))))) ∧ (((decide ((costOf Costs (xss.getD i.toNat [])) < (costOf Costs best))) = true → (-9223372036854775808 ≤ (i + 1) ∧ (i + 1) ≤ 9223372036854775807) ∧ (∃ best' : List Int, ∃ i' : Int, (i_least_cost_JJ0 xss Size Sets Costs best' i') ∧ (i_least_cost_mJ0 xss Size Sets Costs best' i' < i_least_cost_mJ0 xss Size Sets Costs best i) ∧ ((.fn 127 1 [.agg [.int .i64 Size, .sl (.rows Sets), .sl (.ints Costs)]] : D) = (.fn 127 1 [.agg [.int .i64 Size, .sl (.rows Sets), .sl (.ints Costs)]] : D)) ∧ ((xss.getD i.toNat []) = best') ∧ (xss = xss) ∧ ((xss.length : Int) = (xss.length : Int)) ∧ ((i + 1) = i'))) ∧ ((decide ((costOf Costs (xss.getD i.toNat [])) < (costOf Costs best))) = false → (-9223372036854775808 ≤ (i + 1) ∧ (i + 1) ≤ 9223372036854775807) ∧ (∃ best' : List Int, ∃ i' : Int, (i_least_cost_JJ0 xss Size Sets Costs best' i') ∧ (i_least_cost_mJ0 xss Size Sets Costs best' i' < i_least_cost_mJ0 xss Size Sets Costs best i) ∧ ((.fn 127 1 [.agg [.int .i64 Size, .sl (.rows Sets), .sl (.ints Costs)]] : D) = (.fn 127 1 [.agg [.int .i64 Size, .sl (.rows Sets), .sl (.ints Costs)]] : D)) ∧ (best = best') ∧ (xss = xss) ∧ ((xss.length : Int) = (xss.length : Int)) ∧ ((i + 1) = i'))))) ∧ ((decide (i < (xss.length : Int))) = false → (((best : List Int) = (leastL (costOf Costs) xss)))))))
theorem i_least_cost_vc (xss : List (List Int)) (Size : Int) (Sets : List (List Int)) (Costs : List Int) (hp : 0 < xss.length) (hx : ∀ s ∈ xss, goodSys Size Sets Costs = true ∧ rising s 0 ((Sets.length : Int) - 1) = true) (w_xss : (xss.length : Int) ≤ 9223372036854775807) (v_xss : ∀ x9 ∈ xss, (x9.length : Int) ≤ 9223372036854775807) (w_Sets : (Sets.length : Int) ≤ 9223372036854775807) (v_Sets : ∀ x9 ∈ Sets, (x9.length : Int) ≤ 9223372036854775807) (w_Costs : (Costs.length : Int) ≤ 9223372036854775807) : i_least_cost_P xss Size Sets Costs := by
  unfold i_least_cost_P
  refine ⟨?_, ?_, ?_, ?_, ?_⟩
  · first | omega | rfl | (intro hg; simp only [nrmT] at hg; omega) | (intro g1 g2; simp [g1, g2]; done) | (intro g1; simp at g1 ⊢; simp [g1]; done) | (simp only [nrmT] at *; omega) | (simp at * <;> omega) | (simp_all <;> omega) | (simp_all; done)
  · first | omega | rfl | (intro hg; simp only [nrmT] at hg; omega) | (intro g1 g2; simp [g1, g2]; done) | (intro g1; simp at g1 ⊢; simp [g1]; done) | (simp only [nrmT] at *; omega) | (simp at * <;> omega) | (simp_all <;> omega) | (simp_all; done)
  · first | omega | rfl | (intro hg; simp only [nrmT] at hg; omega) | (intro g1 g2; simp [g1, g2]; done) | (intro g1; simp at g1 ⊢; simp [g1]; done) | (simp only [nrmT] at *; omega) | (simp at * <;> omega) | (simp_all <;> omega) | (simp_all; done)
  · refine ⟨(xss.getD 0 []), 0, ?_⟩
    refine ⟨?_, rfl, rfl, rfl, rfl, rfl⟩
    · refine ⟨?_, ?_, ?_, ?_⟩
      · first | omega | rfl | (intro hg; simp only [nrmT] at hg; omega) | (intro g1 g2; simp [g1, g2]; done) | (intro g1; simp at g1 ⊢; simp [g1]; done) | (simp only [nrmT] at *; omega) | (simp at * <;> omega) | (simp_all <;> omega) | (simp_all; done)
      · first | omega | rfl | (intro hg; simp only [nrmT] at hg; omega) | (intro g1 g2; simp [g1, g2]; done) | (intro g1; simp at g1 ⊢; simp [g1]; done) | (simp only [nrmT] at *; omega) | (simp at * <;> omega) | (simp_all <;> omega) | (simp_all; done)
      · exact getD_mem hp
      · rfl
  · intro best i hJ
    obtain ⟨h1, h2, h3, h4⟩ := hJ
    refine ⟨?_, ?_⟩
    · intro b1
      try simp only [nrmT] at b1
      refine ⟨?_, ?_, ?_, ?_, ?_, ?_, ?_⟩
      · first | omega | rfl | (intro hg; simp only [nrmT] at hg; omega) | (intro g1 g2; simp [g1, g2]; done) | (intro g1; simp at g1 ⊢; simp [g1]; done) | (simp only [nrmT] at *; omega) | (simp at * <;> omega) | (simp_all <;> omega) | (simp_all; done)
      · first | omega | rfl | (intro hg; simp only [nrmT] at hg; omega) | (intro g1 g2; simp [g1, g2]; done) | (intro g1; simp at g1 ⊢; simp [g1]; done) | (simp only [nrmT] at *; omega) | (simp at * <;> omega) | (simp_all <;> omega) | (simp_all; done)
      · first | omega | rfl | (intro hg; simp only [nrmT] at hg; omega) | (intro g1 g2; simp [g1, g2]; done) | (intro g1; simp at g1 ⊢; simp [g1]; done) | (simp only [nrmT] at *; omega) | (simp at * <;> omega) | (simp_all <;> omega) | (simp_all; done)
      · refine i_System_cost_pc Size Sets Costs (xss.getD i.toNat []) ?_ ?_
        · exact (hx _ (getD_memI (d := []) h1 (by omega))).1
        · exact (hx _ (getD_memI h1 (by omega))).2
      · refine i_System_cost_pc Size Sets Costs best ?_ ?_
        · exact (hx _ h3).1
        · exact (hx _ h3).2
      · intro b2
        try simp only [nrmT] at b2
        refine ⟨?_, ?_⟩
        · first | omega | rfl | (intro hg; simp only [nrmT] at hg; omega) | (intro g1 g2; simp [g1, g2]; done) | (intro g1; simp at g1 ⊢; simp [g1]; done) | (simp only [nrmT] at *; omega) | (simp at * <;> omega) | (simp_all <;> omega) | (simp_all; done)
        · refine ⟨(xss.getD i.toNat []), (i + 1), ?_⟩
          refine ⟨?_, ?_, rfl, rfl, rfl, rfl, rfl⟩
          · refine ⟨?_, ?_, ?_, ?_⟩
            · first | omega | rfl | (intro hg; simp only [nrmT] at hg; omega) | (intro g1 g2; simp [g1, g2]; done) | (intro g1; simp at g1 ⊢; simp [g1]; done) | (simp only [nrmT] at *; omega) | (simp at * <;> omega) | (simp_all <;> omega) | (simp_all; done)
            · first | omega | rfl | (intro hg; simp only [nrmT] at hg; omega) | (intro g1 g2; simp [g1, g2]; done) | (intro g1; simp at g1 ⊢; simp [g1]; done) | (simp only [nrmT] at *; omega) | (simp at * <;> omega) | (simp_all <;> omega) | (simp_all; done)
            · exact getD_memI h1 (by omega)
            · rw [fold_snoc (d := []) h1 (by omega), ← h4]; unfold lsB; rw [if_pos b2]
          · first | (show _ < _; omega) | (simp only [i_least_cost_mJ0]; omega) | (simp only [i_least_cost_mJ0] at *; simp at *; omega)
      · intro b3
        try simp only [nrmT] at b3
        refine ⟨?_, ?_⟩
        · first | omega | rfl | (intro hg; simp only [nrmT] at hg; omega) | (intro g1 g2; simp [g1, g2]; done) | (intro g1; simp at g1 ⊢; simp [g1]; done) | (simp only [nrmT] at *; omega) | (simp at * <;> omega) | (simp_all <;> omega) | (simp_all; done)
        · refine ⟨best, (i + 1), ?_⟩
          refine ⟨?_, ?_, rfl, rfl, rfl, rfl, rfl⟩
          · refine ⟨?_, ?_, ?_, ?_⟩
            · first | omega | rfl | (intro hg; simp only [nrmT] at hg; omega) | (intro g1 g2; simp [g1, g2]; done) | (intro g1; simp at g1 ⊢; simp [g1]; done) | (simp only [nrmT] at *; omega) | (simp at * <;> omega) | (simp_all <;> omega) | (simp_all; done)
            · first | omega | rfl | (intro hg; simp only [nrmT] at hg; omega) | (intro g1 g2; simp [g1, g2]; done) | (intro g1; simp at g1 ⊢; simp [g1]; done) | (simp only [nrmT] at *; omega) | (simp at * <;> omega) | (simp_all <;> omega) | (simp_all; done)
            · exact h3
            · rw [fold_snoc (d := []) h1 (by omega), ← h4]; unfold lsB; (try dsimp only); rw [if_neg (by omega)]
          · first | (show _ < _; omega) | (simp only [i_least_cost_mJ0]; omega) | (simp only [i_least_cost_mJ0] at *; simp at *; omega)
    · intro b4
      try simp only [nrmT] at b4
      rw [h4, take_all (by omega)]; rfl
theorem i_least_cost_pc (xss : List (List Int)) (Size : Int) (Sets : List (List Int)) (Costs : List Int) (hp : 0 < xss.length) (hx : ∀ s ∈ xss, goodSys Size Sets Costs = true ∧ rising s 0 ((Sets.length : Int) - 1) = true) : PCs Try.prog 111 [.sl (.rows xss), .fn 127 1 [.agg [.int .i64 Size, .sl (.rows Sets), .sl (.ints Costs)]]] 0 (.sl (.ints (leastL (costOf Costs) xss))) :=
  pcs_wf @Try.call111 fun hw => pcs_by (by kernel_rfl) Try.func111 @Try.call111 (by kernel_rfl) i_least_cost_C (i_least_cost_A xss Size Sets Costs) (by kernel_rfl) (i_least_cost_vc xss Size Sets Costs hp hx hw.1.1 hw.1.2 hw.2.1.1.2.1.1 hw.2.1.1.2.1.2 hw.2.1.1.2.2.1) (by kernel_rfl)
def i_least_cost_orc : List D → Orc := orcS 0 fun ds => match ds with
  | [.sl (.rows xss), .fn f0 1 [.agg [.int .i64 Size, .sl (.rows Sets), .sl (.ints Costs)]]] => some (.sl (.ints (leastL (costOf Costs) xss)))
  | _ => none
def lcS (Size : Int) (Sets : List (List Int)) (Costs : List Int) : List Int := leastL (costOf Costs) ((chs Sets.length).filter (coverB Size Sets))
def lcOk (Size : Int) (Sets : List (List Int)) (Costs : List Int) : Bool := goodSys Size Sets Costs && coverB Size Sets (allN Sets.length)
def lcL (Size : Int) (Sets : List (List Int)) (Costs : List Int) : List Int := if lcOk Size Sets Costs = true then lcS Size Sets Costs else []
theorem lc_pos {Size : Int} {Sets : List (List Int)} (h : coverB Size Sets (allN Sets.length) = true) : 0 < ((chs Sets.length).filter (coverB Size Sets)).length := filter_pos ⟨_, chs_all _, h⟩
theorem chs_inR {Sets : List (List Int)} {s : List Int} (h : s ∈ chs Sets.length) : InR Sets s := fun c hc => by
  have := rising_mem (chs_rising h) c hc
  omega
theorem lc_none {Size : Int} {Sets : List (List Int)} (h : ((chs Sets.length).filter (coverB Size Sets)).length = 0) : coverB Size Sets (allN Sets.length) = false := by
  cases e : coverB Size Sets (allN Sets.length) with
  | false => rfl
  | true => have := lc_pos e; omega
theorem lc_some {Size : Int} {Sets : List (List Int)} (h : ¬ ((chs Sets.length).filter (coverB Size Sets)).length = 0) : coverB Size Sets (allN Sets.length) = true := by
  obtain ⟨s, hs⟩ := List.exists_mem_of_length_pos (Nat.pos_of_ne_zero h)
  obtain ⟨h1, h2⟩ := List.mem_filter.1 hs
  exact cover_all (chs_inR h1) h2
theorem lcS_in {Size : Int} {Sets : List (List Int)} {Costs : List Int} (h : coverB Size Sets (allN Sets.length) = true) : lcS Size Sets Costs ∈ chs Sets.length := (List.mem_filter.1 (leastL_mem (lc_pos h))).1
theorem lcL_len {Size : Int} {Sets : List (List Int)} {Costs : List Int} : (lcL Size Sets Costs).length ≤ 8 := by
  unfold lcL
  split
  · rename_i h
    unfold lcOk at h
    rw [Bool.and_eq_true] at h
    have := chs_len8 (lcS_in (Costs := Costs) h.2)
    have := gs_facts h.1
    omega
  · simp
abbrev s_l6Least_JJ0 (Size : Int) (Sets : List (List Int)) (Costs : List Int) (best : List Int) (i : Int) : Prop := (-1 ≤ i) ∧ (i < ((chs Sets.length).length : Int)) ∧ (coverB Size Sets (allN Sets.length) = true) ∧ (best ∈ chs Sets.length) ∧ (best = ((chs Sets.length).drop (i + 1).toNat).foldr (leB (costOf Costs) (coverB Size Sets)) (allN Sets.length))
abbrev s_l6Least_mJ0 (Size : Int) (Sets : List (List Int)) (Costs : List Int) (best : List Int) (i : Int) : Nat := (i + 1).toNat
def s_l6Least_C (f : FuncId) (ds : List D) : Orc := bif Nat.beq f 177 then s_l6All_orc ds else bif Nat.beq f 176 then s_l6Cover_orc ds else bif Nat.beq f 109 then s_l6Choices_orc ds else bif Nat.beq f 178 then s_l6Cost_orc ds else .no
def s_l6Least_A (Size : Int) (Sets : List (List Int)) (Costs : List Int) : Ann := .two (.none) (.two (.none) (.two (.none) (.two (.two (.none) (.loop (cut2 (fun (best : List Int) (i : Int) => s_l6Least_JJ0 Size Sets Costs best i) (fun (best : List Int) (i : Int) => [(1, .ptr 1 0), (4, .d true (.sl (.ints best))), (5, .d true (.sl (.rows (chs (Sets.length : Int).toNat)))), (6, .d true (.int .i64 i))]) (fun (best : List Int) (i : Int) => [(1, .box 34 [.d false (.int .i64 Size), .d false (.sl (.rows Sets)), .d false (.sl (.ints Costs))])])) (fun g => s_l6Least_mJ0 Size Sets Costs g.1 g.2) (fun _ => .none))) (.none))))
def s_l6Least_P (Size : Int) (Sets : List (List Int)) (Costs : List Int) : Prop :=
  (true = true) ∧ (PC Try.prog 177 [.agg [.int .i64 Size, .sl (.rows Sets), .sl (.ints Costs)]] (.one (.d (.sl (.ints (allN Sets.length)))))) ∧ (PC Try.prog 176 [.agg [.int .i64 Size, .sl (.rows Sets), .sl (.ints Costs)], .sl (.ints (allN Sets.length))] (.one (.d (.bool (coverB Size Sets (allN Sets.length)))))) ∧ (((!(coverB Size Sets (allN Sets.length))) = true → (((0 : Nat) = 0) ∧ (([] : List Int) = (if coverB Size Sets (allN Sets.length) = true then lcS Size Sets Costs else [])) ∧ (false = (coverB Size Sets (allN Sets.length))))) ∧ ((!(coverB Size Sets (allN Sets.length))) = false → (true = true) ∧ (PC Try.prog 177 [.agg [.int .i64 Size, .sl (.rows Sets), .sl (.ints Costs)]] (.one (.d (.sl (.ints (allN Sets.length)))))) ∧ (PC Try.prog 109 [.int .i64 (Sets.length : Int)] (.one (.d (.sl (.rows (chs (Sets.length : Int).toNat)))))) ∧ (-9223372036854775808 ≤ ((((chs (Sets.length : Int).toNat).length) : Int) - 1) ∧ ((((chs (Sets.length : Int).toNat).length) : Int) - 1) ≤ 9223372036854775807) ∧ ((∃ best' : List Int, ∃ i' : Int, (s_l6Least_JJ0 Size Sets Costs best' i') ∧ ((allN Sets.length) = best') ∧ ((chs (Sets.length : Int).toNat) = (chs (Sets.length : Int).toNat)) ∧ (((((chs (Sets.length : Int).toNat).length) : Int) - 1) = i') ∧ (Size = Size) ∧ (Sets = Sets) ∧ (Costs = Costs)) ∧ (∀ best : List Int, ∀ i : Int, (s_l6Least_JJ0 Size Sets Costs best i) → (((decide (i ≥ 0)) = true → (true = true) ∧ ((0 : Int) ≤ i) ∧ ((i : Int) < (chs (Sets.length : Int).toNat).length) ∧ (i.toNat < (chs (Sets.length : Int).toNat).length) ∧ (PC Try.prog 176 [.agg [.int .i64 Size, .sl (.rows Sets), .sl (.ints Costs)], .sl (.ints ((chs (Sets.length : Int).toNat).getD i.toNat []))] (.one (.d (.bool (coverB Size Sets ((chs (Sets.length : Int).toNat).getD i.toNat [])))))) ∧ ((coverB Size Sets ((chs (Sets.length : Int).toNat).getD i.toNat [])) = true → (coverB Size Sets ((chs (Sets.length : Int).toNat).getD i.toNat [])) = true) ∧ ((coverB Size Sets ((chs (Sets.length : Int).toNat).getD i.toNat [])) = true → (coverB Size Sets ((chs (Sets.length : Int).toNat).getD i.toNat [])) = true) ∧ (((coverB Size Sets ((chs (Sets.length : Int).toNat).getD i.toNat [])) = true → (0 : Int) ≤ i)) ∧ (((coverB Size Sets ((chs (Sets.length : Int).toNat).getD i.toNat [])) = true → (i : Int) < (chs (Sets.length : Int).toNat).length)) ∧ ((coverB Size Sets ((chs (Sets.length : Int).toNat).getD i.toNat [])) = true → (coverB Size Sets ((chs (Sets.length : Int).toNat).getD i.toNat [])) = true) ∧ (((coverB Size Sets ((chs (Sets.length : Int).toNat).getD i.toNat [])) = true → i.toNat < (chs (Sets.length : Int).toNat).length)) ∧ ((coverB Size Sets ((chs (Sets.length : Int).toNat).getD i.toNat [])) = true → (coverB Size Sets ((chs (Sets.length : Int).toNat).getD i.toNat [])) = true) ∧ ((coverB Size Sets ((chs (Sets.length : Int).toNat).getD i.toNat [])) = true → (coverB Size Sets ((chs (Sets.length : Int).toNat).getD i.toNat [])) = true) ∧ ((coverB Size Sets ((chs (Sets.length : Int).toNat).getD i.toNat [])) = true → PC Try.prog 178 [.agg [.int .i64 Size, .sl (.rows Sets), .sl (.ints Costs)], .sl (.ints ((chs (Sets.length : Int).toNat).getD i.toNat []))] (.one (.d (.int .i64 (costOf Costs ((chs (Sets.length : Int).toNat).getD i.toNat [])))))) ∧ ((coverB Size Sets ((chs (Sets.length : Int).toNat).getD i.toNat [])) = true → (coverB Size Sets ((chs (Sets.length : Int).toNat).getD i.toNat [])) = true) ∧ ((coverB Size Sets ((chs (Sets.length : Int).toNat).getD i.toNat [])) = true → (coverB Size Sets ((chs (Sets.length : Int).toNat).getD i.toNat [])) = true) ∧ ((coverB Size Sets ((chs (Sets.length : Int).toNat).getD i.toNat [])) = true → PC Try.prog 178 [.agg [.int .i64 Size, .sl (.rows Sets), .sl (.ints Costs)], .sl (.ints best)] (.one (.d (.int .i64 (costOf Costs best))))) ∧ ((coverB Size Sets ((chs (Sets.length : Int).toNat).getD i.toNat [])) = true → (coverB Size Sets ((chs (Sets.length : Int).toNat).getD i.toNat [])) = true) ∧ ((coverB Size Sets ((chs (Sets.length : Int).toNat).getD i.toNat [])) = true → (coverB Size Sets ((chs (Sets.length : Int).toNat).getD i.toNat [])) = true) ∧ (true = true) ∧ (((coverB Size Sets ((chs (Sets.length : Int).toNat).getD i.toNat [])) = true → (coverB Size Sets ((chs (Sets.length : Int).toNat).getD i.toNat [])) = true)) ∧ (((coverB Size Sets ((chs (Sets.length : Int).toNat).getD i.toNat [])) = false → true = true)) ∧ (((cond (coverB Size Sets ((chs (Sets.length : Int).toNat).getD i.toNat [])) (decide ((costOf Costs ((chs (Sets.length : Int).toNat).getD i.toNat [])) ≤ (costOf Costs best))) false) = true → ((0 : Int) ≤ i) ∧ ((i : Int) < (chs (Sets.length : Int).toNat).length) ∧ (i.toNat < (chs (Sets.length : Int).toNat).length) ∧ (-9223372036854775808 ≤ (i - 1) ∧ (i - 1) ≤ 9223372036854775807) ∧ (∃ best' : List Int, ∃ i' : Int, (s_l6Least_JJ0 Size Sets Costs best' i') ∧ (s_l6Least_mJ0 Size Sets Costs best' i' < s_l6Least_mJ0 Size Sets Costs best i) ∧ (((chs (Sets.length : Int).toNat).getD i.toNat []) = best') ∧ ((chs (Sets.length : Int).toNat) = (chs (Sets.length : Int).toNat)) ∧ ((i - 1) = i') ∧ (Size = Size) ∧ (Sets = Sets) ∧ (Costs = Costs))) ∧ ((cond (coverB Size Sets ((chs (Sets.length : Int).toNat).getD i.toNat [])) (decide ((costOf Costs ((chs (Sets.length : Int).toNat).getD i.toNat [])) ≤ (costOf Costs best))) false) = false → (-9223372036854775808 ≤ (i - 1) ∧ (i - 1) ≤ 9223372036854775807) ∧ (∃ best' : List Int, ∃ i' : Int, (s_l6Least_JJ0 Size Sets Costs best' i') ∧ (s_l6Least_mJ0 Size Sets Costs best' i' < s_l6Least_mJ0 Size Sets Costs best i) ∧ (best = best') ∧ ((chs (Sets.length : Int).toNat) = (chs (Sets.length : Int).toNat)) ∧ ((i - 1) = i') ∧ (Size = Size) ∧ (Sets = Sets) ∧ (Costs = Costs))))) ∧ ((decide (i ≥ 0)) = false → (((best : List Int) = (if coverB Size Sets (allN Sets.length) = true then lcS Size Sets Costs else [])) ∧ (true = (coverB Size Sets (allN Sets.length))))))))))
theorem s_l6Least_vc (Size : Int) (Sets : List (List Int)) (Costs : List Int) (hg : goodSys Size Sets Costs = true) (w_Sets : (Sets.length : Int) ≤ 9223372036854775807) (v_Sets : ∀ x9 ∈ Sets, (x9.length : Int) ≤ 9223372036854775807) (w_Costs : (Costs.length : Int) ≤ 9223372036854775807) : s_l6Least_P Size Sets Costs := by
  unfold s_l6Least_P
  have gf := gs_facts hg
  have cs := chs_small (n := Sets.length) (by omega)
  have ar := all_rising Sets.length
  refine ⟨rfl, ?_, ?_, ?_, ?_⟩
  · refine s_l6All_pc Size Sets Costs ?_
    · first | omega | rfl | (intro hg; simp only [nrmT] at hg; omega) | (intro g1 g2; simp [g1, g2]; done) | (intro g1; simp at g1 ⊢; simp [g1]; done) | (simp only [nrmT] at *; omega) | (simp at * <;> omega) | (simp_all <;> omega) | (simp_all; done)
  · refine s_l6Cover_pc Size Sets Costs (allN Sets.length) ?_ ?_
    · first | omega | rfl | (intro hg; simp only [nrmT] at hg; omega) | (intro g1 g2; simp [g1, g2]; done) | (intro g1; simp at g1 ⊢; simp [g1]; done) | (simp only [nrmT] at *; omega) | (simp at * <;> omega) | (simp_all <;> omega) | (simp_all; done)
    · first | omega | rfl | (intro hg; simp only [nrmT] at hg; omega) | (intro g1 g2; simp [g1, g2]; done) | (intro g1; simp at g1 ⊢; simp [g1]; done) | (simp only [nrmT] at *; omega) | (simp at * <;> omega) | (simp_all <;> omega) | (simp_all; done)
  · intro b1
    try simp only [nrmT] at b1
    refine ⟨rfl, ?_, ?_⟩
    · first | omega | rfl | (intro hg; simp only [nrmT] at hg; omega) | (intro g1 g2; simp [g1, g2]; done) | (intro g1; simp at g1 ⊢; simp [g1]; done) | (simp only [nrmT] at *; omega) | (simp at * <;> omega) | (simp_all <;> omega) | (simp_all; done)
    · first | omega | rfl | (intro hg; simp only [nrmT] at hg; omega) | (intro g1 g2; simp [g1, g2]; done) | (intro g1; simp at g1 ⊢; simp [g1]; done) | (simp only [nrmT] at *; omega) | (simp at * <;> omega) | (simp_all <;> omega) | (simp_all; done)
  · intro b2
    try simp only [nrmT] at b2
    refine ⟨rfl, ?_, ?_, ?_, ?_, ?_⟩
    · refine s_l6All_pc Size Sets Costs ?_
      · first | omega | rfl | (intro hg; simp only [nrmT] at hg; omega) | (intro g1 g2; simp [g1, g2]; done) | (intro g1; simp at g1 ⊢; simp [g1]; done) | (simp only [nrmT] at *; omega) | (simp at * <;> omega) | (simp_all <;> omega) | (simp_all; done)
    · refine s_l6Choices_pc (Sets.length : Int) ?_
      · first | omega | rfl | (intro hg; simp only [nrmT] at hg; omega) | (intro g1 g2; simp [g1, g2]; done) | (intro g1; simp at g1 ⊢; simp [g1]; done) | (simp only [nrmT] at *; omega) | (simp at * <;> omega) | (simp_all <;> omega) | (simp_all; done)
    · first | omega | rfl | (intro hg; simp only [nrmT] at hg; omega) | (intro g1 g2; simp [g1, g2]; done) | (intro g1; simp at g1 ⊢; simp [g1]; done) | (simp only [nrmT] at *; omega) | (simp at * <;> omega) | (simp_all <;> omega) | (simp_all; done)
    · refine ⟨(allN Sets.length), ((((chs (Sets.length : Int).toNat).length) : Int) - 1), ?_⟩
      refine ⟨?_, rfl, rfl, rfl, rfl, rfl, rfl⟩
      · refine ⟨?_, ?_, ?_, ?_, ?_⟩
        · first | omega | rfl | (intro hg; simp only [nrmT] at hg; omega) | (intro g1 g2; simp [g1, g2]; done) | (intro g1; simp at g1 ⊢; simp [g1]; done) | (simp only [nrmT] at *; omega) | (simp at * <;> omega) | (simp_all <;> omega) | (simp_all; done)
        · first | omega | rfl | (intro hg; simp only [nrmT] at hg; omega) | (intro g1 g2; simp [g1, g2]; done) | (intro g1; simp at g1 ⊢; simp [g1]; done) | (simp only [nrmT] at *; omega) | (simp at * <;> omega) | (simp_all <;> omega) | (simp_all; done)
        · first | omega | rfl | (intro hg; simp only [nrmT] at hg; omega) | (intro g1 g2; simp [g1, g2]; done) | (intro g1; simp at g1 ⊢; simp [g1]; done) | (simp only [nrmT] at *; omega) | (simp at * <;> omega) | (simp_all <;> omega) | (simp_all; done)
        · exact chs_all _
        · rw [Int.toNat_natCast, show (((chs Sets.length).length : Int) - 1 + 1).toNat = (chs Sets.length).length by omega, List.drop_length]; rfl
    · intro best i hJ
      obtain ⟨h1, h2, hcv, h3, h4⟩ := hJ
      refine ⟨?_, ?_⟩
      · intro b3
        try simp only [nrmT] at b3
        refine ⟨rfl, ?_, ?_, ?_, ?_, id, id, ?_, ?_, id, ?_, id, id, ?_, id, id, ?_, id, id, rfl, id, fun _ => rfl, ?_, ?_⟩
        · first | omega | rfl | (intro hg; simp only [nrmT] at hg; omega) | (intro g1 g2; simp [g1, g2]; done) | (intro g1; simp at g1 ⊢; simp [g1]; done) | (simp only [nrmT] at *; omega) | (simp at * <;> omega) | (simp_all <;> omega) | (simp_all; done)
        · first | omega | rfl | (intro hg; simp only [nrmT] at hg; omega) | (intro g1 g2; simp [g1, g2]; done) | (intro g1; simp at g1 ⊢; simp [g1]; done) | (simp only [nrmT] at *; omega) | (simp at * <;> omega) | (simp_all <;> omega) | (simp_all; done)
        · first | omega | rfl | (intro hg; simp only [nrmT] at hg; omega) | (intro g1 g2; simp [g1, g2]; done) | (intro g1; simp at g1 ⊢; simp [g1]; done) | (simp only [nrmT] at *; omega) | (simp at * <;> omega) | (simp_all <;> omega) | (simp_all; done)
        · refine s_l6Cover_pc Size Sets Costs ((chs (Sets.length : Int).toNat).getD i.toNat []) ?_ ?_
          · first | omega | rfl | (intro hg; simp only [nrmT] at hg; omega) | (intro g1 g2; simp [g1, g2]; done) | (intro g1; simp at g1 ⊢; simp [g1]; done) | (simp only [nrmT] at *; omega) | (simp at * <;> omega) | (simp_all <;> omega) | (simp_all; done)
          · exact chs_rising (getD_memI (by omega) h2)
        · first | omega | rfl | (intro hg; simp only [nrmT] at hg; omega) | (intro g1 g2; simp [g1, g2]; done) | (intro g1; simp at g1 ⊢; simp [g1]; done) | (simp only [nrmT] at *; omega) | (simp at * <;> omega) | (simp_all <;> omega) | (simp_all; done)
        · first | omega | rfl | (intro hg; simp only [nrmT] at hg; omega) | (intro g1 g2; simp [g1, g2]; done) | (intro g1; simp at g1 ⊢; simp [g1]; done) | (simp only [nrmT] at *; omega) | (simp at * <;> omega) | (simp_all <;> omega) | (simp_all; done)
        · first | omega | rfl | (intro hg; simp only [nrmT] at hg; omega) | (intro g1 g2; simp [g1, g2]; done) | (intro g1; simp at g1 ⊢; simp [g1]; done) | (simp only [nrmT] at *; omega) | (simp at * <;> omega) | (simp_all <;> omega) | (simp_all; done)
        · intro hg
          refine s_l6Cost_pc Size Sets Costs ((chs (Sets.length : Int).toNat).getD i.toNat []) ?_ ?_
          · first | omega | rfl | (intro hg; simp only [nrmT] at hg; omega) | (intro g1 g2; simp [g1, g2]; done) | (intro g1; simp at g1 ⊢; simp [g1]; done) | (simp only [nrmT] at *; omega) | (simp at * <;> omega) | (simp_all <;> omega) | (simp_all; done)
          · exact chs_rising (getD_memI (by omega) h2)
        · intro hg
          refine s_l6Cost_pc Size Sets Costs best ?_ ?_
          · first | omega | rfl | (intro hg; simp only [nrmT] at hg; omega) | (intro g1 g2; simp [g1, g2]; done) | (intro g1; simp at g1 ⊢; simp [g1]; done) | (simp only [nrmT] at *; omega) | (simp at * <;> omega) | (simp_all <;> omega) | (simp_all; done)
          · exact chs_rising h3
        · intro b4
          refine ⟨?_, ?_, ?_, ?_, ?_⟩
          · first | omega | rfl | (intro hg; simp only [nrmT] at hg; omega) | (intro g1 g2; simp [g1, g2]; done) | (intro g1; simp at g1 ⊢; simp [g1]; done) | (simp only [nrmT] at *; omega) | (simp at * <;> omega) | (simp_all <;> omega) | (simp_all; done)
          · first | omega | rfl | (intro hg; simp only [nrmT] at hg; omega) | (intro g1 g2; simp [g1, g2]; done) | (intro g1; simp at g1 ⊢; simp [g1]; done) | (simp only [nrmT] at *; omega) | (simp at * <;> omega) | (simp_all <;> omega) | (simp_all; done)
          · first | omega | rfl | (intro hg; simp only [nrmT] at hg; omega) | (intro g1 g2; simp [g1, g2]; done) | (intro g1; simp at g1 ⊢; simp [g1]; done) | (simp only [nrmT] at *; omega) | (simp at * <;> omega) | (simp_all <;> omega) | (simp_all; done)
          · first | omega | rfl | (intro hg; simp only [nrmT] at hg; omega) | (intro g1 g2; simp [g1, g2]; done) | (intro g1; simp at g1 ⊢; simp [g1]; done) | (simp only [nrmT] at *; omega) | (simp at * <;> omega) | (simp_all <;> omega) | (simp_all; done)
          · refine ⟨((chs (Sets.length : Int).toNat).getD i.toNat []), (i - 1), ?_⟩
            refine ⟨?_, ?_, rfl, rfl, rfl, rfl, rfl, rfl⟩
            · refine ⟨?_, ?_, ?_, ?_, ?_⟩
              · first | omega | rfl | (intro hg; simp only [nrmT] at hg; omega) | (intro g1 g2; simp [g1, g2]; done) | (intro g1; simp at g1 ⊢; simp [g1]; done) | (simp only [nrmT] at *; omega) | (simp at * <;> omega) | (simp_all <;> omega) | (simp_all; done)
              · first | omega | rfl | (intro hg; simp only [nrmT] at hg; omega) | (intro g1 g2; simp [g1, g2]; done) | (intro g1; simp at g1 ⊢; simp [g1]; done) | (simp only [nrmT] at *; omega) | (simp at * <;> omega) | (simp_all <;> omega) | (simp_all; done)
              · first | omega | rfl | (intro hg; simp only [nrmT] at hg; omega) | (intro g1 g2; simp [g1, g2]; done) | (intro g1; simp at g1 ⊢; simp [g1]; done) | (simp only [nrmT] at *; omega) | (simp at * <;> omega) | (simp_all <;> omega) | (simp_all; done)
              · exact getD_memI (by omega) h2
              · rw [Int.toNat_natCast] at b4 ⊢
                rw [cond_and, Bool.and_eq_true, decide_eq_true_eq] at b4
                rw [foldr_at (by omega) h2, ← h4]; unfold leB; rw [if_pos b4]
            · first | (show _ < _; omega) | (simp only [s_l6Least_mJ0]; omega) | (simp only [s_l6Least_mJ0] at *; simp at *; omega)
        · intro b5
          refine ⟨?_, ?_⟩
          · first | omega | rfl | (intro hg; simp only [nrmT] at hg; omega) | (intro g1 g2; simp [g1, g2]; done) | (intro g1; simp at g1 ⊢; simp [g1]; done) | (simp only [nrmT] at *; omega) | (simp at * <;> omega) | (simp_all <;> omega) | (simp_all; done)
          · refine ⟨best, (i - 1), ?_⟩
            refine ⟨?_, ?_, rfl, rfl, rfl, rfl, rfl, rfl⟩
            · refine ⟨?_, ?_, ?_, ?_, ?_⟩
              · first | omega | rfl | (intro hg; simp only [nrmT] at hg; omega) | (intro g1 g2; simp [g1, g2]; done) | (intro g1; simp at g1 ⊢; simp [g1]; done) | (simp only [nrmT] at *; omega) | (simp at * <;> omega) | (simp_all <;> omega) | (simp_all; done)
              · first | omega | rfl | (intro hg; simp only [nrmT] at hg; omega) | (intro g1 g2; simp [g1, g2]; done) | (intro g1; simp at g1 ⊢; simp [g1]; done) | (simp only [nrmT] at *; omega) | (simp at * <;> omega) | (simp_all <;> omega) | (simp_all; done)
              · first | omega | rfl | (intro hg; simp only [nrmT] at hg; omega) | (intro g1 g2; simp [g1, g2]; done) | (intro g1; simp at g1 ⊢; simp [g1]; done) | (simp only [nrmT] at *; omega) | (simp at * <;> omega) | (simp_all <;> omega) | (simp_all; done)
              · exact h3
              · rw [Int.toNat_natCast] at b5
                rw [cond_and, Bool.eq_false_iff, Ne, Bool.and_eq_true, decide_eq_true_eq] at b5
                rw [foldr_at (by omega) h2, ← h4]; unfold leB; rw [if_neg b5]
            · first | (show _ < _; omega) | (simp only [s_l6Least_mJ0]; omega) | (simp only [s_l6Least_mJ0] at *; simp at *; omega)
      · intro b6
        try simp only [nrmT] at b6
        refine ⟨?_, ?_⟩
        · rw [if_pos hcv, h4, show (i + 1).toNat = 0 by omega, List.drop_zero]; exact foldr_all (chs_all _) hcv
        · first | omega | rfl | (intro hg; simp only [nrmT] at hg; omega) | (intro g1 g2; simp [g1, g2]; done) | (intro g1; simp at g1 ⊢; simp [g1]; done) | (simp only [nrmT] at *; omega) | (simp at * <;> omega) | (simp_all <;> omega) | (simp_all; done)
theorem s_l6Least_pc (Size : Int) (Sets : List (List Int)) (Costs : List Int) (hg : goodSys Size Sets Costs = true) : PC Try.prog 125 [.agg [.int .i64 Size, .sl (.rows Sets), .sl (.ints Costs)]] (.tup [.d (.sl (.ints (if coverB Size Sets (allN Sets.length) = true then lcS Size Sets Costs else []))), .d (.bool (coverB Size Sets (allN Sets.length)))]) :=
  pc_wf @Try.call125 fun hw => pc_by (by kernel_rfl) Try.func125 @Try.call125 (by kernel_rfl) s_l6Least_C (s_l6Least_A Size Sets Costs) (by kernel_rfl) (s_l6Least_vc Size Sets Costs hg hw.1.2.1.1 hw.1.2.1.2 hw.1.2.2.1) (by kernel_rfl)
def s_l6Least_orc : List D → Orc := orcN [none] fun ds => match ds with
  | [.agg [.int .i64 Size, .sl (.rows Sets), .sl (.ints Costs)]] => some (.tup [.d (.sl (.ints (if coverB Size Sets (allN Sets.length) = true then lcS Size Sets Costs else []))), .d (.bool (coverB Size Sets (allN Sets.length)))])
  | _ => none
def i_LeastCover_C (f : FuncId) (ds : List D) : Orc := bif Nat.beq f 88 then i_IsSystem_orc ds else bif Nat.beq f 112 then i_lists_cover_orc ds else bif Nat.beq f 111 then i_least_cost_orc ds else .no
def i_LeastCover_A (Size : Int) (Sets : List (List Int)) (Costs : List Int) : Ann := .none
def i_LeastCover_P (Size : Int) (Sets : List (List Int)) (Costs : List Int) : Prop :=
  (PC Try.prog 88 [.agg [.int .i64 Size, .sl (.rows Sets), .sl (.ints Costs)]] (.one (.d (.bool (goodSys Size Sets Costs))))) ∧ (((!(goodSys Size Sets Costs)) = true → (((lcL Size Sets Costs).length = 0) ∧ (false = (lcOk Size Sets Costs)))) ∧ ((!(goodSys Size Sets Costs)) = false → (PC Try.prog 112 [.int .i64 (Sets.length : Int), .fn 126 1 [.agg [.int .i64 Size, .sl (.rows Sets), .sl (.ints Costs)]]] (.one (.d (.sl (.rows ((chs (Sets.length : Int).toNat).filter (coverB Size Sets))))))) ∧ ((((((chs (Sets.length : Int).toNat).filter (coverB Size Sets)).length : Int) == 0) = true → (((lcL Size Sets Costs).length = 0) ∧ (false = (lcOk Size Sets Costs)))) ∧ (((((chs (Sets.length : Int).toNat).filter (coverB Size Sets)).length : Int) == 0) = false → (PCs Try.prog 111 [.sl (.rows ((chs (Sets.length : Int).toNat).filter (coverB Size Sets))), .fn 127 1 [.agg [.int .i64 Size, .sl (.rows Sets), .sl (.ints Costs)]]] 0 (.sl (.ints (leastL (costOf Costs) ((chs (Sets.length : Int).toNat).filter (coverB Size Sets)))))) ∧ ((((leastL (costOf Costs) ((chs (Sets.length : Int).toNat).filter (coverB Size Sets))) : List Int) = (lcL Size Sets Costs)) ∧ (true = (lcOk Size Sets Costs)))))))
theorem i_LeastCover_vc (Size : Int) (Sets : List (List Int)) (Costs : List Int)  (w_Sets : (Sets.length : Int) ≤ 9223372036854775807) (v_Sets : ∀ x9 ∈ Sets, (x9.length : Int) ≤ 9223372036854775807) (w_Costs : (Costs.length : Int) ≤ 9223372036854775807) : i_LeastCover_P Size Sets Costs := by
  unfold i_LeastCover_P
  refine ⟨i_IsSystem_pc Size Sets Costs, ?_, ?_⟩
  · intro b1
    try simp only [nrmT] at b1
    refine ⟨?_, ?_⟩
    · have hq : goodSys Size Sets Costs = false := by simpa using b1
      unfold lcL lcOk; rw [hq]; rfl
    · have hq : goodSys Size Sets Costs = false := by simpa using b1
      unfold lcOk; rw [hq]; rfl
  · intro b2
    try simp only [nrmT] at b2
    refine ⟨?_, ?_, ?_⟩
    · refine i_lists_cover_pc (Sets.length : Int) Size Sets Costs ?_ ?_
      · have hq : goodSys Size Sets Costs = true := by simpa using b2
        have := gs_facts hq
        omega
      · have hq : goodSys Size Sets Costs = true := by simpa using b2
        intro s hs
        rw [Int.toNat_natCast] at hs
        exact ⟨hq, chs_rising hs⟩
    · intro b3
      try simp only [nrmT] at b3
      refine ⟨?_, ?_⟩
      · rw [Int.toNat_natCast] at b3
        unfold lcL lcOk; rw [lc_none (by omega), Bool.and_false]; rfl
      · rw [Int.toNat_natCast] at b3
        unfold lcOk; rw [lc_none (by omega), Bool.and_false]
    · intro b4
      try simp only [nrmT] at b4
      refine ⟨?_, ?_, ?_⟩
      · refine i_least_cost_pc ((chs (Sets.length : Int).toNat).filter (coverB Size Sets)) Size Sets Costs ?_ ?_
        · rw [Int.toNat_natCast] at *; omega
        · have hq : goodSys Size Sets Costs = true := by simpa using b2
          intro s hs
          rw [Int.toNat_natCast] at hs
          exact ⟨hq, chs_rising (List.mem_filter.1 hs).1⟩
      · have hq : goodSys Size Sets Costs = true := by simpa using b2
        rw [Int.toNat_natCast] at *
        unfold lcL lcOk; rw [hq, lc_some (by omega)]; rfl
      · have hq : goodSys Size Sets Costs = true := by simpa using b2
        rw [Int.toNat_natCast] at *
        unfold lcOk; rw [hq, lc_some (by omega)]; rfl
theorem i_LeastCover_pc (Size : Int) (Sets : List (List Int)) (Costs : List Int)  : PC Try.prog 61 [.agg [.int .i64 Size, .sl (.rows Sets), .sl (.ints Costs)]] (.tup [.d (.sl (.ints (lcL Size Sets Costs))), .d (.bool (lcOk Size Sets Costs))]) :=
  pc_wf @Try.call61 fun hw => pc_by (by kernel_rfl) Try.func61 @Try.call61 (by kernel_rfl) i_LeastCover_C (i_LeastCover_A Size Sets Costs) (by kernel_rfl) (i_LeastCover_vc Size Sets Costs hw.1.2.1.1 hw.1.2.1.2 hw.1.2.2.1) (by kernel_rfl)
def i_LeastCover_orc : List D → Orc := orcN [none] fun ds => match ds with
  | [.agg [.int .i64 Size, .sl (.rows Sets), .sl (.ints Costs)]] => some (.tup [.d (.sl (.ints (lcL Size Sets Costs))), .d (.bool (lcOk Size Sets Costs))])
  | _ => none
abbrev s_l6Turned_JJ0 (Size : Int) (Sets : List (List Int)) (Costs : List Int) (i : Int) (sz : Int) (rs : List (List Int)) (cs : List Int) : Prop := (sz = (Sets.length : Int)) ∧ (0 ≤ i) ∧ (i ≤ Size) ∧ (rs = tabTo (turnAt Sets) i.toNat) ∧ (cs = List.replicate i.toNat 1)
abbrev s_l6Turned_mJ0 (Size : Int) (Sets : List (List Int)) (Costs : List Int) (i : Int) (sz : Int) (rs : List (List Int)) (cs : List Int) : Nat := (Size - i).toNat
abbrev s_l6Turned_JJ1 (Size : Int) (Sets : List (List Int)) (Costs : List Int) (i : Int) (sz : Int) (rs : List (List Int)) (cs : List Int) (own : List Int) (k : Int) : Prop := (0 ≤ k) ∧ (k ≤ (Sets.length : Int)) ∧ (own = members (fun k => (Sets.getD k []).contains i) k.toNat)
abbrev s_l6Turned_mJ1 (Size : Int) (Sets : List (List Int)) (Costs : List Int) (i : Int) (sz : Int) (rs : List (List Int)) (cs : List Int) (own : List Int) (k : Int) : Nat := (Sets.length - k).toNat
abbrev s_l6Turned_JA1 (Size : Int) (Sets : List (List Int)) (Costs : List Int) (i : Int) (sz : Int) (rs : List (List Int)) (cs : List Int) (row : List Int) : Prop := (row = turnAt Sets i.toNat)
def s_l6Turned_C (f : FuncId) (ds : List D) : Orc := bif Nat.beq f 144 then s_l1Has_orc ds else .no
def s_l6Turned_A (Size : Int) (Sets : List (List Int)) (Costs : List Int) : Ann := .two (.none) (.two (.none) (.two (.two (.none) (.loop (cut4 (fun (i : Int) (sz : Int) (rs : List (List Int)) (cs : List Int) => s_l6Turned_JJ0 Size Sets Costs i sz rs cs) (fun (i : Int) (sz : Int) (rs : List (List Int)) (cs : List Int) => [(1, .ptr 1 0), (2, .ptr 2 0), (3, .ptr 3 0), (4, .d true (.int .i64 i))]) (fun (i : Int) (sz : Int) (rs : List (List Int)) (cs : List Int) => [(1, .box 34 [.d false (.int .i64 Size), .d false (.sl (.rows Sets)), .d false (.sl (.ints Costs))]), (2, .box 34 [.d true (.int .i64 0), .d true (.nil), .d true (.nil)]), (1000002, .arr true 22 (.rows rs)), (1000003, .arr true 3 (.ints cs)), (3, .box 34 [.d true (.int .i64 sz), .own 1000002 rs.length, .own 1000003 cs.length])])) (fun g => s_l6Turned_mJ0 Size Sets Costs g.1 g.2.1 g.2.2.1 g.2.2.2) (fun g => (fun (i : Int) (sz : Int) (rs : List (List Int)) (cs : List Int) => .two (.none) (.two (.two (.none) (.cut (.two (.none) (.loop (cut2 (fun (own : List Int) (k : Int) => s_l6Turned_JJ1 Size Sets Costs i sz rs cs own k) (fun (own : List Int) (k : Int) => [(1, .ptr 1 0), (2, .ptr 2 0), (3, .ptr 3 0), (4, .d true (.int .i64 i)), (5, .own 1000100 own.length), (6, .d true (.int .i64 k))]) (fun (own : List Int) (k : Int) => [(1000100, .arr true 3 (.ints own)), (1, .box 34 [.d false (.int .i64 Size), .d false (.sl (.rows Sets)), .d false (.sl (.ints Costs))]), (2, .box 34 [.d true (.int .i64 0), .d true (.nil), .d true (.nil)]), (3, .box 34 [.d true (.int .i64 sz), .own 1000002 rs.length, .own 1000003 cs.length]), (1000002, .arr true 22 (.rows rs)), (1000003, .arr true 3 (.ints cs))])) (fun g => s_l6Turned_mJ1 Size Sets Costs i sz rs cs g.1 g.2) (fun _ => .none))) (cut1 (fun (row : List Int) => s_l6Turned_JA1 Size Sets Costs i sz rs cs row) (fun (row : List Int) => [(1, .ptr 1 0), (2, .ptr 2 0), (3, .ptr 3 0), (4, .d true (.int .i64 i)), (5, .d true (.sl (.ints row)))]) (fun (row : List Int) => [(1, .box 34 [.d false (.int .i64 Size), .d false (.sl (.rows Sets)), .d false (.sl (.ints Costs))]), (2, .box 34 [.d true (.int .i64 0), .d true (.nil), .d true (.nil)]), (3, .box 34 [.d true (.int .i64 sz), .own 1000002 rs.length, .own 1000003 cs.length]), (1000002, .arr true 22 (.rows rs)), (1000003, .arr true 3 (.ints cs))])) (fun _ => .none))) (.none))) (g.1) (g.2.1) (g.2.2.1) (g.2.2.2)))) (.none)))
def s_l6Turned_P (Size : Int) (Sets : List (List Int)) (Costs : List Int) : Prop :=
  ((∃ i' : Int, ∃ sz' : Int, ∃ rs' : List (List Int), ∃ cs' : List Int, (s_l6Turned_JJ0 Size Sets Costs i' sz' rs' cs') ∧ ((0 : Int) = i') ∧ (Size = Size) ∧ (Sets = Sets) ∧ (Costs = Costs) ∧ ((0 : Int) = 0) ∧ ([] = rs') ∧ ([] = cs') ∧ ((Sets.length : Int) = sz') ∧ ((0 : Nat) = rs'.length) ∧ ((0 : Nat) = cs'.length)) ∧ (∀ i : Int, ∀ sz : Int, ∀ rs : List (List Int), ∀ cs : List Int, (s_l6Turned_JJ0 Size Sets Costs i sz rs cs) → (((decide (i < Size)) = true → ((((∃ own' : List Int, ∃ k' : Int, (s_l6Turned_JJ1 Size Sets Costs i sz rs cs own' k') ∧ (i = i) ∧ ((0 : Nat) = own'.length) ∧ ((0 : Int) = k') ∧ ([] = own') ∧ (Size = Size) ∧ (Sets = Sets) ∧ (Costs = Costs) ∧ ((0 : Int) = 0) ∧ (sz = sz) ∧ (rs.length = rs.length) ∧ (cs.length = cs.length) ∧ (rs = rs) ∧ (cs = cs)) ∧ (∀ own : List Int, ∀ k : Int, (s_l6Turned_JJ1 Size Sets Costs i sz rs cs own k) → (((decide (k < (Sets.length : Int))) = true → ((0 : Int) ≤ k) ∧ ((k : Int) < Sets.length) ∧ (k.toNat < Sets.length) ∧ (PC Try.prog 144 [.sl (.ints (Sets.getD k.toNat [])), .int .i64 i] (.one (.d (.bool ((Sets.getD k.toNat []).contains i))))) ∧ ((((Sets.getD k.toNat []).contains i) = true → (own.length = own.length) ∧ ((1 : Nat) = 1) ∧ ((own.length + 1) * 8 ≤ 140737488355328) ∧ (-9223372036854775808 ≤ (k + 1) ∧ (k + 1) ≤ 9223372036854775807) ∧ (∃ own' : List Int, ∃ k' : Int, (s_l6Turned_JJ1 Size Sets Costs i sz rs cs own' k') ∧ (s_l6Turned_mJ1 Size Sets Costs i sz rs cs own' k' < s_l6Turned_mJ1 Size Sets Costs i sz rs cs own k) ∧ (i = i) ∧ ((own.length + 1) = own'.length) ∧ ((k + 1) = k') ∧ ((own ++ [k]) = own') ∧ (Size = Size) ∧ (Sets = Sets) ∧ (Costs = Costs) ∧ ((0 : Int) = 0) ∧ (sz = sz) ∧ (rs.length = rs.length) ∧ (cs.length = cs.length) ∧ (rs = rs) ∧ (cs = cs))) ∧ (((Sets.getD k.toNat []).contains i) = false → (-9223372036854775808 ≤ (k + 1) ∧ (k + 1) ≤ 9223372036854775807) ∧ (∃ own' : List Int, ∃ k' : Int, (s_l6Turned_JJ1 Size Sets Costs i sz rs cs own' k') ∧ (s_l6Turned_mJ1 Size Sets Costs i sz rs cs own' k' < s_l6Turned_mJ1 Size Sets Costs i sz rs cs own k) ∧ (i = i) ∧ (own.length = own'.length) ∧ ((k + 1) = k') ∧ (own = own') ∧ (Size = Size) ∧ (Sets = Sets) ∧ (Costs = Costs) ∧ ((0 : Int) = 0) ∧ (sz = sz) ∧ (rs.length = rs.length) ∧ (cs.length = cs.length) ∧ (rs = rs) ∧ (cs = cs))))) ∧ ((decide (k < (Sets.length : Int))) = false → (∃ row' : List Int, (s_l6Turned_JA1 Size Sets Costs i sz rs cs row') ∧ (i = i) ∧ (own.length = own.length) ∧ (own = row') ∧ (Size = Size) ∧ (Sets = Sets) ∧ (Costs = Costs) ∧ ((0 : Int) = 0) ∧ (sz = sz) ∧ (rs.length = rs.length) ∧ (cs.length = cs.length) ∧ (rs = rs) ∧ (cs = cs))))))) ∧ (∀ row : List Int, (s_l6Turned_JA1 Size Sets Costs i sz rs cs row) → (rs.length = rs.length) ∧ ((1 : Nat) = 1) ∧ ((rs.length + 1) * 24 ≤ 140737488355328) ∧ (cs.length = cs.length) ∧ ((1 : Nat) = 1) ∧ ((cs.length + 1) * 8 ≤ 140737488355328) ∧ (-9223372036854775808 ≤ (i + 1) ∧ (i + 1) ≤ 9223372036854775807) ∧ (∃ i' : Int, ∃ sz' : Int, ∃ rs' : List (List Int), ∃ cs' : List Int, (s_l6Turned_JJ0 Size Sets Costs i' sz' rs' cs') ∧ (s_l6Turned_mJ0 Size Sets Costs i' sz' rs' cs' < s_l6Turned_mJ0 Size Sets Costs i sz rs cs) ∧ ((i + 1) = i') ∧ (Size = Size) ∧ (Sets = Sets) ∧ (Costs = Costs) ∧ ((0 : Int) = 0) ∧ ((rs ++ [row]) = rs') ∧ ((cs ++ [1]) = cs') ∧ (sz = sz') ∧ ((rs.length + 1) = rs'.length) ∧ ((cs.length + 1) = cs'.length))))) ∧ ((decide (i < Size)) = false → ((rs.length = rs.length) ∧ (cs.length = cs.length) ∧ ((.agg [.int .i64 sz, .sl (.rows rs), .sl (.ints cs)] : D) = .agg [.int .i64 (Sets.length : Int), .sl (.rows (turnR Sets Size.toNat)), .sl (.ints (List.replicate Size.toNat 1))]))))))
theorem s_l6Turned_vc (Size : Int) (Sets : List (List Int)) (Costs : List Int) (hg : goodSys Size Sets Costs = true) (w_Sets : (Sets.length : Int) ≤ 9223372036854775807) (v_Sets : ∀ x9 ∈ Sets, (x9.length : Int) ≤ 9223372036854775807) (w_Costs : (Costs.length : Int) ≤ 9223372036854775807) : s_l6Turned_P Size Sets Costs := by
  unfold s_l6Turned_P
  have gf := gs_facts hg
  refine ⟨?_, ?_⟩
  · refine ⟨0, (Sets.length : Int), ([]), ([]), ?_⟩
    refine ⟨?_, rfl, rfl, rfl, rfl, rfl, ?_, ?_, rfl, rfl, rfl⟩
    · refine ⟨?_, ?_, ?_, ?_, ?_⟩
      · rfl
      · first | omega | rfl | (intro hg; simp only [nrmT] at hg; omega) | (intro g1 g2; simp [g1, g2]; done) | (intro g1; simp at g1 ⊢; simp [g1]; done) | (simp only [nrmT] at *; omega) | (simp at * <;> omega) | (simp_all <;> omega) | (simp_all; done)
      · first | omega | rfl | (intro hg; simp only [nrmT] at hg; omega) | (intro g1 g2; simp [g1, g2]; done) | (intro g1; simp at g1 ⊢; simp [g1]; done) | (simp only [nrmT] at *; omega) | (simp at * <;> omega) | (simp_all <;> omega) | (simp_all; done)
      · rfl
      · rfl
    · first | omega | rfl | (intro hg; simp only [nrmT] at hg; omega) | (intro g1 g2; simp [g1, g2]; done) | (intro g1; simp at g1 ⊢; simp [g1]; done) | (simp only [nrmT] at *; omega) | (simp at * <;> omega) | (simp_all <;> omega) | (simp_all; done)
    · first | omega | rfl | (intro hg; simp only [nrmT] at hg; omega) | (intro g1 g2; simp [g1, g2]; done) | (intro g1; simp at g1 ⊢; simp [g1]; done) | (simp only [nrmT] at *; omega) | (simp at * <;> omega) | (simp_all <;> omega) | (simp_all; done)
  · intro i sz rs cs hJ
    obtain ⟨h0, h1, h2, h3, h4⟩ := hJ
    refine ⟨?_, ?_⟩
    · intro b1
      try simp only [nrmT] at b1
      refine ⟨?_, ?_⟩
      · refine ⟨?_, ?_⟩
        · refine ⟨([]), 0, ?_⟩
          refine ⟨?_, rfl, rfl, rfl, ?_, rfl, rfl, rfl, rfl, rfl, rfl, rfl, rfl, rfl⟩
          · refine ⟨?_, ?_, ?_⟩
            · first | omega | rfl | (intro hg; simp only [nrmT] at hg; omega) | (intro g1 g2; simp [g1, g2]; done) | (intro g1; simp at g1 ⊢; simp [g1]; done) | (simp only [nrmT] at *; omega) | (simp at * <;> omega) | (simp_all <;> omega) | (simp_all; done)
            · first | omega | rfl | (intro hg; simp only [nrmT] at hg; omega) | (intro g1 g2; simp [g1, g2]; done) | (intro g1; simp at g1 ⊢; simp [g1]; done) | (simp only [nrmT] at *; omega) | (simp at * <;> omega) | (simp_all <;> omega) | (simp_all; done)
            · rfl
          · rfl
        · intro own k hJ
          obtain ⟨h5, h6, h7⟩ := hJ
          refine ⟨?_, ?_⟩
          · intro b2
            try simp only [nrmT] at b2
            refine ⟨?_, ?_, ?_, s_l1Has_pc (Sets.getD k.toNat []) i, ?_, ?_⟩
            · first | omega | rfl | (intro hg; simp only [nrmT] at hg; omega) | (intro g1 g2; simp [g1, g2]; done) | (intro g1; simp at g1 ⊢; simp [g1]; done) | (simp only [nrmT] at *; omega) | (simp at * <;> omega) | (simp_all <;> omega) | (simp_all; done)
            · first | omega | rfl | (intro hg; simp only [nrmT] at hg; omega) | (intro g1 g2; simp [g1, g2]; done) | (intro g1; simp at g1 ⊢; simp [g1]; done) | (simp only [nrmT] at *; omega) | (simp at * <;> omega) | (simp_all <;> omega) | (simp_all; done)
            · first | omega | rfl | (intro hg; simp only [nrmT] at hg; omega) | (intro g1 g2; simp [g1, g2]; done) | (intro g1; simp at g1 ⊢; simp [g1]; done) | (simp only [nrmT] at *; omega) | (simp at * <;> omega) | (simp_all <;> omega) | (simp_all; done)
            · intro b3
              try simp only [nrmT] at b3
              refine ⟨rfl, rfl, ?_, ?_, ?_⟩
              · rw [h7]; have := members_len_le (fun k => (Sets.getD k []).contains i) k.toNat; omega
              · first | omega | rfl | (intro hg; simp only [nrmT] at hg; omega) | (intro g1 g2; simp [g1, g2]; done) | (intro g1; simp at g1 ⊢; simp [g1]; done) | (simp only [nrmT] at *; omega) | (simp at * <;> omega) | (simp_all <;> omega) | (simp_all; done)
              · refine ⟨(own ++ [k]), (k + 1), ?_⟩
                refine ⟨?_, ?_, rfl, ?_, rfl, rfl, rfl, rfl, rfl, rfl, rfl, rfl, rfl, rfl, rfl⟩
                · refine ⟨?_, ?_, ?_⟩
                  · first | omega | rfl | (intro hg; simp only [nrmT] at hg; omega) | (intro g1 g2; simp [g1, g2]; done) | (intro g1; simp at g1 ⊢; simp [g1]; done) | (simp only [nrmT] at *; omega) | (simp at * <;> omega) | (simp_all <;> omega) | (simp_all; done)
                  · first | omega | rfl | (intro hg; simp only [nrmT] at hg; omega) | (intro g1 g2; simp [g1, g2]; done) | (intro g1; simp at g1 ⊢; simp [g1]; done) | (simp only [nrmT] at *; omega) | (simp at * <;> omega) | (simp_all <;> omega) | (simp_all; done)
                  · rw [h7, show (k + 1).toNat = k.toNat + 1 by omega, members_succ, if_pos b3, show ((k.toNat : Nat) : Int) = k by omega]
                · first | (show _ < _; omega) | (simp only [s_l6Turned_mJ1]; omega) | (simp only [s_l6Turned_mJ1] at *; simp at *; omega)
                · simp
            · intro b4
              try simp only [nrmT] at b4
              refine ⟨?_, ?_⟩
              · first | omega | rfl | (intro hg; simp only [nrmT] at hg; omega) | (intro g1 g2; simp [g1, g2]; done) | (intro g1; simp at g1 ⊢; simp [g1]; done) | (simp only [nrmT] at *; omega) | (simp at * <;> omega) | (simp_all <;> omega) | (simp_all; done)
              · refine ⟨own, (k + 1), ?_⟩
                refine ⟨?_, ?_, rfl, rfl, rfl, rfl, rfl, rfl, rfl, rfl, rfl, rfl, rfl, rfl, rfl⟩
                · refine ⟨?_, ?_, ?_⟩
                  · first | omega | rfl | (intro hg; simp only [nrmT] at hg; omega) | (intro g1 g2; simp [g1, g2]; done) | (intro g1; simp at g1 ⊢; simp [g1]; done) | (simp only [nrmT] at *; omega) | (simp at * <;> omega) | (simp_all <;> omega) | (simp_all; done)
                  · first | omega | rfl | (intro hg; simp only [nrmT] at hg; omega) | (intro g1 g2; simp [g1, g2]; done) | (intro g1; simp at g1 ⊢; simp [g1]; done) | (simp only [nrmT] at *; omega) | (simp at * <;> omega) | (simp_all <;> omega) | (simp_all; done)
                  · rw [h7, show (k + 1).toNat = k.toNat + 1 by omega, members_succ, if_neg (by rw [b4]; decide), List.append_nil]
                · first | (show _ < _; omega) | (simp only [s_l6Turned_mJ1]; omega) | (simp only [s_l6Turned_mJ1] at *; simp at *; omega)
          · intro b5
            try simp only [nrmT] at b5
            refine ⟨own, ?_⟩
            refine ⟨?_, rfl, rfl, rfl, rfl, rfl, rfl, rfl, rfl, rfl, rfl, rfl, rfl⟩
            · unfold s_l6Turned_JA1
              rw [h7]
              unfold turnAt
              rw [show k.toNat = Sets.length by omega, show ((i.toNat : Nat) : Int) = i by omega]
      · intro row hJ
        have h8 := hJ
        refine ⟨rfl, rfl, ?_, rfl, rfl, ?_, ?_, ?_⟩
        · rw [h3, tabTo_len]; omega
        · rw [h4, List.length_replicate]; omega
        · first | omega | rfl | (intro hg; simp only [nrmT] at hg; omega) | (intro g1 g2; simp [g1, g2]; done) | (intro g1; simp at g1 ⊢; simp [g1]; done) | (simp only [nrmT] at *; omega) | (simp at * <;> omega) | (simp_all <;> omega) | (simp_all; done)
        · refine ⟨(i + 1), sz, (rs ++ [row]), (cs ++ [1]), ?_⟩
          refine ⟨?_, ?_, rfl, rfl, rfl, rfl, rfl, rfl, rfl, rfl, ?_, ?_⟩
          · refine ⟨?_, ?_, ?_, ?_, ?_⟩
            · assumption
            · first | omega | rfl | (intro hg; simp only [nrmT] at hg; omega) | (intro g1 g2; simp [g1, g2]; done) | (intro g1; simp at g1 ⊢; simp [g1]; done) | (simp only [nrmT] at *; omega) | (simp at * <;> omega) | (simp_all <;> omega) | (simp_all; done)
            · first | omega | rfl | (intro hg; simp only [nrmT] at hg; omega) | (intro g1 g2; simp [g1, g2]; done) | (intro g1; simp at g1 ⊢; simp [g1]; done) | (simp only [nrmT] at *; omega) | (simp at * <;> omega) | (simp_all <;> omega) | (simp_all; done)
            · rw [h3, h8, show (i + 1).toNat = i.toNat + 1 by omega, tabTo_succ]
            · rw [h4, show (i + 1).toNat = i.toNat + 1 by omega, List.replicate_succ']
          · first | (show _ < _; omega) | (simp only [s_l6Turned_mJ0]; omega) | (simp only [s_l6Turned_mJ0] at *; simp at *; omega)
          · simp
          · simp
    · intro b6
      try simp only [nrmT] at b6
      refine ⟨rfl, rfl, ?_⟩
      · rw [h0, h3, h4, show i.toNat = Size.toNat by omega]; rfl
theorem s_l6Turned_pc (Size : Int) (Sets : List (List Int)) (Costs : List Int) (hg : goodSys Size Sets Costs = true) : PC Try.prog 87 [.agg [.int .i64 Size, .sl (.rows Sets), .sl (.ints Costs)]] (.one (.d (.agg [.int .i64 (Sets.length : Int), .sl (.rows (turnR Sets Size.toNat)), .sl (.ints (List.replicate Size.toNat 1))]))) :=
  pc_wf @Try.call87 fun hw => pc_by (by kernel_rfl) Try.func87 @Try.call87 (by kernel_rfl) s_l6Turned_C (s_l6Turned_A Size Sets Costs) (by kernel_rfl) (s_l6Turned_vc Size Sets Costs hg hw.1.2.1.1 hw.1.2.1.2 hw.1.2.2.1) (by kernel_rfl)
def s_l6Turned_orc : List D → Orc := orcN [none] fun ds => match ds with
  | [.agg [.int .i64 Size, .sl (.rows Sets), .sl (.ints Costs)]] => some (.one (.d (.agg [.int .i64 (Sets.length : Int), .sl (.rows (turnR Sets Size.toNat)), .sl (.ints (List.replicate Size.toNat 1))])))
  | _ => none
def lhL (Size : Int) (Sets : List (List Int)) (Costs : List Int) : List Int := if goodSys Size Sets Costs = true then lcL (Sets.length : Int) (turnR Sets Size.toNat) (List.replicate Size.toNat 1) else []
def lhOk (Size : Int) (Sets : List (List Int)) (Costs : List Int) : Bool := goodSys Size Sets Costs && lcOk (Sets.length : Int) (turnR Sets Size.toNat) (List.replicate Size.toNat 1)
theorem lhL_len {Size : Int} {Sets : List (List Int)} {Costs : List Int} : (lhL Size Sets Costs).length ≤ 8 := by
  unfold lhL
  split
  · exact lcL_len
  · simp
theorem lh_same {Size : Int} {Sets : List (List Int)} {Costs : List Int} (h : goodSys Size Sets Costs = true) : lcL (Sets.length : Int) (turnR Sets Size.toNat) (List.replicate Size.toNat 1) = (if coverB (Sets.length : Int) (turnR Sets Size.toNat) (allN (turnR Sets Size.toNat).length) = true then lcS (Sets.length : Int) (turnR Sets Size.toNat) (List.replicate Size.toNat 1) else []) ∧ lcOk (Sets.length : Int) (turnR Sets Size.toNat) (List.replicate Size.toNat 1) = coverB (Sets.length : Int) (turnR Sets Size.toNat) (allN (turnR Sets Size.toNat).length) := by
  unfold lcL lcOk
  rw [turn_good h, Bool.true_and]
  exact ⟨rfl, rfl⟩
def s_LeastHitting_C (f : FuncId) (ds : List D) : Orc := bif Nat.beq f 86 then s_l6Good_orc ds else bif Nat.beq f 87 then s_l6Turned_orc ds else bif Nat.beq f 125 then s_l6Least_orc ds else .no
def s_LeastHitting_A (Size : Int) (Sets : List (List Int)) (Costs : List Int) : Ann := .none
def s_LeastHitting_P (Size : Int) (Sets : List (List Int)) (Costs : List Int) : Prop :=
  (PC Try.prog 86 [.agg [.int .i64 Size, .sl (.rows Sets), .sl (.ints Costs)]] (.one (.d (.bool (goodSys Size Sets Costs))))) ∧ (((!(goodSys Size Sets Costs)) = true → (((0 : Nat) = 0) ∧ (([] : List Int) = (lhL Size Sets Costs)) ∧ (false = (lhOk Size Sets Costs)))) ∧ ((!(goodSys Size Sets Costs)) = false → (PC Try.prog 87 [.agg [.int .i64 Size, .sl (.rows Sets), .sl (.ints Costs)]] (.one (.d (.agg [.int .i64 (Sets.length : Int), .sl (.rows (turnR Sets Size.toNat)), .sl (.ints (List.replicate Size.toNat 1))])))) ∧ (PC Try.prog 125 [.agg [.int .i64 (Sets.length : Int), .sl (.rows (turnR Sets Size.toNat)), .sl (.ints (List.replicate Size.toNat 1))]] (.tup [.d (.sl (.ints (if coverB (Sets.length : Int) (turnR Sets Size.toNat) (allN (turnR Sets Size.toNat).length) = true then lcS (Sets.length : Int) (turnR Sets Size.toNat) (List.replicate Size.toNat 1) else []))), .d (.bool (coverB (Sets.length : Int) (turnR Sets Size.toNat) (allN (turnR Sets Size.toNat).length)))])) ∧ ((((if coverB (Sets.length : Int) (turnR Sets Size.toNat) (allN (turnR Sets Size.toNat).length) = true then lcS (Sets.length : Int) (turnR Sets Size.toNat) (List.replicate Size.toNat 1) else []) : List Int) = (lhL Size Sets Costs)) ∧ ((coverB (Sets.length : Int) (turnR Sets Size.toNat) (allN (turnR Sets Size.toNat).length)) = (lhOk Size Sets Costs)))))
theorem s_LeastHitting_vc (Size : Int) (Sets : List (List Int)) (Costs : List Int)  (w_Sets : (Sets.length : Int) ≤ 9223372036854775807) (v_Sets : ∀ x9 ∈ Sets, (x9.length : Int) ≤ 9223372036854775807) (w_Costs : (Costs.length : Int) ≤ 9223372036854775807) : s_LeastHitting_P Size Sets Costs := by
  unfold s_LeastHitting_P
  refine ⟨s_l6Good_pc Size Sets Costs, ?_, ?_⟩
  · intro b1
    try simp only [nrmT] at b1
    refine ⟨rfl, ?_, ?_⟩
    · have hq : goodSys Size Sets Costs = false := by simpa using b1
      unfold lhL; rw [hq]; rfl
    · have hq : goodSys Size Sets Costs = false := by simpa using b1
      unfold lhOk; rw [hq]; rfl
  · intro b2
    try simp only [nrmT] at b2
    refine ⟨?_, ?_, ?_, ?_⟩
    · refine s_l6Turned_pc Size Sets Costs ?_
      · have hq : goodSys Size Sets Costs = true := by simpa using b2
        exact hq
    · refine s_l6Least_pc (Sets.length : Int) (turnR Sets Size.toNat) (List.replicate Size.toNat 1) ?_
      · have hq : goodSys Size Sets Costs = true := by simpa using b2
        exact turn_good hq
    · have hq : goodSys Size Sets Costs = true := by simpa using b2
      unfold lhL; rw [if_pos hq, (lh_same hq).1]
    · have hq : goodSys Size Sets Costs = true := by simpa using b2
      unfold lhOk; rw [hq, Bool.true_and, (lh_same hq).2]
theorem s_LeastHitting_pc (Size : Int) (Sets : List (List Int)) (Costs : List Int)  : PC Try.prog 68 [.agg [.int .i64 Size, .sl (.rows Sets), .sl (.ints Costs)]] (.tup [.d (.sl (.ints (lhL Size Sets Costs))), .d (.bool (lhOk Size Sets Costs))]) :=
  pc_wf @Try.call68 fun hw => pc_by (by kernel_rfl) Try.func68 @Try.call68 (by kernel_rfl) s_LeastHitting_C (s_LeastHitting_A Size Sets Costs) (by kernel_rfl) (s_LeastHitting_vc Size Sets Costs hw.1.2.1.1 hw.1.2.1.2 hw.1.2.2.1) (by kernel_rfl)
def s_LeastHitting_orc : List D → Orc := orcN [none] fun ds => match ds with
  | [.agg [.int .i64 Size, .sl (.rows Sets), .sl (.ints Costs)]] => some (.tup [.d (.sl (.ints (lhL Size Sets Costs))), .d (.bool (lhOk Size Sets Costs))])
  | _ => none
def i_LeastHitting_C (f : FuncId) (ds : List D) : Orc := bif Nat.beq f 88 then i_IsSystem_orc ds else bif Nat.beq f 89 then i_System_turned_orc ds else bif Nat.beq f 61 then i_LeastCover_orc ds else .no
def i_LeastHitting_A (Size : Int) (Sets : List (List Int)) (Costs : List Int) : Ann := .none
def i_LeastHitting_P (Size : Int) (Sets : List (List Int)) (Costs : List Int) : Prop :=
  (PC Try.prog 88 [.agg [.int .i64 Size, .sl (.rows Sets), .sl (.ints Costs)]] (.one (.d (.bool (goodSys Size Sets Costs))))) ∧ (((!(goodSys Size Sets Costs)) = true → (((lhL Size Sets Costs).length = 0) ∧ (false = (lhOk Size Sets Costs)))) ∧ ((!(goodSys Size Sets Costs)) = false → (PC Try.prog 89 [.agg [.int .i64 Size, .sl (.rows Sets), .sl (.ints Costs)]] (.one (.d (.agg [.int .i64 (Sets.length : Int), .sl (.rows (turnR Sets Size.toNat)), .sl (.ints (List.replicate Size.toNat 1))])))) ∧ (PC Try.prog 61 [.agg [.int .i64 (Sets.length : Int), .sl (.rows (turnR Sets Size.toNat)), .sl (.ints (List.replicate Size.toNat 1))]] (.tup [.d (.sl (.ints (lcL (Sets.length : Int) (turnR Sets Size.toNat) (List.replicate Size.toNat 1)))), .d (.bool (lcOk (Sets.length : Int) (turnR Sets Size.toNat) (List.replicate Size.toNat 1)))])) ∧ ((((lcL (Sets.length : Int) (turnR Sets Size.toNat) (List.replicate Size.toNat 1)) : List Int) = (lhL Size Sets Costs)) ∧ ((lcOk (Sets.length : Int) (turnR Sets Size.toNat) (List.replicate Size.toNat 1)) = (lhOk Size Sets Costs)))))
theorem i_LeastHitting_vc (Size : Int) (Sets : List (List Int)) (Costs : List Int)  (w_Sets : (Sets.length : Int) ≤ 9223372036854775807) (v_Sets : ∀ x9 ∈ Sets, (x9.length : Int) ≤ 9223372036854775807) (w_Costs : (Costs.length : Int) ≤ 9223372036854775807) : i_LeastHitting_P Size Sets Costs := by
  unfold i_LeastHitting_P
  refine ⟨i_IsSystem_pc Size Sets Costs, ?_, ?_⟩
  · intro b1
    try simp only [nrmT] at b1
    refine ⟨?_, ?_⟩
    · have hq : goodSys Size Sets Costs = false := by simpa using b1
      unfold lhL; rw [hq]; rfl
    · have hq : goodSys Size Sets Costs = false := by simpa using b1
      unfold lhOk; rw [hq]; rfl
  · intro b2
    try simp only [nrmT] at b2
    refine ⟨?_, i_LeastCover_pc (Sets.length : Int) (turnR Sets Size.toNat) (List.replicate Size.toNat 1), ?_, ?_⟩
    · refine i_System_turned_pc Size Sets Costs ?_
      · have hq : goodSys Size Sets Costs = true := by simpa using b2
        exact hq
    · have hq : goodSys Size Sets Costs = true := by simpa using b2
      unfold lhL; rw [if_pos hq]
    · have hq : goodSys Size Sets Costs = true := by simpa using b2
      unfold lhOk; rw [hq, Bool.true_and]
theorem i_LeastHitting_pc (Size : Int) (Sets : List (List Int)) (Costs : List Int)  : PC Try.prog 69 [.agg [.int .i64 Size, .sl (.rows Sets), .sl (.ints Costs)]] (.tup [.d (.sl (.ints (lhL Size Sets Costs))), .d (.bool (lhOk Size Sets Costs))]) :=
  pc_wf @Try.call69 fun hw => pc_by (by kernel_rfl) Try.func69 @Try.call69 (by kernel_rfl) i_LeastHitting_C (i_LeastHitting_A Size Sets Costs) (by kernel_rfl) (i_LeastHitting_vc Size Sets Costs hw.1.2.1.1 hw.1.2.1.2 hw.1.2.2.1) (by kernel_rfl)
def l_FnExactLeastHitting_C (f : FuncId) (ds : List D) : Orc := bif Nat.beq f 36 then l_szSystem_orc ds else bif Nat.beq f 38 then l_toSystem_orc ds else bif Nat.beq f 68 then s_LeastHitting_orc ds else bif Nat.beq f 24 then l_eqIntS_orc ds else bif Nat.beq f 31 then l_eqSystem_orc ds else bif Nat.beq f 26 then l_heldIntS_orc ds else .no
def l_FnExactLeastHitting_A (Size : Int) (Sets : List (List Int)) (Costs : List Int) : Ann := .two (.none) (.two (.none) (.two (.none) (.two (.none) (.two (.reg [(1, .g)]) (.two (.reg [(1, .g)]) (.two (.mark [] 1 (.vcall (.tup [.d (.sl (.ints (lhL Size Sets Costs))), .d (.bool (lhOk Size Sets Costs))]))) (.two (.none) (.two (.two (.reg [(2, .g)]) (.none)) (.two (.none) (.two (.mark [] 2 (.kill (1 + ((Sets.map List.length).sum : Int) + (Costs.length : Int)))) (.two (.none) (.two (.none) (.two (.mark [] 2 (.wv (marks 1 (lhL Size Sets Costs).length) (1 + ((lhL Size Sets Costs).length : Int)))) (.two (.none) (.two (.none) (.two (.none) (.two (.none) (.two (.mark [(1, .g)] 2 (.vcall (.tup [.d (.sl (.ints (lhL Size Sets Costs))), .d (.bool (lhOk Size Sets Costs))]))) (.none)))))))))))))))))))
def l_FnExactLeastHitting_P (Size : Int) (Sets : List (List Int)) (Costs : List Int) : Prop :=
  (PC Try.prog 36 [.agg [.int .i64 Size, .sl (.rows Sets), .sl (.ints Costs)], .int .i64 1048576] (.one (.d (.int .i64 (szSys Sets Costs 1048576))))) ∧ (((decide ((szSys Sets Costs 1048576) < 0)) = true → ((true = true))) ∧ ((decide ((szSys Sets Costs 1048576) < 0)) = false → (PC Try.prog 38 [.agg [.int .i64 Size, .sl (.rows Sets), .sl (.ints Costs)]] (.one (.d (.agg [.int .i64 Size, .sl (.rows Sets), .sl (.ints Costs)])))) ∧ (PC Try.prog 68 [.agg [.int .i64 Size, .sl (.rows Sets), .sl (.ints Costs)]] (.tup [.d (.sl (.ints (lhL Size Sets Costs))), .d (.bool (lhOk Size Sets Costs))])) ∧ (PC Try.prog 38 [.agg [.int .i64 Size, .sl (.rows Sets), .sl (.ints Costs)]] (.one (.d (.agg [.int .i64 Size, .sl (.rows Sets), .sl (.ints Costs)])))) ∧ (PC Try.prog 69 [.agg [.int .i64 Size, .sl (.rows Sets), .sl (.ints Costs)]] (.tup [.d (.sl (.ints (lhL Size Sets Costs))), .d (.bool (lhOk Size Sets Costs))])) ∧ ((lhL Size Sets Costs).length = (lhL Size Sets Costs).length) ∧ (PC Try.prog 24 [.sl (.ints (lhL Size Sets Costs)), .sl (.ints (lhL Size Sets Costs))] (.one (.d (.bool ((lhL Size Sets Costs) == (lhL Size Sets Costs)))))) ∧ ((!(!((lhL Size Sets Costs) == (lhL Size Sets Costs)))) = true → (!(!((lhL Size Sets Costs) == (lhL Size Sets Costs)))) = true) ∧ ((!(!((lhL Size Sets Costs) == (lhL Size Sets Costs)))) = true → (!(!((lhL Size Sets Costs) == (lhL Size Sets Costs)))) = true) ∧ (true = true) ∧ (((!((lhL Size Sets Costs) == (lhL Size Sets Costs))) = true → true = true)) ∧ (((!((lhL Size Sets Costs) == (lhL Size Sets Costs))) = false → (!(!((lhL Size Sets Costs) == (lhL Size Sets Costs)))) = true)) ∧ (((cond (!((lhL Size Sets Costs) == (lhL Size Sets Costs))) true ((lhOk Size Sets Costs) != (lhOk Size Sets Costs))) = true → ((false = true))) ∧ ((cond (!((lhL Size Sets Costs) == (lhL Size Sets Costs))) true ((lhOk Size Sets Costs) != (lhOk Size Sets Costs))) = false → (true = true) ∧ (PC Try.prog 38 [.agg [.int .i64 Size, .sl (.rows Sets), .sl (.ints Costs)]] (.one (.d (.agg [.int .i64 Size, .sl (.rows Sets), .sl (.ints Costs)])))) ∧ (PC Try.prog 31 [.agg [.int .i64 Size, .sl (.rows Sets), .sl (.ints Costs)], .agg [.int .i64 Size, .sl (.rows Sets), .sl (.ints Costs)]] (.one (.d (.bool ((Size == Size) && (Sets == Sets) && (Costs == Costs)))))) ∧ (((!((Size == Size) && (Sets == Sets) && (Costs == Costs))) = true → ((false = true))) ∧ ((!((Size == Size) && (Sets == Sets) && (Costs == Costs))) = false → (PG Try.prog 34 [.agg [.any, .rows (Sets.map List.length), .ints Costs.length], .int 1] (1 + ((Sets.map List.length).sum : Int) + (Costs.length : Int))) ∧ ((!(decide ((1 + ((Sets.map List.length).sum : Int) + (Costs.length : Int)) < 0))) = true → (!(decide ((1 + ((Sets.map List.length).sum : Int) + (Costs.length : Int)) < 0))) = true) ∧ ((!(decide ((1 + ((Sets.map List.length).sum : Int) + (Costs.length : Int)) < 0))) = true → (!(decide ((1 + ((Sets.map List.length).sum : Int) + (Costs.length : Int)) < 0))) = true) ∧ (((!(decide ((1 + ((Sets.map List.length).sum : Int) + (Costs.length : Int)) < 0))) = true → (lhL Size Sets Costs).length = (lhL Size Sets Costs).length)) ∧ ((!(decide ((1 + ((Sets.map List.length).sum : Int) + (Costs.length : Int)) < 0))) = true → PC Try.prog 24 [.sl (.ints (lhL Size Sets Costs)), .sl (.ints (lhL Size Sets Costs))] (.one (.d (.bool ((lhL Size Sets Costs) == (lhL Size Sets Costs)))))) ∧ ((!(decide ((1 + ((Sets.map List.length).sum : Int) + (Costs.length : Int)) < 0))) = true → (!(decide ((1 + ((Sets.map List.length).sum : Int) + (Costs.length : Int)) < 0))) = true) ∧ (true = true) ∧ (((decide ((1 + ((Sets.map List.length).sum : Int) + (Costs.length : Int)) < 0)) = true → true = true)) ∧ (((decide ((1 + ((Sets.map List.length).sum : Int) + (Costs.length : Int)) < 0)) = false → (!(decide ((1 + ((Sets.map List.length).sum : Int) + (Costs.length : Int)) < 0))) = true)) ∧ ((!(cond (decide ((1 + ((Sets.map List.length).sum : Int) + (Costs.length : Int)) < 0)) true (!((lhL Size Sets Costs) == (lhL Size Sets Costs))))) = true → (!(cond (decide ((1 + ((Sets.map List.length).sum : Int) + (Costs.length : Int)) < 0)) true (!((lhL Size Sets Costs) == (lhL Size Sets Costs))))) = true) ∧ ((!(cond (decide ((1 + ((Sets.map List.length).sum : Int) + (Costs.length : Int)) < 0)) true (!((lhL Size Sets Costs) == (lhL Size Sets Costs))))) = true → (!(cond (decide ((1 + ((Sets.map List.length).sum : Int) + (Costs.length : Int)) < 0)) true (!((lhL Size Sets Costs) == (lhL Size Sets Costs))))) = true) ∧ (true = true) ∧ (((cond (decide ((1 + ((Sets.map List.length).sum : Int) + (Costs.length : Int)) < 0)) true (!((lhL Size Sets Costs) == (lhL Size Sets Costs)))) = true → true = true)) ∧ (((cond (decide ((1 + ((Sets.map List.length).sum : Int) + (Costs.length : Int)) < 0)) true (!((lhL Size Sets Costs) == (lhL Size Sets Costs)))) = false → (!(cond (decide ((1 + ((Sets.map List.length).sum : Int) + (Costs.length : Int)) < 0)) true (!((lhL Size Sets Costs) == (lhL Size Sets Costs))))) = true)) ∧ (((cond (cond (decide ((1 + ((Sets.map List.length).sum : Int) + (Costs.length : Int)) < 0)) true (!((lhL Size Sets Costs) == (lhL Size Sets Costs)))) true ((lhOk Size Sets Costs) != (lhOk Size Sets Costs))) = true → ((false = true))) ∧ ((cond (cond (decide ((1 + ((Sets.map List.length).sum : Int) + (Costs.length : Int)) < 0)) true (!((lhL Size Sets Costs) == (lhL Size Sets Costs)))) true ((lhOk Size Sets Costs) != (lhOk Size Sets Costs))) = false → ((lhL Size Sets Costs).length = (lhL Size Sets Costs).length) ∧ ((marks 1 (lhL Size Sets Costs).length).length = (lhL Size Sets Costs).length) ∧ (PX Try.prog 25 (lhL Size Sets Costs) (marks 1 (lhL Size Sets Costs).length) 1 (1 + ((lhL Size Sets Costs).length : Int))) ∧ ((lhL Size Sets Costs).length = (marks 1 (lhL Size Sets Costs).length).length) ∧ (PC Try.prog 26 [.sl (.ints (marks 1 (lhL Size Sets Costs).length)), .int .i64 1] (.one (.d (.int .i64 (1 + ((marks 1 (lhL Size Sets Costs).length).length : Int)))))) ∧ (((decide ((1 + ((marks 1 (lhL Size Sets Costs).length).length : Int)) < 0)) = true → ((false = true))) ∧ ((decide ((1 + ((marks 1 (lhL Size Sets Costs).length).length : Int)) < 0)) = false → ((((1 + ((marks 1 (lhL Size Sets Costs).length).length : Int)) != (1 + ((lhL Size Sets Costs).length : Int))) = true → ((false = true))) ∧ (((1 + ((marks 1 (lhL Size Sets Costs).length).length : Int)) != (1 + ((lhL Size Sets Costs).length : Int))) = false → (PC Try.prog 38 [.agg [.int .i64 Size, .sl (.rows Sets), .sl (.ints Costs)]] (.one (.d (.agg [.int .i64 Size, .sl (.rows Sets), .sl (.ints Costs)])))) ∧ (PC Try.prog 69 [.agg [.int .i64 Size, .sl (.rows Sets), .sl (.ints Costs)]] (.tup [.d (.sl (.ints (lhL Size Sets Costs))), .d (.bool (lhOk Size Sets Costs))])) ∧ ((lhL Size Sets Costs).length = (lhL Size Sets Costs).length) ∧ (PC Try.prog 24 [.sl (.ints (lhL Size Sets Costs)), .sl (.ints (lhL Size Sets Costs))] (.one (.d (.bool ((lhL Size Sets Costs) == (lhL Size Sets Costs)))))) ∧ ((!(!((lhL Size Sets Costs) == (lhL Size Sets Costs)))) = true → (!(!((lhL Size Sets Costs) == (lhL Size Sets Costs)))) = true) ∧ ((!(!((lhL Size Sets Costs) == (lhL Size Sets Costs)))) = true → (!(!((lhL Size Sets Costs) == (lhL Size Sets Costs)))) = true) ∧ (true = true) ∧ (((!((lhL Size Sets Costs) == (lhL Size Sets Costs))) = true → true = true)) ∧ (((!((lhL Size Sets Costs) == (lhL Size Sets Costs))) = false → (!(!((lhL Size Sets Costs) == (lhL Size Sets Costs)))) = true)) ∧ (((cond (!((lhL Size Sets Costs) == (lhL Size Sets Costs))) true ((lhOk Size Sets Costs) != (lhOk Size Sets Costs))) = true → ((false = true))) ∧ ((cond (!((lhL Size Sets Costs) == (lhL Size Sets Costs))) true ((lhOk Size Sets Costs) != (lhOk Size Sets Costs))) = false → ((lhL Size Sets Costs).length = (marks 1 (lhL Size Sets Costs).length).length) ∧ (PC Try.prog 26 [.sl (.ints (marks 1 (lhL Size Sets Costs).length)), .int .i64 1] (.one (.d (.int .i64 (1 + ((marks 1 (lhL Size Sets Costs).length).length : Int)))))) ∧ (((decide ((1 + ((marks 1 (lhL Size Sets Costs).length).length : Int)) < 0)) = true → ((false = true))) ∧ ((decide ((1 + ((marks 1 (lhL Size Sets Costs).length).length : Int)) < 0)) = false → ((((1 + ((marks 1 (lhL Size Sets Costs).length).length : Int)) != (1 + ((lhL Size Sets Costs).length : Int))) = true → ((false = true))) ∧ (((1 + ((marks 1 (lhL Size Sets Costs).length).length : Int)) != (1 + ((lhL Size Sets Costs).length : Int))) = false → ((true = true))))))))))))))))))))
theorem l_FnExactLeastHitting_vc (Size : Int) (Sets : List (List Int)) (Costs : List Int)  (w_Sets : (Sets.length : Int) ≤ 9223372036854775807) (v_Sets : ∀ x9 ∈ Sets, (x9.length : Int) ≤ 9223372036854775807) (w_Costs : (Costs.length : Int) ≤ 9223372036854775807) : l_FnExactLeastHitting_P Size Sets Costs := by
  unfold l_FnExactLeastHitting_P
  refine ⟨?_, ?_, ?_⟩
  · refine l_szSystem_pc Size Sets Costs 1048576 ?_
    · first | omega | rfl | (intro hg; simp only [nrmT] at hg; omega) | (intro g1 g2; simp [g1, g2]; done) | (intro g1; simp at g1 ⊢; simp [g1]; done) | (simp only [nrmT] at *; omega) | (simp at * <;> omega) | (simp_all <;> omega) | (simp_all; done)
  · intro b1
    try simp only [nrmT] at b1
    exact rfl
  · intro b2
    try simp only [nrmT] at b2
    refine ⟨?_, s_LeastHitting_pc Size Sets Costs, ?_, i_LeastHitting_pc Size Sets Costs, rfl, l_eqIntS_pc (lhL Size Sets Costs) (lhL Size Sets Costs), id, id, rfl, fun _ => rfl, ?_, ?_, ?_⟩
    · refine l_toSystem_pc Size Sets Costs ?_ ?_ ?_
      · have := szSys_bound b2; omega
      · have h := (szSys_bound b2).2.1
        intro xs hx
        have h := h xs hx
        omega
      · have := szSys_bound b2; omega
    · refine l_toSystem_pc Size Sets Costs ?_ ?_ ?_
      · have := szSys_bound b2; omega
      · have h := (szSys_bound b2).2.1
        intro xs hx
        have h := h xs hx
        omega
      · have := szSys_bound b2; omega
    · intro h; rw [h]; rfl
    · intro b3
      first | (exfalso; simp only [marks_len] at b3; omega) | (simp at b3; done) | (exfalso; simp only [marks_len] at b3; simp at b3; done) | omega | rfl | (intro hg; simp only [nrmT] at hg; omega) | (intro g1 g2; simp [g1, g2]; done) | (intro g1; simp at g1 ⊢; simp [g1]; done) | (simp only [nrmT] at *; omega) | (simp at * <;> omega) | (simp_all <;> omega) | (simp_all; done)
    · intro b4
      refine ⟨rfl, ?_, l_eqSystem_pc Size Sets Costs Size Sets Costs, ?_, ?_⟩
      · refine l_toSystem_pc Size Sets Costs ?_ ?_ ?_
        · have := szSys_bound b2; omega
        · have h := (szSys_bound b2).2.1
          intro xs hx
          have h := h xs hx
          omega
        · have := szSys_bound b2; omega
      · intro b5
        try simp only [Bool.not_eq_true', Bool.not_eq_false', Bool.not_not] at b5
        first | (exfalso; simp only [marks_len] at b5; omega) | (simp at b5; done) | (exfalso; simp only [marks_len] at b5; simp at b5; done) | omega | rfl | (intro hg; simp only [nrmT] at hg; omega) | (intro g1 g2; simp [g1, g2]; done) | (intro g1; simp at g1 ⊢; simp [g1]; done) | (simp only [nrmT] at *; omega) | (simp at * <;> omega) | (simp_all <;> omega) | (simp_all; done)
      · intro b6
        try simp only [Bool.not_eq_true', Bool.not_eq_false', Bool.not_not] at b6
        refine ⟨?_, id, id, fun _ => rfl, fun _ => l_eqIntS_pc (lhL Size Sets Costs) (lhL Size Sets Costs), id, rfl, fun _ => rfl, ?_, id, id, rfl, fun _ => rfl, ?_, ?_, ?_⟩
        · refine laws_markSystem_g_pg (Sets.map List.length) Costs.length 1 ?_ ?_ ?_
          · first | omega | rfl | (intro hg; simp only [nrmT] at hg; omega) | (intro g1 g2; simp [g1, g2]; done) | (intro g1; simp at g1 ⊢; simp [g1]; done) | (simp only [nrmT] at *; omega) | (simp at * <;> omega) | (simp_all <;> omega) | (simp_all; done)
          · rw [List.length_map]; have hz := szSys_bound b2; omega
          · have hz := szSys_bound b2
            have hs := sum_lens20 (xss := Sets) (by omega) (fun xs hx => by have := hz.2.1 xs hx; omega)
            omega
        · first | omega | rfl | (intro hg; simp only [nrmT] at hg; omega) | (intro g1 g2; simp [g1, g2]; done) | (intro g1; simp at g1 ⊢; simp [g1]; done) | (simp only [nrmT] at *; omega) | (simp at * <;> omega) | (simp_all <;> omega) | (simp_all; done)
        · intro h; rw [h]; rfl
        · intro b7
          first | (exfalso; simp only [marks_len] at b7; omega) | (simp at b7; done) | (exfalso; simp only [marks_len] at b7; simp at b7; done) | omega | rfl | (intro hg; simp only [nrmT] at hg; omega) | (intro g1 g2; simp [g1, g2]; done) | (intro g1; simp at g1 ⊢; simp [g1]; done) | (simp only [nrmT] at *; omega) | (simp at * <;> omega) | (simp_all <;> omega) | (simp_all; done)
        · intro b8
          refine ⟨rfl, marks_len _ _, ?_, ?_, ?_, ?_, ?_⟩
          · refine laws_markIntS_w_px (lhL Size Sets Costs) 1 ?_ ?_
            · first | omega | rfl | (intro hg; simp only [nrmT] at hg; omega) | (intro g1 g2; simp [g1, g2]; done) | (intro g1; simp at g1 ⊢; simp [g1]; done) | (simp only [nrmT] at *; omega) | (simp at * <;> omega) | (simp_all <;> omega) | (simp_all; done)
            · have := @lhL_len Size Sets Costs
              omega
          · simp only [marks_len]
          · refine l_heldIntS_pc (marks 1 (lhL Size Sets Costs).length) 1 ?_ ?_ ?_
            · first | omega | rfl | (intro hg; simp only [nrmT] at hg; omega) | (intro g1 g2; simp [g1, g2]; done) | (intro g1; simp at g1 ⊢; simp [g1]; done) | (simp only [nrmT] at *; omega) | (simp at * <;> omega) | (simp_all <;> omega) | (simp_all; done)
            · simp only [marks_len]
            · simp only [marks_len]
              have := @lhL_len Size Sets Costs
              omega
          · intro b9
            try simp only [nrmT] at b9
            first | (exfalso; simp only [marks_len] at b9; omega) | (simp at b9; done) | (exfalso; simp only [marks_len] at b9; simp at b9; done) | omega | rfl | (intro hg; simp only [nrmT] at hg; omega) | (intro g1 g2; simp [g1, g2]; done) | (intro g1; simp at g1 ⊢; simp [g1]; done) | (simp only [nrmT] at *; omega) | (simp at * <;> omega) | (simp_all <;> omega) | (simp_all; done)
          · intro b10
            try simp only [nrmT] at b10
            refine ⟨?_, ?_⟩
            · intro b11
              try simp only [nrmT] at b11
              first | (exfalso; simp only [marks_len] at b11; omega) | (simp at b11; done) | (exfalso; simp only [marks_len] at b11; simp at b11; done) | omega | rfl | (intro hg; simp only [nrmT] at hg; omega) | (intro g1 g2; simp [g1, g2]; done) | (intro g1; simp at g1 ⊢; simp [g1]; done) | (simp only [nrmT] at *; omega) | (simp at * <;> omega) | (simp_all <;> omega) | (simp_all; done)
            · intro b12
              try simp only [nrmT] at b12
              refine ⟨?_, i_LeastHitting_pc Size Sets Costs, rfl, l_eqIntS_pc (lhL Size Sets Costs) (lhL Size Sets Costs), id, id, rfl, fun _ => rfl, ?_, ?_, ?_⟩
              · refine l_toSystem_pc Size Sets Costs ?_ ?_ ?_
                · have := szSys_bound b2; omega
                · have h := (szSys_bound b2).2.1
                  intro xs hx
                  have h := h xs hx
                  omega
                · have := szSys_bound b2; omega
              · intro h; rw [h]; rfl
              · intro b13
                first | (exfalso; simp only [marks_len] at b13; omega) | (simp at b13; done) | (exfalso; simp only [marks_len] at b13; simp at b13; done) | omega | rfl | (intro hg; simp only [nrmT] at hg; omega) | (intro g1 g2; simp [g1, g2]; done) | (intro g1; simp at g1 ⊢; simp [g1]; done) | (simp only [nrmT] at *; omega) | (simp at * <;> omega) | (simp_all <;> omega) | (simp_all; done)
              · intro b14
                refine ⟨?_, ?_, ?_, ?_⟩
                · simp only [marks_len]
                · refine l_heldIntS_pc (marks 1 (lhL Size Sets Costs).length) 1 ?_ ?_ ?_
                  · first | omega | rfl | (intro hg; simp only [nrmT] at hg; omega) | (intro g1 g2; simp [g1, g2]; done) | (intro g1; simp at g1 ⊢; simp [g1]; done) | (simp only [nrmT] at *; omega) | (simp at * <;> omega) | (simp_all <;> omega) | (simp_all; done)
                  · simp only [marks_len]
                  · simp only [marks_len]
                    have := @lhL_len Size Sets Costs
                    omega
                · intro b15
                  try simp only [nrmT] at b15
                  first | (exfalso; simp only [marks_len] at b15; omega) | (simp at b15; done) | (exfalso; simp only [marks_len] at b15; simp at b15; done) | omega | rfl | (intro hg; simp only [nrmT] at hg; omega) | (intro g1 g2; simp [g1, g2]; done) | (intro g1; simp at g1 ⊢; simp [g1]; done) | (simp only [nrmT] at *; omega) | (simp at * <;> omega) | (simp_all <;> omega) | (simp_all; done)
                · intro b16
                  try simp only [nrmT] at b16
                  refine ⟨?_, ?_⟩
                  · intro b17
                    try simp only [nrmT] at b17
                    first | (exfalso; simp only [marks_len] at b17; omega) | (simp at b17; done) | (exfalso; simp only [marks_len] at b17; simp at b17; done) | omega | rfl | (intro hg; simp only [nrmT] at hg; omega) | (intro g1 g2; simp [g1, g2]; done) | (intro g1; simp at g1 ⊢; simp [g1]; done) | (simp only [nrmT] at *; omega) | (simp at * <;> omega) | (simp_all <;> omega) | (simp_all; done)
                  · intro b18
                    try simp only [nrmT] at b18
                    exact rfl
theorem l_FnExactLeastHitting_pc (Size : Int) (Sets : List (List Int)) (Costs : List Int)  : PC Try.prog 20 [.agg [.int .i64 Size, .sl (.rows Sets), .sl (.ints Costs)]] (.one (.d (.bool true))) :=
  pc_wf @Try.call20 fun hw => pc_by (by kernel_rfl) Try.func20 @Try.call20 (by kernel_rfl) l_FnExactLeastHitting_C (l_FnExactLeastHitting_A Size Sets Costs) (by kernel_rfl) (l_FnExactLeastHitting_vc Size Sets Costs hw.1.2.1.1 hw.1.2.1.2 hw.1.2.2.1) (by kernel_rfl)
end Go.Proofs.Ytmmoejdglnnmcaa
