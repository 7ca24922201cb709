/- Contracts of the functions that the law reaches. -/
import Derived.Test.YtmmoejdglnnmcaaPw
import Derived.Test.YtmmoejdglnnmcaaPma
import Derived.Test.YtmmoejdglnnmcaaPua
import Derived.Test.YtmmoejdglnnmcaaPub
import Derived.Test.YtmmoejdglnnmcaaSh
import Derived.Test.YtmmoejdglnnmcaaProg
import Derived.KernelRfl
set_option linter.unusedVariables false
set_option linter.unusedSimpArgs false
namespace Go.Proofs.Ytmmoejdglnnmcaa
open Go

def s_l1In_C (f : FuncId) (ds : List D) : Orc := .no
def s_l1In_A (x : Int) (a : Int) (b : Int) : Ann := .none
def s_l1In_P (x : Int) (a : Int) (b : Int) : Prop :=
  ((decide (x ≥ a)) = true → (decide (x ≥ a)) = true) ∧ ((decide (x ≥ a)) = true → (decide (x ≥ a)) = true) ∧ (true = true) ∧ (((decide (x ≥ a)) = true → (decide (x ≥ a)) = true)) ∧ (((decide (x ≥ a)) = false → true = true)) ∧ (((cond (decide (x ≥ a)) (decide (x ≤ b)) false) = (inB x a b)))
theorem s_l1In_vc (x : Int) (a : Int) (b : Int)   : s_l1In_P x a b := by
  unfold s_l1In_P
  refine ⟨id, id, rfl, id, fun _ => rfl, ?_⟩
  · first | omega | rfl | (intro hg; simp only [nrmT] at hg; omega) | (intro g1 g2; simp [g1, g2]; done) | (intro g1; simp at g1 ⊢; simp [g1]; done) | (simp only [nrmT] at *; omega) | (simp at * <;> omega) | (simp_all <;> omega) | (simp_all; done) | (simp [inB]; omega) | (simp only [inB]; by_cases h : a ≤ x <;> simp_all)
theorem s_l1In_pc (x : Int) (a : Int) (b : Int)  : PC Try.prog 78 [.int .i64 x, .int .i64 a, .int .i64 b] (.one (.d (.bool (inB x a b)))) :=
  pc_wf @Try.call78 fun _ => pc_by (by kernel_rfl) Try.func78 @Try.call78 (by kernel_rfl) s_l1In_C (s_l1In_A x a b) (by kernel_rfl) (s_l1In_vc x a b) (by kernel_rfl)
def s_l1In_orc : List D → Orc := orcN [none, none, none] fun ds => match ds with
  | [.int .i64 x, .int .i64 a, .int .i64 b] => some (.one (.d (.bool (inB x a b))))
  | _ => none
def i_between_C (f : FuncId) (ds : List D) : Orc := .no
def i_between_A (x : Int) (a : Int) (b : Int) : Ann := .none
def i_between_P (x : Int) (a : Int) (b : Int) : Prop :=
  ((decide (x ≥ a)) = true → (decide (x ≥ a)) = true) ∧ ((decide (x ≥ a)) = true → (decide (x ≥ a)) = true) ∧ (true = true) ∧ (((decide (x ≥ a)) = true → (decide (x ≥ a)) = true)) ∧ (((decide (x ≥ a)) = false → true = true)) ∧ (((cond (decide (x ≥ a)) (decide (x ≤ b)) false) = (inB x a b)))
theorem i_between_vc (x : Int) (a : Int) (b : Int)   : i_between_P x a b := by
  unfold i_between_P
  refine ⟨id, id, rfl, id, fun _ => rfl, ?_⟩
  · first | omega | rfl | (intro hg; simp only [nrmT] at hg; omega) | (intro g1 g2; simp [g1, g2]; done) | (intro g1; simp at g1 ⊢; simp [g1]; done) | (simp only [nrmT] at *; omega) | (simp at * <;> omega) | (simp_all <;> omega) | (simp_all; done) | (simp [inB]; omega) | (simp only [inB]; by_cases h : a ≤ x <;> simp_all)
theorem i_between_pc (x : Int) (a : Int) (b : Int)  : PC Try.prog 82 [.int .i64 x, .int .i64 a, .int .i64 b] (.one (.d (.bool (inB x a b)))) :=
  pc_wf @Try.call82 fun _ => pc_by (by kernel_rfl) Try.func82 @Try.call82 (by kernel_rfl) i_between_C (i_between_A x a b) (by kernel_rfl) (i_between_vc x a b) (by kernel_rfl)
def i_between_orc : List D → Orc := orcN [none, none, none] fun ds => match ds with
  | [.int .i64 x, .int .i64 a, .int .i64 b] => some (.one (.d (.bool (inB x a b))))
  | _ => none
def sz1 (n : Nat) (left : Int) : Int := if left - n < 0 then -1 else left - n
def szTo (xss : List (List Int)) (left : Int) (k : Nat) : Int := foldTo (fun l k => if l < 0 then l else sz1 (xss.getD k []).length l) left k
def szRows (xss : List (List Int)) (left : Int) : Int := if left - xss.length < 0 then -1 else szTo xss (left - xss.length) xss.length
theorem szTo_stuck {xss : List (List Int)} {left : Int} {k : Nat} (h : szTo xss left k < 0) : ∀ n, k ≤ n → szTo xss left n = szTo xss left k
  | 0, hk => by have : k = 0 := by omega
                rw [this]
  | n + 1, hk => by
    by_cases e : k = n + 1
    · rw [e]
    · have h2 := szTo_stuck h n (by omega)
      show (if szTo xss left n < 0 then szTo xss left n else _) = _
      rw [h2, if_pos h]
theorem szTo_step {xss : List (List Int)} {left : Int} {i : Int} (h0 : 0 ≤ i) (h : 0 ≤ szTo xss left i.toNat) : szTo xss left (i + 1).toNat = sz1 (xss.getD i.toNat []).length (szTo xss left i.toNat) := by
  have e : (i + 1).toNat = i.toNat + 1 := by omega
  rw [e]
  show (if szTo xss left i.toNat < 0 then _ else _) = _
  rw [if_neg (by omega)]
  rfl
theorem szTo_bound {xss : List (List Int)} {left : Int} : ∀ k, k ≤ xss.length → 0 ≤ szTo xss left k → szTo xss left k ≤ left ∧ ∀ j, j < k → ((xss.getD j []).length : Int) ≤ left
  | 0, _, _ => ⟨Int.le_refl _, fun j hj => by omega⟩
  | k + 1, hk, h => by
    have e : szTo xss left (k + 1) = if szTo xss left k < 0 then szTo xss left k else sz1 (xss.getD k []).length (szTo xss left k) := rfl
    rw [e] at h ⊢
    by_cases h2 : szTo xss left k < 0
    · rw [if_pos h2] at h; omega
    · rw [if_neg h2] at h ⊢
      obtain ⟨h3, h4⟩ := szTo_bound (xss := xss) (left := left) k (by omega) (by omega)
      unfold sz1 at h ⊢
      by_cases h5 : szTo xss left k - ((xss.getD k []).length : Int) < 0
      · rw [if_pos h5] at h; omega
      · rw [if_neg h5] at h ⊢
        refine ⟨by omega, fun j hj => ?_⟩
        by_cases ej : j = k
        · rw [ej]; omega
        · exact h4 j (by omega)
theorem szRows_bound {xss : List (List Int)} {left : Int} (h : 0 ≤ szRows xss left) : szRows xss left ≤ left ∧ (xss.length : Int) ≤ left ∧ ∀ xs ∈ xss, (xs.length : Int) ≤ left := by
  unfold szRows at h ⊢
  by_cases h2 : left - (xss.length : Int) < 0
  · rw [if_pos h2] at h; omega
  · rw [if_neg h2] at h ⊢
    obtain ⟨h3, h4⟩ := szTo_bound _ (Nat.le_refl _) h
    refine ⟨by omega, by omega, fun xs hx => ?_⟩
    obtain ⟨k, hk, rfl⟩ := List.mem_iff_getElem.1 hx
    have := h4 k hk
    simp [hk] at this
    omega
theorem sz1_neg {n : Nat} {left : Int} (h : sz1 n left < 0) : sz1 n left = -1 := by
  unfold sz1 at *
  by_cases c : left - (n : Int) < 0
  · rw [if_pos c]
  · rw [if_neg c] at h; omega
theorem sz1_bound {n : Nat} {left : Int} (h : 0 ≤ sz1 n left) : sz1 n left ≤ left ∧ (n : Int) ≤ left := by
  unfold sz1 at *
  split at h <;> simp_all <;> omega
def l_szIntS_C (f : FuncId) (ds : List D) : Orc := .no
def l_szIntS_A (xs : List Int) (left : Int) : Ann := .none
def l_szIntS_P (xs : List Int) (left : Int) : Prop :=
  (-9223372036854775808 ≤ (left - (xs.length : Int)) ∧ (left - (xs.length : Int)) ≤ 9223372036854775807) ∧ (((decide ((left - (xs.length : Int)) < 0)) = true → ((((-1) : Int) = (sz1 xs.length left)))) ∧ ((decide ((left - (xs.length : Int)) < 0)) = false → (((left - (xs.length : Int)) = (sz1 xs.length left)))))
theorem l_szIntS_vc (xs : List Int) (left : Int) (hl : 0 ≤ left ∧ left ≤ 1048576) (w_xs : (xs.length : Int) ≤ 9223372036854775807) : l_szIntS_P xs left := by
  unfold l_szIntS_P
  refine ⟨?_, ?_, ?_⟩
  · first | omega | rfl | (intro hg; simp only [nrmT] at hg; omega) | (intro g1 g2; simp [g1, g2]; done) | (intro g1; simp at g1 ⊢; simp [g1]; done) | (simp only [nrmT] at *; omega) | (simp at * <;> omega) | (simp_all <;> omega) | (simp_all; done)
  · intro b1
    try simp only [nrmT] at b1
    unfold sz1; split <;> omega
  · intro b2
    try simp only [nrmT] at b2
    unfold sz1; split <;> omega
theorem l_szIntS_pc (xs : List Int) (left : Int) (hl : 0 ≤ left ∧ left ≤ 1048576) : PC Try.prog 75 [.sl (.ints xs), .int .i64 left] (.one (.d (.int .i64 (sz1 xs.length left)))) :=
  pc_wf @Try.call75 fun hw => pc_by (by kernel_rfl) Try.func75 @Try.call75 (by kernel_rfl) l_szIntS_C (l_szIntS_A xs left) (by kernel_rfl) (l_szIntS_vc xs left hl hw.1) (by kernel_rfl)
def l_szIntS_orc : List D → Orc := orcN [some .ints, none] fun ds => match ds with
  | [.sl (.ints xs), .int .i64 left] => some (.one (.d (.int .i64 (sz1 xs.length left))))
  | _ => none
abbrev l_szIntSS_JJ0 (xss : List (List Int)) (left : Int) (left1 : Int) (i : Int) : Prop := (0 ≤ i) ∧ (i ≤ (xss.length : Int)) ∧ (left1 = szTo xss (left - xss.length) i.toNat) ∧ (0 ≤ left1 ∧ left1 ≤ 1048576) ∧ (0 ≤ left - (xss.length : Int))
abbrev l_szIntSS_mJ0 (xss : List (List Int)) (left : Int) (left1 : Int) (i : Int) : Nat := (xss.length - i).toNat
def l_szIntSS_C (f : FuncId) (ds : List D) : Orc := bif Nat.beq f 75 then l_szIntS_orc ds else .no
def l_szIntSS_A (xss : List (List Int)) (left : Int) : Ann := .two (.none) (.two (.none) (.two (.none) (.two (.two (.none) (.loop (cut2 (fun (left1 : Int) (i : Int) => l_szIntSS_JJ0 xss left left1 i) (fun (left1 : Int) (i : Int) => [(0, .d false (.sl (.rows xss))), (1, .d true (.int .i64 left1)), (5, .d true (.int .i64 i))]) (fun (left1 : Int) (i : Int) => [])) (fun g => l_szIntSS_mJ0 xss left g.1 g.2) (fun _ => .none))) (.none))))
def l_szIntSS_P (xss : List (List Int)) (left : Int) : Prop :=
  (-9223372036854775808 ≤ (left - (xss.length : Int)) ∧ (left - (xss.length : Int)) ≤ 9223372036854775807) ∧ (((decide ((left - (xss.length : Int)) < 0)) = true → ((((-1) : Int) = (szRows xss left)))) ∧ ((decide ((left - (xss.length : Int)) < 0)) = false → ((∃ left1' : Int, ∃ i' : Int, (l_szIntSS_JJ0 xss left left1' i') ∧ (xss = xss) ∧ ((left - (xss.length : Int)) = left1') ∧ ((0 : Int) = i')) ∧ (∀ left1 : Int, ∀ i : Int, (l_szIntSS_JJ0 xss left left1 i) → (((decide (i < (xss.length : Int))) = true → ((0 : Int) ≤ i) ∧ ((i : Int) < xss.length) ∧ (i.toNat < xss.length) ∧ (PC Try.prog 75 [.sl (.ints (xss.getD i.toNat [])), .int .i64 left1] (.one (.d (.int .i64 (sz1 (xss.getD i.toNat []).length left1))))) ∧ (((decide ((sz1 (xss.getD i.toNat []).length left1) < 0)) = true → ((((-1) : Int) = (szRows xss left)))) ∧ ((decide ((sz1 (xss.getD i.toNat []).length left1) < 0)) = false → (-9223372036854775808 ≤ (i + 1) ∧ (i + 1) ≤ 9223372036854775807) ∧ (∃ left1' : Int, ∃ i' : Int, (l_szIntSS_JJ0 xss left left1' i') ∧ (l_szIntSS_mJ0 xss left left1' i' < l_szIntSS_mJ0 xss left left1 i) ∧ (xss = xss) ∧ ((sz1 (xss.getD i.toNat []).length left1) = left1') ∧ ((i + 1) = i'))))) ∧ ((decide (i < (xss.length : Int))) = false → ((left1 = (szRows xss left)))))))))
theorem l_szIntSS_vc (xss : List (List Int)) (left : Int) (hl : 0 ≤ left ∧ left ≤ 1048576) (w_xss : (xss.length : Int) ≤ 9223372036854775807) (v_xss : ∀ x9 ∈ xss, (x9.length : Int) ≤ 9223372036854775807) : l_szIntSS_P xss left := by
  unfold l_szIntSS_P
  refine ⟨?_, ?_, ?_⟩
  · first | omega | rfl | (intro hg; simp only [nrmT] at hg; omega) | (intro g1 g2; simp [g1, g2]; done) | (intro g1; simp at g1 ⊢; simp [g1]; done) | (simp only [nrmT] at *; omega) | (simp at * <;> omega) | (simp_all <;> omega) | (simp_all; done)
  · intro b1
    try simp only [nrmT] at b1
    unfold szRows; rw [if_pos (by omega)]
  · intro b2
    try simp only [nrmT] at b2
    refine ⟨?_, ?_⟩
    · refine ⟨(left - (xss.length : Int)), 0, ?_⟩
      refine ⟨?_, rfl, rfl, rfl⟩
      · refine ⟨?_, ?_, ?_, ?_, ?_⟩
        · first | omega | rfl | (intro hg; simp only [nrmT] at hg; omega) | (intro g1 g2; simp [g1, g2]; done) | (intro g1; simp at g1 ⊢; simp [g1]; done) | (simp only [nrmT] at *; omega) | (simp at * <;> omega) | (simp_all <;> omega) | (simp_all; done)
        · first | omega | rfl | (intro hg; simp only [nrmT] at hg; omega) | (intro g1 g2; simp [g1, g2]; done) | (intro g1; simp at g1 ⊢; simp [g1]; done) | (simp only [nrmT] at *; omega) | (simp at * <;> omega) | (simp_all <;> omega) | (simp_all; done)
        · first | omega | rfl | (intro hg; simp only [nrmT] at hg; omega) | (intro g1 g2; simp [g1, g2]; done) | (intro g1; simp at g1 ⊢; simp [g1]; done) | (simp only [nrmT] at *; omega) | (simp at * <;> omega) | (simp_all <;> omega) | (simp_all; done)
        · first | omega | rfl | (intro hg; simp only [nrmT] at hg; omega) | (intro g1 g2; simp [g1, g2]; done) | (intro g1; simp at g1 ⊢; simp [g1]; done) | (simp only [nrmT] at *; omega) | (simp at * <;> omega) | (simp_all <;> omega) | (simp_all; done)
        · first | omega | rfl | (intro hg; simp only [nrmT] at hg; omega) | (intro g1 g2; simp [g1, g2]; done) | (intro g1; simp at g1 ⊢; simp [g1]; done) | (simp only [nrmT] at *; omega) | (simp at * <;> omega) | (simp_all <;> omega) | (simp_all; done)
    · intro left1 i hJ
      obtain ⟨h1, h2, h3, h4, h5⟩ := hJ
      refine ⟨?_, ?_⟩
      · intro b3
        try simp only [nrmT] at b3
        refine ⟨?_, ?_, ?_, ?_, ?_, ?_⟩
        · first | omega | rfl | (intro hg; simp only [nrmT] at hg; omega) | (intro g1 g2; simp [g1, g2]; done) | (intro g1; simp at g1 ⊢; simp [g1]; done) | (simp only [nrmT] at *; omega) | (simp at * <;> omega) | (simp_all <;> omega) | (simp_all; done)
        · first | omega | rfl | (intro hg; simp only [nrmT] at hg; omega) | (intro g1 g2; simp [g1, g2]; done) | (intro g1; simp at g1 ⊢; simp [g1]; done) | (simp only [nrmT] at *; omega) | (simp at * <;> omega) | (simp_all <;> omega) | (simp_all; done)
        · first | omega | rfl | (intro hg; simp only [nrmT] at hg; omega) | (intro g1 g2; simp [g1, g2]; done) | (intro g1; simp at g1 ⊢; simp [g1]; done) | (simp only [nrmT] at *; omega) | (simp at * <;> omega) | (simp_all <;> omega) | (simp_all; done)
        · refine l_szIntS_pc (xss.getD i.toNat []) left1 ?_
          · first | omega | rfl | (intro hg; simp only [nrmT] at hg; omega) | (intro g1 g2; simp [g1, g2]; done) | (intro g1; simp at g1 ⊢; simp [g1]; done) | (simp only [nrmT] at *; omega) | (simp at * <;> omega) | (simp_all <;> omega) | (simp_all; done)
        · intro b4
          try simp only [nrmT] at b4
          have e := szTo_step (xss := xss) (left := left - xss.length) h1 (by omega)
          rw [← h3] at e
          have e2 := szTo_stuck (k := (i + 1).toNat) (by rw [e]; exact b4) xss.length (by omega)
          unfold szRows
          rw [if_neg (by omega), e2, e]
          exact (sz1_neg b4).symm
        · intro b5
          try simp only [nrmT] at b5
          refine ⟨?_, ?_⟩
          · first | omega | rfl | (intro hg; simp only [nrmT] at hg; omega) | (intro g1 g2; simp [g1, g2]; done) | (intro g1; simp at g1 ⊢; simp [g1]; done) | (simp only [nrmT] at *; omega) | (simp at * <;> omega) | (simp_all <;> omega) | (simp_all; done)
          · refine ⟨(sz1 (xss.getD i.toNat []).length left1), (i + 1), ?_⟩
            refine ⟨?_, ?_, rfl, rfl, rfl⟩
            · refine ⟨?_, ?_, ?_, ?_, ?_⟩
              · first | omega | rfl | (intro hg; simp only [nrmT] at hg; omega) | (intro g1 g2; simp [g1, g2]; done) | (intro g1; simp at g1 ⊢; simp [g1]; done) | (simp only [nrmT] at *; omega) | (simp at * <;> omega) | (simp_all <;> omega) | (simp_all; done)
              · first | omega | rfl | (intro hg; simp only [nrmT] at hg; omega) | (intro g1 g2; simp [g1, g2]; done) | (intro g1; simp at g1 ⊢; simp [g1]; done) | (simp only [nrmT] at *; omega) | (simp at * <;> omega) | (simp_all <;> omega) | (simp_all; done)
              · rw [h3, szTo_step h1 (by omega)]
              · have := sz1_bound (n := (xss.getD i.toNat []).length) (left := left1) (by omega)
                omega
              · first | omega | rfl | (intro hg; simp only [nrmT] at hg; omega) | (intro g1 g2; simp [g1, g2]; done) | (intro g1; simp at g1 ⊢; simp [g1]; done) | (simp only [nrmT] at *; omega) | (simp at * <;> omega) | (simp_all <;> omega) | (simp_all; done)
            · first | (show _ < _; omega) | (simp only [l_szIntSS_mJ0]; omega) | (simp only [l_szIntSS_mJ0] at *; simp at *; omega)
      · intro b6
        try simp only [nrmT] at b6
        unfold szRows
        rw [if_neg (by omega), h3]
        have : i.toNat = xss.length := by omega
        rw [this]
theorem l_szIntSS_pc (xss : List (List Int)) (left : Int) (hl : 0 ≤ left ∧ left ≤ 1048576) : PC Try.prog 76 [.sl (.rows xss), .int .i64 left] (.one (.d (.int .i64 (szRows xss left)))) :=
  pc_wf @Try.call76 fun hw => pc_by (by kernel_rfl) Try.func76 @Try.call76 (by kernel_rfl) l_szIntSS_C (l_szIntSS_A xss left) (by kernel_rfl) (l_szIntSS_vc xss left hl hw.1.1 hw.1.2) (by kernel_rfl)
def l_szIntSS_orc : List D → Orc := orcN [some .rows, none] fun ds => match ds with
  | [.sl (.rows xss), .int .i64 left] => some (.one (.d (.int .i64 (szRows xss left))))
  | _ => none
theorem len_beq (m n : Nat) : ((m : Int) == (n : Int)) = decide (m = n) := by
  rw [Bool.eq_iff_iff]; simp only [beq_iff_eq, decide_eq_true_eq]; omega
theorem len_le (m n : Nat) : decide ((m : Int) ≤ (n : Int)) = decide (m ≤ n) := by
  rw [Bool.eq_iff_iff]; simp only [decide_eq_true_eq]; omega
theorem all_end {α : Type} {p : α → Bool} {d : α} {xs : List α} {i : Int} (h2 : (xs.length : Int) ≤ i) (h2' : i ≤ (xs.length : Int)) (h3 : allTo (fun k => p (xs.getD k d)) i.toNat = true) : xs.all p = true := by
  have e : i.toNat = xs.length := by omega
  rw [e, allTo_list] at h3; exact h3
theorem all_no {α : Type} {p : α → Bool} {d : α} {xs : List α} {i : Int} (h0 : 0 ≤ i) (h : i < (xs.length : Int)) (h3 : p (xs.getD i.toNat d) = false) : xs.all p = false := by
  rw [← allTo_list (d := d)]; exact allTo_falseI h0 h h3
theorem inB_le {x lo hi : Int} (h : inB x lo hi = true) : lo ≤ x ∧ x ≤ hi := of_decide_eq_true h
def i_areBetween_1_C (f : FuncId) (ds : List D) : Orc := bif Nat.beq f 82 then i_between_orc ds else .no
def i_areBetween_1_A (x : Int) (lo : Int) (hi : Int) : Ann := .none
def i_areBetween_1_P (x : Int) (lo : Int) (hi : Int) : Prop :=
  (PC Try.prog 82 [.int .i64 x, .int .i64 lo, .int .i64 hi] (.one (.d (.bool (inB x lo hi))))) ∧ (((!(inB x lo hi)) = (!(inB x lo hi))))
theorem i_areBetween_1_vc (x : Int) (lo : Int) (hi : Int)   : i_areBetween_1_P x lo hi := by
  unfold i_areBetween_1_P
  refine ⟨i_between_pc x lo hi, rfl⟩
theorem i_areBetween_1_pc (x : Int) (lo : Int) (hi : Int)  : PC Try.prog 182 [.int .i64 x, .bx [.int .i64 lo] 0, .bx [.int .i64 hi] 0] (.one (.d (.bool (!(inB x lo hi))))) :=
  pc_wf @Try.call182 fun _ => pc_by (by kernel_rfl) Try.func182 @Try.call182 (by kernel_rfl) i_areBetween_1_C (i_areBetween_1_A x lo hi) (by kernel_rfl) (i_areBetween_1_vc x lo hi) (by kernel_rfl)
def i_areBetween_1_orc : List D → Orc := orcN [none, none, none] fun ds => match ds with
  | [.int .i64 x, .bx [.int .i64 lo] 0, .bx [.int .i64 hi] 0] => some (.one (.d (.bool (!(inB x lo hi)))))
  | _ => none
abbrev slices_IndexFunc_int_int_aB_JJ0 (xs : List Int) (lo : Int) (hi : Int) (i : Int) : Prop := (0 ≤ i) ∧ (i ≤ (xs.length : Int)) ∧ (∀ k, k < i.toNat → (fun x => !(inB x lo hi)) (xs.getD k 0) = false)
abbrev slices_IndexFunc_int_int_aB_mJ0 (xs : List Int) (lo : Int) (hi : Int) (i : Int) : Nat := (xs.length - i).toNat
def slices_IndexFunc_int_int_aB_C (f : FuncId) (ds : List D) : Orc := bif Nat.beq f 182 then i_areBetween_1_orc ds else .no
def slices_IndexFunc_int_int_aB_A (xs : List Int) (lo : Int) (hi : Int) : Ann := .two (.none) (.two (.two (.none) (.loop (cut1 (fun (i : Int) => slices_IndexFunc_int_int_aB_JJ0 xs lo hi i) (fun (i : Int) => [(0, .d false (.sl (.ints xs))), (1, .d false (.fn 182 0 [.bx [.int .i64 lo] 0, .bx [.int .i64 hi] 0])), (7, .d true (.int .i64 (xs.length : Int))), (8, .d true (.int .i64 i))]) (fun (i : Int) => [])) (fun g => slices_IndexFunc_int_int_aB_mJ0 xs lo hi g) (fun _ => .none))) (.none))
def slices_IndexFunc_int_int_aB_P (xs : List Int) (lo : Int) (hi : Int) : Prop :=
  ((∃ i' : Int, (slices_IndexFunc_int_int_aB_JJ0 xs lo hi i') ∧ (xs = xs) ∧ ((.fn 182 0 [.bx [.int .i64 lo] 0, .bx [.int .i64 hi] 0] : D) = (.fn 182 0 [.bx [.int .i64 lo] 0, .bx [.int .i64 hi] 0] : D)) ∧ ((xs.length : Int) = (xs.length : Int)) ∧ ((0 : Int) = i')) ∧ (∀ i : Int, (slices_IndexFunc_int_int_aB_JJ0 xs lo hi i) → (((decide (i < (xs.length : Int))) = true → ((0 : Int) ≤ i) ∧ ((i : Int) < xs.length) ∧ (i.toNat < xs.length) ∧ (PC Try.prog 182 [.int .i64 (xs.getD i.toNat 0), .bx [.int .i64 lo] 0, .bx [.int .i64 hi] 0] (.one (.d (.bool (!(inB (xs.getD i.toNat 0) lo hi)))))) ∧ (((!(inB (xs.getD i.toNat 0) lo hi)) = true → ((i = (idxI (fun x => !(inB x lo hi)) xs)))) ∧ ((!(inB (xs.getD i.toNat 0) lo hi)) = false → (-9223372036854775808 ≤ (i + 1) ∧ (i + 1) ≤ 9223372036854775807) ∧ (∃ i' : Int, (slices_IndexFunc_int_int_aB_JJ0 xs lo hi i') ∧ (slices_IndexFunc_int_int_aB_mJ0 xs lo hi i' < slices_IndexFunc_int_int_aB_mJ0 xs lo hi i) ∧ (xs = xs) ∧ ((.fn 182 0 [.bx [.int .i64 lo] 0, .bx [.int .i64 hi] 0] : D) = (.fn 182 0 [.bx [.int .i64 lo] 0, .bx [.int .i64 hi] 0] : D)) ∧ ((xs.length : Int) = (xs.length : Int)) ∧ ((i + 1) = i'))))) ∧ ((decide (i < (xs.length : Int))) = false → ((((-1) : Int) = (idxI (fun x => !(inB x lo hi)) xs)))))))
theorem slices_IndexFunc_int_int_aB_vc (xs : List Int) (lo : Int) (hi : Int)  (w_xs : (xs.length : Int) ≤ 9223372036854775807) : slices_IndexFunc_int_int_aB_P xs lo hi := by
  unfold slices_IndexFunc_int_int_aB_P
  refine ⟨?_, ?_⟩
  · refine ⟨0, ?_⟩
    refine ⟨?_, rfl, rfl, rfl, rfl⟩
    · refine ⟨?_, ?_, ?_⟩
      · first | omega | rfl | (intro hg; simp only [nrmT] at hg; omega) | (intro g1 g2; simp [g1, g2]; done) | (intro g1; simp at g1 ⊢; simp [g1]; done) | (simp only [nrmT] at *; omega) | (simp at * <;> omega) | (simp_all <;> omega) | (simp_all; done)
      · first | omega | rfl | (intro hg; simp only [nrmT] at hg; omega) | (intro g1 g2; simp [g1, g2]; done) | (intro g1; simp at g1 ⊢; simp [g1]; done) | (simp only [nrmT] at *; omega) | (simp at * <;> omega) | (simp_all <;> omega) | (simp_all; done)
      · first | omega | rfl | (intro hg; simp only [nrmT] at hg; omega) | (intro g1 g2; simp [g1, g2]; done) | (intro g1; simp at g1 ⊢; simp [g1]; done) | (simp only [nrmT] at *; omega) | (simp at * <;> omega) | (simp_all <;> omega) | (simp_all; done)
  · intro i hJ
    obtain ⟨h1, h2, h3⟩ := hJ
    refine ⟨?_, ?_⟩
    · intro b1
      try simp only [nrmT] at b1
      refine ⟨?_, ?_, ?_, i_areBetween_1_pc (xs.getD i.toNat 0) lo hi, ?_, ?_⟩
      · first | omega | rfl | (intro hg; simp only [nrmT] at hg; omega) | (intro g1 g2; simp [g1, g2]; done) | (intro g1; simp at g1 ⊢; simp [g1]; done) | (simp only [nrmT] at *; omega) | (simp at * <;> omega) | (simp_all <;> omega) | (simp_all; done)
      · first | omega | rfl | (intro hg; simp only [nrmT] at hg; omega) | (intro g1 g2; simp [g1, g2]; done) | (intro g1; simp at g1 ⊢; simp [g1]; done) | (simp only [nrmT] at *; omega) | (simp at * <;> omega) | (simp_all <;> omega) | (simp_all; done)
      · first | omega | rfl | (intro hg; simp only [nrmT] at hg; omega) | (intro g1 g2; simp [g1, g2]; done) | (intro g1; simp at g1 ⊢; simp [g1]; done) | (simp only [nrmT] at *; omega) | (simp at * <;> omega) | (simp_all <;> omega) | (simp_all; done)
      · intro b2
        try simp only [nrmT] at b2
        exact idx_found (p := fun x => !(inB x lo hi)) h1 b1 h3 (by simpa using b2)
      · intro b3
        try simp only [nrmT] at b3
        refine ⟨?_, ?_⟩
        · first | omega | rfl | (intro hg; simp only [nrmT] at hg; omega) | (intro g1 g2; simp [g1, g2]; done) | (intro g1; simp at g1 ⊢; simp [g1]; done) | (simp only [nrmT] at *; omega) | (simp at * <;> omega) | (simp_all <;> omega) | (simp_all; done)
        · refine ⟨(i + 1), ?_⟩
          refine ⟨?_, ?_, rfl, rfl, rfl, rfl⟩
          · refine ⟨?_, ?_, ?_⟩
            · first | omega | rfl | (intro hg; simp only [nrmT] at hg; omega) | (intro g1 g2; simp [g1, g2]; done) | (intro g1; simp at g1 ⊢; simp [g1]; done) | (simp only [nrmT] at *; omega) | (simp at * <;> omega) | (simp_all <;> omega) | (simp_all; done)
            · first | omega | rfl | (intro hg; simp only [nrmT] at hg; omega) | (intro g1 g2; simp [g1, g2]; done) | (intro g1; simp at g1 ⊢; simp [g1]; done) | (simp only [nrmT] at *; omega) | (simp at * <;> omega) | (simp_all <;> omega) | (simp_all; done)
            · exact idx_step (p := fun x => !(inB x lo hi)) h1 h3 (by simpa using b3)
          · first | (show _ < _; omega) | (simp only [slices_IndexFunc_int_int_aB_mJ0]; omega) | (simp only [slices_IndexFunc_int_int_aB_mJ0] at *; simp at *; omega)
    · intro b4
      try simp only [nrmT] at b4
      exact (idx_none (by omega) h3).symm
theorem slices_IndexFunc_int_int_aB_pc (xs : List Int) (lo : Int) (hi : Int)  : PC Try.prog 139 [.sl (.ints xs), .fn 182 0 [.bx [.int .i64 lo] 0, .bx [.int .i64 hi] 0]] (.one (.d (.int .i64 (idxI (fun x => !(inB x lo hi)) xs)))) :=
  pc_wf @Try.call139 fun hw => pc_by (by kernel_rfl) Try.func139 @Try.call139 (by kernel_rfl) slices_IndexFunc_int_int_aB_C (slices_IndexFunc_int_int_aB_A xs lo hi) (by kernel_rfl) (slices_IndexFunc_int_int_aB_vc xs lo hi hw.1) (by kernel_rfl)
def slices_IndexFunc_int_int_aB_orc : List D → Orc := orcN [some .ints, none] fun ds => match ds with
  | [.sl (.ints xs), .fn f0 0 [.bx [.int .i64 lo] 0, .bx [.int .i64 hi] 0]] => bif Nat.beq f0 182 then some (.one (.d (.int .i64 (idxI (fun x => !(inB x lo hi)) xs)))) else none
  | _ => none
def slices_ContainsFunc_int_int_aB_C (f : FuncId) (ds : List D) : Orc := bif Nat.beq f 139 then slices_IndexFunc_int_int_aB_orc ds else .no
def slices_ContainsFunc_int_int_aB_A (xs : List Int) (lo : Int) (hi : Int) : Ann := .none
def slices_ContainsFunc_int_int_aB_P (xs : List Int) (lo : Int) (hi : Int) : Prop :=
  (PC Try.prog 139 [.sl (.ints xs), .fn 182 0 [.bx [.int .i64 lo] 0, .bx [.int .i64 hi] 0]] (.one (.d (.int .i64 (idxI (fun x => !(inB x lo hi)) xs))))) ∧ (((decide ((idxI (fun x => !(inB x lo hi)) xs) ≥ 0)) = (xs.any (fun x => !(inB x lo hi)))))
theorem slices_ContainsFunc_int_int_aB_vc (xs : List Int) (lo : Int) (hi : Int)  (w_xs : (xs.length : Int) ≤ 9223372036854775807) : slices_ContainsFunc_int_int_aB_P xs lo hi := by
  unfold slices_ContainsFunc_int_int_aB_P
  refine ⟨slices_IndexFunc_int_int_aB_pc xs lo hi, ?_⟩
  · exact idx_any _ _
theorem slices_ContainsFunc_int_int_aB_pc (xs : List Int) (lo : Int) (hi : Int)  : PC Try.prog 73 [.sl (.ints xs), .fn 182 0 [.bx [.int .i64 lo] 0, .bx [.int .i64 hi] 0]] (.one (.d (.bool (xs.any (fun x => !(inB x lo hi)))))) :=
  pc_wf @Try.call73 fun hw => pc_by (by kernel_rfl) Try.func73 @Try.call73 (by kernel_rfl) slices_ContainsFunc_int_int_aB_C (slices_ContainsFunc_int_int_aB_A xs lo hi) (by kernel_rfl) (slices_ContainsFunc_int_int_aB_vc xs lo hi hw.1) (by kernel_rfl)
def slices_ContainsFunc_int_int_aB_orc : List D → Orc := orcN [some .ints, none] fun ds => match ds with
  | [.sl (.ints xs), .fn f0 0 [.bx [.int .i64 lo] 0, .bx [.int .i64 hi] 0]] => bif Nat.beq f0 182 then some (.one (.d (.bool (xs.any (fun x => !(inB x lo hi)))))) else none
  | _ => none
def i_areBetween_C (f : FuncId) (ds : List D) : Orc := bif Nat.beq f 73 then slices_ContainsFunc_int_int_aB_orc ds else .no
def i_areBetween_A (xs : List Int) (lo : Int) (hi : Int) : Ann := .none
def i_areBetween_P (xs : List Int) (lo : Int) (hi : Int) : Prop :=
  (PC Try.prog 73 [.sl (.ints xs), .fn 182 0 [.bx [.int .i64 lo] 0, .bx [.int .i64 hi] 0]] (.one (.d (.bool (xs.any (fun x => !(inB x lo hi))))))) ∧ (((!(xs.any (fun x => !(inB x lo hi)))) = (xs.all (fun x => inB x lo hi))))
theorem i_areBetween_vc (xs : List Int) (lo : Int) (hi : Int)  (w_xs : (xs.length : Int) ≤ 9223372036854775807) : i_areBetween_P xs lo hi := by
  unfold i_areBetween_P
  refine ⟨slices_ContainsFunc_int_int_aB_pc xs lo hi, ?_⟩
  · exact any_not _ _
theorem i_areBetween_pc (xs : List Int) (lo : Int) (hi : Int)  : PC Try.prog 137 [.sl (.ints xs), .int .i64 lo, .int .i64 hi] (.one (.d (.bool (xs.all (fun x => inB x lo hi))))) :=
  pc_wf @Try.call137 fun hw => pc_by (by kernel_rfl) Try.func137 @Try.call137 (by kernel_rfl) i_areBetween_C (i_areBetween_A xs lo hi) (by kernel_rfl) (i_areBetween_vc xs lo hi hw.1) (by kernel_rfl)
def i_areBetween_orc : List D → Orc := orcN [some .ints, none, none] fun ds => match ds with
  | [.sl (.ints xs), .int .i64 lo, .int .i64 hi] => some (.one (.d (.bool (xs.all (fun x => inB x lo hi)))))
  | _ => none
abbrev l_toIntS_JJ0 (xs : List Int) (out : List Int) (i : Int) : Prop := (0 ≤ i) ∧ (i ≤ (xs.length : Int)) ∧ (out = xs.take i.toNat ++ (List.replicate xs.length 0).drop i.toNat)
abbrev l_toIntS_mJ0 (xs : List Int) (out : List Int) (i : Int) : Nat := (xs.length - i).toNat
def l_toIntS_C (f : FuncId) (ds : List D) : Orc := .no
def l_toIntS_A (xs : List Int) : Ann := .two (.none) (.two (.none) (.two (.two (.none) (.loop (cut2 (fun (out : List Int) (i : Int) => l_toIntS_JJ0 xs out i) (fun (out : List Int) (i : Int) => [(0, .d false (.sl (.ints xs))), (3, .own 7 out.length), (4, .d true (.int .i64 i))]) (fun (out : List Int) (i : Int) => [(7, .arr true 3 (.ints out))])) (fun g => l_toIntS_mJ0 xs g.1 g.2) (fun _ => .none))) (.none)))
def l_toIntS_P (xs : List Int) : Prop :=
  ((xs.length : Int) = (xs.length : Int)) ∧ ((0 : Int) ≤ (xs.length : Int)) ∧ (((xs.length : Int) : Int) * ((8 : Nat) : Int) ≤ 140737488355328) ∧ ((∃ out' : List Int, ∃ i' : Int, (l_toIntS_JJ0 xs out' i') ∧ (xs = xs) ∧ ((xs.length : Int).toNat = out'.length) ∧ ((0 : Int) = i') ∧ ((List.replicate ((xs.length : Int).toNat) (0 : Int)) = out')) ∧ (∀ out : List Int, ∀ i : Int, (l_toIntS_JJ0 xs out i) → (((decide (i < (xs.length : Int))) = true → ((0 : Int) ≤ i) ∧ ((i : Int) < xs.length) ∧ (i.toNat < xs.length) ∧ ((0 : Int) ≤ i) ∧ ((i : Int) < (out.length : Int)) ∧ (i.toNat < out.length) ∧ (-9223372036854775808 ≤ (i + 1) ∧ (i + 1) ≤ 9223372036854775807) ∧ (∃ out' : List Int, ∃ i' : Int, (l_toIntS_JJ0 xs out' i') ∧ (l_toIntS_mJ0 xs out' i' < l_toIntS_mJ0 xs out i) ∧ (xs = xs) ∧ (out.length = out'.length) ∧ ((i + 1) = i') ∧ ((out.set i.toNat (xs.getD i.toNat 0)) = out'))) ∧ ((decide (i < (xs.length : Int))) = false → ((out.length = out.length) ∧ ((out : List Int) = xs))))))
theorem l_toIntS_vc (xs : List Int) (hn : xs.length ≤ 1048576) (w_xs : (xs.length : Int) ≤ 9223372036854775807) : l_toIntS_P xs := by
  unfold l_toIntS_P
  refine ⟨rfl, ?_, ?_, ?_, ?_⟩
  · first | omega | rfl | (intro hg; simp only [nrmT] at hg; omega) | (intro g1 g2; simp [g1, g2]; done) | (intro g1; simp at g1 ⊢; simp [g1]; done) | (simp only [nrmT] at *; omega) | (simp at * <;> omega) | (simp_all <;> omega) | (simp_all; done)
  · first | omega | rfl | (intro hg; simp only [nrmT] at hg; omega) | (intro g1 g2; simp [g1, g2]; done) | (intro g1; simp at g1 ⊢; simp [g1]; done) | (simp only [nrmT] at *; omega) | (simp at * <;> omega) | (simp_all <;> omega) | (simp_all; done)
  · refine ⟨(List.replicate ((xs.length : Int).toNat) (0 : Int)), 0, ?_⟩
    refine ⟨?_, rfl, ?_, rfl, rfl⟩
    · refine ⟨?_, ?_, ?_⟩
      · first | omega | rfl | (intro hg; simp only [nrmT] at hg; omega) | (intro g1 g2; simp [g1, g2]; done) | (intro g1; simp at g1 ⊢; simp [g1]; done) | (simp only [nrmT] at *; omega) | (simp at * <;> omega) | (simp_all <;> omega) | (simp_all; done)
      · first | omega | rfl | (intro hg; simp only [nrmT] at hg; omega) | (intro g1 g2; simp [g1, g2]; done) | (intro g1; simp at g1 ⊢; simp [g1]; done) | (simp only [nrmT] at *; omega) | (simp at * <;> omega) | (simp_all <;> omega) | (simp_all; done)
      · simp
    · simp
  · intro out i hJ
    obtain ⟨h1, h2, h3⟩ := hJ
    refine ⟨?_, ?_⟩
    · intro b1
      try simp only [nrmT] at b1
      refine ⟨?_, ?_, ?_, ?_, ?_, ?_, ?_, ?_⟩
      · first | omega | rfl | (intro hg; simp only [nrmT] at hg; omega) | (intro g1 g2; simp [g1, g2]; done) | (intro g1; simp at g1 ⊢; simp [g1]; done) | (simp only [nrmT] at *; omega) | (simp at * <;> omega) | (simp_all <;> omega) | (simp_all; done)
      · first | omega | rfl | (intro hg; simp only [nrmT] at hg; omega) | (intro g1 g2; simp [g1, g2]; done) | (intro g1; simp at g1 ⊢; simp [g1]; done) | (simp only [nrmT] at *; omega) | (simp at * <;> omega) | (simp_all <;> omega) | (simp_all; done)
      · first | omega | rfl | (intro hg; simp only [nrmT] at hg; omega) | (intro g1 g2; simp [g1, g2]; done) | (intro g1; simp at g1 ⊢; simp [g1]; done) | (simp only [nrmT] at *; omega) | (simp at * <;> omega) | (simp_all <;> omega) | (simp_all; done)
      · first | omega | rfl | (intro hg; simp only [nrmT] at hg; omega) | (intro g1 g2; simp [g1, g2]; done) | (intro g1; simp at g1 ⊢; simp [g1]; done) | (simp only [nrmT] at *; omega) | (simp at * <;> omega) | (simp_all <;> omega) | (simp_all; done)
      · have e : out.length = xs.length := by rw [h3]; exact copy_len (by omega) (by simp)
        omega
      · have e : out.length = xs.length := by rw [h3]; exact copy_len (by omega) (by simp)
        omega
      · first | omega | rfl | (intro hg; simp only [nrmT] at hg; omega) | (intro g1 g2; simp [g1, g2]; done) | (intro g1; simp at g1 ⊢; simp [g1]; done) | (simp only [nrmT] at *; omega) | (simp at * <;> omega) | (simp_all <;> omega) | (simp_all; done)
      · refine ⟨(out.set i.toNat (xs.getD i.toNat 0)), (i + 1), ?_⟩
        refine ⟨?_, ?_, rfl, ?_, rfl, rfl⟩
        · refine ⟨?_, ?_, ?_⟩
          · first | omega | rfl | (intro hg; simp only [nrmT] at hg; omega) | (intro g1 g2; simp [g1, g2]; done) | (intro g1; simp at g1 ⊢; simp [g1]; done) | (simp only [nrmT] at *; omega) | (simp at * <;> omega) | (simp_all <;> omega) | (simp_all; done)
          · first | omega | rfl | (intro hg; simp only [nrmT] at hg; omega) | (intro g1 g2; simp [g1, g2]; done) | (intro g1; simp at g1 ⊢; simp [g1]; done) | (simp only [nrmT] at *; omega) | (simp at * <;> omega) | (simp_all <;> omega) | (simp_all; done)
          · rw [h3]; exact copy_step h1 b1 (by simp)
        · first | (show _ < _; omega) | (simp only [l_toIntS_mJ0]; omega) | (simp only [l_toIntS_mJ0] at *; simp at *; omega)
        · simp
    · intro b2
      try simp only [nrmT] at b2
      refine ⟨rfl, ?_⟩
      · rw [h3, take_all (by omega)]; simp; omega
theorem l_toIntS_pc (xs : List Int) (hn : xs.length ≤ 1048576) : PC Try.prog 22 [.sl (.ints xs)] (.one (.d (.sl (.ints xs)))) :=
  pc_wf @Try.call22 fun hw => pc_by (by kernel_rfl) Try.func22 @Try.call22 (by kernel_rfl) l_toIntS_C (l_toIntS_A xs) (by kernel_rfl) (l_toIntS_vc xs hn hw.1) (by kernel_rfl)
def l_toIntS_orc : List D → Orc := orcN [some .ints] fun ds => match ds with
  | [.sl (.ints xs)] => some (.one (.d (.sl (.ints xs))))
  | _ => none
abbrev l_toIntSS_JJ0 (xss : List (List Int)) (out : List (List Int)) (i : Int) : Prop := (0 ≤ i) ∧ (i ≤ (xss.length : Int)) ∧ (out = xss.take i.toNat ++ (List.replicate xss.length []).drop i.toNat)
abbrev l_toIntSS_mJ0 (xss : List (List Int)) (out : List (List Int)) (i : Int) : Nat := (xss.length - i).toNat
def l_toIntSS_C (f : FuncId) (ds : List D) : Orc := bif Nat.beq f 22 then l_toIntS_orc ds else .no
def l_toIntSS_A (xss : List (List Int)) : Ann := .two (.none) (.two (.none) (.two (.two (.none) (.loop (cut2 (fun (out : List (List Int)) (i : Int) => l_toIntSS_JJ0 xss out i) (fun (out : List (List Int)) (i : Int) => [(0, .d false (.sl (.rows xss))), (3, .own 7 out.length), (4, .d true (.int .i64 i))]) (fun (out : List (List Int)) (i : Int) => [(7, .arr true 22 (.rows out))])) (fun g => l_toIntSS_mJ0 xss g.1 g.2) (fun _ => .none))) (.none)))
def l_toIntSS_P (xss : List (List Int)) : Prop :=
  ((xss.length : Int) = (xss.length : Int)) ∧ ((0 : Int) ≤ (xss.length : Int)) ∧ (((xss.length : Int) : Int) * ((24 : Nat) : Int) ≤ 140737488355328) ∧ ((∃ out' : List (List Int), ∃ i' : Int, (l_toIntSS_JJ0 xss out' i') ∧ (xss = xss) ∧ ((xss.length : Int).toNat = out'.length) ∧ ((0 : Int) = i') ∧ ((List.replicate ((xss.length : Int).toNat) ([] : List Int)) = out')) ∧ (∀ out : List (List Int), ∀ i : Int, (l_toIntSS_JJ0 xss out i) → (((decide (i < (xss.length : Int))) = true → ((0 : Int) ≤ i) ∧ ((i : Int) < xss.length) ∧ (i.toNat < xss.length) ∧ (PC Try.prog 22 [.sl (.ints (xss.getD i.toNat []))] (.one (.d (.sl (.ints (xss.getD i.toNat [])))))) ∧ ((0 : Int) ≤ i) ∧ ((i : Int) < (out.length : Int)) ∧ (i.toNat < out.length) ∧ (-9223372036854775808 ≤ (i + 1) ∧ (i + 1) ≤ 9223372036854775807) ∧ (∃ out' : List (List Int), ∃ i' : Int, (l_toIntSS_JJ0 xss out' i') ∧ (l_toIntSS_mJ0 xss out' i' < l_toIntSS_mJ0 xss out i) ∧ (xss = xss) ∧ (out.length = out'.length) ∧ ((i + 1) = i') ∧ ((out.set i.toNat (xss.getD i.toNat [])) = out'))) ∧ ((decide (i < (xss.length : Int))) = false → ((out.length = out.length) ∧ ((out : List (List Int)) = xss))))))
theorem l_toIntSS_vc (xss : List (List Int)) (hn : xss.length ≤ 1048576) (hm : ∀ xs ∈ xss, xs.length ≤ 1048576) (w_xss : (xss.length : Int) ≤ 9223372036854775807) (v_xss : ∀ x9 ∈ xss, (x9.length : Int) ≤ 9223372036854775807) : l_toIntSS_P xss := by
  unfold l_toIntSS_P
  refine ⟨rfl, ?_, ?_, ?_, ?_⟩
  · first | omega | rfl | (intro hg; simp only [nrmT] at hg; omega) | (intro g1 g2; simp [g1, g2]; done) | (intro g1; simp at g1 ⊢; simp [g1]; done) | (simp only [nrmT] at *; omega) | (simp at * <;> omega) | (simp_all <;> omega) | (simp_all; done)
  · first | omega | rfl | (intro hg; simp only [nrmT] at hg; omega) | (intro g1 g2; simp [g1, g2]; done) | (intro g1; simp at g1 ⊢; simp [g1]; done) | (simp only [nrmT] at *; omega) | (simp at * <;> omega) | (simp_all <;> omega) | (simp_all; done)
  · refine ⟨(List.replicate ((xss.length : Int).toNat) ([] : List Int)), 0, ?_⟩
    refine ⟨?_, rfl, ?_, rfl, rfl⟩
    · refine ⟨?_, ?_, ?_⟩
      · first | omega | rfl | (intro hg; simp only [nrmT] at hg; omega) | (intro g1 g2; simp [g1, g2]; done) | (intro g1; simp at g1 ⊢; simp [g1]; done) | (simp only [nrmT] at *; omega) | (simp at * <;> omega) | (simp_all <;> omega) | (simp_all; done)
      · first | omega | rfl | (intro hg; simp only [nrmT] at hg; omega) | (intro g1 g2; simp [g1, g2]; done) | (intro g1; simp at g1 ⊢; simp [g1]; done) | (simp only [nrmT] at *; omega) | (simp at * <;> omega) | (simp_all <;> omega) | (simp_all; done)
      · simp
    · simp
  · intro out i hJ
    obtain ⟨h1, h2, h3⟩ := hJ
    refine ⟨?_, ?_⟩
    · intro b1
      try simp only [nrmT] at b1
      refine ⟨?_, ?_, ?_, ?_, ?_, ?_, ?_, ?_, ?_⟩
      · first | omega | rfl | (intro hg; simp only [nrmT] at hg; omega) | (intro g1 g2; simp [g1, g2]; done) | (intro g1; simp at g1 ⊢; simp [g1]; done) | (simp only [nrmT] at *; omega) | (simp at * <;> omega) | (simp_all <;> omega) | (simp_all; done)
      · first | omega | rfl | (intro hg; simp only [nrmT] at hg; omega) | (intro g1 g2; simp [g1, g2]; done) | (intro g1; simp at g1 ⊢; simp [g1]; done) | (simp only [nrmT] at *; omega) | (simp at * <;> omega) | (simp_all <;> omega) | (simp_all; done)
      · first | omega | rfl | (intro hg; simp only [nrmT] at hg; omega) | (intro g1 g2; simp [g1, g2]; done) | (intro g1; simp at g1 ⊢; simp [g1]; done) | (simp only [nrmT] at *; omega) | (simp at * <;> omega) | (simp_all <;> omega) | (simp_all; done)
      · refine l_toIntS_pc (xss.getD i.toNat []) ?_
        · exact hm _ (getD_memI h1 b1)
      · first | omega | rfl | (intro hg; simp only [nrmT] at hg; omega) | (intro g1 g2; simp [g1, g2]; done) | (intro g1; simp at g1 ⊢; simp [g1]; done) | (simp only [nrmT] at *; omega) | (simp at * <;> omega) | (simp_all <;> omega) | (simp_all; done)
      · have e : out.length = xss.length := by rw [h3]; exact copy_len (by omega) (by simp)
        omega
      · have e : out.length = xss.length := by rw [h3]; exact copy_len (by omega) (by simp)
        omega
      · first | omega | rfl | (intro hg; simp only [nrmT] at hg; omega) | (intro g1 g2; simp [g1, g2]; done) | (intro g1; simp at g1 ⊢; simp [g1]; done) | (simp only [nrmT] at *; omega) | (simp at * <;> omega) | (simp_all <;> omega) | (simp_all; done)
      · refine ⟨(out.set i.toNat (xss.getD i.toNat [])), (i + 1), ?_⟩
        refine ⟨?_, ?_, rfl, ?_, rfl, rfl⟩
        · refine ⟨?_, ?_, ?_⟩
          · first | omega | rfl | (intro hg; simp only [nrmT] at hg; omega) | (intro g1 g2; simp [g1, g2]; done) | (intro g1; simp at g1 ⊢; simp [g1]; done) | (simp only [nrmT] at *; omega) | (simp at * <;> omega) | (simp_all <;> omega) | (simp_all; done)
          · first | omega | rfl | (intro hg; simp only [nrmT] at hg; omega) | (intro g1 g2; simp [g1, g2]; done) | (intro g1; simp at g1 ⊢; simp [g1]; done) | (simp only [nrmT] at *; omega) | (simp at * <;> omega) | (simp_all <;> omega) | (simp_all; done)
          · rw [h3]; exact copy_step h1 b1 (by simp)
        · first | (show _ < _; omega) | (simp only [l_toIntSS_mJ0]; omega) | (simp only [l_toIntSS_mJ0] at *; simp at *; omega)
        · simp
    · intro b2
      try simp only [nrmT] at b2
      refine ⟨rfl, ?_⟩
      · rw [h3, take_all (by omega)]; simp; omega
theorem l_toIntSS_pc (xss : List (List Int)) (hn : xss.length ≤ 1048576) (hm : ∀ xs ∈ xss, xs.length ≤ 1048576) : PC Try.prog 80 [.sl (.rows xss)] (.one (.d (.sl (.rows xss)))) :=
  pc_wf @Try.call80 fun hw => pc_by (by kernel_rfl) Try.func80 @Try.call80 (by kernel_rfl) l_toIntSS_C (l_toIntSS_A xss) (by kernel_rfl) (l_toIntSS_vc xss hn hm hw.1.1 hw.1.2) (by kernel_rfl)
def l_toIntSS_orc : List D → Orc := orcN [some .rows] fun ds => match ds with
  | [.sl (.rows xss)] => some (.one (.d (.sl (.rows xss))))
  | _ => none
theorem beq_of_all {α : Type} [BEq α] [LawfulBEq α] {d : α} {xs ys : List α} (hl : xs.length = ys.length) : allTo (fun k => xs.getD k d == ys.getD k d) xs.length = (xs == ys) := by
  rw [Bool.eq_iff_iff, allTo_iff]
  simp only [beq_iff_eq]
  constructor
  · intro h
    refine List.ext_getElem hl fun k h1 h2 => ?_
    have := h k h1
    simpa [h1, h2] using this
  · intro h k _
    rw [h]
theorem len_ne {α : Type} [BEq α] [LawfulBEq α] {xs ys : List α} (h : ¬ xs.length = ys.length) : (xs == ys) = false := by
  rw [Bool.eq_false_iff]; intro h2; simp only [beq_iff_eq] at h2; exact h (by rw [h2])
abbrev l_eqIntS_JJ0 (xs : List Int) (ys : List Int) (i : Int) : Prop := (0 ≤ i) ∧ (i ≤ (xs.length : Int)) ∧ (allTo (fun k => xs.getD k 0 == ys.getD k 0) i.toNat = true) ∧ (xs.length = ys.length)
abbrev l_eqIntS_mJ0 (xs : List Int) (ys : List Int) (i : Int) : Nat := (xs.length - i).toNat
def l_eqIntS_C (f : FuncId) (ds : List D) : Orc := .no
def l_eqIntS_A (xs : List Int) (ys : List Int) : Ann := .two (.none) (.two (.none) (.two (.two (.none) (.loop (cut1 (fun (i : Int) => l_eqIntS_JJ0 xs ys i) (fun (i : Int) => [(0, .d false (.sl (.ints xs))), (1, .d false (.sl (.ints ys))), (5, .d true (.int .i64 i))]) (fun (i : Int) => [])) (fun g => l_eqIntS_mJ0 xs ys g) (fun _ => .none))) (.none)))
def l_eqIntS_P (xs : List Int) (ys : List Int) : Prop :=
  ((((xs.length : Int) != (ys.length : Int)) = true → ((false = (xs == ys)))) ∧ (((xs.length : Int) != (ys.length : Int)) = false → ((∃ i' : Int, (l_eqIntS_JJ0 xs ys i') ∧ (xs = xs) ∧ (ys = ys) ∧ ((0 : Int) = i')) ∧ (∀ i : Int, (l_eqIntS_JJ0 xs ys i) → (((decide (i < (xs.length : Int))) = true → (true = true) ∧ ((0 : Int) ≤ i) ∧ ((i : Int) < xs.length) ∧ (i.toNat < xs.length) ∧ ((0 : Int) ≤ i) ∧ ((i : Int) < ys.length) ∧ (i.toNat < ys.length) ∧ ((((xs.getD i.toNat 0) != (ys.getD i.toNat 0)) = true → ((false = (xs == ys)))) ∧ (((xs.getD i.toNat 0) != (ys.getD i.toNat 0)) = false → (-9223372036854775808 ≤ (i + 1) ∧ (i + 1) ≤ 9223372036854775807) ∧ (∃ i' : Int, (l_eqIntS_JJ0 xs ys i') ∧ (l_eqIntS_mJ0 xs ys i' < l_eqIntS_mJ0 xs ys i) ∧ (xs = xs) ∧ (ys = ys) ∧ ((i + 1) = i'))))) ∧ ((decide (i < (xs.length : Int))) = false → ((true = (xs == ys)))))))))
theorem l_eqIntS_vc (xs : List Int) (ys : List Int)  (w_xs : (xs.length : Int) ≤ 9223372036854775807) (w_ys : (ys.length : Int) ≤ 9223372036854775807) : l_eqIntS_P xs ys := by
  unfold l_eqIntS_P
  refine ⟨?_, ?_⟩
  · intro b1
    try simp only [nrmT] at b1
    exact (len_ne (by omega)).symm
  · intro b2
    try simp only [nrmT] at b2
    refine ⟨?_, ?_⟩
    · refine ⟨0, ?_⟩
      refine ⟨?_, rfl, rfl, rfl⟩
      · refine ⟨?_, ?_, ?_, ?_⟩
        · first | omega | rfl | (intro hg; simp only [nrmT] at hg; omega) | (intro g1 g2; simp [g1, g2]; done) | (intro g1; simp at g1 ⊢; simp [g1]; done) | (simp only [nrmT] at *; omega) | (simp at * <;> omega) | (simp_all <;> omega) | (simp_all; done)
        · first | omega | rfl | (intro hg; simp only [nrmT] at hg; omega) | (intro g1 g2; simp [g1, g2]; done) | (intro g1; simp at g1 ⊢; simp [g1]; done) | (simp only [nrmT] at *; omega) | (simp at * <;> omega) | (simp_all <;> omega) | (simp_all; done)
        · first | omega | rfl | (intro hg; simp only [nrmT] at hg; omega) | (intro g1 g2; simp [g1, g2]; done) | (intro g1; simp at g1 ⊢; simp [g1]; done) | (simp only [nrmT] at *; omega) | (simp at * <;> omega) | (simp_all <;> omega) | (simp_all; done)
        · first | omega | rfl | (intro hg; simp only [nrmT] at hg; omega) | (intro g1 g2; simp [g1, g2]; done) | (intro g1; simp at g1 ⊢; simp [g1]; done) | (simp only [nrmT] at *; omega) | (simp at * <;> omega) | (simp_all <;> omega) | (simp_all; done)
    · intro i hJ
      obtain ⟨h1, h2, h3, h4⟩ := hJ
      refine ⟨?_, ?_⟩
      · intro b3
        try simp only [nrmT] at b3
        refine ⟨rfl, ?_, ?_, ?_, ?_, ?_, ?_, ?_, ?_⟩
        · first | omega | rfl | (intro hg; simp only [nrmT] at hg; omega) | (intro g1 g2; simp [g1, g2]; done) | (intro g1; simp at g1 ⊢; simp [g1]; done) | (simp only [nrmT] at *; omega) | (simp at * <;> omega) | (simp_all <;> omega) | (simp_all; done)
        · first | omega | rfl | (intro hg; simp only [nrmT] at hg; omega) | (intro g1 g2; simp [g1, g2]; done) | (intro g1; simp at g1 ⊢; simp [g1]; done) | (simp only [nrmT] at *; omega) | (simp at * <;> omega) | (simp_all <;> omega) | (simp_all; done)
        · first | omega | rfl | (intro hg; simp only [nrmT] at hg; omega) | (intro g1 g2; simp [g1, g2]; done) | (intro g1; simp at g1 ⊢; simp [g1]; done) | (simp only [nrmT] at *; omega) | (simp at * <;> omega) | (simp_all <;> omega) | (simp_all; done)
        · first | omega | rfl | (intro hg; simp only [nrmT] at hg; omega) | (intro g1 g2; simp [g1, g2]; done) | (intro g1; simp at g1 ⊢; simp [g1]; done) | (simp only [nrmT] at *; omega) | (simp at * <;> omega) | (simp_all <;> omega) | (simp_all; done)
        · first | omega | rfl | (intro hg; simp only [nrmT] at hg; omega) | (intro g1 g2; simp [g1, g2]; done) | (intro g1; simp at g1 ⊢; simp [g1]; done) | (simp only [nrmT] at *; omega) | (simp at * <;> omega) | (simp_all <;> omega) | (simp_all; done)
        · first | omega | rfl | (intro hg; simp only [nrmT] at hg; omega) | (intro g1 g2; simp [g1, g2]; done) | (intro g1; simp at g1 ⊢; simp [g1]; done) | (simp only [nrmT] at *; omega) | (simp at * <;> omega) | (simp_all <;> omega) | (simp_all; done)
        · intro b4
          try simp only [nrmT] at b4
          rw [← beq_of_all (d := 0) h4]; exact (allTo_falseI h1 (by omega) (by simpa using b4)).symm
        · intro b5
          try simp only [nrmT] at b5
          refine ⟨?_, ?_⟩
          · first | omega | rfl | (intro hg; simp only [nrmT] at hg; omega) | (intro g1 g2; simp [g1, g2]; done) | (intro g1; simp at g1 ⊢; simp [g1]; done) | (simp only [nrmT] at *; omega) | (simp at * <;> omega) | (simp_all <;> omega) | (simp_all; done)
          · refine ⟨(i + 1), ?_⟩
            refine ⟨?_, ?_, rfl, rfl, rfl⟩
            · refine ⟨?_, ?_, ?_, ?_⟩
              · first | omega | rfl | (intro hg; simp only [nrmT] at hg; omega) | (intro g1 g2; simp [g1, g2]; done) | (intro g1; simp at g1 ⊢; simp [g1]; done) | (simp only [nrmT] at *; omega) | (simp at * <;> omega) | (simp_all <;> omega) | (simp_all; done)
              · first | omega | rfl | (intro hg; simp only [nrmT] at hg; omega) | (intro g1 g2; simp [g1, g2]; done) | (intro g1; simp at g1 ⊢; simp [g1]; done) | (simp only [nrmT] at *; omega) | (simp at * <;> omega) | (simp_all <;> omega) | (simp_all; done)
              · exact allTo_step h1 h3 (by simpa using b5)
              · first | omega | rfl | (intro hg; simp only [nrmT] at hg; omega) | (intro g1 g2; simp [g1, g2]; done) | (intro g1; simp at g1 ⊢; simp [g1]; done) | (simp only [nrmT] at *; omega) | (simp at * <;> omega) | (simp_all <;> omega) | (simp_all; done)
            · first | (show _ < _; omega) | (simp only [l_eqIntS_mJ0]; omega) | (simp only [l_eqIntS_mJ0] at *; simp at *; omega)
      · intro b6
        try simp only [nrmT] at b6
        rw [← beq_of_all (d := 0) h4, ← h3]; congr 1; omega
theorem l_eqIntS_pc (xs : List Int) (ys : List Int)  : PC Try.prog 24 [.sl (.ints xs), .sl (.ints ys)] (.one (.d (.bool (xs == ys)))) :=
  pc_wf @Try.call24 fun hw => pc_by (by kernel_rfl) Try.func24 @Try.call24 (by kernel_rfl) l_eqIntS_C (l_eqIntS_A xs ys) (by kernel_rfl) (l_eqIntS_vc xs ys hw.1 hw.2.1) (by kernel_rfl)
def l_eqIntS_orc : List D → Orc := orcN [some .ints, some .ints] fun ds => match ds with
  | [.sl (.ints xs), .sl (.ints ys)] => some (.one (.d (.bool (xs == ys))))
  | _ => none
abbrev l_eqIntSS_JJ0 (xs : List (List Int)) (ys : List (List Int)) (i : Int) : Prop := (0 ≤ i) ∧ (i ≤ (xs.length : Int)) ∧ (allTo (fun k => xs.getD k [] == ys.getD k []) i.toNat = true) ∧ (xs.length = ys.length)
abbrev l_eqIntSS_mJ0 (xs : List (List Int)) (ys : List (List Int)) (i : Int) : Nat := (xs.length - i).toNat
def l_eqIntSS_C (f : FuncId) (ds : List D) : Orc := bif Nat.beq f 24 then l_eqIntS_orc ds else .no
def l_eqIntSS_A (xs : List (List Int)) (ys : List (List Int)) : Ann := .two (.none) (.two (.none) (.two (.two (.none) (.loop (cut1 (fun (i : Int) => l_eqIntSS_JJ0 xs ys i) (fun (i : Int) => [(0, .d false (.sl (.rows xs))), (1, .d false (.sl (.rows ys))), (5, .d true (.int .i64 i))]) (fun (i : Int) => [])) (fun g => l_eqIntSS_mJ0 xs ys g) (fun _ => .none))) (.none)))
def l_eqIntSS_P (xs : List (List Int)) (ys : List (List Int)) : Prop :=
  ((((xs.length : Int) != (ys.length : Int)) = true → ((false = (xs == ys)))) ∧ (((xs.length : Int) != (ys.length : Int)) = false → ((∃ i' : Int, (l_eqIntSS_JJ0 xs ys i') ∧ (xs = xs) ∧ (ys = ys) ∧ ((0 : Int) = i')) ∧ (∀ i : Int, (l_eqIntSS_JJ0 xs ys i) → (((decide (i < (xs.length : Int))) = true → (true = true) ∧ ((0 : Int) ≤ i) ∧ ((i : Int) < xs.length) ∧ (i.toNat < xs.length) ∧ ((0 : Int) ≤ i) ∧ ((i : Int) < ys.length) ∧ (i.toNat < ys.length) ∧ (PC Try.prog 24 [.sl (.ints (xs.getD i.toNat [])), .sl (.ints (ys.getD i.toNat []))] (.one (.d (.bool ((xs.getD i.toNat []) == (ys.getD i.toNat [])))))) ∧ (((!((xs.getD i.toNat []) == (ys.getD i.toNat []))) = true → ((false = (xs == ys)))) ∧ ((!((xs.getD i.toNat []) == (ys.getD i.toNat []))) = false → (-9223372036854775808 ≤ (i + 1) ∧ (i + 1) ≤ 9223372036854775807) ∧ (∃ i' : Int, (l_eqIntSS_JJ0 xs ys i') ∧ (l_eqIntSS_mJ0 xs ys i' < l_eqIntSS_mJ0 xs ys i) ∧ (xs = xs) ∧ (ys = ys) ∧ ((i + 1) = i'))))) ∧ ((decide (i < (xs.length : Int))) = false → ((true = (xs == ys)))))))))
theorem l_eqIntSS_vc (xs : List (List Int)) (ys : List (List Int))  (w_xs : (xs.length : Int) ≤ 9223372036854775807) (v_xs : ∀ x9 ∈ xs, (x9.length : Int) ≤ 9223372036854775807) (w_ys : (ys.length : Int) ≤ 9223372036854775807) (v_ys : ∀ x9 ∈ ys, (x9.length : Int) ≤ 9223372036854775807) : l_eqIntSS_P xs ys := by
  unfold l_eqIntSS_P
  refine ⟨?_, ?_⟩
  · intro b1
    try simp only [nrmT] at b1
    exact (len_ne (by omega)).symm
  · intro b2
    try simp only [nrmT] at b2
    refine ⟨?_, ?_⟩
    · refine ⟨0, ?_⟩
      refine ⟨?_, rfl, rfl, rfl⟩
      · refine ⟨?_, ?_, ?_, ?_⟩
        · first | omega | rfl | (intro hg; simp only [nrmT] at hg; omega) | (intro g1 g2; simp [g1, g2]; done) | (intro g1; simp at g1 ⊢; simp [g1]; done) | (simp only [nrmT] at *; omega) | (simp at * <;> omega) | (simp_all <;> omega) | (simp_all; done)
        · first | omega | rfl | (intro hg; simp only [nrmT] at hg; omega) | (intro g1 g2; simp [g1, g2]; done) | (intro g1; simp at g1 ⊢; simp [g1]; done) | (simp only [nrmT] at *; omega) | (simp at * <;> omega) | (simp_all <;> omega) | (simp_all; done)
        · first | omega | rfl | (intro hg; simp only [nrmT] at hg; omega) | (intro g1 g2; simp [g1, g2]; done) | (intro g1; simp at g1 ⊢; simp [g1]; done) | (simp only [nrmT] at *; omega) | (simp at * <;> omega) | (simp_all <;> omega) | (simp_all; done)
        · first | omega | rfl | (intro hg; simp only [nrmT] at hg; omega) | (intro g1 g2; simp [g1, g2]; done) | (intro g1; simp at g1 ⊢; simp [g1]; done) | (simp only [nrmT] at *; omega) | (simp at * <;> omega) | (simp_all <;> omega) | (simp_all; done)
    · intro i hJ
      obtain ⟨h1, h2, h3, h4⟩ := hJ
      refine ⟨?_, ?_⟩
      · intro b3
        try simp only [nrmT] at b3
        refine ⟨rfl, ?_, ?_, ?_, ?_, ?_, ?_, l_eqIntS_pc (xs.getD i.toNat []) (ys.getD i.toNat []), ?_, ?_⟩
        · first | omega | rfl | (intro hg; simp only [nrmT] at hg; omega) | (intro g1 g2; simp [g1, g2]; done) | (intro g1; simp at g1 ⊢; simp [g1]; done) | (simp only [nrmT] at *; omega) | (simp at * <;> omega) | (simp_all <;> omega) | (simp_all; done)
        · first | omega | rfl | (intro hg; simp only [nrmT] at hg; omega) | (intro g1 g2; simp [g1, g2]; done) | (intro g1; simp at g1 ⊢; simp [g1]; done) | (simp only [nrmT] at *; omega) | (simp at * <;> omega) | (simp_all <;> omega) | (simp_all; done)
        · first | omega | rfl | (intro hg; simp only [nrmT] at hg; omega) | (intro g1 g2; simp [g1, g2]; done) | (intro g1; simp at g1 ⊢; simp [g1]; done) | (simp only [nrmT] at *; omega) | (simp at * <;> omega) | (simp_all <;> omega) | (simp_all; done)
        · first | omega | rfl | (intro hg; simp only [nrmT] at hg; omega) | (intro g1 g2; simp [g1, g2]; done) | (intro g1; simp at g1 ⊢; simp [g1]; done) | (simp only [nrmT] at *; omega) | (simp at * <;> omega) | (simp_all <;> omega) | (simp_all; done)
        · first | omega | rfl | (intro hg; simp only [nrmT] at hg; omega) | (intro g1 g2; simp [g1, g2]; done) | (intro g1; simp at g1 ⊢; simp [g1]; done) | (simp only [nrmT] at *; omega) | (simp at * <;> omega) | (simp_all <;> omega) | (simp_all; done)
        · first | omega | rfl | (intro hg; simp only [nrmT] at hg; omega) | (intro g1 g2; simp [g1, g2]; done) | (intro g1; simp at g1 ⊢; simp [g1]; done) | (simp only [nrmT] at *; omega) | (simp at * <;> omega) | (simp_all <;> omega) | (simp_all; done)
        · intro b4
          try simp only [nrmT] at b4
          rw [← beq_of_all (d := []) h4]; exact (allTo_falseI h1 (by omega) (by simpa using b4)).symm
        · intro b5
          try simp only [nrmT] at b5
          refine ⟨?_, ?_⟩
          · first | omega | rfl | (intro hg; simp only [nrmT] at hg; omega) | (intro g1 g2; simp [g1, g2]; done) | (intro g1; simp at g1 ⊢; simp [g1]; done) | (simp only [nrmT] at *; omega) | (simp at * <;> omega) | (simp_all <;> omega) | (simp_all; done)
          · refine ⟨(i + 1), ?_⟩
            refine ⟨?_, ?_, rfl, rfl, rfl⟩
            · refine ⟨?_, ?_, ?_, ?_⟩
              · first | omega | rfl | (intro hg; simp only [nrmT] at hg; omega) | (intro g1 g2; simp [g1, g2]; done) | (intro g1; simp at g1 ⊢; simp [g1]; done) | (simp only [nrmT] at *; omega) | (simp at * <;> omega) | (simp_all <;> omega) | (simp_all; done)
              · first | omega | rfl | (intro hg; simp only [nrmT] at hg; omega) | (intro g1 g2; simp [g1, g2]; done) | (intro g1; simp at g1 ⊢; simp [g1]; done) | (simp only [nrmT] at *; omega) | (simp at * <;> omega) | (simp_all <;> omega) | (simp_all; done)
              · exact allTo_step h1 h3 (by simpa using b5)
              · first | omega | rfl | (intro hg; simp only [nrmT] at hg; omega) | (intro g1 g2; simp [g1, g2]; done) | (intro g1; simp at g1 ⊢; simp [g1]; done) | (simp only [nrmT] at *; omega) | (simp at * <;> omega) | (simp_all <;> omega) | (simp_all; done)
            · first | (show _ < _; omega) | (simp only [l_eqIntSS_mJ0]; omega) | (simp only [l_eqIntSS_mJ0] at *; simp at *; omega)
      · intro b6
        try simp only [nrmT] at b6
        rw [← beq_of_all (d := []) h4, ← h3]; congr 1; omega
theorem l_eqIntSS_pc (xs : List (List Int)) (ys : List (List Int))  : PC Try.prog 83 [.sl (.rows xs), .sl (.rows ys)] (.one (.d (.bool (xs == ys)))) :=
  pc_wf @Try.call83 fun hw => pc_by (by kernel_rfl) Try.func83 @Try.call83 (by kernel_rfl) l_eqIntSS_C (l_eqIntSS_A xs ys) (by kernel_rfl) (l_eqIntSS_vc xs ys hw.1.1 hw.1.2 hw.2.1.1 hw.2.1.2) (by kernel_rfl)
def l_eqIntSS_orc : List D → Orc := orcN [some .rows, some .rows] fun ds => match ds with
  | [.sl (.rows xs), .sl (.rows ys)] => some (.one (.d (.bool (xs == ys))))
  | _ => none
def rowOk (row : List Int) (n most : Int) : Bool := row.all (fun x => inB x 0 most) && decide ((row.length : Int) = n)
def goodField (Open : List Int) (Dist : List (List Int)) : Bool :=
  inB (Open.length : Int) 1 7 && Open.all (fun x => inB x 0 99) && decide (Dist.length ≤ 7) && Dist.all (fun l => rowOk l (Open.length : Int) 99)
theorem gf_open {Open : List Int} {Dist : List (List Int)} (h : goodField Open Dist = true) : 1 ≤ Open.length ∧ Open.length ≤ 7 ∧ Dist.length ≤ 7 := by
  simp only [goodField, Bool.and_eq_true, decide_eq_true_eq] at h
  have := inB_le h.1.1.1
  omega
theorem gf_row {Open : List Int} {Dist : List (List Int)} (h : goodField Open Dist = true) {i : Nat} (hi : i < Dist.length) : (Dist.getD i []).length = Open.length ∧ ∀ a, a < Open.length → 0 ≤ (Dist.getD i []).getD a 0 ∧ (Dist.getD i []).getD a 0 ≤ 99 := by
  simp only [goodField, Bool.and_eq_true, decide_eq_true_eq] at h
  have h2 := List.all_eq_true.1 h.2 _ (getD_mem (d := []) hi)
  simp only [rowOk, Bool.and_eq_true, decide_eq_true_eq] at h2
  refine ⟨by omega, fun a ha => ?_⟩
  exact inB_le (List.all_eq_true.1 h2.1 _ (getD_mem (by omega)))
def szField (o : List Int) (d : List (List Int)) (left : Int) : Int := if sz1 o.length left < 0 then -1 else if szRows d (sz1 o.length left) < 0 then -1 else szRows d (sz1 o.length left)
theorem szField_bound {o : List Int} {d : List (List Int)} {left : Int} (h : 0 ≤ szField o d left) : (o.length : Int) ≤ left ∧ (d.length : Int) ≤ left ∧ (∀ xs ∈ d, (xs.length : Int) ≤ left) := by
  unfold szField at h
  by_cases h1 : sz1 o.length left < 0
  · rw [if_pos h1] at h; omega
  · rw [if_neg h1] at h
    obtain ⟨a1, a2⟩ := sz1_bound (by omega : 0 ≤ sz1 o.length left)
    by_cases h2 : szRows d (sz1 o.length left) < 0
    · rw [if_pos h2] at h; omega
    · obtain ⟨b1, b2, b3⟩ := szRows_bound (by omega : 0 ≤ szRows d (sz1 o.length left))
      exact ⟨a2, by omega, fun xs hx => by have := b3 xs hx; omega⟩
def l_szField_C (f : FuncId) (ds : List D) : Orc := bif Nat.beq f 75 then l_szIntS_orc ds else bif Nat.beq f 76 then l_szIntSS_orc ds else .no
def l_szField_A (Open : List Int) (Dist : List (List Int)) (left : Int) : Ann := .none
def l_szField_P (Open : List Int) (Dist : List (List Int)) (left : Int) : Prop :=
  (PC Try.prog 75 [.sl (.ints Open), .int .i64 left] (.one (.d (.int .i64 (sz1 Open.length left))))) ∧ (((decide ((sz1 Open.length left) < 0)) = true → ((((-1) : Int) = (szField Open Dist left)))) ∧ ((decide ((sz1 Open.length left) < 0)) = false → (PC Try.prog 76 [.sl (.rows Dist), .int .i64 (sz1 Open.length left)] (.one (.d (.int .i64 (szRows Dist (sz1 Open.length left)))))) ∧ (((decide ((szRows Dist (sz1 Open.length left)) < 0)) = true → ((((-1) : Int) = (szField Open Dist left)))) ∧ ((decide ((szRows Dist (sz1 Open.length left)) < 0)) = false → (((szRows Dist (sz1 Open.length left)) = (szField Open Dist left)))))))
theorem l_szField_vc (Open : List Int) (Dist : List (List Int)) (left : Int) (hl : 0 ≤ left ∧ left ≤ 1048576) (w_Open : (Open.length : Int) ≤ 9223372036854775807) (w_Dist : (Dist.length : Int) ≤ 9223372036854775807) (v_Dist : ∀ x9 ∈ Dist, (x9.length : Int) ≤ 9223372036854775807) : l_szField_P Open Dist left := by
  unfold l_szField_P
  refine ⟨?_, ?_, ?_⟩
  · refine l_szIntS_pc Open left ?_
    · first | omega | rfl | (intro hg; simp only [nrmT] at hg; omega) | (intro g1 g2; simp [g1, g2]; done) | (intro g1; simp at g1 ⊢; simp [g1]; done) | (simp only [nrmT] at *; omega) | (simp at * <;> omega) | (simp_all <;> omega) | (simp_all; done)
  · intro b1
    try simp only [nrmT] at b1
    unfold szField; first | rw [if_pos (by omega)] | rw [if_neg (by omega), if_pos (by omega)] | rw [if_neg (by omega), if_neg (by omega)]
  · intro b2
    try simp only [nrmT] at b2
    refine ⟨?_, ?_, ?_⟩
    · refine l_szIntSS_pc Dist (sz1 Open.length left) ?_
      · have := sz1_bound (n := Open.length) (left := left) (by omega); omega
    · intro b3
      try simp only [nrmT] at b3
      unfold szField; first | rw [if_pos (by omega)] | rw [if_neg (by omega), if_pos (by omega)] | rw [if_neg (by omega), if_neg (by omega)]
    · intro b4
      try simp only [nrmT] at b4
      unfold szField; first | rw [if_pos (by omega)] | rw [if_neg (by omega), if_pos (by omega)] | rw [if_neg (by omega), if_neg (by omega)]
theorem l_szField_pc (Open : List Int) (Dist : List (List Int)) (left : Int) (hl : 0 ≤ left ∧ left ≤ 1048576) : PC Try.prog 27 [.agg [.sl (.ints Open), .sl (.rows Dist)], .int .i64 left] (.one (.d (.int .i64 (szField Open Dist left)))) :=
  pc_wf @Try.call27 fun hw => pc_by (by kernel_rfl) Try.func27 @Try.call27 (by kernel_rfl) l_szField_C (l_szField_A Open Dist left) (by kernel_rfl) (l_szField_vc Open Dist left hl hw.1.1 hw.1.2.1.1 hw.1.2.1.2) (by kernel_rfl)
def l_szField_orc : List D → Orc := orcN [none, none] fun ds => match ds with
  | [.agg [.sl (.ints Open), .sl (.rows Dist)], .int .i64 left] => some (.one (.d (.int .i64 (szField Open Dist left))))
  | _ => none
def l_toField_C (f : FuncId) (ds : List D) : Orc := bif Nat.beq f 22 then l_toIntS_orc ds else bif Nat.beq f 80 then l_toIntSS_orc ds else .no
def l_toField_A (Open : List Int) (Dist : List (List Int)) : Ann := .none
def l_toField_P (Open : List Int) (Dist : List (List Int)) : Prop :=
  (PC Try.prog 22 [.sl (.ints Open)] (.one (.d (.sl (.ints Open))))) ∧ (PC Try.prog 80 [.sl (.rows Dist)] (.one (.d (.sl (.rows Dist))))) ∧ (((.agg [.sl (.ints Open), .sl (.rows Dist)] : D) = .agg [.sl (.ints Open), .sl (.rows Dist)]))
theorem l_toField_vc (Open : List Int) (Dist : List (List Int)) (h1 : Open.length ≤ 1048576) (h2 : Dist.length ≤ 1048576) (h3 : ∀ xs ∈ Dist, xs.length ≤ 1048576) (w_Open : (Open.length : Int) ≤ 9223372036854775807) (w_Dist : (Dist.length : Int) ≤ 9223372036854775807) (v_Dist : ∀ x9 ∈ Dist, (x9.length : Int) ≤ 9223372036854775807) : l_toField_P Open Dist := by
  unfold l_toField_P
  refine ⟨?_, ?_, rfl⟩
  · refine l_toIntS_pc Open ?_
    · assumption
  · refine l_toIntSS_pc Dist ?_ ?_
    · assumption
    · assumption
theorem l_toField_pc (Open : List Int) (Dist : List (List Int)) (h1 : Open.length ≤ 1048576) (h2 : Dist.length ≤ 1048576) (h3 : ∀ xs ∈ Dist, xs.length ≤ 1048576) : PC Try.prog 29 [.agg [.sl (.ints Open), .sl (.rows Dist)]] (.one (.d (.agg [.sl (.ints Open), .sl (.rows Dist)]))) :=
  pc_wf @Try.call29 fun hw => pc_by (by kernel_rfl) Try.func29 @Try.call29 (by kernel_rfl) l_toField_C (l_toField_A Open Dist) (by kernel_rfl) (l_toField_vc Open Dist h1 h2 h3 hw.1.1 hw.1.2.1.1 hw.1.2.1.2) (by kernel_rfl)
def l_toField_orc : List D → Orc := orcN [none] fun ds => match ds with
  | [.agg [.sl (.ints Open), .sl (.rows Dist)]] => some (.one (.d (.agg [.sl (.ints Open), .sl (.rows Dist)])))
  | _ => none
def l_eqField_C (f : FuncId) (ds : List D) : Orc := bif Nat.beq f 24 then l_eqIntS_orc ds else bif Nat.beq f 83 then l_eqIntSS_orc ds else .no
def l_eqField_A (o1 : List Int) (d1 : List (List Int)) (o2 : List Int) (d2 : List (List Int)) : Ann := .none
def l_eqField_P (o1 : List Int) (d1 : List (List Int)) (o2 : List Int) (d2 : List (List Int)) : Prop :=
  (PC Try.prog 24 [.sl (.ints o1), .sl (.ints o2)] (.one (.d (.bool (o1 == o2))))) ∧ (((!(o1 == o2)) = true → ((false = ((o1 == o2) && (d1 == d2))))) ∧ ((!(o1 == o2)) = false → (PC Try.prog 83 [.sl (.rows d1), .sl (.rows d2)] (.one (.d (.bool (d1 == d2))))) ∧ (((!(d1 == d2)) = true → ((false = ((o1 == o2) && (d1 == d2))))) ∧ ((!(d1 == d2)) = false → ((true = ((o1 == o2) && (d1 == d2))))))))
theorem l_eqField_vc (o1 : List Int) (d1 : List (List Int)) (o2 : List Int) (d2 : List (List Int))  (w_o1 : (o1.length : Int) ≤ 9223372036854775807) (w_d1 : (d1.length : Int) ≤ 9223372036854775807) (v_d1 : ∀ x9 ∈ d1, (x9.length : Int) ≤ 9223372036854775807) (w_o2 : (o2.length : Int) ≤ 9223372036854775807) (w_d2 : (d2.length : Int) ≤ 9223372036854775807) (v_d2 : ∀ x9 ∈ d2, (x9.length : Int) ≤ 9223372036854775807) : l_eqField_P o1 d1 o2 d2 := by
  unfold l_eqField_P
  refine ⟨l_eqIntS_pc o1 o2, ?_, ?_⟩
  · intro b1
    try simp only [nrmT] at b1
    first | omega | rfl | (intro hg; simp only [nrmT] at hg; omega) | (intro g1 g2; simp [g1, g2]; done) | (intro g1; simp at g1 ⊢; simp [g1]; done) | (simp only [nrmT] at *; omega) | (simp at * <;> omega) | (simp_all <;> omega) | (simp_all; done)
  · intro b2
    try simp only [nrmT] at b2
    refine ⟨l_eqIntSS_pc d1 d2, ?_, ?_⟩
    · intro b3
      try simp only [nrmT] at b3
      first | omega | rfl | (intro hg; simp only [nrmT] at hg; omega) | (intro g1 g2; simp [g1, g2]; done) | (intro g1; simp at g1 ⊢; simp [g1]; done) | (simp only [nrmT] at *; omega) | (simp at * <;> omega) | (simp_all <;> omega) | (simp_all; done)
    · intro b4
      try simp only [nrmT] at b4
      first | omega | rfl | (intro hg; simp only [nrmT] at hg; omega) | (intro g1 g2; simp [g1, g2]; done) | (intro g1; simp at g1 ⊢; simp [g1]; done) | (simp only [nrmT] at *; omega) | (simp at * <;> omega) | (simp_all <;> omega) | (simp_all; done)
theorem l_eqField_pc (o1 : List Int) (d1 : List (List Int)) (o2 : List Int) (d2 : List (List Int))  : PC Try.prog 32 [.agg [.sl (.ints o1), .sl (.rows d1)], .agg [.sl (.ints o2), .sl (.rows d2)]] (.one (.d (.bool ((o1 == o2) && (d1 == d2))))) :=
  pc_wf @Try.call32 fun hw => pc_by (by kernel_rfl) Try.func32 @Try.call32 (by kernel_rfl) l_eqField_C (l_eqField_A o1 d1 o2 d2) (by kernel_rfl) (l_eqField_vc o1 d1 o2 d2 hw.1.1 hw.1.2.1.1 hw.1.2.1.2 hw.2.1.1 hw.2.1.2.1.1 hw.2.1.2.1.2) (by kernel_rfl)
def l_eqField_orc : List D → Orc := orcN [none, none] fun ds => match ds with
  | [.agg [.sl (.ints o1), .sl (.rows d1)], .agg [.sl (.ints o2), .sl (.rows d2)]] => some (.one (.d (.bool ((o1 == o2) && (d1 == d2)))))
  | _ => none
abbrev s_l2Row_JJ0 (row : List Int) (n : Int) (most : Int) (i : Int) : Prop := (0 ≤ i) ∧ (i ≤ (row.length : Int)) ∧ (allTo (fun k => inB (row.getD k 0) 0 most) i.toNat = true)
abbrev s_l2Row_mJ0 (row : List Int) (n : Int) (most : Int) (i : Int) : Nat := (row.length - i).toNat
def s_l2Row_C (f : FuncId) (ds : List D) : Orc := bif Nat.beq f 78 then s_l1In_orc ds else .no
def s_l2Row_A (row : List Int) (n : Int) (most : Int) : Ann := .two (.none) (.two (.two (.none) (.loop (cut1 (fun (i : Int) => s_l2Row_JJ0 row n most i) (fun (i : Int) => [(0, .d false (.sl (.ints row))), (1, .d false (.int .i64 n)), (2, .d false (.int .i64 most)), (7, .d true (.int .i64 i))]) (fun (i : Int) => [])) (fun g => s_l2Row_mJ0 row n most g) (fun _ => .none))) (.none))
def s_l2Row_P (row : List Int) (n : Int) (most : Int) : Prop :=
  ((∃ i' : Int, (s_l2Row_JJ0 row n most i') ∧ (row = row) ∧ (n = n) ∧ (most = most) ∧ ((0 : Int) = i')) ∧ (∀ i : Int, (s_l2Row_JJ0 row n most i) → (((decide (i < (row.length : Int))) = true → ((0 : Int) ≤ i) ∧ ((i : Int) < row.length) ∧ (i.toNat < row.length) ∧ (PC Try.prog 78 [.int .i64 (row.getD i.toNat 0), .int .i64 0, .int .i64 most] (.one (.d (.bool (inB (row.getD i.toNat 0) 0 most))))) ∧ (((!(inB (row.getD i.toNat 0) 0 most)) = true → ((false = (rowOk row n most)))) ∧ ((!(inB (row.getD i.toNat 0) 0 most)) = false → (-9223372036854775808 ≤ (i + 1) ∧ (i + 1) ≤ 9223372036854775807) ∧ (∃ i' : Int, (s_l2Row_JJ0 row n most i') ∧ (s_l2Row_mJ0 row n most i' < s_l2Row_mJ0 row n most i) ∧ (row = row) ∧ (n = n) ∧ (most = most) ∧ ((i + 1) = i'))))) ∧ ((decide (i < (row.length : Int))) = false → ((((row.length : Int) == n) = (rowOk row n most)))))))
theorem s_l2Row_vc (row : List Int) (n : Int) (most : Int)  (w_row : (row.length : Int) ≤ 9223372036854775807) : s_l2Row_P row n most := by
  unfold s_l2Row_P
  refine ⟨?_, ?_⟩
  · refine ⟨0, ?_⟩
    refine ⟨?_, rfl, rfl, rfl, rfl⟩
    · refine ⟨?_, ?_, ?_⟩
      · first | omega | rfl | (intro hg; simp only [nrmT] at hg; omega) | (intro g1 g2; simp [g1, g2]; done) | (intro g1; simp at g1 ⊢; simp [g1]; done) | (simp only [nrmT] at *; omega) | (simp at * <;> omega) | (simp_all <;> omega) | (simp_all; done)
      · first | omega | rfl | (intro hg; simp only [nrmT] at hg; omega) | (intro g1 g2; simp [g1, g2]; done) | (intro g1; simp at g1 ⊢; simp [g1]; done) | (simp only [nrmT] at *; omega) | (simp at * <;> omega) | (simp_all <;> omega) | (simp_all; done)
      · first | omega | rfl | (intro hg; simp only [nrmT] at hg; omega) | (intro g1 g2; simp [g1, g2]; done) | (intro g1; simp at g1 ⊢; simp [g1]; done) | (simp only [nrmT] at *; omega) | (simp at * <;> omega) | (simp_all <;> omega) | (simp_all; done)
  · intro i hJ
    obtain ⟨h1, h2, h3⟩ := hJ
    refine ⟨?_, ?_⟩
    · intro b1
      try simp only [nrmT] at b1
      refine ⟨?_, ?_, ?_, s_l1In_pc (row.getD i.toNat 0) 0 most, ?_, ?_⟩
      · first | omega | rfl | (intro hg; simp only [nrmT] at hg; omega) | (intro g1 g2; simp [g1, g2]; done) | (intro g1; simp at g1 ⊢; simp [g1]; done) | (simp only [nrmT] at *; omega) | (simp at * <;> omega) | (simp_all <;> omega) | (simp_all; done)
      · first | omega | rfl | (intro hg; simp only [nrmT] at hg; omega) | (intro g1 g2; simp [g1, g2]; done) | (intro g1; simp at g1 ⊢; simp [g1]; done) | (simp only [nrmT] at *; omega) | (simp at * <;> omega) | (simp_all <;> omega) | (simp_all; done)
      · first | omega | rfl | (intro hg; simp only [nrmT] at hg; omega) | (intro g1 g2; simp [g1, g2]; done) | (intro g1; simp at g1 ⊢; simp [g1]; done) | (simp only [nrmT] at *; omega) | (simp at * <;> omega) | (simp_all <;> omega) | (simp_all; done)
      · intro b2
        try simp only [nrmT] at b2
        unfold rowOk
        rw [all_no (p := fun x => inB x 0 most) (d := 0) h1 (by omega) b2]; rfl
      · intro b3
        try simp only [nrmT] at b3
        refine ⟨?_, ?_⟩
        · first | omega | rfl | (intro hg; simp only [nrmT] at hg; omega) | (intro g1 g2; simp [g1, g2]; done) | (intro g1; simp at g1 ⊢; simp [g1]; done) | (simp only [nrmT] at *; omega) | (simp at * <;> omega) | (simp_all <;> omega) | (simp_all; done)
        · refine ⟨(i + 1), ?_⟩
          refine ⟨?_, ?_, rfl, rfl, rfl, rfl⟩
          · refine ⟨?_, ?_, ?_⟩
            · first | omega | rfl | (intro hg; simp only [nrmT] at hg; omega) | (intro g1 g2; simp [g1, g2]; done) | (intro g1; simp at g1 ⊢; simp [g1]; done) | (simp only [nrmT] at *; omega) | (simp at * <;> omega) | (simp_all <;> omega) | (simp_all; done)
            · first | omega | rfl | (intro hg; simp only [nrmT] at hg; omega) | (intro g1 g2; simp [g1, g2]; done) | (intro g1; simp at g1 ⊢; simp [g1]; done) | (simp only [nrmT] at *; omega) | (simp at * <;> omega) | (simp_all <;> omega) | (simp_all; done)
            · exact allTo_step h1 h3 b3
          · first | (show _ < _; omega) | (simp only [s_l2Row_mJ0]; omega) | (simp only [s_l2Row_mJ0] at *; simp at *; omega)
    · intro b4
      try simp only [nrmT] at b4
      unfold rowOk
      rw [all_end (p := fun x => inB x 0 most) (d := 0) (by omega) h2 h3, Bool.true_and]; rfl
theorem s_l2Row_pc (row : List Int) (n : Int) (most : Int)  : PC Try.prog 140 [.sl (.ints row), .int .i64 n, .int .i64 most] (.one (.d (.bool (rowOk row n most)))) :=
  pc_wf @Try.call140 fun hw => pc_by (by kernel_rfl) Try.func140 @Try.call140 (by kernel_rfl) s_l2Row_C (s_l2Row_A row n most) (by kernel_rfl) (s_l2Row_vc row n most hw.1) (by kernel_rfl)
def s_l2Row_orc : List D → Orc := orcN [some .ints, none, none] fun ds => match ds with
  | [.sl (.ints row), .int .i64 n, .int .i64 most] => some (.one (.d (.bool (rowOk row n most))))
  | _ => none
abbrev s_l2Good_JJ0 (Open : List Int) (Dist : List (List Int)) (i : Int) : Prop := (0 ≤ i) ∧ (i ≤ (Dist.length : Int)) ∧ (allTo (fun k => rowOk (Dist.getD k []) (Open.length : Int) 99) i.toNat = true)
abbrev s_l2Good_mJ0 (Open : List Int) (Dist : List (List Int)) (i : Int) : Nat := (Dist.length - i).toNat
def s_l2Good_C (f : FuncId) (ds : List D) : Orc := bif Nat.beq f 140 then s_l2Row_orc ds else bif Nat.beq f 78 then s_l1In_orc ds else .no
def s_l2Good_A (Open : List Int) (Dist : List (List Int)) : Ann := .two (.none) (.two (.none) (.two (.two (.none) (.loop (cut1 (fun (i : Int) => s_l2Good_JJ0 Open Dist i) (fun (i : Int) => [(1, .ptr 1 0), (3, .d true (.int .i64 (Open.length : Int))), (4, .d true (.int .i64 i))]) (fun (i : Int) => [(1, .box 37 [.d false (.sl (.ints Open)), .d false (.sl (.rows Dist))])])) (fun g => s_l2Good_mJ0 Open Dist g) (fun _ => .none))) (.none)))
def s_l2Good_P (Open : List Int) (Dist : List (List Int)) : Prop :=
  ((∃ i' : Int, (s_l2Good_JJ0 Open Dist i') ∧ ((Open.length : Int) = (Open.length : Int)) ∧ ((0 : Int) = i') ∧ (Open = Open) ∧ (Dist = Dist)) ∧ (∀ i : Int, (s_l2Good_JJ0 Open Dist i) → (((decide (i < (Dist.length : Int))) = true → ((0 : Int) ≤ i) ∧ ((i : Int) < Dist.length) ∧ (i.toNat < Dist.length) ∧ (PC Try.prog 140 [.sl (.ints (Dist.getD i.toNat [])), .int .i64 (Open.length : Int), .int .i64 99] (.one (.d (.bool (rowOk (Dist.getD i.toNat []) (Open.length : Int) 99))))) ∧ (((!(rowOk (Dist.getD i.toNat []) (Open.length : Int) 99)) = true → ((false = (goodField Open Dist)))) ∧ ((!(rowOk (Dist.getD i.toNat []) (Open.length : Int) 99)) = false → (-9223372036854775808 ≤ (i + 1) ∧ (i + 1) ≤ 9223372036854775807) ∧ (∃ i' : Int, (s_l2Good_JJ0 Open Dist i') ∧ (s_l2Good_mJ0 Open Dist i' < s_l2Good_mJ0 Open Dist i) ∧ ((Open.length : Int) = (Open.length : Int)) ∧ ((i + 1) = i') ∧ (Open = Open) ∧ (Dist = Dist))))) ∧ ((decide (i < (Dist.length : Int))) = false → (PC Try.prog 78 [.int .i64 (Open.length : Int), .int .i64 1, .int .i64 7] (.one (.d (.bool (inB (Open.length : Int) 1 7))))) ∧ ((inB (Open.length : Int) 1 7) = true → (inB (Open.length : Int) 1 7) = true) ∧ ((inB (Open.length : Int) 1 7) = true → (inB (Open.length : Int) 1 7) = true) ∧ ((inB (Open.length : Int) 1 7) = true → (inB (Open.length : Int) 1 7) = true) ∧ ((inB (Open.length : Int) 1 7) = true → PC Try.prog 140 [.sl (.ints Open), .int .i64 (Open.length : Int), .int .i64 99] (.one (.d (.bool (rowOk Open (Open.length : Int) 99))))) ∧ (true = true) ∧ (((inB (Open.length : Int) 1 7) = true → (inB (Open.length : Int) 1 7) = true)) ∧ (((inB (Open.length : Int) 1 7) = false → true = true)) ∧ ((cond (inB (Open.length : Int) 1 7) (rowOk Open (Open.length : Int) 99) false) = true → (cond (inB (Open.length : Int) 1 7) (rowOk Open (Open.length : Int) 99) false) = true) ∧ ((cond (inB (Open.length : Int) 1 7) (rowOk Open (Open.length : Int) 99) false) = true → (cond (inB (Open.length : Int) 1 7) (rowOk Open (Open.length : Int) 99) false) = true) ∧ ((cond (inB (Open.length : Int) 1 7) (rowOk Open (Open.length : Int) 99) false) = true → (cond (inB (Open.length : Int) 1 7) (rowOk Open (Open.length : Int) 99) false) = true) ∧ (true = true) ∧ (((cond (inB (Open.length : Int) 1 7) (rowOk Open (Open.length : Int) 99) false) = true → (cond (inB (Open.length : Int) 1 7) (rowOk Open (Open.length : Int) 99) false) = true)) ∧ (((cond (inB (Open.length : Int) 1 7) (rowOk Open (Open.length : Int) 99) false) = false → true = true)) ∧ (((cond (cond (inB (Open.length : Int) 1 7) (rowOk Open (Open.length : Int) 99) false) (decide ((Dist.length : Int) ≤ 7)) false) = (goodField Open Dist)))))))
theorem s_l2Good_vc (Open : List Int) (Dist : List (List Int))  (w_Open : (Open.length : Int) ≤ 9223372036854775807) (w_Dist : (Dist.length : Int) ≤ 9223372036854775807) (v_Dist : ∀ x9 ∈ Dist, (x9.length : Int) ≤ 9223372036854775807) : s_l2Good_P Open Dist := by
  unfold s_l2Good_P
  refine ⟨?_, ?_⟩
  · refine ⟨0, ?_⟩
    refine ⟨?_, rfl, rfl, rfl, rfl⟩
    · refine ⟨?_, ?_, ?_⟩
      · first | omega | rfl | (intro hg; simp only [nrmT] at hg; omega) | (intro g1 g2; simp [g1, g2]; done) | (intro g1; simp at g1 ⊢; simp [g1]; done) | (simp only [nrmT] at *; omega) | (simp at * <;> omega) | (simp_all <;> omega) | (simp_all; done)
      · first | omega | rfl | (intro hg; simp only [nrmT] at hg; omega) | (intro g1 g2; simp [g1, g2]; done) | (intro g1; simp at g1 ⊢; simp [g1]; done) | (simp only [nrmT] at *; omega) | (simp at * <;> omega) | (simp_all <;> omega) | (simp_all; done)
      · first | omega | rfl | (intro hg; simp only [nrmT] at hg; omega) | (intro g1 g2; simp [g1, g2]; done) | (intro g1; simp at g1 ⊢; simp [g1]; done) | (simp only [nrmT] at *; omega) | (simp at * <;> omega) | (simp_all <;> omega) | (simp_all; done)
  · intro i hJ
    obtain ⟨h1, h2, h3⟩ := hJ
    refine ⟨?_, ?_⟩
    · intro b1
      try simp only [nrmT] at b1
      refine ⟨?_, ?_, ?_, s_l2Row_pc (Dist.getD i.toNat []) (Open.length : Int) 99, ?_, ?_⟩
      · first | omega | rfl | (intro hg; simp only [nrmT] at hg; omega) | (intro g1 g2; simp [g1, g2]; done) | (intro g1; simp at g1 ⊢; simp [g1]; done) | (simp only [nrmT] at *; omega) | (simp at * <;> omega) | (simp_all <;> omega) | (simp_all; done)
      · first | omega | rfl | (intro hg; simp only [nrmT] at hg; omega) | (intro g1 g2; simp [g1, g2]; done) | (intro g1; simp at g1 ⊢; simp [g1]; done) | (simp only [nrmT] at *; omega) | (simp at * <;> omega) | (simp_all <;> omega) | (simp_all; done)
      · first | omega | rfl | (intro hg; simp only [nrmT] at hg; omega) | (intro g1 g2; simp [g1, g2]; done) | (intro g1; simp at g1 ⊢; simp [g1]; done) | (simp only [nrmT] at *; omega) | (simp at * <;> omega) | (simp_all <;> omega) | (simp_all; done)
      · intro b2
        try simp only [nrmT] at b2
        unfold goodField
        rw [all_no (p := fun l => rowOk l (Open.length : Int) 99) (d := []) h1 (by omega) b2, Bool.and_false]
      · intro b3
        try simp only [nrmT] at b3
        refine ⟨?_, ?_⟩
        · first | omega | rfl | (intro hg; simp only [nrmT] at hg; omega) | (intro g1 g2; simp [g1, g2]; done) | (intro g1; simp at g1 ⊢; simp [g1]; done) | (simp only [nrmT] at *; omega) | (simp at * <;> omega) | (simp_all <;> omega) | (simp_all; done)
        · refine ⟨(i + 1), ?_⟩
          refine ⟨?_, ?_, rfl, rfl, rfl, rfl⟩
          · refine ⟨?_, ?_, ?_⟩
            · first | omega | rfl | (intro hg; simp only [nrmT] at hg; omega) | (intro g1 g2; simp [g1, g2]; done) | (intro g1; simp at g1 ⊢; simp [g1]; done) | (simp only [nrmT] at *; omega) | (simp at * <;> omega) | (simp_all <;> omega) | (simp_all; done)
            · first | omega | rfl | (intro hg; simp only [nrmT] at hg; omega) | (intro g1 g2; simp [g1, g2]; done) | (intro g1; simp at g1 ⊢; simp [g1]; done) | (simp only [nrmT] at *; omega) | (simp at * <;> omega) | (simp_all <;> omega) | (simp_all; done)
            · exact allTo_step h1 h3 b3
          · first | (show _ < _; omega) | (simp only [s_l2Good_mJ0]; omega) | (simp only [s_l2Good_mJ0] at *; simp at *; omega)
    · intro b4
      try simp only [nrmT] at b4
      refine ⟨s_l1In_pc (Open.length : Int) 1 7, id, id, id, fun _ => s_l2Row_pc Open (Open.length : Int) 99, rfl, id, fun _ => rfl, id, id, id, rfl, id, fun _ => rfl, ?_⟩
      · unfold goodField
        rw [all_end (p := fun l => rowOk l (Open.length : Int) 99) (d := []) (by omega) h2 h3, show decide ((Dist.length : Int) ≤ 7) = decide (Dist.length ≤ 7) from len_le _ 7]
        unfold rowOk
        cases inB (Open.length : Int) 1 7 <;> cases Open.all (fun x => inB x 0 99) <;> cases decide (Dist.length ≤ 7) <;> simp
theorem s_l2Good_pc (Open : List Int) (Dist : List (List Int))  : PC Try.prog 77 [.agg [.sl (.ints Open), .sl (.rows Dist)]] (.one (.d (.bool (goodField Open Dist)))) :=
  pc_wf @Try.call77 fun hw => pc_by (by kernel_rfl) Try.func77 @Try.call77 (by kernel_rfl) s_l2Good_C (s_l2Good_A Open Dist) (by kernel_rfl) (s_l2Good_vc Open Dist hw.1.1 hw.1.2.1.1 hw.1.2.1.2) (by kernel_rfl)
def s_l2Good_orc : List D → Orc := orcN [none] fun ds => match ds with
  | [.agg [.sl (.ints Open), .sl (.rows Dist)]] => some (.one (.d (.bool (goodField Open Dist))))
  | _ => none
def i_IsField_1_C (f : FuncId) (ds : List D) : Orc := bif Nat.beq f 137 then i_areBetween_orc ds else .no
def i_IsField_1_A (xs : List Int) (Open : List Int) (Dist : List (List Int)) : Ann := .none
def i_IsField_1_P (xs : List Int) (Open : List Int) (Dist : List (List Int)) : Prop :=
  ((!((xs.length : Int) != (Open.length : Int))) = true → (!((xs.length : Int) != (Open.length : Int))) = true) ∧ ((!((xs.length : Int) != (Open.length : Int))) = true → PC Try.prog 137 [.sl (.ints xs), .int .i64 0, .int .i64 99] (.one (.d (.bool (xs.all (fun x => inB x 0 99)))))) ∧ ((!((xs.length : Int) != (Open.length : Int))) = true → (!((xs.length : Int) != (Open.length : Int))) = true) ∧ (true = true) ∧ ((((xs.length : Int) != (Open.length : Int)) = true → true = true)) ∧ ((((xs.length : Int) != (Open.length : Int)) = false → (!((xs.length : Int) != (Open.length : Int))) = true)) ∧ (((cond ((xs.length : Int) != (Open.length : Int)) true (!(xs.all (fun x => inB x 0 99)))) = (!(rowOk xs (Open.length : Int) 99))))
theorem i_IsField_1_vc (xs : List Int) (Open : List Int) (Dist : List (List Int))  (w_xs : (xs.length : Int) ≤ 9223372036854775807) (w_Open : (Open.length : Int) ≤ 9223372036854775807) (w_Dist : (Dist.length : Int) ≤ 9223372036854775807) (v_Dist : ∀ x9 ∈ Dist, (x9.length : Int) ≤ 9223372036854775807) : i_IsField_1_P xs Open Dist := by
  unfold i_IsField_1_P
  refine ⟨id, fun _ => i_areBetween_pc xs 0 99, id, rfl, fun _ => rfl, ?_, ?_⟩
  · first | omega | rfl | (intro hg; simp only [nrmT] at hg; omega) | (intro g1 g2; simp [g1, g2]; done) | (intro g1; simp at g1 ⊢; simp [g1]; done) | (simp only [nrmT] at *; omega) | (simp at * <;> omega) | (simp_all <;> omega) | (simp_all; done)
  · unfold rowOk
    by_cases h : (xs.length : Int) = (Open.length : Int)
    · simp [h]
    · simp [h]
theorem i_IsField_1_pc (xs : List Int) (Open : List Int) (Dist : List (List Int))  : PC Try.prog 142 [.sl (.ints xs), .bx [.sl (.ints Open), .sl (.rows Dist)] 0] (.one (.d (.bool (!(rowOk xs (Open.length : Int) 99))))) :=
  pc_wf @Try.call142 fun hw => pc_by (by kernel_rfl) Try.func142 @Try.call142 (by kernel_rfl) i_IsField_1_C (i_IsField_1_A xs Open Dist) (by kernel_rfl) (i_IsField_1_vc xs Open Dist hw.1 hw.2.1.1 hw.2.1.2.1.1 hw.2.1.2.1.2) (by kernel_rfl)
def i_IsField_1_orc : List D → Orc := orcN [some .ints, none] fun ds => match ds with
  | [.sl (.ints xs), .bx [.sl (.ints Open), .sl (.rows Dist)] 0] => some (.one (.d (.bool (!(rowOk xs (Open.length : Int) 99)))))
  | _ => none
abbrev slices_IndexFunc_int_int_iF_JJ0 (xs : List (List Int)) (Open : List Int) (Dist : List (List Int)) (i : Int) : Prop := (0 ≤ i) ∧ (i ≤ (xs.length : Int)) ∧ (∀ k, k < i.toNat → (fun x => !(rowOk x (Open.length : Int) 99)) (xs.getD k []) = false)
abbrev slices_IndexFunc_int_int_iF_mJ0 (xs : List (List Int)) (Open : List Int) (Dist : List (List Int)) (i : Int) : Nat := (xs.length - i).toNat
def slices_IndexFunc_int_int_iF_C (f : FuncId) (ds : List D) : Orc := bif Nat.beq f 142 then i_IsField_1_orc ds else .no
def slices_IndexFunc_int_int_iF_A (xs : List (List Int)) (Open : List Int) (Dist : List (List Int)) : Ann := .two (.none) (.two (.two (.none) (.loop (cut1 (fun (i : Int) => slices_IndexFunc_int_int_iF_JJ0 xs Open Dist i) (fun (i : Int) => [(0, .d false (.sl (.rows xs))), (1, .d false (.fn 142 0 [.bx [.sl (.ints Open), .sl (.rows Dist)] 0])), (7, .d true (.int .i64 (xs.length : Int))), (8, .d true (.int .i64 i))]) (fun (i : Int) => [])) (fun g => slices_IndexFunc_int_int_iF_mJ0 xs Open Dist g) (fun _ => .none))) (.none))
def slices_IndexFunc_int_int_iF_P (xs : List (List Int)) (Open : List Int) (Dist : List (List Int)) : Prop :=
  ((∃ i' : Int, (slices_IndexFunc_int_int_iF_JJ0 xs Open Dist i') ∧ (xs = xs) ∧ ((.fn 142 0 [.bx [.sl (.ints Open), .sl (.rows Dist)] 0] : D) = (.fn 142 0 [.bx [.sl (.ints Open), .sl (.rows Dist)] 0] : D)) ∧ ((xs.length : Int) = (xs.length : Int)) ∧ ((0 : Int) = i')) ∧ (∀ i : Int, (slices_IndexFunc_int_int_iF_JJ0 xs Open Dist i) → (((decide (i < (xs.length : Int))) = true → ((0 : Int) ≤ i) ∧ ((i : Int) < xs.length) ∧ (i.toNat < xs.length) ∧ (PC Try.prog 142 [.sl (.ints (xs.getD i.toNat [])), .bx [.sl (.ints Open), .sl (.rows Dist)] 0] (.one (.d (.bool (!(rowOk (xs.getD i.toNat []) (Open.length : Int) 99)))))) ∧ (((!(rowOk (xs.getD i.toNat []) (Open.length : Int) 99)) = true → ((i = (idxI (fun x => !(rowOk x (Open.length : Int) 99)) xs)))) ∧ ((!(rowOk (xs.getD i.toNat []) (Open.length : Int) 99)) = false → (-9223372036854775808 ≤ (i + 1) ∧ (i + 1) ≤ 9223372036854775807) ∧ (∃ i' : Int, (slices_IndexFunc_int_int_iF_JJ0 xs Open Dist i') ∧ (slices_IndexFunc_int_int_iF_mJ0 xs Open Dist i' < slices_IndexFunc_int_int_iF_mJ0 xs Open Dist i) ∧ (xs = xs) ∧ ((.fn 142 0 [.bx [.sl (.ints Open), .sl (.rows Dist)] 0] : D) = (.fn 142 0 [.bx [.sl (.ints Open), .sl (.rows Dist)] 0] : D)) ∧ ((xs.length : Int) = (xs.length : Int)) ∧ ((i + 1) = i'))))) ∧ ((decide (i < (xs.length : Int))) = false → ((((-1) : Int) = (idxI (fun x => !(rowOk x (Open.length : Int) 99)) xs)))))))
theorem slices_IndexFunc_int_int_iF_vc (xs : List (List Int)) (Open : List Int) (Dist : List (List Int))  (w_xs : (xs.length : Int) ≤ 9223372036854775807) (v_xs : ∀ x9 ∈ xs, (x9.length : Int) ≤ 9223372036854775807) (w_Open : (Open.length : Int) ≤ 9223372036854775807) (w_Dist : (Dist.length : Int) ≤ 9223372036854775807) (v_Dist : ∀ x9 ∈ Dist, (x9.length : Int) ≤ 9223372036854775807) : slices_IndexFunc_int_int_iF_P xs Open Dist := by
  unfold slices_IndexFunc_int_int_iF_P
  refine ⟨?_, ?_⟩
  · refine ⟨0, ?_⟩
    refine ⟨?_, rfl, rfl, rfl, rfl⟩
    · refine ⟨?_, ?_, ?_⟩
      · first | omega | rfl | (intro hg; simp only [nrmT] at hg; omega) | (intro g1 g2; simp [g1, g2]; done) | (intro g1; simp at g1 ⊢; simp [g1]; done) | (simp only [nrmT] at *; omega) | (simp at * <;> omega) | (simp_all <;> omega) | (simp_all; done)
      · first | omega | rfl | (intro hg; simp only [nrmT] at hg; omega) | (intro g1 g2; simp [g1, g2]; done) | (intro g1; simp at g1 ⊢; simp [g1]; done) | (simp only [nrmT] at *; omega) | (simp at * <;> omega) | (simp_all <;> omega) | (simp_all; done)
      · first | omega | rfl | (intro hg; simp only [nrmT] at hg; omega) | (intro g1 g2; simp [g1, g2]; done) | (intro g1; simp at g1 ⊢; simp [g1]; done) | (simp only [nrmT] at *; omega) | (simp at * <;> omega) | (simp_all <;> omega) | (simp_all; done)
  · intro i hJ
    obtain ⟨h1, h2, h3⟩ := hJ
    refine ⟨?_, ?_⟩
    · intro b1
      try simp only [nrmT] at b1
      refine ⟨?_, ?_, ?_, i_IsField_1_pc (xs.getD i.toNat []) Open Dist, ?_, ?_⟩
      · first | omega | rfl | (intro hg; simp only [nrmT] at hg; omega) | (intro g1 g2; simp [g1, g2]; done) | (intro g1; simp at g1 ⊢; simp [g1]; done) | (simp only [nrmT] at *; omega) | (simp at * <;> omega) | (simp_all <;> omega) | (simp_all; done)
      · first | omega | rfl | (intro hg; simp only [nrmT] at hg; omega) | (intro g1 g2; simp [g1, g2]; done) | (intro g1; simp at g1 ⊢; simp [g1]; done) | (simp only [nrmT] at *; omega) | (simp at * <;> omega) | (simp_all <;> omega) | (simp_all; done)
      · first | omega | rfl | (intro hg; simp only [nrmT] at hg; omega) | (intro g1 g2; simp [g1, g2]; done) | (intro g1; simp at g1 ⊢; simp [g1]; done) | (simp only [nrmT] at *; omega) | (simp at * <;> omega) | (simp_all <;> omega) | (simp_all; done)
      · intro b2
        try simp only [nrmT] at b2
        exact idx_found (p := fun x => !(rowOk x (Open.length : Int) 99)) h1 b1 h3 (by simpa using b2)
      · intro b3
        try simp only [nrmT] at b3
        refine ⟨?_, ?_⟩
        · first | omega | rfl | (intro hg; simp only [nrmT] at hg; omega) | (intro g1 g2; simp [g1, g2]; done) | (intro g1; simp at g1 ⊢; simp [g1]; done) | (simp only [nrmT] at *; omega) | (simp at * <;> omega) | (simp_all <;> omega) | (simp_all; done)
        · refine ⟨(i + 1), ?_⟩
          refine ⟨?_, ?_, rfl, rfl, rfl, rfl⟩
          · refine ⟨?_, ?_, ?_⟩
            · first | omega | rfl | (intro hg; simp only [nrmT] at hg; omega) | (intro g1 g2; simp [g1, g2]; done) | (intro g1; simp at g1 ⊢; simp [g1]; done) | (simp only [nrmT] at *; omega) | (simp at * <;> omega) | (simp_all <;> omega) | (simp_all; done)
            · first | omega | rfl | (intro hg; simp only [nrmT] at hg; omega) | (intro g1 g2; simp [g1, g2]; done) | (intro g1; simp at g1 ⊢; simp [g1]; done) | (simp only [nrmT] at *; omega) | (simp at * <;> omega) | (simp_all <;> omega) | (simp_all; done)
            · exact idx_step (p := fun x => !(rowOk x (Open.length : Int) 99)) h1 h3 (by simpa using b3)
          · first | (show _ < _; omega) | (simp only [slices_IndexFunc_int_int_iF_mJ0]; omega) | (simp only [slices_IndexFunc_int_int_iF_mJ0] at *; simp at *; omega)
    · intro b4
      try simp only [nrmT] at b4
      exact (idx_none (by omega) h3).symm
theorem slices_IndexFunc_int_int_iF_pc (xs : List (List Int)) (Open : List Int) (Dist : List (List Int))  : PC Try.prog 184 [.sl (.rows xs), .fn 142 0 [.bx [.sl (.ints Open), .sl (.rows Dist)] 0]] (.one (.d (.int .i64 (idxI (fun x => !(rowOk x (Open.length : Int) 99)) xs)))) :=
  pc_wf @Try.call184 fun hw => pc_by (by kernel_rfl) Try.func184 @Try.call184 (by kernel_rfl) slices_IndexFunc_int_int_iF_C (slices_IndexFunc_int_int_iF_A xs Open Dist) (by kernel_rfl) (slices_IndexFunc_int_int_iF_vc xs Open Dist hw.1.1 hw.1.2 hw.2.1.1.1 hw.2.1.1.2.1.1 hw.2.1.1.2.1.2) (by kernel_rfl)
def slices_IndexFunc_int_int_iF_orc : List D → Orc := orcN [some .rows, none] fun ds => match ds with
  | [.sl (.rows xs), .fn f0 0 [.bx [.sl (.ints Open), .sl (.rows Dist)] 0]] => bif Nat.beq f0 142 then some (.one (.d (.int .i64 (idxI (fun x => !(rowOk x (Open.length : Int) 99)) xs)))) else none
  | _ => none
def slices_ContainsFunc_int_int_iF_C (f : FuncId) (ds : List D) : Orc := bif Nat.beq f 184 then slices_IndexFunc_int_int_iF_orc ds else .no
def slices_ContainsFunc_int_int_iF_A (xs : List (List Int)) (Open : List Int) (Dist : List (List Int)) : Ann := .none
def slices_ContainsFunc_int_int_iF_P (xs : List (List Int)) (Open : List Int) (Dist : List (List Int)) : Prop :=
  (PC Try.prog 184 [.sl (.rows xs), .fn 142 0 [.bx [.sl (.ints Open), .sl (.rows Dist)] 0]] (.one (.d (.int .i64 (idxI (fun x => !(rowOk x (Open.length : Int) 99)) xs))))) ∧ (((decide ((idxI (fun x => !(rowOk x (Open.length : Int) 99)) xs) ≥ 0)) = (xs.any (fun x => !(rowOk x (Open.length : Int) 99)))))
theorem slices_ContainsFunc_int_int_iF_vc (xs : List (List Int)) (Open : List Int) (Dist : List (List Int))  (w_xs : (xs.length : Int) ≤ 9223372036854775807) (v_xs : ∀ x9 ∈ xs, (x9.length : Int) ≤ 9223372036854775807) (w_Open : (Open.length : Int) ≤ 9223372036854775807) (w_Dist : (Dist.length : Int) ≤ 9223372036854775807) (v_Dist : ∀ x9 ∈ Dist, (x9.length : Int) ≤ 9223372036854775807) : slices_ContainsFunc_int_int_iF_P xs Open Dist := by
  unfold slices_ContainsFunc_int_int_iF_P
  refine ⟨slices_IndexFunc_int_int_iF_pc xs Open Dist, ?_⟩
  · exact idx_any _ _
theorem slices_ContainsFunc_int_int_iF_pc (xs : List (List Int)) (Open : List Int) (Dist : List (List Int))  : PC Try.prog 141 [.sl (.rows xs), .fn 142 0 [.bx [.sl (.ints Open), .sl (.rows Dist)] 0]] (.one (.d (.bool (xs.any (fun x => !(rowOk x (Open.length : Int) 99)))))) :=
  pc_wf @Try.call141 fun hw => pc_by (by kernel_rfl) Try.func141 @Try.call141 (by kernel_rfl) slices_ContainsFunc_int_int_iF_C (slices_ContainsFunc_int_int_iF_A xs Open Dist) (by kernel_rfl) (slices_ContainsFunc_int_int_iF_vc xs Open Dist hw.1.1 hw.1.2 hw.2.1.1.1 hw.2.1.1.2.1.1 hw.2.1.1.2.1.2) (by kernel_rfl)
def slices_ContainsFunc_int_int_iF_orc : List D → Orc := orcN [some .rows, none] fun ds => match ds with
  | [.sl (.rows xs), .fn f0 0 [.bx [.sl (.ints Open), .sl (.rows Dist)] 0]] => bif Nat.beq f0 142 then some (.one (.d (.bool (xs.any (fun x => !(rowOk x (Open.length : Int) 99)))))) else none
  | _ => none
def i_IsField_C (f : FuncId) (ds : List D) : Orc := bif Nat.beq f 82 then i_between_orc ds else bif Nat.beq f 137 then i_areBetween_orc ds else bif Nat.beq f 141 then slices_ContainsFunc_int_int_iF_orc ds else .no
def i_IsField_A (Open : List Int) (Dist : List (List Int)) : Ann := .none
def i_IsField_P (Open : List Int) (Dist : List (List Int)) : Prop :=
  (PC Try.prog 82 [.int .i64 (Open.length : Int), .int .i64 1, .int .i64 7] (.one (.d (.bool (inB (Open.length : Int) 1 7))))) ∧ ((inB (Open.length : Int) 1 7) = true → (inB (Open.length : Int) 1 7) = true) ∧ ((inB (Open.length : Int) 1 7) = true → (inB (Open.length : Int) 1 7) = true) ∧ ((inB (Open.length : Int) 1 7) = true → PC Try.prog 137 [.sl (.ints Open), .int .i64 0, .int .i64 99] (.one (.d (.bool (Open.all (fun x => inB x 0 99)))))) ∧ (true = true) ∧ (((inB (Open.length : Int) 1 7) = true → (inB (Open.length : Int) 1 7) = true)) ∧ (((inB (Open.length : Int) 1 7) = false → true = true)) ∧ ((cond (inB (Open.length : Int) 1 7) (Open.all (fun x => inB x 0 99)) false) = true → (cond (inB (Open.length : Int) 1 7) (Open.all (fun x => inB x 0 99)) false) = true) ∧ ((cond (inB (Open.length : Int) 1 7) (Open.all (fun x => inB x 0 99)) false) = true → (cond (inB (Open.length : Int) 1 7) (Open.all (fun x => inB x 0 99)) false) = true) ∧ ((cond (inB (Open.length : Int) 1 7) (Open.all (fun x => inB x 0 99)) false) = true → (cond (inB (Open.length : Int) 1 7) (Open.all (fun x => inB x 0 99)) false) = true) ∧ (true = true) ∧ (((cond (inB (Open.length : Int) 1 7) (Open.all (fun x => inB x 0 99)) false) = true → (cond (inB (Open.length : Int) 1 7) (Open.all (fun x => inB x 0 99)) false) = true)) ∧ (((cond (inB (Open.length : Int) 1 7) (Open.all (fun x => inB x 0 99)) false) = false → true = true)) ∧ ((cond (cond (inB (Open.length : Int) 1 7) (Open.all (fun x => inB x 0 99)) false) (decide ((Dist.length : Int) ≤ 7)) false) = true → (cond (cond (inB (Open.length : Int) 1 7) (Open.all (fun x => inB x 0 99)) false) (decide ((Dist.length : Int) ≤ 7)) false) = true) ∧ ((cond (cond (inB (Open.length : Int) 1 7) (Open.all (fun x => inB x 0 99)) false) (decide ((Dist.length : Int) ≤ 7)) false) = true → (cond (cond (inB (Open.length : Int) 1 7) (Open.all (fun x => inB x 0 99)) false) (decide ((Dist.length : Int) ≤ 7)) false) = true) ∧ ((cond (cond (inB (Open.length : Int) 1 7) (Open.all (fun x => inB x 0 99)) false) (decide ((Dist.length : Int) ≤ 7)) false) = true → (cond (cond (inB (Open.length : Int) 1 7) (Open.all (fun x => inB x 0 99)) false) (decide ((Dist.length : Int) ≤ 7)) false) = true) ∧ ((cond (cond (inB (Open.length : Int) 1 7) (Open.all (fun x => inB x 0 99)) false) (decide ((Dist.length : Int) ≤ 7)) false) = true → PC Try.prog 141 [.sl (.rows Dist), .fn 142 0 [.bx [.sl (.ints Open), .sl (.rows Dist)] 0]] (.one (.d (.bool (Dist.any (fun x => !(rowOk x (Open.length : Int) 99))))))) ∧ ((cond (cond (inB (Open.length : Int) 1 7) (Open.all (fun x => inB x 0 99)) false) (decide ((Dist.length : Int) ≤ 7)) false) = true → (cond (cond (inB (Open.length : Int) 1 7) (Open.all (fun x => inB x 0 99)) false) (decide ((Dist.length : Int) ≤ 7)) false) = true) ∧ (true = true) ∧ (((cond (cond (inB (Open.length : Int) 1 7) (Open.all (fun x => inB x 0 99)) false) (decide ((Dist.length : Int) ≤ 7)) false) = true → (cond (cond (inB (Open.length : Int) 1 7) (Open.all (fun x => inB x 0 99)) false) (decide ((Dist.length : Int) ≤ 7)) false) = true)) ∧ (((cond (cond (inB (Open.length : Int) 1 7) (Open.all (fun x => inB x 0 99)) false) (decide ((Dist.length : Int) ≤ 7)) false) = false → true = true)) ∧ (((cond (cond (cond (inB (Open.length : Int) 1 7) (Open.all (fun x => inB x 0 99)) false) (decide ((Dist.length : Int) ≤ 7)) false) (!(Dist.any (fun x => !(rowOk x (Open.length : Int) 99)))) false) = (goodField Open Dist)))
theorem i_IsField_vc (Open : List Int) (Dist : List (List Int))  (w_Open : (Open.length : Int) ≤ 9223372036854775807) (w_Dist : (Dist.length : Int) ≤ 9223372036854775807) (v_Dist : ∀ x9 ∈ Dist, (x9.length : Int) ≤ 9223372036854775807) : i_IsField_P Open Dist := by
  unfold i_IsField_P
  refine ⟨i_between_pc (Open.length : Int) 1 7, id, id, fun _ => i_areBetween_pc Open 0 99, rfl, id, fun _ => rfl, id, id, id, rfl, id, fun _ => rfl, id, id, id, fun _ => slices_ContainsFunc_int_int_iF_pc Dist Open Dist, id, rfl, id, fun _ => rfl, ?_⟩
  · unfold goodField
    rw [any_not, show decide ((Dist.length : Int) ≤ 7) = decide (Dist.length ≤ 7) from len_le _ 7]
    cases inB (Open.length : Int) 1 7 <;> cases Open.all (fun x => inB x 0 99) <;> cases decide (Dist.length ≤ 7) <;> simp
theorem i_IsField_pc (Open : List Int) (Dist : List (List Int))  : PC Try.prog 81 [.agg [.sl (.ints Open), .sl (.rows Dist)]] (.one (.d (.bool (goodField Open Dist)))) :=
  pc_wf @Try.call81 fun hw => pc_by (by kernel_rfl) Try.func81 @Try.call81 (by kernel_rfl) i_IsField_C (i_IsField_A Open Dist) (by kernel_rfl) (i_IsField_vc Open Dist hw.1.1 hw.1.2.1.1 hw.1.2.1.2) (by kernel_rfl)
def i_IsField_orc : List D → Orc := orcN [none] fun ds => match ds with
  | [.agg [.sl (.ints Open), .sl (.rows Dist)]] => some (.one (.d (.bool (goodField Open Dist))))
  | _ => none
def sumTo (f : Nat → Int) (n : Nat) : Int := foldTo (fun s k => s + f k) 0 n
theorem sumTo_bound {f : Nat → Int} {m : Int} (n : Nat) (h : ∀ k, k < n → 0 ≤ f k ∧ f k ≤ m) : 0 ≤ sumTo f n ∧ sumTo f n ≤ m * n := by
  induction n with
  | zero => simp [sumTo, foldTo]
  | succ n ih =>
    have h1 := ih fun k hk => h k (Nat.lt_succ_of_lt hk)
    have h2 := h n (Nat.lt_succ_self n)
    have e : sumTo f (n + 1) = sumTo f n + f n := rfl
    rw [e]
    have e2 : m * ((n + 1 : Nat) : Int) = m * (n : Int) + m := by rw [Int.natCast_succ, Int.mul_add, Int.mul_one]
    rw [e2]
    omega
def closeAt (Dist : List (List Int)) (r : Int) (i j a : Nat) : Bool := decide ((Dist.getD i []).getD a 0 ≤ r) && decide ((Dist.getD j []).getD a 0 ≤ r)
def apart (n : Nat) (Dist : List (List Int)) (i j r : Int) : Bool := allTo (fun a => !(closeAt Dist r i.toNat j.toNat a)) n
def farS (n : Nat) (Dist : List (List Int)) (clients : List Int) (r : Int) : Bool := allTo (fun i => allTo (fun k => apart n Dist (clients.getD i 0) (clients.getD k 0) r) i) clients.length
def nearAt (Dist : List (List Int)) (clients : List Int) (r : Int) (a k : Nat) : Int := if (Dist.getD (clients.getD k 0).toNat []).getD a 0 ≤ r then 1 else 0
def nears (Dist : List (List Int)) (clients : List Int) (r : Int) (a k : Nat) : Int := sumTo (nearAt Dist clients r a) k
def farI (n : Nat) (Dist : List (List Int)) (clients : List Int) (r : Int) : Bool := allTo (fun a => decide (nears Dist clients r a clients.length ≤ 1)) n
theorem nears_bound {Dist : List (List Int)} {clients : List Int} {r : Int} {a k : Nat} : 0 ≤ nears Dist clients r a k ∧ nears Dist clients r a k ≤ 1 * k :=
  sumTo_bound k fun j _ => by unfold nearAt; split <;> omega
theorem nears_succ {Dist : List (List Int)} {clients : List Int} {r : Int} {a k : Nat} : nears Dist clients r a (k + 1) = nears Dist clients r a k + nearAt Dist clients r a k := rfl
theorem nears_mono {Dist : List (List Int)} {clients : List Int} {r : Int} {a : Nat} : ∀ n k, k ≤ n → nears Dist clients r a k ≤ nears Dist clients r a n
  | 0, k, h => by have : k = 0 := by omega
                  rw [this]; exact Int.le_refl _
  | n + 1, k, h => by
    by_cases e : k = n + 1
    · rw [e]; exact Int.le_refl _
    · have h2 := nears_mono (Dist := Dist) (clients := clients) (r := r) (a := a) n k (by omega)
      rw [nears_succ]
      unfold nearAt
      split <;> omega
/-- A first near one, if there are any. -/
theorem nears_pos {Dist : List (List Int)} {clients : List Int} {r : Int} {a : Nat} : ∀ n, 0 < nears Dist clients r a n → ∃ k, k < n ∧ nearAt Dist clients r a k = 1
  | 0, h => by simp [nears, sumTo, foldTo] at h
  | n + 1, h => by
    by_cases e : nearAt Dist clients r a n = 1
    · exact ⟨n, Nat.lt_succ_self n, e⟩
    · rw [nears_succ] at h
      have e2 : nearAt Dist clients r a n = 0 := by
        unfold nearAt at e ⊢
        split at e
        · omega
        · rename_i h3; rw [if_neg h3]
      obtain ⟨k, hk, h4⟩ := nears_pos (Dist := Dist) (clients := clients) (r := r) (a := a) n (by omega)
      exact ⟨k, by omega, h4⟩
theorem nears_two {Dist : List (List Int)} {clients : List Int} {r : Int} {a : Nat} : ∀ n, 1 < nears Dist clients r a n → ∃ i k, i < n ∧ k < i ∧ nearAt Dist clients r a i = 1 ∧ nearAt Dist clients r a k = 1
  | 0, h => by simp [nears, sumTo, foldTo] at h
  | n + 1, h => by
    by_cases e : nearAt Dist clients r a n = 1
    · rw [nears_succ, e] at h
      obtain ⟨k, hk, h4⟩ := nears_pos (Dist := Dist) (clients := clients) (r := r) (a := a) n (by omega)
      exact ⟨n, k, Nat.lt_succ_self n, hk, e, h4⟩
    · rw [nears_succ] at h
      have e2 : nearAt Dist clients r a n = 0 := by
        unfold nearAt at e ⊢
        split at e
        · omega
        · rename_i h3; rw [if_neg h3]
      obtain ⟨i, k, h3, h4⟩ := nears_two (Dist := Dist) (clients := clients) (r := r) (a := a) n (by omega)
      exact ⟨i, k, by omega, h4⟩
theorem nearAt_one {Dist : List (List Int)} {clients : List Int} {r : Int} {a k : Nat} : nearAt Dist clients r a k = 1 ↔ (Dist.getD (clients.getD k 0).toNat []).getD a 0 ≤ r := by
  unfold nearAt
  split <;> simp_all
theorem far_eq (n : Nat) (Dist : List (List Int)) (clients : List Int) (r : Int) : farI n Dist clients r = farS n Dist clients r := by
  rw [Bool.eq_iff_iff]
  unfold farI farS
  simp only [allTo_iff, decide_eq_true_eq, apart]
  constructor
  · intro h i hi k hk a ha
    have h1 := h a ha
    simp only [closeAt, Bool.not_eq_true', Bool.and_eq_false_iff, decide_eq_false_iff_not]
    by_cases e1 : (Dist.getD (clients.getD i 0).toNat []).getD a 0 ≤ r
    · by_cases e2 : (Dist.getD (clients.getD k 0).toNat []).getD a 0 ≤ r
      · exfalso
        have m1 := nears_mono (Dist := Dist) (clients := clients) (r := r) (a := a) clients.length (i + 1) (by omega)
        have m2 := nears_mono (Dist := Dist) (clients := clients) (r := r) (a := a) i (k + 1) (by omega)
        have b := (nears_bound (Dist := Dist) (clients := clients) (r := r) (a := a) (k := k)).1
        rw [nears_succ, nearAt_one.2 e1] at m1
        rw [nears_succ, nearAt_one.2 e2] at m2
        omega
      · exact .inr e2
    · exact .inl e1
  · intro h a ha
    by_cases e : nears Dist clients r a clients.length ≤ 1
    · exact e
    · obtain ⟨i, k, h1, h2, h3, h4⟩ := nears_two (Dist := Dist) (clients := clients) (r := r) (a := a) clients.length (by omega)
      have h5 := h i h1 k h2 a ha
      rw [nearAt_one] at h3 h4
      simp only [closeAt, Bool.not_eq_true', Bool.and_eq_false_iff, decide_eq_false_iff_not] at h5
      rcases h5 with h5 | h5
      · exact absurd h3 h5
      · exact absurd h4 h5
abbrev s_l5Apart_JJ0 (Open : List Int) (Dist : List (List Int)) (i : Int) (j : Int) (r : Int) (a : Int) : Prop := (0 ≤ a) ∧ (a ≤ (Open.length : Int)) ∧ (allTo (fun c => !(closeAt Dist r i.toNat j.toNat c)) a.toNat = true)
abbrev s_l5Apart_mJ0 (Open : List Int) (Dist : List (List Int)) (i : Int) (j : Int) (r : Int) (a : Int) : Nat := (Open.length - a).toNat
def s_l5Apart_C (f : FuncId) (ds : List D) : Orc := .no
def s_l5Apart_A (Open : List Int) (Dist : List (List Int)) (i : Int) (j : Int) (r : Int) : Ann := .two (.none) (.two (.two (.none) (.loop (cut1 (fun (a : Int) => s_l5Apart_JJ0 Open Dist i j r a) (fun (a : Int) => [(1, .d false (.int .i64 i)), (2, .d false (.int .i64 j)), (3, .d false (.int .i64 r)), (4, .ptr 4 0), (9, .d true (.int .i64 a))]) (fun (a : Int) => [(4, .box 37 [.d false (.sl (.ints Open)), .d false (.sl (.rows Dist))])])) (fun g => s_l5Apart_mJ0 Open Dist i j r g) (fun _ => .none))) (.none))
def s_l5Apart_P (Open : List Int) (Dist : List (List Int)) (i : Int) (j : Int) (r : Int) : Prop :=
  ((∃ a' : Int, (s_l5Apart_JJ0 Open Dist i j r a') ∧ (i = i) ∧ (j = j) ∧ (r = r) ∧ ((0 : Int) = a') ∧ (Open = Open) ∧ (Dist = Dist)) ∧ (∀ a : Int, (s_l5Apart_JJ0 Open Dist i j r a) → (((decide (a < (Open.length : Int))) = true → ((0 : Int) ≤ i) ∧ ((i : Int) < Dist.length) ∧ (i.toNat < Dist.length) ∧ ((0 : Int) ≤ a) ∧ ((a : Int) < (Dist.getD i.toNat []).length) ∧ (a.toNat < (Dist.getD i.toNat []).length) ∧ ((decide (((Dist.getD i.toNat []).getD a.toNat 0) ≤ r)) = true → (decide (((Dist.getD i.toNat []).getD a.toNat 0) ≤ r)) = true) ∧ ((decide (((Dist.getD i.toNat []).getD a.toNat 0) ≤ r)) = true → (decide (((Dist.getD i.toNat []).getD a.toNat 0) ≤ r)) = true) ∧ ((decide (((Dist.getD i.toNat []).getD a.toNat 0) ≤ r)) = true → (decide (((Dist.getD i.toNat []).getD a.toNat 0) ≤ r)) = true) ∧ (((decide (((Dist.getD i.toNat []).getD a.toNat 0) ≤ r)) = true → (0 : Int) ≤ j)) ∧ (((decide (((Dist.getD i.toNat []).getD a.toNat 0) ≤ r)) = true → (j : Int) < Dist.length)) ∧ ((decide (((Dist.getD i.toNat []).getD a.toNat 0) ≤ r)) = true → (decide (((Dist.getD i.toNat []).getD a.toNat 0) ≤ r)) = true) ∧ (((decide (((Dist.getD i.toNat []).getD a.toNat 0) ≤ r)) = true → j.toNat < Dist.length)) ∧ ((decide (((Dist.getD i.toNat []).getD a.toNat 0) ≤ r)) = true → (decide (((Dist.getD i.toNat []).getD a.toNat 0) ≤ r)) = true) ∧ ((decide (((Dist.getD i.toNat []).getD a.toNat 0) ≤ r)) = true → (decide (((Dist.getD i.toNat []).getD a.toNat 0) ≤ r)) = true) ∧ (((decide (((Dist.getD i.toNat []).getD a.toNat 0) ≤ r)) = true → (0 : Int) ≤ a)) ∧ (((decide (((Dist.getD i.toNat []).getD a.toNat 0) ≤ r)) = true → (a : Int) < (Dist.getD j.toNat []).length)) ∧ ((decide (((Dist.getD i.toNat []).getD a.toNat 0) ≤ r)) = true → (decide (((Dist.getD i.toNat []).getD a.toNat 0) ≤ r)) = true) ∧ (((decide (((Dist.getD i.toNat []).getD a.toNat 0) ≤ r)) = true → a.toNat < (Dist.getD j.toNat []).length)) ∧ ((decide (((Dist.getD i.toNat []).getD a.toNat 0) ≤ r)) = true → (decide (((Dist.getD i.toNat []).getD a.toNat 0) ≤ r)) = true) ∧ ((decide (((Dist.getD i.toNat []).getD a.toNat 0) ≤ r)) = true → (decide (((Dist.getD i.toNat []).getD a.toNat 0) ≤ r)) = true) ∧ (true = true) ∧ (((decide (((Dist.getD i.toNat []).getD a.toNat 0) ≤ r)) = true → (decide (((Dist.getD i.toNat []).getD a.toNat 0) ≤ r)) = true)) ∧ (((decide (((Dist.getD i.toNat []).getD a.toNat 0) ≤ r)) = false → true = true)) ∧ (((cond (decide (((Dist.getD i.toNat []).getD a.toNat 0) ≤ r)) (decide (((Dist.getD j.toNat []).getD a.toNat 0) ≤ r)) false) = true → ((false = (apart Open.length Dist i j r)))) ∧ ((cond (decide (((Dist.getD i.toNat []).getD a.toNat 0) ≤ r)) (decide (((Dist.getD j.toNat []).getD a.toNat 0) ≤ r)) false) = false → (-9223372036854775808 ≤ (a + 1) ∧ (a + 1) ≤ 9223372036854775807) ∧ (∃ a' : Int, (s_l5Apart_JJ0 Open Dist i j r a') ∧ (s_l5Apart_mJ0 Open Dist i j r a' < s_l5Apart_mJ0 Open Dist i j r a) ∧ (i = i) ∧ (j = j) ∧ (r = r) ∧ ((a + 1) = a') ∧ (Open = Open) ∧ (Dist = Dist))))) ∧ ((decide (a < (Open.length : Int))) = false → ((true = (apart Open.length Dist i j r)))))))
theorem s_l5Apart_vc (Open : List Int) (Dist : List (List Int)) (i : Int) (j : Int) (r : Int) (hg : goodField Open Dist = true) (hi : 0 ≤ i ∧ i < (Dist.length : Int)) (hj : 0 ≤ j ∧ j < (Dist.length : Int)) (w_Open : (Open.length : Int) ≤ 9223372036854775807) (w_Dist : (Dist.length : Int) ≤ 9223372036854775807) (v_Dist : ∀ x9 ∈ Dist, (x9.length : Int) ≤ 9223372036854775807) : s_l5Apart_P Open Dist i j r := by
  unfold s_l5Apart_P
  obtain ⟨g1, g2, g3⟩ := gf_open hg
  obtain ⟨ri, ci⟩ := gf_row (i := i.toNat) hg (by omega)
  obtain ⟨rj, cj⟩ := gf_row (i := j.toNat) hg (by omega)
  refine ⟨?_, ?_⟩
  · refine ⟨0, ?_⟩
    refine ⟨?_, rfl, rfl, rfl, rfl, rfl, rfl⟩
    · refine ⟨?_, ?_, ?_⟩
      · first | omega | rfl | (intro hg; simp only [nrmT] at hg; omega) | (intro g1 g2; simp [g1, g2]; done) | (intro g1; simp at g1 ⊢; simp [g1]; done) | (simp only [nrmT] at *; omega) | (simp at * <;> omega) | (simp_all <;> omega) | (simp_all; done)
      · first | omega | rfl | (intro hg; simp only [nrmT] at hg; omega) | (intro g1 g2; simp [g1, g2]; done) | (intro g1; simp at g1 ⊢; simp [g1]; done) | (simp only [nrmT] at *; omega) | (simp at * <;> omega) | (simp_all <;> omega) | (simp_all; done)
      · first | omega | rfl | (intro hg; simp only [nrmT] at hg; omega) | (intro g1 g2; simp [g1, g2]; done) | (intro g1; simp at g1 ⊢; simp [g1]; done) | (simp only [nrmT] at *; omega) | (simp at * <;> omega) | (simp_all <;> omega) | (simp_all; done)
  · intro a hJ
    obtain ⟨h1, h2, h3⟩ := hJ
    refine ⟨?_, ?_⟩
    · intro b1
      try simp only [nrmT] at b1
      refine ⟨?_, ?_, ?_, ?_, ?_, ?_, id, id, id, ?_, ?_, id, ?_, id, id, ?_, ?_, id, ?_, id, id, rfl, id, fun _ => rfl, ?_, ?_⟩
      · first | omega | rfl | (intro hg; simp only [nrmT] at hg; omega) | (intro g1 g2; simp [g1, g2]; done) | (intro g1; simp at g1 ⊢; simp [g1]; done) | (simp only [nrmT] at *; omega) | (simp at * <;> omega) | (simp_all <;> omega) | (simp_all; done)
      · first | omega | rfl | (intro hg; simp only [nrmT] at hg; omega) | (intro g1 g2; simp [g1, g2]; done) | (intro g1; simp at g1 ⊢; simp [g1]; done) | (simp only [nrmT] at *; omega) | (simp at * <;> omega) | (simp_all <;> omega) | (simp_all; done)
      · first | omega | rfl | (intro hg; simp only [nrmT] at hg; omega) | (intro g1 g2; simp [g1, g2]; done) | (intro g1; simp at g1 ⊢; simp [g1]; done) | (simp only [nrmT] at *; omega) | (simp at * <;> omega) | (simp_all <;> omega) | (simp_all; done)
      · first | omega | rfl | (intro hg; simp only [nrmT] at hg; omega) | (intro g1 g2; simp [g1, g2]; done) | (intro g1; simp at g1 ⊢; simp [g1]; done) | (simp only [nrmT] at *; omega) | (simp at * <;> omega) | (simp_all <;> omega) | (simp_all; done)
      · first | omega | rfl | (intro hg; simp only [nrmT] at hg; omega) | (intro g1 g2; simp [g1, g2]; done) | (intro g1; simp at g1 ⊢; simp [g1]; done) | (simp only [nrmT] at *; omega) | (simp at * <;> omega) | (simp_all <;> omega) | (simp_all; done)
      · first | omega | rfl | (intro hg; simp only [nrmT] at hg; omega) | (intro g1 g2; simp [g1, g2]; done) | (intro g1; simp at g1 ⊢; simp [g1]; done) | (simp only [nrmT] at *; omega) | (simp at * <;> omega) | (simp_all <;> omega) | (simp_all; done)
      · first | omega | rfl | (intro hg; simp only [nrmT] at hg; omega) | (intro g1 g2; simp [g1, g2]; done) | (intro g1; simp at g1 ⊢; simp [g1]; done) | (simp only [nrmT] at *; omega) | (simp at * <;> omega) | (simp_all <;> omega) | (simp_all; done)
      · first | omega | rfl | (intro hg; simp only [nrmT] at hg; omega) | (intro g1 g2; simp [g1, g2]; done) | (intro g1; simp at g1 ⊢; simp [g1]; done) | (simp only [nrmT] at *; omega) | (simp at * <;> omega) | (simp_all <;> omega) | (simp_all; done)
      · first | omega | rfl | (intro hg; simp only [nrmT] at hg; omega) | (intro g1 g2; simp [g1, g2]; done) | (intro g1; simp at g1 ⊢; simp [g1]; done) | (simp only [nrmT] at *; omega) | (simp at * <;> omega) | (simp_all <;> omega) | (simp_all; done)
      · first | omega | rfl | (intro hg; simp only [nrmT] at hg; omega) | (intro g1 g2; simp [g1, g2]; done) | (intro g1; simp at g1 ⊢; simp [g1]; done) | (simp only [nrmT] at *; omega) | (simp at * <;> omega) | (simp_all <;> omega) | (simp_all; done)
      · intro _; omega
      · intro _; omega
      · intro b2
        exact (allTo_falseI h1 (by omega) (by rw [Bool.not_eq_false']; unfold closeAt; rw [← b2]; cases decide ((Dist.getD i.toNat []).getD a.toNat 0 ≤ r) <;> rfl)).symm
      · intro b3
        refine ⟨?_, ?_⟩
        · first | omega | rfl | (intro hg; simp only [nrmT] at hg; omega) | (intro g1 g2; simp [g1, g2]; done) | (intro g1; simp at g1 ⊢; simp [g1]; done) | (simp only [nrmT] at *; omega) | (simp at * <;> omega) | (simp_all <;> omega) | (simp_all; done)
        · refine ⟨(a + 1), ?_⟩
          refine ⟨?_, ?_, rfl, rfl, rfl, rfl, rfl, rfl⟩
          · refine ⟨?_, ?_, ?_⟩
            · first | omega | rfl | (intro hg; simp only [nrmT] at hg; omega) | (intro g1 g2; simp [g1, g2]; done) | (intro g1; simp at g1 ⊢; simp [g1]; done) | (simp only [nrmT] at *; omega) | (simp at * <;> omega) | (simp_all <;> omega) | (simp_all; done)
            · first | omega | rfl | (intro hg; simp only [nrmT] at hg; omega) | (intro g1 g2; simp [g1, g2]; done) | (intro g1; simp at g1 ⊢; simp [g1]; done) | (simp only [nrmT] at *; omega) | (simp at * <;> omega) | (simp_all <;> omega) | (simp_all; done)
            · refine allTo_step h1 h3 ?_
              rw [Bool.not_eq_true']; unfold closeAt; rw [← b3]; cases decide ((Dist.getD i.toNat []).getD a.toNat 0 ≤ r) <;> rfl
          · first | (show _ < _; omega) | (simp only [s_l5Apart_mJ0]; omega) | (simp only [s_l5Apart_mJ0] at *; simp at *; omega)
    · intro b4
      try simp only [nrmT] at b4
      unfold apart
      rw [← h3]; congr 1; omega
theorem s_l5Apart_pc (Open : List Int) (Dist : List (List Int)) (i : Int) (j : Int) (r : Int) (hg : goodField Open Dist = true) (hi : 0 ≤ i ∧ i < (Dist.length : Int)) (hj : 0 ≤ j ∧ j < (Dist.length : Int)) : PC Try.prog 194 [.agg [.sl (.ints Open), .sl (.rows Dist)], .int .i64 i, .int .i64 j, .int .i64 r] (.one (.d (.bool (apart Open.length Dist i j r)))) :=
  pc_wf @Try.call194 fun hw => pc_by (by kernel_rfl) Try.func194 @Try.call194 (by kernel_rfl) s_l5Apart_C (s_l5Apart_A Open Dist i j r) (by kernel_rfl) (s_l5Apart_vc Open Dist i j r hg hi hj hw.1.1 hw.1.2.1.1 hw.1.2.1.2) (by kernel_rfl)
def s_l5Apart_orc : List D → Orc := orcN [none, none, none, none] fun ds => match ds with
  | [.agg [.sl (.ints Open), .sl (.rows Dist)], .int .i64 i, .int .i64 j, .int .i64 r] => some (.one (.d (.bool (apart Open.length Dist i j r))))
  | _ => none
abbrev s_l5Far_JJ0 (Open : List Int) (Dist : List (List Int)) (clients : List Int) (r : Int) (i : Int) : Prop := (0 ≤ i) ∧ (i ≤ (clients.length : Int)) ∧ (allTo (fun i => allTo (fun k => apart Open.length Dist (clients.getD i 0) (clients.getD k 0) r) i) i.toNat = true)
abbrev s_l5Far_mJ0 (Open : List Int) (Dist : List (List Int)) (clients : List Int) (r : Int) (i : Int) : Nat := (clients.length - i).toNat
abbrev s_l5Far_JJ1 (Open : List Int) (Dist : List (List Int)) (clients : List Int) (r : Int) (i : Int) (k : Int) : Prop := (0 ≤ k) ∧ (k ≤ i) ∧ (allTo (fun c => apart Open.length Dist (clients.getD i.toNat 0) (clients.getD c 0) r) k.toNat = true)
abbrev s_l5Far_mJ1 (Open : List Int) (Dist : List (List Int)) (clients : List Int) (r : Int) (i : Int) (k : Int) : Nat := (i - k).toNat
def s_l5Far_C (f : FuncId) (ds : List D) : Orc := bif Nat.beq f 194 then s_l5Apart_orc ds else .no
def s_l5Far_A (Open : List Int) (Dist : List (List Int)) (clients : List Int) (r : Int) : Ann := .two (.none) (.two (.two (.none) (.loop (cut1 (fun (i : Int) => s_l5Far_JJ0 Open Dist clients r i) (fun (i : Int) => [(1, .d false (.sl (.ints clients))), (2, .d false (.int .i64 r)), (3, .ptr 3 0), (7, .d true (.int .i64 i))]) (fun (i : Int) => [(3, .box 37 [.d false (.sl (.ints Open)), .d false (.sl (.rows Dist))])])) (fun g => s_l5Far_mJ0 Open Dist clients r g) (fun g => (fun (i : Int) => .two (.none) (.two (.two (.none) (.loop (cut1 (fun (k : Int) => s_l5Far_JJ1 Open Dist clients r i k) (fun (k : Int) => [(1, .d false (.sl (.ints clients))), (2, .d false (.int .i64 r)), (3, .ptr 3 0), (7, .d true (.int .i64 i)), (8, .d true (.int .i64 k))]) (fun (k : Int) => [(3, .box 37 [.d false (.sl (.ints Open)), .d false (.sl (.rows Dist))])])) (fun g => s_l5Far_mJ1 Open Dist clients r i g) (fun _ => .none))) (.none))) g))) (.none))
def s_l5Far_P (Open : List Int) (Dist : List (List Int)) (clients : List Int) (r : Int) : Prop :=
  ((∃ i' : Int, (s_l5Far_JJ0 Open Dist clients r i') ∧ (clients = clients) ∧ (r = r) ∧ ((0 : Int) = i') ∧ (Open = Open) ∧ (Dist = Dist)) ∧ (∀ i : Int, (s_l5Far_JJ0 Open Dist clients r i) → (((decide (i < (clients.length : Int))) = true → ((∃ k' : Int, (s_l5Far_JJ1 Open Dist clients r i k') ∧ (clients = clients) ∧ (r = r) ∧ (i = i) ∧ ((0 : Int) = k') ∧ (Open = Open) ∧ (Dist = Dist)) ∧ (∀ k : Int, (s_l5Far_JJ1 Open Dist clients r i k) → (((decide (k < i)) = true → (true = true) ∧ ((0 : Int) ≤ i) ∧ ((i : Int) < clients.length) ∧ (i.toNat < clients.length) ∧ ((0 : Int) ≤ k) ∧ ((k : Int) < clients.length) ∧ (k.toNat < clients.length) ∧ (PC Try.prog 194 [.agg [.sl (.ints Open), .sl (.rows Dist)], .int .i64 (clients.getD i.toNat 0), .int .i64 (clients.getD k.toNat 0), .int .i64 r] (.one (.d (.bool (apart Open.length Dist (clients.getD i.toNat 0) (clients.getD k.toNat 0) r))))) ∧ (((!(apart Open.length Dist (clients.getD i.toNat 0) (clients.getD k.toNat 0) r)) = true → ((false = (farS Open.length Dist clients r)))) ∧ ((!(apart Open.length Dist (clients.getD i.toNat 0) (clients.getD k.toNat 0) r)) = false → (-9223372036854775808 ≤ (k + 1) ∧ (k + 1) ≤ 9223372036854775807) ∧ (∃ k' : Int, (s_l5Far_JJ1 Open Dist clients r i k') ∧ (s_l5Far_mJ1 Open Dist clients r i k' < s_l5Far_mJ1 Open Dist clients r i k) ∧ (clients = clients) ∧ (r = r) ∧ (i = i) ∧ ((k + 1) = k') ∧ (Open = Open) ∧ (Dist = Dist))))) ∧ ((decide (k < i)) = false → (-9223372036854775808 ≤ (i + 1) ∧ (i + 1) ≤ 9223372036854775807) ∧ (∃ i' : Int, (s_l5Far_JJ0 Open Dist clients r i') ∧ (s_l5Far_mJ0 Open Dist clients r i' < s_l5Far_mJ0 Open Dist clients r i) ∧ (clients = clients) ∧ (r = r) ∧ ((i + 1) = i') ∧ (Open = Open) ∧ (Dist = Dist))))))) ∧ ((decide (i < (clients.length : Int))) = false → ((true = (farS Open.length Dist clients r)))))))
theorem s_l5Far_vc (Open : List Int) (Dist : List (List Int)) (clients : List Int) (r : Int) (hg : goodField Open Dist = true) (hc : ∀ c ∈ clients, 0 ≤ c ∧ c < (Dist.length : Int)) (w_Open : (Open.length : Int) ≤ 9223372036854775807) (w_Dist : (Dist.length : Int) ≤ 9223372036854775807) (v_Dist : ∀ x9 ∈ Dist, (x9.length : Int) ≤ 9223372036854775807) (w_clients : (clients.length : Int) ≤ 9223372036854775807) : s_l5Far_P Open Dist clients r := by
  unfold s_l5Far_P
  obtain ⟨g1, g2, g3⟩ := gf_open hg
  have ca := fun (k : Nat) (hk : k < clients.length) => hc _ (getD_mem (d := 0) hk)
  refine ⟨?_, ?_⟩
  · refine ⟨0, ?_⟩
    refine ⟨?_, rfl, rfl, rfl, rfl, rfl⟩
    · refine ⟨?_, ?_, ?_⟩
      · first | omega | rfl | (intro hg; simp only [nrmT] at hg; omega) | (intro g1 g2; simp [g1, g2]; done) | (intro g1; simp at g1 ⊢; simp [g1]; done) | (simp only [nrmT] at *; omega) | (simp at * <;> omega) | (simp_all <;> omega) | (simp_all; done)
      · first | omega | rfl | (intro hg; simp only [nrmT] at hg; omega) | (intro g1 g2; simp [g1, g2]; done) | (intro g1; simp at g1 ⊢; simp [g1]; done) | (simp only [nrmT] at *; omega) | (simp at * <;> omega) | (simp_all <;> omega) | (simp_all; done)
      · first | omega | rfl | (intro hg; simp only [nrmT] at hg; omega) | (intro g1 g2; simp [g1, g2]; done) | (intro g1; simp at g1 ⊢; simp [g1]; done) | (simp only [nrmT] at *; omega) | (simp at * <;> omega) | (simp_all <;> omega) | (simp_all; done)
  · intro i hJ
    obtain ⟨h1, h2, h3⟩ := hJ
    refine ⟨?_, ?_⟩
    · intro b1
      try simp only [nrmT] at b1
      refine ⟨?_, ?_⟩
      · refine ⟨0, ?_⟩
        refine ⟨?_, rfl, rfl, rfl, rfl, rfl, rfl⟩
        · refine ⟨?_, ?_, ?_⟩
          · first | omega | rfl | (intro hg; simp only [nrmT] at hg; omega) | (intro g1 g2; simp [g1, g2]; done) | (intro g1; simp at g1 ⊢; simp [g1]; done) | (simp only [nrmT] at *; omega) | (simp at * <;> omega) | (simp_all <;> omega) | (simp_all; done)
          · first | omega | rfl | (intro hg; simp only [nrmT] at hg; omega) | (intro g1 g2; simp [g1, g2]; done) | (intro g1; simp at g1 ⊢; simp [g1]; done) | (simp only [nrmT] at *; omega) | (simp at * <;> omega) | (simp_all <;> omega) | (simp_all; done)
          · first | omega | rfl | (intro hg; simp only [nrmT] at hg; omega) | (intro g1 g2; simp [g1, g2]; done) | (intro g1; simp at g1 ⊢; simp [g1]; done) | (simp only [nrmT] at *; omega) | (simp at * <;> omega) | (simp_all <;> omega) | (simp_all; done)
      · intro k hJ
        obtain ⟨h4, h5, h6⟩ := hJ
        refine ⟨?_, ?_⟩
        · intro b2
          try simp only [nrmT] at b2
          refine ⟨rfl, ?_, ?_, ?_, ?_, ?_, ?_, ?_, ?_, ?_⟩
          · first | omega | rfl | (intro hg; simp only [nrmT] at hg; omega) | (intro g1 g2; simp [g1, g2]; done) | (intro g1; simp at g1 ⊢; simp [g1]; done) | (simp only [nrmT] at *; omega) | (simp at * <;> omega) | (simp_all <;> omega) | (simp_all; done)
          · first | omega | rfl | (intro hg; simp only [nrmT] at hg; omega) | (intro g1 g2; simp [g1, g2]; done) | (intro g1; simp at g1 ⊢; simp [g1]; done) | (simp only [nrmT] at *; omega) | (simp at * <;> omega) | (simp_all <;> omega) | (simp_all; done)
          · first | omega | rfl | (intro hg; simp only [nrmT] at hg; omega) | (intro g1 g2; simp [g1, g2]; done) | (intro g1; simp at g1 ⊢; simp [g1]; done) | (simp only [nrmT] at *; omega) | (simp at * <;> omega) | (simp_all <;> omega) | (simp_all; done)
          · first | omega | rfl | (intro hg; simp only [nrmT] at hg; omega) | (intro g1 g2; simp [g1, g2]; done) | (intro g1; simp at g1 ⊢; simp [g1]; done) | (simp only [nrmT] at *; omega) | (simp at * <;> omega) | (simp_all <;> omega) | (simp_all; done)
          · first | omega | rfl | (intro hg; simp only [nrmT] at hg; omega) | (intro g1 g2; simp [g1, g2]; done) | (intro g1; simp at g1 ⊢; simp [g1]; done) | (simp only [nrmT] at *; omega) | (simp at * <;> omega) | (simp_all <;> omega) | (simp_all; done)
          · first | omega | rfl | (intro hg; simp only [nrmT] at hg; omega) | (intro g1 g2; simp [g1, g2]; done) | (intro g1; simp at g1 ⊢; simp [g1]; done) | (simp only [nrmT] at *; omega) | (simp at * <;> omega) | (simp_all <;> omega) | (simp_all; done)
          · refine s_l5Apart_pc Open Dist (clients.getD i.toNat 0) (clients.getD k.toNat 0) r ?_ ?_ ?_
            · first | omega | rfl | (intro hg; simp only [nrmT] at hg; omega) | (intro g1 g2; simp [g1, g2]; done) | (intro g1; simp at g1 ⊢; simp [g1]; done) | (simp only [nrmT] at *; omega) | (simp at * <;> omega) | (simp_all <;> omega) | (simp_all; done)
            · have := ca i.toNat (by omega)
              omega
            · have := ca k.toNat (by omega)
              omega
          · intro b3
            try simp only [nrmT] at b3
            refine (allTo_falseI h1 (by omega) ?_).symm
            exact allTo_falseI h4 (by omega) b3
          · intro b4
            try simp only [nrmT] at b4
            refine ⟨?_, ?_⟩
            · first | omega | rfl | (intro hg; simp only [nrmT] at hg; omega) | (intro g1 g2; simp [g1, g2]; done) | (intro g1; simp at g1 ⊢; simp [g1]; done) | (simp only [nrmT] at *; omega) | (simp at * <;> omega) | (simp_all <;> omega) | (simp_all; done)
            · refine ⟨(k + 1), ?_⟩
              refine ⟨?_, ?_, rfl, rfl, rfl, rfl, rfl, rfl⟩
              · refine ⟨?_, ?_, ?_⟩
                · first | omega | rfl | (intro hg; simp only [nrmT] at hg; omega) | (intro g1 g2; simp [g1, g2]; done) | (intro g1; simp at g1 ⊢; simp [g1]; done) | (simp only [nrmT] at *; omega) | (simp at * <;> omega) | (simp_all <;> omega) | (simp_all; done)
                · first | omega | rfl | (intro hg; simp only [nrmT] at hg; omega) | (intro g1 g2; simp [g1, g2]; done) | (intro g1; simp at g1 ⊢; simp [g1]; done) | (simp only [nrmT] at *; omega) | (simp at * <;> omega) | (simp_all <;> omega) | (simp_all; done)
                · exact allTo_step h4 h6 b4
              · first | (show _ < _; omega) | (simp only [s_l5Far_mJ1]; omega) | (simp only [s_l5Far_mJ1] at *; simp at *; omega)
        · intro b5
          try simp only [nrmT] at b5
          refine ⟨?_, ?_⟩
          · first | omega | rfl | (intro hg; simp only [nrmT] at hg; omega) | (intro g1 g2; simp [g1, g2]; done) | (intro g1; simp at g1 ⊢; simp [g1]; done) | (simp only [nrmT] at *; omega) | (simp at * <;> omega) | (simp_all <;> omega) | (simp_all; done)
          · refine ⟨(i + 1), ?_⟩
            refine ⟨?_, ?_, rfl, rfl, rfl, rfl, rfl⟩
            · refine ⟨?_, ?_, ?_⟩
              · first | omega | rfl | (intro hg; simp only [nrmT] at hg; omega) | (intro g1 g2; simp [g1, g2]; done) | (intro g1; simp at g1 ⊢; simp [g1]; done) | (simp only [nrmT] at *; omega) | (simp at * <;> omega) | (simp_all <;> omega) | (simp_all; done)
              · first | omega | rfl | (intro hg; simp only [nrmT] at hg; omega) | (intro g1 g2; simp [g1, g2]; done) | (intro g1; simp at g1 ⊢; simp [g1]; done) | (simp only [nrmT] at *; omega) | (simp at * <;> omega) | (simp_all <;> omega) | (simp_all; done)
              · have e : k.toNat = i.toNat := by omega
                rw [e] at h6
                exact allTo_step h1 h3 h6
            · first | (show _ < _; omega) | (simp only [s_l5Far_mJ0]; omega) | (simp only [s_l5Far_mJ0] at *; simp at *; omega)
    · intro b6
      try simp only [nrmT] at b6
      unfold farS
      rw [← h3]; congr 1; omega
theorem s_l5Far_pc (Open : List Int) (Dist : List (List Int)) (clients : List Int) (r : Int) (hg : goodField Open Dist = true) (hc : ∀ c ∈ clients, 0 ≤ c ∧ c < (Dist.length : Int)) : PC Try.prog 167 [.agg [.sl (.ints Open), .sl (.rows Dist)], .sl (.ints clients), .int .i64 r] (.one (.d (.bool (farS Open.length Dist clients r)))) :=
  pc_wf @Try.call167 fun hw => pc_by (by kernel_rfl) Try.func167 @Try.call167 (by kernel_rfl) s_l5Far_C (s_l5Far_A Open Dist clients r) (by kernel_rfl) (s_l5Far_vc Open Dist clients r hg hc hw.1.1 hw.1.2.1.1 hw.1.2.1.2 hw.2.1) (by kernel_rfl)
def s_l5Far_orc : List D → Orc := orcN [none, some .ints, none] fun ds => match ds with
  | [.agg [.sl (.ints Open), .sl (.rows Dist)], .sl (.ints clients), .int .i64 r] => some (.one (.d (.bool (farS Open.length Dist clients r))))
  | _ => none
abbrev i_Field_areFar_JJ0 (Open : List Int) (Dist : List (List Int)) (clients : List Int) (r : Int) (a : Int) : Prop := (0 ≤ a) ∧ (a ≤ (Open.length : Int)) ∧ (allTo (fun c => decide (nears Dist clients r c clients.length ≤ 1)) a.toNat = true)
abbrev i_Field_areFar_mJ0 (Open : List Int) (Dist : List (List Int)) (clients : List Int) (r : Int) (a : Int) : Nat := (Open.length - a).toNat
abbrev i_Field_areFar_JJ1 (Open : List Int) (Dist : List (List Int)) (clients : List Int) (r : Int) (a : Int) (near : Int) (k : Int) : Prop := (0 ≤ k) ∧ (k ≤ (clients.length : Int)) ∧ (near = nears Dist clients r a.toNat k.toNat)
abbrev i_Field_areFar_mJ1 (Open : List Int) (Dist : List (List Int)) (clients : List Int) (r : Int) (a : Int) (near : Int) (k : Int) : Nat := (clients.length - k).toNat
def i_Field_areFar_C (f : FuncId) (ds : List D) : Orc := .no
def i_Field_areFar_A (Open : List Int) (Dist : List (List Int)) (clients : List Int) (r : Int) : Ann := .two (.none) (.two (.two (.none) (.loop (cut1 (fun (a : Int) => i_Field_areFar_JJ0 Open Dist clients r a) (fun (a : Int) => [(1, .d false (.sl (.ints clients))), (2, .d false (.int .i64 r)), (3, .ptr 3 0), (13, .d true (.int .i64 (Open.length : Int))), (14, .d true (.int .i64 a))]) (fun (a : Int) => [(3, .box 37 [.d false (.sl (.ints Open)), .d false (.sl (.rows Dist))])])) (fun g => i_Field_areFar_mJ0 Open Dist clients r g) (fun g => (fun (a : Int) => .two (.none) (.two (.none) (.two (.two (.none) (.two (.none) (.two (.two (.none) (.loop (cut2 (fun (near : Int) (k : Int) => i_Field_areFar_JJ1 Open Dist clients r a near k) (fun (near : Int) (k : Int) => [(1, .d false (.sl (.ints clients))), (2, .d false (.int .i64 r)), (3, .ptr 3 0), (7, .d true (.int .i64 a)), (8, .d true (.int .i64 near)), (13, .d true (.int .i64 (Open.length : Int))), (14, .d true (.int .i64 a)), (17, .d false (.sl (.ints clients))), (18, .d true (.int .i64 (clients.length : Int))), (19, .d true (.int .i64 k))]) (fun (near : Int) (k : Int) => [(3, .box 37 [.d false (.sl (.ints Open)), .d false (.sl (.rows Dist))])])) (fun g => i_Field_areFar_mJ1 Open Dist clients r a g.1 g.2) (fun _ => .none))) (.none)))) (.none)))) g))) (.none))
def i_Field_areFar_P (Open : List Int) (Dist : List (List Int)) (clients : List Int) (r : Int) : Prop :=
  ((∃ a' : Int, (i_Field_areFar_JJ0 Open Dist clients r a') ∧ (clients = clients) ∧ (r = r) ∧ ((Open.length : Int) = (Open.length : Int)) ∧ ((0 : Int) = a') ∧ (Open = Open) ∧ (Dist = Dist)) ∧ (∀ a : Int, (i_Field_areFar_JJ0 Open Dist clients r a) → (((decide (a < (Open.length : Int))) = true → ((∃ near' : Int, ∃ k' : Int, (i_Field_areFar_JJ1 Open Dist clients r a near' k') ∧ (clients = clients) ∧ (r = r) ∧ (a = a) ∧ ((0 : Int) = near') ∧ ((Open.length : Int) = (Open.length : Int)) ∧ (a = a) ∧ (clients = clients) ∧ ((clients.length : Int) = (clients.length : Int)) ∧ ((0 : Int) = k') ∧ (Open = Open) ∧ (Dist = Dist)) ∧ (∀ near : Int, ∀ k : Int, (i_Field_areFar_JJ1 Open Dist clients r a near k) → (((decide (k < (clients.length : Int))) = true → ((0 : Int) ≤ k) ∧ ((k : Int) < clients.length) ∧ (k.toNat < clients.length) ∧ ((0 : Int) ≤ (clients.getD k.toNat 0)) ∧ (((clients.getD k.toNat 0) : Int) < Dist.length) ∧ ((clients.getD k.toNat 0).toNat < Dist.length) ∧ ((0 : Int) ≤ a) ∧ ((a : Int) < (Dist.getD ((clients.getD k.toNat 0).toNat) []).length) ∧ (a.toNat < (Dist.getD ((clients.getD k.toNat 0).toNat) []).length) ∧ (((decide (((Dist.getD ((clients.getD k.toNat 0).toNat) []).getD a.toNat 0) ≤ r)) = true → (-9223372036854775808 ≤ (near + 1) ∧ (near + 1) ≤ 9223372036854775807) ∧ (-9223372036854775808 ≤ (k + 1) ∧ (k + 1) ≤ 9223372036854775807) ∧ (∃ near' : Int, ∃ k' : Int, (i_Field_areFar_JJ1 Open Dist clients r a near' k') ∧ (i_Field_areFar_mJ1 Open Dist clients r a near' k' < i_Field_areFar_mJ1 Open Dist clients r a near k) ∧ (clients = clients) ∧ (r = r) ∧ (a = a) ∧ ((near + 1) = near') ∧ ((Open.length : Int) = (Open.length : Int)) ∧ (a = a) ∧ (clients = clients) ∧ ((clients.length : Int) = (clients.length : Int)) ∧ ((k + 1) = k') ∧ (Open = Open) ∧ (Dist = Dist))) ∧ ((decide (((Dist.getD ((clients.getD k.toNat 0).toNat) []).getD a.toNat 0) ≤ r)) = false → (-9223372036854775808 ≤ (k + 1) ∧ (k + 1) ≤ 9223372036854775807) ∧ (∃ near' : Int, ∃ k' : Int, (i_Field_areFar_JJ1 Open Dist clients r a near' k') ∧ (i_Field_areFar_mJ1 Open Dist clients r a near' k' < i_Field_areFar_mJ1 Open Dist clients r a near k) ∧ (clients = clients) ∧ (r = r) ∧ (a = a) ∧ (near = near') ∧ ((Open.length : Int) = (Open.length : Int)) ∧ (a = a) ∧ (clients = clients) ∧ ((clients.length : Int) = (clients.length : Int)) ∧ ((k + 1) = k') ∧ (Open = Open) ∧ (Dist = Dist))))) ∧ ((decide (k < (clients.length : Int))) = false → (((decide (near > 1)) = true → ((false = (farS Open.length Dist clients r)))) ∧ ((decide (near > 1)) = false → (-9223372036854775808 ≤ (a + 1) ∧ (a + 1) ≤ 9223372036854775807) ∧ (∃ a' : Int, (i_Field_areFar_JJ0 Open Dist clients r a') ∧ (i_Field_areFar_mJ0 Open Dist clients r a' < i_Field_areFar_mJ0 Open Dist clients r a) ∧ (clients = clients) ∧ (r = r) ∧ ((Open.length : Int) = (Open.length : Int)) ∧ ((a + 1) = a') ∧ (Open = Open) ∧ (Dist = Dist))))))))) ∧ ((decide (a < (Open.length : Int))) = false → ((true = (farS Open.length Dist clients r)))))))
theorem i_Field_areFar_vc (Open : List Int) (Dist : List (List Int)) (clients : List Int) (r : Int) (hg : goodField Open Dist = true) (hc : ∀ c ∈ clients, 0 ≤ c ∧ c < (Dist.length : Int)) (w_Open : (Open.length : Int) ≤ 9223372036854775807) (w_Dist : (Dist.length : Int) ≤ 9223372036854775807) (v_Dist : ∀ x9 ∈ Dist, (x9.length : Int) ≤ 9223372036854775807) (w_clients : (clients.length : Int) ≤ 9223372036854775807) : i_Field_areFar_P Open Dist clients r := by
  unfold i_Field_areFar_P
  obtain ⟨g1, g2, g3⟩ := gf_open hg
  have ca := fun (k : Nat) (hk : k < clients.length) => hc _ (getD_mem (d := 0) hk)
  refine ⟨?_, ?_⟩
  · refine ⟨0, ?_⟩
    refine ⟨?_, rfl, rfl, rfl, rfl, rfl, rfl⟩
    · refine ⟨?_, ?_, ?_⟩
      · first | omega | rfl | (intro hg; simp only [nrmT] at hg; omega) | (intro g1 g2; simp [g1, g2]; done) | (intro g1; simp at g1 ⊢; simp [g1]; done) | (simp only [nrmT] at *; omega) | (simp at * <;> omega) | (simp_all <;> omega) | (simp_all; done)
      · first | omega | rfl | (intro hg; simp only [nrmT] at hg; omega) | (intro g1 g2; simp [g1, g2]; done) | (intro g1; simp at g1 ⊢; simp [g1]; done) | (simp only [nrmT] at *; omega) | (simp at * <;> omega) | (simp_all <;> omega) | (simp_all; done)
      · first | omega | rfl | (intro hg; simp only [nrmT] at hg; omega) | (intro g1 g2; simp [g1, g2]; done) | (intro g1; simp at g1 ⊢; simp [g1]; done) | (simp only [nrmT] at *; omega) | (simp at * <;> omega) | (simp_all <;> omega) | (simp_all; done)
  · intro a hJ
    obtain ⟨h1, h2, h3⟩ := hJ
    refine ⟨?_, ?_⟩
    · intro b1
      try simp only [nrmT] at b1
      refine ⟨?_, ?_⟩
      · refine ⟨0, 0, ?_⟩
        refine ⟨?_, rfl, rfl, rfl, rfl, rfl, rfl, rfl, rfl, rfl, rfl, rfl⟩
        · refine ⟨?_, ?_, ?_⟩
          · first | omega | rfl | (intro hg; simp only [nrmT] at hg; omega) | (intro g1 g2; simp [g1, g2]; done) | (intro g1; simp at g1 ⊢; simp [g1]; done) | (simp only [nrmT] at *; omega) | (simp at * <;> omega) | (simp_all <;> omega) | (simp_all; done)
          · first | omega | rfl | (intro hg; simp only [nrmT] at hg; omega) | (intro g1 g2; simp [g1, g2]; done) | (intro g1; simp at g1 ⊢; simp [g1]; done) | (simp only [nrmT] at *; omega) | (simp at * <;> omega) | (simp_all <;> omega) | (simp_all; done)
          · first | omega | rfl | (intro hg; simp only [nrmT] at hg; omega) | (intro g1 g2; simp [g1, g2]; done) | (intro g1; simp at g1 ⊢; simp [g1]; done) | (simp only [nrmT] at *; omega) | (simp at * <;> omega) | (simp_all <;> omega) | (simp_all; done)
      · intro near k hJ
        obtain ⟨h4, h5, h6⟩ := hJ
        refine ⟨?_, ?_⟩
        · intro b2
          try simp only [nrmT] at b2
          refine ⟨?_, ?_, ?_, ?_, ?_, ?_, ?_, ?_, ?_, ?_, ?_⟩
          · first | omega | rfl | (intro hg; simp only [nrmT] at hg; omega) | (intro g1 g2; simp [g1, g2]; done) | (intro g1; simp at g1 ⊢; simp [g1]; done) | (simp only [nrmT] at *; omega) | (simp at * <;> omega) | (simp_all <;> omega) | (simp_all; done)
          · first | omega | rfl | (intro hg; simp only [nrmT] at hg; omega) | (intro g1 g2; simp [g1, g2]; done) | (intro g1; simp at g1 ⊢; simp [g1]; done) | (simp only [nrmT] at *; omega) | (simp at * <;> omega) | (simp_all <;> omega) | (simp_all; done)
          · first | omega | rfl | (intro hg; simp only [nrmT] at hg; omega) | (intro g1 g2; simp [g1, g2]; done) | (intro g1; simp at g1 ⊢; simp [g1]; done) | (simp only [nrmT] at *; omega) | (simp at * <;> omega) | (simp_all <;> omega) | (simp_all; done)
          · have := ca k.toNat (by omega)
            omega
          · have := ca k.toNat (by omega)
            omega
          · have := ca k.toNat (by omega)
            omega
          · first | omega | rfl | (intro hg; simp only [nrmT] at hg; omega) | (intro g1 g2; simp [g1, g2]; done) | (intro g1; simp at g1 ⊢; simp [g1]; done) | (simp only [nrmT] at *; omega) | (simp at * <;> omega) | (simp_all <;> omega) | (simp_all; done)
          · have := ca k.toNat (by omega)
            obtain ⟨rr, _⟩ := gf_row (i := (clients.getD k.toNat 0).toNat) hg (by omega)
            omega
          · have := ca k.toNat (by omega)
            obtain ⟨rr, _⟩ := gf_row (i := (clients.getD k.toNat 0).toNat) hg (by omega)
            omega
          · intro b3
            try simp only [nrmT] at b3
            refine ⟨?_, ?_, ?_⟩
            · have := nears_bound (Dist := Dist) (clients := clients) (r := r) (a := a.toNat) (k := k.toNat)
              omega
            · first | omega | rfl | (intro hg; simp only [nrmT] at hg; omega) | (intro g1 g2; simp [g1, g2]; done) | (intro g1; simp at g1 ⊢; simp [g1]; done) | (simp only [nrmT] at *; omega) | (simp at * <;> omega) | (simp_all <;> omega) | (simp_all; done)
            · refine ⟨(near + 1), (k + 1), ?_⟩
              refine ⟨?_, ?_, rfl, rfl, rfl, rfl, rfl, rfl, rfl, rfl, rfl, rfl, rfl⟩
              · refine ⟨?_, ?_, ?_⟩
                · first | omega | rfl | (intro hg; simp only [nrmT] at hg; omega) | (intro g1 g2; simp [g1, g2]; done) | (intro g1; simp at g1 ⊢; simp [g1]; done) | (simp only [nrmT] at *; omega) | (simp at * <;> omega) | (simp_all <;> omega) | (simp_all; done)
                · first | omega | rfl | (intro hg; simp only [nrmT] at hg; omega) | (intro g1 g2; simp [g1, g2]; done) | (intro g1; simp at g1 ⊢; simp [g1]; done) | (simp only [nrmT] at *; omega) | (simp at * <;> omega) | (simp_all <;> omega) | (simp_all; done)
                · rw [h6, show (k + 1).toNat = k.toNat + 1 by omega, nears_succ, nearAt_one.2 b3]
              · first | (show _ < _; omega) | (simp only [i_Field_areFar_mJ1]; omega) | (simp only [i_Field_areFar_mJ1] at *; simp at *; omega)
          · intro b4
            try simp only [nrmT] at b4
            refine ⟨?_, ?_⟩
            · first | omega | rfl | (intro hg; simp only [nrmT] at hg; omega) | (intro g1 g2; simp [g1, g2]; done) | (intro g1; simp at g1 ⊢; simp [g1]; done) | (simp only [nrmT] at *; omega) | (simp at * <;> omega) | (simp_all <;> omega) | (simp_all; done)
            · refine ⟨near, (k + 1), ?_⟩
              refine ⟨?_, ?_, rfl, rfl, rfl, rfl, rfl, rfl, rfl, rfl, rfl, rfl, rfl⟩
              · refine ⟨?_, ?_, ?_⟩
                · first | omega | rfl | (intro hg; simp only [nrmT] at hg; omega) | (intro g1 g2; simp [g1, g2]; done) | (intro g1; simp at g1 ⊢; simp [g1]; done) | (simp only [nrmT] at *; omega) | (simp at * <;> omega) | (simp_all <;> omega) | (simp_all; done)
                · first | omega | rfl | (intro hg; simp only [nrmT] at hg; omega) | (intro g1 g2; simp [g1, g2]; done) | (intro g1; simp at g1 ⊢; simp [g1]; done) | (simp only [nrmT] at *; omega) | (simp at * <;> omega) | (simp_all <;> omega) | (simp_all; done)
                · rw [h6, show (k + 1).toNat = k.toNat + 1 by omega, nears_succ]
                  have : nearAt Dist clients r a.toNat k.toNat = 0 := by unfold nearAt; rw [if_neg (by omega)]
                  omega
              · first | (show _ < _; omega) | (simp only [i_Field_areFar_mJ1]; omega) | (simp only [i_Field_areFar_mJ1] at *; simp at *; omega)
        · intro b5
          try simp only [nrmT] at b5
          refine ⟨?_, ?_⟩
          · intro b6
            try simp only [nrmT] at b6
            rw [← far_eq]
            refine (allTo_falseI h1 (by omega) ?_).symm
            rw [h6, show k.toNat = clients.length by omega] at b6
            simp only [decide_eq_false_iff_not]
            omega
          · intro b7
            try simp only [nrmT] at b7
            refine ⟨?_, ?_⟩
            · first | omega | rfl | (intro hg; simp only [nrmT] at hg; omega) | (intro g1 g2; simp [g1, g2]; done) | (intro g1; simp at g1 ⊢; simp [g1]; done) | (simp only [nrmT] at *; omega) | (simp at * <;> omega) | (simp_all <;> omega) | (simp_all; done)
            · refine ⟨(a + 1), ?_⟩
              refine ⟨?_, ?_, rfl, rfl, rfl, rfl, rfl, rfl⟩
              · refine ⟨?_, ?_, ?_⟩
                · first | omega | rfl | (intro hg; simp only [nrmT] at hg; omega) | (intro g1 g2; simp [g1, g2]; done) | (intro g1; simp at g1 ⊢; simp [g1]; done) | (simp only [nrmT] at *; omega) | (simp at * <;> omega) | (simp_all <;> omega) | (simp_all; done)
                · first | omega | rfl | (intro hg; simp only [nrmT] at hg; omega) | (intro g1 g2; simp [g1, g2]; done) | (intro g1; simp at g1 ⊢; simp [g1]; done) | (simp only [nrmT] at *; omega) | (simp at * <;> omega) | (simp_all <;> omega) | (simp_all; done)
                · rw [h6, show k.toNat = clients.length by omega] at b7
                  exact allTo_step h1 h3 (by simp only [decide_eq_true_eq]; omega)
              · first | (show _ < _; omega) | (simp only [i_Field_areFar_mJ0]; omega) | (simp only [i_Field_areFar_mJ0] at *; simp at *; omega)
    · intro b8
      try simp only [nrmT] at b8
      rw [← far_eq]
      unfold farI
      rw [← h3]; congr 1; omega
theorem i_Field_areFar_pc (Open : List Int) (Dist : List (List Int)) (clients : List Int) (r : Int) (hg : goodField Open Dist = true) (hc : ∀ c ∈ clients, 0 ≤ c ∧ c < (Dist.length : Int)) : PC Try.prog 171 [.agg [.sl (.ints Open), .sl (.rows Dist)], .sl (.ints clients), .int .i64 r] (.one (.d (.bool (farS Open.length Dist clients r)))) :=
  pc_wf @Try.call171 fun hw => pc_by (by kernel_rfl) Try.func171 @Try.call171 (by kernel_rfl) i_Field_areFar_C (i_Field_areFar_A Open Dist clients r) (by kernel_rfl) (i_Field_areFar_vc Open Dist clients r hg hc hw.1.1 hw.1.2.1.1 hw.1.2.1.2 hw.2.1) (by kernel_rfl)
def i_Field_areFar_orc : List D → Orc := orcN [none, some .ints, none] fun ds => match ds with
  | [.agg [.sl (.ints Open), .sl (.rows Dist)], .sl (.ints clients), .int .i64 r] => some (.one (.d (.bool (farS Open.length Dist clients r))))
  | _ => none
def i_bag_has_C (f : FuncId) (ds : List D) : Orc := .no
def i_bag_has_A (b : Int) (x : Int) : Ann := .none
def i_bag_has_P (b : Int) (x : Int) : Prop :=
  ((0 : Int) ≤ b ∧ (b : Int) ≤ 18446744073709551615) ∧ ((0 : Int) ≤ x) ∧ ((0 : Int) ≤ (b / 2 ^ x.toNat) ∧ ((b / 2 ^ x.toNat) : Int) ≤ 18446744073709551615) ∧ ((0 : Int) ≤ 1 ∧ (1 : Int) ≤ 18446744073709551615) ∧ ((((((b / 2 ^ x.toNat).toNat &&& 1 : Nat) : Int) == 1) = (b.toNat.testBit x.toNat)))
theorem i_bag_has_vc (b : Int) (x : Int) (hb : 0 ≤ b ∧ b ≤ 4611686018427387903) (hx : 0 ≤ x)  : i_bag_has_P b x := by
  unfold i_bag_has_P
  refine ⟨?_, ?_, ?_, ?_, ?_⟩
  · first | omega | rfl | (intro hg; simp only [nrmT] at hg; omega) | (intro g1 g2; simp [g1, g2]; done) | (intro g1; simp at g1 ⊢; simp [g1]; done) | (simp only [nrmT] at *; omega) | (simp at * <;> omega) | (simp_all <;> omega) | (simp_all; done)
  · first | omega | rfl | (intro hg; simp only [nrmT] at hg; omega) | (intro g1 g2; simp [g1, g2]; done) | (intro g1; simp at g1 ⊢; simp [g1]; done) | (simp only [nrmT] at *; omega) | (simp at * <;> omega) | (simp_all <;> omega) | (simp_all; done)
  · have h1 : 0 ≤ b / 2 ^ x.toNat := Int.ediv_nonneg hb.1 (Int.le_of_lt (Int.pow_pos (by omega)))
    have h2 : b / 2 ^ x.toNat ≤ b := Int.ediv_le_self _ hb.1
    omega
  · first | omega | rfl | (intro hg; simp only [nrmT] at hg; omega) | (intro g1 g2; simp [g1, g2]; done) | (intro g1; simp at g1 ⊢; simp [g1]; done) | (simp only [nrmT] at *; omega) | (simp at * <;> omega) | (simp_all <;> omega) | (simp_all; done)
  · have e : b = ((b.toNat : Nat) : Int) := by omega
    have h := shr_bit (n := b.toNat) (k := x.toNat)
    rw [← e] at h
    rw [h]
    cases b.toNat.testBit x.toNat <;> rfl
theorem i_bag_has_pc (b : Int) (x : Int) (hb : 0 ≤ b ∧ b ≤ 4611686018427387903) (hx : 0 ≤ x) : PC Try.prog 191 [.int .u64 b, .int .i64 x] (.one (.d (.bool (b.toNat.testBit x.toNat)))) :=
  pc_wf @Try.call191 fun _ => pc_by (by kernel_rfl) Try.func191 @Try.call191 (by kernel_rfl) i_bag_has_C (i_bag_has_A b x) (by kernel_rfl) (i_bag_has_vc b x hb hx) (by kernel_rfl)
def i_bag_has_orc : List D → Orc := orcN [none, none] fun ds => match ds with
  | [.int .u64 b, .int .i64 x] => some (.one (.d (.bool (b.toNat.testBit x.toNat))))
  | _ => none
theorem pow8 {n : Nat} (h : n ≤ 8) : (2 : Nat) ^ n ≤ 256 := Nat.le_trans (Nat.pow_le_pow_right (by omega) h) (by decide)
abbrev s_l1Put_JJ0 (l : List Int) (n : Int) (k : Int) : Prop := (0 ≤ k) ∧ (k ≤ (l.length : Int)) ∧ (∀ j, j < k.toNat → l.getD j 0 < n)
abbrev s_l1Put_mJ0 (l : List Int) (n : Int) (k : Int) : Nat := (l.length - k).toNat
def s_l1Put_C (f : FuncId) (ds : List D) : Orc := .no
def s_l1Put_A (l : List Int) (n : Int) : Ann := .two (.none) (.two (.none) (.two (.loop (cut1 (fun (k : Int) => s_l1Put_JJ0 l n k) (fun (k : Int) => [(0, .d true (.sl (.ints l))), (1, .d false (.int .i64 n)), (5, .d true (.int .i64 k))]) (fun (k : Int) => [])) (fun g => s_l1Put_mJ0 l n g) (fun _ => .none)) (.two (.none) (.two (.reg [(6, .frz)]) (.none)))))
def s_l1Put_P (l : List Int) (n : Int) : Prop :=
  ((∃ k' : Int, (s_l1Put_JJ0 l n k') ∧ (l = l) ∧ (n = n) ∧ ((0 : Int) = k')) ∧ (∀ k : Int, (s_l1Put_JJ0 l n k) → ((decide (k < (l.length : Int))) = true → (decide (k < (l.length : Int))) = true) ∧ ((decide (k < (l.length : Int))) = true → (decide (k < (l.length : Int))) = true) ∧ (((decide (k < (l.length : Int))) = true → (0 : Int) ≤ k)) ∧ (((decide (k < (l.length : Int))) = true → (k : Int) < l.length)) ∧ ((decide (k < (l.length : Int))) = true → (decide (k < (l.length : Int))) = true) ∧ (((decide (k < (l.length : Int))) = true → k.toNat < l.length)) ∧ ((decide (k < (l.length : Int))) = true → (decide (k < (l.length : Int))) = true) ∧ ((decide (k < (l.length : Int))) = true → (decide (k < (l.length : Int))) = true) ∧ (true = true) ∧ (((decide (k < (l.length : Int))) = true → (decide (k < (l.length : Int))) = true)) ∧ (((decide (k < (l.length : Int))) = false → true = true)) ∧ (((cond (decide (k < (l.length : Int))) (decide ((l.getD k.toNat 0) < n)) false) = true → (-9223372036854775808 ≤ (k + 1) ∧ (k + 1) ≤ 9223372036854775807) ∧ (∃ k' : Int, (s_l1Put_JJ0 l n k') ∧ (s_l1Put_mJ0 l n k' < s_l1Put_mJ0 l n k) ∧ (l = l) ∧ (n = n) ∧ ((k + 1) = k'))) ∧ ((cond (decide (k < (l.length : Int))) (decide ((l.getD k.toNat 0) < n)) false) = false → ((decide (k < (l.length : Int))) = true → (decide (k < (l.length : Int))) = true) ∧ ((decide (k < (l.length : Int))) = true → (decide (k < (l.length : Int))) = true) ∧ (((decide (k < (l.length : Int))) = true → (0 : Int) ≤ k)) ∧ (((decide (k < (l.length : Int))) = true → (k : Int) < l.length)) ∧ ((decide (k < (l.length : Int))) = true → (decide (k < (l.length : Int))) = true) ∧ (((decide (k < (l.length : Int))) = true → k.toNat < l.length)) ∧ ((decide (k < (l.length : Int))) = true → (decide (k < (l.length : Int))) = true) ∧ ((decide (k < (l.length : Int))) = true → (decide (k < (l.length : Int))) = true) ∧ (true = true) ∧ (((decide (k < (l.length : Int))) = true → (decide (k < (l.length : Int))) = true)) ∧ (((decide (k < (l.length : Int))) = false → true = true)) ∧ (((cond (decide (k < (l.length : Int))) ((l.getD k.toNat 0) == n) false) = true → (((l : List Int) = (putL l n)))) ∧ ((cond (decide (k < (l.length : Int))) ((l.getD k.toNat 0) == n) false) = false → (true = true) ∧ ((0 : Int) ≤ k) ∧ ((k : Int) ≤ l.length) ∧ ((0 : Nat) = 0) ∧ (True) ∧ ((0 + ((l.take k.toNat).drop 0).length) * 8 ≤ 140737488355328) ∧ ((0 + ((l.take k.toNat).drop 0).length) = ([] ++ ((l.take k.toNat).drop 0)).length) ∧ (True) ∧ ((([] ++ ((l.take k.toNat).drop 0)).length + 1) * 8 ≤ 140737488355328) ∧ ((0 : Int) ≤ k) ∧ ((k : Int) ≤ l.length) ∧ (((0 + ((l.take k.toNat).drop 0).length) + 1) = (([] ++ ((l.take k.toNat).drop 0)) ++ [n]).length) ∧ (True) ∧ (((([] ++ ((l.take k.toNat).drop 0)) ++ [n]).length + ((l.take l.length).drop k.toNat).length) * 8 ≤ 140737488355328) ∧ (((((0 + ((l.take k.toNat).drop 0).length) + 1) + ((l.take l.length).drop k.toNat).length) = ((([] ++ ((l.take k.toNat).drop 0)) ++ [n]) ++ ((l.take l.length).drop k.toNat)).length) ∧ ((((([] ++ ((l.take k.toNat).drop 0)) ++ [n]) ++ ((l.take l.length).drop k.toNat)) : List Int) = (putL l n)))))))))
theorem s_l1Put_vc (l : List Int) (n : Int) (hl : l.length ≤ 1048576) (w_l : (l.length : Int) ≤ 9223372036854775807) : s_l1Put_P l n := by
  unfold s_l1Put_P
  refine ⟨?_, ?_⟩
  · refine ⟨0, ?_⟩
    refine ⟨?_, rfl, rfl, rfl⟩
    · refine ⟨?_, ?_, ?_⟩
      · first | omega | rfl | (intro hg; simp only [nrmT] at hg; omega) | (intro g1 g2; simp [g1, g2]; done) | (intro g1; simp at g1 ⊢; simp [g1]; done) | (simp only [nrmT] at *; omega) | (simp at * <;> omega) | (simp_all <;> omega) | (simp_all; done)
      · first | omega | rfl | (intro hg; simp only [nrmT] at hg; omega) | (intro g1 g2; simp [g1, g2]; done) | (intro g1; simp at g1 ⊢; simp [g1]; done) | (simp only [nrmT] at *; omega) | (simp at * <;> omega) | (simp_all <;> omega) | (simp_all; done)
      · first | omega | rfl | (intro hg; simp only [nrmT] at hg; omega) | (intro g1 g2; simp [g1, g2]; done) | (intro g1; simp at g1 ⊢; simp [g1]; done) | (simp only [nrmT] at *; omega) | (simp at * <;> omega) | (simp_all <;> omega) | (simp_all; done)
  · intro k hJ
    obtain ⟨h1, h2, h3⟩ := hJ
    refine ⟨id, id, ?_, ?_, id, ?_, id, id, rfl, id, fun _ => rfl, ?_, ?_⟩
    · first | omega | rfl | (intro hg; simp only [nrmT] at hg; omega) | (intro g1 g2; simp [g1, g2]; done) | (intro g1; simp at g1 ⊢; simp [g1]; done) | (simp only [nrmT] at *; omega) | (simp at * <;> omega) | (simp_all <;> omega) | (simp_all; done)
    · first | omega | rfl | (intro hg; simp only [nrmT] at hg; omega) | (intro g1 g2; simp [g1, g2]; done) | (intro g1; simp at g1 ⊢; simp [g1]; done) | (simp only [nrmT] at *; omega) | (simp at * <;> omega) | (simp_all <;> omega) | (simp_all; done)
    · first | omega | rfl | (intro hg; simp only [nrmT] at hg; omega) | (intro g1 g2; simp [g1, g2]; done) | (intro g1; simp at g1 ⊢; simp [g1]; done) | (simp only [nrmT] at *; omega) | (simp at * <;> omega) | (simp_all <;> omega) | (simp_all; done)
    · intro b1
      refine ⟨?_, ?_⟩
      · have h5 : k < (l.length : Int) ∧ l.getD k.toNat 0 < n := by
          revert b1; by_cases h : k < (l.length : Int)
          · rw [decide_eq_true h]; intro g; exact ⟨h, by simpa using g⟩
          · rw [decide_eq_false h]; intro g; cases g
        omega
      · refine ⟨(k + 1), ?_⟩
        refine ⟨?_, ?_, rfl, rfl, rfl⟩
        · refine ⟨?_, ?_, ?_⟩
          · omega
          · have h5 : k < (l.length : Int) ∧ l.getD k.toNat 0 < n := by
              revert b1; by_cases h : k < (l.length : Int)
              · rw [decide_eq_true h]; intro g; exact ⟨h, by simpa using g⟩
              · rw [decide_eq_false h]; intro g; cases g
            omega
          · have h5 : k < (l.length : Int) ∧ l.getD k.toNat 0 < n := by
              revert b1; by_cases h : k < (l.length : Int)
              · rw [decide_eq_true h]; intro g; exact ⟨h, by simpa using g⟩
              · rw [decide_eq_false h]; intro g; cases g
            intro j hj
            by_cases e : j = k.toNat
            · rw [e]; exact h5.2
            · exact h3 j (by omega)
        · have h5 : k < (l.length : Int) ∧ l.getD k.toNat 0 < n := by
            revert b1; by_cases h : k < (l.length : Int)
            · rw [decide_eq_true h]; intro g; exact ⟨h, by simpa using g⟩
            · rw [decide_eq_false h]; intro g; cases g
          first | (show _ < _; omega) | (simp only [s_l1Put_mJ0]; omega) | (simp only [s_l1Put_mJ0] at *; simp at *; omega)
    · intro b2
      refine ⟨id, id, ?_, ?_, id, ?_, id, id, rfl, id, fun _ => rfl, ?_, ?_⟩
      · first | omega | rfl | (intro hg; simp only [nrmT] at hg; omega) | (intro g1 g2; simp [g1, g2]; done) | (intro g1; simp at g1 ⊢; simp [g1]; done) | (simp only [nrmT] at *; omega) | (simp at * <;> omega) | (simp_all <;> omega) | (simp_all; done)
      · first | omega | rfl | (intro hg; simp only [nrmT] at hg; omega) | (intro g1 g2; simp [g1, g2]; done) | (intro g1; simp at g1 ⊢; simp [g1]; done) | (simp only [nrmT] at *; omega) | (simp at * <;> omega) | (simp_all <;> omega) | (simp_all; done)
      · first | omega | rfl | (intro hg; simp only [nrmT] at hg; omega) | (intro g1 g2; simp [g1, g2]; done) | (intro g1; simp at g1 ⊢; simp [g1]; done) | (simp only [nrmT] at *; omega) | (simp at * <;> omega) | (simp_all <;> omega) | (simp_all; done)
      · intro b3
        have h6 : k.toNat < l.length → ¬ l.getD k.toNat 0 < n := by
          intro g1 g2
          rw [decide_eq_true (show k < (l.length : Int) by omega), decide_eq_true g2] at b2
          cases b2
        have h7 : k < (l.length : Int) ∧ l.getD k.toNat 0 = n := by
          revert b3; by_cases h : k < (l.length : Int)
          · rw [decide_eq_true h]; intro g; exact ⟨h, by simpa using g⟩
          · rw [decide_eq_false h]; intro g; cases g
        rw [putL_at l n k.toNat (by omega) h3 h6, if_pos ⟨by omega, h7.2⟩]
      · intro b4
        refine ⟨rfl, ?_, ?_, rfl, trivial, ?_, ?_, trivial, ?_, ?_, ?_, ?_, trivial, ?_, ?_, ?_⟩
        · first | omega | rfl | (intro hg; simp only [nrmT] at hg; omega) | (intro g1 g2; simp [g1, g2]; done) | (intro g1; simp at g1 ⊢; simp [g1]; done) | (simp only [nrmT] at *; omega) | (simp at * <;> omega) | (simp_all <;> omega) | (simp_all; done)
        · first | omega | rfl | (intro hg; simp only [nrmT] at hg; omega) | (intro g1 g2; simp [g1, g2]; done) | (intro g1; simp at g1 ⊢; simp [g1]; done) | (simp only [nrmT] at *; omega) | (simp at * <;> omega) | (simp_all <;> omega) | (simp_all; done)
        · first | (simp only [List.length_append, List.length_take, List.length_drop, List.length_cons, List.length_nil]; done) | (simp only [List.length_append, List.length_take, List.length_drop, List.length_cons, List.length_nil]; omega)
        · first | (simp only [List.length_append, List.length_take, List.length_drop, List.length_cons, List.length_nil]; done) | (simp only [List.length_append, List.length_take, List.length_drop, List.length_cons, List.length_nil]; omega)
        · first | (simp only [List.length_append, List.length_take, List.length_drop, List.length_cons, List.length_nil]; done) | (simp only [List.length_append, List.length_take, List.length_drop, List.length_cons, List.length_nil]; omega)
        · first | omega | rfl | (intro hg; simp only [nrmT] at hg; omega) | (intro g1 g2; simp [g1, g2]; done) | (intro g1; simp at g1 ⊢; simp [g1]; done) | (simp only [nrmT] at *; omega) | (simp at * <;> omega) | (simp_all <;> omega) | (simp_all; done)
        · first | omega | rfl | (intro hg; simp only [nrmT] at hg; omega) | (intro g1 g2; simp [g1, g2]; done) | (intro g1; simp at g1 ⊢; simp [g1]; done) | (simp only [nrmT] at *; omega) | (simp at * <;> omega) | (simp_all <;> omega) | (simp_all; done)
        · first | (simp only [List.length_append, List.length_take, List.length_drop, List.length_cons, List.length_nil]; done) | (simp only [List.length_append, List.length_take, List.length_drop, List.length_cons, List.length_nil]; omega)
        · first | (simp only [List.length_append, List.length_take, List.length_drop, List.length_cons, List.length_nil]; done) | (simp only [List.length_append, List.length_take, List.length_drop, List.length_cons, List.length_nil]; omega)
        · first | (simp only [List.length_append, List.length_take, List.length_drop, List.length_cons, List.length_nil]; done) | (simp only [List.length_append, List.length_take, List.length_drop, List.length_cons, List.length_nil]; omega)
        · have h6 : k.toNat < l.length → ¬ l.getD k.toNat 0 < n := by
            intro g1 g2
            rw [decide_eq_true (show k < (l.length : Int) by omega), decide_eq_true g2] at b2
            cases b2
          have h7 : ¬ (k.toNat < l.length ∧ l.getD k.toNat 0 = n) := by
            rintro ⟨g1, g2⟩
            rw [decide_eq_true (show k < (l.length : Int) by omega), g2] at b4
            simp at b4
          rw [putL_at l n k.toNat (by omega) h3 h6, if_neg h7]
          simp
theorem s_l1Put_pc (l : List Int) (n : Int) (hl : l.length ≤ 1048576) : PCs Try.prog 147 [.sl (.ints l), .int .i64 n] 0 (.sl (.ints (putL l n))) :=
  pcs_wf @Try.call147 fun hw => pcs_by (by kernel_rfl) Try.func147 @Try.call147 (by kernel_rfl) s_l1Put_C (s_l1Put_A l n) (by kernel_rfl) (s_l1Put_vc l n hl hw.1) (by kernel_rfl)
def s_l1Put_orc : List D → Orc := orcS 0 fun ds => match ds with
  | [.sl (.ints l), .int .i64 n] => some (.sl (.ints (putL l n)))
  | _ => none
theorem getD_get {α : Type} {xs : List α} {k : Nat} {d : α} (h : k < xs.length) : xs.getD k d = xs[k] := by simp [h]
/-- Marks from k on. -/
def marks (k : Int) (n : Nat) : List Int := (List.range n).map fun (i : Nat) => k + (i : Int)
theorem marks_len (k : Int) (n : Nat) : (marks k n).length = n := by simp [marks]
theorem lt62 {b x : Int} (hb : 0 ≤ b ∧ b ≤ 4611686018427387903) (h2 : x ≤ 62) (h : 0 < b / 2 ^ x.toNat) : x < 62 := by
  by_cases e : x = 62
  · subst e
    have e2 : (2 : Int) ^ (62 : Int).toNat = 4611686018427387904 := by decide
    rw [e2] at h
    omega
  · omega
theorem bit_out {b : Int} {m : Nat} (hb : 0 ≤ b) (h : ¬ 0 < b / 2 ^ m) (k : Nat) (hk : m ≤ k) : b.toNat.testBit k = false := by
  have h1 : b.toNat / 2 ^ m = 0 := by
    have h2 : ((b.toNat / 2 ^ m : Nat) : Int) = b / 2 ^ m := by
      rw [Int.natCast_ediv, Int.toNat_of_nonneg hb]; simp
    have h3 : (0 : Int) ≤ ((b.toNat / 2 ^ m : Nat) : Int) := Int.natCast_nonneg _
    omega
  have h4 : b.toNat < 2 ^ m := (Nat.div_eq_zero_iff_lt (Nat.two_pow_pos m)).1 h1
  exact Nat.testBit_lt_two_pow (Nat.lt_of_lt_of_le h4 (Nat.pow_le_pow_right (by omega) hk))
theorem members_stop {p : Nat → Bool} {m : Nat} (h : ∀ k, m ≤ k → p k = false) : ∀ n, m ≤ n → members p n = members p m
  | 0, hn => by have : m = 0 := by omega
                rw [this]
  | n + 1, hn => by
    by_cases e : m = n + 1
    · rw [e]
    · rw [members_succ, members_stop h n (by omega), h n (by omega)]; simp
abbrev i_bag_list_JJ0 (b : Int) (out : List Int) (x : Int) : Prop := (0 ≤ x) ∧ (x ≤ 62) ∧ (out = members (fun k => b.toNat.testBit k) x.toNat)
abbrev i_bag_list_mJ0 (b : Int) (out : List Int) (x : Int) : Nat := (62 - x).toNat
def i_bag_list_C (f : FuncId) (ds : List D) : Orc := bif Nat.beq f 191 then i_bag_has_orc ds else .no
def i_bag_list_A (b : Int) : Ann := .two (.none) (.two (.none) (.two (.two (.none) (.loop (cut2 (fun (out : List Int) (x : Int) => i_bag_list_JJ0 b out x) (fun (out : List Int) (x : Int) => [(0, .d false (.int .u64 b)), (3, .own 1000000 out.length), (4, .d true (.int .i64 x))]) (fun (out : List Int) (x : Int) => [(1000000, .arr true 3 (.ints out))])) (fun g => i_bag_list_mJ0 b g.1 g.2) (fun _ => .none))) (.none)))
def i_bag_list_P (b : Int) : Prop :=
  ((∃ out' : List Int, ∃ x' : Int, (i_bag_list_JJ0 b out' x') ∧ (b = b) ∧ ((0 : Nat) = out'.length) ∧ ((0 : Int) = x') ∧ ([] = out')) ∧ (∀ out : List Int, ∀ x : Int, (i_bag_list_JJ0 b out x) → ((0 : Int) ≤ b ∧ (b : Int) ≤ 18446744073709551615) ∧ ((0 : Int) ≤ x) ∧ (((decide ((b / 2 ^ x.toNat) > 0)) = true → (PC Try.prog 191 [.int .u64 b, .int .i64 x] (.one (.d (.bool (b.toNat.testBit x.toNat))))) ∧ (((b.toNat.testBit x.toNat) = true → (out.length = out.length) ∧ ((1 : Nat) = 1) ∧ ((out.length + 1) * 8 ≤ 140737488355328) ∧ (-9223372036854775808 ≤ (x + 1) ∧ (x + 1) ≤ 9223372036854775807) ∧ (∃ out' : List Int, ∃ x' : Int, (i_bag_list_JJ0 b out' x') ∧ (i_bag_list_mJ0 b out' x' < i_bag_list_mJ0 b out x) ∧ (b = b) ∧ ((out.length + 1) = out'.length) ∧ ((x + 1) = x') ∧ ((out ++ [x]) = out'))) ∧ ((b.toNat.testBit x.toNat) = false → (-9223372036854775808 ≤ (x + 1) ∧ (x + 1) ≤ 9223372036854775807) ∧ (∃ out' : List Int, ∃ x' : Int, (i_bag_list_JJ0 b out' x') ∧ (i_bag_list_mJ0 b out' x' < i_bag_list_mJ0 b out x) ∧ (b = b) ∧ (out.length = out'.length) ∧ ((x + 1) = x') ∧ (out = out'))))) ∧ ((decide ((b / 2 ^ x.toNat) > 0)) = false → ((out.length = out.length) ∧ ((out : List Int) = members (fun k => b.toNat.testBit k) 62))))))
theorem i_bag_list_vc (b : Int) (hb : 0 ≤ b ∧ b ≤ 4611686018427387903)  : i_bag_list_P b := by
  unfold i_bag_list_P
  refine ⟨?_, ?_⟩
  · refine ⟨([]), 0, ?_⟩
    refine ⟨?_, rfl, rfl, rfl, ?_⟩
    · refine ⟨?_, ?_, ?_⟩
      · first | omega | rfl | (intro hg; simp only [nrmT] at hg; omega) | (intro g1 g2; simp [g1, g2]; done) | (intro g1; simp at g1 ⊢; simp [g1]; done) | (simp only [nrmT] at *; omega) | (simp at * <;> omega) | (simp_all <;> omega) | (simp_all; done)
      · first | omega | rfl | (intro hg; simp only [nrmT] at hg; omega) | (intro g1 g2; simp [g1, g2]; done) | (intro g1; simp at g1 ⊢; simp [g1]; done) | (simp only [nrmT] at *; omega) | (simp at * <;> omega) | (simp_all <;> omega) | (simp_all; done)
      · first | omega | rfl | (intro hg; simp only [nrmT] at hg; omega) | (intro g1 g2; simp [g1, g2]; done) | (intro g1; simp at g1 ⊢; simp [g1]; done) | (simp only [nrmT] at *; omega) | (simp at * <;> omega) | (simp_all <;> omega) | (simp_all; done)
    · first | omega | rfl | (intro hg; simp only [nrmT] at hg; omega) | (intro g1 g2; simp [g1, g2]; done) | (intro g1; simp at g1 ⊢; simp [g1]; done) | (simp only [nrmT] at *; omega) | (simp at * <;> omega) | (simp_all <;> omega) | (simp_all; done)
  · intro out x hJ
    obtain ⟨h1, h2, h3⟩ := hJ
    refine ⟨?_, ?_, ?_, ?_⟩
    · first | omega | rfl | (intro hg; simp only [nrmT] at hg; omega) | (intro g1 g2; simp [g1, g2]; done) | (intro g1; simp at g1 ⊢; simp [g1]; done) | (simp only [nrmT] at *; omega) | (simp at * <;> omega) | (simp_all <;> omega) | (simp_all; done)
    · first | omega | rfl | (intro hg; simp only [nrmT] at hg; omega) | (intro g1 g2; simp [g1, g2]; done) | (intro g1; simp at g1 ⊢; simp [g1]; done) | (simp only [nrmT] at *; omega) | (simp at * <;> omega) | (simp_all <;> omega) | (simp_all; done)
    · intro b1
      try simp only [nrmT] at b1
      refine ⟨?_, ?_, ?_⟩
      · refine i_bag_has_pc b x ?_ ?_
        · first | omega | rfl | (intro hg; simp only [nrmT] at hg; omega) | (intro g1 g2; simp [g1, g2]; done) | (intro g1; simp at g1 ⊢; simp [g1]; done) | (simp only [nrmT] at *; omega) | (simp at * <;> omega) | (simp_all <;> omega) | (simp_all; done)
        · first | omega | rfl | (intro hg; simp only [nrmT] at hg; omega) | (intro g1 g2; simp [g1, g2]; done) | (intro g1; simp at g1 ⊢; simp [g1]; done) | (simp only [nrmT] at *; omega) | (simp at * <;> omega) | (simp_all <;> omega) | (simp_all; done)
      · intro b2
        try simp only [nrmT] at b2
        refine ⟨rfl, rfl, ?_, ?_, ?_⟩
        · rw [h3]; have := members_len_le (fun k => b.toNat.testBit k) x.toNat; omega
        · first | omega | rfl | (intro hg; simp only [nrmT] at hg; omega) | (intro g1 g2; simp [g1, g2]; done) | (intro g1; simp at g1 ⊢; simp [g1]; done) | (simp only [nrmT] at *; omega) | (simp at * <;> omega) | (simp_all <;> omega) | (simp_all; done)
        · refine ⟨(out ++ [x]), (x + 1), ?_⟩
          refine ⟨?_, ?_, rfl, ?_, rfl, rfl⟩
          · refine ⟨?_, ?_, ?_⟩
            · first | omega | rfl | (intro hg; simp only [nrmT] at hg; omega) | (intro g1 g2; simp [g1, g2]; done) | (intro g1; simp at g1 ⊢; simp [g1]; done) | (simp only [nrmT] at *; omega) | (simp at * <;> omega) | (simp_all <;> omega) | (simp_all; done)
            · have := lt62 hb h2 b1; omega
            · rw [h3, show (x + 1).toNat = x.toNat + 1 by omega, members_succ, b2]; simp; try omega
          · have := lt62 hb h2 b1
            first | (show _ < _; omega) | (simp only [i_bag_list_mJ0]; omega) | (simp only [i_bag_list_mJ0] at *; simp at *; omega)
          · first | omega | rfl | (intro hg; simp only [nrmT] at hg; omega) | (intro g1 g2; simp [g1, g2]; done) | (intro g1; simp at g1 ⊢; simp [g1]; done) | (simp only [nrmT] at *; omega) | (simp at * <;> omega) | (simp_all <;> omega) | (simp_all; done)
      · intro b3
        try simp only [nrmT] at b3
        refine ⟨?_, ?_⟩
        · first | omega | rfl | (intro hg; simp only [nrmT] at hg; omega) | (intro g1 g2; simp [g1, g2]; done) | (intro g1; simp at g1 ⊢; simp [g1]; done) | (simp only [nrmT] at *; omega) | (simp at * <;> omega) | (simp_all <;> omega) | (simp_all; done)
        · refine ⟨out, (x + 1), ?_⟩
          refine ⟨?_, ?_, rfl, rfl, rfl, rfl⟩
          · refine ⟨?_, ?_, ?_⟩
            · first | omega | rfl | (intro hg; simp only [nrmT] at hg; omega) | (intro g1 g2; simp [g1, g2]; done) | (intro g1; simp at g1 ⊢; simp [g1]; done) | (simp only [nrmT] at *; omega) | (simp at * <;> omega) | (simp_all <;> omega) | (simp_all; done)
            · have := lt62 hb h2 b1; omega
            · rw [h3, show (x + 1).toNat = x.toNat + 1 by omega, members_succ, b3]; simp; try omega
          · have := lt62 hb h2 b1
            first | (show _ < _; omega) | (simp only [i_bag_list_mJ0]; omega) | (simp only [i_bag_list_mJ0] at *; simp at *; omega)
    · intro b4
      try simp only [nrmT] at b4
      refine ⟨rfl, ?_⟩
      · rw [h3]; refine (members_stop (fun k hk => bit_out hb.1 (m := x.toNat) (by omega) k hk) 62 (by omega)).symm
theorem i_bag_list_pc (b : Int) (hb : 0 ≤ b ∧ b ≤ 4611686018427387903) : PC Try.prog 159 [.int .u64 b] (.one (.own 3 (.ints (members (fun k => b.toNat.testBit k) 62)))) :=
  pc_wf @Try.call159 fun _ => pc_by (by kernel_rfl) Try.func159 @Try.call159 (by kernel_rfl) i_bag_list_C (i_bag_list_A b) (by kernel_rfl) (i_bag_list_vc b hb) (by kernel_rfl)
def i_bag_list_orc : List D → Orc := orcN [none] fun ds => match ds with
  | [.int .u64 b] => some (.one (.own 3 (.ints (members (fun k => b.toNat.testBit k) 62))))
  | _ => none
abbrev s_l2Bits_JJ0 (n : Int) (code : Int) (out : List Int) (x : Int) : Prop := (0 ≤ x) ∧ (x ≤ n) ∧ (out = members (fun k => code.toNat.testBit k) x.toNat)
abbrev s_l2Bits_mJ0 (n : Int) (code : Int) (out : List Int) (x : Int) : Nat := (n - x).toNat
def s_l2Bits_C (f : FuncId) (ds : List D) : Orc := .no
def s_l2Bits_A (n : Int) (code : Int) : Ann := .two (.none) (.two (.none) (.two (.two (.none) (.loop (cut2 (fun (out : List Int) (x : Int) => s_l2Bits_JJ0 n code out x) (fun (out : List Int) (x : Int) => [(0, .d false (.int .i64 n)), (1, .d false (.int .i64 code)), (5, .own 1000000 out.length), (6, .d true (.int .i64 x))]) (fun (out : List Int) (x : Int) => [(1000000, .arr true 3 (.ints out))])) (fun g => s_l2Bits_mJ0 n code g.1 g.2) (fun _ => .none))) (.none)))
def s_l2Bits_P (n : Int) (code : Int) : Prop :=
  ((∃ out' : List Int, ∃ x' : Int, (s_l2Bits_JJ0 n code out' x') ∧ (n = n) ∧ (code = code) ∧ ((0 : Nat) = out'.length) ∧ ((0 : Int) = x') ∧ ([] = out')) ∧ (∀ out : List Int, ∀ x : Int, (s_l2Bits_JJ0 n code out x) → (((decide (x < n)) = true → ((0 : Int) ≤ code ∧ (code : Int) ≤ 9223372036854775807) ∧ ((0 : Int) ≤ x) ∧ ((0 : Int) ≤ (code / 2 ^ x.toNat) ∧ ((code / 2 ^ x.toNat) : Int) ≤ 9223372036854775807) ∧ ((0 : Int) ≤ 1 ∧ (1 : Int) ≤ 9223372036854775807) ∧ ((((((code / 2 ^ x.toNat).toNat &&& 1 : Nat) : Int) == 1) = true → (out.length = out.length) ∧ ((1 : Nat) = 1) ∧ ((out.length + 1) * 8 ≤ 140737488355328) ∧ (-9223372036854775808 ≤ (x + 1) ∧ (x + 1) ≤ 9223372036854775807) ∧ (∃ out' : List Int, ∃ x' : Int, (s_l2Bits_JJ0 n code out' x') ∧ (s_l2Bits_mJ0 n code out' x' < s_l2Bits_mJ0 n code out x) ∧ (n = n) ∧ (code = code) ∧ ((out.length + 1) = out'.length) ∧ ((x + 1) = x') ∧ ((out ++ [x]) = out'))) ∧ (((((code / 2 ^ x.toNat).toNat &&& 1 : Nat) : Int) == 1) = false → (-9223372036854775808 ≤ (x + 1) ∧ (x + 1) ≤ 9223372036854775807) ∧ (∃ out' : List Int, ∃ x' : Int, (s_l2Bits_JJ0 n code out' x') ∧ (s_l2Bits_mJ0 n code out' x' < s_l2Bits_mJ0 n code out x) ∧ (n = n) ∧ (code = code) ∧ (out.length = out'.length) ∧ ((x + 1) = x') ∧ (out = out'))))) ∧ ((decide (x < n)) = false → ((out.length = out.length) ∧ ((out : List Int) = (members (fun k => code.toNat.testBit k) n.toNat)))))))
theorem s_l2Bits_vc (n : Int) (code : Int) (hn : 0 ≤ n ∧ n ≤ 62) (hc : 0 ≤ code ∧ code ≤ 4611686018427387903)  : s_l2Bits_P n code := by
  unfold s_l2Bits_P
  refine ⟨?_, ?_⟩
  · refine ⟨([]), 0, ?_⟩
    refine ⟨?_, rfl, rfl, rfl, rfl, ?_⟩
    · refine ⟨?_, ?_, ?_⟩
      · first | omega | rfl | (intro hg; simp only [nrmT] at hg; omega) | (intro g1 g2; simp [g1, g2]; done) | (intro g1; simp at g1 ⊢; simp [g1]; done) | (simp only [nrmT] at *; omega) | (simp at * <;> omega) | (simp_all <;> omega) | (simp_all; done)
      · first | omega | rfl | (intro hg; simp only [nrmT] at hg; omega) | (intro g1 g2; simp [g1, g2]; done) | (intro g1; simp at g1 ⊢; simp [g1]; done) | (simp only [nrmT] at *; omega) | (simp at * <;> omega) | (simp_all <;> omega) | (simp_all; done)
      · first | omega | rfl | (intro hg; simp only [nrmT] at hg; omega) | (intro g1 g2; simp [g1, g2]; done) | (intro g1; simp at g1 ⊢; simp [g1]; done) | (simp only [nrmT] at *; omega) | (simp at * <;> omega) | (simp_all <;> omega) | (simp_all; done)
    · first | omega | rfl | (intro hg; simp only [nrmT] at hg; omega) | (intro g1 g2; simp [g1, g2]; done) | (intro g1; simp at g1 ⊢; simp [g1]; done) | (simp only [nrmT] at *; omega) | (simp at * <;> omega) | (simp_all <;> omega) | (simp_all; done)
  · intro out x hJ
    obtain ⟨h1, h2, h3⟩ := hJ
    refine ⟨?_, ?_⟩
    · intro b1
      try simp only [nrmT] at b1
      refine ⟨?_, ?_, ?_, ?_, ?_, ?_⟩
      · first | omega | rfl | (intro hg; simp only [nrmT] at hg; omega) | (intro g1 g2; simp [g1, g2]; done) | (intro g1; simp at g1 ⊢; simp [g1]; done) | (simp only [nrmT] at *; omega) | (simp at * <;> omega) | (simp_all <;> omega) | (simp_all; done)
      · first | omega | rfl | (intro hg; simp only [nrmT] at hg; omega) | (intro g1 g2; simp [g1, g2]; done) | (intro g1; simp at g1 ⊢; simp [g1]; done) | (simp only [nrmT] at *; omega) | (simp at * <;> omega) | (simp_all <;> omega) | (simp_all; done)
      · have h5 : 0 ≤ code / 2 ^ x.toNat := Int.ediv_nonneg hc.1 (Int.le_of_lt (Int.pow_pos (by omega)))
        have h6 : code / 2 ^ x.toNat ≤ code := Int.ediv_le_self _ hc.1
        omega
      · first | omega | rfl | (intro hg; simp only [nrmT] at hg; omega) | (intro g1 g2; simp [g1, g2]; done) | (intro g1; simp at g1 ⊢; simp [g1]; done) | (simp only [nrmT] at *; omega) | (simp at * <;> omega) | (simp_all <;> omega) | (simp_all; done)
      · intro b2
        try simp only [nrmT] at b2
        refine ⟨rfl, rfl, ?_, ?_, ?_⟩
        · rw [h3]; have := members_len_le (fun k => code.toNat.testBit k) x.toNat; omega
        · first | omega | rfl | (intro hg; simp only [nrmT] at hg; omega) | (intro g1 g2; simp [g1, g2]; done) | (intro g1; simp at g1 ⊢; simp [g1]; done) | (simp only [nrmT] at *; omega) | (simp at * <;> omega) | (simp_all <;> omega) | (simp_all; done)
        · refine ⟨(out ++ [x]), (x + 1), ?_⟩
          refine ⟨?_, ?_, rfl, rfl, ?_, rfl, rfl⟩
          · refine ⟨?_, ?_, ?_⟩
            · first | omega | rfl | (intro hg; simp only [nrmT] at hg; omega) | (intro g1 g2; simp [g1, g2]; done) | (intro g1; simp at g1 ⊢; simp [g1]; done) | (simp only [nrmT] at *; omega) | (simp at * <;> omega) | (simp_all <;> omega) | (simp_all; done)
            · first | omega | rfl | (intro hg; simp only [nrmT] at hg; omega) | (intro g1 g2; simp [g1, g2]; done) | (intro g1; simp at g1 ⊢; simp [g1]; done) | (simp only [nrmT] at *; omega) | (simp at * <;> omega) | (simp_all <;> omega) | (simp_all; done)
            · have hb := shr_bit (n := code.toNat) (k := x.toNat)
              rw [show ((code.toNat : Nat) : Int) = code by omega] at hb
              have ht : code.toNat.testBit x.toNat = true := by
                cases h : code.toNat.testBit x.toNat with
                | true => rfl
                | false => rw [h] at hb; simp at hb; simp at b2; omega
              rw [h3, show (x + 1).toNat = x.toNat + 1 by omega, members_succ, if_pos ht, show ((x.toNat : Nat) : Int) = x by omega]
          · first | (show _ < _; omega) | (simp only [s_l2Bits_mJ0]; omega) | (simp only [s_l2Bits_mJ0] at *; simp at *; omega)
          · simp
      · intro b3
        try simp only [nrmT] at b3
        refine ⟨?_, ?_⟩
        · first | omega | rfl | (intro hg; simp only [nrmT] at hg; omega) | (intro g1 g2; simp [g1, g2]; done) | (intro g1; simp at g1 ⊢; simp [g1]; done) | (simp only [nrmT] at *; omega) | (simp at * <;> omega) | (simp_all <;> omega) | (simp_all; done)
        · refine ⟨out, (x + 1), ?_⟩
          refine ⟨?_, ?_, rfl, rfl, rfl, rfl, rfl⟩
          · refine ⟨?_, ?_, ?_⟩
            · first | omega | rfl | (intro hg; simp only [nrmT] at hg; omega) | (intro g1 g2; simp [g1, g2]; done) | (intro g1; simp at g1 ⊢; simp [g1]; done) | (simp only [nrmT] at *; omega) | (simp at * <;> omega) | (simp_all <;> omega) | (simp_all; done)
            · first | omega | rfl | (intro hg; simp only [nrmT] at hg; omega) | (intro g1 g2; simp [g1, g2]; done) | (intro g1; simp at g1 ⊢; simp [g1]; done) | (simp only [nrmT] at *; omega) | (simp at * <;> omega) | (simp_all <;> omega) | (simp_all; done)
            · have hb := shr_bit (n := code.toNat) (k := x.toNat)
              rw [show ((code.toNat : Nat) : Int) = code by omega] at hb
              have ht : code.toNat.testBit x.toNat = false := by
                cases h : code.toNat.testBit x.toNat with
                | false => rfl
                | true => rw [h] at hb; simp at hb; simp at b3; omega
              rw [h3, show (x + 1).toNat = x.toNat + 1 by omega, members_succ, ht]; simp
          · first | (show _ < _; omega) | (simp only [s_l2Bits_mJ0]; omega) | (simp only [s_l2Bits_mJ0] at *; simp at *; omega)
    · intro b4
      try simp only [nrmT] at b4
      refine ⟨rfl, ?_⟩
      · rw [h3, show x.toNat = n.toNat by omega]
theorem s_l2Bits_pc (n : Int) (code : Int) (hn : 0 ≤ n ∧ n ≤ 62) (hc : 0 ≤ code ∧ code ≤ 4611686018427387903) : PC Try.prog 156 [.int .i64 n, .int .i64 code] (.one (.d (.sl (.ints (members (fun k => code.toNat.testBit k) n.toNat))))) :=
  pc_wf @Try.call156 fun _ => pc_by (by kernel_rfl) Try.func156 @Try.call156 (by kernel_rfl) s_l2Bits_C (s_l2Bits_A n code) (by kernel_rfl) (s_l2Bits_vc n code hn hc) (by kernel_rfl)
def s_l2Bits_orc : List D → Orc := orcN [none, none] fun ds => match ds with
  | [.int .i64 n, .int .i64 code] => some (.one (.d (.sl (.ints (members (fun k => code.toNat.testBit k) n.toNat)))))
  | _ => none
def i_isMedianCase_C (f : FuncId) (ds : List D) : Orc := bif Nat.beq f 81 then i_IsField_orc ds else bif Nat.beq f 82 then i_between_orc ds else .no
def i_isMedianCase_A (Open : List Int) (Dist : List (List Int)) (k : Int) : Ann := .none
def i_isMedianCase_P (Open : List Int) (Dist : List (List Int)) (k : Int) : Prop :=
  (PC Try.prog 81 [.agg [.sl (.ints Open), .sl (.rows Dist)]] (.one (.d (.bool (goodField Open Dist))))) ∧ ((goodField Open Dist) = true → (goodField Open Dist) = true) ∧ ((goodField Open Dist) = true → (goodField Open Dist) = true) ∧ ((goodField Open Dist) = true → (goodField Open Dist) = true) ∧ ((goodField Open Dist) = true → (goodField Open Dist) = true) ∧ ((goodField Open Dist) = true → PC Try.prog 82 [.int .i64 k, .int .i64 1, .int .i64 (Open.length : Int)] (.one (.d (.bool (inB k 1 (Open.length : Int)))))) ∧ (true = true) ∧ (((goodField Open Dist) = true → (goodField Open Dist) = true)) ∧ (((goodField Open Dist) = false → true = true)) ∧ (((cond (goodField Open Dist) (inB k 1 (Open.length : Int)) false) = (goodField Open Dist && inB k 1 (Open.length : Int))))
theorem i_isMedianCase_vc (Open : List Int) (Dist : List (List Int)) (k : Int)  (w_Open : (Open.length : Int) ≤ 9223372036854775807) (w_Dist : (Dist.length : Int) ≤ 9223372036854775807) (v_Dist : ∀ x9 ∈ Dist, (x9.length : Int) ≤ 9223372036854775807) : i_isMedianCase_P Open Dist k := by
  unfold i_isMedianCase_P
  refine ⟨i_IsField_pc Open Dist, id, id, id, id, fun _ => i_between_pc k 1 (Open.length : Int), rfl, id, fun _ => rfl, ?_⟩
  · cases goodField Open Dist <;> rfl
theorem i_isMedianCase_pc (Open : List Int) (Dist : List (List Int)) (k : Int)  : PC Try.prog 95 [.agg [.sl (.ints Open), .sl (.rows Dist)], .int .i64 k] (.one (.d (.bool (goodField Open Dist && inB k 1 (Open.length : Int))))) :=
  pc_wf @Try.call95 fun hw => pc_by (by kernel_rfl) Try.func95 @Try.call95 (by kernel_rfl) i_isMedianCase_C (i_isMedianCase_A Open Dist k) (by kernel_rfl) (i_isMedianCase_vc Open Dist k hw.1.1 hw.1.2.1.1 hw.1.2.1.2) (by kernel_rfl)
def i_isMedianCase_orc : List D → Orc := orcN [none, none] fun ds => match ds with
  | [.agg [.sl (.ints Open), .sl (.rows Dist)], .int .i64 k] => some (.one (.d (.bool (goodField Open Dist && inB k 1 (Open.length : Int)))))
  | _ => none
def s_l5Ask_C (f : FuncId) (ds : List D) : Orc := bif Nat.beq f 77 then s_l2Good_orc ds else bif Nat.beq f 78 then s_l1In_orc ds else .no
def s_l5Ask_A (Open : List Int) (Dist : List (List Int)) (k : Int) : Ann := .none
def s_l5Ask_P (Open : List Int) (Dist : List (List Int)) (k : Int) : Prop :=
  (PC Try.prog 77 [.agg [.sl (.ints Open), .sl (.rows Dist)]] (.one (.d (.bool (goodField Open Dist))))) ∧ ((goodField Open Dist) = true → (goodField Open Dist) = true) ∧ ((goodField Open Dist) = true → (goodField Open Dist) = true) ∧ ((goodField Open Dist) = true → (goodField Open Dist) = true) ∧ ((goodField Open Dist) = true → (goodField Open Dist) = true) ∧ ((goodField Open Dist) = true → PC Try.prog 78 [.int .i64 k, .int .i64 1, .int .i64 (Open.length : Int)] (.one (.d (.bool (inB k 1 (Open.length : Int)))))) ∧ (true = true) ∧ (((goodField Open Dist) = true → (goodField Open Dist) = true)) ∧ (((goodField Open Dist) = false → true = true)) ∧ (((cond (goodField Open Dist) (inB k 1 (Open.length : Int)) false) = (goodField Open Dist && inB k 1 (Open.length : Int))))
theorem s_l5Ask_vc (Open : List Int) (Dist : List (List Int)) (k : Int)  (w_Open : (Open.length : Int) ≤ 9223372036854775807) (w_Dist : (Dist.length : Int) ≤ 9223372036854775807) (v_Dist : ∀ x9 ∈ Dist, (x9.length : Int) ≤ 9223372036854775807) : s_l5Ask_P Open Dist k := by
  unfold s_l5Ask_P
  refine ⟨s_l2Good_pc Open Dist, id, id, id, id, fun _ => s_l1In_pc k 1 (Open.length : Int), rfl, id, fun _ => rfl, ?_⟩
  · cases goodField Open Dist <;> rfl
theorem s_l5Ask_pc (Open : List Int) (Dist : List (List Int)) (k : Int)  : PC Try.prog 107 [.agg [.sl (.ints Open), .sl (.rows Dist)], .int .i64 k] (.one (.d (.bool (goodField Open Dist && inB k 1 (Open.length : Int))))) :=
  pc_wf @Try.call107 fun hw => pc_by (by kernel_rfl) Try.func107 @Try.call107 (by kernel_rfl) s_l5Ask_C (s_l5Ask_A Open Dist k) (by kernel_rfl) (s_l5Ask_vc Open Dist k hw.1.1 hw.1.2.1.1 hw.1.2.1.2) (by kernel_rfl)
def s_l5Ask_orc : List D → Orc := orcN [none, none] fun ds => match ds with
  | [.agg [.sl (.ints Open), .sl (.rows Dist)], .int .i64 k] => some (.one (.d (.bool (goodField Open Dist && inB k 1 (Open.length : Int)))))
  | _ => none
def cmpI (a b : Int) : Int := if a < b then -1 else if a > b then 1 else 0
def cmpL : List Int → List Int → Int
  | [], [] => 0
  | [], _ :: _ => -1
  | _ :: _, [] => 1
  | x :: r, y :: s => if x < y then -1 else if x > y then 1 else cmpL r s
theorem cmpL_drop {xs ys : List Int} {i : Nat} (h : cmpL xs ys = cmpL (xs.drop i) (ys.drop i)) (h1 : i < xs.length) (h2 : i < ys.length) :
    cmpL xs ys = if xs.getD i 0 < ys.getD i 0 then -1 else if xs.getD i 0 > ys.getD i 0 then 1 else cmpL (xs.drop (i + 1)) (ys.drop (i + 1)) := by
  rw [h, List.drop_eq_getElem_cons h1, List.drop_eq_getElem_cons h2, getD_get h1, getD_get h2]
  rfl
theorem cmpL_short {xs ys : List Int} {i : Nat} (h : cmpL xs ys = cmpL (xs.drop i) (ys.drop i)) (h1 : i < xs.length) (h2 : ys.length ≤ i) : cmpL xs ys = 1 := by
  rw [h, List.drop_eq_getElem_cons h1, List.drop_eq_nil_of_le h2]
  rfl
theorem cmpL_end {xs ys : List Int} {i : Nat} (h : cmpL xs ys = cmpL (xs.drop i) (ys.drop i)) (h1 : xs.length ≤ i) (h2 : i ≤ ys.length) (h3 : i = xs.length) : cmpL xs ys = if xs.length < ys.length then -1 else 0 := by
  rw [h, List.drop_eq_nil_of_le h1]
  by_cases e : xs.length < ys.length
  · rw [if_pos e, List.drop_eq_getElem_cons (by omega)]
    rfl
  · rw [if_neg e, List.drop_eq_nil_of_le (by omega)]
    rfl
def cmp_isNaN_int__C (f : FuncId) (ds : List D) : Orc := .no
def cmp_isNaN_int__A (x : Int) : Ann := .none
def cmp_isNaN_int__P (x : Int) : Prop :=
  (((x != x) = false))
theorem cmp_isNaN_int__vc (x : Int)   : cmp_isNaN_int__P x := by
  unfold cmp_isNaN_int__P
  simp
theorem cmp_isNaN_int__pc (x : Int)  : PC Try.prog 196 [.int .i64 x] (.one (.d (.bool false))) :=
  pc_wf @Try.call196 fun _ => pc_by (by kernel_rfl) Try.func196 @Try.call196 (by kernel_rfl) cmp_isNaN_int__C (cmp_isNaN_int__A x) (by kernel_rfl) (cmp_isNaN_int__vc x) (by kernel_rfl)
def cmp_isNaN_int__orc : List D → Orc := orcN [none] fun ds => match ds with
  | [.int .i64 x] => some (.one (.d (.bool false)))
  | _ => none
def cmp_Compare_int__C (f : FuncId) (ds : List D) : Orc := bif Nat.beq f 196 then cmp_isNaN_int__orc ds else .no
def cmp_Compare_int__A (a : Int) (b : Int) : Ann := .two (.none) (.two (.none) (.two (.none) (.two (.two (.none) (.goF (.none))) (.two (.two (.none) (.goF (.none))) (.none)))))
def cmp_Compare_int__P (a : Int) (b : Int) : Prop :=
  (PC Try.prog 196 [.int .i64 a] (.one (.d (.bool false)))) ∧ (PC Try.prog 196 [.int .i64 b] (.one (.d (.bool false)))) ∧ (false = false) ∧ (false = false) ∧ (((decide (a < b)) = true → ((((-1) : Int) = (cmpI a b)))) ∧ ((decide (a < b)) = false → (((decide (a > b)) = true → (((1 : Int) = (cmpI a b)))) ∧ ((decide (a > b)) = false → (((0 : Int) = (cmpI a b)))))))
theorem cmp_Compare_int__vc (a : Int) (b : Int)   : cmp_Compare_int__P a b := by
  unfold cmp_Compare_int__P
  refine ⟨cmp_isNaN_int__pc a, cmp_isNaN_int__pc b, rfl, rfl, ?_, ?_⟩
  · intro b1
    try simp only [nrmT] at b1
    unfold cmpI; first | rw [if_pos (by omega)] | rw [if_neg (by omega), if_pos (by omega)] | rw [if_neg (by omega), if_neg (by omega)]
  · intro b2
    try simp only [nrmT] at b2
    refine ⟨?_, ?_⟩
    · intro b3
      try simp only [nrmT] at b3
      unfold cmpI; first | rw [if_pos (by omega)] | rw [if_neg (by omega), if_pos (by omega)] | rw [if_neg (by omega), if_neg (by omega)]
    · intro b4
      try simp only [nrmT] at b4
      unfold cmpI; first | rw [if_pos (by omega)] | rw [if_neg (by omega), if_pos (by omega)] | rw [if_neg (by omega), if_neg (by omega)]
theorem cmp_Compare_int__pc (a : Int) (b : Int)  : PC Try.prog 175 [.int .i64 a, .int .i64 b] (.one (.d (.int .i64 (cmpI a b)))) :=
  pc_wf @Try.call175 fun _ => pc_by (by kernel_rfl) Try.func175 @Try.call175 (by kernel_rfl) cmp_Compare_int__C (cmp_Compare_int__A a b) (by kernel_rfl) (cmp_Compare_int__vc a b) (by kernel_rfl)
def cmp_Compare_int__orc : List D → Orc := orcN [none, none] fun ds => match ds with
  | [.int .i64 a, .int .i64 b] => some (.one (.d (.int .i64 (cmpI a b))))
  | _ => none
abbrev slices_Compare_int_int__JJ0 (xs : List Int) (ys : List Int) (i : Int) : Prop := (0 ≤ i) ∧ (i ≤ (xs.length : Int)) ∧ (i ≤ (ys.length : Int)) ∧ (cmpL xs ys = cmpL (xs.drop i.toNat) (ys.drop i.toNat))
abbrev slices_Compare_int_int__mJ0 (xs : List Int) (ys : List Int) (i : Int) : Nat := (xs.length - i).toNat
def slices_Compare_int_int__C (f : FuncId) (ds : List D) : Orc := bif Nat.beq f 175 then cmp_Compare_int__orc ds else .no
def slices_Compare_int_int__A (xs : List Int) (ys : List Int) : Ann := .two (.none) (.two (.two (.none) (.loop (cut1 (fun (i : Int) => slices_Compare_int_int__JJ0 xs ys i) (fun (i : Int) => [(0, .d false (.sl (.ints xs))), (1, .d false (.sl (.ints ys))), (9, .d false (.sl (.ints xs))), (10, .d true (.int .i64 (xs.length : Int))), (11, .d true (.int .i64 i))]) (fun (i : Int) => [])) (fun g => slices_Compare_int_int__mJ0 xs ys g) (fun _ => .none))) (.none))
def slices_Compare_int_int__P (xs : List Int) (ys : List Int) : Prop :=
  ((∃ i' : Int, (slices_Compare_int_int__JJ0 xs ys i') ∧ (xs = xs) ∧ (ys = ys) ∧ (xs = xs) ∧ ((xs.length : Int) = (xs.length : Int)) ∧ ((0 : Int) = i')) ∧ (∀ i : Int, (slices_Compare_int_int__JJ0 xs ys i) → (((decide (i < (xs.length : Int))) = true → ((0 : Int) ≤ i) ∧ ((i : Int) < xs.length) ∧ (i.toNat < xs.length) ∧ (((decide (i ≥ (ys.length : Int))) = true → (((1 : Int) = (cmpL xs ys)))) ∧ ((decide (i ≥ (ys.length : Int))) = false → ((0 : Int) ≤ i) ∧ ((i : Int) < ys.length) ∧ (i.toNat < ys.length) ∧ (PC Try.prog 175 [.int .i64 (xs.getD i.toNat 0), .int .i64 (ys.getD i.toNat 0)] (.one (.d (.int .i64 (cmpI (xs.getD i.toNat 0) (ys.getD i.toNat 0)))))) ∧ ((((cmpI (xs.getD i.toNat 0) (ys.getD i.toNat 0)) != 0) = true → (((cmpI (xs.getD i.toNat 0) (ys.getD i.toNat 0)) = (cmpL xs ys)))) ∧ (((cmpI (xs.getD i.toNat 0) (ys.getD i.toNat 0)) != 0) = false → (-9223372036854775808 ≤ (i + 1) ∧ (i + 1) ≤ 9223372036854775807) ∧ (∃ i' : Int, (slices_Compare_int_int__JJ0 xs ys i') ∧ (slices_Compare_int_int__mJ0 xs ys i' < slices_Compare_int_int__mJ0 xs ys i) ∧ (xs = xs) ∧ (ys = ys) ∧ (xs = xs) ∧ ((xs.length : Int) = (xs.length : Int)) ∧ ((i + 1) = i'))))))) ∧ ((decide (i < (xs.length : Int))) = false → (((decide ((xs.length : Int) < (ys.length : Int))) = true → ((((-1) : Int) = (cmpL xs ys)))) ∧ ((decide ((xs.length : Int) < (ys.length : Int))) = false → (((0 : Int) = (cmpL xs ys)))))))))
theorem slices_Compare_int_int__vc (xs : List Int) (ys : List Int)  (w_xs : (xs.length : Int) ≤ 9223372036854775807) (w_ys : (ys.length : Int) ≤ 9223372036854775807) : slices_Compare_int_int__P xs ys := by
  unfold slices_Compare_int_int__P
  refine ⟨?_, ?_⟩
  · refine ⟨0, ?_⟩
    refine ⟨?_, rfl, rfl, rfl, rfl, rfl⟩
    · refine ⟨?_, ?_, ?_, ?_⟩
      · first | omega | rfl | (intro hg; simp only [nrmT] at hg; omega) | (intro g1 g2; simp [g1, g2]; done) | (intro g1; simp at g1 ⊢; simp [g1]; done) | (simp only [nrmT] at *; omega) | (simp at * <;> omega) | (simp_all <;> omega) | (simp_all; done)
      · first | omega | rfl | (intro hg; simp only [nrmT] at hg; omega) | (intro g1 g2; simp [g1, g2]; done) | (intro g1; simp at g1 ⊢; simp [g1]; done) | (simp only [nrmT] at *; omega) | (simp at * <;> omega) | (simp_all <;> omega) | (simp_all; done)
      · first | omega | rfl | (intro hg; simp only [nrmT] at hg; omega) | (intro g1 g2; simp [g1, g2]; done) | (intro g1; simp at g1 ⊢; simp [g1]; done) | (simp only [nrmT] at *; omega) | (simp at * <;> omega) | (simp_all <;> omega) | (simp_all; done)
      · rfl
  · intro i hJ
    obtain ⟨h1, h2, h2y, h3⟩ := hJ
    refine ⟨?_, ?_⟩
    · intro b1
      try simp only [nrmT] at b1
      refine ⟨?_, ?_, ?_, ?_, ?_⟩
      · first | omega | rfl | (intro hg; simp only [nrmT] at hg; omega) | (intro g1 g2; simp [g1, g2]; done) | (intro g1; simp at g1 ⊢; simp [g1]; done) | (simp only [nrmT] at *; omega) | (simp at * <;> omega) | (simp_all <;> omega) | (simp_all; done)
      · first | omega | rfl | (intro hg; simp only [nrmT] at hg; omega) | (intro g1 g2; simp [g1, g2]; done) | (intro g1; simp at g1 ⊢; simp [g1]; done) | (simp only [nrmT] at *; omega) | (simp at * <;> omega) | (simp_all <;> omega) | (simp_all; done)
      · first | omega | rfl | (intro hg; simp only [nrmT] at hg; omega) | (intro g1 g2; simp [g1, g2]; done) | (intro g1; simp at g1 ⊢; simp [g1]; done) | (simp only [nrmT] at *; omega) | (simp at * <;> omega) | (simp_all <;> omega) | (simp_all; done)
      · intro b2
        try simp only [nrmT] at b2
        exact (cmpL_short h3 (by omega) (by omega)).symm
      · intro b3
        try simp only [nrmT] at b3
        refine ⟨?_, ?_, ?_, cmp_Compare_int__pc (xs.getD i.toNat 0) (ys.getD i.toNat 0), ?_, ?_⟩
        · first | omega | rfl | (intro hg; simp only [nrmT] at hg; omega) | (intro g1 g2; simp [g1, g2]; done) | (intro g1; simp at g1 ⊢; simp [g1]; done) | (simp only [nrmT] at *; omega) | (simp at * <;> omega) | (simp_all <;> omega) | (simp_all; done)
        · first | omega | rfl | (intro hg; simp only [nrmT] at hg; omega) | (intro g1 g2; simp [g1, g2]; done) | (intro g1; simp at g1 ⊢; simp [g1]; done) | (simp only [nrmT] at *; omega) | (simp at * <;> omega) | (simp_all <;> omega) | (simp_all; done)
        · first | omega | rfl | (intro hg; simp only [nrmT] at hg; omega) | (intro g1 g2; simp [g1, g2]; done) | (intro g1; simp at g1 ⊢; simp [g1]; done) | (simp only [nrmT] at *; omega) | (simp at * <;> omega) | (simp_all <;> omega) | (simp_all; done)
        · intro b4
          try simp only [nrmT] at b4
          rw [cmpL_drop h3 (by omega) (by omega)]
          unfold cmpI at b4 ⊢
          by_cases h5 : xs.getD i.toNat 0 < ys.getD i.toNat 0
          · rw [if_pos h5, if_pos h5]
          · rw [if_neg h5] at b4 ⊢
            by_cases h6 : xs.getD i.toNat 0 > ys.getD i.toNat 0
            · rw [if_pos h6, if_neg h5, if_pos h6]
            · rw [if_neg h6] at b4; omega
        · intro b5
          try simp only [nrmT] at b5
          refine ⟨?_, ?_⟩
          · first | omega | rfl | (intro hg; simp only [nrmT] at hg; omega) | (intro g1 g2; simp [g1, g2]; done) | (intro g1; simp at g1 ⊢; simp [g1]; done) | (simp only [nrmT] at *; omega) | (simp at * <;> omega) | (simp_all <;> omega) | (simp_all; done)
          · refine ⟨(i + 1), ?_⟩
            refine ⟨?_, ?_, rfl, rfl, rfl, rfl, rfl⟩
            · refine ⟨?_, ?_, ?_, ?_⟩
              · first | omega | rfl | (intro hg; simp only [nrmT] at hg; omega) | (intro g1 g2; simp [g1, g2]; done) | (intro g1; simp at g1 ⊢; simp [g1]; done) | (simp only [nrmT] at *; omega) | (simp at * <;> omega) | (simp_all <;> omega) | (simp_all; done)
              · first | omega | rfl | (intro hg; simp only [nrmT] at hg; omega) | (intro g1 g2; simp [g1, g2]; done) | (intro g1; simp at g1 ⊢; simp [g1]; done) | (simp only [nrmT] at *; omega) | (simp at * <;> omega) | (simp_all <;> omega) | (simp_all; done)
              · first | omega | rfl | (intro hg; simp only [nrmT] at hg; omega) | (intro g1 g2; simp [g1, g2]; done) | (intro g1; simp at g1 ⊢; simp [g1]; done) | (simp only [nrmT] at *; omega) | (simp at * <;> omega) | (simp_all <;> omega) | (simp_all; done)
              · have h7 := cmpL_drop h3 (by omega) (by omega)
                unfold cmpI at b5
                rw [h7, show (i + 1).toNat = i.toNat + 1 by omega]
                by_cases h5 : xs.getD i.toNat 0 < ys.getD i.toNat 0
                · rw [if_pos h5] at b5; omega
                · rw [if_neg h5] at b5 ⊢
                  by_cases h6 : xs.getD i.toNat 0 > ys.getD i.toNat 0
                  · rw [if_pos h6] at b5; omega
                  · rw [if_neg h6]
            · first | (show _ < _; omega) | (simp only [slices_Compare_int_int__mJ0]; omega) | (simp only [slices_Compare_int_int__mJ0] at *; simp at *; omega)
    · intro b6
      try simp only [nrmT] at b6
      refine ⟨?_, ?_⟩
      · intro b7
        try simp only [nrmT] at b7
        rw [cmpL_end h3 (by omega) (by omega) (by omega), if_pos (by omega)]
      · intro b8
        try simp only [nrmT] at b8
        rw [cmpL_end h3 (by omega) (by omega) (by omega), if_neg (by omega)]
theorem slices_Compare_int_int__pc (xs : List Int) (ys : List Int)  : PC Try.prog 170 [.sl (.ints xs), .sl (.ints ys)] (.one (.d (.int .i64 (cmpL xs ys)))) :=
  pc_wf @Try.call170 fun hw => pc_by (by kernel_rfl) Try.func170 @Try.call170 (by kernel_rfl) slices_Compare_int_int__C (slices_Compare_int_int__A xs ys) (by kernel_rfl) (slices_Compare_int_int__vc xs ys hw.1 hw.2.1) (by kernel_rfl)
def slices_Compare_int_int__orc : List D → Orc := orcN [some .ints, some .ints] fun ds => match ds with
  | [.sl (.ints xs), .sl (.ints ys)] => some (.one (.d (.int .i64 (cmpL xs ys))))
  | _ => none
abbrev s_l5Less_JJ0 (xs : List Int) (ys : List Int) (i : Int) : Prop := (0 ≤ i) ∧ (i ≤ (xs.length : Int)) ∧ (cmpL xs ys = cmpL (xs.drop i.toNat) (ys.drop i.toNat))
abbrev s_l5Less_mJ0 (xs : List Int) (ys : List Int) (i : Int) : Nat := (xs.length - i).toNat
def s_l5Less_C (f : FuncId) (ds : List D) : Orc := .no
def s_l5Less_A (xs : List Int) (ys : List Int) : Ann := .two (.none) (.two (.two (.none) (.loop (cut1 (fun (i : Int) => s_l5Less_JJ0 xs ys i) (fun (i : Int) => [(0, .d false (.sl (.ints xs))), (1, .d false (.sl (.ints ys))), (5, .d true (.int .i64 i))]) (fun (i : Int) => [])) (fun g => s_l5Less_mJ0 xs ys g) (fun _ => .none))) (.none))
def s_l5Less_P (xs : List Int) (ys : List Int) : Prop :=
  ((∃ i' : Int, (s_l5Less_JJ0 xs ys i') ∧ (xs = xs) ∧ (ys = ys) ∧ ((0 : Int) = i')) ∧ (∀ i : Int, (s_l5Less_JJ0 xs ys i) → (((decide (i < (xs.length : Int))) = true → (true = true) ∧ ((0 : Int) ≤ i) ∧ ((i : Int) < xs.length) ∧ (i.toNat < xs.length) ∧ ((0 : Int) ≤ i) ∧ ((i : Int) < ys.length) ∧ (i.toNat < ys.length) ∧ ((((xs.getD i.toNat 0) != (ys.getD i.toNat 0)) = true → (true = true) ∧ ((0 : Int) ≤ i) ∧ ((i : Int) < xs.length) ∧ (i.toNat < xs.length) ∧ ((0 : Int) ≤ i) ∧ ((i : Int) < ys.length) ∧ (i.toNat < ys.length) ∧ (((decide ((xs.getD i.toNat 0) < (ys.getD i.toNat 0))) = (decide (cmpL xs ys < 0))))) ∧ (((xs.getD i.toNat 0) != (ys.getD i.toNat 0)) = false → (-9223372036854775808 ≤ (i + 1) ∧ (i + 1) ≤ 9223372036854775807) ∧ (∃ i' : Int, (s_l5Less_JJ0 xs ys i') ∧ (s_l5Less_mJ0 xs ys i' < s_l5Less_mJ0 xs ys i) ∧ (xs = xs) ∧ (ys = ys) ∧ ((i + 1) = i'))))) ∧ ((decide (i < (xs.length : Int))) = false → ((false = (decide (cmpL xs ys < 0))))))))
theorem s_l5Less_vc (xs : List Int) (ys : List Int) (hl : xs.length = ys.length) (w_xs : (xs.length : Int) ≤ 9223372036854775807) (w_ys : (ys.length : Int) ≤ 9223372036854775807) : s_l5Less_P xs ys := by
  unfold s_l5Less_P
  refine ⟨?_, ?_⟩
  · refine ⟨0, ?_⟩
    refine ⟨?_, rfl, rfl, rfl⟩
    · refine ⟨?_, ?_, ?_⟩
      · first | omega | rfl | (intro hg; simp only [nrmT] at hg; omega) | (intro g1 g2; simp [g1, g2]; done) | (intro g1; simp at g1 ⊢; simp [g1]; done) | (simp only [nrmT] at *; omega) | (simp at * <;> omega) | (simp_all <;> omega) | (simp_all; done)
      · first | omega | rfl | (intro hg; simp only [nrmT] at hg; omega) | (intro g1 g2; simp [g1, g2]; done) | (intro g1; simp at g1 ⊢; simp [g1]; done) | (simp only [nrmT] at *; omega) | (simp at * <;> omega) | (simp_all <;> omega) | (simp_all; done)
      · rfl
  · intro i hJ
    obtain ⟨h1, h2, h3⟩ := hJ
    refine ⟨?_, ?_⟩
    · intro b1
      try simp only [nrmT] at b1
      refine ⟨rfl, ?_, ?_, ?_, ?_, ?_, ?_, ?_, ?_⟩
      · first | omega | rfl | (intro hg; simp only [nrmT] at hg; omega) | (intro g1 g2; simp [g1, g2]; done) | (intro g1; simp at g1 ⊢; simp [g1]; done) | (simp only [nrmT] at *; omega) | (simp at * <;> omega) | (simp_all <;> omega) | (simp_all; done)
      · first | omega | rfl | (intro hg; simp only [nrmT] at hg; omega) | (intro g1 g2; simp [g1, g2]; done) | (intro g1; simp at g1 ⊢; simp [g1]; done) | (simp only [nrmT] at *; omega) | (simp at * <;> omega) | (simp_all <;> omega) | (simp_all; done)
      · first | omega | rfl | (intro hg; simp only [nrmT] at hg; omega) | (intro g1 g2; simp [g1, g2]; done) | (intro g1; simp at g1 ⊢; simp [g1]; done) | (simp only [nrmT] at *; omega) | (simp at * <;> omega) | (simp_all <;> omega) | (simp_all; done)
      · first | omega | rfl | (intro hg; simp only [nrmT] at hg; omega) | (intro g1 g2; simp [g1, g2]; done) | (intro g1; simp at g1 ⊢; simp [g1]; done) | (simp only [nrmT] at *; omega) | (simp at * <;> omega) | (simp_all <;> omega) | (simp_all; done)
      · first | omega | rfl | (intro hg; simp only [nrmT] at hg; omega) | (intro g1 g2; simp [g1, g2]; done) | (intro g1; simp at g1 ⊢; simp [g1]; done) | (simp only [nrmT] at *; omega) | (simp at * <;> omega) | (simp_all <;> omega) | (simp_all; done)
      · first | omega | rfl | (intro hg; simp only [nrmT] at hg; omega) | (intro g1 g2; simp [g1, g2]; done) | (intro g1; simp at g1 ⊢; simp [g1]; done) | (simp only [nrmT] at *; omega) | (simp at * <;> omega) | (simp_all <;> omega) | (simp_all; done)
      · intro b2
        try simp only [nrmT] at b2
        refine ⟨rfl, ?_, ?_, ?_, ?_, ?_, ?_, ?_⟩
        · first | omega | rfl | (intro hg; simp only [nrmT] at hg; omega) | (intro g1 g2; simp [g1, g2]; done) | (intro g1; simp at g1 ⊢; simp [g1]; done) | (simp only [nrmT] at *; omega) | (simp at * <;> omega) | (simp_all <;> omega) | (simp_all; done)
        · first | omega | rfl | (intro hg; simp only [nrmT] at hg; omega) | (intro g1 g2; simp [g1, g2]; done) | (intro g1; simp at g1 ⊢; simp [g1]; done) | (simp only [nrmT] at *; omega) | (simp at * <;> omega) | (simp_all <;> omega) | (simp_all; done)
        · first | omega | rfl | (intro hg; simp only [nrmT] at hg; omega) | (intro g1 g2; simp [g1, g2]; done) | (intro g1; simp at g1 ⊢; simp [g1]; done) | (simp only [nrmT] at *; omega) | (simp at * <;> omega) | (simp_all <;> omega) | (simp_all; done)
        · first | omega | rfl | (intro hg; simp only [nrmT] at hg; omega) | (intro g1 g2; simp [g1, g2]; done) | (intro g1; simp at g1 ⊢; simp [g1]; done) | (simp only [nrmT] at *; omega) | (simp at * <;> omega) | (simp_all <;> omega) | (simp_all; done)
        · first | omega | rfl | (intro hg; simp only [nrmT] at hg; omega) | (intro g1 g2; simp [g1, g2]; done) | (intro g1; simp at g1 ⊢; simp [g1]; done) | (simp only [nrmT] at *; omega) | (simp at * <;> omega) | (simp_all <;> omega) | (simp_all; done)
        · first | omega | rfl | (intro hg; simp only [nrmT] at hg; omega) | (intro g1 g2; simp [g1, g2]; done) | (intro g1; simp at g1 ⊢; simp [g1]; done) | (simp only [nrmT] at *; omega) | (simp at * <;> omega) | (simp_all <;> omega) | (simp_all; done)
        · rw [cmpL_drop h3 (by omega) (by omega)]
          by_cases h5 : xs.getD i.toNat 0 < ys.getD i.toNat 0
          · rw [if_pos h5, decide_eq_true h5]; rfl
          · rw [if_neg h5, if_pos (by omega), decide_eq_false h5]; rfl
      · intro b3
        try simp only [nrmT] at b3
        refine ⟨?_, ?_⟩
        · first | omega | rfl | (intro hg; simp only [nrmT] at hg; omega) | (intro g1 g2; simp [g1, g2]; done) | (intro g1; simp at g1 ⊢; simp [g1]; done) | (simp only [nrmT] at *; omega) | (simp at * <;> omega) | (simp_all <;> omega) | (simp_all; done)
        · refine ⟨(i + 1), ?_⟩
          refine ⟨?_, ?_, rfl, rfl, rfl⟩
          · refine ⟨?_, ?_, ?_⟩
            · first | omega | rfl | (intro hg; simp only [nrmT] at hg; omega) | (intro g1 g2; simp [g1, g2]; done) | (intro g1; simp at g1 ⊢; simp [g1]; done) | (simp only [nrmT] at *; omega) | (simp at * <;> omega) | (simp_all <;> omega) | (simp_all; done)
            · first | omega | rfl | (intro hg; simp only [nrmT] at hg; omega) | (intro g1 g2; simp [g1, g2]; done) | (intro g1; simp at g1 ⊢; simp [g1]; done) | (simp only [nrmT] at *; omega) | (simp at * <;> omega) | (simp_all <;> omega) | (simp_all; done)
            · rw [cmpL_drop h3 (by omega) (by omega), show (i + 1).toNat = i.toNat + 1 by omega, if_neg (by omega), if_neg (by omega)]
          · first | (show _ < _; omega) | (simp only [s_l5Less_mJ0]; omega) | (simp only [s_l5Less_mJ0] at *; simp at *; omega)
    · intro b4
      try simp only [nrmT] at b4
      rw [cmpL_end h3 (by omega) (by omega) (by omega), if_neg (by omega)]; rfl
theorem s_l5Less_pc (xs : List Int) (ys : List Int) (hl : xs.length = ys.length) : PC Try.prog 166 [.sl (.ints xs), .sl (.ints ys)] (.one (.d (.bool (decide (cmpL xs ys < 0))))) :=
  pc_wf @Try.call166 fun hw => pc_by (by kernel_rfl) Try.func166 @Try.call166 (by kernel_rfl) s_l5Less_C (s_l5Less_A xs ys) (by kernel_rfl) (s_l5Less_vc xs ys hl hw.1 hw.2.1) (by kernel_rfl)
def s_l5Less_orc : List D → Orc := orcN [some .ints, some .ints] fun ds => match ds with
  | [.sl (.ints xs), .sl (.ints ys)] => some (.one (.d (.bool (decide (cmpL xs ys < 0)))))
  | _ => none
def lst (n code : Nat) : List Int := members (fun k => code.testBit k) n
def lfF (n : Nat) (Dist : List (List Int)) (r : Int) (best : List Int) (code : Nat) : List Int :=
  if ((decide ((lst Dist.length code).length > best.length) || (decide ((lst Dist.length code).length = best.length) && decide (cmpL (lst Dist.length code) best < 0))) && farS n Dist (lst Dist.length code) r) = true then lst Dist.length code else best
def lfTo (n : Nat) (Dist : List (List Int)) (r : Int) (k : Nat) : List Int := foldTo (lfF n Dist r) [] k
theorem lfTo_succ (n : Nat) (Dist : List (List Int)) (r : Int) (k : Nat) : lfTo n Dist r (k + 1) = lfF n Dist r (lfTo n Dist r k) k := rfl
theorem lst_in {n code : Nat} : ∀ x ∈ lst n code, 0 ≤ x ∧ x < (n : Int) := fun x hx => by
  have := mem_members.1 hx
  omega
theorem lst_zero (n : Nat) : lst n 0 = [] := by
  unfold lst members
  rw [List.filter_eq_nil_iff.2 (by simp)]
  rfl
theorem lfTo_one (n : Nat) (Dist : List (List Int)) (r : Int) : lfTo n Dist r 1 = [] := by
  show lfF n Dist r [] 0 = []
  unfold lfF
  rw [lst_zero]
  simp
theorem lst_62 {n code : Nat} (hn : n ≤ 62) (h : code < 2 ^ n) : members (fun k => code.testBit k) 62 = lst n code :=
  members_stop (fun k hk => Nat.testBit_lt_two_pow (Nat.lt_of_lt_of_le h (Nat.pow_le_pow_right (by omega) hk))) 62 hn
theorem cnd4 : ∀ a b c d : Bool, cond (cond a true (cond b c false)) d false = ((a || (b && c)) && d) := by decide
theorem gt_nat (m n : Nat) : decide ((m : Int) > (n : Int)) = decide (m > n) := by
  rw [Bool.eq_iff_iff]; simp only [decide_eq_true_eq]; omega
theorem one_shl (n : Nat) : (1 : Int) * 2 ^ ((n : Int)).toNat = ((2 ^ n : Nat) : Int) := by
  rw [Int.toNat_natCast]; simp
abbrev s_l5Most_JJ0 (Open : List Int) (Dist : List (List Int)) (r : Int) (best : List Int) (code : Int) : Prop := (0 ≤ code) ∧ (code ≤ ((2 ^ Dist.length : Nat) : Int)) ∧ (best = lfTo Open.length Dist r code.toNat)
abbrev s_l5Most_mJ0 (Open : List Int) (Dist : List (List Int)) (r : Int) (best : List Int) (code : Int) : Nat := (2 ^ Dist.length - code.toNat)
def s_l5Most_C (f : FuncId) (ds : List D) : Orc := bif Nat.beq f 156 then s_l2Bits_orc ds else bif Nat.beq f 166 then s_l5Less_orc ds else bif Nat.beq f 167 then s_l5Far_orc ds else .no
def s_l5Most_A (Open : List Int) (Dist : List (List Int)) (r : Int) : Ann := .two (.none) (.two (.reg [(0, .frz)]) (.two (.two (.none) (.loop (cut2 (fun (best : List Int) (code : Int) => s_l5Most_JJ0 Open Dist r best code) (fun (best : List Int) (code : Int) => [(1, .d false (.int .i64 r)), (2, .ptr 2 0), (5, .d true (.sl (.ints best))), (6, .d true (.int .i64 code))]) (fun (best : List Int) (code : Int) => [(2, .box 37 [.d false (.sl (.ints Open)), .d false (.sl (.rows Dist))])])) (fun g => s_l5Most_mJ0 Open Dist r g.1 g.2) (fun _ => .none))) (.none)))
def s_l5Most_P (Open : List Int) (Dist : List (List Int)) (r : Int) : Prop :=
  ((∃ best' : List Int, ∃ code' : Int, (s_l5Most_JJ0 Open Dist r best' code') ∧ (r = r) ∧ ([] = best') ∧ ((0 : Int) = code') ∧ (Open = Open) ∧ (Dist = Dist)) ∧ (∀ best : List Int, ∀ code : Int, (s_l5Most_JJ0 Open Dist r best code) → ((0 : Int) ≤ 1) ∧ ((0 : Int) ≤ (Dist.length : Int)) ∧ ((0 : Int) ≤ ((1 : Int) * 2 ^ ((Dist.length : Int).toNat)) ∧ (((1 : Int) * 2 ^ ((Dist.length : Int).toNat)) : Int) ≤ 9223372036854775807) ∧ (((decide (code < ((1 : Int) * 2 ^ ((Dist.length : Int).toNat)))) = true → (PC Try.prog 156 [.int .i64 (Dist.length : Int), .int .i64 code] (.one (.d (.sl (.ints (members (fun k => code.toNat.testBit k) (Dist.length : Int).toNat)))))) ∧ ((!(decide ((((members (fun k => code.toNat.testBit k) (Dist.length : Int).toNat).length) : Int) > (best.length : Int)))) = true → (!(decide ((((members (fun k => code.toNat.testBit k) (Dist.length : Int).toNat).length) : Int) > (best.length : Int)))) = true) ∧ ((!(decide ((((members (fun k => code.toNat.testBit k) (Dist.length : Int).toNat).length) : Int) > (best.length : Int)))) = true → (!(decide ((((members (fun k => code.toNat.testBit k) (Dist.length : Int).toNat).length) : Int) > (best.length : Int)))) = true) ∧ ((!(decide ((((members (fun k => code.toNat.testBit k) (Dist.length : Int).toNat).length) : Int) > (best.length : Int)))) = true → (!(decide ((((members (fun k => code.toNat.testBit k) (Dist.length : Int).toNat).length) : Int) > (best.length : Int)))) = true) ∧ ((!(decide ((((members (fun k => code.toNat.testBit k) (Dist.length : Int).toNat).length) : Int) > (best.length : Int)))) = true → (!(decide ((((members (fun k => code.toNat.testBit k) (Dist.length : Int).toNat).length) : Int) > (best.length : Int)))) = true) ∧ ((!(decide ((((members (fun k => code.toNat.testBit k) (Dist.length : Int).toNat).length) : Int) > (best.length : Int)))) = true → (!(decide ((((members (fun k => code.toNat.testBit k) (Dist.length : Int).toNat).length) : Int) > (best.length : Int)))) = true) ∧ (((!(decide ((((members (fun k => code.toNat.testBit k) (Dist.length : Int).toNat).length) : Int) > (best.length : Int)))) && ((((members (fun k => code.toNat.testBit k) (Dist.length : Int).toNat).length) : Int) == (best.length : Int))) = true → ((!(decide ((((members (fun k => code.toNat.testBit k) (Dist.length : Int).toNat).length) : Int) > (best.length : Int)))) && ((((members (fun k => code.toNat.testBit k) (Dist.length : Int).toNat).length) : Int) == (best.length : Int))) = true) ∧ (((!(decide ((((members (fun k => code.toNat.testBit k) (Dist.length : Int).toNat).length) : Int) > (best.length : Int)))) && ((((members (fun k => code.toNat.testBit k) (Dist.length : Int).toNat).length) : Int) == (best.length : Int))) = true → ((!(decide ((((members (fun k => code.toNat.testBit k) (Dist.length : Int).toNat).length) : Int) > (best.length : Int)))) && ((((members (fun k => code.toNat.testBit k) (Dist.length : Int).toNat).length) : Int) == (best.length : Int))) = true) ∧ (((!(decide ((((members (fun k => code.toNat.testBit k) (Dist.length : Int).toNat).length) : Int) > (best.length : Int)))) && ((((members (fun k => code.toNat.testBit k) (Dist.length : Int).toNat).length) : Int) == (best.length : Int))) = true → PC Try.prog 166 [.sl (.ints (members (fun k => code.toNat.testBit k) (Dist.length : Int).toNat)), .sl (.ints best)] (.one (.d (.bool (decide (cmpL (members (fun k => code.toNat.testBit k) (Dist.length : Int).toNat) best < 0)))))) ∧ (((!(decide ((((members (fun k => code.toNat.testBit k) (Dist.length : Int).toNat).length) : Int) > (best.length : Int)))) = true → (!(decide ((((members (fun k => code.toNat.testBit k) (Dist.length : Int).toNat).length) : Int) > (best.length : Int)))) = true)) ∧ (((!(decide ((((members (fun k => code.toNat.testBit k) (Dist.length : Int).toNat).length) : Int) > (best.length : Int)))) = true → ((((members (fun k => code.toNat.testBit k) (Dist.length : Int).toNat).length) : Int) == (best.length : Int)) = true → ((!(decide ((((members (fun k => code.toNat.testBit k) (Dist.length : Int).toNat).length) : Int) > (best.length : Int)))) && ((((members (fun k => code.toNat.testBit k) (Dist.length : Int).toNat).length) : Int) == (best.length : Int))) = true)) ∧ (((!(decide ((((members (fun k => code.toNat.testBit k) (Dist.length : Int).toNat).length) : Int) > (best.length : Int)))) = true → ((((members (fun k => code.toNat.testBit k) (Dist.length : Int).toNat).length) : Int) == (best.length : Int)) = false → true = true)) ∧ (true = true) ∧ (((decide ((((members (fun k => code.toNat.testBit k) (Dist.length : Int).toNat).length) : Int) > (best.length : Int))) = true → true = true)) ∧ (((decide ((((members (fun k => code.toNat.testBit k) (Dist.length : Int).toNat).length) : Int) > (best.length : Int))) = false → (!(decide ((((members (fun k => code.toNat.testBit k) (Dist.length : Int).toNat).length) : Int) > (best.length : Int)))) = true)) ∧ ((cond (decide ((((members (fun k => code.toNat.testBit k) (Dist.length : Int).toNat).length) : Int) > (best.length : Int))) true (cond ((((members (fun k => code.toNat.testBit k) (Dist.length : Int).toNat).length) : Int) == (best.length : Int)) (decide (cmpL (members (fun k => code.toNat.testBit k) (Dist.length : Int).toNat) best < 0)) false)) = true → (cond (decide ((((members (fun k => code.toNat.testBit k) (Dist.length : Int).toNat).length) : Int) > (best.length : Int))) true (cond ((((members (fun k => code.toNat.testBit k) (Dist.length : Int).toNat).length) : Int) == (best.length : Int)) (decide (cmpL (members (fun k => code.toNat.testBit k) (Dist.length : Int).toNat) best < 0)) false)) = true) ∧ ((cond (decide ((((members (fun k => code.toNat.testBit k) (Dist.length : Int).toNat).length) : Int) > (best.length : Int))) true (cond ((((members (fun k => code.toNat.testBit k) (Dist.length : Int).toNat).length) : Int) == (best.length : Int)) (decide (cmpL (members (fun k => code.toNat.testBit k) (Dist.length : Int).toNat) best < 0)) false)) = true → (cond (decide ((((members (fun k => code.toNat.testBit k) (Dist.length : Int).toNat).length) : Int) > (best.length : Int))) true (cond ((((members (fun k => code.toNat.testBit k) (Dist.length : Int).toNat).length) : Int) == (best.length : Int)) (decide (cmpL (members (fun k => code.toNat.testBit k) (Dist.length : Int).toNat) best < 0)) false)) = true) ∧ ((cond (decide ((((members (fun k => code.toNat.testBit k) (Dist.length : Int).toNat).length) : Int) > (best.length : Int))) true (cond ((((members (fun k => code.toNat.testBit k) (Dist.length : Int).toNat).length) : Int) == (best.length : Int)) (decide (cmpL (members (fun k => code.toNat.testBit k) (Dist.length : Int).toNat) best < 0)) false)) = true → (cond (decide ((((members (fun k => code.toNat.testBit k) (Dist.length : Int).toNat).length) : Int) > (best.length : Int))) true (cond ((((members (fun k => code.toNat.testBit k) (Dist.length : Int).toNat).length) : Int) == (best.length : Int)) (decide (cmpL (members (fun k => code.toNat.testBit k) (Dist.length : Int).toNat) best < 0)) false)) = true) ∧ ((cond (decide ((((members (fun k => code.toNat.testBit k) (Dist.length : Int).toNat).length) : Int) > (best.length : Int))) true (cond ((((members (fun k => code.toNat.testBit k) (Dist.length : Int).toNat).length) : Int) == (best.length : Int)) (decide (cmpL (members (fun k => code.toNat.testBit k) (Dist.length : Int).toNat) best < 0)) false)) = true → PC Try.prog 167 [.agg [.sl (.ints Open), .sl (.rows Dist)], .sl (.ints (members (fun k => code.toNat.testBit k) (Dist.length : Int).toNat)), .int .i64 r] (.one (.d (.bool (farS Open.length Dist (members (fun k => code.toNat.testBit k) (Dist.length : Int).toNat) r))))) ∧ (true = true) ∧ (((cond (decide ((((members (fun k => code.toNat.testBit k) (Dist.length : Int).toNat).length) : Int) > (best.length : Int))) true (cond ((((members (fun k => code.toNat.testBit k) (Dist.length : Int).toNat).length) : Int) == (best.length : Int)) (decide (cmpL (members (fun k => code.toNat.testBit k) (Dist.length : Int).toNat) best < 0)) false)) = true → (cond (decide ((((members (fun k => code.toNat.testBit k) (Dist.length : Int).toNat).length) : Int) > (best.length : Int))) true (cond ((((members (fun k => code.toNat.testBit k) (Dist.length : Int).toNat).length) : Int) == (best.length : Int)) (decide (cmpL (members (fun k => code.toNat.testBit k) (Dist.length : Int).toNat) best < 0)) false)) = true)) ∧ (((cond (decide ((((members (fun k => code.toNat.testBit k) (Dist.length : Int).toNat).length) : Int) > (best.length : Int))) true (cond ((((members (fun k => code.toNat.testBit k) (Dist.length : Int).toNat).length) : Int) == (best.length : Int)) (decide (cmpL (members (fun k => code.toNat.testBit k) (Dist.length : Int).toNat) best < 0)) false)) = false → true = true)) ∧ (((cond (cond (decide ((((members (fun k => code.toNat.testBit k) (Dist.length : Int).toNat).length) : Int) > (best.length : Int))) true (cond ((((members (fun k => code.toNat.testBit k) (Dist.length : Int).toNat).length) : Int) == (best.length : Int)) (decide (cmpL (members (fun k => code.toNat.testBit k) (Dist.length : Int).toNat) best < 0)) false)) (farS Open.length Dist (members (fun k => code.toNat.testBit k) (Dist.length : Int).toNat) r) false) = true → (-9223372036854775808 ≤ (code + 1) ∧ (code + 1) ≤ 9223372036854775807) ∧ (∃ best' : List Int, ∃ code' : Int, (s_l5Most_JJ0 Open Dist r best' code') ∧ (s_l5Most_mJ0 Open Dist r best' code' < s_l5Most_mJ0 Open Dist r best code) ∧ (r = r) ∧ ((members (fun k => code.toNat.testBit k) (Dist.length : Int).toNat) = best') ∧ ((code + 1) = code') ∧ (Open = Open) ∧ (Dist = Dist))) ∧ ((cond (cond (decide ((((members (fun k => code.toNat.testBit k) (Dist.length : Int).toNat).length) : Int) > (best.length : Int))) true (cond ((((members (fun k => code.toNat.testBit k) (Dist.length : Int).toNat).length) : Int) == (best.length : Int)) (decide (cmpL (members (fun k => code.toNat.testBit k) (Dist.length : Int).toNat) best < 0)) false)) (farS Open.length Dist (members (fun k => code.toNat.testBit k) (Dist.length : Int).toNat) r) false) = false → (-9223372036854775808 ≤ (code + 1) ∧ (code + 1) ≤ 9223372036854775807) ∧ (∃ best' : List Int, ∃ code' : Int, (s_l5Most_JJ0 Open Dist r best' code') ∧ (s_l5Most_mJ0 Open Dist r best' code' < s_l5Most_mJ0 Open Dist r best code) ∧ (r = r) ∧ (best = best') ∧ ((code + 1) = code') ∧ (Open = Open) ∧ (Dist = Dist))))) ∧ ((decide (code < ((1 : Int) * 2 ^ ((Dist.length : Int).toNat)))) = false → (((best : List Int) = (lfTo Open.length Dist r (2 ^ Dist.length))))))))
theorem s_l5Most_vc (Open : List Int) (Dist : List (List Int)) (r : Int) (hf : goodField Open Dist = true) (w_Open : (Open.length : Int) ≤ 9223372036854775807) (w_Dist : (Dist.length : Int) ≤ 9223372036854775807) (v_Dist : ∀ x9 ∈ Dist, (x9.length : Int) ≤ 9223372036854775807) : s_l5Most_P Open Dist r := by
  unfold s_l5Most_P
  obtain ⟨g1, g2, g3⟩ := gf_open hf
  have p7 := pow8 (n := Dist.length) (by omega)
  have pp := Nat.two_pow_pos Dist.length
  have e0 := one_shl Dist.length
  refine ⟨?_, ?_⟩
  · refine ⟨([]), 0, ?_⟩
    refine ⟨?_, rfl, ?_, rfl, rfl, rfl⟩
    · refine ⟨?_, ?_, ?_⟩
      · first | omega | rfl | (intro hg; simp only [nrmT] at hg; omega) | (intro g1 g2; simp [g1, g2]; done) | (intro g1; simp at g1 ⊢; simp [g1]; done) | (simp only [nrmT] at *; omega) | (simp at * <;> omega) | (simp_all <;> omega) | (simp_all; done)
      · first | omega | rfl | (intro hg; simp only [nrmT] at hg; omega) | (intro g1 g2; simp [g1, g2]; done) | (intro g1; simp at g1 ⊢; simp [g1]; done) | (simp only [nrmT] at *; omega) | (simp at * <;> omega) | (simp_all <;> omega) | (simp_all; done)
      · first | omega | rfl | (intro hg; simp only [nrmT] at hg; omega) | (intro g1 g2; simp [g1, g2]; done) | (intro g1; simp at g1 ⊢; simp [g1]; done) | (simp only [nrmT] at *; omega) | (simp at * <;> omega) | (simp_all <;> omega) | (simp_all; done)
    · first | omega | rfl | (intro hg; simp only [nrmT] at hg; omega) | (intro g1 g2; simp [g1, g2]; done) | (intro g1; simp at g1 ⊢; simp [g1]; done) | (simp only [nrmT] at *; omega) | (simp at * <;> omega) | (simp_all <;> omega) | (simp_all; done)
  · intro best code hJ
    obtain ⟨h1, h2, h3⟩ := hJ
    refine ⟨?_, ?_, ?_, ?_, ?_⟩
    · first | omega | rfl | (intro hg; simp only [nrmT] at hg; omega) | (intro g1 g2; simp [g1, g2]; done) | (intro g1; simp at g1 ⊢; simp [g1]; done) | (simp only [nrmT] at *; omega) | (simp at * <;> omega) | (simp_all <;> omega) | (simp_all; done)
    · first | omega | rfl | (intro hg; simp only [nrmT] at hg; omega) | (intro g1 g2; simp [g1, g2]; done) | (intro g1; simp at g1 ⊢; simp [g1]; done) | (simp only [nrmT] at *; omega) | (simp at * <;> omega) | (simp_all <;> omega) | (simp_all; done)
    · rw [e0]
      generalize 2 ^ Dist.length = M at *
      omega
    · intro b1
      try simp only [nrmT] at b1
      refine ⟨?_, id, id, id, id, id, id, id, ?_, id, ?_, fun _ _ => rfl, rfl, fun _ => rfl, ?_, id, id, id, ?_, rfl, id, fun _ => rfl, ?_, ?_⟩
      · refine s_l2Bits_pc (Dist.length : Int) code ?_ ?_
        · first | omega | rfl | (intro hg; simp only [nrmT] at hg; omega) | (intro g1 g2; simp [g1, g2]; done) | (intro g1; simp at g1 ⊢; simp [g1]; done) | (simp only [nrmT] at *; omega) | (simp at * <;> omega) | (simp_all <;> omega) | (simp_all; done)
        · rw [e0] at b1
          generalize 2 ^ Dist.length = M at *
          omega
      · intro hg
        refine s_l5Less_pc (members (fun k => code.toNat.testBit k) (Dist.length : Int).toNat) best ?_
        · simp only [Bool.and_eq_true, beq_iff_eq] at hg; omega
      · intro g1 g2; rw [g1, g2]; rfl
      · intro h; rw [h]; rfl
      · intro hg
        refine s_l5Far_pc Open Dist (members (fun k => code.toNat.testBit k) (Dist.length : Int).toNat) r ?_ ?_
        · exact hf
        · have el : members (fun k => code.toNat.testBit k) (Dist.length : Int).toNat = lst Dist.length code.toNat := by rw [Int.toNat_natCast]; rfl
          rw [el]; exact lst_in
      · intro b2
        refine ⟨?_, ?_⟩
        · rw [e0] at b1
          generalize 2 ^ Dist.length = M at *
          omega
        · refine ⟨(members (fun k => code.toNat.testBit k) (Dist.length : Int).toNat), (code + 1), ?_⟩
          refine ⟨?_, ?_, rfl, rfl, rfl, rfl, rfl⟩
          · refine ⟨?_, ?_, ?_⟩
            · first | omega | rfl | (intro hg; simp only [nrmT] at hg; omega) | (intro g1 g2; simp [g1, g2]; done) | (intro g1; simp at g1 ⊢; simp [g1]; done) | (simp only [nrmT] at *; omega) | (simp at * <;> omega) | (simp_all <;> omega) | (simp_all; done)
            · rw [e0] at b1
              generalize 2 ^ Dist.length = M at *
              omega
            · have el : members (fun k => code.toNat.testBit k) (Dist.length : Int).toNat = lst Dist.length code.toNat := by rw [Int.toNat_natCast]; rfl
              rw [el] at b2 ⊢
              rw [cnd4, gt_nat, len_beq] at b2
              rw [show (code + 1).toNat = code.toNat + 1 by omega, lfTo_succ, ← h3]
              unfold lfF
              rw [if_pos b2]
          · rw [e0] at b1
            show 2 ^ Dist.length - (code + 1).toNat < 2 ^ Dist.length - code.toNat
            generalize 2 ^ Dist.length = M at *
            omega
      · intro b3
        refine ⟨?_, ?_⟩
        · rw [e0] at b1
          generalize 2 ^ Dist.length = M at *
          omega
        · refine ⟨best, (code + 1), ?_⟩
          refine ⟨?_, ?_, rfl, rfl, rfl, rfl, rfl⟩
          · refine ⟨?_, ?_, ?_⟩
            · first | omega | rfl | (intro hg; simp only [nrmT] at hg; omega) | (intro g1 g2; simp [g1, g2]; done) | (intro g1; simp at g1 ⊢; simp [g1]; done) | (simp only [nrmT] at *; omega) | (simp at * <;> omega) | (simp_all <;> omega) | (simp_all; done)
            · rw [e0] at b1
              generalize 2 ^ Dist.length = M at *
              omega
            · have el : members (fun k => code.toNat.testBit k) (Dist.length : Int).toNat = lst Dist.length code.toNat := by rw [Int.toNat_natCast]; rfl
              rw [el] at b3
              rw [cnd4, gt_nat, len_beq] at b3
              rw [show (code + 1).toNat = code.toNat + 1 by omega, lfTo_succ, ← h3]
              unfold lfF
              rw [if_neg (by rw [b3]; decide)]
          · rw [e0] at b1
            show 2 ^ Dist.length - (code + 1).toNat < 2 ^ Dist.length - code.toNat
            generalize 2 ^ Dist.length = M at *
            omega
    · intro b4
      try simp only [nrmT] at b4
      have ec : code.toNat = 2 ^ Dist.length := by rw [e0] at b4; omega
      rw [h3, ec]
theorem s_l5Most_pc (Open : List Int) (Dist : List (List Int)) (r : Int) (hf : goodField Open Dist = true) : PC Try.prog 117 [.agg [.sl (.ints Open), .sl (.rows Dist)], .int .i64 r] (.one (.d (.sl (.ints (lfTo Open.length Dist r (2 ^ Dist.length)))))) :=
  pc_wf @Try.call117 fun hw => pc_by (by kernel_rfl) Try.func117 @Try.call117 (by kernel_rfl) s_l5Most_C (s_l5Most_A Open Dist r) (by kernel_rfl) (s_l5Most_vc Open Dist r hf hw.1.1 hw.1.2.1.1 hw.1.2.1.2) (by kernel_rfl)
def s_l5Most_orc : List D → Orc := orcN [none, none] fun ds => match ds with
  | [.agg [.sl (.ints Open), .sl (.rows Dist)], .int .i64 r] => some (.one (.d (.sl (.ints (lfTo Open.length Dist r (2 ^ Dist.length))))))
  | _ => none
abbrev i_Field_largestFar_d_JJ0 (Open : List Int) (Dist : List (List Int)) (r : Int) (best : List Int) (b : Int) : Prop := (1 ≤ b) ∧ (b ≤ ((2 ^ Dist.length : Nat) : Int)) ∧ (best = lfTo Open.length Dist r b.toNat)
abbrev i_Field_largestFar_d_mJ0 (Open : List Int) (Dist : List (List Int)) (r : Int) (best : List Int) (b : Int) : Nat := (2 ^ Dist.length - b.toNat)
def i_Field_largestFar_d_C (f : FuncId) (ds : List D) : Orc := bif Nat.beq f 159 then i_bag_list_orc ds else bif Nat.beq f 170 then slices_Compare_int_int__orc ds else bif Nat.beq f 171 then i_Field_areFar_orc ds else .no
def i_Field_largestFar_d_A (Open : List Int) (Dist : List (List Int)) (r : Int) : Ann := .two (.none) (.two (.none) (.two (.two (.none) (.loop (cut2 (fun (best : List Int) (b : Int) => i_Field_largestFar_d_JJ0 Open Dist r best b) (fun (best : List Int) (b : Int) => [(1, .d false (.int .i64 r)), (2, .ptr 2 0), (5, .own 1000000 best.length), (6, .d true (.int .u64 b))]) (fun (best : List Int) (b : Int) => [(1000000, .arr true 3 (.ints best)), (2, .box 37 [.d false (.sl (.ints Open)), .d false (.sl (.rows Dist))])])) (fun g => i_Field_largestFar_d_mJ0 Open Dist r g.1 g.2) (fun _ => .none))) (.none)))
def i_Field_largestFar_d_P (Open : List Int) (Dist : List (List Int)) (r : Int) : Prop :=
  ((∃ best' : List Int, ∃ b' : Int, (i_Field_largestFar_d_JJ0 Open Dist r best' b') ∧ (r = r) ∧ ((0 : Nat) = best'.length) ∧ ((1 : Int) = b') ∧ ([] = best') ∧ (Open = Open) ∧ (Dist = Dist)) ∧ (∀ best : List Int, ∀ b : Int, (i_Field_largestFar_d_JJ0 Open Dist r best b) → ((0 : Int) ≤ 1) ∧ ((0 : Int) ≤ (Dist.length : Int)) ∧ ((0 : Int) ≤ ((1 : Int) * 2 ^ ((Dist.length : Int).toNat)) ∧ (((1 : Int) * 2 ^ ((Dist.length : Int).toNat)) : Int) ≤ 18446744073709551615) ∧ (((decide (b < ((1 : Int) * 2 ^ ((Dist.length : Int).toNat)))) = true → (PC Try.prog 159 [.int .u64 b] (.one (.own 3 (.ints (members (fun k => b.toNat.testBit k) 62))))) ∧ ((!(decide ((((members (fun k => b.toNat.testBit k) 62).length) : Int) > (best.length : Int)))) = true → (!(decide ((((members (fun k => b.toNat.testBit k) 62).length) : Int) > (best.length : Int)))) = true) ∧ ((!(decide ((((members (fun k => b.toNat.testBit k) 62).length) : Int) > (best.length : Int)))) = true → (!(decide ((((members (fun k => b.toNat.testBit k) 62).length) : Int) > (best.length : Int)))) = true) ∧ ((!(decide ((((members (fun k => b.toNat.testBit k) 62).length) : Int) > (best.length : Int)))) = true → (!(decide ((((members (fun k => b.toNat.testBit k) 62).length) : Int) > (best.length : Int)))) = true) ∧ ((!(decide ((((members (fun k => b.toNat.testBit k) 62).length) : Int) > (best.length : Int)))) = true → (!(decide ((((members (fun k => b.toNat.testBit k) 62).length) : Int) > (best.length : Int)))) = true) ∧ ((!(decide ((((members (fun k => b.toNat.testBit k) 62).length) : Int) > (best.length : Int)))) = true → (!(decide ((((members (fun k => b.toNat.testBit k) 62).length) : Int) > (best.length : Int)))) = true) ∧ (((!(decide ((((members (fun k => b.toNat.testBit k) 62).length) : Int) > (best.length : Int)))) && ((((members (fun k => b.toNat.testBit k) 62).length) : Int) == (best.length : Int))) = true → ((!(decide ((((members (fun k => b.toNat.testBit k) 62).length) : Int) > (best.length : Int)))) && ((((members (fun k => b.toNat.testBit k) 62).length) : Int) == (best.length : Int))) = true) ∧ (((!(decide ((((members (fun k => b.toNat.testBit k) 62).length) : Int) > (best.length : Int)))) && ((((members (fun k => b.toNat.testBit k) 62).length) : Int) == (best.length : Int))) = true → ((!(decide ((((members (fun k => b.toNat.testBit k) 62).length) : Int) > (best.length : Int)))) && ((((members (fun k => b.toNat.testBit k) 62).length) : Int) == (best.length : Int))) = true) ∧ ((((!(decide ((((members (fun k => b.toNat.testBit k) 62).length) : Int) > (best.length : Int)))) && ((((members (fun k => b.toNat.testBit k) 62).length) : Int) == (best.length : Int))) = true → (members (fun k => b.toNat.testBit k) 62).length = (members (fun k => b.toNat.testBit k) 62).length)) ∧ ((((!(decide ((((members (fun k => b.toNat.testBit k) 62).length) : Int) > (best.length : Int)))) && ((((members (fun k => b.toNat.testBit k) 62).length) : Int) == (best.length : Int))) = true → best.length = best.length)) ∧ (((!(decide ((((members (fun k => b.toNat.testBit k) 62).length) : Int) > (best.length : Int)))) && ((((members (fun k => b.toNat.testBit k) 62).length) : Int) == (best.length : Int))) = true → PC Try.prog 170 [.sl (.ints (members (fun k => b.toNat.testBit k) 62)), .sl (.ints best)] (.one (.d (.int .i64 (cmpL (members (fun k => b.toNat.testBit k) 62) best))))) ∧ (((!(decide ((((members (fun k => b.toNat.testBit k) 62).length) : Int) > (best.length : Int)))) && ((((members (fun k => b.toNat.testBit k) 62).length) : Int) == (best.length : Int))) = true → ((!(decide ((((members (fun k => b.toNat.testBit k) 62).length) : Int) > (best.length : Int)))) && ((((members (fun k => b.toNat.testBit k) 62).length) : Int) == (best.length : Int))) = true) ∧ (((!(decide ((((members (fun k => b.toNat.testBit k) 62).length) : Int) > (best.length : Int)))) = true → (!(decide ((((members (fun k => b.toNat.testBit k) 62).length) : Int) > (best.length : Int)))) = true)) ∧ (((!(decide ((((members (fun k => b.toNat.testBit k) 62).length) : Int) > (best.length : Int)))) = true → ((((members (fun k => b.toNat.testBit k) 62).length) : Int) == (best.length : Int)) = true → ((!(decide ((((members (fun k => b.toNat.testBit k) 62).length) : Int) > (best.length : Int)))) && ((((members (fun k => b.toNat.testBit k) 62).length) : Int) == (best.length : Int))) = true)) ∧ (((!(decide ((((members (fun k => b.toNat.testBit k) 62).length) : Int) > (best.length : Int)))) = true → ((((members (fun k => b.toNat.testBit k) 62).length) : Int) == (best.length : Int)) = false → true = true)) ∧ (true = true) ∧ (((decide ((((members (fun k => b.toNat.testBit k) 62).length) : Int) > (best.length : Int))) = true → true = true)) ∧ (((decide ((((members (fun k => b.toNat.testBit k) 62).length) : Int) > (best.length : Int))) = false → (!(decide ((((members (fun k => b.toNat.testBit k) 62).length) : Int) > (best.length : Int)))) = true)) ∧ ((cond (decide ((((members (fun k => b.toNat.testBit k) 62).length) : Int) > (best.length : Int))) true (cond ((((members (fun k => b.toNat.testBit k) 62).length) : Int) == (best.length : Int)) (decide ((cmpL (members (fun k => b.toNat.testBit k) 62) best) < 0)) false)) = true → (cond (decide ((((members (fun k => b.toNat.testBit k) 62).length) : Int) > (best.length : Int))) true (cond ((((members (fun k => b.toNat.testBit k) 62).length) : Int) == (best.length : Int)) (decide ((cmpL (members (fun k => b.toNat.testBit k) 62) best) < 0)) false)) = true) ∧ ((cond (decide ((((members (fun k => b.toNat.testBit k) 62).length) : Int) > (best.length : Int))) true (cond ((((members (fun k => b.toNat.testBit k) 62).length) : Int) == (best.length : Int)) (decide ((cmpL (members (fun k => b.toNat.testBit k) 62) best) < 0)) false)) = true → (cond (decide ((((members (fun k => b.toNat.testBit k) 62).length) : Int) > (best.length : Int))) true (cond ((((members (fun k => b.toNat.testBit k) 62).length) : Int) == (best.length : Int)) (decide ((cmpL (members (fun k => b.toNat.testBit k) 62) best) < 0)) false)) = true) ∧ ((cond (decide ((((members (fun k => b.toNat.testBit k) 62).length) : Int) > (best.length : Int))) true (cond ((((members (fun k => b.toNat.testBit k) 62).length) : Int) == (best.length : Int)) (decide ((cmpL (members (fun k => b.toNat.testBit k) 62) best) < 0)) false)) = true → (cond (decide ((((members (fun k => b.toNat.testBit k) 62).length) : Int) > (best.length : Int))) true (cond ((((members (fun k => b.toNat.testBit k) 62).length) : Int) == (best.length : Int)) (decide ((cmpL (members (fun k => b.toNat.testBit k) 62) best) < 0)) false)) = true) ∧ (((cond (decide ((((members (fun k => b.toNat.testBit k) 62).length) : Int) > (best.length : Int))) true (cond ((((members (fun k => b.toNat.testBit k) 62).length) : Int) == (best.length : Int)) (decide ((cmpL (members (fun k => b.toNat.testBit k) 62) best) < 0)) false)) = true → (members (fun k => b.toNat.testBit k) 62).length = (members (fun k => b.toNat.testBit k) 62).length)) ∧ ((cond (decide ((((members (fun k => b.toNat.testBit k) 62).length) : Int) > (best.length : Int))) true (cond ((((members (fun k => b.toNat.testBit k) 62).length) : Int) == (best.length : Int)) (decide ((cmpL (members (fun k => b.toNat.testBit k) 62) best) < 0)) false)) = true → PC Try.prog 171 [.agg [.sl (.ints Open), .sl (.rows Dist)], .sl (.ints (members (fun k => b.toNat.testBit k) 62)), .int .i64 r] (.one (.d (.bool (farS Open.length Dist (members (fun k => b.toNat.testBit k) 62) r))))) ∧ (true = true) ∧ (((cond (decide ((((members (fun k => b.toNat.testBit k) 62).length) : Int) > (best.length : Int))) true (cond ((((members (fun k => b.toNat.testBit k) 62).length) : Int) == (best.length : Int)) (decide ((cmpL (members (fun k => b.toNat.testBit k) 62) best) < 0)) false)) = true → (cond (decide ((((members (fun k => b.toNat.testBit k) 62).length) : Int) > (best.length : Int))) true (cond ((((members (fun k => b.toNat.testBit k) 62).length) : Int) == (best.length : Int)) (decide ((cmpL (members (fun k => b.toNat.testBit k) 62) best) < 0)) false)) = true)) ∧ (((cond (decide ((((members (fun k => b.toNat.testBit k) 62).length) : Int) > (best.length : Int))) true (cond ((((members (fun k => b.toNat.testBit k) 62).length) : Int) == (best.length : Int)) (decide ((cmpL (members (fun k => b.toNat.testBit k) 62) best) < 0)) false)) = false → true = true)) ∧ (((cond (cond (decide ((((members (fun k => b.toNat.testBit k) 62).length) : Int) > (best.length : Int))) true (cond ((((members (fun k => b.toNat.testBit k) 62).length) : Int) == (best.length : Int)) (decide ((cmpL (members (fun k => b.toNat.testBit k) 62) best) < 0)) false)) (farS Open.length Dist (members (fun k => b.toNat.testBit k) 62) r) false) = true → (0 ≤ (b + 1) ∧ (b + 1) ≤ 18446744073709551615) ∧ (∃ best' : List Int, ∃ b' : Int, (i_Field_largestFar_d_JJ0 Open Dist r best' b') ∧ (i_Field_largestFar_d_mJ0 Open Dist r best' b' < i_Field_largestFar_d_mJ0 Open Dist r best b) ∧ (r = r) ∧ ((members (fun k => b.toNat.testBit k) 62).length = best'.length) ∧ ((b + 1) = b') ∧ (members (fun k => b.toNat.testBit k) 62 = best') ∧ (Open = Open) ∧ (Dist = Dist))) ∧ ((cond (cond (decide ((((members (fun k => b.toNat.testBit k) 62).length) : Int) > (best.length : Int))) true (cond ((((members (fun k => b.toNat.testBit k) 62).length) : Int) == (best.length : Int)) (decide ((cmpL (members (fun k => b.toNat.testBit k) 62) best) < 0)) false)) (farS Open.length Dist (members (fun k => b.toNat.testBit k) 62) r) false) = false → (0 ≤ (b + 1) ∧ (b + 1) ≤ 18446744073709551615) ∧ (∃ best' : List Int, ∃ b' : Int, (i_Field_largestFar_d_JJ0 Open Dist r best' b') ∧ (i_Field_largestFar_d_mJ0 Open Dist r best' b' < i_Field_largestFar_d_mJ0 Open Dist r best b) ∧ (r = r) ∧ (best.length = best'.length) ∧ ((b + 1) = b') ∧ (best = best') ∧ (Open = Open) ∧ (Dist = Dist))))) ∧ ((decide (b < ((1 : Int) * 2 ^ ((Dist.length : Int).toNat)))) = false → ((best.length = best.length) ∧ ((best : List Int) = (lfTo Open.length Dist r (2 ^ Dist.length))))))))
theorem i_Field_largestFar_d_vc (Open : List Int) (Dist : List (List Int)) (r : Int) (hf : goodField Open Dist = true) (w_Open : (Open.length : Int) ≤ 9223372036854775807) (w_Dist : (Dist.length : Int) ≤ 9223372036854775807) (v_Dist : ∀ x9 ∈ Dist, (x9.length : Int) ≤ 9223372036854775807) : i_Field_largestFar_d_P Open Dist r := by
  unfold i_Field_largestFar_d_P
  obtain ⟨g1, g2, g3⟩ := gf_open hf
  have p7 := pow8 (n := Dist.length) (by omega)
  have pp := Nat.two_pow_pos Dist.length
  have e0 := one_shl Dist.length
  refine ⟨?_, ?_⟩
  · refine ⟨([]), 1, ?_⟩
    refine ⟨?_, rfl, rfl, rfl, ?_, rfl, rfl⟩
    · refine ⟨?_, ?_, ?_⟩
      · first | omega | rfl | (intro hg; simp only [nrmT] at hg; omega) | (intro g1 g2; simp [g1, g2]; done) | (intro g1; simp at g1 ⊢; simp [g1]; done) | (simp only [nrmT] at *; omega) | (simp at * <;> omega) | (simp_all <;> omega) | (simp_all; done)
      · omega
      · exact (lfTo_one _ _ _).symm
    · first | omega | rfl | (intro hg; simp only [nrmT] at hg; omega) | (intro g1 g2; simp [g1, g2]; done) | (intro g1; simp at g1 ⊢; simp [g1]; done) | (simp only [nrmT] at *; omega) | (simp at * <;> omega) | (simp_all <;> omega) | (simp_all; done)
  · intro best b hJ
    obtain ⟨h1, h2, h3⟩ := hJ
    refine ⟨?_, ?_, ?_, ?_, ?_⟩
    · first | omega | rfl | (intro hg; simp only [nrmT] at hg; omega) | (intro g1 g2; simp [g1, g2]; done) | (intro g1; simp at g1 ⊢; simp [g1]; done) | (simp only [nrmT] at *; omega) | (simp at * <;> omega) | (simp_all <;> omega) | (simp_all; done)
    · first | omega | rfl | (intro hg; simp only [nrmT] at hg; omega) | (intro g1 g2; simp [g1, g2]; done) | (intro g1; simp at g1 ⊢; simp [g1]; done) | (simp only [nrmT] at *; omega) | (simp at * <;> omega) | (simp_all <;> omega) | (simp_all; done)
    · rw [e0]
      generalize 2 ^ Dist.length = M at *
      omega
    · intro b1
      try simp only [nrmT] at b1
      refine ⟨?_, id, id, id, id, id, id, id, fun _ => rfl, fun _ => rfl, fun _ => slices_Compare_int_int__pc (members (fun k => b.toNat.testBit k) 62) best, id, id, ?_, fun _ _ => rfl, rfl, fun _ => rfl, ?_, id, id, id, fun _ => rfl, ?_, rfl, id, fun _ => rfl, ?_, ?_⟩
      · refine i_bag_list_pc b ?_
        · rw [e0] at b1
          generalize 2 ^ Dist.length = M at *
          omega
      · intro g1 g2; rw [g1, g2]; rfl
      · intro h; rw [h]; rfl
      · intro hg
        refine i_Field_areFar_pc Open Dist (members (fun k => b.toNat.testBit k) 62) r ?_ ?_
        · exact hf
        · have el : members (fun k => b.toNat.testBit k) 62 = lst Dist.length b.toNat := lst_62 (by omega) (by rw [e0] at b1; omega)
          rw [el]; exact lst_in
      · intro b2
        refine ⟨?_, ?_⟩
        · rw [e0] at b1
          generalize 2 ^ Dist.length = M at *
          omega
        · refine ⟨(members (fun k => b.toNat.testBit k) 62), (b + 1), ?_⟩
          refine ⟨?_, ?_, rfl, rfl, rfl, ?_, rfl, rfl⟩
          · refine ⟨?_, ?_, ?_⟩
            · first | omega | rfl | (intro hg; simp only [nrmT] at hg; omega) | (intro g1 g2; simp [g1, g2]; done) | (intro g1; simp at g1 ⊢; simp [g1]; done) | (simp only [nrmT] at *; omega) | (simp at * <;> omega) | (simp_all <;> omega) | (simp_all; done)
            · rw [e0] at b1
              generalize 2 ^ Dist.length = M at *
              omega
            · have el : members (fun k => b.toNat.testBit k) 62 = lst Dist.length b.toNat := lst_62 (by omega) (by rw [e0] at b1; omega)
              rw [el] at b2 ⊢
              rw [cnd4, gt_nat, len_beq] at b2
              rw [show (b + 1).toNat = b.toNat + 1 by omega, lfTo_succ, ← h3]
              unfold lfF
              rw [if_pos b2]
          · rw [e0] at b1
            show 2 ^ Dist.length - (b + 1).toNat < 2 ^ Dist.length - b.toNat
            generalize 2 ^ Dist.length = M at *
            omega
          · first | omega | rfl | (intro hg; simp only [nrmT] at hg; omega) | (intro g1 g2; simp [g1, g2]; done) | (intro g1; simp at g1 ⊢; simp [g1]; done) | (simp only [nrmT] at *; omega) | (simp at * <;> omega) | (simp_all <;> omega) | (simp_all; done)
      · intro b3
        refine ⟨?_, ?_⟩
        · rw [e0] at b1
          generalize 2 ^ Dist.length = M at *
          omega
        · refine ⟨best, (b + 1), ?_⟩
          refine ⟨?_, ?_, rfl, rfl, rfl, rfl, rfl, rfl⟩
          · refine ⟨?_, ?_, ?_⟩
            · first | omega | rfl | (intro hg; simp only [nrmT] at hg; omega) | (intro g1 g2; simp [g1, g2]; done) | (intro g1; simp at g1 ⊢; simp [g1]; done) | (simp only [nrmT] at *; omega) | (simp at * <;> omega) | (simp_all <;> omega) | (simp_all; done)
            · rw [e0] at b1
              generalize 2 ^ Dist.length = M at *
              omega
            · have el : members (fun k => b.toNat.testBit k) 62 = lst Dist.length b.toNat := lst_62 (by omega) (by rw [e0] at b1; omega)
              rw [el] at b3
              rw [cnd4, gt_nat, len_beq] at b3
              rw [show (b + 1).toNat = b.toNat + 1 by omega, lfTo_succ, ← h3]
              unfold lfF
              rw [if_neg (by rw [b3]; decide)]
          · rw [e0] at b1
            show 2 ^ Dist.length - (b + 1).toNat < 2 ^ Dist.length - b.toNat
            generalize 2 ^ Dist.length = M at *
            omega
    · intro b4
      try simp only [nrmT] at b4
      refine ⟨rfl, ?_⟩
      · have ec : b.toNat = 2 ^ Dist.length := by rw [e0] at b4; omega
        rw [h3, ec]
theorem i_Field_largestFar_d_pc (Open : List Int) (Dist : List (List Int)) (r : Int) (hf : goodField Open Dist = true) : PC Try.prog 119 [.agg [.sl (.ints Open), .sl (.rows Dist)], .int .i64 r] (.one (.d (.sl (.ints (lfTo Open.length Dist r (2 ^ Dist.length)))))) :=
  pc_wf @Try.call119 fun hw => pc_by (by kernel_rfl) Try.func119 @Try.call119 (by kernel_rfl) i_Field_largestFar_d_C (i_Field_largestFar_d_A Open Dist r) (by kernel_rfl) (i_Field_largestFar_d_vc Open Dist r hf hw.1.1 hw.1.2.1.1 hw.1.2.1.2) (by kernel_rfl)
def minF (xs : List Int) (b : Int) (k : Nat) : Int := min b (xs.getD k 0)
def minTo (xs : List Int) (k : Nat) : Int := foldTo (minF xs) (xs.getD 0 0) k
def minL (xs : List Int) : Int := minTo xs xs.length
theorem minTo_succ (xs : List Int) (k : Nat) : minTo xs (k + 1) = min (minTo xs k) (xs.getD k 0) := rfl
theorem minTo_le (xs : List Int) : ∀ k, 0 < k → (∀ j, j < k → minTo xs k ≤ xs.getD j 0) ∧ ∃ j, j < k ∧ minTo xs k = xs.getD j 0
  | 0, h => by omega
  | k + 1, _ => by
    rw [minTo_succ]
    by_cases hk : 0 < k
    · obtain ⟨h1, j, h2, h3⟩ := minTo_le xs k hk
      refine ⟨fun i hi => ?_, ?_⟩
      · by_cases e : i = k
        · subst e; omega
        · have := h1 i (by omega); omega
      · by_cases e : minTo xs k ≤ xs.getD k 0
        · exact ⟨j, by omega, by omega⟩
        · exact ⟨k, by omega, by omega⟩
    · have : k = 0 := by omega
      subst this
      have e : minTo xs 0 = xs.getD 0 0 := rfl
      refine ⟨fun i hi => ?_, 0, by omega, by omega⟩
      have : i = 0 := by omega
      subst this; omega
theorem near_iff {row : List Int} {r : Int} (h : 0 < row.length) : (!(allTo (fun c => !(decide (row.getD c 0 ≤ r))) row.length)) = decide (minL row ≤ r) := by
  obtain ⟨m1, j, m2, m3⟩ := minTo_le row row.length h
  by_cases e : minL row ≤ r
  · rw [decide_eq_true e, allTo_false m2 (by rw [decide_eq_true (by unfold minL at e; omega)]; rfl)]; rfl
  · rw [decide_eq_false e, allTo_iff.2 fun k hk => by
      have := m1 k hk
      rw [decide_eq_false (by unfold minL at e; omega)]; rfl]
    rfl
theorem allTo_succ {p : Nat → Bool} {i : Int} (h : 0 ≤ i) : allTo p (i + 1).toNat = (allTo p i.toNat && p i.toNat) := by
  rw [show (i + 1).toNat = i.toNat + 1 by omega]; rfl
abbrev slices_Min_int_int__JJ0 (xs : List Int) (m : Int) (i : Int) : Prop := (1 ≤ i) ∧ (i ≤ (xs.length : Int)) ∧ (m = minTo xs i.toNat)
abbrev slices_Min_int_int__mJ0 (xs : List Int) (m : Int) (i : Int) : Nat := (xs.length - i).toNat
def slices_Min_int_int__C (f : FuncId) (ds : List D) : Orc := .no
def slices_Min_int_int__A (xs : List Int) : Ann := .two (.none) (.two (.two (.none) (.goF (.none))) (.two (.none) (.two (.two (.none) (.loop (cut2 (fun (m : Int) (i : Int) => slices_Min_int_int__JJ0 xs m i) (fun (m : Int) (i : Int) => [(0, .d false (.sl (.ints xs))), (3, .d true (.int .i64 m)), (4, .d true (.int .i64 i))]) (fun (m : Int) (i : Int) => [])) (fun g => slices_Min_int_int__mJ0 xs g.1 g.2) (fun _ => .none))) (.none))))
def slices_Min_int_int__P (xs : List Int) : Prop :=
  ((decide ((xs.length : Int) < 1)) = false) ∧ ((0 : Int) ≤ 0) ∧ ((0 : Int) < xs.length) ∧ (0 < xs.length) ∧ ((∃ m' : Int, ∃ i' : Int, (slices_Min_int_int__JJ0 xs m' i') ∧ (xs = xs) ∧ ((xs.getD 0 0) = m') ∧ ((1 : Int) = i')) ∧ (∀ m : Int, ∀ i : Int, (slices_Min_int_int__JJ0 xs m i) → (((decide (i < (xs.length : Int))) = true → ((0 : Int) ≤ i) ∧ ((i : Int) < xs.length) ∧ (i.toNat < xs.length) ∧ (-9223372036854775808 ≤ (i + 1) ∧ (i + 1) ≤ 9223372036854775807) ∧ (∃ m' : Int, ∃ i' : Int, (slices_Min_int_int__JJ0 xs m' i') ∧ (slices_Min_int_int__mJ0 xs m' i' < slices_Min_int_int__mJ0 xs m i) ∧ (xs = xs) ∧ ((min m (xs.getD i.toNat 0)) = m') ∧ ((i + 1) = i'))) ∧ ((decide (i < (xs.length : Int))) = false → ((m = (minL xs)))))))
theorem slices_Min_int_int__vc (xs : List Int) (hp : 0 < xs.length) (w_xs : (xs.length : Int) ≤ 9223372036854775807) : slices_Min_int_int__P xs := by
  unfold slices_Min_int_int__P
  refine ⟨?_, ?_, ?_, ?_, ?_, ?_⟩
  · exact decide_eq_false (by omega)
  · first | omega | rfl | (intro hg; simp only [nrmT] at hg; omega) | (intro g1 g2; simp [g1, g2]; done) | (intro g1; simp at g1 ⊢; simp [g1]; done) | (simp only [nrmT] at *; omega) | (simp at * <;> omega) | (simp_all <;> omega) | (simp_all; done)
  · first | omega | rfl | (intro hg; simp only [nrmT] at hg; omega) | (intro g1 g2; simp [g1, g2]; done) | (intro g1; simp at g1 ⊢; simp [g1]; done) | (simp only [nrmT] at *; omega) | (simp at * <;> omega) | (simp_all <;> omega) | (simp_all; done)
  · first | omega | rfl | (intro hg; simp only [nrmT] at hg; omega) | (intro g1 g2; simp [g1, g2]; done) | (intro g1; simp at g1 ⊢; simp [g1]; done) | (simp only [nrmT] at *; omega) | (simp at * <;> omega) | (simp_all <;> omega) | (simp_all; done)
  · refine ⟨(xs.getD 0 0), 1, ?_⟩
    refine ⟨?_, rfl, rfl, rfl⟩
    · refine ⟨?_, ?_, ?_⟩
      · first | omega | rfl | (intro hg; simp only [nrmT] at hg; omega) | (intro g1 g2; simp [g1, g2]; done) | (intro g1; simp at g1 ⊢; simp [g1]; done) | (simp only [nrmT] at *; omega) | (simp at * <;> omega) | (simp_all <;> omega) | (simp_all; done)
      · first | omega | rfl | (intro hg; simp only [nrmT] at hg; omega) | (intro g1 g2; simp [g1, g2]; done) | (intro g1; simp at g1 ⊢; simp [g1]; done) | (simp only [nrmT] at *; omega) | (simp at * <;> omega) | (simp_all <;> omega) | (simp_all; done)
      · show _ = min (xs.getD 0 0) (xs.getD 0 0)
        omega
  · intro m i hJ
    obtain ⟨h1, h2, h3⟩ := hJ
    refine ⟨?_, ?_⟩
    · intro b1
      try simp only [nrmT] at b1
      refine ⟨?_, ?_, ?_, ?_, ?_⟩
      · first | omega | rfl | (intro hg; simp only [nrmT] at hg; omega) | (intro g1 g2; simp [g1, g2]; done) | (intro g1; simp at g1 ⊢; simp [g1]; done) | (simp only [nrmT] at *; omega) | (simp at * <;> omega) | (simp_all <;> omega) | (simp_all; done)
      · first | omega | rfl | (intro hg; simp only [nrmT] at hg; omega) | (intro g1 g2; simp [g1, g2]; done) | (intro g1; simp at g1 ⊢; simp [g1]; done) | (simp only [nrmT] at *; omega) | (simp at * <;> omega) | (simp_all <;> omega) | (simp_all; done)
      · first | omega | rfl | (intro hg; simp only [nrmT] at hg; omega) | (intro g1 g2; simp [g1, g2]; done) | (intro g1; simp at g1 ⊢; simp [g1]; done) | (simp only [nrmT] at *; omega) | (simp at * <;> omega) | (simp_all <;> omega) | (simp_all; done)
      · first | omega | rfl | (intro hg; simp only [nrmT] at hg; omega) | (intro g1 g2; simp [g1, g2]; done) | (intro g1; simp at g1 ⊢; simp [g1]; done) | (simp only [nrmT] at *; omega) | (simp at * <;> omega) | (simp_all <;> omega) | (simp_all; done)
      · refine ⟨(min m (xs.getD i.toNat 0)), (i + 1), ?_⟩
        refine ⟨?_, ?_, rfl, rfl, rfl⟩
        · refine ⟨?_, ?_, ?_⟩
          · first | omega | rfl | (intro hg; simp only [nrmT] at hg; omega) | (intro g1 g2; simp [g1, g2]; done) | (intro g1; simp at g1 ⊢; simp [g1]; done) | (simp only [nrmT] at *; omega) | (simp at * <;> omega) | (simp_all <;> omega) | (simp_all; done)
          · first | omega | rfl | (intro hg; simp only [nrmT] at hg; omega) | (intro g1 g2; simp [g1, g2]; done) | (intro g1; simp at g1 ⊢; simp [g1]; done) | (simp only [nrmT] at *; omega) | (simp at * <;> omega) | (simp_all <;> omega) | (simp_all; done)
          · rw [h3, show (i + 1).toNat = i.toNat + 1 by omega, minTo_succ]
        · first | (show _ < _; omega) | (simp only [slices_Min_int_int__mJ0]; omega) | (simp only [slices_Min_int_int__mJ0] at *; simp at *; omega)
    · intro b2
      try simp only [nrmT] at b2
      unfold minL; rw [h3, show i.toNat = xs.length by omega]
theorem slices_Min_int_int__pc (xs : List Int) (hp : 0 < xs.length) : PC Try.prog 169 [.sl (.ints xs)] (.one (.d (.int .i64 (minL xs)))) :=
  pc_wf @Try.call169 fun hw => pc_by (by kernel_rfl) Try.func169 @Try.call169 (by kernel_rfl) slices_Min_int_int__C (slices_Min_int_int__A xs) (by kernel_rfl) (slices_Min_int_int__vc xs hp hw.1) (by kernel_rfl)
def slices_Min_int_int__orc : List D → Orc := orcN [some .ints] fun ds => match ds with
  | [.sl (.ints xs)] => some (.one (.d (.int .i64 (minL xs))))
  | _ => none
def nearAll (Dist : List (List Int)) (r : Int) : Bool := Dist.all (fun row => decide (minL row ≤ r))
def i_Field_areReached_1_C (f : FuncId) (ds : List D) : Orc := bif Nat.beq f 169 then slices_Min_int_int__orc ds else .no
def i_Field_areReached_1_A (list : List Int) (r : Int) : Ann := .none
def i_Field_areReached_1_P (list : List Int) (r : Int) : Prop :=
  (true = true) ∧ (PC Try.prog 169 [.sl (.ints list)] (.one (.d (.int .i64 (minL list))))) ∧ (((decide ((minL list) > r)) = (!(decide (minL list ≤ r)))))
theorem i_Field_areReached_1_vc (list : List Int) (r : Int) (hp : 0 < list.length) (w_list : (list.length : Int) ≤ 9223372036854775807) : i_Field_areReached_1_P list r := by
  unfold i_Field_areReached_1_P
  refine ⟨rfl, ?_, ?_⟩
  · refine slices_Min_int_int__pc list ?_
    · exact hp
  · by_cases h : minL list ≤ r
    · rw [decide_eq_true h, decide_eq_false (by omega)]; rfl
    · rw [decide_eq_false h, decide_eq_true (by omega)]; rfl
theorem i_Field_areReached_1_pc (list : List Int) (r : Int) (hp : 0 < list.length) : PC Try.prog 168 [.sl (.ints list), .bx [.int .i64 r] 0] (.one (.d (.bool (!(decide (minL list ≤ r)))))) :=
  pc_wf @Try.call168 fun hw => pc_by (by kernel_rfl) Try.func168 @Try.call168 (by kernel_rfl) i_Field_areReached_1_C (i_Field_areReached_1_A list r) (by kernel_rfl) (i_Field_areReached_1_vc list r hp hw.1) (by kernel_rfl)
def i_Field_areReached_1_orc : List D → Orc := orcN [some .ints, none] fun ds => match ds with
  | [.sl (.ints list), .bx [.int .i64 r] 0] => some (.one (.d (.bool (!(decide (minL list ≤ r))))))
  | _ => none
abbrev slices_IndexFunc_int_int_iAR_JJ0 (xs : List (List Int)) (r : Int) (i : Int) : Prop := (0 ≤ i) ∧ (i ≤ (xs.length : Int)) ∧ (∀ k, k < i.toNat → (fun row => !(decide (minL row ≤ r))) (xs.getD k []) = false)
abbrev slices_IndexFunc_int_int_iAR_mJ0 (xs : List (List Int)) (r : Int) (i : Int) : Nat := (xs.length - i).toNat
def slices_IndexFunc_int_int_iAR_C (f : FuncId) (ds : List D) : Orc := bif Nat.beq f 168 then i_Field_areReached_1_orc ds else .no
def slices_IndexFunc_int_int_iAR_A (xs : List (List Int)) (r : Int) : Ann := .two (.none) (.two (.two (.none) (.loop (cut1 (fun (i : Int) => slices_IndexFunc_int_int_iAR_JJ0 xs r i) (fun (i : Int) => [(0, .d false (.sl (.rows xs))), (1, .d false (.fn 168 0 [.bx [.int .i64 r] 0])), (7, .d true (.int .i64 (xs.length : Int))), (8, .d true (.int .i64 i))]) (fun (i : Int) => [])) (fun g => slices_IndexFunc_int_int_iAR_mJ0 xs r g) (fun _ => .none))) (.none))
def slices_IndexFunc_int_int_iAR_P (xs : List (List Int)) (r : Int) : Prop :=
  ((∃ i' : Int, (slices_IndexFunc_int_int_iAR_JJ0 xs r i') ∧ (xs = xs) ∧ ((.fn 168 0 [.bx [.int .i64 r] 0] : D) = (.fn 168 0 [.bx [.int .i64 r] 0] : D)) ∧ ((xs.length : Int) = (xs.length : Int)) ∧ ((0 : Int) = i')) ∧ (∀ i : Int, (slices_IndexFunc_int_int_iAR_JJ0 xs r i) → (((decide (i < (xs.length : Int))) = true → ((0 : Int) ≤ i) ∧ ((i : Int) < xs.length) ∧ (i.toNat < xs.length) ∧ (PC Try.prog 168 [.sl (.ints (xs.getD i.toNat [])), .bx [.int .i64 r] 0] (.one (.d (.bool (!(decide (minL (xs.getD i.toNat []) ≤ r))))))) ∧ (((!(decide (minL (xs.getD i.toNat []) ≤ r))) = true → ((i = (idxI (fun row => !(decide (minL row ≤ r))) xs)))) ∧ ((!(decide (minL (xs.getD i.toNat []) ≤ r))) = false → (-9223372036854775808 ≤ (i + 1) ∧ (i + 1) ≤ 9223372036854775807) ∧ (∃ i' : Int, (slices_IndexFunc_int_int_iAR_JJ0 xs r i') ∧ (slices_IndexFunc_int_int_iAR_mJ0 xs r i' < slices_IndexFunc_int_int_iAR_mJ0 xs r i) ∧ (xs = xs) ∧ ((.fn 168 0 [.bx [.int .i64 r] 0] : D) = (.fn 168 0 [.bx [.int .i64 r] 0] : D)) ∧ ((xs.length : Int) = (xs.length : Int)) ∧ ((i + 1) = i'))))) ∧ ((decide (i < (xs.length : Int))) = false → ((((-1) : Int) = (idxI (fun row => !(decide (minL row ≤ r))) xs)))))))
theorem slices_IndexFunc_int_int_iAR_vc (xs : List (List Int)) (r : Int) (hx : ∀ l ∈ xs, 0 < l.length) (w_xs : (xs.length : Int) ≤ 9223372036854775807) (v_xs : ∀ x9 ∈ xs, (x9.length : Int) ≤ 9223372036854775807) : slices_IndexFunc_int_int_iAR_P xs r := by
  unfold slices_IndexFunc_int_int_iAR_P
  refine ⟨?_, ?_⟩
  · refine ⟨0, ?_⟩
    refine ⟨?_, rfl, rfl, rfl, rfl⟩
    · refine ⟨?_, ?_, ?_⟩
      · first | omega | rfl | (intro hg; simp only [nrmT] at hg; omega) | (intro g1 g2; simp [g1, g2]; done) | (intro g1; simp at g1 ⊢; simp [g1]; done) | (simp only [nrmT] at *; omega) | (simp at * <;> omega) | (simp_all <;> omega) | (simp_all; done)
      · first | omega | rfl | (intro hg; simp only [nrmT] at hg; omega) | (intro g1 g2; simp [g1, g2]; done) | (intro g1; simp at g1 ⊢; simp [g1]; done) | (simp only [nrmT] at *; omega) | (simp at * <;> omega) | (simp_all <;> omega) | (simp_all; done)
      · first | omega | rfl | (intro hg; simp only [nrmT] at hg; omega) | (intro g1 g2; simp [g1, g2]; done) | (intro g1; simp at g1 ⊢; simp [g1]; done) | (simp only [nrmT] at *; omega) | (simp at * <;> omega) | (simp_all <;> omega) | (simp_all; done)
  · intro i hJ
    obtain ⟨h1, h2, h3⟩ := hJ
    refine ⟨?_, ?_⟩
    · intro b1
      try simp only [nrmT] at b1
      refine ⟨?_, ?_, ?_, ?_, ?_, ?_⟩
      · first | omega | rfl | (intro hg; simp only [nrmT] at hg; omega) | (intro g1 g2; simp [g1, g2]; done) | (intro g1; simp at g1 ⊢; simp [g1]; done) | (simp only [nrmT] at *; omega) | (simp at * <;> omega) | (simp_all <;> omega) | (simp_all; done)
      · first | omega | rfl | (intro hg; simp only [nrmT] at hg; omega) | (intro g1 g2; simp [g1, g2]; done) | (intro g1; simp at g1 ⊢; simp [g1]; done) | (simp only [nrmT] at *; omega) | (simp at * <;> omega) | (simp_all <;> omega) | (simp_all; done)
      · first | omega | rfl | (intro hg; simp only [nrmT] at hg; omega) | (intro g1 g2; simp [g1, g2]; done) | (intro g1; simp at g1 ⊢; simp [g1]; done) | (simp only [nrmT] at *; omega) | (simp at * <;> omega) | (simp_all <;> omega) | (simp_all; done)
      · refine i_Field_areReached_1_pc (xs.getD i.toNat []) r ?_
        · exact hx _ (getD_memI h1 b1)
      · intro b2
        try simp only [nrmT] at b2
        exact idx_found (p := fun row => !(decide (minL row ≤ r))) h1 b1 h3 (by simpa using b2)
      · intro b3
        try simp only [nrmT] at b3
        refine ⟨?_, ?_⟩
        · first | omega | rfl | (intro hg; simp only [nrmT] at hg; omega) | (intro g1 g2; simp [g1, g2]; done) | (intro g1; simp at g1 ⊢; simp [g1]; done) | (simp only [nrmT] at *; omega) | (simp at * <;> omega) | (simp_all <;> omega) | (simp_all; done)
        · refine ⟨(i + 1), ?_⟩
          refine ⟨?_, ?_, rfl, rfl, rfl, rfl⟩
          · refine ⟨?_, ?_, ?_⟩
            · first | omega | rfl | (intro hg; simp only [nrmT] at hg; omega) | (intro g1 g2; simp [g1, g2]; done) | (intro g1; simp at g1 ⊢; simp [g1]; done) | (simp only [nrmT] at *; omega) | (simp at * <;> omega) | (simp_all <;> omega) | (simp_all; done)
            · first | omega | rfl | (intro hg; simp only [nrmT] at hg; omega) | (intro g1 g2; simp [g1, g2]; done) | (intro g1; simp at g1 ⊢; simp [g1]; done) | (simp only [nrmT] at *; omega) | (simp at * <;> omega) | (simp_all <;> omega) | (simp_all; done)
            · exact idx_step (p := fun row => !(decide (minL row ≤ r))) h1 h3 (by simpa using b3)
          · first | (show _ < _; omega) | (simp only [slices_IndexFunc_int_int_iAR_mJ0]; omega) | (simp only [slices_IndexFunc_int_int_iAR_mJ0] at *; simp at *; omega)
    · intro b4
      try simp only [nrmT] at b4
      exact (idx_none (by omega) h3).symm
theorem slices_IndexFunc_int_int_iAR_pc (xs : List (List Int)) (r : Int) (hx : ∀ l ∈ xs, 0 < l.length) : PC Try.prog 184 [.sl (.rows xs), .fn 168 0 [.bx [.int .i64 r] 0]] (.one (.d (.int .i64 (idxI (fun row => !(decide (minL row ≤ r))) xs)))) :=
  pc_wf @Try.call184 fun hw => pc_by (by kernel_rfl) Try.func184 @Try.call184 (by kernel_rfl) slices_IndexFunc_int_int_iAR_C (slices_IndexFunc_int_int_iAR_A xs r) (by kernel_rfl) (slices_IndexFunc_int_int_iAR_vc xs r hx hw.1.1 hw.1.2) (by kernel_rfl)
def slices_IndexFunc_int_int_iAR_orc : List D → Orc := orcN [some .rows, none] fun ds => match ds with
  | [.sl (.rows xs), .fn f0 0 [.bx [.int .i64 r] 0]] => bif Nat.beq f0 168 then some (.one (.d (.int .i64 (idxI (fun row => !(decide (minL row ≤ r))) xs)))) else none
  | _ => none
def slices_ContainsFunc_int_int_iAR_C (f : FuncId) (ds : List D) : Orc := bif Nat.beq f 184 then slices_IndexFunc_int_int_iAR_orc ds else .no
def slices_ContainsFunc_int_int_iAR_A (xs : List (List Int)) (r : Int) : Ann := .none
def slices_ContainsFunc_int_int_iAR_P (xs : List (List Int)) (r : Int) : Prop :=
  (PC Try.prog 184 [.sl (.rows xs), .fn 168 0 [.bx [.int .i64 r] 0]] (.one (.d (.int .i64 (idxI (fun row => !(decide (minL row ≤ r))) xs))))) ∧ (((decide ((idxI (fun row => !(decide (minL row ≤ r))) xs) ≥ 0)) = (xs.any (fun row => !(decide (minL row ≤ r))))))
theorem slices_ContainsFunc_int_int_iAR_vc (xs : List (List Int)) (r : Int) (hx : ∀ l ∈ xs, 0 < l.length) (w_xs : (xs.length : Int) ≤ 9223372036854775807) (v_xs : ∀ x9 ∈ xs, (x9.length : Int) ≤ 9223372036854775807) : slices_ContainsFunc_int_int_iAR_P xs r := by
  unfold slices_ContainsFunc_int_int_iAR_P
  refine ⟨?_, ?_⟩
  · refine slices_IndexFunc_int_int_iAR_pc xs r ?_
    · exact hx
  · exact idx_any _ _
theorem slices_ContainsFunc_int_int_iAR_pc (xs : List (List Int)) (r : Int) (hx : ∀ l ∈ xs, 0 < l.length) : PC Try.prog 141 [.sl (.rows xs), .fn 168 0 [.bx [.int .i64 r] 0]] (.one (.d (.bool (xs.any (fun row => !(decide (minL row ≤ r))))))) :=
  pc_wf @Try.call141 fun hw => pc_by (by kernel_rfl) Try.func141 @Try.call141 (by kernel_rfl) slices_ContainsFunc_int_int_iAR_C (slices_ContainsFunc_int_int_iAR_A xs r) (by kernel_rfl) (slices_ContainsFunc_int_int_iAR_vc xs r hx hw.1.1 hw.1.2) (by kernel_rfl)
def slices_ContainsFunc_int_int_iAR_orc : List D → Orc := orcN [some .rows, none] fun ds => match ds with
  | [.sl (.rows xs), .fn f0 0 [.bx [.int .i64 r] 0]] => bif Nat.beq f0 168 then some (.one (.d (.bool (xs.any (fun row => !(decide (minL row ≤ r))))))) else none
  | _ => none
def i_Field_areReached_C (f : FuncId) (ds : List D) : Orc := bif Nat.beq f 141 then slices_ContainsFunc_int_int_iAR_orc ds else .no
def i_Field_areReached_A (Open : List Int) (Dist : List (List Int)) (r : Int) : Ann := .none
def i_Field_areReached_P (Open : List Int) (Dist : List (List Int)) (r : Int) : Prop :=
  (PC Try.prog 141 [.sl (.rows Dist), .fn 168 0 [.bx [.int .i64 r] 0]] (.one (.d (.bool (Dist.any (fun row => !(decide (minL row ≤ r)))))))) ∧ (((!(Dist.any (fun row => !(decide (minL row ≤ r))))) = (nearAll Dist r)))
theorem i_Field_areReached_vc (Open : List Int) (Dist : List (List Int)) (r : Int) (hf : goodField Open Dist = true) (w_Open : (Open.length : Int) ≤ 9223372036854775807) (w_Dist : (Dist.length : Int) ≤ 9223372036854775807) (v_Dist : ∀ x9 ∈ Dist, (x9.length : Int) ≤ 9223372036854775807) : i_Field_areReached_P Open Dist r := by
  unfold i_Field_areReached_P
  refine ⟨?_, ?_⟩
  · refine slices_ContainsFunc_int_int_iAR_pc Dist r ?_
    · intro l hl
      obtain ⟨k, hk, rfl⟩ := List.mem_iff_getElem.1 hl
      have h1 := (gf_row hf hk).1
      rw [getD_get hk] at h1
      have := gf_open hf
      omega
  · exact any_not _ _
theorem i_Field_areReached_pc (Open : List Int) (Dist : List (List Int)) (r : Int) (hf : goodField Open Dist = true) : PC Try.prog 118 [.agg [.sl (.ints Open), .sl (.rows Dist)], .int .i64 r] (.one (.d (.bool (nearAll Dist r)))) :=
  pc_wf @Try.call118 fun hw => pc_by (by kernel_rfl) Try.func118 @Try.call118 (by kernel_rfl) i_Field_areReached_C (i_Field_areReached_A Open Dist r) (by kernel_rfl) (i_Field_areReached_vc Open Dist r hf hw.1.1 hw.1.2.1.1 hw.1.2.1.2) (by kernel_rfl)
def i_Field_areReached_orc : List D → Orc := orcN [none, none] fun ds => match ds with
  | [.agg [.sl (.ints Open), .sl (.rows Dist)], .int .i64 r] => some (.one (.d (.bool (nearAll Dist r))))
  | _ => none
abbrev s_l5Near_JJ0 (Open : List Int) (Dist : List (List Int)) (r : Int) (j : Int) : Prop := (0 ≤ j) ∧ (j ≤ (Dist.length : Int)) ∧ (allTo (fun k => decide (minL (Dist.getD k []) ≤ r)) j.toNat = true)
abbrev s_l5Near_mJ0 (Open : List Int) (Dist : List (List Int)) (r : Int) (j : Int) : Nat := (Dist.length - j).toNat
abbrev s_l5Near_JJ1 (Open : List Int) (Dist : List (List Int)) (r : Int) (j : Int) (near : Bool) (a : Int) : Prop := (0 ≤ a) ∧ (a ≤ (Open.length : Int)) ∧ (near = !(allTo (fun c => !(decide ((Dist.getD j.toNat []).getD c 0 ≤ r))) a.toNat))
abbrev s_l5Near_mJ1 (Open : List Int) (Dist : List (List Int)) (r : Int) (j : Int) (near : Bool) (a : Int) : Nat := (Open.length - a).toNat
def s_l5Near_C (f : FuncId) (ds : List D) : Orc := .no
def s_l5Near_A (Open : List Int) (Dist : List (List Int)) (r : Int) : Ann := .two (.none) (.two (.two (.none) (.loop (cut1 (fun (j : Int) => s_l5Near_JJ0 Open Dist r j) (fun (j : Int) => [(1, .d false (.int .i64 r)), (2, .ptr 2 0), (5, .d true (.int .i64 j))]) (fun (j : Int) => [(2, .box 37 [.d false (.sl (.ints Open)), .d false (.sl (.rows Dist))])])) (fun g => s_l5Near_mJ0 Open Dist r g) (fun g => (fun (j : Int) => .two (.none) (.two (.two (.none) (.two (.two (.none) (.loop (cut2 (fun (near : Bool) (a : Int) => s_l5Near_JJ1 Open Dist r j near a) (fun (near : Bool) (a : Int) => [(1, .d false (.int .i64 r)), (2, .ptr 2 0), (5, .d true (.int .i64 j)), (6, .d true (.bool near)), (7, .d true (.int .i64 a))]) (fun (near : Bool) (a : Int) => [(2, .box 37 [.d false (.sl (.ints Open)), .d false (.sl (.rows Dist))])])) (fun g => s_l5Near_mJ1 Open Dist r j g.1 g.2) (fun _ => .none))) (.none))) (.none))) g))) (.none))
def s_l5Near_P (Open : List Int) (Dist : List (List Int)) (r : Int) : Prop :=
  ((∃ j' : Int, (s_l5Near_JJ0 Open Dist r j') ∧ (r = r) ∧ ((0 : Int) = j') ∧ (Open = Open) ∧ (Dist = Dist)) ∧ (∀ j : Int, (s_l5Near_JJ0 Open Dist r j) → (((decide (j < (Dist.length : Int))) = true → ((∃ near' : Bool, ∃ a' : Int, (s_l5Near_JJ1 Open Dist r j near' a') ∧ (r = r) ∧ (j = j) ∧ (false = near') ∧ ((0 : Int) = a') ∧ (Open = Open) ∧ (Dist = Dist)) ∧ (∀ near : Bool, ∀ a : Int, (s_l5Near_JJ1 Open Dist r j near a) → (((decide (a < (Open.length : Int))) = true → ((!near) = true → (!near) = true) ∧ ((!near) = true → (!near) = true) ∧ ((!near) = true → (!near) = true) ∧ (((!near) = true → (0 : Int) ≤ j)) ∧ (((!near) = true → (j : Int) < Dist.length)) ∧ ((!near) = true → (!near) = true) ∧ (((!near) = true → j.toNat < Dist.length)) ∧ ((!near) = true → (!near) = true) ∧ ((!near) = true → (!near) = true) ∧ (((!near) = true → (0 : Int) ≤ a)) ∧ (((!near) = true → (a : Int) < (Dist.getD j.toNat []).length)) ∧ ((!near) = true → (!near) = true) ∧ (((!near) = true → a.toNat < (Dist.getD j.toNat []).length)) ∧ ((!near) = true → (!near) = true) ∧ ((!near) = true → (!near) = true) ∧ (true = true) ∧ ((near = true → true = true)) ∧ ((near = false → (!near) = true)) ∧ (-9223372036854775808 ≤ (a + 1) ∧ (a + 1) ≤ 9223372036854775807) ∧ (∃ near' : Bool, ∃ a' : Int, (s_l5Near_JJ1 Open Dist r j near' a') ∧ (s_l5Near_mJ1 Open Dist r j near' a' < s_l5Near_mJ1 Open Dist r j near a) ∧ (r = r) ∧ (j = j) ∧ ((cond near true (decide (((Dist.getD j.toNat []).getD a.toNat 0) ≤ r))) = near') ∧ ((a + 1) = a') ∧ (Open = Open) ∧ (Dist = Dist))) ∧ ((decide (a < (Open.length : Int))) = false → (((!near) = true → ((false = (nearAll Dist r)))) ∧ ((!near) = false → (-9223372036854775808 ≤ (j + 1) ∧ (j + 1) ≤ 9223372036854775807) ∧ (∃ j' : Int, (s_l5Near_JJ0 Open Dist r j') ∧ (s_l5Near_mJ0 Open Dist r j' < s_l5Near_mJ0 Open Dist r j) ∧ (r = r) ∧ ((j + 1) = j') ∧ (Open = Open) ∧ (Dist = Dist))))))))) ∧ ((decide (j < (Dist.length : Int))) = false → ((true = (nearAll Dist r)))))))
theorem s_l5Near_vc (Open : List Int) (Dist : List (List Int)) (r : Int) (hf : goodField Open Dist = true) (w_Open : (Open.length : Int) ≤ 9223372036854775807) (w_Dist : (Dist.length : Int) ≤ 9223372036854775807) (v_Dist : ∀ x9 ∈ Dist, (x9.length : Int) ≤ 9223372036854775807) : s_l5Near_P Open Dist r := by
  unfold s_l5Near_P
  obtain ⟨g1, g2, g3⟩ := gf_open hf
  refine ⟨?_, ?_⟩
  · refine ⟨0, ?_⟩
    refine ⟨?_, rfl, rfl, rfl, rfl⟩
    · refine ⟨?_, ?_, ?_⟩
      · first | omega | rfl | (intro hg; simp only [nrmT] at hg; omega) | (intro g1 g2; simp [g1, g2]; done) | (intro g1; simp at g1 ⊢; simp [g1]; done) | (simp only [nrmT] at *; omega) | (simp at * <;> omega) | (simp_all <;> omega) | (simp_all; done)
      · first | omega | rfl | (intro hg; simp only [nrmT] at hg; omega) | (intro g1 g2; simp [g1, g2]; done) | (intro g1; simp at g1 ⊢; simp [g1]; done) | (simp only [nrmT] at *; omega) | (simp at * <;> omega) | (simp_all <;> omega) | (simp_all; done)
      · first | omega | rfl | (intro hg; simp only [nrmT] at hg; omega) | (intro g1 g2; simp [g1, g2]; done) | (intro g1; simp at g1 ⊢; simp [g1]; done) | (simp only [nrmT] at *; omega) | (simp at * <;> omega) | (simp_all <;> omega) | (simp_all; done)
  · intro j hJ
    obtain ⟨h1, h2, h3⟩ := hJ
    refine ⟨?_, ?_⟩
    · intro b1
      try simp only [nrmT] at b1
      refine ⟨?_, ?_⟩
      · refine ⟨false, 0, ?_⟩
        refine ⟨?_, rfl, rfl, rfl, rfl, rfl, rfl⟩
        · refine ⟨?_, ?_, ?_⟩
          · first | omega | rfl | (intro hg; simp only [nrmT] at hg; omega) | (intro g1 g2; simp [g1, g2]; done) | (intro g1; simp at g1 ⊢; simp [g1]; done) | (simp only [nrmT] at *; omega) | (simp at * <;> omega) | (simp_all <;> omega) | (simp_all; done)
          · first | omega | rfl | (intro hg; simp only [nrmT] at hg; omega) | (intro g1 g2; simp [g1, g2]; done) | (intro g1; simp at g1 ⊢; simp [g1]; done) | (simp only [nrmT] at *; omega) | (simp at * <;> omega) | (simp_all <;> omega) | (simp_all; done)
          · rfl
      · intro near a hJ
        obtain ⟨h4, h5, h6⟩ := hJ
        refine ⟨?_, ?_⟩
        · intro b2
          try simp only [nrmT] at b2
          refine ⟨id, id, id, ?_, ?_, id, ?_, id, id, ?_, ?_, id, ?_, id, id, rfl, fun _ => rfl, ?_, ?_, ?_⟩
          · obtain ⟨rl, _⟩ := gf_row (i := j.toNat) hf (by omega)
            intro _; omega
          · obtain ⟨rl, _⟩ := gf_row (i := j.toNat) hf (by omega)
            intro _; omega
          · obtain ⟨rl, _⟩ := gf_row (i := j.toNat) hf (by omega)
            intro _; omega
          · obtain ⟨rl, _⟩ := gf_row (i := j.toNat) hf (by omega)
            intro _; omega
          · obtain ⟨rl, _⟩ := gf_row (i := j.toNat) hf (by omega)
            intro _; omega
          · obtain ⟨rl, _⟩ := gf_row (i := j.toNat) hf (by omega)
            intro _; omega
          · intro h; rw [h]; rfl
          · first | omega | rfl | (intro hg; simp only [nrmT] at hg; omega) | (intro g1 g2; simp [g1, g2]; done) | (intro g1; simp at g1 ⊢; simp [g1]; done) | (simp only [nrmT] at *; omega) | (simp at * <;> omega) | (simp_all <;> omega) | (simp_all; done)
          · refine ⟨(cond near true (decide (((Dist.getD j.toNat []).getD a.toNat 0) ≤ r))), (a + 1), ?_⟩
            refine ⟨?_, ?_, rfl, rfl, rfl, rfl, rfl, rfl⟩
            · refine ⟨?_, ?_, ?_⟩
              · first | omega | rfl | (intro hg; simp only [nrmT] at hg; omega) | (intro g1 g2; simp [g1, g2]; done) | (intro g1; simp at g1 ⊢; simp [g1]; done) | (simp only [nrmT] at *; omega) | (simp at * <;> omega) | (simp_all <;> omega) | (simp_all; done)
              · first | omega | rfl | (intro hg; simp only [nrmT] at hg; omega) | (intro g1 g2; simp [g1, g2]; done) | (intro g1; simp at g1 ⊢; simp [g1]; done) | (simp only [nrmT] at *; omega) | (simp at * <;> omega) | (simp_all <;> omega) | (simp_all; done)
              · rw [h6, allTo_succ h4]
                cases allTo (fun c => !(decide ((Dist.getD j.toNat []).getD c 0 ≤ r))) a.toNat <;> cases decide ((Dist.getD j.toNat []).getD a.toNat 0 ≤ r) <;> rfl
            · first | (show _ < _; omega) | (simp only [s_l5Near_mJ1]; omega) | (simp only [s_l5Near_mJ1] at *; simp at *; omega)
        · intro b3
          try simp only [nrmT] at b3
          refine ⟨?_, ?_⟩
          · intro b4
            try simp only [nrmT] at b4
            obtain ⟨rl, _⟩ := gf_row (i := j.toNat) hf (by omega)
            have hn := near_iff (row := Dist.getD j.toNat []) (r := r) (by omega)
            rw [rl] at hn
            rw [show a.toNat = Open.length by omega, hn] at h6
            unfold nearAll
            rw [all_no (p := fun row => decide (minL row ≤ r)) (d := []) h1 (by omega) (by rw [← h6]; exact b4)]
          · intro b5
            try simp only [nrmT] at b5
            refine ⟨?_, ?_⟩
            · first | omega | rfl | (intro hg; simp only [nrmT] at hg; omega) | (intro g1 g2; simp [g1, g2]; done) | (intro g1; simp at g1 ⊢; simp [g1]; done) | (simp only [nrmT] at *; omega) | (simp at * <;> omega) | (simp_all <;> omega) | (simp_all; done)
            · refine ⟨(j + 1), ?_⟩
              refine ⟨?_, ?_, rfl, rfl, rfl, rfl⟩
              · refine ⟨?_, ?_, ?_⟩
                · first | omega | rfl | (intro hg; simp only [nrmT] at hg; omega) | (intro g1 g2; simp [g1, g2]; done) | (intro g1; simp at g1 ⊢; simp [g1]; done) | (simp only [nrmT] at *; omega) | (simp at * <;> omega) | (simp_all <;> omega) | (simp_all; done)
                · first | omega | rfl | (intro hg; simp only [nrmT] at hg; omega) | (intro g1 g2; simp [g1, g2]; done) | (intro g1; simp at g1 ⊢; simp [g1]; done) | (simp only [nrmT] at *; omega) | (simp at * <;> omega) | (simp_all <;> omega) | (simp_all; done)
                · obtain ⟨rl, _⟩ := gf_row (i := j.toNat) hf (by omega)
                  have hn := near_iff (row := Dist.getD j.toNat []) (r := r) (by omega)
                  rw [rl] at hn
                  rw [show a.toNat = Open.length by omega, hn] at h6
                  exact allTo_step h1 h3 (by rw [← h6]; exact b5)
              · first | (show _ < _; omega) | (simp only [s_l5Near_mJ0]; omega) | (simp only [s_l5Near_mJ0] at *; simp at *; omega)
    · intro b6
      try simp only [nrmT] at b6
      unfold nearAll
      exact (all_end (p := fun row => decide (minL row ≤ r)) (d := []) (by omega) h2 h3).symm
theorem s_l5Near_pc (Open : List Int) (Dist : List (List Int)) (r : Int) (hf : goodField Open Dist = true) : PC Try.prog 116 [.agg [.sl (.ints Open), .sl (.rows Dist)], .int .i64 r] (.one (.d (.bool (nearAll Dist r)))) :=
  pc_wf @Try.call116 fun hw => pc_by (by kernel_rfl) Try.func116 @Try.call116 (by kernel_rfl) s_l5Near_C (s_l5Near_A Open Dist r) (by kernel_rfl) (s_l5Near_vc Open Dist r hf hw.1.1 hw.1.2.1.1 hw.1.2.1.2) (by kernel_rfl)
def s_l5Near_orc : List D → Orc := orcN [none, none] fun ds => match ds with
  | [.agg [.sl (.ints Open), .sl (.rows Dist)], .int .i64 r] => some (.one (.d (.bool (nearAll Dist r))))
  | _ => none
theorem toArray_get (zs : List Int) (j : Nat) : zs.toArray[j]! = zs.getD j 0 := by
  by_cases h : j < zs.length
  · rw [getElem!_pos zs.toArray j (by simpa using h)]; simp [h]
  · rw [getElem!_neg zs.toArray j (by simpa using h)]
    simp [List.getD, List.getElem?_eq_none (Nat.le_of_not_lt h)]
theorem compact_facts {zs : List Int} (hs : zs.Pairwise (· ≤ ·)) : ∀ m, m ≤ zs.length → Asc (Lib.compactUpTo zs.toArray m) ∧ (∀ x, x ∈ Lib.compactUpTo zs.toArray m ↔ ∃ j, j < m ∧ zs.getD j 0 = x)
  | 0, _ => by
    refine ⟨List.Pairwise.nil, fun x => ?_⟩
    simp [Lib.compactUpTo]
  | m + 1, hm => by
    obtain ⟨h1, h2⟩ := compact_facts hs m (by omega)
    rw [Lib.compactUpTo_succ]
    have hle : ∀ j, j ≤ m → zs.getD j 0 ≤ zs.getD m 0 := fun j hj => by
      by_cases e : j = m
      · subst e; exact Int.le_refl _
      · have := List.pairwise_iff_getElem.1 hs j m (by omega) (by omega) (by omega)
        rw [getD_get (by omega), getD_get (by omega)]
        exact this
    by_cases hk : Lib.keeps zs.toArray m = true
    · rw [if_pos hk]
      have hk2 : m = 0 ∨ zs.getD m 0 ≠ zs.getD (m - 1) 0 := by
        have := of_decide_eq_true hk
        rwa [toArray_get, toArray_get] at this
      refine ⟨List.pairwise_append.2 ⟨h1, by simp, fun a ha b hb => ?_⟩, fun x => ?_⟩
      · have hb : b = zs.getD m 0 := by rw [← toArray_get]; simpa using hb
        obtain ⟨j, hj, rfl⟩ := (h2 a).1 ha
        have h3 := hle j (by omega)
        rcases hk2 with h4 | h4
        · omega
        · have h5 := hle (m - 1) (by omega)
          have h6 : zs.getD j 0 ≤ zs.getD (m - 1) 0 := by
            by_cases e : j = m - 1
            · subst e; exact Int.le_refl _
            · have := List.pairwise_iff_getElem.1 hs j (m - 1) (by omega) (by omega) (by omega)
              rw [getD_get (by omega), getD_get (by omega)]
              exact this
          omega
      · rw [List.mem_append, h2]
        constructor
        · rintro (⟨j, hj, h⟩ | h)
          · exact ⟨j, by omega, h⟩
          · exact ⟨m, by omega, by rw [← toArray_get]; exact (by simpa using h : x = _).symm⟩
        · rintro ⟨j, hj, h⟩
          by_cases e : j = m
          · subst e; right; rw [toArray_get, h]; simp
          · exact .inl ⟨j, by omega, h⟩
    · rw [if_neg hk, List.append_nil]
      have hk2 : m ≠ 0 ∧ zs.getD m 0 = zs.getD (m - 1) 0 := by
        have := of_decide_eq_false (Bool.eq_false_iff.2 hk)
        rw [toArray_get, toArray_get] at this
        exact ⟨fun e => this (.inl e), Classical.not_not.1 fun e => this (.inr e)⟩
      refine ⟨h1, fun x => ?_⟩
      rw [h2]
      constructor
      · rintro ⟨j, hj, h⟩; exact ⟨j, by omega, h⟩
      · rintro ⟨j, hj, h⟩
        by_cases e : j = m
        · subst e; exact ⟨j - 1, by omega, by rw [← hk2.2]; exact h⟩
        · exact ⟨j, by omega, h⟩
theorem compact_asc {zs : List Int} (hs : zs.Pairwise (· ≤ ·)) : Asc (Lib.compact zs) ∧ ∀ x, x ∈ Lib.compact zs ↔ x ∈ zs := by
  obtain ⟨h1, h2⟩ := compact_facts hs zs.length (Nat.le_refl _)
  refine ⟨h1, fun x => (h2 x).trans ⟨?_, fun h => ?_⟩⟩
  · rintro ⟨j, hj, rfl⟩; exact getD_mem hj
  · obtain ⟨j, hj, rfl⟩ := List.mem_iff_getElem.1 h
    exact ⟨j, hj, getD_get hj⟩
theorem sortI_sorted (xs : List Int) : (xs.mergeSort fun x y => decide (x ≤ y)).Pairwise (· ≤ ·) := by
  have h := List.pairwise_mergeSort (le := fun x y : Int => decide (x ≤ y)) (fun a b c h1 h2 => by simp only [decide_eq_true_eq] at *; omega) (fun a b => by simp only [Bool.or_eq_true, decide_eq_true_eq]; omega) xs
  exact h.imp fun h => by simpa using h
def putFl (l : List Int) (xs : List Int) : List Int := xs.foldl putL l
theorem mem_putFl {x : Int} : ∀ (xs l : List Int), x ∈ putFl l xs ↔ x ∈ l ∨ x ∈ xs
  | [], l => by simp [putFl]
  | y :: r, l => by
    show x ∈ putFl (putL l y) r ↔ _
    rw [mem_putFl r, mem_putL, List.mem_cons]
    constructor
    · rintro ((h | h) | h)
      · exact .inr (.inl h)
      · exact .inl h
      · exact .inr (.inr h)
    · rintro (h | h | h)
      · exact .inl (.inr h)
      · exact .inl (.inl h)
      · exact .inr h
theorem asc_putFl : ∀ (xs l : List Int), Asc l → Asc (putFl l xs)
  | [], _, h => h
  | y :: r, l, h => asc_putFl r _ (asc_putL h)
theorem putFl_len : ∀ (xs l : List Int), (putFl l xs).length ≤ l.length + xs.length
  | [], _ => Nat.le_refl _
  | y :: r, l => by
    have h1 := putFl_len r (putL l y)
    have h2 := putL_len l y
    show (putFl (putL l y) r).length ≤ _
    simp only [List.length_cons]
    omega
theorem putFl_snoc (l xs : List Int) (y : Int) : putFl l (xs ++ [y]) = putL (putFl l xs) y := by simp [putFl]
def lnsD (Dist : List (List Int)) : List Int := putFl [] Dist.flatten
theorem lnsD_compact (Dist : List (List Int)) : Lib.compact (Dist.flatten.mergeSort fun x y => decide (x ≤ y)) = lnsD Dist := by
  obtain ⟨h1, h2⟩ := compact_asc (sortI_sorted Dist.flatten)
  refine asc_ext h1 (asc_putFl _ _ List.Pairwise.nil) fun x => ?_
  rw [h2, (List.mergeSort_perm _ _).mem_iff, lnsD, mem_putFl]
  simp
theorem flat_len {Dist : List (List Int)} {m : Nat} (h : ∀ l ∈ Dist, l.length ≤ m) : Dist.flatten.length ≤ Dist.length * m := by
  induction Dist with
  | nil => simp
  | cons x r ih =>
    have h1 := h x (by simp)
    have h2 := ih fun l hl => h l (by simp [hl])
    simp only [List.flatten_cons, List.length_append, List.length_cons, Nat.succ_mul]
    omega
theorem flat_step {xss : List (List Int)} {i : Int} (h0 : 0 ≤ i) (h : i < (xss.length : Int)) : (xss.take (i + 1).toNat).flatten = (xss.take i.toNat).flatten ++ xss.getD i.toNat [] := by
  rw [take_step (d := []) h0 h, List.flatten_append]
  simp
theorem gf_mem {Open : List Int} {Dist : List (List Int)} (h : goodField Open Dist = true) : ∀ l ∈ Dist, l.length = Open.length := fun l hl => by
  obtain ⟨k, hk, rfl⟩ := List.mem_iff_getElem.1 hl
  have h1 := (gf_row h hk).1
  rwa [getD_get hk] at h1
theorem gf_flat {Open : List Int} {Dist : List (List Int)} (h : goodField Open Dist = true) : Dist.flatten.length ≤ 49 := by
  obtain ⟨g1, g2, g3⟩ := gf_open h
  have h1 := flat_len (Dist := Dist) (m := 7) fun l hl => by rw [gf_mem h l hl]; exact g2
  omega
theorem lnsD_len (Dist : List (List Int)) : (lnsD Dist).length ≤ Dist.flatten.length := by
  have := putFl_len Dist.flatten []
  simpa [lnsD] using this
theorem slices_Sort_int_int__pu (xs : List Int) (hz : xs.length < 4611686018427387904) : PU Try.prog 149 3 (.ints xs) (.ints (xs.mergeSort (fun x9 y9 => decide (x9 ≤ y9)))) [] false := pu_sort_int Try.laySort 3 xs hz
theorem slices_Compact_int_int__pu (xs : List Int) : PU Try.prog 150 3 (.ints xs) (.ints (Lib.compact xs)) [] true := pu_compact_int Try.layCompact 3 xs
theorem slices_Grow_int_int__pc (n : Int) (hn : 0 ≤ n ∧ n ≤ 1000) : PC Try.prog 186 [.nil, .int .i64 n] (.one (.own 3 (.ints []))) := pc_grow_by Try.layGrow (by kernel_rfl) n hn
def slices_Grow_int_int__orc : List D → Orc := orcN [none, none] fun ds => match ds with
  | [.nil, .int .i64 n] => some (.one (.own 3 (.ints [])))
  | _ => none
abbrev slices_Concat_int_int__JJ0 (xss : List (List Int)) (size : Int) (i : Int) : Prop := (0 ≤ i) ∧ (i ≤ (xss.length : Int)) ∧ (size = ((xss.take i.toNat).flatten.length : Int))
abbrev slices_Concat_int_int__mJ0 (xss : List (List Int)) (size : Int) (i : Int) : Nat := (xss.length - i).toNat
abbrev slices_Concat_int_int__JA0 (xss : List (List Int)) (size2 : Int) : Prop := (size2 = (xss.flatten.length : Int))
abbrev slices_Concat_int_int__JJ1 (xss : List (List Int)) (size2 : Int) (out : List Int) (i : Int) : Prop := (0 ≤ i) ∧ (i ≤ (xss.length : Int)) ∧ (out = (xss.take i.toNat).flatten)
abbrev slices_Concat_int_int__mJ1 (xss : List (List Int)) (size2 : Int) (out : List Int) (i : Int) : Nat := (xss.length - i).toNat
def slices_Concat_int_int__C (f : FuncId) (ds : List D) : Orc := bif Nat.beq f 186 then slices_Grow_int_int__orc ds else .no
def slices_Concat_int_int__A (xss : List (List Int)) : Ann := .two (.none) (.two (.none) (.cut (.two (.none) (.loop (cut2 (fun (size : Int) (i : Int) => slices_Concat_int_int__JJ0 xss size i) (fun (size : Int) (i : Int) => [(0, .d false (.sl (.rows xss))), (3, .d true (.int .i64 size)), (9, .d false (.sl (.rows xss))), (10, .d true (.int .i64 (xss.length : Int))), (11, .d true (.int .i64 i))]) (fun (size : Int) (i : Int) => [])) (fun g => slices_Concat_int_int__mJ0 xss g.1 g.2) (fun g => (fun (size : Int) (i : Int) => .two (.none) (.two (.none) (.two (.two (.none) (.two (.none) (.two (.none) (.goF (.none))))) (.none)))) (g.1) (g.2)))) (cut1 (fun (size2 : Int) => slices_Concat_int_int__JA0 xss size2) (fun (size2 : Int) => [(0, .d false (.sl (.rows xss))), (3, .d true (.int .i64 size2))]) (fun (size2 : Int) => [])) (fun g => (fun (size2 : Int) => .two (.none) (.two (.two (.none) (.loop (cut2 (fun (out : List Int) (i : Int) => slices_Concat_int_int__JJ1 xss size2 out i) (fun (out : List Int) (i : Int) => [(6, .own 1000100 out.length), (25, .d false (.sl (.rows xss))), (26, .d true (.int .i64 (xss.length : Int))), (27, .d true (.int .i64 i))]) (fun (out : List Int) (i : Int) => [(1000100, .arr true 3 (.ints out))])) (fun g => slices_Concat_int_int__mJ1 xss size2 g.1 g.2) (fun _ => .none))) (.none))) g)))
end Go.Proofs.Ytmmoejdglnnmcaa
