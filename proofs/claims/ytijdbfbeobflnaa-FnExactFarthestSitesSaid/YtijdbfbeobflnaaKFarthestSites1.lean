/- Contracts of the functions that the law reaches. -/
import Derived.Test.YtijdbfbeobflnaaPw
import Derived.Test.YtijdbfbeobflnaaPma
import Derived.Test.YtijdbfbeobflnaaProg
import Derived.KernelRfl
set_option linter.unusedVariables false
set_option linter.unusedSimpArgs false
namespace Go.Proofs.Ytijdbfbeobflnaa
open Go

def s_l1In_C (f : FuncId) (ds : List D) : Orc := .no
def s_l1In_A (x : Int) (a : Int) (b : Int) : Ann := .none
def s_l1In_P (x : Int) (a : Int) (b : Int) : Prop :=
  ((decide (x ≥ a)) = true → (decide (x ≥ a)) = true) ∧ ((decide (x ≥ a)) = true → (decide (x ≥ a)) = true) ∧ (true = true) ∧ (((decide (x ≥ a)) = true → (decide (x ≥ a)) = true)) ∧ (((decide (x ≥ a)) = false → true = true)) ∧ (((cond (decide (x ≥ a)) (decide (x ≤ b)) false) = (inB x a b)))
theorem s_l1In_vc (x : Int) (a : Int) (b : Int)   : s_l1In_P x a b := by
  unfold s_l1In_P
  refine ⟨id, id, rfl, id, fun _ => rfl, ?_⟩
  · first | omega | rfl | (intro hg; simp only [nrmT] at hg; omega) | (intro g1 g2; simp [g1, g2]; done) | (intro g1; simp at g1 ⊢; simp [g1]; done) | (simp only [nrmT] at *; omega) | (simp at * <;> omega) | (simp_all <;> omega) | (simp_all; done) | (simp [inB]; omega) | (simp only [inB]; by_cases h : a ≤ x <;> simp_all)
theorem s_l1In_pc (x : Int) (a : Int) (b : Int)  : PC Try.prog 104 [.int .i64 x, .int .i64 a, .int .i64 b] (.one (.d (.bool (inB x a b)))) :=
  pc_wf @Try.call104 fun _ => pc_by (by kernel_rfl) Try.func104 @Try.call104 (by kernel_rfl) s_l1In_C (s_l1In_A x a b) (by kernel_rfl) (s_l1In_vc x a b) (by kernel_rfl)
def s_l1In_orc : List D → Orc := orcN [none, none, none] fun ds => match ds with
  | [.int .i64 x, .int .i64 a, .int .i64 b] => some (.one (.d (.bool (inB x a b))))
  | _ => none
def i_between_C (f : FuncId) (ds : List D) : Orc := .no
def i_between_A (x : Int) (a : Int) (b : Int) : Ann := .none
def i_between_P (x : Int) (a : Int) (b : Int) : Prop :=
  ((decide (x ≥ a)) = true → (decide (x ≥ a)) = true) ∧ ((decide (x ≥ a)) = true → (decide (x ≥ a)) = true) ∧ (true = true) ∧ (((decide (x ≥ a)) = true → (decide (x ≥ a)) = true)) ∧ (((decide (x ≥ a)) = false → true = true)) ∧ (((cond (decide (x ≥ a)) (decide (x ≤ b)) false) = (inB x a b)))
theorem i_between_vc (x : Int) (a : Int) (b : Int)   : i_between_P x a b := by
  unfold i_between_P
  refine ⟨id, id, rfl, id, fun _ => rfl, ?_⟩
  · first | omega | rfl | (intro hg; simp only [nrmT] at hg; omega) | (intro g1 g2; simp [g1, g2]; done) | (intro g1; simp at g1 ⊢; simp [g1]; done) | (simp only [nrmT] at *; omega) | (simp at * <;> omega) | (simp_all <;> omega) | (simp_all; done) | (simp [inB]; omega) | (simp only [inB]; by_cases h : a ≤ x <;> simp_all)
theorem i_between_pc (x : Int) (a : Int) (b : Int)  : PC Try.prog 107 [.int .i64 x, .int .i64 a, .int .i64 b] (.one (.d (.bool (inB x a b)))) :=
  pc_wf @Try.call107 fun _ => pc_by (by kernel_rfl) Try.func107 @Try.call107 (by kernel_rfl) i_between_C (i_between_A x a b) (by kernel_rfl) (i_between_vc x a b) (by kernel_rfl)
def i_between_orc : List D → Orc := orcN [none, none, none] fun ds => match ds with
  | [.int .i64 x, .int .i64 a, .int .i64 b] => some (.one (.d (.bool (inB x a b))))
  | _ => none
def sz1 (n : Nat) (left : Int) : Int := if left - n < 0 then -1 else left - n
def szTo (xss : List (List Int)) (left : Int) (k : Nat) : Int := foldTo (fun l k => if l < 0 then l else sz1 (xss.getD k []).length l) left k
def szRows (xss : List (List Int)) (left : Int) : Int := if left - xss.length < 0 then -1 else szTo xss (left - xss.length) xss.length
theorem szTo_stuck {xss : List (List Int)} {left : Int} {k : Nat} (h : szTo xss left k < 0) : ∀ n, k ≤ n → szTo xss left n = szTo xss left k
  | 0, hk => by have : k = 0 := by omega
                rw [this]
  | n + 1, hk => by
    by_cases e : k = n + 1
    · rw [e]
    · have h2 := szTo_stuck h n (by omega)
      show (if szTo xss left n < 0 then szTo xss left n else _) = _
      rw [h2, if_pos h]
theorem szTo_step {xss : List (List Int)} {left : Int} {i : Int} (h0 : 0 ≤ i) (h : 0 ≤ szTo xss left i.toNat) : szTo xss left (i + 1).toNat = sz1 (xss.getD i.toNat []).length (szTo xss left i.toNat) := by
  have e : (i + 1).toNat = i.toNat + 1 := by omega
  rw [e]
  show (if szTo xss left i.toNat < 0 then _ else _) = _
  rw [if_neg (by omega)]
  rfl
theorem szTo_bound {xss : List (List Int)} {left : Int} : ∀ k, k ≤ xss.length → 0 ≤ szTo xss left k → szTo xss left k ≤ left ∧ ∀ j, j < k → ((xss.getD j []).length : Int) ≤ left
  | 0, _, _ => ⟨Int.le_refl _, fun j hj => by omega⟩
  | k + 1, hk, h => by
    have e : szTo xss left (k + 1) = if szTo xss left k < 0 then szTo xss left k else sz1 (xss.getD k []).length (szTo xss left k) := rfl
    rw [e] at h ⊢
    by_cases h2 : szTo xss left k < 0
    · rw [if_pos h2] at h; omega
    · rw [if_neg h2] at h ⊢
      obtain ⟨h3, h4⟩ := szTo_bound (xss := xss) (left := left) k (by omega) (by omega)
      unfold sz1 at h ⊢
      by_cases h5 : szTo xss left k - ((xss.getD k []).length : Int) < 0
      · rw [if_pos h5] at h; omega
      · rw [if_neg h5] at h ⊢
        refine ⟨by omega, fun j hj => ?_⟩
        by_cases ej : j = k
        · rw [ej]; omega
        · exact h4 j (by omega)
theorem szRows_bound {xss : List (List Int)} {left : Int} (h : 0 ≤ szRows xss left) : szRows xss left ≤ left ∧ (xss.length : Int) ≤ left ∧ ∀ xs ∈ xss, (xs.length : Int) ≤ left := by
  unfold szRows at h ⊢
  by_cases h2 : left - (xss.length : Int) < 0
  · rw [if_pos h2] at h; omega
  · rw [if_neg h2] at h ⊢
    obtain ⟨h3, h4⟩ := szTo_bound _ (Nat.le_refl _) h
    refine ⟨by omega, by omega, fun xs hx => ?_⟩
    obtain ⟨k, hk, rfl⟩ := List.mem_iff_getElem.1 hx
    have := h4 k hk
    simp [hk] at this
    omega
theorem sz1_neg {n : Nat} {left : Int} (h : sz1 n left < 0) : sz1 n left = -1 := by
  unfold sz1 at *
  by_cases c : left - (n : Int) < 0
  · rw [if_pos c]
  · rw [if_neg c] at h; omega
theorem sz1_bound {n : Nat} {left : Int} (h : 0 ≤ sz1 n left) : sz1 n left ≤ left ∧ (n : Int) ≤ left := by
  unfold sz1 at *
  split at h <;> simp_all <;> omega
def l_szIntS_C (f : FuncId) (ds : List D) : Orc := .no
def l_szIntS_A (xs : List Int) (left : Int) : Ann := .none
def l_szIntS_P (xs : List Int) (left : Int) : Prop :=
  (-9223372036854775808 ≤ (left - (xs.length : Int)) ∧ (left - (xs.length : Int)) ≤ 9223372036854775807) ∧ (((decide ((left - (xs.length : Int)) < 0)) = true → ((((-1) : Int) = (sz1 xs.length left)))) ∧ ((decide ((left - (xs.length : Int)) < 0)) = false → (((left - (xs.length : Int)) = (sz1 xs.length left)))))
theorem l_szIntS_vc (xs : List Int) (left : Int) (hl : 0 ≤ left ∧ left ≤ 1048576) (w_xs : (xs.length : Int) ≤ 9223372036854775807) : l_szIntS_P xs left := by
  unfold l_szIntS_P
  refine ⟨?_, ?_, ?_⟩
  · first | omega | rfl | (intro hg; simp only [nrmT] at hg; omega) | (intro g1 g2; simp [g1, g2]; done) | (intro g1; simp at g1 ⊢; simp [g1]; done) | (simp only [nrmT] at *; omega) | (simp at * <;> omega) | (simp_all <;> omega) | (simp_all; done)
  · intro b1
    try simp only [nrmT] at b1
    unfold sz1; split <;> omega
  · intro b2
    try simp only [nrmT] at b2
    unfold sz1; split <;> omega
theorem l_szIntS_pc (xs : List Int) (left : Int) (hl : 0 ≤ left ∧ left ≤ 1048576) : PC Try.prog 98 [.sl (.ints xs), .int .i64 left] (.one (.d (.int .i64 (sz1 xs.length left)))) :=
  pc_wf @Try.call98 fun hw => pc_by (by kernel_rfl) Try.func98 @Try.call98 (by kernel_rfl) l_szIntS_C (l_szIntS_A xs left) (by kernel_rfl) (l_szIntS_vc xs left hl hw.1) (by kernel_rfl)
def l_szIntS_orc : List D → Orc := orcN [some .ints, none] fun ds => match ds with
  | [.sl (.ints xs), .int .i64 left] => some (.one (.d (.int .i64 (sz1 xs.length left))))
  | _ => none
abbrev l_szIntSS_JJ0 (xss : List (List Int)) (left : Int) (left1 : Int) (i : Int) : Prop := (0 ≤ i) ∧ (i ≤ (xss.length : Int)) ∧ (left1 = szTo xss (left - xss.length) i.toNat) ∧ (0 ≤ left1 ∧ left1 ≤ 1048576) ∧ (0 ≤ left - (xss.length : Int))
abbrev l_szIntSS_mJ0 (xss : List (List Int)) (left : Int) (left1 : Int) (i : Int) : Nat := (xss.length - i).toNat
def l_szIntSS_C (f : FuncId) (ds : List D) : Orc := bif Nat.beq f 98 then l_szIntS_orc ds else .no
def l_szIntSS_A (xss : List (List Int)) (left : Int) : Ann := .two (.none) (.two (.none) (.two (.none) (.two (.two (.none) (.loop (cut2 (fun (left1 : Int) (i : Int) => l_szIntSS_JJ0 xss left left1 i) (fun (left1 : Int) (i : Int) => [(0, .d false (.sl (.rows xss))), (1, .d true (.int .i64 left1)), (5, .d true (.int .i64 i))]) (fun (left1 : Int) (i : Int) => [])) (fun g => l_szIntSS_mJ0 xss left g.1 g.2) (fun _ => .none))) (.none))))
def l_szIntSS_P (xss : List (List Int)) (left : Int) : Prop :=
  (-9223372036854775808 ≤ (left - (xss.length : Int)) ∧ (left - (xss.length : Int)) ≤ 9223372036854775807) ∧ (((decide ((left - (xss.length : Int)) < 0)) = true → ((((-1) : Int) = (szRows xss left)))) ∧ ((decide ((left - (xss.length : Int)) < 0)) = false → ((∃ left1' : Int, ∃ i' : Int, (l_szIntSS_JJ0 xss left left1' i') ∧ (xss = xss) ∧ ((left - (xss.length : Int)) = left1') ∧ ((0 : Int) = i')) ∧ (∀ left1 : Int, ∀ i : Int, (l_szIntSS_JJ0 xss left left1 i) → (((decide (i < (xss.length : Int))) = true → ((0 : Int) ≤ i) ∧ ((i : Int) < xss.length) ∧ (i.toNat < xss.length) ∧ (PC Try.prog 98 [.sl (.ints (xss.getD i.toNat [])), .int .i64 left1] (.one (.d (.int .i64 (sz1 (xss.getD i.toNat []).length left1))))) ∧ (((decide ((sz1 (xss.getD i.toNat []).length left1) < 0)) = true → ((((-1) : Int) = (szRows xss left)))) ∧ ((decide ((sz1 (xss.getD i.toNat []).length left1) < 0)) = false → (-9223372036854775808 ≤ (i + 1) ∧ (i + 1) ≤ 9223372036854775807) ∧ (∃ left1' : Int, ∃ i' : Int, (l_szIntSS_JJ0 xss left left1' i') ∧ (l_szIntSS_mJ0 xss left left1' i' < l_szIntSS_mJ0 xss left left1 i) ∧ (xss = xss) ∧ ((sz1 (xss.getD i.toNat []).length left1) = left1') ∧ ((i + 1) = i'))))) ∧ ((decide (i < (xss.length : Int))) = false → ((left1 = (szRows xss left)))))))))
theorem l_szIntSS_vc (xss : List (List Int)) (left : Int) (hl : 0 ≤ left ∧ left ≤ 1048576) (w_xss : (xss.length : Int) ≤ 9223372036854775807) (v_xss : ∀ x9 ∈ xss, (x9.length : Int) ≤ 9223372036854775807) : l_szIntSS_P xss left := by
  unfold l_szIntSS_P
  refine ⟨?_, ?_, ?_⟩
  · first | omega | rfl | (intro hg; simp only [nrmT] at hg; omega) | (intro g1 g2; simp [g1, g2]; done) | (intro g1; simp at g1 ⊢; simp [g1]; done) | (simp only [nrmT] at *; omega) | (simp at * <;> omega) | (simp_all <;> omega) | (simp_all; done)
  · intro b1
    try simp only [nrmT] at b1
    unfold szRows; rw [if_pos (by omega)]
  · intro b2
    try simp only [nrmT] at b2
    refine ⟨?_, ?_⟩
    · refine ⟨(left - (xss.length : Int)), 0, ?_⟩
      refine ⟨?_, rfl, rfl, rfl⟩
      · refine ⟨?_, ?_, ?_, ?_, ?_⟩
        · first | omega | rfl | (intro hg; simp only [nrmT] at hg; omega) | (intro g1 g2; simp [g1, g2]; done) | (intro g1; simp at g1 ⊢; simp [g1]; done) | (simp only [nrmT] at *; omega) | (simp at * <;> omega) | (simp_all <;> omega) | (simp_all; done)
        · first | omega | rfl | (intro hg; simp only [nrmT] at hg; omega) | (intro g1 g2; simp [g1, g2]; done) | (intro g1; simp at g1 ⊢; simp [g1]; done) | (simp only [nrmT] at *; omega) | (simp at * <;> omega) | (simp_all <;> omega) | (simp_all; done)
        · first | omega | rfl | (intro hg; simp only [nrmT] at hg; omega) | (intro g1 g2; simp [g1, g2]; done) | (intro g1; simp at g1 ⊢; simp [g1]; done) | (simp only [nrmT] at *; omega) | (simp at * <;> omega) | (simp_all <;> omega) | (simp_all; done)
        · first | omega | rfl | (intro hg; simp only [nrmT] at hg; omega) | (intro g1 g2; simp [g1, g2]; done) | (intro g1; simp at g1 ⊢; simp [g1]; done) | (simp only [nrmT] at *; omega) | (simp at * <;> omega) | (simp_all <;> omega) | (simp_all; done)
        · first | omega | rfl | (intro hg; simp only [nrmT] at hg; omega) | (intro g1 g2; simp [g1, g2]; done) | (intro g1; simp at g1 ⊢; simp [g1]; done) | (simp only [nrmT] at *; omega) | (simp at * <;> omega) | (simp_all <;> omega) | (simp_all; done)
    · intro left1 i hJ
      obtain ⟨h1, h2, h3, h4, h5⟩ := hJ
      refine ⟨?_, ?_⟩
      · intro b3
        try simp only [nrmT] at b3
        refine ⟨?_, ?_, ?_, ?_, ?_, ?_⟩
        · first | omega | rfl | (intro hg; simp only [nrmT] at hg; omega) | (intro g1 g2; simp [g1, g2]; done) | (intro g1; simp at g1 ⊢; simp [g1]; done) | (simp only [nrmT] at *; omega) | (simp at * <;> omega) | (simp_all <;> omega) | (simp_all; done)
        · first | omega | rfl | (intro hg; simp only [nrmT] at hg; omega) | (intro g1 g2; simp [g1, g2]; done) | (intro g1; simp at g1 ⊢; simp [g1]; done) | (simp only [nrmT] at *; omega) | (simp at * <;> omega) | (simp_all <;> omega) | (simp_all; done)
        · first | omega | rfl | (intro hg; simp only [nrmT] at hg; omega) | (intro g1 g2; simp [g1, g2]; done) | (intro g1; simp at g1 ⊢; simp [g1]; done) | (simp only [nrmT] at *; omega) | (simp at * <;> omega) | (simp_all <;> omega) | (simp_all; done)
        · refine l_szIntS_pc (xss.getD i.toNat []) left1 ?_
          · first | omega | rfl | (intro hg; simp only [nrmT] at hg; omega) | (intro g1 g2; simp [g1, g2]; done) | (intro g1; simp at g1 ⊢; simp [g1]; done) | (simp only [nrmT] at *; omega) | (simp at * <;> omega) | (simp_all <;> omega) | (simp_all; done)
        · intro b4
          try simp only [nrmT] at b4
          have e := szTo_step (xss := xss) (left := left - xss.length) h1 (by omega)
          rw [← h3] at e
          have e2 := szTo_stuck (k := (i + 1).toNat) (by rw [e]; exact b4) xss.length (by omega)
          unfold szRows
          rw [if_neg (by omega), e2, e]
          exact (sz1_neg b4).symm
        · intro b5
          try simp only [nrmT] at b5
          refine ⟨?_, ?_⟩
          · first | omega | rfl | (intro hg; simp only [nrmT] at hg; omega) | (intro g1 g2; simp [g1, g2]; done) | (intro g1; simp at g1 ⊢; simp [g1]; done) | (simp only [nrmT] at *; omega) | (simp at * <;> omega) | (simp_all <;> omega) | (simp_all; done)
          · refine ⟨(sz1 (xss.getD i.toNat []).length left1), (i + 1), ?_⟩
            refine ⟨?_, ?_, rfl, rfl, rfl⟩
            · refine ⟨?_, ?_, ?_, ?_, ?_⟩
              · first | omega | rfl | (intro hg; simp only [nrmT] at hg; omega) | (intro g1 g2; simp [g1, g2]; done) | (intro g1; simp at g1 ⊢; simp [g1]; done) | (simp only [nrmT] at *; omega) | (simp at * <;> omega) | (simp_all <;> omega) | (simp_all; done)
              · first | omega | rfl | (intro hg; simp only [nrmT] at hg; omega) | (intro g1 g2; simp [g1, g2]; done) | (intro g1; simp at g1 ⊢; simp [g1]; done) | (simp only [nrmT] at *; omega) | (simp at * <;> omega) | (simp_all <;> omega) | (simp_all; done)
              · rw [h3, szTo_step h1 (by omega)]
              · have := sz1_bound (n := (xss.getD i.toNat []).length) (left := left1) (by omega)
                omega
              · first | omega | rfl | (intro hg; simp only [nrmT] at hg; omega) | (intro g1 g2; simp [g1, g2]; done) | (intro g1; simp at g1 ⊢; simp [g1]; done) | (simp only [nrmT] at *; omega) | (simp at * <;> omega) | (simp_all <;> omega) | (simp_all; done)
            · first | (show _ < _; omega) | (simp only [l_szIntSS_mJ0]; omega) | (simp only [l_szIntSS_mJ0] at *; simp at *; omega)
      · intro b6
        try simp only [nrmT] at b6
        unfold szRows
        rw [if_neg (by omega), h3]
        have : i.toNat = xss.length := by omega
        rw [this]
theorem l_szIntSS_pc (xss : List (List Int)) (left : Int) (hl : 0 ≤ left ∧ left ≤ 1048576) : PC Try.prog 65 [.sl (.rows xss), .int .i64 left] (.one (.d (.int .i64 (szRows xss left)))) :=
  pc_wf @Try.call65 fun hw => pc_by (by kernel_rfl) Try.func65 @Try.call65 (by kernel_rfl) l_szIntSS_C (l_szIntSS_A xss left) (by kernel_rfl) (l_szIntSS_vc xss left hl hw.1.1 hw.1.2) (by kernel_rfl)
def l_szIntSS_orc : List D → Orc := orcN [some .rows, none] fun ds => match ds with
  | [.sl (.rows xss), .int .i64 left] => some (.one (.d (.int .i64 (szRows xss left))))
  | _ => none
def risingP (xs : List Int) (lo hi : Int) (k : Nat) : Bool := inB (xs.getD k 0) lo hi && (decide (k = 0) || decide (xs.getD (k - 1) 0 < xs.getD k 0))
def rising (xs : List Int) (lo hi : Int) : Bool := allTo (risingP xs lo hi) xs.length
theorem len_le (m n : Nat) : decide ((m : Int) ≤ (n : Int)) = decide (m ≤ n) := by
  rw [Bool.eq_iff_iff]; simp only [decide_eq_true_eq]; omega
theorem all_end {α : Type} {p : α → Bool} {d : α} {xs : List α} {i : Int} (h2 : (xs.length : Int) ≤ i) (h2' : i ≤ (xs.length : Int)) (h3 : allTo (fun k => p (xs.getD k d)) i.toNat = true) : xs.all p = true := by
  have e : i.toNat = xs.length := by omega
  rw [e, allTo_list] at h3; exact h3
theorem all_no {α : Type} {p : α → Bool} {d : α} {xs : List α} {i : Int} (h0 : 0 ≤ i) (h : i < (xs.length : Int)) (h3 : p (xs.getD i.toNat d) = false) : xs.all p = false := by
  rw [← allTo_list (d := d)]; exact allTo_falseI h0 h h3
theorem inB_le {x lo hi : Int} (h : inB x lo hi = true) : lo ≤ x ∧ x ≤ hi := of_decide_eq_true h
def i_areBetween_1_C (f : FuncId) (ds : List D) : Orc := bif Nat.beq f 107 then i_between_orc ds else .no
def i_areBetween_1_A (x : Int) (lo : Int) (hi : Int) : Ann := .none
def i_areBetween_1_P (x : Int) (lo : Int) (hi : Int) : Prop :=
  (PC Try.prog 107 [.int .i64 x, .int .i64 lo, .int .i64 hi] (.one (.d (.bool (inB x lo hi))))) ∧ (((!(inB x lo hi)) = (!(inB x lo hi))))
theorem i_areBetween_1_vc (x : Int) (lo : Int) (hi : Int)   : i_areBetween_1_P x lo hi := by
  unfold i_areBetween_1_P
  refine ⟨i_between_pc x lo hi, rfl⟩
theorem i_areBetween_1_pc (x : Int) (lo : Int) (hi : Int)  : PC Try.prog 201 [.int .i64 x, .bx [.int .i64 lo] 0, .bx [.int .i64 hi] 0] (.one (.d (.bool (!(inB x lo hi))))) :=
  pc_wf @Try.call201 fun _ => pc_by (by kernel_rfl) Try.func201 @Try.call201 (by kernel_rfl) i_areBetween_1_C (i_areBetween_1_A x lo hi) (by kernel_rfl) (i_areBetween_1_vc x lo hi) (by kernel_rfl)
def i_areBetween_1_orc : List D → Orc := orcN [none, none, none] fun ds => match ds with
  | [.int .i64 x, .bx [.int .i64 lo] 0, .bx [.int .i64 hi] 0] => some (.one (.d (.bool (!(inB x lo hi)))))
  | _ => none
abbrev slices_IndexFunc_int_int_aB_JJ0 (xs : List Int) (lo : Int) (hi : Int) (i : Int) : Prop := (0 ≤ i) ∧ (i ≤ (xs.length : Int)) ∧ (∀ k, k < i.toNat → (fun x => !(inB x lo hi)) (xs.getD k 0) = false)
abbrev slices_IndexFunc_int_int_aB_mJ0 (xs : List Int) (lo : Int) (hi : Int) (i : Int) : Nat := (xs.length - i).toNat
def slices_IndexFunc_int_int_aB_C (f : FuncId) (ds : List D) : Orc := bif Nat.beq f 201 then i_areBetween_1_orc ds else .no
def slices_IndexFunc_int_int_aB_A (xs : List Int) (lo : Int) (hi : Int) : Ann := .two (.none) (.two (.two (.none) (.loop (cut1 (fun (i : Int) => slices_IndexFunc_int_int_aB_JJ0 xs lo hi i) (fun (i : Int) => [(0, .d false (.sl (.ints xs))), (1, .d false (.fn 201 [.bx [.int .i64 lo] 0, .bx [.int .i64 hi] 0])), (7, .d true (.int .i64 (xs.length : Int))), (8, .d true (.int .i64 i))]) (fun (i : Int) => [])) (fun g => slices_IndexFunc_int_int_aB_mJ0 xs lo hi g) (fun _ => .none))) (.none))
def slices_IndexFunc_int_int_aB_P (xs : List Int) (lo : Int) (hi : Int) : Prop :=
  ((∃ i' : Int, (slices_IndexFunc_int_int_aB_JJ0 xs lo hi i') ∧ (xs = xs) ∧ ((.fn 201 [.bx [.int .i64 lo] 0, .bx [.int .i64 hi] 0] : D) = (.fn 201 [.bx [.int .i64 lo] 0, .bx [.int .i64 hi] 0] : D)) ∧ ((xs.length : Int) = (xs.length : Int)) ∧ ((0 : Int) = i')) ∧ (∀ i : Int, (slices_IndexFunc_int_int_aB_JJ0 xs lo hi i) → (((decide (i < (xs.length : Int))) = true → ((0 : Int) ≤ i) ∧ ((i : Int) < xs.length) ∧ (i.toNat < xs.length) ∧ (PC Try.prog 201 [.int .i64 (xs.getD i.toNat 0), .bx [.int .i64 lo] 0, .bx [.int .i64 hi] 0] (.one (.d (.bool (!(inB (xs.getD i.toNat 0) lo hi)))))) ∧ (((!(inB (xs.getD i.toNat 0) lo hi)) = true → ((i = (idxI (fun x => !(inB x lo hi)) xs)))) ∧ ((!(inB (xs.getD i.toNat 0) lo hi)) = false → (-9223372036854775808 ≤ (i + 1) ∧ (i + 1) ≤ 9223372036854775807) ∧ (∃ i' : Int, (slices_IndexFunc_int_int_aB_JJ0 xs lo hi i') ∧ (slices_IndexFunc_int_int_aB_mJ0 xs lo hi i' < slices_IndexFunc_int_int_aB_mJ0 xs lo hi i) ∧ (xs = xs) ∧ ((.fn 201 [.bx [.int .i64 lo] 0, .bx [.int .i64 hi] 0] : D) = (.fn 201 [.bx [.int .i64 lo] 0, .bx [.int .i64 hi] 0] : D)) ∧ ((xs.length : Int) = (xs.length : Int)) ∧ ((i + 1) = i'))))) ∧ ((decide (i < (xs.length : Int))) = false → ((((-1) : Int) = (idxI (fun x => !(inB x lo hi)) xs)))))))
theorem slices_IndexFunc_int_int_aB_vc (xs : List Int) (lo : Int) (hi : Int)  (w_xs : (xs.length : Int) ≤ 9223372036854775807) : slices_IndexFunc_int_int_aB_P xs lo hi := by
  unfold slices_IndexFunc_int_int_aB_P
  refine ⟨?_, ?_⟩
  · refine ⟨0, ?_⟩
    refine ⟨?_, rfl, rfl, rfl, rfl⟩
    · refine ⟨?_, ?_, ?_⟩
      · first | omega | rfl | (intro hg; simp only [nrmT] at hg; omega) | (intro g1 g2; simp [g1, g2]; done) | (intro g1; simp at g1 ⊢; simp [g1]; done) | (simp only [nrmT] at *; omega) | (simp at * <;> omega) | (simp_all <;> omega) | (simp_all; done)
      · first | omega | rfl | (intro hg; simp only [nrmT] at hg; omega) | (intro g1 g2; simp [g1, g2]; done) | (intro g1; simp at g1 ⊢; simp [g1]; done) | (simp only [nrmT] at *; omega) | (simp at * <;> omega) | (simp_all <;> omega) | (simp_all; done)
      · first | omega | rfl | (intro hg; simp only [nrmT] at hg; omega) | (intro g1 g2; simp [g1, g2]; done) | (intro g1; simp at g1 ⊢; simp [g1]; done) | (simp only [nrmT] at *; omega) | (simp at * <;> omega) | (simp_all <;> omega) | (simp_all; done)
  · intro i hJ
    obtain ⟨h1, h2, h3⟩ := hJ
    refine ⟨?_, ?_⟩
    · intro b1
      try simp only [nrmT] at b1
      refine ⟨?_, ?_, ?_, i_areBetween_1_pc (xs.getD i.toNat 0) lo hi, ?_, ?_⟩
      · first | omega | rfl | (intro hg; simp only [nrmT] at hg; omega) | (intro g1 g2; simp [g1, g2]; done) | (intro g1; simp at g1 ⊢; simp [g1]; done) | (simp only [nrmT] at *; omega) | (simp at * <;> omega) | (simp_all <;> omega) | (simp_all; done)
      · first | omega | rfl | (intro hg; simp only [nrmT] at hg; omega) | (intro g1 g2; simp [g1, g2]; done) | (intro g1; simp at g1 ⊢; simp [g1]; done) | (simp only [nrmT] at *; omega) | (simp at * <;> omega) | (simp_all <;> omega) | (simp_all; done)
      · first | omega | rfl | (intro hg; simp only [nrmT] at hg; omega) | (intro g1 g2; simp [g1, g2]; done) | (intro g1; simp at g1 ⊢; simp [g1]; done) | (simp only [nrmT] at *; omega) | (simp at * <;> omega) | (simp_all <;> omega) | (simp_all; done)
      · intro b2
        try simp only [nrmT] at b2
        exact idx_found (p := fun x => !(inB x lo hi)) h1 b1 h3 (by simpa using b2)
      · intro b3
        try simp only [nrmT] at b3
        refine ⟨?_, ?_⟩
        · first | omega | rfl | (intro hg; simp only [nrmT] at hg; omega) | (intro g1 g2; simp [g1, g2]; done) | (intro g1; simp at g1 ⊢; simp [g1]; done) | (simp only [nrmT] at *; omega) | (simp at * <;> omega) | (simp_all <;> omega) | (simp_all; done)
        · refine ⟨(i + 1), ?_⟩
          refine ⟨?_, ?_, rfl, rfl, rfl, rfl⟩
          · refine ⟨?_, ?_, ?_⟩
            · first | omega | rfl | (intro hg; simp only [nrmT] at hg; omega) | (intro g1 g2; simp [g1, g2]; done) | (intro g1; simp at g1 ⊢; simp [g1]; done) | (simp only [nrmT] at *; omega) | (simp at * <;> omega) | (simp_all <;> omega) | (simp_all; done)
            · first | omega | rfl | (intro hg; simp only [nrmT] at hg; omega) | (intro g1 g2; simp [g1, g2]; done) | (intro g1; simp at g1 ⊢; simp [g1]; done) | (simp only [nrmT] at *; omega) | (simp at * <;> omega) | (simp_all <;> omega) | (simp_all; done)
            · exact idx_step (p := fun x => !(inB x lo hi)) h1 h3 (by simpa using b3)
          · first | (show _ < _; omega) | (simp only [slices_IndexFunc_int_int_aB_mJ0]; omega) | (simp only [slices_IndexFunc_int_int_aB_mJ0] at *; simp at *; omega)
    · intro b4
      try simp only [nrmT] at b4
      exact (idx_none (by omega) h3).symm
theorem slices_IndexFunc_int_int_aB_pc (xs : List Int) (lo : Int) (hi : Int)  : PC Try.prog 164 [.sl (.ints xs), .fn 201 [.bx [.int .i64 lo] 0, .bx [.int .i64 hi] 0]] (.one (.d (.int .i64 (idxI (fun x => !(inB x lo hi)) xs)))) :=
  pc_wf @Try.call164 fun hw => pc_by (by kernel_rfl) Try.func164 @Try.call164 (by kernel_rfl) slices_IndexFunc_int_int_aB_C (slices_IndexFunc_int_int_aB_A xs lo hi) (by kernel_rfl) (slices_IndexFunc_int_int_aB_vc xs lo hi hw.1) (by kernel_rfl)
def slices_IndexFunc_int_int_aB_orc : List D → Orc := orcN [some .ints, none] fun ds => match ds with
  | [.sl (.ints xs), .fn f0 [.bx [.int .i64 lo] 0, .bx [.int .i64 hi] 0]] => bif Nat.beq f0 201 then some (.one (.d (.int .i64 (idxI (fun x => !(inB x lo hi)) xs)))) else none
  | _ => none
def slices_ContainsFunc_int_int_aB_C (f : FuncId) (ds : List D) : Orc := bif Nat.beq f 164 then slices_IndexFunc_int_int_aB_orc ds else .no
def slices_ContainsFunc_int_int_aB_A (xs : List Int) (lo : Int) (hi : Int) : Ann := .none
def slices_ContainsFunc_int_int_aB_P (xs : List Int) (lo : Int) (hi : Int) : Prop :=
  (PC Try.prog 164 [.sl (.ints xs), .fn 201 [.bx [.int .i64 lo] 0, .bx [.int .i64 hi] 0]] (.one (.d (.int .i64 (idxI (fun x => !(inB x lo hi)) xs))))) ∧ (((decide ((idxI (fun x => !(inB x lo hi)) xs) ≥ 0)) = (xs.any (fun x => !(inB x lo hi)))))
theorem slices_ContainsFunc_int_int_aB_vc (xs : List Int) (lo : Int) (hi : Int)  (w_xs : (xs.length : Int) ≤ 9223372036854775807) : slices_ContainsFunc_int_int_aB_P xs lo hi := by
  unfold slices_ContainsFunc_int_int_aB_P
  refine ⟨slices_IndexFunc_int_int_aB_pc xs lo hi, ?_⟩
  · exact idx_any _ _
theorem slices_ContainsFunc_int_int_aB_pc (xs : List Int) (lo : Int) (hi : Int)  : PC Try.prog 96 [.sl (.ints xs), .fn 201 [.bx [.int .i64 lo] 0, .bx [.int .i64 hi] 0]] (.one (.d (.bool (xs.any (fun x => !(inB x lo hi)))))) :=
  pc_wf @Try.call96 fun hw => pc_by (by kernel_rfl) Try.func96 @Try.call96 (by kernel_rfl) slices_ContainsFunc_int_int_aB_C (slices_ContainsFunc_int_int_aB_A xs lo hi) (by kernel_rfl) (slices_ContainsFunc_int_int_aB_vc xs lo hi hw.1) (by kernel_rfl)
def slices_ContainsFunc_int_int_aB_orc : List D → Orc := orcN [some .ints, none] fun ds => match ds with
  | [.sl (.ints xs), .fn f0 [.bx [.int .i64 lo] 0, .bx [.int .i64 hi] 0]] => bif Nat.beq f0 201 then some (.one (.d (.bool (xs.any (fun x => !(inB x lo hi)))))) else none
  | _ => none
def i_areBetween_C (f : FuncId) (ds : List D) : Orc := bif Nat.beq f 96 then slices_ContainsFunc_int_int_aB_orc ds else .no
def i_areBetween_A (xs : List Int) (lo : Int) (hi : Int) : Ann := .none
def i_areBetween_P (xs : List Int) (lo : Int) (hi : Int) : Prop :=
  (PC Try.prog 96 [.sl (.ints xs), .fn 201 [.bx [.int .i64 lo] 0, .bx [.int .i64 hi] 0]] (.one (.d (.bool (xs.any (fun x => !(inB x lo hi))))))) ∧ (((!(xs.any (fun x => !(inB x lo hi)))) = (xs.all (fun x => inB x lo hi))))
theorem i_areBetween_vc (xs : List Int) (lo : Int) (hi : Int)  (w_xs : (xs.length : Int) ≤ 9223372036854775807) : i_areBetween_P xs lo hi := by
  unfold i_areBetween_P
  refine ⟨slices_ContainsFunc_int_int_aB_pc xs lo hi, ?_⟩
  · exact any_not _ _
theorem i_areBetween_pc (xs : List Int) (lo : Int) (hi : Int)  : PC Try.prog 162 [.sl (.ints xs), .int .i64 lo, .int .i64 hi] (.one (.d (.bool (xs.all (fun x => inB x lo hi))))) :=
  pc_wf @Try.call162 fun hw => pc_by (by kernel_rfl) Try.func162 @Try.call162 (by kernel_rfl) i_areBetween_C (i_areBetween_A xs lo hi) (by kernel_rfl) (i_areBetween_vc xs lo hi hw.1) (by kernel_rfl)
def i_areBetween_orc : List D → Orc := orcN [some .ints, none, none] fun ds => match ds with
  | [.sl (.ints xs), .int .i64 lo, .int .i64 hi] => some (.one (.d (.bool (xs.all (fun x => inB x lo hi)))))
  | _ => none
abbrev l_toIntS_JJ0 (xs : List Int) (out : List Int) (i : Int) : Prop := (0 ≤ i) ∧ (i ≤ (xs.length : Int)) ∧ (out = xs.take i.toNat ++ (List.replicate xs.length 0).drop i.toNat)
abbrev l_toIntS_mJ0 (xs : List Int) (out : List Int) (i : Int) : Nat := (xs.length - i).toNat
def l_toIntS_C (f : FuncId) (ds : List D) : Orc := .no
def l_toIntS_A (xs : List Int) : Ann := .two (.none) (.two (.none) (.two (.two (.none) (.loop (cut2 (fun (out : List Int) (i : Int) => l_toIntS_JJ0 xs out i) (fun (out : List Int) (i : Int) => [(0, .d false (.sl (.ints xs))), (3, .own 7 out.length), (4, .d true (.int .i64 i))]) (fun (out : List Int) (i : Int) => [(7, .arr true 3 (.ints out))])) (fun g => l_toIntS_mJ0 xs g.1 g.2) (fun _ => .none))) (.none)))
def l_toIntS_P (xs : List Int) : Prop :=
  ((xs.length : Int) = (xs.length : Int)) ∧ ((0 : Int) ≤ (xs.length : Int)) ∧ (((xs.length : Int) : Int) * ((8 : Nat) : Int) ≤ 140737488355328) ∧ ((∃ out' : List Int, ∃ i' : Int, (l_toIntS_JJ0 xs out' i') ∧ (xs = xs) ∧ ((xs.length : Int).toNat = out'.length) ∧ ((0 : Int) = i') ∧ ((List.replicate ((xs.length : Int).toNat) (0 : Int)) = out')) ∧ (∀ out : List Int, ∀ i : Int, (l_toIntS_JJ0 xs out i) → (((decide (i < (xs.length : Int))) = true → ((0 : Int) ≤ i) ∧ ((i : Int) < xs.length) ∧ (i.toNat < xs.length) ∧ ((0 : Int) ≤ i) ∧ ((i : Int) < (out.length : Int)) ∧ (i.toNat < out.length) ∧ (-9223372036854775808 ≤ (i + 1) ∧ (i + 1) ≤ 9223372036854775807) ∧ (∃ out' : List Int, ∃ i' : Int, (l_toIntS_JJ0 xs out' i') ∧ (l_toIntS_mJ0 xs out' i' < l_toIntS_mJ0 xs out i) ∧ (xs = xs) ∧ (out.length = out'.length) ∧ ((i + 1) = i') ∧ ((out.set i.toNat (xs.getD i.toNat 0)) = out'))) ∧ ((decide (i < (xs.length : Int))) = false → ((out.length = out.length) ∧ ((out : List Int) = xs))))))
theorem l_toIntS_vc (xs : List Int) (hn : xs.length ≤ 1048576) (w_xs : (xs.length : Int) ≤ 9223372036854775807) : l_toIntS_P xs := by
  unfold l_toIntS_P
  refine ⟨rfl, ?_, ?_, ?_, ?_⟩
  · first | omega | rfl | (intro hg; simp only [nrmT] at hg; omega) | (intro g1 g2; simp [g1, g2]; done) | (intro g1; simp at g1 ⊢; simp [g1]; done) | (simp only [nrmT] at *; omega) | (simp at * <;> omega) | (simp_all <;> omega) | (simp_all; done)
  · first | omega | rfl | (intro hg; simp only [nrmT] at hg; omega) | (intro g1 g2; simp [g1, g2]; done) | (intro g1; simp at g1 ⊢; simp [g1]; done) | (simp only [nrmT] at *; omega) | (simp at * <;> omega) | (simp_all <;> omega) | (simp_all; done)
  · refine ⟨(List.replicate ((xs.length : Int).toNat) (0 : Int)), 0, ?_⟩
    refine ⟨?_, rfl, ?_, rfl, rfl⟩
    · refine ⟨?_, ?_, ?_⟩
      · first | omega | rfl | (intro hg; simp only [nrmT] at hg; omega) | (intro g1 g2; simp [g1, g2]; done) | (intro g1; simp at g1 ⊢; simp [g1]; done) | (simp only [nrmT] at *; omega) | (simp at * <;> omega) | (simp_all <;> omega) | (simp_all; done)
      · first | omega | rfl | (intro hg; simp only [nrmT] at hg; omega) | (intro g1 g2; simp [g1, g2]; done) | (intro g1; simp at g1 ⊢; simp [g1]; done) | (simp only [nrmT] at *; omega) | (simp at * <;> omega) | (simp_all <;> omega) | (simp_all; done)
      · simp
    · simp
  · intro out i hJ
    obtain ⟨h1, h2, h3⟩ := hJ
    refine ⟨?_, ?_⟩
    · intro b1
      try simp only [nrmT] at b1
      refine ⟨?_, ?_, ?_, ?_, ?_, ?_, ?_, ?_⟩
      · first | omega | rfl | (intro hg; simp only [nrmT] at hg; omega) | (intro g1 g2; simp [g1, g2]; done) | (intro g1; simp at g1 ⊢; simp [g1]; done) | (simp only [nrmT] at *; omega) | (simp at * <;> omega) | (simp_all <;> omega) | (simp_all; done)
      · first | omega | rfl | (intro hg; simp only [nrmT] at hg; omega) | (intro g1 g2; simp [g1, g2]; done) | (intro g1; simp at g1 ⊢; simp [g1]; done) | (simp only [nrmT] at *; omega) | (simp at * <;> omega) | (simp_all <;> omega) | (simp_all; done)
      · first | omega | rfl | (intro hg; simp only [nrmT] at hg; omega) | (intro g1 g2; simp [g1, g2]; done) | (intro g1; simp at g1 ⊢; simp [g1]; done) | (simp only [nrmT] at *; omega) | (simp at * <;> omega) | (simp_all <;> omega) | (simp_all; done)
      · first | omega | rfl | (intro hg; simp only [nrmT] at hg; omega) | (intro g1 g2; simp [g1, g2]; done) | (intro g1; simp at g1 ⊢; simp [g1]; done) | (simp only [nrmT] at *; omega) | (simp at * <;> omega) | (simp_all <;> omega) | (simp_all; done)
      · have e : out.length = xs.length := by rw [h3]; exact copy_len (by omega) (by simp)
        omega
      · have e : out.length = xs.length := by rw [h3]; exact copy_len (by omega) (by simp)
        omega
      · first | omega | rfl | (intro hg; simp only [nrmT] at hg; omega) | (intro g1 g2; simp [g1, g2]; done) | (intro g1; simp at g1 ⊢; simp [g1]; done) | (simp only [nrmT] at *; omega) | (simp at * <;> omega) | (simp_all <;> omega) | (simp_all; done)
      · refine ⟨(out.set i.toNat (xs.getD i.toNat 0)), (i + 1), ?_⟩
        refine ⟨?_, ?_, rfl, ?_, rfl, rfl⟩
        · refine ⟨?_, ?_, ?_⟩
          · first | omega | rfl | (intro hg; simp only [nrmT] at hg; omega) | (intro g1 g2; simp [g1, g2]; done) | (intro g1; simp at g1 ⊢; simp [g1]; done) | (simp only [nrmT] at *; omega) | (simp at * <;> omega) | (simp_all <;> omega) | (simp_all; done)
          · first | omega | rfl | (intro hg; simp only [nrmT] at hg; omega) | (intro g1 g2; simp [g1, g2]; done) | (intro g1; simp at g1 ⊢; simp [g1]; done) | (simp only [nrmT] at *; omega) | (simp at * <;> omega) | (simp_all <;> omega) | (simp_all; done)
          · rw [h3]; exact copy_step h1 b1 (by simp)
        · first | (show _ < _; omega) | (simp only [l_toIntS_mJ0]; omega) | (simp only [l_toIntS_mJ0] at *; simp at *; omega)
        · simp
    · intro b2
      try simp only [nrmT] at b2
      refine ⟨rfl, ?_⟩
      · rw [h3, take_all (by omega)]; simp; omega
theorem l_toIntS_pc (xs : List Int) (hn : xs.length ≤ 1048576) : PC Try.prog 38 [.sl (.ints xs)] (.one (.d (.sl (.ints xs)))) :=
  pc_wf @Try.call38 fun hw => pc_by (by kernel_rfl) Try.func38 @Try.call38 (by kernel_rfl) l_toIntS_C (l_toIntS_A xs) (by kernel_rfl) (l_toIntS_vc xs hn hw.1) (by kernel_rfl)
def l_toIntS_orc : List D → Orc := orcN [some .ints] fun ds => match ds with
  | [.sl (.ints xs)] => some (.one (.d (.sl (.ints xs))))
  | _ => none
abbrev l_toIntSS_JJ0 (xss : List (List Int)) (out : List (List Int)) (i : Int) : Prop := (0 ≤ i) ∧ (i ≤ (xss.length : Int)) ∧ (out = xss.take i.toNat ++ (List.replicate xss.length []).drop i.toNat)
abbrev l_toIntSS_mJ0 (xss : List (List Int)) (out : List (List Int)) (i : Int) : Nat := (xss.length - i).toNat
def l_toIntSS_C (f : FuncId) (ds : List D) : Orc := bif Nat.beq f 38 then l_toIntS_orc ds else .no
def l_toIntSS_A (xss : List (List Int)) : Ann := .two (.none) (.two (.none) (.two (.two (.none) (.loop (cut2 (fun (out : List (List Int)) (i : Int) => l_toIntSS_JJ0 xss out i) (fun (out : List (List Int)) (i : Int) => [(0, .d false (.sl (.rows xss))), (3, .own 7 out.length), (4, .d true (.int .i64 i))]) (fun (out : List (List Int)) (i : Int) => [(7, .arr true 26 (.rows out))])) (fun g => l_toIntSS_mJ0 xss g.1 g.2) (fun _ => .none))) (.none)))
def l_toIntSS_P (xss : List (List Int)) : Prop :=
  ((xss.length : Int) = (xss.length : Int)) ∧ ((0 : Int) ≤ (xss.length : Int)) ∧ (((xss.length : Int) : Int) * ((24 : Nat) : Int) ≤ 140737488355328) ∧ ((∃ out' : List (List Int), ∃ i' : Int, (l_toIntSS_JJ0 xss out' i') ∧ (xss = xss) ∧ ((xss.length : Int).toNat = out'.length) ∧ ((0 : Int) = i') ∧ ((List.replicate ((xss.length : Int).toNat) ([] : List Int)) = out')) ∧ (∀ out : List (List Int), ∀ i : Int, (l_toIntSS_JJ0 xss out i) → (((decide (i < (xss.length : Int))) = true → ((0 : Int) ≤ i) ∧ ((i : Int) < xss.length) ∧ (i.toNat < xss.length) ∧ (PC Try.prog 38 [.sl (.ints (xss.getD i.toNat []))] (.one (.d (.sl (.ints (xss.getD i.toNat [])))))) ∧ ((0 : Int) ≤ i) ∧ ((i : Int) < (out.length : Int)) ∧ (i.toNat < out.length) ∧ (-9223372036854775808 ≤ (i + 1) ∧ (i + 1) ≤ 9223372036854775807) ∧ (∃ out' : List (List Int), ∃ i' : Int, (l_toIntSS_JJ0 xss out' i') ∧ (l_toIntSS_mJ0 xss out' i' < l_toIntSS_mJ0 xss out i) ∧ (xss = xss) ∧ (out.length = out'.length) ∧ ((i + 1) = i') ∧ ((out.set i.toNat (xss.getD i.toNat [])) = out'))) ∧ ((decide (i < (xss.length : Int))) = false → ((out.length = out.length) ∧ ((out : List (List Int)) = xss))))))
theorem l_toIntSS_vc (xss : List (List Int)) (hn : xss.length ≤ 1048576) (hm : ∀ xs ∈ xss, xs.length ≤ 1048576) (w_xss : (xss.length : Int) ≤ 9223372036854775807) (v_xss : ∀ x9 ∈ xss, (x9.length : Int) ≤ 9223372036854775807) : l_toIntSS_P xss := by
  unfold l_toIntSS_P
  refine ⟨rfl, ?_, ?_, ?_, ?_⟩
  · first | omega | rfl | (intro hg; simp only [nrmT] at hg; omega) | (intro g1 g2; simp [g1, g2]; done) | (intro g1; simp at g1 ⊢; simp [g1]; done) | (simp only [nrmT] at *; omega) | (simp at * <;> omega) | (simp_all <;> omega) | (simp_all; done)
  · first | omega | rfl | (intro hg; simp only [nrmT] at hg; omega) | (intro g1 g2; simp [g1, g2]; done) | (intro g1; simp at g1 ⊢; simp [g1]; done) | (simp only [nrmT] at *; omega) | (simp at * <;> omega) | (simp_all <;> omega) | (simp_all; done)
  · refine ⟨(List.replicate ((xss.length : Int).toNat) ([] : List Int)), 0, ?_⟩
    refine ⟨?_, rfl, ?_, rfl, rfl⟩
    · refine ⟨?_, ?_, ?_⟩
      · first | omega | rfl | (intro hg; simp only [nrmT] at hg; omega) | (intro g1 g2; simp [g1, g2]; done) | (intro g1; simp at g1 ⊢; simp [g1]; done) | (simp only [nrmT] at *; omega) | (simp at * <;> omega) | (simp_all <;> omega) | (simp_all; done)
      · first | omega | rfl | (intro hg; simp only [nrmT] at hg; omega) | (intro g1 g2; simp [g1, g2]; done) | (intro g1; simp at g1 ⊢; simp [g1]; done) | (simp only [nrmT] at *; omega) | (simp at * <;> omega) | (simp_all <;> omega) | (simp_all; done)
      · simp
    · simp
  · intro out i hJ
    obtain ⟨h1, h2, h3⟩ := hJ
    refine ⟨?_, ?_⟩
    · intro b1
      try simp only [nrmT] at b1
      refine ⟨?_, ?_, ?_, ?_, ?_, ?_, ?_, ?_, ?_⟩
      · first | omega | rfl | (intro hg; simp only [nrmT] at hg; omega) | (intro g1 g2; simp [g1, g2]; done) | (intro g1; simp at g1 ⊢; simp [g1]; done) | (simp only [nrmT] at *; omega) | (simp at * <;> omega) | (simp_all <;> omega) | (simp_all; done)
      · first | omega | rfl | (intro hg; simp only [nrmT] at hg; omega) | (intro g1 g2; simp [g1, g2]; done) | (intro g1; simp at g1 ⊢; simp [g1]; done) | (simp only [nrmT] at *; omega) | (simp at * <;> omega) | (simp_all <;> omega) | (simp_all; done)
      · first | omega | rfl | (intro hg; simp only [nrmT] at hg; omega) | (intro g1 g2; simp [g1, g2]; done) | (intro g1; simp at g1 ⊢; simp [g1]; done) | (simp only [nrmT] at *; omega) | (simp at * <;> omega) | (simp_all <;> omega) | (simp_all; done)
      · refine l_toIntS_pc (xss.getD i.toNat []) ?_
        · exact hm _ (getD_memI h1 b1)
      · first | omega | rfl | (intro hg; simp only [nrmT] at hg; omega) | (intro g1 g2; simp [g1, g2]; done) | (intro g1; simp at g1 ⊢; simp [g1]; done) | (simp only [nrmT] at *; omega) | (simp at * <;> omega) | (simp_all <;> omega) | (simp_all; done)
      · have e : out.length = xss.length := by rw [h3]; exact copy_len (by omega) (by simp)
        omega
      · have e : out.length = xss.length := by rw [h3]; exact copy_len (by omega) (by simp)
        omega
      · first | omega | rfl | (intro hg; simp only [nrmT] at hg; omega) | (intro g1 g2; simp [g1, g2]; done) | (intro g1; simp at g1 ⊢; simp [g1]; done) | (simp only [nrmT] at *; omega) | (simp at * <;> omega) | (simp_all <;> omega) | (simp_all; done)
      · refine ⟨(out.set i.toNat (xss.getD i.toNat [])), (i + 1), ?_⟩
        refine ⟨?_, ?_, rfl, ?_, rfl, rfl⟩
        · refine ⟨?_, ?_, ?_⟩
          · first | omega | rfl | (intro hg; simp only [nrmT] at hg; omega) | (intro g1 g2; simp [g1, g2]; done) | (intro g1; simp at g1 ⊢; simp [g1]; done) | (simp only [nrmT] at *; omega) | (simp at * <;> omega) | (simp_all <;> omega) | (simp_all; done)
          · first | omega | rfl | (intro hg; simp only [nrmT] at hg; omega) | (intro g1 g2; simp [g1, g2]; done) | (intro g1; simp at g1 ⊢; simp [g1]; done) | (simp only [nrmT] at *; omega) | (simp at * <;> omega) | (simp_all <;> omega) | (simp_all; done)
          · rw [h3]; exact copy_step h1 b1 (by simp)
        · first | (show _ < _; omega) | (simp only [l_toIntSS_mJ0]; omega) | (simp only [l_toIntSS_mJ0] at *; simp at *; omega)
        · simp
    · intro b2
      try simp only [nrmT] at b2
      refine ⟨rfl, ?_⟩
      · rw [h3, take_all (by omega)]; simp; omega
theorem l_toIntSS_pc (xss : List (List Int)) (hn : xss.length ≤ 1048576) (hm : ∀ xs ∈ xss, xs.length ≤ 1048576) : PC Try.prog 67 [.sl (.rows xss)] (.one (.d (.sl (.rows xss)))) :=
  pc_wf @Try.call67 fun hw => pc_by (by kernel_rfl) Try.func67 @Try.call67 (by kernel_rfl) l_toIntSS_C (l_toIntSS_A xss) (by kernel_rfl) (l_toIntSS_vc xss hn hm hw.1.1 hw.1.2) (by kernel_rfl)
def l_toIntSS_orc : List D → Orc := orcN [some .rows] fun ds => match ds with
  | [.sl (.rows xss)] => some (.one (.d (.sl (.rows xss))))
  | _ => none
theorem beq_of_all {α : Type} [BEq α] [LawfulBEq α] {d : α} {xs ys : List α} (hl : xs.length = ys.length) : allTo (fun k => xs.getD k d == ys.getD k d) xs.length = (xs == ys) := by
  rw [Bool.eq_iff_iff, allTo_iff]
  simp only [beq_iff_eq]
  constructor
  · intro h
    refine List.ext_getElem hl fun k h1 h2 => ?_
    have := h k h1
    simpa [h1, h2] using this
  · intro h k _
    rw [h]
theorem len_ne {α : Type} [BEq α] [LawfulBEq α] {xs ys : List α} (h : ¬ xs.length = ys.length) : (xs == ys) = false := by
  rw [Bool.eq_false_iff]; intro h2; simp only [beq_iff_eq] at h2; exact h (by rw [h2])
abbrev l_eqIntS_JJ0 (xs : List Int) (ys : List Int) (i : Int) : Prop := (0 ≤ i) ∧ (i ≤ (xs.length : Int)) ∧ (allTo (fun k => xs.getD k 0 == ys.getD k 0) i.toNat = true) ∧ (xs.length = ys.length)
abbrev l_eqIntS_mJ0 (xs : List Int) (ys : List Int) (i : Int) : Nat := (xs.length - i).toNat
def l_eqIntS_C (f : FuncId) (ds : List D) : Orc := .no
def l_eqIntS_A (xs : List Int) (ys : List Int) : Ann := .two (.none) (.two (.none) (.two (.two (.none) (.loop (cut1 (fun (i : Int) => l_eqIntS_JJ0 xs ys i) (fun (i : Int) => [(0, .d false (.sl (.ints xs))), (1, .d false (.sl (.ints ys))), (5, .d true (.int .i64 i))]) (fun (i : Int) => [])) (fun g => l_eqIntS_mJ0 xs ys g) (fun _ => .none))) (.none)))
def l_eqIntS_P (xs : List Int) (ys : List Int) : Prop :=
  ((((xs.length : Int) != (ys.length : Int)) = true → ((false = (xs == ys)))) ∧ (((xs.length : Int) != (ys.length : Int)) = false → ((∃ i' : Int, (l_eqIntS_JJ0 xs ys i') ∧ (xs = xs) ∧ (ys = ys) ∧ ((0 : Int) = i')) ∧ (∀ i : Int, (l_eqIntS_JJ0 xs ys i) → (((decide (i < (xs.length : Int))) = true → (true = true) ∧ ((0 : Int) ≤ i) ∧ ((i : Int) < xs.length) ∧ (i.toNat < xs.length) ∧ ((0 : Int) ≤ i) ∧ ((i : Int) < ys.length) ∧ (i.toNat < ys.length) ∧ ((((xs.getD i.toNat 0) != (ys.getD i.toNat 0)) = true → ((false = (xs == ys)))) ∧ (((xs.getD i.toNat 0) != (ys.getD i.toNat 0)) = false → (-9223372036854775808 ≤ (i + 1) ∧ (i + 1) ≤ 9223372036854775807) ∧ (∃ i' : Int, (l_eqIntS_JJ0 xs ys i') ∧ (l_eqIntS_mJ0 xs ys i' < l_eqIntS_mJ0 xs ys i) ∧ (xs = xs) ∧ (ys = ys) ∧ ((i + 1) = i'))))) ∧ ((decide (i < (xs.length : Int))) = false → ((true = (xs == ys)))))))))
theorem l_eqIntS_vc (xs : List Int) (ys : List Int)  (w_xs : (xs.length : Int) ≤ 9223372036854775807) (w_ys : (ys.length : Int) ≤ 9223372036854775807) : l_eqIntS_P xs ys := by
  unfold l_eqIntS_P
  refine ⟨?_, ?_⟩
  · intro b1
    try simp only [nrmT] at b1
    exact (len_ne (by omega)).symm
  · intro b2
    try simp only [nrmT] at b2
    refine ⟨?_, ?_⟩
    · refine ⟨0, ?_⟩
      refine ⟨?_, rfl, rfl, rfl⟩
      · refine ⟨?_, ?_, ?_, ?_⟩
        · first | omega | rfl | (intro hg; simp only [nrmT] at hg; omega) | (intro g1 g2; simp [g1, g2]; done) | (intro g1; simp at g1 ⊢; simp [g1]; done) | (simp only [nrmT] at *; omega) | (simp at * <;> omega) | (simp_all <;> omega) | (simp_all; done)
        · first | omega | rfl | (intro hg; simp only [nrmT] at hg; omega) | (intro g1 g2; simp [g1, g2]; done) | (intro g1; simp at g1 ⊢; simp [g1]; done) | (simp only [nrmT] at *; omega) | (simp at * <;> omega) | (simp_all <;> omega) | (simp_all; done)
        · first | omega | rfl | (intro hg; simp only [nrmT] at hg; omega) | (intro g1 g2; simp [g1, g2]; done) | (intro g1; simp at g1 ⊢; simp [g1]; done) | (simp only [nrmT] at *; omega) | (simp at * <;> omega) | (simp_all <;> omega) | (simp_all; done)
        · first | omega | rfl | (intro hg; simp only [nrmT] at hg; omega) | (intro g1 g2; simp [g1, g2]; done) | (intro g1; simp at g1 ⊢; simp [g1]; done) | (simp only [nrmT] at *; omega) | (simp at * <;> omega) | (simp_all <;> omega) | (simp_all; done)
    · intro i hJ
      obtain ⟨h1, h2, h3, h4⟩ := hJ
      refine ⟨?_, ?_⟩
      · intro b3
        try simp only [nrmT] at b3
        refine ⟨rfl, ?_, ?_, ?_, ?_, ?_, ?_, ?_, ?_⟩
        · first | omega | rfl | (intro hg; simp only [nrmT] at hg; omega) | (intro g1 g2; simp [g1, g2]; done) | (intro g1; simp at g1 ⊢; simp [g1]; done) | (simp only [nrmT] at *; omega) | (simp at * <;> omega) | (simp_all <;> omega) | (simp_all; done)
        · first | omega | rfl | (intro hg; simp only [nrmT] at hg; omega) | (intro g1 g2; simp [g1, g2]; done) | (intro g1; simp at g1 ⊢; simp [g1]; done) | (simp only [nrmT] at *; omega) | (simp at * <;> omega) | (simp_all <;> omega) | (simp_all; done)
        · first | omega | rfl | (intro hg; simp only [nrmT] at hg; omega) | (intro g1 g2; simp [g1, g2]; done) | (intro g1; simp at g1 ⊢; simp [g1]; done) | (simp only [nrmT] at *; omega) | (simp at * <;> omega) | (simp_all <;> omega) | (simp_all; done)
        · first | omega | rfl | (intro hg; simp only [nrmT] at hg; omega) | (intro g1 g2; simp [g1, g2]; done) | (intro g1; simp at g1 ⊢; simp [g1]; done) | (simp only [nrmT] at *; omega) | (simp at * <;> omega) | (simp_all <;> omega) | (simp_all; done)
        · first | omega | rfl | (intro hg; simp only [nrmT] at hg; omega) | (intro g1 g2; simp [g1, g2]; done) | (intro g1; simp at g1 ⊢; simp [g1]; done) | (simp only [nrmT] at *; omega) | (simp at * <;> omega) | (simp_all <;> omega) | (simp_all; done)
        · first | omega | rfl | (intro hg; simp only [nrmT] at hg; omega) | (intro g1 g2; simp [g1, g2]; done) | (intro g1; simp at g1 ⊢; simp [g1]; done) | (simp only [nrmT] at *; omega) | (simp at * <;> omega) | (simp_all <;> omega) | (simp_all; done)
        · intro b4
          try simp only [nrmT] at b4
          rw [← beq_of_all (d := 0) h4]; exact (allTo_falseI h1 (by omega) (by simpa using b4)).symm
        · intro b5
          try simp only [nrmT] at b5
          refine ⟨?_, ?_⟩
          · first | omega | rfl | (intro hg; simp only [nrmT] at hg; omega) | (intro g1 g2; simp [g1, g2]; done) | (intro g1; simp at g1 ⊢; simp [g1]; done) | (simp only [nrmT] at *; omega) | (simp at * <;> omega) | (simp_all <;> omega) | (simp_all; done)
          · refine ⟨(i + 1), ?_⟩
            refine ⟨?_, ?_, rfl, rfl, rfl⟩
            · refine ⟨?_, ?_, ?_, ?_⟩
              · first | omega | rfl | (intro hg; simp only [nrmT] at hg; omega) | (intro g1 g2; simp [g1, g2]; done) | (intro g1; simp at g1 ⊢; simp [g1]; done) | (simp only [nrmT] at *; omega) | (simp at * <;> omega) | (simp_all <;> omega) | (simp_all; done)
              · first | omega | rfl | (intro hg; simp only [nrmT] at hg; omega) | (intro g1 g2; simp [g1, g2]; done) | (intro g1; simp at g1 ⊢; simp [g1]; done) | (simp only [nrmT] at *; omega) | (simp at * <;> omega) | (simp_all <;> omega) | (simp_all; done)
              · exact allTo_step h1 h3 (by simpa using b5)
              · first | omega | rfl | (intro hg; simp only [nrmT] at hg; omega) | (intro g1 g2; simp [g1, g2]; done) | (intro g1; simp at g1 ⊢; simp [g1]; done) | (simp only [nrmT] at *; omega) | (simp at * <;> omega) | (simp_all <;> omega) | (simp_all; done)
            · first | (show _ < _; omega) | (simp only [l_eqIntS_mJ0]; omega) | (simp only [l_eqIntS_mJ0] at *; simp at *; omega)
      · intro b6
        try simp only [nrmT] at b6
        rw [← beq_of_all (d := 0) h4, ← h3]; congr 1; omega
theorem l_eqIntS_pc (xs : List Int) (ys : List Int)  : PC Try.prog 32 [.sl (.ints xs), .sl (.ints ys)] (.one (.d (.bool (xs == ys)))) :=
  pc_wf @Try.call32 fun hw => pc_by (by kernel_rfl) Try.func32 @Try.call32 (by kernel_rfl) l_eqIntS_C (l_eqIntS_A xs ys) (by kernel_rfl) (l_eqIntS_vc xs ys hw.1 hw.2.1) (by kernel_rfl)
def l_eqIntS_orc : List D → Orc := orcN [some .ints, some .ints] fun ds => match ds with
  | [.sl (.ints xs), .sl (.ints ys)] => some (.one (.d (.bool (xs == ys))))
  | _ => none
abbrev l_eqIntSS_JJ0 (xs : List (List Int)) (ys : List (List Int)) (i : Int) : Prop := (0 ≤ i) ∧ (i ≤ (xs.length : Int)) ∧ (allTo (fun k => xs.getD k [] == ys.getD k []) i.toNat = true) ∧ (xs.length = ys.length)
abbrev l_eqIntSS_mJ0 (xs : List (List Int)) (ys : List (List Int)) (i : Int) : Nat := (xs.length - i).toNat
def l_eqIntSS_C (f : FuncId) (ds : List D) : Orc := bif Nat.beq f 32 then l_eqIntS_orc ds else .no
def l_eqIntSS_A (xs : List (List Int)) (ys : List (List Int)) : Ann := .two (.none) (.two (.none) (.two (.two (.none) (.loop (cut1 (fun (i : Int) => l_eqIntSS_JJ0 xs ys i) (fun (i : Int) => [(0, .d false (.sl (.rows xs))), (1, .d false (.sl (.rows ys))), (5, .d true (.int .i64 i))]) (fun (i : Int) => [])) (fun g => l_eqIntSS_mJ0 xs ys g) (fun _ => .none))) (.none)))
def l_eqIntSS_P (xs : List (List Int)) (ys : List (List Int)) : Prop :=
  ((((xs.length : Int) != (ys.length : Int)) = true → ((false = (xs == ys)))) ∧ (((xs.length : Int) != (ys.length : Int)) = false → ((∃ i' : Int, (l_eqIntSS_JJ0 xs ys i') ∧ (xs = xs) ∧ (ys = ys) ∧ ((0 : Int) = i')) ∧ (∀ i : Int, (l_eqIntSS_JJ0 xs ys i) → (((decide (i < (xs.length : Int))) = true → (true = true) ∧ ((0 : Int) ≤ i) ∧ ((i : Int) < xs.length) ∧ (i.toNat < xs.length) ∧ ((0 : Int) ≤ i) ∧ ((i : Int) < ys.length) ∧ (i.toNat < ys.length) ∧ (PC Try.prog 32 [.sl (.ints (xs.getD i.toNat [])), .sl (.ints (ys.getD i.toNat []))] (.one (.d (.bool ((xs.getD i.toNat []) == (ys.getD i.toNat [])))))) ∧ (((!((xs.getD i.toNat []) == (ys.getD i.toNat []))) = true → ((false = (xs == ys)))) ∧ ((!((xs.getD i.toNat []) == (ys.getD i.toNat []))) = false → (-9223372036854775808 ≤ (i + 1) ∧ (i + 1) ≤ 9223372036854775807) ∧ (∃ i' : Int, (l_eqIntSS_JJ0 xs ys i') ∧ (l_eqIntSS_mJ0 xs ys i' < l_eqIntSS_mJ0 xs ys i) ∧ (xs = xs) ∧ (ys = ys) ∧ ((i + 1) = i'))))) ∧ ((decide (i < (xs.length : Int))) = false → ((true = (xs == ys)))))))))
theorem l_eqIntSS_vc (xs : List (List Int)) (ys : List (List Int))  (w_xs : (xs.length : Int) ≤ 9223372036854775807) (v_xs : ∀ x9 ∈ xs, (x9.length : Int) ≤ 9223372036854775807) (w_ys : (ys.length : Int) ≤ 9223372036854775807) (v_ys : ∀ x9 ∈ ys, (x9.length : Int) ≤ 9223372036854775807) : l_eqIntSS_P xs ys := by
  unfold l_eqIntSS_P
  refine ⟨?_, ?_⟩
  · intro b1
    try simp only [nrmT] at b1
    exact (len_ne (by omega)).symm
  · intro b2
    try simp only [nrmT] at b2
    refine ⟨?_, ?_⟩
    · refine ⟨0, ?_⟩
      refine ⟨?_, rfl, rfl, rfl⟩
      · refine ⟨?_, ?_, ?_, ?_⟩
        · first | omega | rfl | (intro hg; simp only [nrmT] at hg; omega) | (intro g1 g2; simp [g1, g2]; done) | (intro g1; simp at g1 ⊢; simp [g1]; done) | (simp only [nrmT] at *; omega) | (simp at * <;> omega) | (simp_all <;> omega) | (simp_all; done)
        · first | omega | rfl | (intro hg; simp only [nrmT] at hg; omega) | (intro g1 g2; simp [g1, g2]; done) | (intro g1; simp at g1 ⊢; simp [g1]; done) | (simp only [nrmT] at *; omega) | (simp at * <;> omega) | (simp_all <;> omega) | (simp_all; done)
        · first | omega | rfl | (intro hg; simp only [nrmT] at hg; omega) | (intro g1 g2; simp [g1, g2]; done) | (intro g1; simp at g1 ⊢; simp [g1]; done) | (simp only [nrmT] at *; omega) | (simp at * <;> omega) | (simp_all <;> omega) | (simp_all; done)
        · first | omega | rfl | (intro hg; simp only [nrmT] at hg; omega) | (intro g1 g2; simp [g1, g2]; done) | (intro g1; simp at g1 ⊢; simp [g1]; done) | (simp only [nrmT] at *; omega) | (simp at * <;> omega) | (simp_all <;> omega) | (simp_all; done)
    · intro i hJ
      obtain ⟨h1, h2, h3, h4⟩ := hJ
      refine ⟨?_, ?_⟩
      · intro b3
        try simp only [nrmT] at b3
        refine ⟨rfl, ?_, ?_, ?_, ?_, ?_, ?_, l_eqIntS_pc (xs.getD i.toNat []) (ys.getD i.toNat []), ?_, ?_⟩
        · first | omega | rfl | (intro hg; simp only [nrmT] at hg; omega) | (intro g1 g2; simp [g1, g2]; done) | (intro g1; simp at g1 ⊢; simp [g1]; done) | (simp only [nrmT] at *; omega) | (simp at * <;> omega) | (simp_all <;> omega) | (simp_all; done)
        · first | omega | rfl | (intro hg; simp only [nrmT] at hg; omega) | (intro g1 g2; simp [g1, g2]; done) | (intro g1; simp at g1 ⊢; simp [g1]; done) | (simp only [nrmT] at *; omega) | (simp at * <;> omega) | (simp_all <;> omega) | (simp_all; done)
        · first | omega | rfl | (intro hg; simp only [nrmT] at hg; omega) | (intro g1 g2; simp [g1, g2]; done) | (intro g1; simp at g1 ⊢; simp [g1]; done) | (simp only [nrmT] at *; omega) | (simp at * <;> omega) | (simp_all <;> omega) | (simp_all; done)
        · first | omega | rfl | (intro hg; simp only [nrmT] at hg; omega) | (intro g1 g2; simp [g1, g2]; done) | (intro g1; simp at g1 ⊢; simp [g1]; done) | (simp only [nrmT] at *; omega) | (simp at * <;> omega) | (simp_all <;> omega) | (simp_all; done)
        · first | omega | rfl | (intro hg; simp only [nrmT] at hg; omega) | (intro g1 g2; simp [g1, g2]; done) | (intro g1; simp at g1 ⊢; simp [g1]; done) | (simp only [nrmT] at *; omega) | (simp at * <;> omega) | (simp_all <;> omega) | (simp_all; done)
        · first | omega | rfl | (intro hg; simp only [nrmT] at hg; omega) | (intro g1 g2; simp [g1, g2]; done) | (intro g1; simp at g1 ⊢; simp [g1]; done) | (simp only [nrmT] at *; omega) | (simp at * <;> omega) | (simp_all <;> omega) | (simp_all; done)
        · intro b4
          try simp only [nrmT] at b4
          rw [← beq_of_all (d := []) h4]; exact (allTo_falseI h1 (by omega) (by simpa using b4)).symm
        · intro b5
          try simp only [nrmT] at b5
          refine ⟨?_, ?_⟩
          · first | omega | rfl | (intro hg; simp only [nrmT] at hg; omega) | (intro g1 g2; simp [g1, g2]; done) | (intro g1; simp at g1 ⊢; simp [g1]; done) | (simp only [nrmT] at *; omega) | (simp at * <;> omega) | (simp_all <;> omega) | (simp_all; done)
          · refine ⟨(i + 1), ?_⟩
            refine ⟨?_, ?_, rfl, rfl, rfl⟩
            · refine ⟨?_, ?_, ?_, ?_⟩
              · first | omega | rfl | (intro hg; simp only [nrmT] at hg; omega) | (intro g1 g2; simp [g1, g2]; done) | (intro g1; simp at g1 ⊢; simp [g1]; done) | (simp only [nrmT] at *; omega) | (simp at * <;> omega) | (simp_all <;> omega) | (simp_all; done)
              · first | omega | rfl | (intro hg; simp only [nrmT] at hg; omega) | (intro g1 g2; simp [g1, g2]; done) | (intro g1; simp at g1 ⊢; simp [g1]; done) | (simp only [nrmT] at *; omega) | (simp at * <;> omega) | (simp_all <;> omega) | (simp_all; done)
              · exact allTo_step h1 h3 (by simpa using b5)
              · first | omega | rfl | (intro hg; simp only [nrmT] at hg; omega) | (intro g1 g2; simp [g1, g2]; done) | (intro g1; simp at g1 ⊢; simp [g1]; done) | (simp only [nrmT] at *; omega) | (simp at * <;> omega) | (simp_all <;> omega) | (simp_all; done)
            · first | (show _ < _; omega) | (simp only [l_eqIntSS_mJ0]; omega) | (simp only [l_eqIntSS_mJ0] at *; simp at *; omega)
      · intro b6
        try simp only [nrmT] at b6
        rw [← beq_of_all (d := []) h4, ← h3]; congr 1; omega
theorem l_eqIntSS_pc (xs : List (List Int)) (ys : List (List Int))  : PC Try.prog 69 [.sl (.rows xs), .sl (.rows ys)] (.one (.d (.bool (xs == ys)))) :=
  pc_wf @Try.call69 fun hw => pc_by (by kernel_rfl) Try.func69 @Try.call69 (by kernel_rfl) l_eqIntSS_C (l_eqIntSS_A xs ys) (by kernel_rfl) (l_eqIntSS_vc xs ys hw.1.1 hw.1.2 hw.2.1.1 hw.2.1.2) (by kernel_rfl)
def l_eqIntSS_orc : List D → Orc := orcN [some .rows, some .rows] fun ds => match ds with
  | [.sl (.rows xs), .sl (.rows ys)] => some (.one (.d (.bool (xs == ys))))
  | _ => none
def rowOk (row : List Int) (n most : Int) : Bool := row.all (fun x => inB x 0 most) && decide ((row.length : Int) = n)
def goodField (Open : List Int) (Dist : List (List Int)) : Bool :=
  inB (Open.length : Int) 1 7 && Open.all (fun x => inB x 0 99) && decide (Dist.length ≤ 7) && Dist.all (fun l => rowOk l (Open.length : Int) 99)
theorem gf_open {Open : List Int} {Dist : List (List Int)} (h : goodField Open Dist = true) : 1 ≤ Open.length ∧ Open.length ≤ 7 ∧ Dist.length ≤ 7 := by
  simp only [goodField, Bool.and_eq_true, decide_eq_true_eq] at h
  have := inB_le h.1.1.1
  omega
theorem gf_row {Open : List Int} {Dist : List (List Int)} (h : goodField Open Dist = true) {i : Nat} (hi : i < Dist.length) : (Dist.getD i []).length = Open.length ∧ ∀ a, a < Open.length → 0 ≤ (Dist.getD i []).getD a 0 ∧ (Dist.getD i []).getD a 0 ≤ 99 := by
  simp only [goodField, Bool.and_eq_true, decide_eq_true_eq] at h
  have h2 := List.all_eq_true.1 h.2 _ (getD_mem (d := []) hi)
  simp only [rowOk, Bool.and_eq_true, decide_eq_true_eq] at h2
  refine ⟨by omega, fun a ha => ?_⟩
  exact inB_le (List.all_eq_true.1 h2.1 _ (getD_mem (by omega)))
def szField (o : List Int) (d : List (List Int)) (left : Int) : Int := if sz1 o.length left < 0 then -1 else if szRows d (sz1 o.length left) < 0 then -1 else szRows d (sz1 o.length left)
theorem szField_bound {o : List Int} {d : List (List Int)} {left : Int} (h : 0 ≤ szField o d left) : (o.length : Int) ≤ left ∧ (d.length : Int) ≤ left ∧ (∀ xs ∈ d, (xs.length : Int) ≤ left) := by
  unfold szField at h
  by_cases h1 : sz1 o.length left < 0
  · rw [if_pos h1] at h; omega
  · rw [if_neg h1] at h
    obtain ⟨a1, a2⟩ := sz1_bound (by omega : 0 ≤ sz1 o.length left)
    by_cases h2 : szRows d (sz1 o.length left) < 0
    · rw [if_pos h2] at h; omega
    · obtain ⟨b1, b2, b3⟩ := szRows_bound (by omega : 0 ≤ szRows d (sz1 o.length left))
      exact ⟨a2, by omega, fun xs hx => by have := b3 xs hx; omega⟩
def l_szField_C (f : FuncId) (ds : List D) : Orc := bif Nat.beq f 98 then l_szIntS_orc ds else bif Nat.beq f 65 then l_szIntSS_orc ds else .no
def l_szField_A (Open : List Int) (Dist : List (List Int)) (left : Int) : Ann := .none
def l_szField_P (Open : List Int) (Dist : List (List Int)) (left : Int) : Prop :=
  (PC Try.prog 98 [.sl (.ints Open), .int .i64 left] (.one (.d (.int .i64 (sz1 Open.length left))))) ∧ (((decide ((sz1 Open.length left) < 0)) = true → ((((-1) : Int) = (szField Open Dist left)))) ∧ ((decide ((sz1 Open.length left) < 0)) = false → (PC Try.prog 65 [.sl (.rows Dist), .int .i64 (sz1 Open.length left)] (.one (.d (.int .i64 (szRows Dist (sz1 Open.length left)))))) ∧ (((decide ((szRows Dist (sz1 Open.length left)) < 0)) = true → ((((-1) : Int) = (szField Open Dist left)))) ∧ ((decide ((szRows Dist (sz1 Open.length left)) < 0)) = false → (((szRows Dist (sz1 Open.length left)) = (szField Open Dist left)))))))
theorem l_szField_vc (Open : List Int) (Dist : List (List Int)) (left : Int) (hl : 0 ≤ left ∧ left ≤ 1048576) (w_Open : (Open.length : Int) ≤ 9223372036854775807) (w_Dist : (Dist.length : Int) ≤ 9223372036854775807) (v_Dist : ∀ x9 ∈ Dist, (x9.length : Int) ≤ 9223372036854775807) : l_szField_P Open Dist left := by
  unfold l_szField_P
  refine ⟨?_, ?_, ?_⟩
  · refine l_szIntS_pc Open left ?_
    · first | omega | rfl | (intro hg; simp only [nrmT] at hg; omega) | (intro g1 g2; simp [g1, g2]; done) | (intro g1; simp at g1 ⊢; simp [g1]; done) | (simp only [nrmT] at *; omega) | (simp at * <;> omega) | (simp_all <;> omega) | (simp_all; done)
  · intro b1
    try simp only [nrmT] at b1
    unfold szField; first | rw [if_pos (by omega)] | rw [if_neg (by omega), if_pos (by omega)] | rw [if_neg (by omega), if_neg (by omega)]
  · intro b2
    try simp only [nrmT] at b2
    refine ⟨?_, ?_, ?_⟩
    · refine l_szIntSS_pc Dist (sz1 Open.length left) ?_
      · have := sz1_bound (n := Open.length) (left := left) (by omega); omega
    · intro b3
      try simp only [nrmT] at b3
      unfold szField; first | rw [if_pos (by omega)] | rw [if_neg (by omega), if_pos (by omega)] | rw [if_neg (by omega), if_neg (by omega)]
    · intro b4
      try simp only [nrmT] at b4
      unfold szField; first | rw [if_pos (by omega)] | rw [if_neg (by omega), if_pos (by omega)] | rw [if_neg (by omega), if_neg (by omega)]
theorem l_szField_pc (Open : List Int) (Dist : List (List Int)) (left : Int) (hl : 0 ≤ left ∧ left ≤ 1048576) : PC Try.prog 40 [.agg [.sl (.ints Open), .sl (.rows Dist)], .int .i64 left] (.one (.d (.int .i64 (szField Open Dist left)))) :=
  pc_wf @Try.call40 fun hw => pc_by (by kernel_rfl) Try.func40 @Try.call40 (by kernel_rfl) l_szField_C (l_szField_A Open Dist left) (by kernel_rfl) (l_szField_vc Open Dist left hl hw.1.1 hw.1.2.1.1 hw.1.2.1.2) (by kernel_rfl)
def l_szField_orc : List D → Orc := orcN [none, none] fun ds => match ds with
  | [.agg [.sl (.ints Open), .sl (.rows Dist)], .int .i64 left] => some (.one (.d (.int .i64 (szField Open Dist left))))
  | _ => none
def l_toField_C (f : FuncId) (ds : List D) : Orc := bif Nat.beq f 38 then l_toIntS_orc ds else bif Nat.beq f 67 then l_toIntSS_orc ds else .no
def l_toField_A (Open : List Int) (Dist : List (List Int)) : Ann := .none
def l_toField_P (Open : List Int) (Dist : List (List Int)) : Prop :=
  (PC Try.prog 38 [.sl (.ints Open)] (.one (.d (.sl (.ints Open))))) ∧ (PC Try.prog 67 [.sl (.rows Dist)] (.one (.d (.sl (.rows Dist))))) ∧ (((.agg [.sl (.ints Open), .sl (.rows Dist)] : D) = .agg [.sl (.ints Open), .sl (.rows Dist)]))
theorem l_toField_vc (Open : List Int) (Dist : List (List Int)) (h1 : Open.length ≤ 1048576) (h2 : Dist.length ≤ 1048576) (h3 : ∀ xs ∈ Dist, xs.length ≤ 1048576) (w_Open : (Open.length : Int) ≤ 9223372036854775807) (w_Dist : (Dist.length : Int) ≤ 9223372036854775807) (v_Dist : ∀ x9 ∈ Dist, (x9.length : Int) ≤ 9223372036854775807) : l_toField_P Open Dist := by
  unfold l_toField_P
  refine ⟨?_, ?_, rfl⟩
  · refine l_toIntS_pc Open ?_
    · assumption
  · refine l_toIntSS_pc Dist ?_ ?_
    · assumption
    · assumption
theorem l_toField_pc (Open : List Int) (Dist : List (List Int)) (h1 : Open.length ≤ 1048576) (h2 : Dist.length ≤ 1048576) (h3 : ∀ xs ∈ Dist, xs.length ≤ 1048576) : PC Try.prog 42 [.agg [.sl (.ints Open), .sl (.rows Dist)]] (.one (.d (.agg [.sl (.ints Open), .sl (.rows Dist)]))) :=
  pc_wf @Try.call42 fun hw => pc_by (by kernel_rfl) Try.func42 @Try.call42 (by kernel_rfl) l_toField_C (l_toField_A Open Dist) (by kernel_rfl) (l_toField_vc Open Dist h1 h2 h3 hw.1.1 hw.1.2.1.1 hw.1.2.1.2) (by kernel_rfl)
def l_toField_orc : List D → Orc := orcN [none] fun ds => match ds with
  | [.agg [.sl (.ints Open), .sl (.rows Dist)]] => some (.one (.d (.agg [.sl (.ints Open), .sl (.rows Dist)])))
  | _ => none
def l_eqField_C (f : FuncId) (ds : List D) : Orc := bif Nat.beq f 32 then l_eqIntS_orc ds else bif Nat.beq f 69 then l_eqIntSS_orc ds else .no
def l_eqField_A (o1 : List Int) (d1 : List (List Int)) (o2 : List Int) (d2 : List (List Int)) : Ann := .none
def l_eqField_P (o1 : List Int) (d1 : List (List Int)) (o2 : List Int) (d2 : List (List Int)) : Prop :=
  (PC Try.prog 32 [.sl (.ints o1), .sl (.ints o2)] (.one (.d (.bool (o1 == o2))))) ∧ (((!(o1 == o2)) = true → ((false = ((o1 == o2) && (d1 == d2))))) ∧ ((!(o1 == o2)) = false → (PC Try.prog 69 [.sl (.rows d1), .sl (.rows d2)] (.one (.d (.bool (d1 == d2))))) ∧ (((!(d1 == d2)) = true → ((false = ((o1 == o2) && (d1 == d2))))) ∧ ((!(d1 == d2)) = false → ((true = ((o1 == o2) && (d1 == d2))))))))
theorem l_eqField_vc (o1 : List Int) (d1 : List (List Int)) (o2 : List Int) (d2 : List (List Int))  (w_o1 : (o1.length : Int) ≤ 9223372036854775807) (w_d1 : (d1.length : Int) ≤ 9223372036854775807) (v_d1 : ∀ x9 ∈ d1, (x9.length : Int) ≤ 9223372036854775807) (w_o2 : (o2.length : Int) ≤ 9223372036854775807) (w_d2 : (d2.length : Int) ≤ 9223372036854775807) (v_d2 : ∀ x9 ∈ d2, (x9.length : Int) ≤ 9223372036854775807) : l_eqField_P o1 d1 o2 d2 := by
  unfold l_eqField_P
  refine ⟨l_eqIntS_pc o1 o2, ?_, ?_⟩
  · intro b1
    try simp only [nrmT] at b1
    first | omega | rfl | (intro hg; simp only [nrmT] at hg; omega) | (intro g1 g2; simp [g1, g2]; done) | (intro g1; simp at g1 ⊢; simp [g1]; done) | (simp only [nrmT] at *; omega) | (simp at * <;> omega) | (simp_all <;> omega) | (simp_all; done)
  · intro b2
    try simp only [nrmT] at b2
    refine ⟨l_eqIntSS_pc d1 d2, ?_, ?_⟩
    · intro b3
      try simp only [nrmT] at b3
      first | omega | rfl | (intro hg; simp only [nrmT] at hg; omega) | (intro g1 g2; simp [g1, g2]; done) | (intro g1; simp at g1 ⊢; simp [g1]; done) | (simp only [nrmT] at *; omega) | (simp at * <;> omega) | (simp_all <;> omega) | (simp_all; done)
    · intro b4
      try simp only [nrmT] at b4
      first | omega | rfl | (intro hg; simp only [nrmT] at hg; omega) | (intro g1 g2; simp [g1, g2]; done) | (intro g1; simp at g1 ⊢; simp [g1]; done) | (simp only [nrmT] at *; omega) | (simp at * <;> omega) | (simp_all <;> omega) | (simp_all; done)
theorem l_eqField_pc (o1 : List Int) (d1 : List (List Int)) (o2 : List Int) (d2 : List (List Int))  : PC Try.prog 44 [.agg [.sl (.ints o1), .sl (.rows d1)], .agg [.sl (.ints o2), .sl (.rows d2)]] (.one (.d (.bool ((o1 == o2) && (d1 == d2))))) :=
  pc_wf @Try.call44 fun hw => pc_by (by kernel_rfl) Try.func44 @Try.call44 (by kernel_rfl) l_eqField_C (l_eqField_A o1 d1 o2 d2) (by kernel_rfl) (l_eqField_vc o1 d1 o2 d2 hw.1.1 hw.1.2.1.1 hw.1.2.1.2 hw.2.1.1 hw.2.1.2.1.1 hw.2.1.2.1.2) (by kernel_rfl)
def l_eqField_orc : List D → Orc := orcN [none, none] fun ds => match ds with
  | [.agg [.sl (.ints o1), .sl (.rows d1)], .agg [.sl (.ints o2), .sl (.rows d2)]] => some (.one (.d (.bool ((o1 == o2) && (d1 == d2)))))
  | _ => none
abbrev s_l2Row_JJ0 (row : List Int) (n : Int) (most : Int) (i : Int) : Prop := (0 ≤ i) ∧ (i ≤ (row.length : Int)) ∧ (allTo (fun k => inB (row.getD k 0) 0 most) i.toNat = true)
abbrev s_l2Row_mJ0 (row : List Int) (n : Int) (most : Int) (i : Int) : Nat := (row.length - i).toNat
def s_l2Row_C (f : FuncId) (ds : List D) : Orc := bif Nat.beq f 104 then s_l1In_orc ds else .no
def s_l2Row_A (row : List Int) (n : Int) (most : Int) : Ann := .two (.none) (.two (.two (.none) (.loop (cut1 (fun (i : Int) => s_l2Row_JJ0 row n most i) (fun (i : Int) => [(0, .d false (.sl (.ints row))), (1, .d false (.int .i64 n)), (2, .d false (.int .i64 most)), (7, .d true (.int .i64 i))]) (fun (i : Int) => [])) (fun g => s_l2Row_mJ0 row n most g) (fun _ => .none))) (.none))
def s_l2Row_P (row : List Int) (n : Int) (most : Int) : Prop :=
  ((∃ i' : Int, (s_l2Row_JJ0 row n most i') ∧ (row = row) ∧ (n = n) ∧ (most = most) ∧ ((0 : Int) = i')) ∧ (∀ i : Int, (s_l2Row_JJ0 row n most i) → (((decide (i < (row.length : Int))) = true → ((0 : Int) ≤ i) ∧ ((i : Int) < row.length) ∧ (i.toNat < row.length) ∧ (PC Try.prog 104 [.int .i64 (row.getD i.toNat 0), .int .i64 0, .int .i64 most] (.one (.d (.bool (inB (row.getD i.toNat 0) 0 most))))) ∧ (((!(inB (row.getD i.toNat 0) 0 most)) = true → ((false = (rowOk row n most)))) ∧ ((!(inB (row.getD i.toNat 0) 0 most)) = false → (-9223372036854775808 ≤ (i + 1) ∧ (i + 1) ≤ 9223372036854775807) ∧ (∃ i' : Int, (s_l2Row_JJ0 row n most i') ∧ (s_l2Row_mJ0 row n most i' < s_l2Row_mJ0 row n most i) ∧ (row = row) ∧ (n = n) ∧ (most = most) ∧ ((i + 1) = i'))))) ∧ ((decide (i < (row.length : Int))) = false → ((((row.length : Int) == n) = (rowOk row n most)))))))
theorem s_l2Row_vc (row : List Int) (n : Int) (most : Int)  (w_row : (row.length : Int) ≤ 9223372036854775807) : s_l2Row_P row n most := by
  unfold s_l2Row_P
  refine ⟨?_, ?_⟩
  · refine ⟨0, ?_⟩
    refine ⟨?_, rfl, rfl, rfl, rfl⟩
    · refine ⟨?_, ?_, ?_⟩
      · first | omega | rfl | (intro hg; simp only [nrmT] at hg; omega) | (intro g1 g2; simp [g1, g2]; done) | (intro g1; simp at g1 ⊢; simp [g1]; done) | (simp only [nrmT] at *; omega) | (simp at * <;> omega) | (simp_all <;> omega) | (simp_all; done)
      · first | omega | rfl | (intro hg; simp only [nrmT] at hg; omega) | (intro g1 g2; simp [g1, g2]; done) | (intro g1; simp at g1 ⊢; simp [g1]; done) | (simp only [nrmT] at *; omega) | (simp at * <;> omega) | (simp_all <;> omega) | (simp_all; done)
      · first | omega | rfl | (intro hg; simp only [nrmT] at hg; omega) | (intro g1 g2; simp [g1, g2]; done) | (intro g1; simp at g1 ⊢; simp [g1]; done) | (simp only [nrmT] at *; omega) | (simp at * <;> omega) | (simp_all <;> omega) | (simp_all; done)
  · intro i hJ
    obtain ⟨h1, h2, h3⟩ := hJ
    refine ⟨?_, ?_⟩
    · intro b1
      try simp only [nrmT] at b1
      refine ⟨?_, ?_, ?_, s_l1In_pc (row.getD i.toNat 0) 0 most, ?_, ?_⟩
      · first | omega | rfl | (intro hg; simp only [nrmT] at hg; omega) | (intro g1 g2; simp [g1, g2]; done) | (intro g1; simp at g1 ⊢; simp [g1]; done) | (simp only [nrmT] at *; omega) | (simp at * <;> omega) | (simp_all <;> omega) | (simp_all; done)
      · first | omega | rfl | (intro hg; simp only [nrmT] at hg; omega) | (intro g1 g2; simp [g1, g2]; done) | (intro g1; simp at g1 ⊢; simp [g1]; done) | (simp only [nrmT] at *; omega) | (simp at * <;> omega) | (simp_all <;> omega) | (simp_all; done)
      · first | omega | rfl | (intro hg; simp only [nrmT] at hg; omega) | (intro g1 g2; simp [g1, g2]; done) | (intro g1; simp at g1 ⊢; simp [g1]; done) | (simp only [nrmT] at *; omega) | (simp at * <;> omega) | (simp_all <;> omega) | (simp_all; done)
      · intro b2
        try simp only [nrmT] at b2
        unfold rowOk
        rw [all_no (p := fun x => inB x 0 most) (d := 0) h1 (by omega) b2]; rfl
      · intro b3
        try simp only [nrmT] at b3
        refine ⟨?_, ?_⟩
        · first | omega | rfl | (intro hg; simp only [nrmT] at hg; omega) | (intro g1 g2; simp [g1, g2]; done) | (intro g1; simp at g1 ⊢; simp [g1]; done) | (simp only [nrmT] at *; omega) | (simp at * <;> omega) | (simp_all <;> omega) | (simp_all; done)
        · refine ⟨(i + 1), ?_⟩
          refine ⟨?_, ?_, rfl, rfl, rfl, rfl⟩
          · refine ⟨?_, ?_, ?_⟩
            · first | omega | rfl | (intro hg; simp only [nrmT] at hg; omega) | (intro g1 g2; simp [g1, g2]; done) | (intro g1; simp at g1 ⊢; simp [g1]; done) | (simp only [nrmT] at *; omega) | (simp at * <;> omega) | (simp_all <;> omega) | (simp_all; done)
            · first | omega | rfl | (intro hg; simp only [nrmT] at hg; omega) | (intro g1 g2; simp [g1, g2]; done) | (intro g1; simp at g1 ⊢; simp [g1]; done) | (simp only [nrmT] at *; omega) | (simp at * <;> omega) | (simp_all <;> omega) | (simp_all; done)
            · exact allTo_step h1 h3 b3
          · first | (show _ < _; omega) | (simp only [s_l2Row_mJ0]; omega) | (simp only [s_l2Row_mJ0] at *; simp at *; omega)
    · intro b4
      try simp only [nrmT] at b4
      unfold rowOk
      rw [all_end (p := fun x => inB x 0 most) (d := 0) (by omega) h2 h3, Bool.true_and]; rfl
theorem s_l2Row_pc (row : List Int) (n : Int) (most : Int)  : PC Try.prog 165 [.sl (.ints row), .int .i64 n, .int .i64 most] (.one (.d (.bool (rowOk row n most)))) :=
  pc_wf @Try.call165 fun hw => pc_by (by kernel_rfl) Try.func165 @Try.call165 (by kernel_rfl) s_l2Row_C (s_l2Row_A row n most) (by kernel_rfl) (s_l2Row_vc row n most hw.1) (by kernel_rfl)
def s_l2Row_orc : List D → Orc := orcN [some .ints, none, none] fun ds => match ds with
  | [.sl (.ints row), .int .i64 n, .int .i64 most] => some (.one (.d (.bool (rowOk row n most))))
  | _ => none
abbrev s_l2Good_JJ0 (Open : List Int) (Dist : List (List Int)) (i : Int) : Prop := (0 ≤ i) ∧ (i ≤ (Dist.length : Int)) ∧ (allTo (fun k => rowOk (Dist.getD k []) (Open.length : Int) 99) i.toNat = true)
abbrev s_l2Good_mJ0 (Open : List Int) (Dist : List (List Int)) (i : Int) : Nat := (Dist.length - i).toNat
def s_l2Good_C (f : FuncId) (ds : List D) : Orc := bif Nat.beq f 165 then s_l2Row_orc ds else bif Nat.beq f 104 then s_l1In_orc ds else .no
def s_l2Good_A (Open : List Int) (Dist : List (List Int)) : Ann := .two (.none) (.two (.none) (.two (.two (.none) (.loop (cut1 (fun (i : Int) => s_l2Good_JJ0 Open Dist i) (fun (i : Int) => [(1, .ptr 1 0), (3, .d true (.int .i64 (Open.length : Int))), (4, .d true (.int .i64 i))]) (fun (i : Int) => [(1, .box 44 [.d false (.sl (.ints Open)), .d false (.sl (.rows Dist))])])) (fun g => s_l2Good_mJ0 Open Dist g) (fun _ => .none))) (.none)))
def s_l2Good_P (Open : List Int) (Dist : List (List Int)) : Prop :=
  ((∃ i' : Int, (s_l2Good_JJ0 Open Dist i') ∧ ((Open.length : Int) = (Open.length : Int)) ∧ ((0 : Int) = i') ∧ (Open = Open) ∧ (Dist = Dist)) ∧ (∀ i : Int, (s_l2Good_JJ0 Open Dist i) → (((decide (i < (Dist.length : Int))) = true → ((0 : Int) ≤ i) ∧ ((i : Int) < Dist.length) ∧ (i.toNat < Dist.length) ∧ (PC Try.prog 165 [.sl (.ints (Dist.getD i.toNat [])), .int .i64 (Open.length : Int), .int .i64 99] (.one (.d (.bool (rowOk (Dist.getD i.toNat []) (Open.length : Int) 99))))) ∧ (((!(rowOk (Dist.getD i.toNat []) (Open.length : Int) 99)) = true → ((false = (goodField Open Dist)))) ∧ ((!(rowOk (Dist.getD i.toNat []) (Open.length : Int) 99)) = false → (-9223372036854775808 ≤ (i + 1) ∧ (i + 1) ≤ 9223372036854775807) ∧ (∃ i' : Int, (s_l2Good_JJ0 Open Dist i') ∧ (s_l2Good_mJ0 Open Dist i' < s_l2Good_mJ0 Open Dist i) ∧ ((Open.length : Int) = (Open.length : Int)) ∧ ((i + 1) = i') ∧ (Open = Open) ∧ (Dist = Dist))))) ∧ ((decide (i < (Dist.length : Int))) = false → (PC Try.prog 104 [.int .i64 (Open.length : Int), .int .i64 1, .int .i64 7] (.one (.d (.bool (inB (Open.length : Int) 1 7))))) ∧ ((inB (Open.length : Int) 1 7) = true → (inB (Open.length : Int) 1 7) = true) ∧ ((inB (Open.length : Int) 1 7) = true → (inB (Open.length : Int) 1 7) = true) ∧ ((inB (Open.length : Int) 1 7) = true → (inB (Open.length : Int) 1 7) = true) ∧ ((inB (Open.length : Int) 1 7) = true → PC Try.prog 165 [.sl (.ints Open), .int .i64 (Open.length : Int), .int .i64 99] (.one (.d (.bool (rowOk Open (Open.length : Int) 99))))) ∧ (true = true) ∧ (((inB (Open.length : Int) 1 7) = true → (inB (Open.length : Int) 1 7) = true)) ∧ (((inB (Open.length : Int) 1 7) = false → true = true)) ∧ ((cond (inB (Open.length : Int) 1 7) (rowOk Open (Open.length : Int) 99) false) = true → (cond (inB (Open.length : Int) 1 7) (rowOk Open (Open.length : Int) 99) false) = true) ∧ ((cond (inB (Open.length : Int) 1 7) (rowOk Open (Open.length : Int) 99) false) = true → (cond (inB (Open.length : Int) 1 7) (rowOk Open (Open.length : Int) 99) false) = true) ∧ ((cond (inB (Open.length : Int) 1 7) (rowOk Open (Open.length : Int) 99) false) = true → (cond (inB (Open.length : Int) 1 7) (rowOk Open (Open.length : Int) 99) false) = true) ∧ (true = true) ∧ (((cond (inB (Open.length : Int) 1 7) (rowOk Open (Open.length : Int) 99) false) = true → (cond (inB (Open.length : Int) 1 7) (rowOk Open (Open.length : Int) 99) false) = true)) ∧ (((cond (inB (Open.length : Int) 1 7) (rowOk Open (Open.length : Int) 99) false) = false → true = true)) ∧ (((cond (cond (inB (Open.length : Int) 1 7) (rowOk Open (Open.length : Int) 99) false) (decide ((Dist.length : Int) ≤ 7)) false) = (goodField Open Dist)))))))
theorem s_l2Good_vc (Open : List Int) (Dist : List (List Int))  (w_Open : (Open.length : Int) ≤ 9223372036854775807) (w_Dist : (Dist.length : Int) ≤ 9223372036854775807) (v_Dist : ∀ x9 ∈ Dist, (x9.length : Int) ≤ 9223372036854775807) : s_l2Good_P Open Dist := by
  unfold s_l2Good_P
  refine ⟨?_, ?_⟩
  · refine ⟨0, ?_⟩
    refine ⟨?_, rfl, rfl, rfl, rfl⟩
    · refine ⟨?_, ?_, ?_⟩
      · first | omega | rfl | (intro hg; simp only [nrmT] at hg; omega) | (intro g1 g2; simp [g1, g2]; done) | (intro g1; simp at g1 ⊢; simp [g1]; done) | (simp only [nrmT] at *; omega) | (simp at * <;> omega) | (simp_all <;> omega) | (simp_all; done)
      · first | omega | rfl | (intro hg; simp only [nrmT] at hg; omega) | (intro g1 g2; simp [g1, g2]; done) | (intro g1; simp at g1 ⊢; simp [g1]; done) | (simp only [nrmT] at *; omega) | (simp at * <;> omega) | (simp_all <;> omega) | (simp_all; done)
      · first | omega | rfl | (intro hg; simp only [nrmT] at hg; omega) | (intro g1 g2; simp [g1, g2]; done) | (intro g1; simp at g1 ⊢; simp [g1]; done) | (simp only [nrmT] at *; omega) | (simp at * <;> omega) | (simp_all <;> omega) | (simp_all; done)
  · intro i hJ
    obtain ⟨h1, h2, h3⟩ := hJ
    refine ⟨?_, ?_⟩
    · intro b1
      try simp only [nrmT] at b1
      refine ⟨?_, ?_, ?_, s_l2Row_pc (Dist.getD i.toNat []) (Open.length : Int) 99, ?_, ?_⟩
      · first | omega | rfl | (intro hg; simp only [nrmT] at hg; omega) | (intro g1 g2; simp [g1, g2]; done) | (intro g1; simp at g1 ⊢; simp [g1]; done) | (simp only [nrmT] at *; omega) | (simp at * <;> omega) | (simp_all <;> omega) | (simp_all; done)
      · first | omega | rfl | (intro hg; simp only [nrmT] at hg; omega) | (intro g1 g2; simp [g1, g2]; done) | (intro g1; simp at g1 ⊢; simp [g1]; done) | (simp only [nrmT] at *; omega) | (simp at * <;> omega) | (simp_all <;> omega) | (simp_all; done)
      · first | omega | rfl | (intro hg; simp only [nrmT] at hg; omega) | (intro g1 g2; simp [g1, g2]; done) | (intro g1; simp at g1 ⊢; simp [g1]; done) | (simp only [nrmT] at *; omega) | (simp at * <;> omega) | (simp_all <;> omega) | (simp_all; done)
      · intro b2
        try simp only [nrmT] at b2
        unfold goodField
        rw [all_no (p := fun l => rowOk l (Open.length : Int) 99) (d := []) h1 (by omega) b2, Bool.and_false]
      · intro b3
        try simp only [nrmT] at b3
        refine ⟨?_, ?_⟩
        · first | omega | rfl | (intro hg; simp only [nrmT] at hg; omega) | (intro g1 g2; simp [g1, g2]; done) | (intro g1; simp at g1 ⊢; simp [g1]; done) | (simp only [nrmT] at *; omega) | (simp at * <;> omega) | (simp_all <;> omega) | (simp_all; done)
        · refine ⟨(i + 1), ?_⟩
          refine ⟨?_, ?_, rfl, rfl, rfl, rfl⟩
          · refine ⟨?_, ?_, ?_⟩
            · first | omega | rfl | (intro hg; simp only [nrmT] at hg; omega) | (intro g1 g2; simp [g1, g2]; done) | (intro g1; simp at g1 ⊢; simp [g1]; done) | (simp only [nrmT] at *; omega) | (simp at * <;> omega) | (simp_all <;> omega) | (simp_all; done)
            · first | omega | rfl | (intro hg; simp only [nrmT] at hg; omega) | (intro g1 g2; simp [g1, g2]; done) | (intro g1; simp at g1 ⊢; simp [g1]; done) | (simp only [nrmT] at *; omega) | (simp at * <;> omega) | (simp_all <;> omega) | (simp_all; done)
            · exact allTo_step h1 h3 b3
          · first | (show _ < _; omega) | (simp only [s_l2Good_mJ0]; omega) | (simp only [s_l2Good_mJ0] at *; simp at *; omega)
    · intro b4
      try simp only [nrmT] at b4
      refine ⟨s_l1In_pc (Open.length : Int) 1 7, id, id, id, fun _ => s_l2Row_pc Open (Open.length : Int) 99, rfl, id, fun _ => rfl, id, id, id, rfl, id, fun _ => rfl, ?_⟩
      · unfold goodField
        rw [all_end (p := fun l => rowOk l (Open.length : Int) 99) (d := []) (by omega) h2 h3, show decide ((Dist.length : Int) ≤ 7) = decide (Dist.length ≤ 7) from len_le _ 7]
        unfold rowOk
        cases inB (Open.length : Int) 1 7 <;> cases Open.all (fun x => inB x 0 99) <;> cases decide (Dist.length ≤ 7) <;> simp
theorem s_l2Good_pc (Open : List Int) (Dist : List (List Int))  : PC Try.prog 99 [.agg [.sl (.ints Open), .sl (.rows Dist)]] (.one (.d (.bool (goodField Open Dist)))) :=
  pc_wf @Try.call99 fun hw => pc_by (by kernel_rfl) Try.func99 @Try.call99 (by kernel_rfl) s_l2Good_C (s_l2Good_A Open Dist) (by kernel_rfl) (s_l2Good_vc Open Dist hw.1.1 hw.1.2.1.1 hw.1.2.1.2) (by kernel_rfl)
def s_l2Good_orc : List D → Orc := orcN [none] fun ds => match ds with
  | [.agg [.sl (.ints Open), .sl (.rows Dist)]] => some (.one (.d (.bool (goodField Open Dist))))
  | _ => none
def i_IsField_1_C (f : FuncId) (ds : List D) : Orc := bif Nat.beq f 162 then i_areBetween_orc ds else .no
def i_IsField_1_A (xs : List Int) (Open : List Int) (Dist : List (List Int)) : Ann := .none
def i_IsField_1_P (xs : List Int) (Open : List Int) (Dist : List (List Int)) : Prop :=
  ((!((xs.length : Int) != (Open.length : Int))) = true → (!((xs.length : Int) != (Open.length : Int))) = true) ∧ ((!((xs.length : Int) != (Open.length : Int))) = true → PC Try.prog 162 [.sl (.ints xs), .int .i64 0, .int .i64 99] (.one (.d (.bool (xs.all (fun x => inB x 0 99)))))) ∧ ((!((xs.length : Int) != (Open.length : Int))) = true → (!((xs.length : Int) != (Open.length : Int))) = true) ∧ (true = true) ∧ ((((xs.length : Int) != (Open.length : Int)) = true → true = true)) ∧ ((((xs.length : Int) != (Open.length : Int)) = false → (!((xs.length : Int) != (Open.length : Int))) = true)) ∧ (((cond ((xs.length : Int) != (Open.length : Int)) true (!(xs.all (fun x => inB x 0 99)))) = (!(rowOk xs (Open.length : Int) 99))))
theorem i_IsField_1_vc (xs : List Int) (Open : List Int) (Dist : List (List Int))  (w_xs : (xs.length : Int) ≤ 9223372036854775807) (w_Open : (Open.length : Int) ≤ 9223372036854775807) (w_Dist : (Dist.length : Int) ≤ 9223372036854775807) (v_Dist : ∀ x9 ∈ Dist, (x9.length : Int) ≤ 9223372036854775807) : i_IsField_1_P xs Open Dist := by
  unfold i_IsField_1_P
  refine ⟨id, fun _ => i_areBetween_pc xs 0 99, id, rfl, fun _ => rfl, ?_, ?_⟩
  · first | omega | rfl | (intro hg; simp only [nrmT] at hg; omega) | (intro g1 g2; simp [g1, g2]; done) | (intro g1; simp at g1 ⊢; simp [g1]; done) | (simp only [nrmT] at *; omega) | (simp at * <;> omega) | (simp_all <;> omega) | (simp_all; done)
  · unfold rowOk
    by_cases h : (xs.length : Int) = (Open.length : Int)
    · simp [h]
    · simp [h]
theorem i_IsField_1_pc (xs : List Int) (Open : List Int) (Dist : List (List Int))  : PC Try.prog 171 [.sl (.ints xs), .bx [.sl (.ints Open), .sl (.rows Dist)] 0] (.one (.d (.bool (!(rowOk xs (Open.length : Int) 99))))) :=
  pc_wf @Try.call171 fun hw => pc_by (by kernel_rfl) Try.func171 @Try.call171 (by kernel_rfl) i_IsField_1_C (i_IsField_1_A xs Open Dist) (by kernel_rfl) (i_IsField_1_vc xs Open Dist hw.1 hw.2.1.1 hw.2.1.2.1.1 hw.2.1.2.1.2) (by kernel_rfl)
def i_IsField_1_orc : List D → Orc := orcN [some .ints, none] fun ds => match ds with
  | [.sl (.ints xs), .bx [.sl (.ints Open), .sl (.rows Dist)] 0] => some (.one (.d (.bool (!(rowOk xs (Open.length : Int) 99)))))
  | _ => none
abbrev slices_IndexFunc_int_int_iF_JJ0 (xs : List (List Int)) (Open : List Int) (Dist : List (List Int)) (i : Int) : Prop := (0 ≤ i) ∧ (i ≤ (xs.length : Int)) ∧ (∀ k, k < i.toNat → (fun x => !(rowOk x (Open.length : Int) 99)) (xs.getD k []) = false)
abbrev slices_IndexFunc_int_int_iF_mJ0 (xs : List (List Int)) (Open : List Int) (Dist : List (List Int)) (i : Int) : Nat := (xs.length - i).toNat
def slices_IndexFunc_int_int_iF_C (f : FuncId) (ds : List D) : Orc := bif Nat.beq f 171 then i_IsField_1_orc ds else .no
def slices_IndexFunc_int_int_iF_A (xs : List (List Int)) (Open : List Int) (Dist : List (List Int)) : Ann := .two (.none) (.two (.two (.none) (.loop (cut1 (fun (i : Int) => slices_IndexFunc_int_int_iF_JJ0 xs Open Dist i) (fun (i : Int) => [(0, .d false (.sl (.rows xs))), (1, .d false (.fn 171 [.bx [.sl (.ints Open), .sl (.rows Dist)] 0])), (7, .d true (.int .i64 (xs.length : Int))), (8, .d true (.int .i64 i))]) (fun (i : Int) => [])) (fun g => slices_IndexFunc_int_int_iF_mJ0 xs Open Dist g) (fun _ => .none))) (.none))
def slices_IndexFunc_int_int_iF_P (xs : List (List Int)) (Open : List Int) (Dist : List (List Int)) : Prop :=
  ((∃ i' : Int, (slices_IndexFunc_int_int_iF_JJ0 xs Open Dist i') ∧ (xs = xs) ∧ ((.fn 171 [.bx [.sl (.ints Open), .sl (.rows Dist)] 0] : D) = (.fn 171 [.bx [.sl (.ints Open), .sl (.rows Dist)] 0] : D)) ∧ ((xs.length : Int) = (xs.length : Int)) ∧ ((0 : Int) = i')) ∧ (∀ i : Int, (slices_IndexFunc_int_int_iF_JJ0 xs Open Dist i) → (((decide (i < (xs.length : Int))) = true → ((0 : Int) ≤ i) ∧ ((i : Int) < xs.length) ∧ (i.toNat < xs.length) ∧ (PC Try.prog 171 [.sl (.ints (xs.getD i.toNat [])), .bx [.sl (.ints Open), .sl (.rows Dist)] 0] (.one (.d (.bool (!(rowOk (xs.getD i.toNat []) (Open.length : Int) 99)))))) ∧ (((!(rowOk (xs.getD i.toNat []) (Open.length : Int) 99)) = true → ((i = (idxI (fun x => !(rowOk x (Open.length : Int) 99)) xs)))) ∧ ((!(rowOk (xs.getD i.toNat []) (Open.length : Int) 99)) = false → (-9223372036854775808 ≤ (i + 1) ∧ (i + 1) ≤ 9223372036854775807) ∧ (∃ i' : Int, (slices_IndexFunc_int_int_iF_JJ0 xs Open Dist i') ∧ (slices_IndexFunc_int_int_iF_mJ0 xs Open Dist i' < slices_IndexFunc_int_int_iF_mJ0 xs Open Dist i) ∧ (xs = xs) ∧ ((.fn 171 [.bx [.sl (.ints Open), .sl (.rows Dist)] 0] : D) = (.fn 171 [.bx [.sl (.ints Open), .sl (.rows Dist)] 0] : D)) ∧ ((xs.length : Int) = (xs.length : Int)) ∧ ((i + 1) = i'))))) ∧ ((decide (i < (xs.length : Int))) = false → ((((-1) : Int) = (idxI (fun x => !(rowOk x (Open.length : Int) 99)) xs)))))))
theorem slices_IndexFunc_int_int_iF_vc (xs : List (List Int)) (Open : List Int) (Dist : List (List Int))  (w_xs : (xs.length : Int) ≤ 9223372036854775807) (v_xs : ∀ x9 ∈ xs, (x9.length : Int) ≤ 9223372036854775807) (w_Open : (Open.length : Int) ≤ 9223372036854775807) (w_Dist : (Dist.length : Int) ≤ 9223372036854775807) (v_Dist : ∀ x9 ∈ Dist, (x9.length : Int) ≤ 9223372036854775807) : slices_IndexFunc_int_int_iF_P xs Open Dist := by
  unfold slices_IndexFunc_int_int_iF_P
  refine ⟨?_, ?_⟩
  · refine ⟨0, ?_⟩
    refine ⟨?_, rfl, rfl, rfl, rfl⟩
    · refine ⟨?_, ?_, ?_⟩
      · first | omega | rfl | (intro hg; simp only [nrmT] at hg; omega) | (intro g1 g2; simp [g1, g2]; done) | (intro g1; simp at g1 ⊢; simp [g1]; done) | (simp only [nrmT] at *; omega) | (simp at * <;> omega) | (simp_all <;> omega) | (simp_all; done)
      · first | omega | rfl | (intro hg; simp only [nrmT] at hg; omega) | (intro g1 g2; simp [g1, g2]; done) | (intro g1; simp at g1 ⊢; simp [g1]; done) | (simp only [nrmT] at *; omega) | (simp at * <;> omega) | (simp_all <;> omega) | (simp_all; done)
      · first | omega | rfl | (intro hg; simp only [nrmT] at hg; omega) | (intro g1 g2; simp [g1, g2]; done) | (intro g1; simp at g1 ⊢; simp [g1]; done) | (simp only [nrmT] at *; omega) | (simp at * <;> omega) | (simp_all <;> omega) | (simp_all; done)
  · intro i hJ
    obtain ⟨h1, h2, h3⟩ := hJ
    refine ⟨?_, ?_⟩
    · intro b1
      try simp only [nrmT] at b1
      refine ⟨?_, ?_, ?_, i_IsField_1_pc (xs.getD i.toNat []) Open Dist, ?_, ?_⟩
      · first | omega | rfl | (intro hg; simp only [nrmT] at hg; omega) | (intro g1 g2; simp [g1, g2]; done) | (intro g1; simp at g1 ⊢; simp [g1]; done) | (simp only [nrmT] at *; omega) | (simp at * <;> omega) | (simp_all <;> omega) | (simp_all; done)
      · first | omega | rfl | (intro hg; simp only [nrmT] at hg; omega) | (intro g1 g2; simp [g1, g2]; done) | (intro g1; simp at g1 ⊢; simp [g1]; done) | (simp only [nrmT] at *; omega) | (simp at * <;> omega) | (simp_all <;> omega) | (simp_all; done)
      · first | omega | rfl | (intro hg; simp only [nrmT] at hg; omega) | (intro g1 g2; simp [g1, g2]; done) | (intro g1; simp at g1 ⊢; simp [g1]; done) | (simp only [nrmT] at *; omega) | (simp at * <;> omega) | (simp_all <;> omega) | (simp_all; done)
      · intro b2
        try simp only [nrmT] at b2
        exact idx_found (p := fun x => !(rowOk x (Open.length : Int) 99)) h1 b1 h3 (by simpa using b2)
      · intro b3
        try simp only [nrmT] at b3
        refine ⟨?_, ?_⟩
        · first | omega | rfl | (intro hg; simp only [nrmT] at hg; omega) | (intro g1 g2; simp [g1, g2]; done) | (intro g1; simp at g1 ⊢; simp [g1]; done) | (simp only [nrmT] at *; omega) | (simp at * <;> omega) | (simp_all <;> omega) | (simp_all; done)
        · refine ⟨(i + 1), ?_⟩
          refine ⟨?_, ?_, rfl, rfl, rfl, rfl⟩
          · refine ⟨?_, ?_, ?_⟩
            · first | omega | rfl | (intro hg; simp only [nrmT] at hg; omega) | (intro g1 g2; simp [g1, g2]; done) | (intro g1; simp at g1 ⊢; simp [g1]; done) | (simp only [nrmT] at *; omega) | (simp at * <;> omega) | (simp_all <;> omega) | (simp_all; done)
            · first | omega | rfl | (intro hg; simp only [nrmT] at hg; omega) | (intro g1 g2; simp [g1, g2]; done) | (intro g1; simp at g1 ⊢; simp [g1]; done) | (simp only [nrmT] at *; omega) | (simp at * <;> omega) | (simp_all <;> omega) | (simp_all; done)
            · exact idx_step (p := fun x => !(rowOk x (Open.length : Int) 99)) h1 h3 (by simpa using b3)
          · first | (show _ < _; omega) | (simp only [slices_IndexFunc_int_int_iF_mJ0]; omega) | (simp only [slices_IndexFunc_int_int_iF_mJ0] at *; simp at *; omega)
    · intro b4
      try simp only [nrmT] at b4
      exact (idx_none (by omega) h3).symm
theorem slices_IndexFunc_int_int_iF_pc (xs : List (List Int)) (Open : List Int) (Dist : List (List Int))  : PC Try.prog 204 [.sl (.rows xs), .fn 171 [.bx [.sl (.ints Open), .sl (.rows Dist)] 0]] (.one (.d (.int .i64 (idxI (fun x => !(rowOk x (Open.length : Int) 99)) xs)))) :=
  pc_wf @Try.call204 fun hw => pc_by (by kernel_rfl) Try.func204 @Try.call204 (by kernel_rfl) slices_IndexFunc_int_int_iF_C (slices_IndexFunc_int_int_iF_A xs Open Dist) (by kernel_rfl) (slices_IndexFunc_int_int_iF_vc xs Open Dist hw.1.1 hw.1.2 hw.2.1.1.1 hw.2.1.1.2.1.1 hw.2.1.1.2.1.2) (by kernel_rfl)
def slices_IndexFunc_int_int_iF_orc : List D → Orc := orcN [some .rows, none] fun ds => match ds with
  | [.sl (.rows xs), .fn f0 [.bx [.sl (.ints Open), .sl (.rows Dist)] 0]] => bif Nat.beq f0 171 then some (.one (.d (.int .i64 (idxI (fun x => !(rowOk x (Open.length : Int) 99)) xs)))) else none
  | _ => none
def slices_ContainsFunc_int_int_iF_C (f : FuncId) (ds : List D) : Orc := bif Nat.beq f 204 then slices_IndexFunc_int_int_iF_orc ds else .no
def slices_ContainsFunc_int_int_iF_A (xs : List (List Int)) (Open : List Int) (Dist : List (List Int)) : Ann := .none
def slices_ContainsFunc_int_int_iF_P (xs : List (List Int)) (Open : List Int) (Dist : List (List Int)) : Prop :=
  (PC Try.prog 204 [.sl (.rows xs), .fn 171 [.bx [.sl (.ints Open), .sl (.rows Dist)] 0]] (.one (.d (.int .i64 (idxI (fun x => !(rowOk x (Open.length : Int) 99)) xs))))) ∧ (((decide ((idxI (fun x => !(rowOk x (Open.length : Int) 99)) xs) ≥ 0)) = (xs.any (fun x => !(rowOk x (Open.length : Int) 99)))))
theorem slices_ContainsFunc_int_int_iF_vc (xs : List (List Int)) (Open : List Int) (Dist : List (List Int))  (w_xs : (xs.length : Int) ≤ 9223372036854775807) (v_xs : ∀ x9 ∈ xs, (x9.length : Int) ≤ 9223372036854775807) (w_Open : (Open.length : Int) ≤ 9223372036854775807) (w_Dist : (Dist.length : Int) ≤ 9223372036854775807) (v_Dist : ∀ x9 ∈ Dist, (x9.length : Int) ≤ 9223372036854775807) : slices_ContainsFunc_int_int_iF_P xs Open Dist := by
  unfold slices_ContainsFunc_int_int_iF_P
  refine ⟨slices_IndexFunc_int_int_iF_pc xs Open Dist, ?_⟩
  · exact idx_any _ _
theorem slices_ContainsFunc_int_int_iF_pc (xs : List (List Int)) (Open : List Int) (Dist : List (List Int))  : PC Try.prog 170 [.sl (.rows xs), .fn 171 [.bx [.sl (.ints Open), .sl (.rows Dist)] 0]] (.one (.d (.bool (xs.any (fun x => !(rowOk x (Open.length : Int) 99)))))) :=
  pc_wf @Try.call170 fun hw => pc_by (by kernel_rfl) Try.func170 @Try.call170 (by kernel_rfl) slices_ContainsFunc_int_int_iF_C (slices_ContainsFunc_int_int_iF_A xs Open Dist) (by kernel_rfl) (slices_ContainsFunc_int_int_iF_vc xs Open Dist hw.1.1 hw.1.2 hw.2.1.1.1 hw.2.1.1.2.1.1 hw.2.1.1.2.1.2) (by kernel_rfl)
def slices_ContainsFunc_int_int_iF_orc : List D → Orc := orcN [some .rows, none] fun ds => match ds with
  | [.sl (.rows xs), .fn f0 [.bx [.sl (.ints Open), .sl (.rows Dist)] 0]] => bif Nat.beq f0 171 then some (.one (.d (.bool (xs.any (fun x => !(rowOk x (Open.length : Int) 99)))))) else none
  | _ => none
def i_IsField_C (f : FuncId) (ds : List D) : Orc := bif Nat.beq f 107 then i_between_orc ds else bif Nat.beq f 162 then i_areBetween_orc ds else bif Nat.beq f 170 then slices_ContainsFunc_int_int_iF_orc ds else .no
def i_IsField_A (Open : List Int) (Dist : List (List Int)) : Ann := .none
def i_IsField_P (Open : List Int) (Dist : List (List Int)) : Prop :=
  (PC Try.prog 107 [.int .i64 (Open.length : Int), .int .i64 1, .int .i64 7] (.one (.d (.bool (inB (Open.length : Int) 1 7))))) ∧ ((inB (Open.length : Int) 1 7) = true → (inB (Open.length : Int) 1 7) = true) ∧ ((inB (Open.length : Int) 1 7) = true → (inB (Open.length : Int) 1 7) = true) ∧ ((inB (Open.length : Int) 1 7) = true → PC Try.prog 162 [.sl (.ints Open), .int .i64 0, .int .i64 99] (.one (.d (.bool (Open.all (fun x => inB x 0 99)))))) ∧ (true = true) ∧ (((inB (Open.length : Int) 1 7) = true → (inB (Open.length : Int) 1 7) = true)) ∧ (((inB (Open.length : Int) 1 7) = false → true = true)) ∧ ((cond (inB (Open.length : Int) 1 7) (Open.all (fun x => inB x 0 99)) false) = true → (cond (inB (Open.length : Int) 1 7) (Open.all (fun x => inB x 0 99)) false) = true) ∧ ((cond (inB (Open.length : Int) 1 7) (Open.all (fun x => inB x 0 99)) false) = true → (cond (inB (Open.length : Int) 1 7) (Open.all (fun x => inB x 0 99)) false) = true) ∧ ((cond (inB (Open.length : Int) 1 7) (Open.all (fun x => inB x 0 99)) false) = true → (cond (inB (Open.length : Int) 1 7) (Open.all (fun x => inB x 0 99)) false) = true) ∧ (true = true) ∧ (((cond (inB (Open.length : Int) 1 7) (Open.all (fun x => inB x 0 99)) false) = true → (cond (inB (Open.length : Int) 1 7) (Open.all (fun x => inB x 0 99)) false) = true)) ∧ (((cond (inB (Open.length : Int) 1 7) (Open.all (fun x => inB x 0 99)) false) = false → true = true)) ∧ ((cond (cond (inB (Open.length : Int) 1 7) (Open.all (fun x => inB x 0 99)) false) (decide ((Dist.length : Int) ≤ 7)) false) = true → (cond (cond (inB (Open.length : Int) 1 7) (Open.all (fun x => inB x 0 99)) false) (decide ((Dist.length : Int) ≤ 7)) false) = true) ∧ ((cond (cond (inB (Open.length : Int) 1 7) (Open.all (fun x => inB x 0 99)) false) (decide ((Dist.length : Int) ≤ 7)) false) = true → (cond (cond (inB (Open.length : Int) 1 7) (Open.all (fun x => inB x 0 99)) false) (decide ((Dist.length : Int) ≤ 7)) false) = true) ∧ ((cond (cond (inB (Open.length : Int) 1 7) (Open.all (fun x => inB x 0 99)) false) (decide ((Dist.length : Int) ≤ 7)) false) = true → (cond (cond (inB (Open.length : Int) 1 7) (Open.all (fun x => inB x 0 99)) false) (decide ((Dist.length : Int) ≤ 7)) false) = true) ∧ ((cond (cond (inB (Open.length : Int) 1 7) (Open.all (fun x => inB x 0 99)) false) (decide ((Dist.length : Int) ≤ 7)) false) = true → PC Try.prog 170 [.sl (.rows Dist), .fn 171 [.bx [.sl (.ints Open), .sl (.rows Dist)] 0]] (.one (.d (.bool (Dist.any (fun x => !(rowOk x (Open.length : Int) 99))))))) ∧ ((cond (cond (inB (Open.length : Int) 1 7) (Open.all (fun x => inB x 0 99)) false) (decide ((Dist.length : Int) ≤ 7)) false) = true → (cond (cond (inB (Open.length : Int) 1 7) (Open.all (fun x => inB x 0 99)) false) (decide ((Dist.length : Int) ≤ 7)) false) = true) ∧ (true = true) ∧ (((cond (cond (inB (Open.length : Int) 1 7) (Open.all (fun x => inB x 0 99)) false) (decide ((Dist.length : Int) ≤ 7)) false) = true → (cond (cond (inB (Open.length : Int) 1 7) (Open.all (fun x => inB x 0 99)) false) (decide ((Dist.length : Int) ≤ 7)) false) = true)) ∧ (((cond (cond (inB (Open.length : Int) 1 7) (Open.all (fun x => inB x 0 99)) false) (decide ((Dist.length : Int) ≤ 7)) false) = false → true = true)) ∧ (((cond (cond (cond (inB (Open.length : Int) 1 7) (Open.all (fun x => inB x 0 99)) false) (decide ((Dist.length : Int) ≤ 7)) false) (!(Dist.any (fun x => !(rowOk x (Open.length : Int) 99)))) false) = (goodField Open Dist)))
theorem i_IsField_vc (Open : List Int) (Dist : List (List Int))  (w_Open : (Open.length : Int) ≤ 9223372036854775807) (w_Dist : (Dist.length : Int) ≤ 9223372036854775807) (v_Dist : ∀ x9 ∈ Dist, (x9.length : Int) ≤ 9223372036854775807) : i_IsField_P Open Dist := by
  unfold i_IsField_P
  refine ⟨i_between_pc (Open.length : Int) 1 7, id, id, fun _ => i_areBetween_pc Open 0 99, rfl, id, fun _ => rfl, id, id, id, rfl, id, fun _ => rfl, id, id, id, fun _ => slices_ContainsFunc_int_int_iF_pc Dist Open Dist, id, rfl, id, fun _ => rfl, ?_⟩
  · unfold goodField
    rw [any_not, show decide ((Dist.length : Int) ≤ 7) = decide (Dist.length ≤ 7) from len_le _ 7]
    cases inB (Open.length : Int) 1 7 <;> cases Open.all (fun x => inB x 0 99) <;> cases decide (Dist.length ≤ 7) <;> simp
theorem i_IsField_pc (Open : List Int) (Dist : List (List Int))  : PC Try.prog 106 [.agg [.sl (.ints Open), .sl (.rows Dist)]] (.one (.d (.bool (goodField Open Dist)))) :=
  pc_wf @Try.call106 fun hw => pc_by (by kernel_rfl) Try.func106 @Try.call106 (by kernel_rfl) i_IsField_C (i_IsField_A Open Dist) (by kernel_rfl) (i_IsField_vc Open Dist hw.1.1 hw.1.2.1.1 hw.1.2.1.2) (by kernel_rfl)
def i_IsField_orc : List D → Orc := orcN [none] fun ds => match ds with
  | [.agg [.sl (.ints Open), .sl (.rows Dist)]] => some (.one (.d (.bool (goodField Open Dist))))
  | _ => none
def gapF (Dist : List (List Int)) (i j : Nat) (b : Int) (a : Nat) : Int := min b ((Dist.getD i []).getD a 0 + (Dist.getD j []).getD a 0)
def gapAt (Dist : List (List Int)) (i j : Int) : Int := if i = j then 0 else foldTo (gapF Dist i.toNat j.toNat) 199 (Dist.getD i.toNat []).length
theorem gap_bound {Dist : List (List Int)} {i j : Nat} {n : Nat} (hi : ∀ a, a < n → 0 ≤ (Dist.getD i []).getD a 0) (hj : ∀ a, a < n → 0 ≤ (Dist.getD j []).getD a 0) : 0 ≤ foldTo (gapF Dist i j) 199 n ∧ foldTo (gapF Dist i j) 199 n ≤ 199 := by
  refine foldTo_inv (P := fun _ x => 0 ≤ x ∧ x ≤ 199) n (by omega) fun k x hk hx => ?_
  have := hi k hk
  have := hj k hk
  unfold gapF
  omega
def s_l1Least_C (f : FuncId) (ds : List D) : Orc := .no
def s_l1Least_A (a : Int) (b : Int) : Ann := .none
def s_l1Least_P (a : Int) (b : Int) : Prop :=
  (((decide (a < b)) = true → ((a = (min a b)))) ∧ ((decide (a < b)) = false → ((b = (min a b)))))
theorem s_l1Least_vc (a : Int) (b : Int)   : s_l1Least_P a b := by
  unfold s_l1Least_P
  refine ⟨?_, ?_⟩
  · intro b1
    try simp only [nrmT] at b1
    first | omega | rfl | (intro hg; simp only [nrmT] at hg; omega) | (intro g1 g2; simp [g1, g2]; done) | (intro g1; simp at g1 ⊢; simp [g1]; done) | (simp only [nrmT] at *; omega) | (simp at * <;> omega) | (simp_all <;> omega) | (simp_all; done)
  · intro b2
    try simp only [nrmT] at b2
    first | omega | rfl | (intro hg; simp only [nrmT] at hg; omega) | (intro g1 g2; simp [g1, g2]; done) | (intro g1; simp at g1 ⊢; simp [g1]; done) | (simp only [nrmT] at *; omega) | (simp at * <;> omega) | (simp_all <;> omega) | (simp_all; done)
theorem s_l1Least_pc (a : Int) (b : Int)  : PC Try.prog 206 [.int .i64 a, .int .i64 b] (.one (.d (.int .i64 (min a b)))) :=
  pc_wf @Try.call206 fun _ => pc_by (by kernel_rfl) Try.func206 @Try.call206 (by kernel_rfl) s_l1Least_C (s_l1Least_A a b) (by kernel_rfl) (s_l1Least_vc a b) (by kernel_rfl)
def s_l1Least_orc : List D → Orc := orcN [none, none] fun ds => match ds with
  | [.int .i64 a, .int .i64 b] => some (.one (.d (.int .i64 (min a b))))
  | _ => none
abbrev s_l5Gap_JJ0 (Open : List Int) (Dist : List (List Int)) (i : Int) (j : Int) (best : Int) (a : Int) : Prop := (1 ≤ a) ∧ (a ≤ (Open.length : Int)) ∧ (best = foldTo (gapF Dist i.toNat j.toNat) 199 a.toNat) ∧ (i ≠ j)
abbrev s_l5Gap_mJ0 (Open : List Int) (Dist : List (List Int)) (i : Int) (j : Int) (best : Int) (a : Int) : Nat := (Open.length - a).toNat
def s_l5Gap_C (f : FuncId) (ds : List D) : Orc := bif Nat.beq f 206 then s_l1Least_orc ds else .no
def s_l5Gap_A (Open : List Int) (Dist : List (List Int)) (i : Int) (j : Int) : Ann := .two (.none) (.two (.none) (.two (.none) (.two (.two (.none) (.loop (cut2 (fun (best : Int) (a : Int) => s_l5Gap_JJ0 Open Dist i j best a) (fun (best : Int) (a : Int) => [(1, .d false (.int .i64 i)), (2, .d false (.int .i64 j)), (3, .ptr 3 0), (7, .d true (.int .i64 best)), (8, .d true (.int .i64 a))]) (fun (best : Int) (a : Int) => [(3, .box 44 [.d false (.sl (.ints Open)), .d false (.sl (.rows Dist))])])) (fun g => s_l5Gap_mJ0 Open Dist i j g.1 g.2) (fun _ => .none))) (.none))))
def s_l5Gap_P (Open : List Int) (Dist : List (List Int)) (i : Int) (j : Int) : Prop :=
  (((i == j) = true → (((0 : Int) = (gapAt Dist i j)))) ∧ ((i == j) = false → (true = true) ∧ ((0 : Int) ≤ i) ∧ ((i : Int) < Dist.length) ∧ (i.toNat < Dist.length) ∧ ((0 : Int) ≤ 0) ∧ ((0 : Int) < (Dist.getD i.toNat []).length) ∧ (0 < (Dist.getD i.toNat []).length) ∧ ((0 : Int) ≤ j) ∧ ((j : Int) < Dist.length) ∧ (j.toNat < Dist.length) ∧ ((0 : Int) ≤ 0) ∧ ((0 : Int) < (Dist.getD j.toNat []).length) ∧ (0 < (Dist.getD j.toNat []).length) ∧ (-9223372036854775808 ≤ (((Dist.getD i.toNat []).getD 0 0) + ((Dist.getD j.toNat []).getD 0 0)) ∧ (((Dist.getD i.toNat []).getD 0 0) + ((Dist.getD j.toNat []).getD 0 0)) ≤ 9223372036854775807) ∧ ((∃ best' : Int, ∃ a' : Int, (s_l5Gap_JJ0 Open Dist i j best' a') ∧ (i = i) ∧ (j = j) ∧ ((((Dist.getD i.toNat []).getD 0 0) + ((Dist.getD j.toNat []).getD 0 0)) = best') ∧ ((1 : Int) = a') ∧ (Open = Open) ∧ (Dist = Dist)) ∧ (∀ best : Int, ∀ a : Int, (s_l5Gap_JJ0 Open Dist i j best a) → (((decide (a < (Open.length : Int))) = true → (true = true) ∧ ((0 : Int) ≤ i) ∧ ((i : Int) < Dist.length) ∧ (i.toNat < Dist.length) ∧ ((0 : Int) ≤ a) ∧ ((a : Int) < (Dist.getD i.toNat []).length) ∧ (a.toNat < (Dist.getD i.toNat []).length) ∧ ((0 : Int) ≤ j) ∧ ((j : Int) < Dist.length) ∧ (j.toNat < Dist.length) ∧ ((0 : Int) ≤ a) ∧ ((a : Int) < (Dist.getD j.toNat []).length) ∧ (a.toNat < (Dist.getD j.toNat []).length) ∧ (-9223372036854775808 ≤ (((Dist.getD i.toNat []).getD a.toNat 0) + ((Dist.getD j.toNat []).getD a.toNat 0)) ∧ (((Dist.getD i.toNat []).getD a.toNat 0) + ((Dist.getD j.toNat []).getD a.toNat 0)) ≤ 9223372036854775807) ∧ (PC Try.prog 206 [.int .i64 best, .int .i64 (((Dist.getD i.toNat []).getD a.toNat 0) + ((Dist.getD j.toNat []).getD a.toNat 0))] (.one (.d (.int .i64 (min best (((Dist.getD i.toNat []).getD a.toNat 0) + ((Dist.getD j.toNat []).getD a.toNat 0))))))) ∧ (-9223372036854775808 ≤ (a + 1) ∧ (a + 1) ≤ 9223372036854775807) ∧ (∃ best' : Int, ∃ a' : Int, (s_l5Gap_JJ0 Open Dist i j best' a') ∧ (s_l5Gap_mJ0 Open Dist i j best' a' < s_l5Gap_mJ0 Open Dist i j best a) ∧ (i = i) ∧ (j = j) ∧ ((min best (((Dist.getD i.toNat []).getD a.toNat 0) + ((Dist.getD j.toNat []).getD a.toNat 0))) = best') ∧ ((a + 1) = a') ∧ (Open = Open) ∧ (Dist = Dist))) ∧ ((decide (a < (Open.length : Int))) = false → ((best = (gapAt Dist i j)))))))))
theorem s_l5Gap_vc (Open : List Int) (Dist : List (List Int)) (i : Int) (j : Int) (hg : goodField Open Dist = true) (hi : 0 ≤ i ∧ i < (Dist.length : Int)) (hj : 0 ≤ j ∧ j < (Dist.length : Int)) (w_Open : (Open.length : Int) ≤ 9223372036854775807) (w_Dist : (Dist.length : Int) ≤ 9223372036854775807) (v_Dist : ∀ x9 ∈ Dist, (x9.length : Int) ≤ 9223372036854775807) : s_l5Gap_P Open Dist i j := by
  unfold s_l5Gap_P
  obtain ⟨g1, g2, g3⟩ := gf_open hg
  obtain ⟨ri, ci⟩ := gf_row (i := i.toNat) hg (by omega)
  obtain ⟨rj, cj⟩ := gf_row (i := j.toNat) hg (by omega)
  refine ⟨?_, ?_⟩
  · intro b1
    try simp only [nrmT] at b1
    unfold gapAt; rw [if_pos (by omega)]
  · intro b2
    try simp only [nrmT] at b2
    refine ⟨rfl, ?_, ?_, ?_, ?_, ?_, ?_, ?_, ?_, ?_, ?_, ?_, ?_, ?_, ?_, ?_⟩
    · first | omega | rfl | (intro hg; simp only [nrmT] at hg; omega) | (intro g1 g2; simp [g1, g2]; done) | (intro g1; simp at g1 ⊢; simp [g1]; done) | (simp only [nrmT] at *; omega) | (simp at * <;> omega) | (simp_all <;> omega) | (simp_all; done)
    · first | omega | rfl | (intro hg; simp only [nrmT] at hg; omega) | (intro g1 g2; simp [g1, g2]; done) | (intro g1; simp at g1 ⊢; simp [g1]; done) | (simp only [nrmT] at *; omega) | (simp at * <;> omega) | (simp_all <;> omega) | (simp_all; done)
    · first | omega | rfl | (intro hg; simp only [nrmT] at hg; omega) | (intro g1 g2; simp [g1, g2]; done) | (intro g1; simp at g1 ⊢; simp [g1]; done) | (simp only [nrmT] at *; omega) | (simp at * <;> omega) | (simp_all <;> omega) | (simp_all; done)
    · first | omega | rfl | (intro hg; simp only [nrmT] at hg; omega) | (intro g1 g2; simp [g1, g2]; done) | (intro g1; simp at g1 ⊢; simp [g1]; done) | (simp only [nrmT] at *; omega) | (simp at * <;> omega) | (simp_all <;> omega) | (simp_all; done)
    · first | omega | rfl | (intro hg; simp only [nrmT] at hg; omega) | (intro g1 g2; simp [g1, g2]; done) | (intro g1; simp at g1 ⊢; simp [g1]; done) | (simp only [nrmT] at *; omega) | (simp at * <;> omega) | (simp_all <;> omega) | (simp_all; done)
    · first | omega | rfl | (intro hg; simp only [nrmT] at hg; omega) | (intro g1 g2; simp [g1, g2]; done) | (intro g1; simp at g1 ⊢; simp [g1]; done) | (simp only [nrmT] at *; omega) | (simp at * <;> omega) | (simp_all <;> omega) | (simp_all; done)
    · first | omega | rfl | (intro hg; simp only [nrmT] at hg; omega) | (intro g1 g2; simp [g1, g2]; done) | (intro g1; simp at g1 ⊢; simp [g1]; done) | (simp only [nrmT] at *; omega) | (simp at * <;> omega) | (simp_all <;> omega) | (simp_all; done)
    · first | omega | rfl | (intro hg; simp only [nrmT] at hg; omega) | (intro g1 g2; simp [g1, g2]; done) | (intro g1; simp at g1 ⊢; simp [g1]; done) | (simp only [nrmT] at *; omega) | (simp at * <;> omega) | (simp_all <;> omega) | (simp_all; done)
    · first | omega | rfl | (intro hg; simp only [nrmT] at hg; omega) | (intro g1 g2; simp [g1, g2]; done) | (intro g1; simp at g1 ⊢; simp [g1]; done) | (simp only [nrmT] at *; omega) | (simp at * <;> omega) | (simp_all <;> omega) | (simp_all; done)
    · first | omega | rfl | (intro hg; simp only [nrmT] at hg; omega) | (intro g1 g2; simp [g1, g2]; done) | (intro g1; simp at g1 ⊢; simp [g1]; done) | (simp only [nrmT] at *; omega) | (simp at * <;> omega) | (simp_all <;> omega) | (simp_all; done)
    · first | omega | rfl | (intro hg; simp only [nrmT] at hg; omega) | (intro g1 g2; simp [g1, g2]; done) | (intro g1; simp at g1 ⊢; simp [g1]; done) | (simp only [nrmT] at *; omega) | (simp at * <;> omega) | (simp_all <;> omega) | (simp_all; done)
    · first | omega | rfl | (intro hg; simp only [nrmT] at hg; omega) | (intro g1 g2; simp [g1, g2]; done) | (intro g1; simp at g1 ⊢; simp [g1]; done) | (simp only [nrmT] at *; omega) | (simp at * <;> omega) | (simp_all <;> omega) | (simp_all; done)
    · have := ci 0 (by omega)
      have := cj 0 (by omega)
      omega
    · refine ⟨(((Dist.getD i.toNat []).getD 0 0) + ((Dist.getD j.toNat []).getD 0 0)), 1, ?_⟩
      refine ⟨?_, rfl, rfl, rfl, rfl, rfl, rfl⟩
      · refine ⟨?_, ?_, ?_, ?_⟩
        · first | omega | rfl | (intro hg; simp only [nrmT] at hg; omega) | (intro g1 g2; simp [g1, g2]; done) | (intro g1; simp at g1 ⊢; simp [g1]; done) | (simp only [nrmT] at *; omega) | (simp at * <;> omega) | (simp_all <;> omega) | (simp_all; done)
        · first | omega | rfl | (intro hg; simp only [nrmT] at hg; omega) | (intro g1 g2; simp [g1, g2]; done) | (intro g1; simp at g1 ⊢; simp [g1]; done) | (simp only [nrmT] at *; omega) | (simp at * <;> omega) | (simp_all <;> omega) | (simp_all; done)
        · have := ci 0 (by omega)
          have := cj 0 (by omega)
          show _ = min 199 _
          simp only [show (0 : Int).toNat = 0 from rfl]
          omega
        · first | omega | rfl | (intro hg; simp only [nrmT] at hg; omega) | (intro g1 g2; simp [g1, g2]; done) | (intro g1; simp at g1 ⊢; simp [g1]; done) | (simp only [nrmT] at *; omega) | (simp at * <;> omega) | (simp_all <;> omega) | (simp_all; done)
    · intro best a hJ
      obtain ⟨h1, h2, h3, h4⟩ := hJ
      refine ⟨?_, ?_⟩
      · intro b3
        try simp only [nrmT] at b3
        refine ⟨rfl, ?_, ?_, ?_, ?_, ?_, ?_, ?_, ?_, ?_, ?_, ?_, ?_, ?_, s_l1Least_pc best (((Dist.getD i.toNat []).getD a.toNat 0) + ((Dist.getD j.toNat []).getD a.toNat 0)), ?_, ?_⟩
        · first | omega | rfl | (intro hg; simp only [nrmT] at hg; omega) | (intro g1 g2; simp [g1, g2]; done) | (intro g1; simp at g1 ⊢; simp [g1]; done) | (simp only [nrmT] at *; omega) | (simp at * <;> omega) | (simp_all <;> omega) | (simp_all; done)
        · first | omega | rfl | (intro hg; simp only [nrmT] at hg; omega) | (intro g1 g2; simp [g1, g2]; done) | (intro g1; simp at g1 ⊢; simp [g1]; done) | (simp only [nrmT] at *; omega) | (simp at * <;> omega) | (simp_all <;> omega) | (simp_all; done)
        · first | omega | rfl | (intro hg; simp only [nrmT] at hg; omega) | (intro g1 g2; simp [g1, g2]; done) | (intro g1; simp at g1 ⊢; simp [g1]; done) | (simp only [nrmT] at *; omega) | (simp at * <;> omega) | (simp_all <;> omega) | (simp_all; done)
        · first | omega | rfl | (intro hg; simp only [nrmT] at hg; omega) | (intro g1 g2; simp [g1, g2]; done) | (intro g1; simp at g1 ⊢; simp [g1]; done) | (simp only [nrmT] at *; omega) | (simp at * <;> omega) | (simp_all <;> omega) | (simp_all; done)
        · first | omega | rfl | (intro hg; simp only [nrmT] at hg; omega) | (intro g1 g2; simp [g1, g2]; done) | (intro g1; simp at g1 ⊢; simp [g1]; done) | (simp only [nrmT] at *; omega) | (simp at * <;> omega) | (simp_all <;> omega) | (simp_all; done)
        · first | omega | rfl | (intro hg; simp only [nrmT] at hg; omega) | (intro g1 g2; simp [g1, g2]; done) | (intro g1; simp at g1 ⊢; simp [g1]; done) | (simp only [nrmT] at *; omega) | (simp at * <;> omega) | (simp_all <;> omega) | (simp_all; done)
        · first | omega | rfl | (intro hg; simp only [nrmT] at hg; omega) | (intro g1 g2; simp [g1, g2]; done) | (intro g1; simp at g1 ⊢; simp [g1]; done) | (simp only [nrmT] at *; omega) | (simp at * <;> omega) | (simp_all <;> omega) | (simp_all; done)
        · first | omega | rfl | (intro hg; simp only [nrmT] at hg; omega) | (intro g1 g2; simp [g1, g2]; done) | (intro g1; simp at g1 ⊢; simp [g1]; done) | (simp only [nrmT] at *; omega) | (simp at * <;> omega) | (simp_all <;> omega) | (simp_all; done)
        · first | omega | rfl | (intro hg; simp only [nrmT] at hg; omega) | (intro g1 g2; simp [g1, g2]; done) | (intro g1; simp at g1 ⊢; simp [g1]; done) | (simp only [nrmT] at *; omega) | (simp at * <;> omega) | (simp_all <;> omega) | (simp_all; done)
        · first | omega | rfl | (intro hg; simp only [nrmT] at hg; omega) | (intro g1 g2; simp [g1, g2]; done) | (intro g1; simp at g1 ⊢; simp [g1]; done) | (simp only [nrmT] at *; omega) | (simp at * <;> omega) | (simp_all <;> omega) | (simp_all; done)
        · first | omega | rfl | (intro hg; simp only [nrmT] at hg; omega) | (intro g1 g2; simp [g1, g2]; done) | (intro g1; simp at g1 ⊢; simp [g1]; done) | (simp only [nrmT] at *; omega) | (simp at * <;> omega) | (simp_all <;> omega) | (simp_all; done)
        · first | omega | rfl | (intro hg; simp only [nrmT] at hg; omega) | (intro g1 g2; simp [g1, g2]; done) | (intro g1; simp at g1 ⊢; simp [g1]; done) | (simp only [nrmT] at *; omega) | (simp at * <;> omega) | (simp_all <;> omega) | (simp_all; done)
        · have := ci a.toNat (by omega)
          have := cj a.toNat (by omega)
          omega
        · first | omega | rfl | (intro hg; simp only [nrmT] at hg; omega) | (intro g1 g2; simp [g1, g2]; done) | (intro g1; simp at g1 ⊢; simp [g1]; done) | (simp only [nrmT] at *; omega) | (simp at * <;> omega) | (simp_all <;> omega) | (simp_all; done)
        · refine ⟨(min best (((Dist.getD i.toNat []).getD a.toNat 0) + ((Dist.getD j.toNat []).getD a.toNat 0))), (a + 1), ?_⟩
          refine ⟨?_, ?_, rfl, rfl, rfl, rfl, rfl, rfl⟩
          · refine ⟨?_, ?_, ?_, ?_⟩
            · first | omega | rfl | (intro hg; simp only [nrmT] at hg; omega) | (intro g1 g2; simp [g1, g2]; done) | (intro g1; simp at g1 ⊢; simp [g1]; done) | (simp only [nrmT] at *; omega) | (simp at * <;> omega) | (simp_all <;> omega) | (simp_all; done)
            · first | omega | rfl | (intro hg; simp only [nrmT] at hg; omega) | (intro g1 g2; simp [g1, g2]; done) | (intro g1; simp at g1 ⊢; simp [g1]; done) | (simp only [nrmT] at *; omega) | (simp at * <;> omega) | (simp_all <;> omega) | (simp_all; done)
            · rw [foldTo_step (by omega), ← h3]; rfl
            · first | omega | rfl | (intro hg; simp only [nrmT] at hg; omega) | (intro g1 g2; simp [g1, g2]; done) | (intro g1; simp at g1 ⊢; simp [g1]; done) | (simp only [nrmT] at *; omega) | (simp at * <;> omega) | (simp_all <;> omega) | (simp_all; done)
          · first | (show _ < _; omega) | (simp only [s_l5Gap_mJ0]; omega) | (simp only [s_l5Gap_mJ0] at *; simp at *; omega)
      · intro b4
        try simp only [nrmT] at b4
        unfold gapAt
        rw [if_neg h4, h3, ri]
        have : a.toNat = Open.length := by omega
        rw [this]
theorem s_l5Gap_pc (Open : List Int) (Dist : List (List Int)) (i : Int) (j : Int) (hg : goodField Open Dist = true) (hi : 0 ≤ i ∧ i < (Dist.length : Int)) (hj : 0 ≤ j ∧ j < (Dist.length : Int)) : PC Try.prog 205 [.agg [.sl (.ints Open), .sl (.rows Dist)], .int .i64 i, .int .i64 j] (.one (.d (.int .i64 (gapAt Dist i j)))) :=
  pc_wf @Try.call205 fun hw => pc_by (by kernel_rfl) Try.func205 @Try.call205 (by kernel_rfl) s_l5Gap_C (s_l5Gap_A Open Dist i j) (by kernel_rfl) (s_l5Gap_vc Open Dist i j hg hi hj hw.1.1 hw.1.2.1.1 hw.1.2.1.2) (by kernel_rfl)
def s_l5Gap_orc : List D → Orc := orcN [none, none, none] fun ds => match ds with
  | [.agg [.sl (.ints Open), .sl (.rows Dist)], .int .i64 i, .int .i64 j] => some (.one (.d (.int .i64 (gapAt Dist i j))))
  | _ => none
abbrev i_Field_gap_JJ0 (Open : List Int) (Dist : List (List Int)) (i : Int) (j : Int) (best : Int) (a : Int) : Prop := (0 ≤ a) ∧ (a ≤ (Open.length : Int)) ∧ (best = foldTo (gapF Dist i.toNat j.toNat) 199 a.toNat) ∧ (i ≠ j)
abbrev i_Field_gap_mJ0 (Open : List Int) (Dist : List (List Int)) (i : Int) (j : Int) (best : Int) (a : Int) : Nat := (Open.length - a).toNat
def i_Field_gap_C (f : FuncId) (ds : List D) : Orc := .no
def i_Field_gap_A (Open : List Int) (Dist : List (List Int)) (i : Int) (j : Int) : Ann := .two (.none) (.two (.none) (.two (.none) (.two (.two (.none) (.loop (cut2 (fun (best : Int) (a : Int) => i_Field_gap_JJ0 Open Dist i j best a) (fun (best : Int) (a : Int) => [(2, .d false (.int .i64 j)), (3, .ptr 3 0), (7, .d true (.int .i64 best)), (17, .d false (.sl (.ints (Dist.getD i.toNat [])))), (18, .d true (.int .i64 (((Dist.getD i.toNat []).length) : Int))), (19, .d true (.int .i64 a))]) (fun (best : Int) (a : Int) => [(3, .box 44 [.d false (.sl (.ints Open)), .d false (.sl (.rows Dist))])])) (fun g => i_Field_gap_mJ0 Open Dist i j g.1 g.2) (fun _ => .none))) (.none))))
def i_Field_gap_P (Open : List Int) (Dist : List (List Int)) (i : Int) (j : Int) : Prop :=
  (((i == j) = true → (((0 : Int) = (gapAt Dist i j)))) ∧ ((i == j) = false → ((0 : Int) ≤ i) ∧ ((i : Int) < Dist.length) ∧ (i.toNat < Dist.length) ∧ ((∃ best' : Int, ∃ a' : Int, (i_Field_gap_JJ0 Open Dist i j best' a') ∧ (j = j) ∧ ((199 : Int) = best') ∧ ((Dist.getD i.toNat []) = (Dist.getD i.toNat [])) ∧ ((((Dist.getD i.toNat []).length) : Int) = (((Dist.getD i.toNat []).length) : Int)) ∧ ((0 : Int) = a') ∧ (Open = Open) ∧ (Dist = Dist)) ∧ (∀ best : Int, ∀ a : Int, (i_Field_gap_JJ0 Open Dist i j best a) → (((decide (a < (((Dist.getD i.toNat []).length) : Int))) = true → ((0 : Int) ≤ a) ∧ ((a : Int) < (Dist.getD i.toNat []).length) ∧ (a.toNat < (Dist.getD i.toNat []).length) ∧ ((0 : Int) ≤ j) ∧ ((j : Int) < Dist.length) ∧ (j.toNat < Dist.length) ∧ ((0 : Int) ≤ a) ∧ ((a : Int) < (Dist.getD j.toNat []).length) ∧ (a.toNat < (Dist.getD j.toNat []).length) ∧ (-9223372036854775808 ≤ (((Dist.getD i.toNat []).getD a.toNat 0) + ((Dist.getD j.toNat []).getD a.toNat 0)) ∧ (((Dist.getD i.toNat []).getD a.toNat 0) + ((Dist.getD j.toNat []).getD a.toNat 0)) ≤ 9223372036854775807) ∧ (-9223372036854775808 ≤ (a + 1) ∧ (a + 1) ≤ 9223372036854775807) ∧ (∃ best' : Int, ∃ a' : Int, (i_Field_gap_JJ0 Open Dist i j best' a') ∧ (i_Field_gap_mJ0 Open Dist i j best' a' < i_Field_gap_mJ0 Open Dist i j best a) ∧ (j = j) ∧ ((min best (((Dist.getD i.toNat []).getD a.toNat 0) + ((Dist.getD j.toNat []).getD a.toNat 0))) = best') ∧ ((Dist.getD i.toNat []) = (Dist.getD i.toNat [])) ∧ ((((Dist.getD i.toNat []).length) : Int) = (((Dist.getD i.toNat []).length) : Int)) ∧ ((a + 1) = a') ∧ (Open = Open) ∧ (Dist = Dist))) ∧ ((decide (a < (((Dist.getD i.toNat []).length) : Int))) = false → ((best = (gapAt Dist i j)))))))))
theorem i_Field_gap_vc (Open : List Int) (Dist : List (List Int)) (i : Int) (j : Int) (hg : goodField Open Dist = true) (hi : 0 ≤ i ∧ i < (Dist.length : Int)) (hj : 0 ≤ j ∧ j < (Dist.length : Int)) (w_Open : (Open.length : Int) ≤ 9223372036854775807) (w_Dist : (Dist.length : Int) ≤ 9223372036854775807) (v_Dist : ∀ x9 ∈ Dist, (x9.length : Int) ≤ 9223372036854775807) : i_Field_gap_P Open Dist i j := by
  unfold i_Field_gap_P
  obtain ⟨g1, g2, g3⟩ := gf_open hg
  obtain ⟨ri, ci⟩ := gf_row (i := i.toNat) hg (by omega)
  obtain ⟨rj, cj⟩ := gf_row (i := j.toNat) hg (by omega)
  refine ⟨?_, ?_⟩
  · intro b1
    try simp only [nrmT] at b1
    unfold gapAt; rw [if_pos (by omega)]
  · intro b2
    try simp only [nrmT] at b2
    refine ⟨?_, ?_, ?_, ?_, ?_⟩
    · first | omega | rfl | (intro hg; simp only [nrmT] at hg; omega) | (intro g1 g2; simp [g1, g2]; done) | (intro g1; simp at g1 ⊢; simp [g1]; done) | (simp only [nrmT] at *; omega) | (simp at * <;> omega) | (simp_all <;> omega) | (simp_all; done)
    · first | omega | rfl | (intro hg; simp only [nrmT] at hg; omega) | (intro g1 g2; simp [g1, g2]; done) | (intro g1; simp at g1 ⊢; simp [g1]; done) | (simp only [nrmT] at *; omega) | (simp at * <;> omega) | (simp_all <;> omega) | (simp_all; done)
    · first | omega | rfl | (intro hg; simp only [nrmT] at hg; omega) | (intro g1 g2; simp [g1, g2]; done) | (intro g1; simp at g1 ⊢; simp [g1]; done) | (simp only [nrmT] at *; omega) | (simp at * <;> omega) | (simp_all <;> omega) | (simp_all; done)
    · refine ⟨199, 0, ?_⟩
      refine ⟨?_, rfl, rfl, rfl, rfl, rfl, rfl, rfl⟩
      · refine ⟨?_, ?_, ?_, ?_⟩
        · first | omega | rfl | (intro hg; simp only [nrmT] at hg; omega) | (intro g1 g2; simp [g1, g2]; done) | (intro g1; simp at g1 ⊢; simp [g1]; done) | (simp only [nrmT] at *; omega) | (simp at * <;> omega) | (simp_all <;> omega) | (simp_all; done)
        · first | omega | rfl | (intro hg; simp only [nrmT] at hg; omega) | (intro g1 g2; simp [g1, g2]; done) | (intro g1; simp at g1 ⊢; simp [g1]; done) | (simp only [nrmT] at *; omega) | (simp at * <;> omega) | (simp_all <;> omega) | (simp_all; done)
        · first | omega | rfl | (intro hg; simp only [nrmT] at hg; omega) | (intro g1 g2; simp [g1, g2]; done) | (intro g1; simp at g1 ⊢; simp [g1]; done) | (simp only [nrmT] at *; omega) | (simp at * <;> omega) | (simp_all <;> omega) | (simp_all; done)
        · first | omega | rfl | (intro hg; simp only [nrmT] at hg; omega) | (intro g1 g2; simp [g1, g2]; done) | (intro g1; simp at g1 ⊢; simp [g1]; done) | (simp only [nrmT] at *; omega) | (simp at * <;> omega) | (simp_all <;> omega) | (simp_all; done)
    · intro best a hJ
      obtain ⟨h1, h2, h3, h4⟩ := hJ
      refine ⟨?_, ?_⟩
      · intro b3
        try simp only [nrmT] at b3
        refine ⟨?_, ?_, ?_, ?_, ?_, ?_, ?_, ?_, ?_, ?_, ?_, ?_⟩
        · first | omega | rfl | (intro hg; simp only [nrmT] at hg; omega) | (intro g1 g2; simp [g1, g2]; done) | (intro g1; simp at g1 ⊢; simp [g1]; done) | (simp only [nrmT] at *; omega) | (simp at * <;> omega) | (simp_all <;> omega) | (simp_all; done)
        · first | omega | rfl | (intro hg; simp only [nrmT] at hg; omega) | (intro g1 g2; simp [g1, g2]; done) | (intro g1; simp at g1 ⊢; simp [g1]; done) | (simp only [nrmT] at *; omega) | (simp at * <;> omega) | (simp_all <;> omega) | (simp_all; done)
        · first | omega | rfl | (intro hg; simp only [nrmT] at hg; omega) | (intro g1 g2; simp [g1, g2]; done) | (intro g1; simp at g1 ⊢; simp [g1]; done) | (simp only [nrmT] at *; omega) | (simp at * <;> omega) | (simp_all <;> omega) | (simp_all; done)
        · first | omega | rfl | (intro hg; simp only [nrmT] at hg; omega) | (intro g1 g2; simp [g1, g2]; done) | (intro g1; simp at g1 ⊢; simp [g1]; done) | (simp only [nrmT] at *; omega) | (simp at * <;> omega) | (simp_all <;> omega) | (simp_all; done)
        · first | omega | rfl | (intro hg; simp only [nrmT] at hg; omega) | (intro g1 g2; simp [g1, g2]; done) | (intro g1; simp at g1 ⊢; simp [g1]; done) | (simp only [nrmT] at *; omega) | (simp at * <;> omega) | (simp_all <;> omega) | (simp_all; done)
        · first | omega | rfl | (intro hg; simp only [nrmT] at hg; omega) | (intro g1 g2; simp [g1, g2]; done) | (intro g1; simp at g1 ⊢; simp [g1]; done) | (simp only [nrmT] at *; omega) | (simp at * <;> omega) | (simp_all <;> omega) | (simp_all; done)
        · first | omega | rfl | (intro hg; simp only [nrmT] at hg; omega) | (intro g1 g2; simp [g1, g2]; done) | (intro g1; simp at g1 ⊢; simp [g1]; done) | (simp only [nrmT] at *; omega) | (simp at * <;> omega) | (simp_all <;> omega) | (simp_all; done)
        · first | omega | rfl | (intro hg; simp only [nrmT] at hg; omega) | (intro g1 g2; simp [g1, g2]; done) | (intro g1; simp at g1 ⊢; simp [g1]; done) | (simp only [nrmT] at *; omega) | (simp at * <;> omega) | (simp_all <;> omega) | (simp_all; done)
        · first | omega | rfl | (intro hg; simp only [nrmT] at hg; omega) | (intro g1 g2; simp [g1, g2]; done) | (intro g1; simp at g1 ⊢; simp [g1]; done) | (simp only [nrmT] at *; omega) | (simp at * <;> omega) | (simp_all <;> omega) | (simp_all; done)
        · have := ci a.toNat (by omega)
          have := cj a.toNat (by omega)
          omega
        · first | omega | rfl | (intro hg; simp only [nrmT] at hg; omega) | (intro g1 g2; simp [g1, g2]; done) | (intro g1; simp at g1 ⊢; simp [g1]; done) | (simp only [nrmT] at *; omega) | (simp at * <;> omega) | (simp_all <;> omega) | (simp_all; done)
        · refine ⟨(min best (((Dist.getD i.toNat []).getD a.toNat 0) + ((Dist.getD j.toNat []).getD a.toNat 0))), (a + 1), ?_⟩
          refine ⟨?_, ?_, rfl, rfl, rfl, rfl, rfl, rfl, rfl⟩
          · refine ⟨?_, ?_, ?_, ?_⟩
            · first | omega | rfl | (intro hg; simp only [nrmT] at hg; omega) | (intro g1 g2; simp [g1, g2]; done) | (intro g1; simp at g1 ⊢; simp [g1]; done) | (simp only [nrmT] at *; omega) | (simp at * <;> omega) | (simp_all <;> omega) | (simp_all; done)
            · first | omega | rfl | (intro hg; simp only [nrmT] at hg; omega) | (intro g1 g2; simp [g1, g2]; done) | (intro g1; simp at g1 ⊢; simp [g1]; done) | (simp only [nrmT] at *; omega) | (simp at * <;> omega) | (simp_all <;> omega) | (simp_all; done)
            · rw [foldTo_step (by omega), ← h3]; rfl
            · first | omega | rfl | (intro hg; simp only [nrmT] at hg; omega) | (intro g1 g2; simp [g1, g2]; done) | (intro g1; simp at g1 ⊢; simp [g1]; done) | (simp only [nrmT] at *; omega) | (simp at * <;> omega) | (simp_all <;> omega) | (simp_all; done)
          · first | (show _ < _; omega) | (simp only [i_Field_gap_mJ0]; omega) | (simp only [i_Field_gap_mJ0] at *; simp at *; omega)
      · intro b4
        try simp only [nrmT] at b4
        unfold gapAt
        rw [if_neg h4, h3, ri]
        have : a.toNat = Open.length := by omega
        rw [this]
theorem i_Field_gap_pc (Open : List Int) (Dist : List (List Int)) (i : Int) (j : Int) (hg : goodField Open Dist = true) (hi : 0 ≤ i ∧ i < (Dist.length : Int)) (hj : 0 ≤ j ∧ j < (Dist.length : Int)) : PC Try.prog 178 [.agg [.sl (.ints Open), .sl (.rows Dist)], .int .i64 i, .int .i64 j] (.one (.d (.int .i64 (gapAt Dist i j)))) :=
  pc_wf @Try.call178 fun hw => pc_by (by kernel_rfl) Try.func178 @Try.call178 (by kernel_rfl) i_Field_gap_C (i_Field_gap_A Open Dist i j) (by kernel_rfl) (i_Field_gap_vc Open Dist i j hg hi hj hw.1.1 hw.1.2.1.1 hw.1.2.1.2) (by kernel_rfl)
def i_Field_gap_orc : List D → Orc := orcN [none, none, none] fun ds => match ds with
  | [.agg [.sl (.ints Open), .sl (.rows Dist)], .int .i64 i, .int .i64 j] => some (.one (.d (.int .i64 (gapAt Dist i j))))
  | _ => none
theorem rising_at {xs : List Int} {lo hi : Int} (h : rising xs lo hi = true) : ∀ k, k < xs.length → lo + k ≤ xs.getD k 0 ∧ xs.getD k 0 ≤ hi := by
  intro k
  induction k with
  | zero =>
    intro hk
    have h1 := allTo_iff.1 h 0 hk
    simp only [risingP, Bool.and_eq_true] at h1
    have := inB_le h1.1
    omega
  | succ k ih =>
    intro hk
    have h0 := ih (by omega)
    have h1 := allTo_iff.1 h (k + 1) hk
    simp only [risingP, Bool.and_eq_true, Bool.or_eq_true, decide_eq_true_eq, Nat.add_sub_cancel] at h1
    have := inB_le h1.1
    have h2 := h1.2
    omega
def i_bag_has_C (f : FuncId) (ds : List D) : Orc := .no
def i_bag_has_A (b : Int) (x : Int) : Ann := .none
def i_bag_has_P (b : Int) (x : Int) : Prop :=
  ((0 : Int) ≤ b ∧ (b : Int) ≤ 18446744073709551615) ∧ ((0 : Int) ≤ x) ∧ ((0 : Int) ≤ (b / 2 ^ x.toNat) ∧ ((b / 2 ^ x.toNat) : Int) ≤ 18446744073709551615) ∧ ((0 : Int) ≤ 1 ∧ (1 : Int) ≤ 18446744073709551615) ∧ ((((((b / 2 ^ x.toNat).toNat &&& 1 : Nat) : Int) == 1) = (b.toNat.testBit x.toNat)))
theorem i_bag_has_vc (b : Int) (x : Int) (hb : 0 ≤ b ∧ b ≤ 4611686018427387903) (hx : 0 ≤ x)  : i_bag_has_P b x := by
  unfold i_bag_has_P
  refine ⟨?_, ?_, ?_, ?_, ?_⟩
  · first | omega | rfl | (intro hg; simp only [nrmT] at hg; omega) | (intro g1 g2; simp [g1, g2]; done) | (intro g1; simp at g1 ⊢; simp [g1]; done) | (simp only [nrmT] at *; omega) | (simp at * <;> omega) | (simp_all <;> omega) | (simp_all; done)
  · first | omega | rfl | (intro hg; simp only [nrmT] at hg; omega) | (intro g1 g2; simp [g1, g2]; done) | (intro g1; simp at g1 ⊢; simp [g1]; done) | (simp only [nrmT] at *; omega) | (simp at * <;> omega) | (simp_all <;> omega) | (simp_all; done)
  · have h1 : 0 ≤ b / 2 ^ x.toNat := Int.ediv_nonneg hb.1 (Int.le_of_lt (Int.pow_pos (by omega)))
    have h2 : b / 2 ^ x.toNat ≤ b := Int.ediv_le_self _ hb.1
    omega
  · first | omega | rfl | (intro hg; simp only [nrmT] at hg; omega) | (intro g1 g2; simp [g1, g2]; done) | (intro g1; simp at g1 ⊢; simp [g1]; done) | (simp only [nrmT] at *; omega) | (simp at * <;> omega) | (simp_all <;> omega) | (simp_all; done)
  · have e : b = ((b.toNat : Nat) : Int) := by omega
    have h := shr_bit (n := b.toNat) (k := x.toNat)
    rw [← e] at h
    rw [h]
    cases b.toNat.testBit x.toNat <;> rfl
theorem i_bag_has_pc (b : Int) (x : Int) (hb : 0 ≤ b ∧ b ≤ 4611686018427387903) (hx : 0 ≤ x) : PC Try.prog 183 [.int .u64 b, .int .i64 x] (.one (.d (.bool (b.toNat.testBit x.toNat)))) :=
  pc_wf @Try.call183 fun _ => pc_by (by kernel_rfl) Try.func183 @Try.call183 (by kernel_rfl) i_bag_has_C (i_bag_has_A b x) (by kernel_rfl) (i_bag_has_vc b x hb hx) (by kernel_rfl)
def i_bag_has_orc : List D → Orc := orcN [none, none] fun ds => match ds with
  | [.int .u64 b, .int .i64 x] => some (.one (.d (.bool (b.toNat.testBit x.toNat))))
  | _ => none
theorem pow8 {n : Nat} (h : n ≤ 8) : (2 : Nat) ^ n ≤ 256 := Nat.le_trans (Nat.pow_le_pow_right (by omega) h) (by decide)
abbrev s_l1Put_JJ0 (l : List Int) (n : Int) (k : Int) : Prop := (0 ≤ k) ∧ (k ≤ (l.length : Int)) ∧ (∀ j, j < k.toNat → l.getD j 0 < n)
abbrev s_l1Put_mJ0 (l : List Int) (n : Int) (k : Int) : Nat := (l.length - k).toNat
def s_l1Put_C (f : FuncId) (ds : List D) : Orc := .no
def s_l1Put_A (l : List Int) (n : Int) : Ann := .two (.none) (.two (.none) (.two (.loop (cut1 (fun (k : Int) => s_l1Put_JJ0 l n k) (fun (k : Int) => [(0, .d true (.sl (.ints l))), (1, .d false (.int .i64 n)), (5, .d true (.int .i64 k))]) (fun (k : Int) => [])) (fun g => s_l1Put_mJ0 l n g) (fun _ => .none)) (.two (.none) (.two (.reg [(6, .frz)]) (.none)))))
def s_l1Put_P (l : List Int) (n : Int) : Prop :=
  ((∃ k' : Int, (s_l1Put_JJ0 l n k') ∧ (l = l) ∧ (n = n) ∧ ((0 : Int) = k')) ∧ (∀ k : Int, (s_l1Put_JJ0 l n k) → ((decide (k < (l.length : Int))) = true → (decide (k < (l.length : Int))) = true) ∧ ((decide (k < (l.length : Int))) = true → (decide (k < (l.length : Int))) = true) ∧ (((decide (k < (l.length : Int))) = true → (0 : Int) ≤ k)) ∧ (((decide (k < (l.length : Int))) = true → (k : Int) < l.length)) ∧ ((decide (k < (l.length : Int))) = true → (decide (k < (l.length : Int))) = true) ∧ (((decide (k < (l.length : Int))) = true → k.toNat < l.length)) ∧ ((decide (k < (l.length : Int))) = true → (decide (k < (l.length : Int))) = true) ∧ ((decide (k < (l.length : Int))) = true → (decide (k < (l.length : Int))) = true) ∧ (true = true) ∧ (((decide (k < (l.length : Int))) = true → (decide (k < (l.length : Int))) = true)) ∧ (((decide (k < (l.length : Int))) = false → true = true)) ∧ (((cond (decide (k < (l.length : Int))) (decide ((l.getD k.toNat 0) < n)) false) = true → (-9223372036854775808 ≤ (k + 1) ∧ (k + 1) ≤ 9223372036854775807) ∧ (∃ k' : Int, (s_l1Put_JJ0 l n k') ∧ (s_l1Put_mJ0 l n k' < s_l1Put_mJ0 l n k) ∧ (l = l) ∧ (n = n) ∧ ((k + 1) = k'))) ∧ ((cond (decide (k < (l.length : Int))) (decide ((l.getD k.toNat 0) < n)) false) = false → ((decide (k < (l.length : Int))) = true → (decide (k < (l.length : Int))) = true) ∧ ((decide (k < (l.length : Int))) = true → (decide (k < (l.length : Int))) = true) ∧ (((decide (k < (l.length : Int))) = true → (0 : Int) ≤ k)) ∧ (((decide (k < (l.length : Int))) = true → (k : Int) < l.length)) ∧ ((decide (k < (l.length : Int))) = true → (decide (k < (l.length : Int))) = true) ∧ (((decide (k < (l.length : Int))) = true → k.toNat < l.length)) ∧ ((decide (k < (l.length : Int))) = true → (decide (k < (l.length : Int))) = true) ∧ ((decide (k < (l.length : Int))) = true → (decide (k < (l.length : Int))) = true) ∧ (true = true) ∧ (((decide (k < (l.length : Int))) = true → (decide (k < (l.length : Int))) = true)) ∧ (((decide (k < (l.length : Int))) = false → true = true)) ∧ (((cond (decide (k < (l.length : Int))) ((l.getD k.toNat 0) == n) false) = true → (((l : List Int) = (putL l n)))) ∧ ((cond (decide (k < (l.length : Int))) ((l.getD k.toNat 0) == n) false) = false → (true = true) ∧ ((0 : Int) ≤ k) ∧ ((k : Int) ≤ l.length) ∧ ((0 : Nat) = 0) ∧ (True) ∧ ((0 + ((l.take k.toNat).drop 0).length) * 8 ≤ 140737488355328) ∧ ((0 + ((l.take k.toNat).drop 0).length) = ([] ++ ((l.take k.toNat).drop 0)).length) ∧ (True) ∧ ((([] ++ ((l.take k.toNat).drop 0)).length + 1) * 8 ≤ 140737488355328) ∧ ((0 : Int) ≤ k) ∧ ((k : Int) ≤ l.length) ∧ (((0 + ((l.take k.toNat).drop 0).length) + 1) = (([] ++ ((l.take k.toNat).drop 0)) ++ [n]).length) ∧ (True) ∧ (((([] ++ ((l.take k.toNat).drop 0)) ++ [n]).length + ((l.take l.length).drop k.toNat).length) * 8 ≤ 140737488355328) ∧ (((((0 + ((l.take k.toNat).drop 0).length) + 1) + ((l.take l.length).drop k.toNat).length) = ((([] ++ ((l.take k.toNat).drop 0)) ++ [n]) ++ ((l.take l.length).drop k.toNat)).length) ∧ ((((([] ++ ((l.take k.toNat).drop 0)) ++ [n]) ++ ((l.take l.length).drop k.toNat)) : List Int) = (putL l n)))))))))
theorem s_l1Put_vc (l : List Int) (n : Int) (hl : l.length ≤ 1048576) (w_l : (l.length : Int) ≤ 9223372036854775807) : s_l1Put_P l n := by
  unfold s_l1Put_P
  refine ⟨?_, ?_⟩
  · refine ⟨0, ?_⟩
    refine ⟨?_, rfl, rfl, rfl⟩
    · refine ⟨?_, ?_, ?_⟩
      · first | omega | rfl | (intro hg; simp only [nrmT] at hg; omega) | (intro g1 g2; simp [g1, g2]; done) | (intro g1; simp at g1 ⊢; simp [g1]; done) | (simp only [nrmT] at *; omega) | (simp at * <;> omega) | (simp_all <;> omega) | (simp_all; done)
      · first | omega | rfl | (intro hg; simp only [nrmT] at hg; omega) | (intro g1 g2; simp [g1, g2]; done) | (intro g1; simp at g1 ⊢; simp [g1]; done) | (simp only [nrmT] at *; omega) | (simp at * <;> omega) | (simp_all <;> omega) | (simp_all; done)
      · first | omega | rfl | (intro hg; simp only [nrmT] at hg; omega) | (intro g1 g2; simp [g1, g2]; done) | (intro g1; simp at g1 ⊢; simp [g1]; done) | (simp only [nrmT] at *; omega) | (simp at * <;> omega) | (simp_all <;> omega) | (simp_all; done)
  · intro k hJ
    obtain ⟨h1, h2, h3⟩ := hJ
    refine ⟨id, id, ?_, ?_, id, ?_, id, id, rfl, id, fun _ => rfl, ?_, ?_⟩
    · first | omega | rfl | (intro hg; simp only [nrmT] at hg; omega) | (intro g1 g2; simp [g1, g2]; done) | (intro g1; simp at g1 ⊢; simp [g1]; done) | (simp only [nrmT] at *; omega) | (simp at * <;> omega) | (simp_all <;> omega) | (simp_all; done)
    · first | omega | rfl | (intro hg; simp only [nrmT] at hg; omega) | (intro g1 g2; simp [g1, g2]; done) | (intro g1; simp at g1 ⊢; simp [g1]; done) | (simp only [nrmT] at *; omega) | (simp at * <;> omega) | (simp_all <;> omega) | (simp_all; done)
    · first | omega | rfl | (intro hg; simp only [nrmT] at hg; omega) | (intro g1 g2; simp [g1, g2]; done) | (intro g1; simp at g1 ⊢; simp [g1]; done) | (simp only [nrmT] at *; omega) | (simp at * <;> omega) | (simp_all <;> omega) | (simp_all; done)
    · intro b1
      refine ⟨?_, ?_⟩
      · have h5 : k < (l.length : Int) ∧ l.getD k.toNat 0 < n := by
          revert b1; by_cases h : k < (l.length : Int)
          · rw [decide_eq_true h]; intro g; exact ⟨h, by simpa using g⟩
          · rw [decide_eq_false h]; intro g; cases g
        omega
      · refine ⟨(k + 1), ?_⟩
        refine ⟨?_, ?_, rfl, rfl, rfl⟩
        · refine ⟨?_, ?_, ?_⟩
          · omega
          · have h5 : k < (l.length : Int) ∧ l.getD k.toNat 0 < n := by
              revert b1; by_cases h : k < (l.length : Int)
              · rw [decide_eq_true h]; intro g; exact ⟨h, by simpa using g⟩
              · rw [decide_eq_false h]; intro g; cases g
            omega
          · have h5 : k < (l.length : Int) ∧ l.getD k.toNat 0 < n := by
              revert b1; by_cases h : k < (l.length : Int)
              · rw [decide_eq_true h]; intro g; exact ⟨h, by simpa using g⟩
              · rw [decide_eq_false h]; intro g; cases g
            intro j hj
            by_cases e : j = k.toNat
            · rw [e]; exact h5.2
            · exact h3 j (by omega)
        · have h5 : k < (l.length : Int) ∧ l.getD k.toNat 0 < n := by
            revert b1; by_cases h : k < (l.length : Int)
            · rw [decide_eq_true h]; intro g; exact ⟨h, by simpa using g⟩
            · rw [decide_eq_false h]; intro g; cases g
          first | (show _ < _; omega) | (simp only [s_l1Put_mJ0]; omega) | (simp only [s_l1Put_mJ0] at *; simp at *; omega)
    · intro b2
      refine ⟨id, id, ?_, ?_, id, ?_, id, id, rfl, id, fun _ => rfl, ?_, ?_⟩
      · first | omega | rfl | (intro hg; simp only [nrmT] at hg; omega) | (intro g1 g2; simp [g1, g2]; done) | (intro g1; simp at g1 ⊢; simp [g1]; done) | (simp only [nrmT] at *; omega) | (simp at * <;> omega) | (simp_all <;> omega) | (simp_all; done)
      · first | omega | rfl | (intro hg; simp only [nrmT] at hg; omega) | (intro g1 g2; simp [g1, g2]; done) | (intro g1; simp at g1 ⊢; simp [g1]; done) | (simp only [nrmT] at *; omega) | (simp at * <;> omega) | (simp_all <;> omega) | (simp_all; done)
      · first | omega | rfl | (intro hg; simp only [nrmT] at hg; omega) | (intro g1 g2; simp [g1, g2]; done) | (intro g1; simp at g1 ⊢; simp [g1]; done) | (simp only [nrmT] at *; omega) | (simp at * <;> omega) | (simp_all <;> omega) | (simp_all; done)
      · intro b3
        have h6 : k.toNat < l.length → ¬ l.getD k.toNat 0 < n := by
          intro g1 g2
          rw [decide_eq_true (show k < (l.length : Int) by omega), decide_eq_true g2] at b2
          cases b2
        have h7 : k < (l.length : Int) ∧ l.getD k.toNat 0 = n := by
          revert b3; by_cases h : k < (l.length : Int)
          · rw [decide_eq_true h]; intro g; exact ⟨h, by simpa using g⟩
          · rw [decide_eq_false h]; intro g; cases g
        rw [putL_at l n k.toNat (by omega) h3 h6, if_pos ⟨by omega, h7.2⟩]
      · intro b4
        refine ⟨rfl, ?_, ?_, rfl, trivial, ?_, ?_, trivial, ?_, ?_, ?_, ?_, trivial, ?_, ?_, ?_⟩
        · first | omega | rfl | (intro hg; simp only [nrmT] at hg; omega) | (intro g1 g2; simp [g1, g2]; done) | (intro g1; simp at g1 ⊢; simp [g1]; done) | (simp only [nrmT] at *; omega) | (simp at * <;> omega) | (simp_all <;> omega) | (simp_all; done)
        · first | omega | rfl | (intro hg; simp only [nrmT] at hg; omega) | (intro g1 g2; simp [g1, g2]; done) | (intro g1; simp at g1 ⊢; simp [g1]; done) | (simp only [nrmT] at *; omega) | (simp at * <;> omega) | (simp_all <;> omega) | (simp_all; done)
        · first | (simp only [List.length_append, List.length_take, List.length_drop, List.length_cons, List.length_nil]; done) | (simp only [List.length_append, List.length_take, List.length_drop, List.length_cons, List.length_nil]; omega)
        · first | (simp only [List.length_append, List.length_take, List.length_drop, List.length_cons, List.length_nil]; done) | (simp only [List.length_append, List.length_take, List.length_drop, List.length_cons, List.length_nil]; omega)
        · first | (simp only [List.length_append, List.length_take, List.length_drop, List.length_cons, List.length_nil]; done) | (simp only [List.length_append, List.length_take, List.length_drop, List.length_cons, List.length_nil]; omega)
        · first | omega | rfl | (intro hg; simp only [nrmT] at hg; omega) | (intro g1 g2; simp [g1, g2]; done) | (intro g1; simp at g1 ⊢; simp [g1]; done) | (simp only [nrmT] at *; omega) | (simp at * <;> omega) | (simp_all <;> omega) | (simp_all; done)
        · first | omega | rfl | (intro hg; simp only [nrmT] at hg; omega) | (intro g1 g2; simp [g1, g2]; done) | (intro g1; simp at g1 ⊢; simp [g1]; done) | (simp only [nrmT] at *; omega) | (simp at * <;> omega) | (simp_all <;> omega) | (simp_all; done)
        · first | (simp only [List.length_append, List.length_take, List.length_drop, List.length_cons, List.length_nil]; done) | (simp only [List.length_append, List.length_take, List.length_drop, List.length_cons, List.length_nil]; omega)
        · first | (simp only [List.length_append, List.length_take, List.length_drop, List.length_cons, List.length_nil]; done) | (simp only [List.length_append, List.length_take, List.length_drop, List.length_cons, List.length_nil]; omega)
        · first | (simp only [List.length_append, List.length_take, List.length_drop, List.length_cons, List.length_nil]; done) | (simp only [List.length_append, List.length_take, List.length_drop, List.length_cons, List.length_nil]; omega)
        · have h6 : k.toNat < l.length → ¬ l.getD k.toNat 0 < n := by
            intro g1 g2
            rw [decide_eq_true (show k < (l.length : Int) by omega), decide_eq_true g2] at b2
            cases b2
          have h7 : ¬ (k.toNat < l.length ∧ l.getD k.toNat 0 = n) := by
            rintro ⟨g1, g2⟩
            rw [decide_eq_true (show k < (l.length : Int) by omega), g2] at b4
            simp at b4
          rw [putL_at l n k.toNat (by omega) h3 h6, if_neg h7]
          simp
theorem s_l1Put_pc (l : List Int) (n : Int) (hl : l.length ≤ 1048576) : PCs Try.prog 138 [.sl (.ints l), .int .i64 n] 0 (.sl (.ints (putL l n))) :=
  pcs_wf @Try.call138 fun hw => pcs_by (by kernel_rfl) Try.func138 @Try.call138 (by kernel_rfl) s_l1Put_C (s_l1Put_A l n) (by kernel_rfl) (s_l1Put_vc l n hl hw.1) (by kernel_rfl)
def s_l1Put_orc : List D → Orc := orcS 0 fun ds => match ds with
  | [.sl (.ints l), .int .i64 n] => some (.sl (.ints (putL l n)))
  | _ => none
theorem getD_get {α : Type} {xs : List α} {k : Nat} {d : α} (h : k < xs.length) : xs.getD k d = xs[k] := by simp [h]
abbrev slices_Index_int_int__JJ0 (xs : List Int) (x : Int) (i : Int) : Prop := (0 ≤ i) ∧ (i ≤ (xs.length : Int)) ∧ (∀ k, k < i.toNat → (fun y => x == y) (xs.getD k 0) = false)
abbrev slices_Index_int_int__mJ0 (xs : List Int) (x : Int) (i : Int) : Nat := (xs.length - i).toNat
def slices_Index_int_int__C (f : FuncId) (ds : List D) : Orc := .no
def slices_Index_int_int__A (xs : List Int) (x : Int) : Ann := .two (.none) (.two (.two (.none) (.loop (cut1 (fun (i : Int) => slices_Index_int_int__JJ0 xs x i) (fun (i : Int) => [(0, .d false (.sl (.ints xs))), (1, .d false (.int .i64 x)), (7, .d true (.int .i64 (xs.length : Int))), (8, .d true (.int .i64 i))]) (fun (i : Int) => [])) (fun g => slices_Index_int_int__mJ0 xs x g) (fun _ => .none))) (.none))
def slices_Index_int_int__P (xs : List Int) (x : Int) : Prop :=
  ((∃ i' : Int, (slices_Index_int_int__JJ0 xs x i') ∧ (xs = xs) ∧ (x = x) ∧ ((xs.length : Int) = (xs.length : Int)) ∧ ((0 : Int) = i')) ∧ (∀ i : Int, (slices_Index_int_int__JJ0 xs x i) → (((decide (i < (xs.length : Int))) = true → ((0 : Int) ≤ i) ∧ ((i : Int) < xs.length) ∧ (i.toNat < xs.length) ∧ (((x == (xs.getD i.toNat 0)) = true → ((i = (idxI (fun y => x == y) xs)))) ∧ ((x == (xs.getD i.toNat 0)) = false → (-9223372036854775808 ≤ (i + 1) ∧ (i + 1) ≤ 9223372036854775807) ∧ (∃ i' : Int, (slices_Index_int_int__JJ0 xs x i') ∧ (slices_Index_int_int__mJ0 xs x i' < slices_Index_int_int__mJ0 xs x i) ∧ (xs = xs) ∧ (x = x) ∧ ((xs.length : Int) = (xs.length : Int)) ∧ ((i + 1) = i'))))) ∧ ((decide (i < (xs.length : Int))) = false → ((((-1) : Int) = (idxI (fun y => x == y) xs)))))))
theorem slices_Index_int_int__vc (xs : List Int) (x : Int)  (w_xs : (xs.length : Int) ≤ 9223372036854775807) : slices_Index_int_int__P xs x := by
  unfold slices_Index_int_int__P
  refine ⟨?_, ?_⟩
  · refine ⟨0, ?_⟩
    refine ⟨?_, rfl, rfl, rfl, rfl⟩
    · refine ⟨?_, ?_, ?_⟩
      · first | omega | rfl | (intro hg; simp only [nrmT] at hg; omega) | (intro g1 g2; simp [g1, g2]; done) | (intro g1; simp at g1 ⊢; simp [g1]; done) | (simp only [nrmT] at *; omega) | (simp at * <;> omega) | (simp_all <;> omega) | (simp_all; done)
      · first | omega | rfl | (intro hg; simp only [nrmT] at hg; omega) | (intro g1 g2; simp [g1, g2]; done) | (intro g1; simp at g1 ⊢; simp [g1]; done) | (simp only [nrmT] at *; omega) | (simp at * <;> omega) | (simp_all <;> omega) | (simp_all; done)
      · first | omega | rfl | (intro hg; simp only [nrmT] at hg; omega) | (intro g1 g2; simp [g1, g2]; done) | (intro g1; simp at g1 ⊢; simp [g1]; done) | (simp only [nrmT] at *; omega) | (simp at * <;> omega) | (simp_all <;> omega) | (simp_all; done)
  · intro i hJ
    obtain ⟨h1, h2, h3⟩ := hJ
    refine ⟨?_, ?_⟩
    · intro b1
      try simp only [nrmT] at b1
      refine ⟨?_, ?_, ?_, ?_, ?_⟩
      · first | omega | rfl | (intro hg; simp only [nrmT] at hg; omega) | (intro g1 g2; simp [g1, g2]; done) | (intro g1; simp at g1 ⊢; simp [g1]; done) | (simp only [nrmT] at *; omega) | (simp at * <;> omega) | (simp_all <;> omega) | (simp_all; done)
      · first | omega | rfl | (intro hg; simp only [nrmT] at hg; omega) | (intro g1 g2; simp [g1, g2]; done) | (intro g1; simp at g1 ⊢; simp [g1]; done) | (simp only [nrmT] at *; omega) | (simp at * <;> omega) | (simp_all <;> omega) | (simp_all; done)
      · first | omega | rfl | (intro hg; simp only [nrmT] at hg; omega) | (intro g1 g2; simp [g1, g2]; done) | (intro g1; simp at g1 ⊢; simp [g1]; done) | (simp only [nrmT] at *; omega) | (simp at * <;> omega) | (simp_all <;> omega) | (simp_all; done)
      · intro b2
        try simp only [nrmT] at b2
        exact idx_found (p := fun y => x == y) h1 b1 h3 (by simpa using b2)
      · intro b3
        try simp only [nrmT] at b3
        refine ⟨?_, ?_⟩
        · first | omega | rfl | (intro hg; simp only [nrmT] at hg; omega) | (intro g1 g2; simp [g1, g2]; done) | (intro g1; simp at g1 ⊢; simp [g1]; done) | (simp only [nrmT] at *; omega) | (simp at * <;> omega) | (simp_all <;> omega) | (simp_all; done)
        · refine ⟨(i + 1), ?_⟩
          refine ⟨?_, ?_, rfl, rfl, rfl, rfl⟩
          · refine ⟨?_, ?_, ?_⟩
            · first | omega | rfl | (intro hg; simp only [nrmT] at hg; omega) | (intro g1 g2; simp [g1, g2]; done) | (intro g1; simp at g1 ⊢; simp [g1]; done) | (simp only [nrmT] at *; omega) | (simp at * <;> omega) | (simp_all <;> omega) | (simp_all; done)
            · first | omega | rfl | (intro hg; simp only [nrmT] at hg; omega) | (intro g1 g2; simp [g1, g2]; done) | (intro g1; simp at g1 ⊢; simp [g1]; done) | (simp only [nrmT] at *; omega) | (simp at * <;> omega) | (simp_all <;> omega) | (simp_all; done)
            · exact idx_step (p := fun y => x == y) h1 h3 (by simpa using b3)
          · first | (show _ < _; omega) | (simp only [slices_Index_int_int__mJ0]; omega) | (simp only [slices_Index_int_int__mJ0] at *; simp at *; omega)
    · intro b4
      try simp only [nrmT] at b4
      exact (idx_none (by omega) h3).symm
theorem slices_Index_int_int__pc (xs : List Int) (x : Int)  : PC Try.prog 116 [.sl (.ints xs), .int .i64 x] (.one (.d (.int .i64 (idxI (fun y => x == y) xs)))) :=
  pc_wf @Try.call116 fun hw => pc_by (by kernel_rfl) Try.func116 @Try.call116 (by kernel_rfl) slices_Index_int_int__C (slices_Index_int_int__A xs x) (by kernel_rfl) (slices_Index_int_int__vc xs x hw.1) (by kernel_rfl)
def slices_Index_int_int__orc : List D → Orc := orcN [some .ints, none] fun ds => match ds with
  | [.sl (.ints xs), .int .i64 x] => some (.one (.d (.int .i64 (idxI (fun y => x == y) xs))))
  | _ => none
def slices_Contains_int_int__C (f : FuncId) (ds : List D) : Orc := bif Nat.beq f 116 then slices_Index_int_int__orc ds else .no
def slices_Contains_int_int__A (xs : List Int) (x : Int) : Ann := .none
def slices_Contains_int_int__P (xs : List Int) (x : Int) : Prop :=
  (PC Try.prog 116 [.sl (.ints xs), .int .i64 x] (.one (.d (.int .i64 (idxI (fun y => x == y) xs))))) ∧ (((decide ((idxI (fun y => x == y) xs) ≥ 0)) = (xs.contains x)))
theorem slices_Contains_int_int__vc (xs : List Int) (x : Int)  (w_xs : (xs.length : Int) ≤ 9223372036854775807) : slices_Contains_int_int__P xs x := by
  unfold slices_Contains_int_int__P
  refine ⟨slices_Index_int_int__pc xs x, ?_⟩
  · rw [idx_any, List.contains_eq_any_beq]
theorem slices_Contains_int_int__pc (xs : List Int) (x : Int)  : PC Try.prog 124 [.sl (.ints xs), .int .i64 x] (.one (.d (.bool (xs.contains x)))) :=
  pc_wf @Try.call124 fun hw => pc_by (by kernel_rfl) Try.func124 @Try.call124 (by kernel_rfl) slices_Contains_int_int__C (slices_Contains_int_int__A xs x) (by kernel_rfl) (slices_Contains_int_int__vc xs x hw.1) (by kernel_rfl)
def slices_Contains_int_int__orc : List D → Orc := orcN [some .ints, none] fun ds => match ds with
  | [.sl (.ints xs), .int .i64 x] => some (.one (.d (.bool (xs.contains x))))
  | _ => none
theorem has_end {xs : List Int} {x i : Int} (h2 : (xs.length : Int) ≤ i) (h3 : ∀ k, k < i.toNat → (fun y => x == y) (xs.getD k 0) = false) : xs.contains x = false := by
  rw [List.contains_eq_any_beq, List.any_eq_false]
  intro y hy
  obtain ⟨k, hk, rfl⟩ := List.mem_iff_getElem.1 hy
  have := h3 k (by omega)
  simp [hk] at this
  simpa using this
theorem has_found {xs : List Int} {x i : Int} (h1 : 0 ≤ i) (h2 : i < (xs.length : Int)) (h : xs.getD i.toNat 0 = x) : xs.contains x = true := by
  rw [List.contains_iff_mem, ← h]; exact getD_memI h1 h2
abbrev s_l1Has_JJ0 (xs : List Int) (x : Int) (i : Int) : Prop := (0 ≤ i) ∧ (i ≤ (xs.length : Int)) ∧ (∀ k, k < i.toNat → (fun y => x == y) (xs.getD k 0) = false)
abbrev s_l1Has_mJ0 (xs : List Int) (x : Int) (i : Int) : Nat := (xs.length - i).toNat
def s_l1Has_C (f : FuncId) (ds : List D) : Orc := .no
def s_l1Has_A (xs : List Int) (x : Int) : Ann := .two (.none) (.two (.two (.none) (.loop (cut1 (fun (i : Int) => s_l1Has_JJ0 xs x i) (fun (i : Int) => [(0, .d false (.sl (.ints xs))), (1, .d false (.int .i64 x)), (5, .d true (.int .i64 i))]) (fun (i : Int) => [])) (fun g => s_l1Has_mJ0 xs x g) (fun _ => .none))) (.none))
def s_l1Has_P (xs : List Int) (x : Int) : Prop :=
  ((∃ i' : Int, (s_l1Has_JJ0 xs x i') ∧ (xs = xs) ∧ (x = x) ∧ ((0 : Int) = i')) ∧ (∀ i : Int, (s_l1Has_JJ0 xs x i) → (((decide (i < (xs.length : Int))) = true → ((0 : Int) ≤ i) ∧ ((i : Int) < xs.length) ∧ (i.toNat < xs.length) ∧ ((((xs.getD i.toNat 0) == x) = true → ((true = (xs.contains x)))) ∧ (((xs.getD i.toNat 0) == x) = false → (-9223372036854775808 ≤ (i + 1) ∧ (i + 1) ≤ 9223372036854775807) ∧ (∃ i' : Int, (s_l1Has_JJ0 xs x i') ∧ (s_l1Has_mJ0 xs x i' < s_l1Has_mJ0 xs x i) ∧ (xs = xs) ∧ (x = x) ∧ ((i + 1) = i'))))) ∧ ((decide (i < (xs.length : Int))) = false → ((false = (xs.contains x)))))))
theorem s_l1Has_vc (xs : List Int) (x : Int)  (w_xs : (xs.length : Int) ≤ 9223372036854775807) : s_l1Has_P xs x := by
  unfold s_l1Has_P
  refine ⟨?_, ?_⟩
  · refine ⟨0, ?_⟩
    refine ⟨?_, rfl, rfl, rfl⟩
    · refine ⟨?_, ?_, ?_⟩
      · first | omega | rfl | (intro hg; simp only [nrmT] at hg; omega) | (intro g1 g2; simp [g1, g2]; done) | (intro g1; simp at g1 ⊢; simp [g1]; done) | (simp only [nrmT] at *; omega) | (simp at * <;> omega) | (simp_all <;> omega) | (simp_all; done)
      · first | omega | rfl | (intro hg; simp only [nrmT] at hg; omega) | (intro g1 g2; simp [g1, g2]; done) | (intro g1; simp at g1 ⊢; simp [g1]; done) | (simp only [nrmT] at *; omega) | (simp at * <;> omega) | (simp_all <;> omega) | (simp_all; done)
      · first | omega | rfl | (intro hg; simp only [nrmT] at hg; omega) | (intro g1 g2; simp [g1, g2]; done) | (intro g1; simp at g1 ⊢; simp [g1]; done) | (simp only [nrmT] at *; omega) | (simp at * <;> omega) | (simp_all <;> omega) | (simp_all; done)
  · intro i hJ
    obtain ⟨h1, h2, h3⟩ := hJ
    refine ⟨?_, ?_⟩
    · intro b1
      try simp only [nrmT] at b1
      refine ⟨?_, ?_, ?_, ?_, ?_⟩
      · first | omega | rfl | (intro hg; simp only [nrmT] at hg; omega) | (intro g1 g2; simp [g1, g2]; done) | (intro g1; simp at g1 ⊢; simp [g1]; done) | (simp only [nrmT] at *; omega) | (simp at * <;> omega) | (simp_all <;> omega) | (simp_all; done)
      · first | omega | rfl | (intro hg; simp only [nrmT] at hg; omega) | (intro g1 g2; simp [g1, g2]; done) | (intro g1; simp at g1 ⊢; simp [g1]; done) | (simp only [nrmT] at *; omega) | (simp at * <;> omega) | (simp_all <;> omega) | (simp_all; done)
      · first | omega | rfl | (intro hg; simp only [nrmT] at hg; omega) | (intro g1 g2; simp [g1, g2]; done) | (intro g1; simp at g1 ⊢; simp [g1]; done) | (simp only [nrmT] at *; omega) | (simp at * <;> omega) | (simp_all <;> omega) | (simp_all; done)
      · intro b2
        try simp only [nrmT] at b2
        exact (has_found h1 b1 b2).symm
      · intro b3
        try simp only [nrmT] at b3
        refine ⟨?_, ?_⟩
        · first | omega | rfl | (intro hg; simp only [nrmT] at hg; omega) | (intro g1 g2; simp [g1, g2]; done) | (intro g1; simp at g1 ⊢; simp [g1]; done) | (simp only [nrmT] at *; omega) | (simp at * <;> omega) | (simp_all <;> omega) | (simp_all; done)
        · refine ⟨(i + 1), ?_⟩
          refine ⟨?_, ?_, rfl, rfl, rfl⟩
          · refine ⟨?_, ?_, ?_⟩
            · first | omega | rfl | (intro hg; simp only [nrmT] at hg; omega) | (intro g1 g2; simp [g1, g2]; done) | (intro g1; simp at g1 ⊢; simp [g1]; done) | (simp only [nrmT] at *; omega) | (simp at * <;> omega) | (simp_all <;> omega) | (simp_all; done)
            · first | omega | rfl | (intro hg; simp only [nrmT] at hg; omega) | (intro g1 g2; simp [g1, g2]; done) | (intro g1; simp at g1 ⊢; simp [g1]; done) | (simp only [nrmT] at *; omega) | (simp at * <;> omega) | (simp_all <;> omega) | (simp_all; done)
            · exact idx_step (p := fun y => x == y) h1 h3 (by simp only [beq_eq_false_iff_ne]; exact fun h => b3 h.symm)
          · first | (show _ < _; omega) | (simp only [s_l1Has_mJ0]; omega) | (simp only [s_l1Has_mJ0] at *; simp at *; omega)
    · intro b4
      try simp only [nrmT] at b4
      exact (has_end (by omega) h3).symm
theorem s_l1Has_pc (xs : List Int) (x : Int)  : PC Try.prog 122 [.sl (.ints xs), .int .i64 x] (.one (.d (.bool (xs.contains x)))) :=
  pc_wf @Try.call122 fun hw => pc_by (by kernel_rfl) Try.func122 @Try.call122 (by kernel_rfl) s_l1Has_C (s_l1Has_A xs x) (by kernel_rfl) (s_l1Has_vc xs x hw.1) (by kernel_rfl)
def s_l1Has_orc : List D → Orc := orcN [some .ints, none] fun ds => match ds with
  | [.sl (.ints xs), .int .i64 x] => some (.one (.d (.bool (xs.contains x))))
  | _ => none
theorem rising_asc {l : List Int} {lo hi : Int} (h : Asc l) (hb : ∀ x ∈ l, lo ≤ x ∧ x ≤ hi) : rising l lo hi = true := by
  unfold rising
  rw [allTo_iff]
  intro k hk
  unfold risingP
  simp only [Bool.and_eq_true, Bool.or_eq_true, decide_eq_true_eq]
  have h1 := hb _ (getD_mem (d := 0) hk)
  refine ⟨decide_eq_true h1, ?_⟩
  by_cases e : k = 0
  · exact .inl e
  · refine .inr ?_
    have h2 := List.pairwise_iff_getElem.1 h (k - 1) k (by omega) hk (by omega)
    rw [getD_get hk, getD_get (show k - 1 < l.length by omega)]
    exact h2
theorem two_facts {Open set : List Int} {Dist : List (List Int)} (h : (goodField Open Dist && rising set 0 ((Open.length : Int) - 1) && decide (0 < set.length)) = true) :
    goodField Open Dist = true ∧ rising set 0 ((Open.length : Int) - 1) = true ∧ 0 < set.length := by
  simp only [Bool.and_eq_true, decide_eq_true_eq] at h
  exact ⟨h.1.1, h.1.2, h.2⟩
/-- Marks from k on. -/
def marks (k : Int) (n : Nat) : List Int := (List.range n).map fun (i : Nat) => k + (i : Int)
def markTo (k : Int) (xs : List Int) (g : Nat) : List Int := marks k g ++ xs.drop g
theorem marks_len (k : Int) (n : Nat) : (marks k n).length = n := by simp [marks]
theorem markTo_zero (k : Int) (xs : List Int) : markTo k xs 0 = xs := by simp [markTo, marks]
theorem markTo_all (k : Int) (xs : List Int) : markTo k xs xs.length = marks k xs.length := by simp [markTo]
theorem markTo_len (k : Int) (xs : List Int) (g : Nat) (h : g ≤ xs.length) : (markTo k xs g).length = xs.length := by simp [markTo, marks_len]; omega
theorem markTo_step (k : Int) (xs : List Int) (g : Nat) (h : g < xs.length) : (markTo k xs g).set g (k + (g : Int)) = markTo k xs (g + 1) := by
  apply List.ext_getElem?
  intro j
  simp only [markTo, marks, List.getElem?_set, List.getElem?_append, List.length_map, List.length_range, List.getElem?_map, List.getElem?_drop, List.length_append, List.length_drop]
  by_cases h1 : g = j
  · subst h1
    simp [h]
    omega
  · by_cases h2 : j < g
    · simp [h1, h2, show j < g + 1 by omega]
    · simp [h1, h2, show ¬ j < g + 1 by omega]
      congr 1; omega
theorem sum_take : ∀ (ns : List Nat) (g : Nat), g < ns.length → (ns.take (g + 1)).sum = (ns.take g).sum + ns.getD g 0
  | [], g, h => by simp at h
  | n :: r, 0, _ => by simp
  | n :: r, g + 1, h => by
    have := sum_take r g (by simpa using h)
    simp only [List.take_succ_cons, List.sum_cons, List.getD_cons_succ, this]
    omega
theorem sum_take_le (ns : List Nat) (g : Nat) : (ns.take g).sum ≤ ns.sum := by
  have := List.take_append_drop g ns
  have h2 : ns.sum = (ns.take g).sum + (ns.drop g).sum := by rw [← List.sum_append, this]
  omega
def laws_markIntS_g_C (f : FuncId) (ms : List MV) : Option Int := none
def laws_markIntS_g_A (n : Nat) (k : Int) : MAnn := .two (.none) (.two (.two (.none) (.loop n (fun g => [(0, .shp (.ints n)), (1, .int (k + (g : Int))), (5, .int (g : Int))]) (fun g => []) (fun g => .none))) (.none))
def laws_markIntS_g_P (n : Nat) (k : Int) : Prop :=
  (((([] : List Int) = []) ∧ ((.ints n : Sh) = .ints n) ∧ ((k : Int) = (k + ((0 : Nat) : Int))) ∧ ((0 : Int) = ((0 : Nat) : Int))) ∧ (∀ g : Nat, g ≤ n → (((decide ((g : Int) < ((n : Nat) : Int))) = true → ((0 : Int) ≤ (g : Int)) ∧ (((g : Int) : Int) < ((n : Nat) : Int)) ∧ (-9223372036854775808 ≤ ((k + (g : Int)) + 1) ∧ ((k + (g : Int)) + 1) ≤ 9223372036854775807) ∧ (-9223372036854775808 ≤ ((g : Int) + 1) ∧ ((g : Int) + 1) ≤ 9223372036854775807) ∧ ((g + 1 ≤ n) ∧ (([] : List Int) = []) ∧ ((.ints n : Sh) = .ints n) ∧ ((((k + (g : Int)) + 1) : Int) = (k + ((g + 1 : Nat) : Int))) ∧ ((((g : Int) + 1) : Int) = ((g + 1 : Nat) : Int)))) ∧ ((decide ((g : Int) < ((n : Nat) : Int))) = false → (((((k + (g : Int)) : Int) = k + (n : Int))) ∧ ((([] : List Int) = [])))))))
theorem laws_markIntS_g_vc (n : Nat) (k : Int) (hk : 0 ≤ k) (hn : k + (n : Int) ≤ 9223372036854775807) : laws_markIntS_g_P n k := by
  unfold laws_markIntS_g_P
  refine ⟨?_, ?_⟩
  · refine ⟨?_, ?_⟩
    · exact rfl
    refine ⟨?_, ?_⟩
    · exact rfl
    refine ⟨?_, ?_⟩
    · first | omega | rfl | (simp; done) | (simp <;> omega)
    first | omega | rfl | (simp; done) | (simp <;> omega)
  intro g hg
  refine ⟨?_, ?_⟩
  · intro b1
    simp only [nrmT] at b1
    refine ⟨?_, ?_⟩
    · first | omega | rfl | (simp; done) | (simp <;> omega)
    refine ⟨?_, ?_⟩
    · first | omega | rfl | (simp; done) | (simp <;> omega)
    refine ⟨?_, ?_⟩
    · first | omega | rfl | (simp; done) | (simp <;> omega)
    refine ⟨?_, ?_⟩
    · first | omega | rfl | (simp; done) | (simp <;> omega)
    refine ⟨?_, ?_⟩
    · first | omega | rfl | (simp; done) | (simp <;> omega)
    refine ⟨?_, ?_⟩
    · exact rfl
    refine ⟨?_, ?_⟩
    · exact rfl
    refine ⟨?_, ?_⟩
    · first | omega | rfl | (simp; done) | (simp <;> omega)
    first | omega | rfl | (simp; done) | (simp <;> omega)
  · intro b2
    simp only [nrmT] at b2
    refine ⟨?_, ?_⟩
    · first | omega | rfl | (simp; done) | (simp <;> omega)
    exact rfl
theorem laws_markIntS_g_pg (n : Nat) (k : Int) (hk : 0 ≤ k) (hn : k + (n : Int) ≤ 9223372036854775807) : PG Try.prog 35 [.shp (.ints n), .int k] (k + (n : Int)) :=
  pg_by Try.func35 @Try.call35 (by kernel_rfl) laws_markIntS_g_C (laws_markIntS_g_A n k) (by kernel_rfl) (laws_markIntS_g_vc n k hk hn) (by kernel_rfl)
def laws_markIntS_w_C (f : FuncId) (ms : List MV) : Option Int := none
def laws_markIntS_w_A (xs : List Int) (k : Int) : MAnn := .two (.none) (.two (.two (.none) (.loop xs.length (fun g => [(0, .row xs.length), (1, .int (k + (g : Int))), (5, .int (g : Int))]) (fun g => (markTo k xs g)) (fun g => .none))) (.none))
def laws_markIntS_w_P (xs : List Int) (k : Int) : Prop :=
  ((((xs : List Int) = (markTo k xs (0 : Nat))) ∧ ((xs.length : Nat) = xs.length) ∧ ((k : Int) = (k + ((0 : Nat) : Int))) ∧ ((0 : Int) = ((0 : Nat) : Int))) ∧ (∀ g : Nat, g ≤ xs.length → (((decide ((g : Int) < (xs.length : Int))) = true → ((0 : Int) ≤ (g : Int)) ∧ (((g : Int) : Int) < (xs.length : Int)) ∧ ((g : Int).toNat < (markTo k xs g).length) ∧ (-9223372036854775808 ≤ ((k + (g : Int)) + 1) ∧ ((k + (g : Int)) + 1) ≤ 9223372036854775807) ∧ (-9223372036854775808 ≤ ((g : Int) + 1) ∧ ((g : Int) + 1) ≤ 9223372036854775807) ∧ ((g + 1 ≤ xs.length) ∧ ((((markTo k xs g).set ((g : Int).toNat) (k + (g : Int))) : List Int) = (markTo k xs (g + 1 : Nat))) ∧ ((xs.length : Nat) = xs.length) ∧ ((((k + (g : Int)) + 1) : Int) = (k + ((g + 1 : Nat) : Int))) ∧ ((((g : Int) + 1) : Int) = ((g + 1 : Nat) : Int)))) ∧ ((decide ((g : Int) < (xs.length : Int))) = false → (((((k + (g : Int)) : Int) = k + (xs.length : Int))) ∧ ((((markTo k xs g) : List Int) = (marks k xs.length))))))))
theorem laws_markIntS_w_vc (xs : List Int) (k : Int) (hk : 0 ≤ k) (hn : k + (xs.length : Int) ≤ 9223372036854775807) : laws_markIntS_w_P xs k := by
  unfold laws_markIntS_w_P
  refine ⟨?_, ?_⟩
  · refine ⟨?_, ?_⟩
    · exact (markTo_zero k xs).symm
    refine ⟨?_, ?_⟩
    · exact rfl
    refine ⟨?_, ?_⟩
    · first | omega | rfl | (simp; done) | (simp <;> omega)
    first | omega | rfl | (simp; done) | (simp <;> omega)
  intro g hg
  refine ⟨?_, ?_⟩
  · intro b1
    simp only [nrmT] at b1
    refine ⟨?_, ?_⟩
    · first | omega | rfl | (simp; done) | (simp <;> omega)
    refine ⟨?_, ?_⟩
    · first | omega | rfl | (simp; done) | (simp <;> omega)
    refine ⟨?_, ?_⟩
    · rw [markTo_len _ _ _ (by omega)]; omega
    refine ⟨?_, ?_⟩
    · first | omega | rfl | (simp; done) | (simp <;> omega)
    refine ⟨?_, ?_⟩
    · first | omega | rfl | (simp; done) | (simp <;> omega)
    refine ⟨?_, ?_⟩
    · first | omega | rfl | (simp; done) | (simp <;> omega)
    refine ⟨?_, ?_⟩
    · exact markTo_step k xs g (by omega)
    refine ⟨?_, ?_⟩
    · exact rfl
    refine ⟨?_, ?_⟩
    · first | omega | rfl | (simp; done) | (simp <;> omega)
    first | omega | rfl | (simp; done) | (simp <;> omega)
  · intro b2
    simp only [nrmT] at b2
    refine ⟨?_, ?_⟩
    · first | omega | rfl | (simp; done) | (simp <;> omega)
    rw [show g = xs.length by omega]; exact markTo_all k xs
theorem laws_markIntS_w_pw (xs : List Int) (k : Int) (hk : 0 ≤ k) (hn : k + (xs.length : Int) ≤ 9223372036854775807) : PW Try.prog 35 3 xs (marks k xs.length) k (k + (xs.length : Int)) :=
  pw_by Try.func35 @Try.call35 (by kernel_rfl) laws_markIntS_w_C (laws_markIntS_w_A xs k) (by kernel_rfl) (Nat.le_of_eq (marks_len _ _)) (laws_markIntS_w_vc xs k hk hn) (by kernel_rfl)
def laws_markIntSS_g_C (f : FuncId) (ms : List MV) : Option Int := bif Nat.beq f 35 then (match ms with
  | [.shp (.ints n), .int k] => some (k + (n : Int))
  | _ => none) else none
def laws_markIntSS_g_A (ns : List Nat) (k : Int) : MAnn := .two (.none) (.two (.two (.none) (.loop ns.length (fun g => [(0, .shp (.rows ns)), (1, .int (k + ((ns.take g).sum : Int))), (5, .int (g : Int))]) (fun g => []) (fun g => .none))) (.none))
def laws_markIntSS_g_P (ns : List Nat) (k : Int) : Prop :=
  (((([] : List Int) = []) ∧ ((.rows ns : Sh) = .rows ns) ∧ ((k : Int) = (k + ((ns.take (0 : Nat)).sum : Int))) ∧ ((0 : Int) = ((0 : Nat) : Int))) ∧ (∀ g : Nat, g ≤ ns.length → (((decide ((g : Int) < ((ns.length : Nat) : Int))) = true → ((0 : Int) ≤ (g : Int)) ∧ (((g : Int) : Int) < ((ns.length : Nat) : Int)) ∧ (PG Try.prog 35 [.shp (.ints (ns.getD ((g : Int).toNat) 0)), .int (k + ((ns.take g).sum : Int))] ((k + ((ns.take g).sum : Int)) + ((ns.getD ((g : Int).toNat) 0) : Int))) ∧ (-9223372036854775808 ≤ ((g : Int) + 1) ∧ ((g : Int) + 1) ≤ 9223372036854775807) ∧ ((g + 1 ≤ ns.length) ∧ (([] : List Int) = []) ∧ ((.rows ns : Sh) = .rows ns) ∧ ((((k + ((ns.take g).sum : Int)) + ((ns.getD ((g : Int).toNat) 0) : Int)) : Int) = (k + ((ns.take (g + 1 : Nat)).sum : Int))) ∧ ((((g : Int) + 1) : Int) = ((g + 1 : Nat) : Int)))) ∧ ((decide ((g : Int) < ((ns.length : Nat) : Int))) = false → (((((k + ((ns.take g).sum : Int)) : Int) = k + (ns.sum : Int))) ∧ ((([] : List Int) = [])))))))
theorem laws_markIntSS_g_vc (ns : List Nat) (k : Int) (hk : 0 ≤ k) (hl : (ns.length : Int) ≤ 9223372036854775807) (hn : k + (ns.sum : Int) ≤ 9223372036854775807) : laws_markIntSS_g_P ns k := by
  unfold laws_markIntSS_g_P
  refine ⟨?_, ?_⟩
  · refine ⟨?_, ?_⟩
    · exact rfl
    refine ⟨?_, ?_⟩
    · exact rfl
    refine ⟨?_, ?_⟩
    · first | omega | rfl | (simp; done) | (simp <;> omega)
    first | omega | rfl | (simp; done) | (simp <;> omega)
  intro g hg
  refine ⟨?_, ?_⟩
  · intro b1
    simp only [nrmT] at b1
    refine ⟨?_, ?_⟩
    · first | omega | rfl | (simp; done) | (simp <;> omega)
    refine ⟨?_, ?_⟩
    · first | omega | rfl | (simp; done) | (simp <;> omega)
    refine ⟨?_, ?_⟩
    · refine laws_markIntS_g_pg (ns.getD ((g : Int).toNat) 0) (k + ((ns.take g).sum : Int)) ?_ ?_
      · first | omega | rfl | (simp; done) | (simp <;> omega)
      · have := sum_take_le ns (g + 1); rw [sum_take ns g (by omega)] at this; simp only [Int.toNat_natCast]; omega
    refine ⟨?_, ?_⟩
    · first | omega | rfl | (simp; done) | (simp <;> omega)
    refine ⟨?_, ?_⟩
    · first | omega | rfl | (simp; done) | (simp <;> omega)
    refine ⟨?_, ?_⟩
    · exact rfl
    refine ⟨?_, ?_⟩
    · exact rfl
    refine ⟨?_, ?_⟩
    · rw [sum_take ns g (by omega)]; simp; omega
    first | omega | rfl | (simp; done) | (simp <;> omega)
  · intro b2
    simp only [nrmT] at b2
    refine ⟨?_, ?_⟩
    · rw [show g = ns.length by omega]; simp
    exact rfl
theorem laws_markIntSS_g_pg (ns : List Nat) (k : Int) (hk : 0 ≤ k) (hl : (ns.length : Int) ≤ 9223372036854775807) (hn : k + (ns.sum : Int) ≤ 9223372036854775807) : PG Try.prog 103 [.shp (.rows ns), .int k] (k + (ns.sum : Int)) :=
  pg_by Try.func103 @Try.call103 (by kernel_rfl) laws_markIntSS_g_C (laws_markIntSS_g_A ns k) (by kernel_rfl) (laws_markIntSS_g_vc ns k hk hl hn) (by kernel_rfl)
def laws_markField_g_C (f : FuncId) (ms : List MV) : Option Int := bif Nat.beq f 103 then (match ms with
  | [.shp (.rows ns), .int k] => some (k + (ns.sum : Int))
  | _ => none) else bif Nat.beq f 35 then (match ms with
  | [.shp (.ints n), .int k] => some (k + (n : Int))
  | _ => none) else none
def laws_markField_g_A (n : Nat) (ns : List Nat) (k : Int) : MAnn := .none
def laws_markField_g_P (n : Nat) (ns : List Nat) (k : Int) : Prop :=
  (PG Try.prog 35 [.shp (.ints n), .int k] (k + (n : Int))) ∧ (PG Try.prog 103 [.shp (.rows ns), .int (k + (n : Int))] ((k + (n : Int)) + (ns.sum : Int))) ∧ ((((((k + (n : Int)) + (ns.sum : Int)) : Int) = k + (n : Int) + (ns.sum : Int))) ∧ ((([] : List Int) = [])))
theorem laws_markField_g_vc (n : Nat) (ns : List Nat) (k : Int) (hk : 0 ≤ k) (hl : (ns.length : Int) ≤ 9223372036854775807) (hn : k + (n : Int) + (ns.sum : Int) ≤ 9223372036854775807) : laws_markField_g_P n ns k := by
  unfold laws_markField_g_P
  refine ⟨?_, ?_⟩
  · refine laws_markIntS_g_pg n k ?_ ?_
    · first | omega | rfl | (simp; done) | (simp <;> omega)
    · first | omega | rfl | (simp; done) | (simp <;> omega)
  refine ⟨?_, ?_⟩
  · refine laws_markIntSS_g_pg ns (k + (n : Int)) ?_ ?_ ?_
    · first | omega | rfl | (simp; done) | (simp <;> omega)
    · first | omega | rfl | (simp; done) | (simp <;> omega)
    · first | omega | rfl | (simp; done) | (simp <;> omega)
  refine ⟨?_, ?_⟩
  · first | omega | rfl | (simp; done) | (simp <;> omega)
  exact rfl
theorem laws_markField_g_pg (n : Nat) (ns : List Nat) (k : Int) (hk : 0 ≤ k) (hl : (ns.length : Int) ≤ 9223372036854775807) (hn : k + (n : Int) + (ns.sum : Int) ≤ 9223372036854775807) : PG Try.prog 45 [.agg [.ints n, .rows ns], .int k] (k + (n : Int) + (ns.sum : Int)) :=
  pg_by Try.func45 @Try.call45 (by kernel_rfl) laws_markField_g_C (laws_markField_g_A n ns k) (by kernel_rfl) (laws_markField_g_vc n ns k hk hl hn) (by kernel_rfl)
theorem marks_getD (k : Int) (n i : Nat) (h : i < n) : (marks k n).getD i 0 = k + (i : Int) := by
  simp [marks, h]
theorem lt62 {b x : Int} (hb : 0 ≤ b ∧ b ≤ 4611686018427387903) (h2 : x ≤ 62) (h : 0 < b / 2 ^ x.toNat) : x < 62 := by
  by_cases e : x = 62
  · subst e
    have e2 : (2 : Int) ^ (62 : Int).toNat = 4611686018427387904 := by decide
    rw [e2] at h
    omega
  · omega
theorem bit_out {b : Int} {m : Nat} (hb : 0 ≤ b) (h : ¬ 0 < b / 2 ^ m) (k : Nat) (hk : m ≤ k) : b.toNat.testBit k = false := by
  have h1 : b.toNat / 2 ^ m = 0 := by
    have h2 : ((b.toNat / 2 ^ m : Nat) : Int) = b / 2 ^ m := by
      rw [Int.natCast_ediv, Int.toNat_of_nonneg hb]; simp
    have h3 : (0 : Int) ≤ ((b.toNat / 2 ^ m : Nat) : Int) := Int.natCast_nonneg _
    omega
  have h4 : b.toNat < 2 ^ m := (Nat.div_eq_zero_iff_lt (Nat.two_pow_pos m)).1 h1
  exact Nat.testBit_lt_two_pow (Nat.lt_of_lt_of_le h4 (Nat.pow_le_pow_right (by omega) hk))
abbrev l_heldIntS_JJ0 (xs : List Int) (k : Int) (k2 : Int) (i : Int) : Prop := (0 ≤ i) ∧ (i ≤ (xs.length : Int)) ∧ (k2 = k + i)
abbrev l_heldIntS_mJ0 (xs : List Int) (k : Int) (k2 : Int) (i : Int) : Nat := (xs.length - i).toNat
def l_heldIntS_C (f : FuncId) (ds : List D) : Orc := .no
def l_heldIntS_A (xs : List Int) (k : Int) : Ann := .two (.none) (.two (.two (.none) (.loop (cut2 (fun (k2 : Int) (i : Int) => l_heldIntS_JJ0 xs k k2 i) (fun (k2 : Int) (i : Int) => [(0, .d false (.sl (.ints xs))), (1, .d true (.int .i64 k2)), (5, .d true (.int .i64 i))]) (fun (k2 : Int) (i : Int) => [])) (fun g => l_heldIntS_mJ0 xs k g.1 g.2) (fun _ => .none))) (.none))
def l_heldIntS_P (xs : List Int) (k : Int) : Prop :=
  ((∃ k2' : Int, ∃ i' : Int, (l_heldIntS_JJ0 xs k k2' i') ∧ (xs = xs) ∧ (k = k2') ∧ ((0 : Int) = i')) ∧ (∀ k2 : Int, ∀ i : Int, (l_heldIntS_JJ0 xs k k2 i) → (((decide (i < (xs.length : Int))) = true → ((0 : Int) ≤ i) ∧ ((i : Int) < xs.length) ∧ (i.toNat < xs.length) ∧ ((((xs.getD i.toNat 0) != k2) = true → ((((-1) : Int) = (k + (xs.length : Int))))) ∧ (((xs.getD i.toNat 0) != k2) = false → (-9223372036854775808 ≤ (k2 + 1) ∧ (k2 + 1) ≤ 9223372036854775807) ∧ (-9223372036854775808 ≤ (i + 1) ∧ (i + 1) ≤ 9223372036854775807) ∧ (∃ k2' : Int, ∃ i' : Int, (l_heldIntS_JJ0 xs k k2' i') ∧ (l_heldIntS_mJ0 xs k k2' i' < l_heldIntS_mJ0 xs k k2 i) ∧ (xs = xs) ∧ ((k2 + 1) = k2') ∧ ((i + 1) = i'))))) ∧ ((decide (i < (xs.length : Int))) = false → ((k2 = (k + (xs.length : Int))))))))
theorem l_heldIntS_vc (xs : List Int) (k : Int) (hk : 0 ≤ k) (hx : xs = marks k xs.length) (hn : k + (xs.length : Int) ≤ 9223372036854775807) (w_xs : (xs.length : Int) ≤ 9223372036854775807) : l_heldIntS_P xs k := by
  unfold l_heldIntS_P
  refine ⟨?_, ?_⟩
  · refine ⟨k, 0, ?_⟩
    refine ⟨?_, rfl, rfl, rfl⟩
    · refine ⟨?_, ?_, ?_⟩
      · first | omega | rfl | (intro hg; simp only [nrmT] at hg; omega) | (intro g1 g2; simp [g1, g2]; done) | (intro g1; simp at g1 ⊢; simp [g1]; done) | (simp only [nrmT] at *; omega) | (simp at * <;> omega) | (simp_all <;> omega) | (simp_all; done)
      · first | omega | rfl | (intro hg; simp only [nrmT] at hg; omega) | (intro g1 g2; simp [g1, g2]; done) | (intro g1; simp at g1 ⊢; simp [g1]; done) | (simp only [nrmT] at *; omega) | (simp at * <;> omega) | (simp_all <;> omega) | (simp_all; done)
      · first | omega | rfl | (intro hg; simp only [nrmT] at hg; omega) | (intro g1 g2; simp [g1, g2]; done) | (intro g1; simp at g1 ⊢; simp [g1]; done) | (simp only [nrmT] at *; omega) | (simp at * <;> omega) | (simp_all <;> omega) | (simp_all; done)
  · intro k2 i hJ
    obtain ⟨h1, h2, h3⟩ := hJ
    refine ⟨?_, ?_⟩
    · intro b1
      try simp only [nrmT] at b1
      refine ⟨?_, ?_, ?_, ?_, ?_⟩
      · first | omega | rfl | (intro hg; simp only [nrmT] at hg; omega) | (intro g1 g2; simp [g1, g2]; done) | (intro g1; simp at g1 ⊢; simp [g1]; done) | (simp only [nrmT] at *; omega) | (simp at * <;> omega) | (simp_all <;> omega) | (simp_all; done)
      · first | omega | rfl | (intro hg; simp only [nrmT] at hg; omega) | (intro g1 g2; simp [g1, g2]; done) | (intro g1; simp at g1 ⊢; simp [g1]; done) | (simp only [nrmT] at *; omega) | (simp at * <;> omega) | (simp_all <;> omega) | (simp_all; done)
      · first | omega | rfl | (intro hg; simp only [nrmT] at hg; omega) | (intro g1 g2; simp [g1, g2]; done) | (intro g1; simp at g1 ⊢; simp [g1]; done) | (simp only [nrmT] at *; omega) | (simp at * <;> omega) | (simp_all <;> omega) | (simp_all; done)
      · intro b2
        try simp only [nrmT] at b2
        exfalso
        have h9 : xs.getD i.toNat 0 = k + (i.toNat : Int) := by
          rw [hx]; exact marks_getD k _ _ (by omega)
        omega
      · intro b3
        try simp only [nrmT] at b3
        refine ⟨?_, ?_, ?_⟩
        · first | omega | rfl | (intro hg; simp only [nrmT] at hg; omega) | (intro g1 g2; simp [g1, g2]; done) | (intro g1; simp at g1 ⊢; simp [g1]; done) | (simp only [nrmT] at *; omega) | (simp at * <;> omega) | (simp_all <;> omega) | (simp_all; done)
        · first | omega | rfl | (intro hg; simp only [nrmT] at hg; omega) | (intro g1 g2; simp [g1, g2]; done) | (intro g1; simp at g1 ⊢; simp [g1]; done) | (simp only [nrmT] at *; omega) | (simp at * <;> omega) | (simp_all <;> omega) | (simp_all; done)
        · refine ⟨(k2 + 1), (i + 1), ?_⟩
          refine ⟨?_, ?_, rfl, rfl, rfl⟩
          · refine ⟨?_, ?_, ?_⟩
            · first | omega | rfl | (intro hg; simp only [nrmT] at hg; omega) | (intro g1 g2; simp [g1, g2]; done) | (intro g1; simp at g1 ⊢; simp [g1]; done) | (simp only [nrmT] at *; omega) | (simp at * <;> omega) | (simp_all <;> omega) | (simp_all; done)
            · first | omega | rfl | (intro hg; simp only [nrmT] at hg; omega) | (intro g1 g2; simp [g1, g2]; done) | (intro g1; simp at g1 ⊢; simp [g1]; done) | (simp only [nrmT] at *; omega) | (simp at * <;> omega) | (simp_all <;> omega) | (simp_all; done)
            · first | omega | rfl | (intro hg; simp only [nrmT] at hg; omega) | (intro g1 g2; simp [g1, g2]; done) | (intro g1; simp at g1 ⊢; simp [g1]; done) | (simp only [nrmT] at *; omega) | (simp at * <;> omega) | (simp_all <;> omega) | (simp_all; done)
          · first | (show _ < _; omega) | (simp only [l_heldIntS_mJ0]; omega) | (simp only [l_heldIntS_mJ0] at *; simp at *; omega)
    · intro b4
      try simp only [nrmT] at b4
      first | omega | rfl | (intro hg; simp only [nrmT] at hg; omega) | (intro g1 g2; simp [g1, g2]; done) | (intro g1; simp at g1 ⊢; simp [g1]; done) | (simp only [nrmT] at *; omega) | (simp at * <;> omega) | (simp_all <;> omega) | (simp_all; done)
theorem l_heldIntS_pc (xs : List Int) (k : Int) (hk : 0 ≤ k) (hx : xs = marks k xs.length) (hn : k + (xs.length : Int) ≤ 9223372036854775807) : PC Try.prog 36 [.sl (.ints xs), .int .i64 k] (.one (.d (.int .i64 (k + (xs.length : Int))))) :=
  pc_wf @Try.call36 fun hw => pc_by (by kernel_rfl) Try.func36 @Try.call36 (by kernel_rfl) l_heldIntS_C (l_heldIntS_A xs k) (by kernel_rfl) (l_heldIntS_vc xs k hk hx hn hw.1) (by kernel_rfl)
def l_heldIntS_orc : List D → Orc := orcN [some .ints, none] fun ds => match ds with
  | [.sl (.ints xs), .int .i64 k] => some (.one (.d (.int .i64 (k + (xs.length : Int)))))
  | _ => none
theorem members_stop {p : Nat → Bool} {m : Nat} (h : ∀ k, m ≤ k → p k = false) : ∀ n, m ≤ n → members p n = members p m
  | 0, hn => by have : m = 0 := by omega
                rw [this]
  | n + 1, hn => by
    by_cases e : m = n + 1
    · rw [e]
    · rw [members_succ, members_stop h n (by omega), h n (by omega)]; simp
abbrev i_bag_list_JJ0 (b : Int) (out : List Int) (x : Int) : Prop := (0 ≤ x) ∧ (x ≤ 62) ∧ (out = members (fun k => b.toNat.testBit k) x.toNat)
abbrev i_bag_list_mJ0 (b : Int) (out : List Int) (x : Int) : Nat := (62 - x).toNat
def i_bag_list_C (f : FuncId) (ds : List D) : Orc := bif Nat.beq f 183 then i_bag_has_orc ds else .no
def i_bag_list_A (b : Int) : Ann := .two (.none) (.two (.none) (.two (.two (.none) (.loop (cut2 (fun (out : List Int) (x : Int) => i_bag_list_JJ0 b out x) (fun (out : List Int) (x : Int) => [(0, .d false (.int .u64 b)), (3, .own 1000000 out.length), (4, .d true (.int .i64 x))]) (fun (out : List Int) (x : Int) => [(1000000, .arr true 3 (.ints out))])) (fun g => i_bag_list_mJ0 b g.1 g.2) (fun _ => .none))) (.none)))
def i_bag_list_P (b : Int) : Prop :=
  ((∃ out' : List Int, ∃ x' : Int, (i_bag_list_JJ0 b out' x') ∧ (b = b) ∧ ((0 : Nat) = out'.length) ∧ ((0 : Int) = x') ∧ ([] = out')) ∧ (∀ out : List Int, ∀ x : Int, (i_bag_list_JJ0 b out x) → ((0 : Int) ≤ b ∧ (b : Int) ≤ 18446744073709551615) ∧ ((0 : Int) ≤ x) ∧ (((decide ((b / 2 ^ x.toNat) > 0)) = true → (PC Try.prog 183 [.int .u64 b, .int .i64 x] (.one (.d (.bool (b.toNat.testBit x.toNat))))) ∧ (((b.toNat.testBit x.toNat) = true → (out.length = out.length) ∧ ((1 : Nat) = 1) ∧ ((out.length + 1) * 8 ≤ 140737488355328) ∧ (-9223372036854775808 ≤ (x + 1) ∧ (x + 1) ≤ 9223372036854775807) ∧ (∃ out' : List Int, ∃ x' : Int, (i_bag_list_JJ0 b out' x') ∧ (i_bag_list_mJ0 b out' x' < i_bag_list_mJ0 b out x) ∧ (b = b) ∧ ((out.length + 1) = out'.length) ∧ ((x + 1) = x') ∧ ((out ++ [x]) = out'))) ∧ ((b.toNat.testBit x.toNat) = false → (-9223372036854775808 ≤ (x + 1) ∧ (x + 1) ≤ 9223372036854775807) ∧ (∃ out' : List Int, ∃ x' : Int, (i_bag_list_JJ0 b out' x') ∧ (i_bag_list_mJ0 b out' x' < i_bag_list_mJ0 b out x) ∧ (b = b) ∧ (out.length = out'.length) ∧ ((x + 1) = x') ∧ (out = out'))))) ∧ ((decide ((b / 2 ^ x.toNat) > 0)) = false → ((out.length = out.length) ∧ ((out : List Int) = members (fun k => b.toNat.testBit k) 62))))))
theorem i_bag_list_vc (b : Int) (hb : 0 ≤ b ∧ b ≤ 4611686018427387903)  : i_bag_list_P b := by
  unfold i_bag_list_P
  refine ⟨?_, ?_⟩
  · refine ⟨([]), 0, ?_⟩
    refine ⟨?_, rfl, rfl, rfl, ?_⟩
    · refine ⟨?_, ?_, ?_⟩
      · first | omega | rfl | (intro hg; simp only [nrmT] at hg; omega) | (intro g1 g2; simp [g1, g2]; done) | (intro g1; simp at g1 ⊢; simp [g1]; done) | (simp only [nrmT] at *; omega) | (simp at * <;> omega) | (simp_all <;> omega) | (simp_all; done)
      · first | omega | rfl | (intro hg; simp only [nrmT] at hg; omega) | (intro g1 g2; simp [g1, g2]; done) | (intro g1; simp at g1 ⊢; simp [g1]; done) | (simp only [nrmT] at *; omega) | (simp at * <;> omega) | (simp_all <;> omega) | (simp_all; done)
      · first | omega | rfl | (intro hg; simp only [nrmT] at hg; omega) | (intro g1 g2; simp [g1, g2]; done) | (intro g1; simp at g1 ⊢; simp [g1]; done) | (simp only [nrmT] at *; omega) | (simp at * <;> omega) | (simp_all <;> omega) | (simp_all; done)
    · first | omega | rfl | (intro hg; simp only [nrmT] at hg; omega) | (intro g1 g2; simp [g1, g2]; done) | (intro g1; simp at g1 ⊢; simp [g1]; done) | (simp only [nrmT] at *; omega) | (simp at * <;> omega) | (simp_all <;> omega) | (simp_all; done)
  · intro out x hJ
    obtain ⟨h1, h2, h3⟩ := hJ
    refine ⟨?_, ?_, ?_, ?_⟩
    · first | omega | rfl | (intro hg; simp only [nrmT] at hg; omega) | (intro g1 g2; simp [g1, g2]; done) | (intro g1; simp at g1 ⊢; simp [g1]; done) | (simp only [nrmT] at *; omega) | (simp at * <;> omega) | (simp_all <;> omega) | (simp_all; done)
    · first | omega | rfl | (intro hg; simp only [nrmT] at hg; omega) | (intro g1 g2; simp [g1, g2]; done) | (intro g1; simp at g1 ⊢; simp [g1]; done) | (simp only [nrmT] at *; omega) | (simp at * <;> omega) | (simp_all <;> omega) | (simp_all; done)
    · intro b1
      try simp only [nrmT] at b1
      refine ⟨?_, ?_, ?_⟩
      · refine i_bag_has_pc b x ?_ ?_
        · first | omega | rfl | (intro hg; simp only [nrmT] at hg; omega) | (intro g1 g2; simp [g1, g2]; done) | (intro g1; simp at g1 ⊢; simp [g1]; done) | (simp only [nrmT] at *; omega) | (simp at * <;> omega) | (simp_all <;> omega) | (simp_all; done)
        · first | omega | rfl | (intro hg; simp only [nrmT] at hg; omega) | (intro g1 g2; simp [g1, g2]; done) | (intro g1; simp at g1 ⊢; simp [g1]; done) | (simp only [nrmT] at *; omega) | (simp at * <;> omega) | (simp_all <;> omega) | (simp_all; done)
      · intro b2
        try simp only [nrmT] at b2
        refine ⟨rfl, rfl, ?_, ?_, ?_⟩
        · rw [h3]; have := members_len_le (fun k => b.toNat.testBit k) x.toNat; omega
        · first | omega | rfl | (intro hg; simp only [nrmT] at hg; omega) | (intro g1 g2; simp [g1, g2]; done) | (intro g1; simp at g1 ⊢; simp [g1]; done) | (simp only [nrmT] at *; omega) | (simp at * <;> omega) | (simp_all <;> omega) | (simp_all; done)
        · refine ⟨(out ++ [x]), (x + 1), ?_⟩
          refine ⟨?_, ?_, rfl, ?_, rfl, rfl⟩
          · refine ⟨?_, ?_, ?_⟩
            · first | omega | rfl | (intro hg; simp only [nrmT] at hg; omega) | (intro g1 g2; simp [g1, g2]; done) | (intro g1; simp at g1 ⊢; simp [g1]; done) | (simp only [nrmT] at *; omega) | (simp at * <;> omega) | (simp_all <;> omega) | (simp_all; done)
            · have := lt62 hb h2 b1; omega
            · rw [h3, show (x + 1).toNat = x.toNat + 1 by omega, members_succ, b2]; simp; try omega
          · have := lt62 hb h2 b1
            first | (show _ < _; omega) | (simp only [i_bag_list_mJ0]; omega) | (simp only [i_bag_list_mJ0] at *; simp at *; omega)
          · first | omega | rfl | (intro hg; simp only [nrmT] at hg; omega) | (intro g1 g2; simp [g1, g2]; done) | (intro g1; simp at g1 ⊢; simp [g1]; done) | (simp only [nrmT] at *; omega) | (simp at * <;> omega) | (simp_all <;> omega) | (simp_all; done)
      · intro b3
        try simp only [nrmT] at b3
        refine ⟨?_, ?_⟩
        · first | omega | rfl | (intro hg; simp only [nrmT] at hg; omega) | (intro g1 g2; simp [g1, g2]; done) | (intro g1; simp at g1 ⊢; simp [g1]; done) | (simp only [nrmT] at *; omega) | (simp at * <;> omega) | (simp_all <;> omega) | (simp_all; done)
        · refine ⟨out, (x + 1), ?_⟩
          refine ⟨?_, ?_, rfl, rfl, rfl, rfl⟩
          · refine ⟨?_, ?_, ?_⟩
            · first | omega | rfl | (intro hg; simp only [nrmT] at hg; omega) | (intro g1 g2; simp [g1, g2]; done) | (intro g1; simp at g1 ⊢; simp [g1]; done) | (simp only [nrmT] at *; omega) | (simp at * <;> omega) | (simp_all <;> omega) | (simp_all; done)
            · have := lt62 hb h2 b1; omega
            · rw [h3, show (x + 1).toNat = x.toNat + 1 by omega, members_succ, b3]; simp; try omega
          · have := lt62 hb h2 b1
            first | (show _ < _; omega) | (simp only [i_bag_list_mJ0]; omega) | (simp only [i_bag_list_mJ0] at *; simp at *; omega)
    · intro b4
      try simp only [nrmT] at b4
      refine ⟨rfl, ?_⟩
      · rw [h3]; refine (members_stop (fun k hk => bit_out hb.1 (m := x.toNat) (by omega) k hk) 62 (by omega)).symm
theorem i_bag_list_pc (b : Int) (hb : 0 ≤ b ∧ b ≤ 4611686018427387903) : PC Try.prog 151 [.int .u64 b] (.one (.own 3 (.ints (members (fun k => b.toNat.testBit k) 62)))) :=
  pc_wf @Try.call151 fun _ => pc_by (by kernel_rfl) Try.func151 @Try.call151 (by kernel_rfl) i_bag_list_C (i_bag_list_A b) (by kernel_rfl) (i_bag_list_vc b hb) (by kernel_rfl)
def i_bag_list_orc : List D → Orc := orcN [none] fun ds => match ds with
  | [.int .u64 b] => some (.one (.own 3 (.ints (members (fun k => b.toNat.testBit k) 62))))
  | _ => none
theorem sum_lens : ∀ (xss : List (List Int)) (m : Nat), (∀ xs ∈ xss, xs.length ≤ m) → (xss.map List.length).sum ≤ xss.length * m
  | [], m, _ => by simp
  | xs :: r, m, h => by
    have h1 := sum_lens r m fun ys hy => h ys (by simp [hy])
    have h2 := h xs (by simp)
    simp only [List.map_cons, List.sum_cons, List.length_cons, Nat.add_mul]
    omega
theorem sum_lens20 {xss : List (List Int)} (h1 : xss.length ≤ 1048576) (h2 : ∀ xs ∈ xss, xs.length ≤ 1048576) : (xss.map List.length).sum ≤ 1099511627776 := by
  have h3 := sum_lens xss 1048576 h2
  have h4 := Nat.mul_le_mul_right 1048576 h1
  omega
def siteF (row set : List Int) (b : Int) (k : Nat) : Int := if row.getD (set.getD k 0).toNat 0 < row.getD b.toNat 0 then set.getD k 0 else b
def siteTo (row set : List Int) (k : Nat) : Int := foldTo (siteF row set) (set.getD 0 0) k
theorem siteTo_one (row set : List Int) : siteTo row set 1 = set.getD 0 0 := by
  show siteF row set (set.getD 0 0) 0 = _
  unfold siteF; split <;> rfl
theorem siteTo_succ (row set : List Int) (k : Nat) : siteTo row set (k + 1) = siteF row set (siteTo row set k) k := rfl
theorem siteTo_in {row set : List Int} {n : Int} (h : ∀ k, k < set.length → 0 ≤ set.getD k 0 ∧ set.getD k 0 < n) (hp : 0 < set.length) : ∀ k, k ≤ set.length → 0 ≤ siteTo row set k ∧ siteTo row set k < n
  | 0, _ => h 0 hp
  | k + 1, hk => by
    rw [siteTo_succ]
    unfold siteF
    split
    · exact h k (by omega)
    · exact siteTo_in h hp k (by omega)
abbrev s_l2Site_JJ0 (Open : List Int) (Dist : List (List Int)) (client : Int) (set : List Int) (best : Int) (k : Int) : Prop := (1 ≤ k) ∧ (k ≤ (set.length : Int)) ∧ (best = siteTo (Dist.getD client.toNat []) set k.toNat)
abbrev s_l2Site_mJ0 (Open : List Int) (Dist : List (List Int)) (client : Int) (set : List Int) (best : Int) (k : Int) : Nat := (set.length - k).toNat
def s_l2Site_C (f : FuncId) (ds : List D) : Orc := .no
def s_l2Site_A (Open : List Int) (Dist : List (List Int)) (client : Int) (set : List Int) : Ann := .two (.none) (.two (.none) (.two (.two (.none) (.loop (cut2 (fun (best : Int) (k : Int) => s_l2Site_JJ0 Open Dist client set best k) (fun (best : Int) (k : Int) => [(1, .d false (.int .i64 client)), (2, .d false (.sl (.ints set))), (3, .ptr 3 0), (7, .d true (.int .i64 best)), (8, .d true (.int .i64 k))]) (fun (best : Int) (k : Int) => [(3, .box 44 [.d false (.sl (.ints Open)), .d false (.sl (.rows Dist))])])) (fun g => s_l2Site_mJ0 Open Dist client set g.1 g.2) (fun _ => .none))) (.none)))
def s_l2Site_P (Open : List Int) (Dist : List (List Int)) (client : Int) (set : List Int) : Prop :=
  ((0 : Int) ≤ 0) ∧ ((0 : Int) < set.length) ∧ (0 < set.length) ∧ ((∃ best' : Int, ∃ k' : Int, (s_l2Site_JJ0 Open Dist client set best' k') ∧ (client = client) ∧ (set = set) ∧ ((set.getD 0 0) = best') ∧ ((1 : Int) = k') ∧ (Open = Open) ∧ (Dist = Dist)) ∧ (∀ best : Int, ∀ k : Int, (s_l2Site_JJ0 Open Dist client set best k) → (((decide (k < (set.length : Int))) = true → (true = true) ∧ ((0 : Int) ≤ client) ∧ ((client : Int) < Dist.length) ∧ (client.toNat < Dist.length) ∧ ((0 : Int) ≤ k) ∧ ((k : Int) < set.length) ∧ (k.toNat < set.length) ∧ ((0 : Int) ≤ (set.getD k.toNat 0)) ∧ (((set.getD k.toNat 0) : Int) < (Dist.getD client.toNat []).length) ∧ ((set.getD k.toNat 0).toNat < (Dist.getD client.toNat []).length) ∧ ((0 : Int) ≤ client) ∧ ((client : Int) < Dist.length) ∧ (client.toNat < Dist.length) ∧ ((0 : Int) ≤ best) ∧ ((best : Int) < (Dist.getD client.toNat []).length) ∧ (best.toNat < (Dist.getD client.toNat []).length) ∧ (((decide (((Dist.getD client.toNat []).getD ((set.getD k.toNat 0).toNat) 0) < ((Dist.getD client.toNat []).getD best.toNat 0))) = true → ((0 : Int) ≤ k) ∧ ((k : Int) < set.length) ∧ (k.toNat < set.length) ∧ (-9223372036854775808 ≤ (k + 1) ∧ (k + 1) ≤ 9223372036854775807) ∧ (∃ best' : Int, ∃ k' : Int, (s_l2Site_JJ0 Open Dist client set best' k') ∧ (s_l2Site_mJ0 Open Dist client set best' k' < s_l2Site_mJ0 Open Dist client set best k) ∧ (client = client) ∧ (set = set) ∧ ((set.getD k.toNat 0) = best') ∧ ((k + 1) = k') ∧ (Open = Open) ∧ (Dist = Dist))) ∧ ((decide (((Dist.getD client.toNat []).getD ((set.getD k.toNat 0).toNat) 0) < ((Dist.getD client.toNat []).getD best.toNat 0))) = false → (-9223372036854775808 ≤ (k + 1) ∧ (k + 1) ≤ 9223372036854775807) ∧ (∃ best' : Int, ∃ k' : Int, (s_l2Site_JJ0 Open Dist client set best' k') ∧ (s_l2Site_mJ0 Open Dist client set best' k' < s_l2Site_mJ0 Open Dist client set best k) ∧ (client = client) ∧ (set = set) ∧ (best = best') ∧ ((k + 1) = k') ∧ (Open = Open) ∧ (Dist = Dist))))) ∧ ((decide (k < (set.length : Int))) = false → ((best = (siteTo (Dist.getD client.toNat []) set set.length)))))))
theorem s_l2Site_vc (Open : List Int) (Dist : List (List Int)) (client : Int) (set : List Int) (ht : (goodField Open Dist && rising set 0 ((Open.length : Int) - 1) && decide (0 < set.length)) = true) (hc : 0 ≤ client ∧ client < (Dist.length : Int)) (w_Open : (Open.length : Int) ≤ 9223372036854775807) (w_Dist : (Dist.length : Int) ≤ 9223372036854775807) (v_Dist : ∀ x9 ∈ Dist, (x9.length : Int) ≤ 9223372036854775807) (w_set : (set.length : Int) ≤ 9223372036854775807) : s_l2Site_P Open Dist client set := by
  unfold s_l2Site_P
  obtain ⟨hg, hs, hp⟩ := two_facts ht
  obtain ⟨g1, g2, g3⟩ := gf_open hg
  have cs := fun k => rising_at hs k
  obtain ⟨rl, rb⟩ := gf_row (i := client.toNat) hg (by omega)
  have si := siteTo_in (row := Dist.getD client.toNat []) (set := set) (n := (Open.length : Int)) (fun k hk => by have := cs k hk; omega) hp
  refine ⟨?_, ?_, ?_, ?_, ?_⟩
  · first | omega | rfl | (intro hg; simp only [nrmT] at hg; omega) | (intro g1 g2; simp [g1, g2]; done) | (intro g1; simp at g1 ⊢; simp [g1]; done) | (simp only [nrmT] at *; omega) | (simp at * <;> omega) | (simp_all <;> omega) | (simp_all; done)
  · first | omega | rfl | (intro hg; simp only [nrmT] at hg; omega) | (intro g1 g2; simp [g1, g2]; done) | (intro g1; simp at g1 ⊢; simp [g1]; done) | (simp only [nrmT] at *; omega) | (simp at * <;> omega) | (simp_all <;> omega) | (simp_all; done)
  · first | omega | rfl | (intro hg; simp only [nrmT] at hg; omega) | (intro g1 g2; simp [g1, g2]; done) | (intro g1; simp at g1 ⊢; simp [g1]; done) | (simp only [nrmT] at *; omega) | (simp at * <;> omega) | (simp_all <;> omega) | (simp_all; done)
  · refine ⟨(set.getD 0 0), 1, ?_⟩
    refine ⟨?_, rfl, rfl, rfl, rfl, rfl, rfl⟩
    · refine ⟨?_, ?_, ?_⟩
      · first | omega | rfl | (intro hg; simp only [nrmT] at hg; omega) | (intro g1 g2; simp [g1, g2]; done) | (intro g1; simp at g1 ⊢; simp [g1]; done) | (simp only [nrmT] at *; omega) | (simp at * <;> omega) | (simp_all <;> omega) | (simp_all; done)
      · first | omega | rfl | (intro hg; simp only [nrmT] at hg; omega) | (intro g1 g2; simp [g1, g2]; done) | (intro g1; simp at g1 ⊢; simp [g1]; done) | (simp only [nrmT] at *; omega) | (simp at * <;> omega) | (simp_all <;> omega) | (simp_all; done)
      · exact (siteTo_one _ _).symm
  · intro best k hJ
    obtain ⟨h1, h2, h3⟩ := hJ
    refine ⟨?_, ?_⟩
    · intro b1
      try simp only [nrmT] at b1
      refine ⟨rfl, ?_, ?_, ?_, ?_, ?_, ?_, ?_, ?_, ?_, ?_, ?_, ?_, ?_, ?_, ?_, ?_, ?_⟩
      · first | omega | rfl | (intro hg; simp only [nrmT] at hg; omega) | (intro g1 g2; simp [g1, g2]; done) | (intro g1; simp at g1 ⊢; simp [g1]; done) | (simp only [nrmT] at *; omega) | (simp at * <;> omega) | (simp_all <;> omega) | (simp_all; done)
      · first | omega | rfl | (intro hg; simp only [nrmT] at hg; omega) | (intro g1 g2; simp [g1, g2]; done) | (intro g1; simp at g1 ⊢; simp [g1]; done) | (simp only [nrmT] at *; omega) | (simp at * <;> omega) | (simp_all <;> omega) | (simp_all; done)
      · first | omega | rfl | (intro hg; simp only [nrmT] at hg; omega) | (intro g1 g2; simp [g1, g2]; done) | (intro g1; simp at g1 ⊢; simp [g1]; done) | (simp only [nrmT] at *; omega) | (simp at * <;> omega) | (simp_all <;> omega) | (simp_all; done)
      · first | omega | rfl | (intro hg; simp only [nrmT] at hg; omega) | (intro g1 g2; simp [g1, g2]; done) | (intro g1; simp at g1 ⊢; simp [g1]; done) | (simp only [nrmT] at *; omega) | (simp at * <;> omega) | (simp_all <;> omega) | (simp_all; done)
      · first | omega | rfl | (intro hg; simp only [nrmT] at hg; omega) | (intro g1 g2; simp [g1, g2]; done) | (intro g1; simp at g1 ⊢; simp [g1]; done) | (simp only [nrmT] at *; omega) | (simp at * <;> omega) | (simp_all <;> omega) | (simp_all; done)
      · first | omega | rfl | (intro hg; simp only [nrmT] at hg; omega) | (intro g1 g2; simp [g1, g2]; done) | (intro g1; simp at g1 ⊢; simp [g1]; done) | (simp only [nrmT] at *; omega) | (simp at * <;> omega) | (simp_all <;> omega) | (simp_all; done)
      · have := cs k.toNat (by omega)
        omega
      · have := cs k.toNat (by omega)
        omega
      · have := cs k.toNat (by omega)
        omega
      · first | omega | rfl | (intro hg; simp only [nrmT] at hg; omega) | (intro g1 g2; simp [g1, g2]; done) | (intro g1; simp at g1 ⊢; simp [g1]; done) | (simp only [nrmT] at *; omega) | (simp at * <;> omega) | (simp_all <;> omega) | (simp_all; done)
      · first | omega | rfl | (intro hg; simp only [nrmT] at hg; omega) | (intro g1 g2; simp [g1, g2]; done) | (intro g1; simp at g1 ⊢; simp [g1]; done) | (simp only [nrmT] at *; omega) | (simp at * <;> omega) | (simp_all <;> omega) | (simp_all; done)
      · first | omega | rfl | (intro hg; simp only [nrmT] at hg; omega) | (intro g1 g2; simp [g1, g2]; done) | (intro g1; simp at g1 ⊢; simp [g1]; done) | (simp only [nrmT] at *; omega) | (simp at * <;> omega) | (simp_all <;> omega) | (simp_all; done)
      · have := si k.toNat (by omega)
        omega
      · have := si k.toNat (by omega)
        omega
      · have := si k.toNat (by omega)
        omega
      · intro b2
        try simp only [nrmT] at b2
        refine ⟨?_, ?_, ?_, ?_, ?_⟩
        · first | omega | rfl | (intro hg; simp only [nrmT] at hg; omega) | (intro g1 g2; simp [g1, g2]; done) | (intro g1; simp at g1 ⊢; simp [g1]; done) | (simp only [nrmT] at *; omega) | (simp at * <;> omega) | (simp_all <;> omega) | (simp_all; done)
        · first | omega | rfl | (intro hg; simp only [nrmT] at hg; omega) | (intro g1 g2; simp [g1, g2]; done) | (intro g1; simp at g1 ⊢; simp [g1]; done) | (simp only [nrmT] at *; omega) | (simp at * <;> omega) | (simp_all <;> omega) | (simp_all; done)
        · first | omega | rfl | (intro hg; simp only [nrmT] at hg; omega) | (intro g1 g2; simp [g1, g2]; done) | (intro g1; simp at g1 ⊢; simp [g1]; done) | (simp only [nrmT] at *; omega) | (simp at * <;> omega) | (simp_all <;> omega) | (simp_all; done)
        · first | omega | rfl | (intro hg; simp only [nrmT] at hg; omega) | (intro g1 g2; simp [g1, g2]; done) | (intro g1; simp at g1 ⊢; simp [g1]; done) | (simp only [nrmT] at *; omega) | (simp at * <;> omega) | (simp_all <;> omega) | (simp_all; done)
        · refine ⟨(set.getD k.toNat 0), (k + 1), ?_⟩
          refine ⟨?_, ?_, rfl, rfl, rfl, rfl, rfl, rfl⟩
          · refine ⟨?_, ?_, ?_⟩
            · first | omega | rfl | (intro hg; simp only [nrmT] at hg; omega) | (intro g1 g2; simp [g1, g2]; done) | (intro g1; simp at g1 ⊢; simp [g1]; done) | (simp only [nrmT] at *; omega) | (simp at * <;> omega) | (simp_all <;> omega) | (simp_all; done)
            · first | omega | rfl | (intro hg; simp only [nrmT] at hg; omega) | (intro g1 g2; simp [g1, g2]; done) | (intro g1; simp at g1 ⊢; simp [g1]; done) | (simp only [nrmT] at *; omega) | (simp at * <;> omega) | (simp_all <;> omega) | (simp_all; done)
            · rw [show (k + 1).toNat = k.toNat + 1 by omega, siteTo_succ, ← h3]; unfold siteF; rw [if_pos b2]
          · first | (show _ < _; omega) | (simp only [s_l2Site_mJ0]; omega) | (simp only [s_l2Site_mJ0] at *; simp at *; omega)
      · intro b3
        try simp only [nrmT] at b3
        refine ⟨?_, ?_⟩
        · first | omega | rfl | (intro hg; simp only [nrmT] at hg; omega) | (intro g1 g2; simp [g1, g2]; done) | (intro g1; simp at g1 ⊢; simp [g1]; done) | (simp only [nrmT] at *; omega) | (simp at * <;> omega) | (simp_all <;> omega) | (simp_all; done)
        · refine ⟨best, (k + 1), ?_⟩
          refine ⟨?_, ?_, rfl, rfl, rfl, rfl, rfl, rfl⟩
          · refine ⟨?_, ?_, ?_⟩
            · first | omega | rfl | (intro hg; simp only [nrmT] at hg; omega) | (intro g1 g2; simp [g1, g2]; done) | (intro g1; simp at g1 ⊢; simp [g1]; done) | (simp only [nrmT] at *; omega) | (simp at * <;> omega) | (simp_all <;> omega) | (simp_all; done)
            · first | omega | rfl | (intro hg; simp only [nrmT] at hg; omega) | (intro g1 g2; simp [g1, g2]; done) | (intro g1; simp at g1 ⊢; simp [g1]; done) | (simp only [nrmT] at *; omega) | (simp at * <;> omega) | (simp_all <;> omega) | (simp_all; done)
            · rw [show (k + 1).toNat = k.toNat + 1 by omega, siteTo_succ, ← h3]; unfold siteF; rw [if_neg (by omega)]
          · first | (show _ < _; omega) | (simp only [s_l2Site_mJ0]; omega) | (simp only [s_l2Site_mJ0] at *; simp at *; omega)
    · intro b4
      try simp only [nrmT] at b4
      rw [h3, show k.toNat = set.length by omega]
theorem s_l2Site_pc (Open : List Int) (Dist : List (List Int)) (client : Int) (set : List Int) (ht : (goodField Open Dist && rising set 0 ((Open.length : Int) - 1) && decide (0 < set.length)) = true) (hc : 0 ≤ client ∧ client < (Dist.length : Int)) : PC Try.prog 113 [.agg [.sl (.ints Open), .sl (.rows Dist)], .int .i64 client, .sl (.ints set)] (.one (.d (.int .i64 (siteTo (Dist.getD client.toNat []) set set.length)))) :=
  pc_wf @Try.call113 fun hw => pc_by (by kernel_rfl) Try.func113 @Try.call113 (by kernel_rfl) s_l2Site_C (s_l2Site_A Open Dist client set) (by kernel_rfl) (s_l2Site_vc Open Dist client set ht hc hw.1.1 hw.1.2.1.1 hw.1.2.1.2 hw.2.2.1) (by kernel_rfl)
def s_l2Site_orc : List D → Orc := orcN [none, none, some .ints] fun ds => match ds with
  | [.agg [.sl (.ints Open), .sl (.rows Dist)], .int .i64 client, .sl (.ints set)] => some (.one (.d (.int .i64 (siteTo (Dist.getD client.toNat []) set set.length))))
  | _ => none
theorem cond_and_or : ∀ a b c : Bool, cond a (cond b true c) false = (a && (b || c)) := by decide
def allN (n : Nat) : List Int := members (fun _ => true) n
theorem allN_bits {n : Nat} : members (fun k => (2 ^ n - 1).testBit k) n = allN n :=
  members_congr fun k hk => by simp [Nat.testBit_two_pow_sub_one, hk]
theorem all_rising (n : Nat) : rising (allN n) 0 ((n : Int) - 1) = true :=
  rising_asc (asc_members _ _) fun x hx => by have := mem_members.1 hx; omega
abbrev s_l2Bits_JJ0 (n : Int) (code : Int) (out : List Int) (x : Int) : Prop := (0 ≤ x) ∧ (x ≤ n) ∧ (out = members (fun k => code.toNat.testBit k) x.toNat)
abbrev s_l2Bits_mJ0 (n : Int) (code : Int) (out : List Int) (x : Int) : Nat := (n - x).toNat
def s_l2Bits_C (f : FuncId) (ds : List D) : Orc := .no
def s_l2Bits_A (n : Int) (code : Int) : Ann := .two (.none) (.two (.none) (.two (.two (.none) (.loop (cut2 (fun (out : List Int) (x : Int) => s_l2Bits_JJ0 n code out x) (fun (out : List Int) (x : Int) => [(0, .d false (.int .i64 n)), (1, .d false (.int .i64 code)), (5, .own 1000000 out.length), (6, .d true (.int .i64 x))]) (fun (out : List Int) (x : Int) => [(1000000, .arr true 3 (.ints out))])) (fun g => s_l2Bits_mJ0 n code g.1 g.2) (fun _ => .none))) (.none)))
def s_l2Bits_P (n : Int) (code : Int) : Prop :=
  ((∃ out' : List Int, ∃ x' : Int, (s_l2Bits_JJ0 n code out' x') ∧ (n = n) ∧ (code = code) ∧ ((0 : Nat) = out'.length) ∧ ((0 : Int) = x') ∧ ([] = out')) ∧ (∀ out : List Int, ∀ x : Int, (s_l2Bits_JJ0 n code out x) → (((decide (x < n)) = true → ((0 : Int) ≤ code ∧ (code : Int) ≤ 9223372036854775807) ∧ ((0 : Int) ≤ x) ∧ ((0 : Int) ≤ (code / 2 ^ x.toNat) ∧ ((code / 2 ^ x.toNat) : Int) ≤ 9223372036854775807) ∧ ((0 : Int) ≤ 1 ∧ (1 : Int) ≤ 9223372036854775807) ∧ ((((((code / 2 ^ x.toNat).toNat &&& 1 : Nat) : Int) == 1) = true → (out.length = out.length) ∧ ((1 : Nat) = 1) ∧ ((out.length + 1) * 8 ≤ 140737488355328) ∧ (-9223372036854775808 ≤ (x + 1) ∧ (x + 1) ≤ 9223372036854775807) ∧ (∃ out' : List Int, ∃ x' : Int, (s_l2Bits_JJ0 n code out' x') ∧ (s_l2Bits_mJ0 n code out' x' < s_l2Bits_mJ0 n code out x) ∧ (n = n) ∧ (code = code) ∧ ((out.length + 1) = out'.length) ∧ ((x + 1) = x') ∧ ((out ++ [x]) = out'))) ∧ (((((code / 2 ^ x.toNat).toNat &&& 1 : Nat) : Int) == 1) = false → (-9223372036854775808 ≤ (x + 1) ∧ (x + 1) ≤ 9223372036854775807) ∧ (∃ out' : List Int, ∃ x' : Int, (s_l2Bits_JJ0 n code out' x') ∧ (s_l2Bits_mJ0 n code out' x' < s_l2Bits_mJ0 n code out x) ∧ (n = n) ∧ (code = code) ∧ (out.length = out'.length) ∧ ((x + 1) = x') ∧ (out = out'))))) ∧ ((decide (x < n)) = false → ((out.length = out.length) ∧ ((out : List Int) = (members (fun k => code.toNat.testBit k) n.toNat)))))))
theorem s_l2Bits_vc (n : Int) (code : Int) (hn : 0 ≤ n ∧ n ≤ 62) (hc : 0 ≤ code ∧ code ≤ 4611686018427387903)  : s_l2Bits_P n code := by
  unfold s_l2Bits_P
  refine ⟨?_, ?_⟩
  · refine ⟨([]), 0, ?_⟩
    refine ⟨?_, rfl, rfl, rfl, rfl, ?_⟩
    · refine ⟨?_, ?_, ?_⟩
      · first | omega | rfl | (intro hg; simp only [nrmT] at hg; omega) | (intro g1 g2; simp [g1, g2]; done) | (intro g1; simp at g1 ⊢; simp [g1]; done) | (simp only [nrmT] at *; omega) | (simp at * <;> omega) | (simp_all <;> omega) | (simp_all; done)
      · first | omega | rfl | (intro hg; simp only [nrmT] at hg; omega) | (intro g1 g2; simp [g1, g2]; done) | (intro g1; simp at g1 ⊢; simp [g1]; done) | (simp only [nrmT] at *; omega) | (simp at * <;> omega) | (simp_all <;> omega) | (simp_all; done)
      · first | omega | rfl | (intro hg; simp only [nrmT] at hg; omega) | (intro g1 g2; simp [g1, g2]; done) | (intro g1; simp at g1 ⊢; simp [g1]; done) | (simp only [nrmT] at *; omega) | (simp at * <;> omega) | (simp_all <;> omega) | (simp_all; done)
    · first | omega | rfl | (intro hg; simp only [nrmT] at hg; omega) | (intro g1 g2; simp [g1, g2]; done) | (intro g1; simp at g1 ⊢; simp [g1]; done) | (simp only [nrmT] at *; omega) | (simp at * <;> omega) | (simp_all <;> omega) | (simp_all; done)
  · intro out x hJ
    obtain ⟨h1, h2, h3⟩ := hJ
    refine ⟨?_, ?_⟩
    · intro b1
      try simp only [nrmT] at b1
      refine ⟨?_, ?_, ?_, ?_, ?_, ?_⟩
      · first | omega | rfl | (intro hg; simp only [nrmT] at hg; omega) | (intro g1 g2; simp [g1, g2]; done) | (intro g1; simp at g1 ⊢; simp [g1]; done) | (simp only [nrmT] at *; omega) | (simp at * <;> omega) | (simp_all <;> omega) | (simp_all; done)
      · first | omega | rfl | (intro hg; simp only [nrmT] at hg; omega) | (intro g1 g2; simp [g1, g2]; done) | (intro g1; simp at g1 ⊢; simp [g1]; done) | (simp only [nrmT] at *; omega) | (simp at * <;> omega) | (simp_all <;> omega) | (simp_all; done)
      · have h5 : 0 ≤ code / 2 ^ x.toNat := Int.ediv_nonneg hc.1 (Int.le_of_lt (Int.pow_pos (by omega)))
        have h6 : code / 2 ^ x.toNat ≤ code := Int.ediv_le_self _ hc.1
        omega
      · first | omega | rfl | (intro hg; simp only [nrmT] at hg; omega) | (intro g1 g2; simp [g1, g2]; done) | (intro g1; simp at g1 ⊢; simp [g1]; done) | (simp only [nrmT] at *; omega) | (simp at * <;> omega) | (simp_all <;> omega) | (simp_all; done)
      · intro b2
        try simp only [nrmT] at b2
        refine ⟨rfl, rfl, ?_, ?_, ?_⟩
        · rw [h3]; have := members_len_le (fun k => code.toNat.testBit k) x.toNat; omega
        · first | omega | rfl | (intro hg; simp only [nrmT] at hg; omega) | (intro g1 g2; simp [g1, g2]; done) | (intro g1; simp at g1 ⊢; simp [g1]; done) | (simp only [nrmT] at *; omega) | (simp at * <;> omega) | (simp_all <;> omega) | (simp_all; done)
        · refine ⟨(out ++ [x]), (x + 1), ?_⟩
          refine ⟨?_, ?_, rfl, rfl, ?_, rfl, rfl⟩
          · refine ⟨?_, ?_, ?_⟩
            · first | omega | rfl | (intro hg; simp only [nrmT] at hg; omega) | (intro g1 g2; simp [g1, g2]; done) | (intro g1; simp at g1 ⊢; simp [g1]; done) | (simp only [nrmT] at *; omega) | (simp at * <;> omega) | (simp_all <;> omega) | (simp_all; done)
            · first | omega | rfl | (intro hg; simp only [nrmT] at hg; omega) | (intro g1 g2; simp [g1, g2]; done) | (intro g1; simp at g1 ⊢; simp [g1]; done) | (simp only [nrmT] at *; omega) | (simp at * <;> omega) | (simp_all <;> omega) | (simp_all; done)
            · have hb := shr_bit (n := code.toNat) (k := x.toNat)
              rw [show ((code.toNat : Nat) : Int) = code by omega] at hb
              have ht : code.toNat.testBit x.toNat = true := by
                cases h : code.toNat.testBit x.toNat with
                | true => rfl
                | false => rw [h] at hb; simp at hb; simp at b2; omega
              rw [h3, show (x + 1).toNat = x.toNat + 1 by omega, members_succ, if_pos ht, show ((x.toNat : Nat) : Int) = x by omega]
          · first | (show _ < _; omega) | (simp only [s_l2Bits_mJ0]; omega) | (simp only [s_l2Bits_mJ0] at *; simp at *; omega)
          · simp
      · intro b3
        try simp only [nrmT] at b3
        refine ⟨?_, ?_⟩
        · first | omega | rfl | (intro hg; simp only [nrmT] at hg; omega) | (intro g1 g2; simp [g1, g2]; done) | (intro g1; simp at g1 ⊢; simp [g1]; done) | (simp only [nrmT] at *; omega) | (simp at * <;> omega) | (simp_all <;> omega) | (simp_all; done)
        · refine ⟨out, (x + 1), ?_⟩
          refine ⟨?_, ?_, rfl, rfl, rfl, rfl, rfl⟩
          · refine ⟨?_, ?_, ?_⟩
            · first | omega | rfl | (intro hg; simp only [nrmT] at hg; omega) | (intro g1 g2; simp [g1, g2]; done) | (intro g1; simp at g1 ⊢; simp [g1]; done) | (simp only [nrmT] at *; omega) | (simp at * <;> omega) | (simp_all <;> omega) | (simp_all; done)
            · first | omega | rfl | (intro hg; simp only [nrmT] at hg; omega) | (intro g1 g2; simp [g1, g2]; done) | (intro g1; simp at g1 ⊢; simp [g1]; done) | (simp only [nrmT] at *; omega) | (simp at * <;> omega) | (simp_all <;> omega) | (simp_all; done)
            · have hb := shr_bit (n := code.toNat) (k := x.toNat)
              rw [show ((code.toNat : Nat) : Int) = code by omega] at hb
              have ht : code.toNat.testBit x.toNat = false := by
                cases h : code.toNat.testBit x.toNat with
                | false => rfl
                | true => rw [h] at hb; simp at hb; simp at b3; omega
              rw [h3, show (x + 1).toNat = x.toNat + 1 by omega, members_succ, ht]; simp
          · first | (show _ < _; omega) | (simp only [s_l2Bits_mJ0]; omega) | (simp only [s_l2Bits_mJ0] at *; simp at *; omega)
    · intro b4
      try simp only [nrmT] at b4
      refine ⟨rfl, ?_⟩
      · rw [h3, show x.toNat = n.toNat by omega]
theorem s_l2Bits_pc (n : Int) (code : Int) (hn : 0 ≤ n ∧ n ≤ 62) (hc : 0 ≤ code ∧ code ≤ 4611686018427387903) : PC Try.prog 187 [.int .i64 n, .int .i64 code] (.one (.d (.sl (.ints (members (fun k => code.toNat.testBit k) n.toNat))))) :=
  pc_wf @Try.call187 fun _ => pc_by (by kernel_rfl) Try.func187 @Try.call187 (by kernel_rfl) s_l2Bits_C (s_l2Bits_A n code) (by kernel_rfl) (s_l2Bits_vc n code hn hc) (by kernel_rfl)
def s_l2Bits_orc : List D → Orc := orcN [none, none] fun ds => match ds with
  | [.int .i64 n, .int .i64 code] => some (.one (.d (.sl (.ints (members (fun k => code.toNat.testBit k) n.toNat)))))
  | _ => none
def i_isMedianCase_C (f : FuncId) (ds : List D) : Orc := bif Nat.beq f 106 then i_IsField_orc ds else bif Nat.beq f 107 then i_between_orc ds else .no
def i_isMedianCase_A (Open : List Int) (Dist : List (List Int)) (k : Int) : Ann := .none
def i_isMedianCase_P (Open : List Int) (Dist : List (List Int)) (k : Int) : Prop :=
  (PC Try.prog 106 [.agg [.sl (.ints Open), .sl (.rows Dist)]] (.one (.d (.bool (goodField Open Dist))))) ∧ ((goodField Open Dist) = true → (goodField Open Dist) = true) ∧ ((goodField Open Dist) = true → (goodField Open Dist) = true) ∧ ((goodField Open Dist) = true → (goodField Open Dist) = true) ∧ ((goodField Open Dist) = true → (goodField Open Dist) = true) ∧ ((goodField Open Dist) = true → PC Try.prog 107 [.int .i64 k, .int .i64 1, .int .i64 (Open.length : Int)] (.one (.d (.bool (inB k 1 (Open.length : Int)))))) ∧ (true = true) ∧ (((goodField Open Dist) = true → (goodField Open Dist) = true)) ∧ (((goodField Open Dist) = false → true = true)) ∧ (((cond (goodField Open Dist) (inB k 1 (Open.length : Int)) false) = (goodField Open Dist && inB k 1 (Open.length : Int))))
theorem i_isMedianCase_vc (Open : List Int) (Dist : List (List Int)) (k : Int)  (w_Open : (Open.length : Int) ≤ 9223372036854775807) (w_Dist : (Dist.length : Int) ≤ 9223372036854775807) (v_Dist : ∀ x9 ∈ Dist, (x9.length : Int) ≤ 9223372036854775807) : i_isMedianCase_P Open Dist k := by
  unfold i_isMedianCase_P
  refine ⟨i_IsField_pc Open Dist, id, id, id, id, fun _ => i_between_pc k 1 (Open.length : Int), rfl, id, fun _ => rfl, ?_⟩
  · cases goodField Open Dist <;> rfl
theorem i_isMedianCase_pc (Open : List Int) (Dist : List (List Int)) (k : Int)  : PC Try.prog 127 [.agg [.sl (.ints Open), .sl (.rows Dist)], .int .i64 k] (.one (.d (.bool (goodField Open Dist && inB k 1 (Open.length : Int))))) :=
  pc_wf @Try.call127 fun hw => pc_by (by kernel_rfl) Try.func127 @Try.call127 (by kernel_rfl) i_isMedianCase_C (i_isMedianCase_A Open Dist k) (by kernel_rfl) (i_isMedianCase_vc Open Dist k hw.1.1 hw.1.2.1.1 hw.1.2.1.2) (by kernel_rfl)
def i_isMedianCase_orc : List D → Orc := orcN [none, none] fun ds => match ds with
  | [.agg [.sl (.ints Open), .sl (.rows Dist)], .int .i64 k] => some (.one (.d (.bool (goodField Open Dist && inB k 1 (Open.length : Int)))))
  | _ => none
def s_l5Ask_C (f : FuncId) (ds : List D) : Orc := bif Nat.beq f 99 then s_l2Good_orc ds else bif Nat.beq f 104 then s_l1In_orc ds else .no
def s_l5Ask_A (Open : List Int) (Dist : List (List Int)) (k : Int) : Ann := .none
def s_l5Ask_P (Open : List Int) (Dist : List (List Int)) (k : Int) : Prop :=
  (PC Try.prog 99 [.agg [.sl (.ints Open), .sl (.rows Dist)]] (.one (.d (.bool (goodField Open Dist))))) ∧ ((goodField Open Dist) = true → (goodField Open Dist) = true) ∧ ((goodField Open Dist) = true → (goodField Open Dist) = true) ∧ ((goodField Open Dist) = true → (goodField Open Dist) = true) ∧ ((goodField Open Dist) = true → (goodField Open Dist) = true) ∧ ((goodField Open Dist) = true → PC Try.prog 104 [.int .i64 k, .int .i64 1, .int .i64 (Open.length : Int)] (.one (.d (.bool (inB k 1 (Open.length : Int)))))) ∧ (true = true) ∧ (((goodField Open Dist) = true → (goodField Open Dist) = true)) ∧ (((goodField Open Dist) = false → true = true)) ∧ (((cond (goodField Open Dist) (inB k 1 (Open.length : Int)) false) = (goodField Open Dist && inB k 1 (Open.length : Int))))
theorem s_l5Ask_vc (Open : List Int) (Dist : List (List Int)) (k : Int)  (w_Open : (Open.length : Int) ≤ 9223372036854775807) (w_Dist : (Dist.length : Int) ≤ 9223372036854775807) (v_Dist : ∀ x9 ∈ Dist, (x9.length : Int) ≤ 9223372036854775807) : s_l5Ask_P Open Dist k := by
  unfold s_l5Ask_P
  refine ⟨s_l2Good_pc Open Dist, id, id, id, id, fun _ => s_l1In_pc k 1 (Open.length : Int), rfl, id, fun _ => rfl, ?_⟩
  · cases goodField Open Dist <;> rfl
theorem s_l5Ask_pc (Open : List Int) (Dist : List (List Int)) (k : Int)  : PC Try.prog 125 [.agg [.sl (.ints Open), .sl (.rows Dist)], .int .i64 k] (.one (.d (.bool (goodField Open Dist && inB k 1 (Open.length : Int))))) :=
  pc_wf @Try.call125 fun hw => pc_by (by kernel_rfl) Try.func125 @Try.call125 (by kernel_rfl) s_l5Ask_C (s_l5Ask_A Open Dist k) (by kernel_rfl) (s_l5Ask_vc Open Dist k hw.1.1 hw.1.2.1.1 hw.1.2.1.2) (by kernel_rfl)
def s_l5Ask_orc : List D → Orc := orcN [none, none] fun ds => match ds with
  | [.agg [.sl (.ints Open), .sl (.rows Dist)], .int .i64 k] => some (.one (.d (.bool (goodField Open Dist && inB k 1 (Open.length : Int)))))
  | _ => none
def awayF (Dist : List (List Int)) (c : Int) (out : List Int) (b : Int) (j : Nat) : Int := min b (gapAt Dist c (out.getD j 0))
def awayTo (Dist : List (List Int)) (c : Int) (out : List Int) (k : Nat) : Int := foldTo (awayF Dist c out) 199 k
def away (Dist : List (List Int)) (c : Int) (out : List Int) : Int := awayTo Dist c out out.length
theorem awayTo_succ (Dist : List (List Int)) (c : Int) (out : List Int) (k : Nat) : awayTo Dist c out (k + 1) = min (awayTo Dist c out k) (gapAt Dist c (out.getD k 0)) := rfl
theorem gapAt_bound {Open : List Int} {Dist : List (List Int)} (hg : goodField Open Dist = true) {i j : Int} (hi : 0 ≤ i ∧ i < (Dist.length : Int)) (hj : 0 ≤ j ∧ j < (Dist.length : Int)) : 0 ≤ gapAt Dist i j ∧ gapAt Dist i j ≤ 198 := by
  obtain ⟨g1, g2, g3⟩ := gf_open hg
  obtain ⟨ri, ci⟩ := gf_row (i := i.toNat) hg (by omega)
  obtain ⟨rj, cj⟩ := gf_row (i := j.toNat) hg (by omega)
  unfold gapAt
  split
  · omega
  · have h1 := gap_bound (Dist := Dist) (i := i.toNat) (j := j.toNat) (n := (Dist.getD i.toNat []).length) (fun a ha => (ci a (by omega)).1) (fun a ha => (cj a (by omega)).1)
    refine ⟨h1.1, ?_⟩
    have h2 : ∀ n, 1 ≤ n → foldTo (gapF Dist i.toNat j.toNat) 199 n ≤ 198 := by
      intro n hn
      induction n with
      | zero => omega
      | succ n ih =>
        show min _ _ ≤ _
        by_cases e : n = 0
        · subst e
          have := ci 0 (by omega)
          have := cj 0 (by omega)
          omega
        · have := ih (by omega)
          omega
    exact h2 _ (by omega)
theorem awayTo_bound {Open : List Int} {Dist : List (List Int)} (hg : goodField Open Dist = true) {c : Int} (hc : 0 ≤ c ∧ c < (Dist.length : Int)) {out : List Int} (ho : ∀ x ∈ out, 0 ≤ x ∧ x < (Dist.length : Int)) : ∀ k, k ≤ out.length → 0 ≤ awayTo Dist c out k ∧ awayTo Dist c out k ≤ 199 ∧ (1 ≤ k → awayTo Dist c out k ≤ 198)
  | 0, _ => ⟨by simp [awayTo, foldTo], by simp [awayTo, foldTo], fun h => by omega⟩
  | k + 1, hk => by
    obtain ⟨h1, h2, h3⟩ := awayTo_bound hg hc ho k (by omega)
    have h4 := gapAt_bound hg hc (ho _ (getD_mem (d := 0) (show k < out.length by omega)))
    rw [awayTo_succ]
    omega
/-- The next client: the first one, not taken, with the greatest least gap. -/
def farF (Dist : List (List Int)) (out : List Int) (b : Int) (i : Nat) : Int :=
  if (!(out.contains (i : Int)) && (decide (b < 0) || decide (away Dist (i : Int) out > away Dist b out))) = true then (i : Int) else b
def farTo (Dist : List (List Int)) (out : List Int) (k : Nat) : Int := foldTo (farF Dist out) (-1) k
theorem farTo_succ (Dist : List (List Int)) (out : List Int) (k : Nat) : farTo Dist out (k + 1) = farF Dist out (farTo Dist out k) k := rfl
theorem farTo_in (Dist : List (List Int)) (out : List Int) : ∀ k, -1 ≤ farTo Dist out k ∧ farTo Dist out k < k
  | 0 => by simp [farTo, foldTo]
  | k + 1 => by
    have := farTo_in Dist out k
    rw [farTo_succ]
    unfold farF
    split <;> omega
theorem farTo_no {Dist : List (List Int)} {out : List Int} : ∀ k, farTo Dist out k < 0 → ∀ i, i < k → out.contains (i : Int) = true
  | 0, _, i, hi => by omega
  | k + 1, h, i, hi => by
    rw [farTo_succ] at h
    unfold farF at h
    split at h
    · omega
    · rename_i hn
      by_cases e : i = k
      · subst e
        rw [decide_eq_true h] at hn
        cases hc : out.contains (i : Int) with
        | true => rfl
        | false => rw [hc] at hn; simp at hn
      · exact farTo_no k h i (by omega)
theorem all_in : ∀ (n : Nat) (out : List Int), (∀ i, i < n → (i : Int) ∈ out) → n ≤ out.length
  | 0, _, _ => Nat.zero_le _
  | n + 1, out, h => by
    have h1 := h n (Nat.lt_succ_self n)
    have h2 := all_in n (out.erase (n : Int)) fun i hi => (List.mem_erase_of_ne (by omega)).2 (h i (by omega))
    rw [List.length_erase_of_mem h1] at h2
    have := List.length_pos_of_mem h1
    omega
theorem all_in_len {out : List Int} {n : Nat} (ho : ∀ i, i < n → out.contains (i : Int) = true) : n ≤ out.length :=
  all_in n out fun i hi => List.contains_iff_mem.1 (ho i hi)
def fcRun (Dist : List (List Int)) : Nat → List Int → List Int
  | 0, out => out
  | n + 1, out => fcRun Dist n (out ++ [farTo Dist out Dist.length])
structure FcOk (Dist : List (List Int)) (out : List Int) : Prop where
  inR : ∀ x ∈ out, 0 ≤ x ∧ x < (Dist.length : Int)
theorem fc_next {Dist : List (List Int)} {out : List Int} (h : FcOk Dist out) (hl : out.length < Dist.length) : 0 ≤ farTo Dist out Dist.length := by
  by_cases e : farTo Dist out Dist.length < 0
  · have := all_in_len (farTo_no Dist.length e); omega
  · omega
theorem fcOk_app {Dist : List (List Int)} {out : List Int} (h : FcOk Dist out) (hl : out.length < Dist.length) : FcOk Dist (out ++ [farTo Dist out Dist.length]) := by
  have h1 := fc_next h hl
  have h2 := farTo_in Dist out Dist.length
  refine ⟨fun x hx => ?_⟩
  rcases List.mem_append.1 hx with hx | hx
  · exact h.inR x hx
  · rw [List.mem_singleton] at hx; omega
theorem fcOk_nil (Dist : List (List Int)) : FcOk Dist [] := ⟨fun x hx => (by cases hx)⟩
theorem fcRun_len (Dist : List (List Int)) : ∀ n out, (fcRun Dist n out).length = out.length + n
  | 0, _ => rfl
  | n + 1, out => by
    show (fcRun Dist n _).length = _
    rw [fcRun_len, List.length_append, List.length_cons, List.length_nil]; omega
theorem far_first (Dist : List (List Int)) (h : 0 < Dist.length) : farTo Dist [] Dist.length = 0 := by
  have key : ∀ k, 1 ≤ k → farTo Dist [] k = 0 := by
    intro k hk
    induction k with
    | zero => omega
    | succ k ih =>
      rw [farTo_succ]
      by_cases e : k = 0
      · subst e; rfl
      · rw [ih (by omega)]
        unfold farF
        have e2 : ∀ c, away Dist c [] = 199 := fun c => rfl
        rw [e2, e2]
        simp
  exact key _ h
abbrev s_l5Away_JJ0 (Open : List Int) (Dist : List (List Int)) (client : Int) (taken : List Int) (best : Int) (i : Int) : Prop := (1 ≤ i) ∧ (i ≤ (taken.length : Int)) ∧ (best = awayTo Dist client taken i.toNat)
abbrev s_l5Away_mJ0 (Open : List Int) (Dist : List (List Int)) (client : Int) (taken : List Int) (best : Int) (i : Int) : Nat := (taken.length - i).toNat
def s_l5Away_C (f : FuncId) (ds : List D) : Orc := bif Nat.beq f 205 then s_l5Gap_orc ds else bif Nat.beq f 206 then s_l1Least_orc ds else .no
def s_l5Away_A (Open : List Int) (Dist : List (List Int)) (client : Int) (taken : List Int) : Ann := .two (.none) (.two (.none) (.two (.two (.none) (.loop (cut2 (fun (best : Int) (i : Int) => s_l5Away_JJ0 Open Dist client taken best i) (fun (best : Int) (i : Int) => [(1, .d false (.int .i64 client)), (2, .d false (.sl (.ints taken))), (3, .ptr 3 0), (7, .d true (.int .i64 best)), (8, .d true (.int .i64 i))]) (fun (best : Int) (i : Int) => [(3, .box 44 [.d false (.sl (.ints Open)), .d false (.sl (.rows Dist))])])) (fun g => s_l5Away_mJ0 Open Dist client taken g.1 g.2) (fun _ => .none))) (.none)))
def s_l5Away_P (Open : List Int) (Dist : List (List Int)) (client : Int) (taken : List Int) : Prop :=
  (true = true) ∧ ((0 : Int) ≤ 0) ∧ ((0 : Int) < taken.length) ∧ (0 < taken.length) ∧ (PC Try.prog 205 [.agg [.sl (.ints Open), .sl (.rows Dist)], .int .i64 client, .int .i64 (taken.getD 0 0)] (.one (.d (.int .i64 (gapAt Dist client (taken.getD 0 0)))))) ∧ ((∃ best' : Int, ∃ i' : Int, (s_l5Away_JJ0 Open Dist client taken best' i') ∧ (client = client) ∧ (taken = taken) ∧ ((gapAt Dist client (taken.getD 0 0)) = best') ∧ ((1 : Int) = i') ∧ (Open = Open) ∧ (Dist = Dist)) ∧ (∀ best : Int, ∀ i : Int, (s_l5Away_JJ0 Open Dist client taken best i) → (((decide (i < (taken.length : Int))) = true → (true = true) ∧ ((0 : Int) ≤ i) ∧ ((i : Int) < taken.length) ∧ (i.toNat < taken.length) ∧ (PC Try.prog 205 [.agg [.sl (.ints Open), .sl (.rows Dist)], .int .i64 client, .int .i64 (taken.getD i.toNat 0)] (.one (.d (.int .i64 (gapAt Dist client (taken.getD i.toNat 0)))))) ∧ (PC Try.prog 206 [.int .i64 best, .int .i64 (gapAt Dist client (taken.getD i.toNat 0))] (.one (.d (.int .i64 (min best (gapAt Dist client (taken.getD i.toNat 0))))))) ∧ (-9223372036854775808 ≤ (i + 1) ∧ (i + 1) ≤ 9223372036854775807) ∧ (∃ best' : Int, ∃ i' : Int, (s_l5Away_JJ0 Open Dist client taken best' i') ∧ (s_l5Away_mJ0 Open Dist client taken best' i' < s_l5Away_mJ0 Open Dist client taken best i) ∧ (client = client) ∧ (taken = taken) ∧ ((min best (gapAt Dist client (taken.getD i.toNat 0))) = best') ∧ ((i + 1) = i') ∧ (Open = Open) ∧ (Dist = Dist))) ∧ ((decide (i < (taken.length : Int))) = false → ((best = (away Dist client taken)))))))
theorem s_l5Away_vc (Open : List Int) (Dist : List (List Int)) (client : Int) (taken : List Int) (hf : goodField Open Dist = true) (hc : 0 ≤ client ∧ client < (Dist.length : Int)) (ht : ∀ x ∈ taken, 0 ≤ x ∧ x < (Dist.length : Int)) (hp : 0 < taken.length) (w_Open : (Open.length : Int) ≤ 9223372036854775807) (w_Dist : (Dist.length : Int) ≤ 9223372036854775807) (v_Dist : ∀ x9 ∈ Dist, (x9.length : Int) ≤ 9223372036854775807) (w_taken : (taken.length : Int) ≤ 9223372036854775807) : s_l5Away_P Open Dist client taken := by
  unfold s_l5Away_P
  refine ⟨rfl, ?_, ?_, ?_, ?_, ?_, ?_⟩
  · first | omega | rfl | (intro hg; simp only [nrmT] at hg; omega) | (intro g1 g2; simp [g1, g2]; done) | (intro g1; simp at g1 ⊢; simp [g1]; done) | (simp only [nrmT] at *; omega) | (simp at * <;> omega) | (simp_all <;> omega) | (simp_all; done)
  · first | omega | rfl | (intro hg; simp only [nrmT] at hg; omega) | (intro g1 g2; simp [g1, g2]; done) | (intro g1; simp at g1 ⊢; simp [g1]; done) | (simp only [nrmT] at *; omega) | (simp at * <;> omega) | (simp_all <;> omega) | (simp_all; done)
  · first | omega | rfl | (intro hg; simp only [nrmT] at hg; omega) | (intro g1 g2; simp [g1, g2]; done) | (intro g1; simp at g1 ⊢; simp [g1]; done) | (simp only [nrmT] at *; omega) | (simp at * <;> omega) | (simp_all <;> omega) | (simp_all; done)
  · refine s_l5Gap_pc Open Dist client (taken.getD 0 0) ?_ ?_ ?_
    · first | omega | rfl | (intro hg; simp only [nrmT] at hg; omega) | (intro g1 g2; simp [g1, g2]; done) | (intro g1; simp at g1 ⊢; simp [g1]; done) | (simp only [nrmT] at *; omega) | (simp at * <;> omega) | (simp_all <;> omega) | (simp_all; done)
    · first | omega | rfl | (intro hg; simp only [nrmT] at hg; omega) | (intro g1 g2; simp [g1, g2]; done) | (intro g1; simp at g1 ⊢; simp [g1]; done) | (simp only [nrmT] at *; omega) | (simp at * <;> omega) | (simp_all <;> omega) | (simp_all; done)
    · exact ht _ (getD_mem (d := 0) hp)
  · refine ⟨(gapAt Dist client (taken.getD 0 0)), 1, ?_⟩
    refine ⟨?_, rfl, rfl, rfl, rfl, rfl, rfl⟩
    · refine ⟨?_, ?_, ?_⟩
      · first | omega | rfl | (intro hg; simp only [nrmT] at hg; omega) | (intro g1 g2; simp [g1, g2]; done) | (intro g1; simp at g1 ⊢; simp [g1]; done) | (simp only [nrmT] at *; omega) | (simp at * <;> omega) | (simp_all <;> omega) | (simp_all; done)
      · first | omega | rfl | (intro hg; simp only [nrmT] at hg; omega) | (intro g1 g2; simp [g1, g2]; done) | (intro g1; simp at g1 ⊢; simp [g1]; done) | (simp only [nrmT] at *; omega) | (simp at * <;> omega) | (simp_all <;> omega) | (simp_all; done)
      · have := gapAt_bound hf hc (ht _ (getD_mem (d := 0) hp))
        show _ = min (199 : Int) (gapAt Dist client (taken.getD 0 0))
        omega
  · intro best i hJ
    obtain ⟨h1, h2, h3⟩ := hJ
    refine ⟨?_, ?_⟩
    · intro b1
      try simp only [nrmT] at b1
      refine ⟨rfl, ?_, ?_, ?_, ?_, s_l1Least_pc best (gapAt Dist client (taken.getD i.toNat 0)), ?_, ?_⟩
      · first | omega | rfl | (intro hg; simp only [nrmT] at hg; omega) | (intro g1 g2; simp [g1, g2]; done) | (intro g1; simp at g1 ⊢; simp [g1]; done) | (simp only [nrmT] at *; omega) | (simp at * <;> omega) | (simp_all <;> omega) | (simp_all; done)
      · first | omega | rfl | (intro hg; simp only [nrmT] at hg; omega) | (intro g1 g2; simp [g1, g2]; done) | (intro g1; simp at g1 ⊢; simp [g1]; done) | (simp only [nrmT] at *; omega) | (simp at * <;> omega) | (simp_all <;> omega) | (simp_all; done)
      · first | omega | rfl | (intro hg; simp only [nrmT] at hg; omega) | (intro g1 g2; simp [g1, g2]; done) | (intro g1; simp at g1 ⊢; simp [g1]; done) | (simp only [nrmT] at *; omega) | (simp at * <;> omega) | (simp_all <;> omega) | (simp_all; done)
      · refine s_l5Gap_pc Open Dist client (taken.getD i.toNat 0) ?_ ?_ ?_
        · first | omega | rfl | (intro hg; simp only [nrmT] at hg; omega) | (intro g1 g2; simp [g1, g2]; done) | (intro g1; simp at g1 ⊢; simp [g1]; done) | (simp only [nrmT] at *; omega) | (simp at * <;> omega) | (simp_all <;> omega) | (simp_all; done)
        · first | omega | rfl | (intro hg; simp only [nrmT] at hg; omega) | (intro g1 g2; simp [g1, g2]; done) | (intro g1; simp at g1 ⊢; simp [g1]; done) | (simp only [nrmT] at *; omega) | (simp at * <;> omega) | (simp_all <;> omega) | (simp_all; done)
        · exact ht _ (getD_mem (d := 0) (by omega))
      · first | omega | rfl | (intro hg; simp only [nrmT] at hg; omega) | (intro g1 g2; simp [g1, g2]; done) | (intro g1; simp at g1 ⊢; simp [g1]; done) | (simp only [nrmT] at *; omega) | (simp at * <;> omega) | (simp_all <;> omega) | (simp_all; done)
      · refine ⟨(min best (gapAt Dist client (taken.getD i.toNat 0))), (i + 1), ?_⟩
        refine ⟨?_, ?_, rfl, rfl, rfl, rfl, rfl, rfl⟩
        · refine ⟨?_, ?_, ?_⟩
          · first | omega | rfl | (intro hg; simp only [nrmT] at hg; omega) | (intro g1 g2; simp [g1, g2]; done) | (intro g1; simp at g1 ⊢; simp [g1]; done) | (simp only [nrmT] at *; omega) | (simp at * <;> omega) | (simp_all <;> omega) | (simp_all; done)
          · first | omega | rfl | (intro hg; simp only [nrmT] at hg; omega) | (intro g1 g2; simp [g1, g2]; done) | (intro g1; simp at g1 ⊢; simp [g1]; done) | (simp only [nrmT] at *; omega) | (simp at * <;> omega) | (simp_all <;> omega) | (simp_all; done)
          · rw [h3, show (i + 1).toNat = i.toNat + 1 by omega, awayTo_succ]
        · first | (show _ < _; omega) | (simp only [s_l5Away_mJ0]; omega) | (simp only [s_l5Away_mJ0] at *; simp at *; omega)
    · intro b2
      try simp only [nrmT] at b2
      unfold away; rw [h3, show i.toNat = taken.length by omega]
theorem s_l5Away_pc (Open : List Int) (Dist : List (List Int)) (client : Int) (taken : List Int) (hf : goodField Open Dist = true) (hc : 0 ≤ client ∧ client < (Dist.length : Int)) (ht : ∀ x ∈ taken, 0 ≤ x ∧ x < (Dist.length : Int)) (hp : 0 < taken.length) : PC Try.prog 177 [.agg [.sl (.ints Open), .sl (.rows Dist)], .int .i64 client, .sl (.ints taken)] (.one (.d (.int .i64 (away Dist client taken)))) :=
  pc_wf @Try.call177 fun hw => pc_by (by kernel_rfl) Try.func177 @Try.call177 (by kernel_rfl) s_l5Away_C (s_l5Away_A Open Dist client taken) (by kernel_rfl) (s_l5Away_vc Open Dist client taken hf hc ht hp hw.1.1 hw.1.2.1.1 hw.1.2.1.2 hw.2.2.1) (by kernel_rfl)
def s_l5Away_orc : List D → Orc := orcN [none, none, some .ints] fun ds => match ds with
  | [.agg [.sl (.ints Open), .sl (.rows Dist)], .int .i64 client, .sl (.ints taken)] => some (.one (.d (.int .i64 (away Dist client taken))))
  | _ => none
abbrev s_l5Farthest_JJ0 (Open : List Int) (Dist : List (List Int)) (k : Int) (out : List Int) : Prop := (FcOk Dist out) ∧ (out.length ≤ min k.toNat Dist.length) ∧ (fcRun Dist (min k.toNat Dist.length - out.length) out = fcRun Dist (min k.toNat Dist.length) []) ∧ (0 < out.length) ∧ (0 < Dist.length)
abbrev s_l5Farthest_mJ0 (Open : List Int) (Dist : List (List Int)) (k : Int) (out : List Int) : Nat := (min k.toNat Dist.length - out.length)
abbrev s_l5Farthest_JJ1 (Open : List Int) (Dist : List (List Int)) (k : Int) (out : List Int) (best : Int) (j : Int) : Prop := (0 ≤ j) ∧ (j ≤ (Dist.length : Int)) ∧ (best = farTo Dist out j.toNat)
abbrev s_l5Farthest_mJ1 (Open : List Int) (Dist : List (List Int)) (k : Int) (out : List Int) (best : Int) (j : Int) : Nat := (Dist.length - j).toNat
def s_l5Farthest_C (f : FuncId) (ds : List D) : Orc := bif Nat.beq f 122 then s_l1Has_orc ds else bif Nat.beq f 177 then s_l5Away_orc ds else .no
def s_l5Farthest_A (Open : List Int) (Dist : List (List Int)) (k : Int) : Ann := .two (.none) (.two (.none) (.two (.none) (.two (.loop (cut1 (fun (out : List Int) => s_l5Farthest_JJ0 Open Dist k out) (fun (out : List Int) => [(1, .d false (.int .i64 k)), (2, .ptr 2 0), (5, .own 1000000 out.length)]) (fun (out : List Int) => [(1000000, .arr true 3 (.ints out)), (2, .box 44 [.d false (.sl (.ints Open)), .d false (.sl (.rows Dist))])])) (fun g => s_l5Farthest_mJ0 Open Dist k g) (fun g => (fun (out : List Int) => .two (.none) (.two (.none) (.two (.two (.none) (.loop (cut2 (fun (best : Int) (j : Int) => s_l5Farthest_JJ1 Open Dist k out best j) (fun (best : Int) (j : Int) => [(1, .d false (.int .i64 k)), (2, .ptr 2 0), (5, .own 1000000 out.length), (6, .d true (.int .i64 best)), (7, .d true (.int .i64 j))]) (fun (best : Int) (j : Int) => [(2, .box 44 [.d false (.sl (.ints Open)), .d false (.sl (.rows Dist))]), (1000000, .arr true 3 (.ints out))])) (fun g => s_l5Farthest_mJ1 Open Dist k out g.1 g.2) (fun _ => .none))) (.none)))) g)) (.none))))
def s_l5Farthest_P (Open : List Int) (Dist : List (List Int)) (k : Int) : Prop :=
  ((((Dist.length : Int) == 0) = true → (((0 : Nat) = 0) ∧ (([] : List Int) = (fcRun Dist (min k.toNat Dist.length) [])))) ∧ (((Dist.length : Int) == 0) = false → ((∃ out' : List Int, (s_l5Farthest_JJ0 Open Dist k out') ∧ (k = k) ∧ ((1 : Nat) = out'.length) ∧ ([0] = out') ∧ (Open = Open) ∧ (Dist = Dist)) ∧ (∀ out : List Int, (s_l5Farthest_JJ0 Open Dist k out) → ((decide ((out.length : Int) < k)) = true → (decide ((out.length : Int) < k)) = true) ∧ ((decide ((out.length : Int) < k)) = true → (decide ((out.length : Int) < k)) = true) ∧ ((decide ((out.length : Int) < k)) = true → (decide ((out.length : Int) < k)) = true) ∧ ((decide ((out.length : Int) < k)) = true → (decide ((out.length : Int) < k)) = true) ∧ ((decide ((out.length : Int) < k)) = true → (decide ((out.length : Int) < k)) = true) ∧ (true = true) ∧ (((decide ((out.length : Int) < k)) = true → (decide ((out.length : Int) < k)) = true)) ∧ (((decide ((out.length : Int) < k)) = false → true = true)) ∧ (((cond (decide ((out.length : Int) < k)) (decide ((out.length : Int) < (Dist.length : Int))) false) = true → ((∃ best' : Int, ∃ j' : Int, (s_l5Farthest_JJ1 Open Dist k out best' j') ∧ (k = k) ∧ (out.length = out.length) ∧ (((-1) : Int) = best') ∧ ((0 : Int) = j') ∧ (Open = Open) ∧ (Dist = Dist) ∧ (out = out)) ∧ (∀ best : Int, ∀ j : Int, (s_l5Farthest_JJ1 Open Dist k out best j) → (((decide (j < (Dist.length : Int))) = true → (true = true) ∧ (out.length = out.length) ∧ (PC Try.prog 122 [.sl (.ints out), .int .i64 j] (.one (.d (.bool (out.contains j))))) ∧ ((!(out.contains j)) = true → (!(out.contains j)) = true) ∧ ((!(out.contains j)) = true → (!(out.contains j)) = true) ∧ (((!(out.contains j)) && (!(decide (best < 0)))) = true → ((!(out.contains j)) && (!(decide (best < 0)))) = true) ∧ (((!(out.contains j)) && (!(decide (best < 0)))) = true → ((!(out.contains j)) && (!(decide (best < 0)))) = true) ∧ (((!(out.contains j)) && (!(decide (best < 0)))) = true → ((!(out.contains j)) && (!(decide (best < 0)))) = true) ∧ ((((!(out.contains j)) && (!(decide (best < 0)))) = true → out.length = out.length)) ∧ (((!(out.contains j)) && (!(decide (best < 0)))) = true → PC Try.prog 177 [.agg [.sl (.ints Open), .sl (.rows Dist)], .int .i64 j, .sl (.ints out)] (.one (.d (.int .i64 (away Dist j out))))) ∧ (((!(out.contains j)) && (!(decide (best < 0)))) = true → ((!(out.contains j)) && (!(decide (best < 0)))) = true) ∧ (((!(out.contains j)) && (!(decide (best < 0)))) = true → ((!(out.contains j)) && (!(decide (best < 0)))) = true) ∧ (((!(out.contains j)) && (!(decide (best < 0)))) = true → ((!(out.contains j)) && (!(decide (best < 0)))) = true) ∧ ((((!(out.contains j)) && (!(decide (best < 0)))) = true → out.length = out.length)) ∧ (((!(out.contains j)) && (!(decide (best < 0)))) = true → PC Try.prog 177 [.agg [.sl (.ints Open), .sl (.rows Dist)], .int .i64 best, .sl (.ints out)] (.one (.d (.int .i64 (away Dist best out))))) ∧ (((!(out.contains j)) && (!(decide (best < 0)))) = true → ((!(out.contains j)) && (!(decide (best < 0)))) = true) ∧ (((!(out.contains j)) && (!(decide (best < 0)))) = true → ((!(out.contains j)) && (!(decide (best < 0)))) = true) ∧ (((!(out.contains j)) = true → (!(out.contains j)) = true)) ∧ (((!(out.contains j)) = true → (decide (best < 0)) = true → true = true)) ∧ (((!(out.contains j)) = true → (decide (best < 0)) = false → ((!(out.contains j)) && (!(decide (best < 0)))) = true)) ∧ (true = true) ∧ (((!(out.contains j)) = true → (!(out.contains j)) = true)) ∧ (((!(out.contains j)) = false → true = true)) ∧ (((cond (!(out.contains j)) (cond (decide (best < 0)) true (decide ((away Dist j out) > (away Dist best out)))) false) = true → (-9223372036854775808 ≤ (j + 1) ∧ (j + 1) ≤ 9223372036854775807) ∧ (∃ best' : Int, ∃ j' : Int, (s_l5Farthest_JJ1 Open Dist k out best' j') ∧ (s_l5Farthest_mJ1 Open Dist k out best' j' < s_l5Farthest_mJ1 Open Dist k out best j) ∧ (k = k) ∧ (out.length = out.length) ∧ (j = best') ∧ ((j + 1) = j') ∧ (Open = Open) ∧ (Dist = Dist) ∧ (out = out))) ∧ ((cond (!(out.contains j)) (cond (decide (best < 0)) true (decide ((away Dist j out) > (away Dist best out)))) false) = false → (-9223372036854775808 ≤ (j + 1) ∧ (j + 1) ≤ 9223372036854775807) ∧ (∃ best' : Int, ∃ j' : Int, (s_l5Farthest_JJ1 Open Dist k out best' j') ∧ (s_l5Farthest_mJ1 Open Dist k out best' j' < s_l5Farthest_mJ1 Open Dist k out best j) ∧ (k = k) ∧ (out.length = out.length) ∧ (best = best') ∧ ((j + 1) = j') ∧ (Open = Open) ∧ (Dist = Dist) ∧ (out = out))))) ∧ ((decide (j < (Dist.length : Int))) = false → (out.length = out.length) ∧ ((1 : Nat) = 1) ∧ ((out.length + 1) * 8 ≤ 140737488355328) ∧ (∃ out' : List Int, (s_l5Farthest_JJ0 Open Dist k out') ∧ (s_l5Farthest_mJ0 Open Dist k out' < s_l5Farthest_mJ0 Open Dist k out) ∧ (k = k) ∧ ((out.length + 1) = out'.length) ∧ ((out ++ [best]) = out') ∧ (Open = Open) ∧ (Dist = Dist))))))) ∧ ((cond (decide ((out.length : Int) < k)) (decide ((out.length : Int) < (Dist.length : Int))) false) = false → ((out.length = out.length) ∧ ((out : List Int) = (fcRun Dist (min k.toNat Dist.length) [])))))))))
theorem s_l5Farthest_vc (Open : List Int) (Dist : List (List Int)) (k : Int) (hf : goodField Open Dist = true) (hk : 1 ≤ k ∧ k ≤ (Open.length : Int)) (w_Open : (Open.length : Int) ≤ 9223372036854775807) (w_Dist : (Dist.length : Int) ≤ 9223372036854775807) (v_Dist : ∀ x9 ∈ Dist, (x9.length : Int) ≤ 9223372036854775807) : s_l5Farthest_P Open Dist k := by
  unfold s_l5Farthest_P
  obtain ⟨g1, g2, g3⟩ := gf_open hf
  refine ⟨?_, ?_⟩
  · intro b1
    try simp only [nrmT] at b1
    refine ⟨rfl, ?_⟩
    · rw [show min k.toNat Dist.length = 0 by omega]; rfl
  · intro b2
    try simp only [nrmT] at b2
    refine ⟨?_, ?_⟩
    · refine ⟨([0]), ?_⟩
      refine ⟨?_, rfl, ?_, ?_, rfl, rfl⟩
      · refine ⟨?_, ?_, ?_, ?_, ?_⟩
        · refine ⟨fun x hx => ?_⟩
          simp at hx
          omega
        · show 1 ≤ _; omega
        · obtain ⟨m, hm⟩ : ∃ m, min k.toNat Dist.length = m + 1 := ⟨min k.toNat Dist.length - 1, by omega⟩
          rw [hm]
          show fcRun Dist (m + 1 - 1) [0] = fcRun Dist m ([] ++ [farTo Dist [] Dist.length])
          rw [far_first Dist (by omega), Nat.add_sub_cancel]; rfl
        · decide
        · first | omega | rfl | (intro hg; simp only [nrmT] at hg; omega) | (intro g1 g2; simp [g1, g2]; done) | (intro g1; simp at g1 ⊢; simp [g1]; done) | (simp only [nrmT] at *; omega) | (simp at * <;> omega) | (simp_all <;> omega) | (simp_all; done)
      · first | omega | rfl | (intro hg; simp only [nrmT] at hg; omega) | (intro g1 g2; simp [g1, g2]; done) | (intro g1; simp at g1 ⊢; simp [g1]; done) | (simp only [nrmT] at *; omega) | (simp at * <;> omega) | (simp_all <;> omega) | (simp_all; done)
      · first | omega | rfl | (intro hg; simp only [nrmT] at hg; omega) | (intro g1 g2; simp [g1, g2]; done) | (intro g1; simp at g1 ⊢; simp [g1]; done) | (simp only [nrmT] at *; omega) | (simp at * <;> omega) | (simp_all <;> omega) | (simp_all; done)
    · intro out hJ
      obtain ⟨h1, h2, h3, h4, h5⟩ := hJ
      refine ⟨id, id, id, id, id, rfl, id, fun _ => rfl, ?_, ?_⟩
      · intro b3
        refine ⟨?_, ?_⟩
        · refine ⟨(-1), 0, ?_⟩
          refine ⟨?_, rfl, rfl, rfl, rfl, rfl, rfl, rfl⟩
          · refine ⟨?_, ?_, ?_⟩
            · first | omega | rfl | (intro hg; simp only [nrmT] at hg; omega) | (intro g1 g2; simp [g1, g2]; done) | (intro g1; simp at g1 ⊢; simp [g1]; done) | (simp only [nrmT] at *; omega) | (simp at * <;> omega) | (simp_all <;> omega) | (simp_all; done)
            · first | omega | rfl | (intro hg; simp only [nrmT] at hg; omega) | (intro g1 g2; simp [g1, g2]; done) | (intro g1; simp at g1 ⊢; simp [g1]; done) | (simp only [nrmT] at *; omega) | (simp at * <;> omega) | (simp_all <;> omega) | (simp_all; done)
            · first | omega | rfl | (intro hg; simp only [nrmT] at hg; omega) | (intro g1 g2; simp [g1, g2]; done) | (intro g1; simp at g1 ⊢; simp [g1]; done) | (simp only [nrmT] at *; omega) | (simp at * <;> omega) | (simp_all <;> omega) | (simp_all; done)
        · intro best j hJ
          obtain ⟨k1, k2, k3⟩ := hJ
          refine ⟨?_, ?_⟩
          · intro b4
            try simp only [nrmT] at b4
            refine ⟨rfl, rfl, s_l1Has_pc out j, id, id, id, id, id, fun _ => rfl, ?_, id, id, id, fun _ => rfl, ?_, id, id, id, fun _ _ => rfl, ?_, rfl, id, fun _ => rfl, ?_, ?_⟩
            · intro hg
              refine s_l5Away_pc Open Dist j out ?_ ?_ ?_ ?_
              · first | omega | rfl | (intro hg; simp only [nrmT] at hg; omega) | (intro g1 g2; simp [g1, g2]; done) | (intro g1; simp at g1 ⊢; simp [g1]; done) | (simp only [nrmT] at *; omega) | (simp at * <;> omega) | (simp_all <;> omega) | (simp_all; done)
              · first | omega | rfl | (intro hg; simp only [nrmT] at hg; omega) | (intro g1 g2; simp [g1, g2]; done) | (intro g1; simp at g1 ⊢; simp [g1]; done) | (simp only [nrmT] at *; omega) | (simp at * <;> omega) | (simp_all <;> omega) | (simp_all; done)
              · exact h1.inR
              · first | omega | rfl | (intro hg; simp only [nrmT] at hg; omega) | (intro g1 g2; simp [g1, g2]; done) | (intro g1; simp at g1 ⊢; simp [g1]; done) | (simp only [nrmT] at *; omega) | (simp at * <;> omega) | (simp_all <;> omega) | (simp_all; done)
            · intro hg
              refine s_l5Away_pc Open Dist best out ?_ ?_ ?_ ?_
              · first | omega | rfl | (intro hg; simp only [nrmT] at hg; omega) | (intro g1 g2; simp [g1, g2]; done) | (intro g1; simp at g1 ⊢; simp [g1]; done) | (simp only [nrmT] at *; omega) | (simp at * <;> omega) | (simp_all <;> omega) | (simp_all; done)
              · have gi := farTo_in Dist out j.toNat
                rw [← k3] at gi
                simp at hg; omega
              · exact h1.inR
              · first | omega | rfl | (intro hg; simp only [nrmT] at hg; omega) | (intro g1 g2; simp [g1, g2]; done) | (intro g1; simp at g1 ⊢; simp [g1]; done) | (simp only [nrmT] at *; omega) | (simp at * <;> omega) | (simp_all <;> omega) | (simp_all; done)
            · intro g1 g2; rw [g1, g2]; rfl
            · intro b5
              refine ⟨?_, ?_⟩
              · first | omega | rfl | (intro hg; simp only [nrmT] at hg; omega) | (intro g1 g2; simp [g1, g2]; done) | (intro g1; simp at g1 ⊢; simp [g1]; done) | (simp only [nrmT] at *; omega) | (simp at * <;> omega) | (simp_all <;> omega) | (simp_all; done)
              · refine ⟨j, (j + 1), ?_⟩
                refine ⟨?_, ?_, rfl, rfl, rfl, rfl, rfl, rfl, rfl⟩
                · refine ⟨?_, ?_, ?_⟩
                  · first | omega | rfl | (intro hg; simp only [nrmT] at hg; omega) | (intro g1 g2; simp [g1, g2]; done) | (intro g1; simp at g1 ⊢; simp [g1]; done) | (simp only [nrmT] at *; omega) | (simp at * <;> omega) | (simp_all <;> omega) | (simp_all; done)
                  · first | omega | rfl | (intro hg; simp only [nrmT] at hg; omega) | (intro g1 g2; simp [g1, g2]; done) | (intro g1; simp at g1 ⊢; simp [g1]; done) | (simp only [nrmT] at *; omega) | (simp at * <;> omega) | (simp_all <;> omega) | (simp_all; done)
                  · rw [cond_and_or] at b5
                    rw [show (j + 1).toNat = j.toNat + 1 by omega, farTo_succ, ← k3]
                    unfold farF
                    rw [show ((j.toNat : Nat) : Int) = j by omega, if_pos b5]
                · first | (show _ < _; omega) | (simp only [s_l5Farthest_mJ1]; omega) | (simp only [s_l5Farthest_mJ1] at *; simp at *; omega)
            · intro b6
              refine ⟨?_, ?_⟩
              · first | omega | rfl | (intro hg; simp only [nrmT] at hg; omega) | (intro g1 g2; simp [g1, g2]; done) | (intro g1; simp at g1 ⊢; simp [g1]; done) | (simp only [nrmT] at *; omega) | (simp at * <;> omega) | (simp_all <;> omega) | (simp_all; done)
              · refine ⟨best, (j + 1), ?_⟩
                refine ⟨?_, ?_, rfl, rfl, rfl, rfl, rfl, rfl, rfl⟩
                · refine ⟨?_, ?_, ?_⟩
                  · first | omega | rfl | (intro hg; simp only [nrmT] at hg; omega) | (intro g1 g2; simp [g1, g2]; done) | (intro g1; simp at g1 ⊢; simp [g1]; done) | (simp only [nrmT] at *; omega) | (simp at * <;> omega) | (simp_all <;> omega) | (simp_all; done)
                  · first | omega | rfl | (intro hg; simp only [nrmT] at hg; omega) | (intro g1 g2; simp [g1, g2]; done) | (intro g1; simp at g1 ⊢; simp [g1]; done) | (simp only [nrmT] at *; omega) | (simp at * <;> omega) | (simp_all <;> omega) | (simp_all; done)
                  · rw [cond_and_or] at b6
                    rw [show (j + 1).toNat = j.toNat + 1 by omega, farTo_succ, ← k3]
                    unfold farF
                    rw [show ((j.toNat : Nat) : Int) = j by omega, if_neg (by rw [b6]; decide)]
                · first | (show _ < _; omega) | (simp only [s_l5Farthest_mJ1]; omega) | (simp only [s_l5Farthest_mJ1] at *; simp at *; omega)
          · intro b7
            try simp only [nrmT] at b7
            refine ⟨rfl, rfl, ?_, ?_⟩
            · omega
            · refine ⟨(out ++ [best]), ?_⟩
              refine ⟨?_, ?_, rfl, ?_, rfl, rfl, rfl⟩
              · refine ⟨?_, ?_, ?_, ?_, ?_⟩
                · have hb : (out.length : Int) < k ∧ (out.length : Int) < (Dist.length : Int) := by
                    revert b3; by_cases x1 : (out.length : Int) < k <;> by_cases x2 : (out.length : Int) < (Dist.length : Int) <;> simp [x1, x2]
                  have eb : best = farTo Dist out Dist.length := by rw [k3, show j.toNat = Dist.length by omega]
                  rw [eb]; exact fcOk_app h1 (by omega)
                · have hb : (out.length : Int) < k ∧ (out.length : Int) < (Dist.length : Int) := by
                    revert b3; by_cases x1 : (out.length : Int) < k <;> by_cases x2 : (out.length : Int) < (Dist.length : Int) <;> simp [x1, x2]
                  rw [List.length_append]; simp only [List.length_cons, List.length_nil]; omega
                · have hb : (out.length : Int) < k ∧ (out.length : Int) < (Dist.length : Int) := by
                    revert b3; by_cases x1 : (out.length : Int) < k <;> by_cases x2 : (out.length : Int) < (Dist.length : Int) <;> simp [x1, x2]
                  have eb : best = farTo Dist out Dist.length := by rw [k3, show j.toNat = Dist.length by omega]
                  rw [← h3]
                  have e : min k.toNat Dist.length - out.length = (min k.toNat Dist.length - (out ++ [best]).length) + 1 := by
                    rw [List.length_append]; simp only [List.length_cons, List.length_nil]; omega
                  rw [e]
                  show _ = fcRun Dist _ (out ++ [farTo Dist out Dist.length])
                  rw [← eb]
                · simp
                · first | omega | rfl | (intro hg; simp only [nrmT] at hg; omega) | (intro g1 g2; simp [g1, g2]; done) | (intro g1; simp at g1 ⊢; simp [g1]; done) | (simp only [nrmT] at *; omega) | (simp at * <;> omega) | (simp_all <;> omega) | (simp_all; done)
              · have hb : (out.length : Int) < k ∧ (out.length : Int) < (Dist.length : Int) := by
                  revert b3; by_cases x1 : (out.length : Int) < k <;> by_cases x2 : (out.length : Int) < (Dist.length : Int) <;> simp [x1, x2]
                show min k.toNat Dist.length - (out ++ [best]).length < min k.toNat Dist.length - out.length
                rw [List.length_append]; simp only [List.length_cons, List.length_nil]; omega
              · simp
      · intro b8
        refine ⟨rfl, ?_⟩
        · have hb : ¬ ((out.length : Int) < k ∧ (out.length : Int) < (Dist.length : Int)) := by
            revert b8; by_cases x1 : (out.length : Int) < k <;> by_cases x2 : (out.length : Int) < (Dist.length : Int) <;> simp [x1, x2]
          rw [← h3, show min k.toNat Dist.length - out.length = 0 by omega]; rfl
theorem s_l5Farthest_pc (Open : List Int) (Dist : List (List Int)) (k : Int) (hf : goodField Open Dist = true) (hk : 1 ≤ k ∧ k ≤ (Open.length : Int)) : PC Try.prog 126 [.agg [.sl (.ints Open), .sl (.rows Dist)], .int .i64 k] (.one (.d (.sl (.ints (fcRun Dist (min k.toNat Dist.length) []))))) :=
  pc_wf @Try.call126 fun hw => pc_by (by kernel_rfl) Try.func126 @Try.call126 (by kernel_rfl) s_l5Farthest_C (s_l5Farthest_A Open Dist k) (by kernel_rfl) (s_l5Farthest_vc Open Dist k hf hk hw.1.1 hw.1.2.1.1 hw.1.2.1.2) (by kernel_rfl)
def s_l5Farthest_orc : List D → Orc := orcN [none, none] fun ds => match ds with
  | [.agg [.sl (.ints Open), .sl (.rows Dist)], .int .i64 k] => some (.one (.d (.sl (.ints (fcRun Dist (min k.toNat Dist.length) [])))))
  | _ => none
abbrev i_Field_farthest_JJ0 (Open : List Int) (Dist : List (List Int)) (k : Int) (out : List Int) : Prop := (FcOk Dist out) ∧ (out.length ≤ min k.toNat Dist.length) ∧ (fcRun Dist (min k.toNat Dist.length - out.length) out = fcRun Dist (min k.toNat Dist.length) [])
abbrev i_Field_farthest_mJ0 (Open : List Int) (Dist : List (List Int)) (k : Int) (out : List Int) : Nat := (min k.toNat Dist.length - out.length)
abbrev i_Field_farthest_JJ1 (Open : List Int) (Dist : List (List Int)) (k : Int) (out : List Int) (best : Int) (most : Int) (i : Int) : Prop := (0 ≤ i) ∧ (i ≤ (Dist.length : Int)) ∧ (best = max 0 (farTo Dist out i.toNat)) ∧ (most = if farTo Dist out i.toNat < 0 then -1 else away Dist (farTo Dist out i.toNat) out)
abbrev i_Field_farthest_mJ1 (Open : List Int) (Dist : List (List Int)) (k : Int) (out : List Int) (best : Int) (most : Int) (i : Int) : Nat := (Dist.length - i).toNat
abbrev i_Field_farthest_JA1 (Open : List Int) (Dist : List (List Int)) (k : Int) (out : List Int) (best : Int) : Prop := (best = max 0 (farTo Dist out Dist.length))
abbrev i_Field_farthest_JJ2 (Open : List Int) (Dist : List (List Int)) (k : Int) (out : List Int) (best : Int) (most : Int) (i : Int) (own : Int) (j : Int) : Prop := (0 ≤ j) ∧ (j ≤ (out.length : Int)) ∧ (own = awayTo Dist i out j.toNat)
abbrev i_Field_farthest_mJ2 (Open : List Int) (Dist : List (List Int)) (k : Int) (out : List Int) (best : Int) (most : Int) (i : Int) (own : Int) (j : Int) : Nat := (out.length - j).toNat
def i_Field_farthest_C (f : FuncId) (ds : List D) : Orc := bif Nat.beq f 124 then slices_Contains_int_int__orc ds else bif Nat.beq f 178 then i_Field_gap_orc ds else .no
def i_Field_farthest_A (Open : List Int) (Dist : List (List Int)) (k : Int) : Ann := .two (.none) (.two (.none) (.two (.loop (cut1 (fun (out : List Int) => i_Field_farthest_JJ0 Open Dist k out) (fun (out : List Int) => [(1, .d false (.int .i64 k)), (2, .ptr 2 0), (5, .own 1000000 out.length)]) (fun (out : List Int) => [(1000000, .arr true 3 (.ints out)), (2, .box 44 [.d false (.sl (.ints Open)), .d false (.sl (.rows Dist))])])) (fun g => i_Field_farthest_mJ0 Open Dist k g) (fun g => (fun (out : List Int) => .two (.none) (.two (.none) (.cut (.two (.none) (.loop (cut3 (fun (best : Int) (most : Int) (i : Int) => i_Field_farthest_JJ1 Open Dist k out best most i) (fun (best : Int) (most : Int) (i : Int) => [(1, .d false (.int .i64 k)), (2, .ptr 2 0), (5, .own 1000000 out.length), (6, .d true (.int .i64 best)), (7, .d true (.int .i64 most)), (23, .d true (.int .i64 (Dist.length : Int))), (24, .d true (.int .i64 i))]) (fun (best : Int) (most : Int) (i : Int) => [(2, .box 44 [.d false (.sl (.ints Open)), .d false (.sl (.rows Dist))]), (1000000, .arr true 3 (.ints out))])) (fun g => i_Field_farthest_mJ1 Open Dist k out g.1 g.2.1 g.2.2) (fun g => (fun (best : Int) (most : Int) (i : Int) => .two (.none) (.two (.none) (.two (.two (.none) (.two (.none) (.two (.none) (.two (.two (.none) (.loop (cut2 (fun (own : Int) (j : Int) => i_Field_farthest_JJ2 Open Dist k out best most i own j) (fun (own : Int) (j : Int) => [(1, .d false (.int .i64 k)), (2, .ptr 2 0), (5, .own 1000000 out.length), (6, .d true (.int .i64 best)), (7, .d true (.int .i64 most)), (8, .d true (.int .i64 i)), (9, .d true (.int .i64 own)), (23, .d true (.int .i64 (Dist.length : Int))), (24, .d true (.int .i64 i)), (30, .own 1000000 out.length), (31, .d true (.int .i64 (out.length : Int))), (32, .d true (.int .i64 j))]) (fun (own : Int) (j : Int) => [(2, .box 44 [.d false (.sl (.ints Open)), .d false (.sl (.rows Dist))]), (1000000, .arr true 3 (.ints out))])) (fun g => i_Field_farthest_mJ2 Open Dist k out best most i g.1 g.2) (fun _ => .none))) (.none))))) (.none)))) (g.1) (g.2.1) (g.2.2)))) (cut1 (fun (best : Int) => i_Field_farthest_JA1 Open Dist k out best) (fun (best : Int) => [(1, .d false (.int .i64 k)), (2, .ptr 2 0), (5, .own 1000000 out.length), (6, .d true (.int .i64 best))]) (fun (best : Int) => [(2, .box 44 [.d false (.sl (.ints Open)), .d false (.sl (.rows Dist))]), (1000000, .arr true 3 (.ints out))])) (fun _ => .none)))) g)) (.none)))
def i_Field_farthest_P (Open : List Int) (Dist : List (List Int)) (k : Int) : Prop :=
  ((∃ out' : List Int, (i_Field_farthest_JJ0 Open Dist k out') ∧ (k = k) ∧ ((0 : Nat) = out'.length) ∧ ([] = out') ∧ (Open = Open) ∧ (Dist = Dist)) ∧ (∀ out : List Int, (i_Field_farthest_JJ0 Open Dist k out) → (((decide ((out.length : Int) < (min k (Dist.length : Int)))) = true → ((((∃ best' : Int, ∃ most' : Int, ∃ i' : Int, (i_Field_farthest_JJ1 Open Dist k out best' most' i') ∧ (k = k) ∧ (out.length = out.length) ∧ ((0 : Int) = best') ∧ (((-1) : Int) = most') ∧ ((Dist.length : Int) = (Dist.length : Int)) ∧ ((0 : Int) = i') ∧ (Open = Open) ∧ (Dist = Dist) ∧ (out = out)) ∧ (∀ best : Int, ∀ most : Int, ∀ i : Int, (i_Field_farthest_JJ1 Open Dist k out best most i) → (((decide (i < (Dist.length : Int))) = true → (out.length = out.length) ∧ (PC Try.prog 124 [.sl (.ints out), .int .i64 i] (.one (.d (.bool (out.contains i))))) ∧ (((out.contains i) = true → (-9223372036854775808 ≤ (i + 1) ∧ (i + 1) ≤ 9223372036854775807) ∧ (∃ best' : Int, ∃ most' : Int, ∃ i' : Int, (i_Field_farthest_JJ1 Open Dist k out best' most' i') ∧ (i_Field_farthest_mJ1 Open Dist k out best' most' i' < i_Field_farthest_mJ1 Open Dist k out best most i) ∧ (k = k) ∧ (out.length = out.length) ∧ (best = best') ∧ (most = most') ∧ ((Dist.length : Int) = (Dist.length : Int)) ∧ ((i + 1) = i') ∧ (Open = Open) ∧ (Dist = Dist) ∧ (out = out))) ∧ ((out.contains i) = false → ((∃ own' : Int, ∃ j' : Int, (i_Field_farthest_JJ2 Open Dist k out best most i own' j') ∧ (k = k) ∧ (out.length = out.length) ∧ (best = best) ∧ (most = most) ∧ (i = i) ∧ ((199 : Int) = own') ∧ ((Dist.length : Int) = (Dist.length : Int)) ∧ (i = i) ∧ (out.length = out.length) ∧ ((out.length : Int) = (out.length : Int)) ∧ ((0 : Int) = j') ∧ (Open = Open) ∧ (Dist = Dist) ∧ (out = out)) ∧ (∀ own : Int, ∀ j : Int, (i_Field_farthest_JJ2 Open Dist k out best most i own j) → (((decide (j < (out.length : Int))) = true → ((0 : Int) ≤ j) ∧ ((j : Int) < (out.length : Int)) ∧ (j.toNat < out.length) ∧ (PC Try.prog 178 [.agg [.sl (.ints Open), .sl (.rows Dist)], .int .i64 i, .int .i64 (out.getD j.toNat 0)] (.one (.d (.int .i64 (gapAt Dist i (out.getD j.toNat 0)))))) ∧ (-9223372036854775808 ≤ (j + 1) ∧ (j + 1) ≤ 9223372036854775807) ∧ (∃ own' : Int, ∃ j' : Int, (i_Field_farthest_JJ2 Open Dist k out best most i own' j') ∧ (i_Field_farthest_mJ2 Open Dist k out best most i own' j' < i_Field_farthest_mJ2 Open Dist k out best most i own j) ∧ (k = k) ∧ (out.length = out.length) ∧ (best = best) ∧ (most = most) ∧ (i = i) ∧ ((min own (gapAt Dist i (out.getD j.toNat 0))) = own') ∧ ((Dist.length : Int) = (Dist.length : Int)) ∧ (i = i) ∧ (out.length = out.length) ∧ ((out.length : Int) = (out.length : Int)) ∧ ((j + 1) = j') ∧ (Open = Open) ∧ (Dist = Dist) ∧ (out = out))) ∧ ((decide (j < (out.length : Int))) = false → (((decide (own > most)) = true → (-9223372036854775808 ≤ (i + 1) ∧ (i + 1) ≤ 9223372036854775807) ∧ (∃ best' : Int, ∃ most' : Int, ∃ i' : Int, (i_Field_farthest_JJ1 Open Dist k out best' most' i') ∧ (i_Field_farthest_mJ1 Open Dist k out best' most' i' < i_Field_farthest_mJ1 Open Dist k out best most i) ∧ (k = k) ∧ (out.length = out.length) ∧ (i = best') ∧ (own = most') ∧ ((Dist.length : Int) = (Dist.length : Int)) ∧ ((i + 1) = i') ∧ (Open = Open) ∧ (Dist = Dist) ∧ (out = out))) ∧ ((decide (own > most)) = false → (-9223372036854775808 ≤ (i + 1) ∧ (i + 1) ≤ 9223372036854775807) ∧ (∃ best' : Int, ∃ most' : Int, ∃ i' : Int, (i_Field_farthest_JJ1 Open Dist k out best' most' i') ∧ (i_Field_farthest_mJ1 Open Dist k out best' most' i' < i_Field_farthest_mJ1 Open Dist k out best most i) ∧ (k = k) ∧ (out.length = out.length) ∧ (best = best') ∧ (most = most') ∧ ((Dist.length : Int) = (Dist.length : Int)) ∧ ((i + 1) = i') ∧ (Open = Open) ∧ (Dist = Dist) ∧ (out = out))))))))))) ∧ ((decide (i < (Dist.length : Int))) = false → (∃ best' : Int, (i_Field_farthest_JA1 Open Dist k out best') ∧ (k = k) ∧ (out.length = out.length) ∧ (best = best') ∧ (Open = Open) ∧ (Dist = Dist) ∧ (out = out))))))) ∧ (∀ best : Int, (i_Field_farthest_JA1 Open Dist k out best) → (out.length = out.length) ∧ ((1 : Nat) = 1) ∧ ((out.length + 1) * 8 ≤ 140737488355328) ∧ (∃ out' : List Int, (i_Field_farthest_JJ0 Open Dist k out') ∧ (i_Field_farthest_mJ0 Open Dist k out' < i_Field_farthest_mJ0 Open Dist k out) ∧ (k = k) ∧ ((out.length + 1) = out'.length) ∧ ((out ++ [best]) = out') ∧ (Open = Open) ∧ (Dist = Dist))))) ∧ ((decide ((out.length : Int) < (min k (Dist.length : Int)))) = false → ((out.length = out.length) ∧ ((out : List Int) = fcRun Dist (min k.toNat Dist.length) []))))))
theorem i_Field_farthest_vc (Open : List Int) (Dist : List (List Int)) (k : Int) (hf : goodField Open Dist = true) (hk : 1 ≤ k ∧ k ≤ (Open.length : Int)) (w_Open : (Open.length : Int) ≤ 9223372036854775807) (w_Dist : (Dist.length : Int) ≤ 9223372036854775807) (v_Dist : ∀ x9 ∈ Dist, (x9.length : Int) ≤ 9223372036854775807) : i_Field_farthest_P Open Dist k := by
  unfold i_Field_farthest_P
  obtain ⟨g1, g2, g3⟩ := gf_open hf
  refine ⟨?_, ?_⟩
  · refine ⟨([]), ?_⟩
    refine ⟨?_, rfl, rfl, ?_, rfl, rfl⟩
    · refine ⟨?_, ?_, ?_⟩
      · exact fcOk_nil Dist
      · exact Nat.zero_le _
      · rfl
    · first | omega | rfl | (intro hg; simp only [nrmT] at hg; omega) | (intro g1 g2; simp [g1, g2]; done) | (intro g1; simp at g1 ⊢; simp [g1]; done) | (simp only [nrmT] at *; omega) | (simp at * <;> omega) | (simp_all <;> omega) | (simp_all; done)
  · intro out hJ
    obtain ⟨h1, h2, h3⟩ := hJ
    refine ⟨?_, ?_⟩
    · intro b1
      try simp only [nrmT] at b1
      refine ⟨?_, ?_⟩
      · refine ⟨?_, ?_⟩
        · refine ⟨0, (-1), 0, ?_⟩
          refine ⟨?_, rfl, rfl, rfl, rfl, rfl, rfl, rfl, rfl, rfl⟩
          · refine ⟨?_, ?_, ?_, ?_⟩
            · first | omega | rfl | (intro hg; simp only [nrmT] at hg; omega) | (intro g1 g2; simp [g1, g2]; done) | (intro g1; simp at g1 ⊢; simp [g1]; done) | (simp only [nrmT] at *; omega) | (simp at * <;> omega) | (simp_all <;> omega) | (simp_all; done)
            · first | omega | rfl | (intro hg; simp only [nrmT] at hg; omega) | (intro g1 g2; simp [g1, g2]; done) | (intro g1; simp at g1 ⊢; simp [g1]; done) | (simp only [nrmT] at *; omega) | (simp at * <;> omega) | (simp_all <;> omega) | (simp_all; done)
            · rfl
            · rfl
        · intro best most i hJ
          obtain ⟨k1, k2, k3, k4⟩ := hJ
          refine ⟨?_, ?_⟩
          · intro b2
            try simp only [nrmT] at b2
            refine ⟨rfl, slices_Contains_int_int__pc out i, ?_, ?_⟩
            · intro b3
              try simp only [nrmT] at b3
              refine ⟨?_, ?_⟩
              · first | omega | rfl | (intro hg; simp only [nrmT] at hg; omega) | (intro g1 g2; simp [g1, g2]; done) | (intro g1; simp at g1 ⊢; simp [g1]; done) | (simp only [nrmT] at *; omega) | (simp at * <;> omega) | (simp_all <;> omega) | (simp_all; done)
              · refine ⟨best, most, (i + 1), ?_⟩
                refine ⟨?_, ?_, rfl, rfl, rfl, rfl, rfl, rfl, rfl, rfl, rfl⟩
                · refine ⟨?_, ?_, ?_, ?_⟩
                  · first | omega | rfl | (intro hg; simp only [nrmT] at hg; omega) | (intro g1 g2; simp [g1, g2]; done) | (intro g1; simp at g1 ⊢; simp [g1]; done) | (simp only [nrmT] at *; omega) | (simp at * <;> omega) | (simp_all <;> omega) | (simp_all; done)
                  · first | omega | rfl | (intro hg; simp only [nrmT] at hg; omega) | (intro g1 g2; simp [g1, g2]; done) | (intro g1; simp at g1 ⊢; simp [g1]; done) | (simp only [nrmT] at *; omega) | (simp at * <;> omega) | (simp_all <;> omega) | (simp_all; done)
                  · have e : farTo Dist out (i + 1).toNat = farTo Dist out i.toNat := by
                      rw [show (i + 1).toNat = i.toNat + 1 by omega, farTo_succ]
                      unfold farF
                      rw [show ((i.toNat : Nat) : Int) = i by omega, b3]
                      simp
                    rw [e]; exact k3
                  · have e : farTo Dist out (i + 1).toNat = farTo Dist out i.toNat := by
                      rw [show (i + 1).toNat = i.toNat + 1 by omega, farTo_succ]
                      unfold farF
                      rw [show ((i.toNat : Nat) : Int) = i by omega, b3]
                      simp
                    rw [e]; exact k4
                · first | (show _ < _; omega) | (simp only [i_Field_farthest_mJ1]; omega) | (simp only [i_Field_farthest_mJ1] at *; simp at *; omega)
            · intro b4
              try simp only [nrmT] at b4
              refine ⟨?_, ?_⟩
              · refine ⟨199, 0, ?_⟩
                refine ⟨?_, rfl, rfl, rfl, rfl, rfl, rfl, rfl, rfl, rfl, rfl, rfl, rfl, rfl, rfl⟩
                · refine ⟨?_, ?_, ?_⟩
                  · first | omega | rfl | (intro hg; simp only [nrmT] at hg; omega) | (intro g1 g2; simp [g1, g2]; done) | (intro g1; simp at g1 ⊢; simp [g1]; done) | (simp only [nrmT] at *; omega) | (simp at * <;> omega) | (simp_all <;> omega) | (simp_all; done)
                  · first | omega | rfl | (intro hg; simp only [nrmT] at hg; omega) | (intro g1 g2; simp [g1, g2]; done) | (intro g1; simp at g1 ⊢; simp [g1]; done) | (simp only [nrmT] at *; omega) | (simp at * <;> omega) | (simp_all <;> omega) | (simp_all; done)
                  · rfl
              · intro own j hJ
                obtain ⟨m1, m2, m3⟩ := hJ
                refine ⟨?_, ?_⟩
                · intro b5
                  try simp only [nrmT] at b5
                  refine ⟨?_, ?_, ?_, ?_, ?_, ?_⟩
                  · first | omega | rfl | (intro hg; simp only [nrmT] at hg; omega) | (intro g1 g2; simp [g1, g2]; done) | (intro g1; simp at g1 ⊢; simp [g1]; done) | (simp only [nrmT] at *; omega) | (simp at * <;> omega) | (simp_all <;> omega) | (simp_all; done)
                  · first | omega | rfl | (intro hg; simp only [nrmT] at hg; omega) | (intro g1 g2; simp [g1, g2]; done) | (intro g1; simp at g1 ⊢; simp [g1]; done) | (simp only [nrmT] at *; omega) | (simp at * <;> omega) | (simp_all <;> omega) | (simp_all; done)
                  · first | omega | rfl | (intro hg; simp only [nrmT] at hg; omega) | (intro g1 g2; simp [g1, g2]; done) | (intro g1; simp at g1 ⊢; simp [g1]; done) | (simp only [nrmT] at *; omega) | (simp at * <;> omega) | (simp_all <;> omega) | (simp_all; done)
                  · refine i_Field_gap_pc Open Dist i (out.getD j.toNat 0) ?_ ?_ ?_
                    · first | omega | rfl | (intro hg; simp only [nrmT] at hg; omega) | (intro g1 g2; simp [g1, g2]; done) | (intro g1; simp at g1 ⊢; simp [g1]; done) | (simp only [nrmT] at *; omega) | (simp at * <;> omega) | (simp_all <;> omega) | (simp_all; done)
                    · first | omega | rfl | (intro hg; simp only [nrmT] at hg; omega) | (intro g1 g2; simp [g1, g2]; done) | (intro g1; simp at g1 ⊢; simp [g1]; done) | (simp only [nrmT] at *; omega) | (simp at * <;> omega) | (simp_all <;> omega) | (simp_all; done)
                    · exact h1.inR _ (getD_mem (d := 0) (by omega))
                  · first | omega | rfl | (intro hg; simp only [nrmT] at hg; omega) | (intro g1 g2; simp [g1, g2]; done) | (intro g1; simp at g1 ⊢; simp [g1]; done) | (simp only [nrmT] at *; omega) | (simp at * <;> omega) | (simp_all <;> omega) | (simp_all; done)
                  · refine ⟨(min own (gapAt Dist i (out.getD j.toNat 0))), (j + 1), ?_⟩
                    refine ⟨?_, ?_, rfl, rfl, rfl, rfl, rfl, rfl, rfl, rfl, rfl, rfl, rfl, rfl, rfl, rfl⟩
                    · refine ⟨?_, ?_, ?_⟩
                      · first | omega | rfl | (intro hg; simp only [nrmT] at hg; omega) | (intro g1 g2; simp [g1, g2]; done) | (intro g1; simp at g1 ⊢; simp [g1]; done) | (simp only [nrmT] at *; omega) | (simp at * <;> omega) | (simp_all <;> omega) | (simp_all; done)
                      · first | omega | rfl | (intro hg; simp only [nrmT] at hg; omega) | (intro g1 g2; simp [g1, g2]; done) | (intro g1; simp at g1 ⊢; simp [g1]; done) | (simp only [nrmT] at *; omega) | (simp at * <;> omega) | (simp_all <;> omega) | (simp_all; done)
                      · rw [m3, show (j + 1).toNat = j.toNat + 1 by omega, awayTo_succ]
                    · first | (show _ < _; omega) | (simp only [i_Field_farthest_mJ2]; omega) | (simp only [i_Field_farthest_mJ2] at *; simp at *; omega)
                · intro b6
                  try simp only [nrmT] at b6
                  refine ⟨?_, ?_⟩
                  · intro b7
                    try simp only [nrmT] at b7
                    refine ⟨?_, ?_⟩
                    · first | omega | rfl | (intro hg; simp only [nrmT] at hg; omega) | (intro g1 g2; simp [g1, g2]; done) | (intro g1; simp at g1 ⊢; simp [g1]; done) | (simp only [nrmT] at *; omega) | (simp at * <;> omega) | (simp_all <;> omega) | (simp_all; done)
                    · refine ⟨i, own, (i + 1), ?_⟩
                      refine ⟨?_, ?_, rfl, rfl, rfl, rfl, rfl, rfl, rfl, rfl, rfl⟩
                      · refine ⟨?_, ?_, ?_, ?_⟩
                        · first | omega | rfl | (intro hg; simp only [nrmT] at hg; omega) | (intro g1 g2; simp [g1, g2]; done) | (intro g1; simp at g1 ⊢; simp [g1]; done) | (simp only [nrmT] at *; omega) | (simp at * <;> omega) | (simp_all <;> omega) | (simp_all; done)
                        · first | omega | rfl | (intro hg; simp only [nrmT] at hg; omega) | (intro g1 g2; simp [g1, g2]; done) | (intro g1; simp at g1 ⊢; simp [g1]; done) | (simp only [nrmT] at *; omega) | (simp at * <;> omega) | (simp_all <;> omega) | (simp_all; done)
                        · have ow : own = away Dist i out := by unfold away; rw [m3, show j.toNat = out.length by omega]
                          have hnc : out.contains i = false := by assumption
                          have e : farTo Dist out (i + 1).toNat = i := by
                            rw [show (i + 1).toNat = i.toNat + 1 by omega, farTo_succ]
                            unfold farF
                            rw [show ((i.toNat : Nat) : Int) = i by omega, hnc]
                            by_cases hlt : farTo Dist out i.toNat < 0
                            · rw [decide_eq_true hlt]; simp
                            · rw [if_neg hlt] at k4
                              rw [decide_eq_true (show away Dist i out > away Dist (farTo Dist out i.toNat) out by omega)]
                              simp
                          rw [e]; omega
                        · have ow : own = away Dist i out := by unfold away; rw [m3, show j.toNat = out.length by omega]
                          have hnc : out.contains i = false := by assumption
                          have e : farTo Dist out (i + 1).toNat = i := by
                            rw [show (i + 1).toNat = i.toNat + 1 by omega, farTo_succ]
                            unfold farF
                            rw [show ((i.toNat : Nat) : Int) = i by omega, hnc]
                            by_cases hlt : farTo Dist out i.toNat < 0
                            · rw [decide_eq_true hlt]; simp
                            · rw [if_neg hlt] at k4
                              rw [decide_eq_true (show away Dist i out > away Dist (farTo Dist out i.toNat) out by omega)]
                              simp
                          rw [e, if_neg (by omega), ow]
                      · first | (show _ < _; omega) | (simp only [i_Field_farthest_mJ1]; omega) | (simp only [i_Field_farthest_mJ1] at *; simp at *; omega)
                  · intro b8
                    try simp only [nrmT] at b8
                    refine ⟨?_, ?_⟩
                    · first | omega | rfl | (intro hg; simp only [nrmT] at hg; omega) | (intro g1 g2; simp [g1, g2]; done) | (intro g1; simp at g1 ⊢; simp [g1]; done) | (simp only [nrmT] at *; omega) | (simp at * <;> omega) | (simp_all <;> omega) | (simp_all; done)
                    · refine ⟨best, most, (i + 1), ?_⟩
                      refine ⟨?_, ?_, rfl, rfl, rfl, rfl, rfl, rfl, rfl, rfl, rfl⟩
                      · refine ⟨?_, ?_, ?_, ?_⟩
                        · first | omega | rfl | (intro hg; simp only [nrmT] at hg; omega) | (intro g1 g2; simp [g1, g2]; done) | (intro g1; simp at g1 ⊢; simp [g1]; done) | (simp only [nrmT] at *; omega) | (simp at * <;> omega) | (simp_all <;> omega) | (simp_all; done)
                        · first | omega | rfl | (intro hg; simp only [nrmT] at hg; omega) | (intro g1 g2; simp [g1, g2]; done) | (intro g1; simp at g1 ⊢; simp [g1]; done) | (simp only [nrmT] at *; omega) | (simp at * <;> omega) | (simp_all <;> omega) | (simp_all; done)
                        · have ow : own = away Dist i out := by unfold away; rw [m3, show j.toNat = out.length by omega]
                          have hnc : out.contains i = false := by assumption
                          have hbd := (awayTo_bound hf (c := i) (by omega) h1.inR out.length (Nat.le_refl _)).1
                          have e : farTo Dist out (i + 1).toNat = farTo Dist out i.toNat := by
                            rw [show (i + 1).toNat = i.toNat + 1 by omega, farTo_succ]
                            unfold farF
                            rw [show ((i.toNat : Nat) : Int) = i by omega, hnc]
                            by_cases hlt : farTo Dist out i.toNat < 0
                            · rw [if_pos hlt] at k4
                              unfold away at ow
                              omega
                            · rw [if_neg hlt] at k4
                              rw [decide_eq_false hlt, decide_eq_false (show ¬ away Dist i out > away Dist (farTo Dist out i.toNat) out by omega)]
                              simp
                          rw [e]; exact k3
                        · have ow : own = away Dist i out := by unfold away; rw [m3, show j.toNat = out.length by omega]
                          have hnc : out.contains i = false := by assumption
                          have hbd := (awayTo_bound hf (c := i) (by omega) h1.inR out.length (Nat.le_refl _)).1
                          have e : farTo Dist out (i + 1).toNat = farTo Dist out i.toNat := by
                            rw [show (i + 1).toNat = i.toNat + 1 by omega, farTo_succ]
                            unfold farF
                            rw [show ((i.toNat : Nat) : Int) = i by omega, hnc]
                            by_cases hlt : farTo Dist out i.toNat < 0
                            · rw [if_pos hlt] at k4
                              unfold away at ow
                              omega
                            · rw [if_neg hlt] at k4
                              rw [decide_eq_false hlt, decide_eq_false (show ¬ away Dist i out > away Dist (farTo Dist out i.toNat) out by omega)]
                              simp
                          rw [e]; exact k4
                      · first | (show _ < _; omega) | (simp only [i_Field_farthest_mJ1]; omega) | (simp only [i_Field_farthest_mJ1] at *; simp at *; omega)
          · intro b9
            try simp only [nrmT] at b9
            refine ⟨best, ?_⟩
            refine ⟨?_, rfl, rfl, rfl, rfl, rfl, rfl⟩
            · unfold i_Field_farthest_JA1
              rw [k3, show i.toNat = Dist.length by omega]
      · intro best hJ
        have k5 := hJ
        refine ⟨rfl, rfl, ?_, ?_⟩
        · omega
        · refine ⟨(out ++ [best]), ?_⟩
          refine ⟨?_, ?_, rfl, ?_, rfl, rfl, rfl⟩
          · refine ⟨?_, ?_, ?_⟩
            · have eb : best = farTo Dist out Dist.length := by have := fc_next h1 (by omega); omega
              rw [eb]; exact fcOk_app h1 (by omega)
            · rw [List.length_append]; simp only [List.length_cons, List.length_nil]; omega
            · have eb : best = farTo Dist out Dist.length := by have := fc_next h1 (by omega); omega
              rw [← h3]
              have e : min k.toNat Dist.length - out.length = (min k.toNat Dist.length - (out ++ [best]).length) + 1 := by
                rw [List.length_append]; simp only [List.length_cons, List.length_nil]; omega
              rw [e]
              show _ = fcRun Dist _ (out ++ [farTo Dist out Dist.length])
              rw [← eb]
          · show min k.toNat Dist.length - (out ++ [best]).length < min k.toNat Dist.length - out.length
            rw [List.length_append]; simp only [List.length_cons, List.length_nil]; omega
          · simp
    · intro b10
      try simp only [nrmT] at b10
      refine ⟨rfl, ?_⟩
      · rw [← h3, show min k.toNat Dist.length - out.length = 0 by omega]; rfl
theorem i_Field_farthest_pc (Open : List Int) (Dist : List (List Int)) (k : Int) (hf : goodField Open Dist = true) (hk : 1 ≤ k ∧ k ≤ (Open.length : Int)) : PC Try.prog 128 [.agg [.sl (.ints Open), .sl (.rows Dist)], .int .i64 k] (.one (.own 3 (.ints (fcRun Dist (min k.toNat Dist.length) [])))) :=
  pc_wf @Try.call128 fun hw => pc_by (by kernel_rfl) Try.func128 @Try.call128 (by kernel_rfl) i_Field_farthest_C (i_Field_farthest_A Open Dist k) (by kernel_rfl) (i_Field_farthest_vc Open Dist k hf hk hw.1.1 hw.1.2.1.1 hw.1.2.1.2) (by kernel_rfl)
def i_Field_farthest_orc : List D → Orc := orcN [none, none] fun ds => match ds with
  | [.agg [.sl (.ints Open), .sl (.rows Dist)], .int .i64 k] => some (.one (.own 3 (.ints (fcRun Dist (min k.toNat Dist.length) []))))
  | _ => none
theorem one_shl (n : Nat) : (1 : Int) * 2 ^ ((n : Int)).toNat = ((2 ^ n : Nat) : Int) := by
  rw [Int.toNat_natCast]; simp
def minF (xs : List Int) (b : Int) (k : Nat) : Int := min b (xs.getD k 0)
def minTo (xs : List Int) (k : Nat) : Int := foldTo (minF xs) (xs.getD 0 0) k
def minL (xs : List Int) : Int := minTo xs xs.length
theorem minTo_succ (xs : List Int) (k : Nat) : minTo xs (k + 1) = min (minTo xs k) (xs.getD k 0) := rfl
theorem minTo_le (xs : List Int) : ∀ k, 0 < k → (∀ j, j < k → minTo xs k ≤ xs.getD j 0) ∧ ∃ j, j < k ∧ minTo xs k = xs.getD j 0
  | 0, h => by omega
  | k + 1, _ => by
    rw [minTo_succ]
    by_cases hk : 0 < k
    · obtain ⟨h1, j, h2, h3⟩ := minTo_le xs k hk
      refine ⟨fun i hi => ?_, ?_⟩
      · by_cases e : i = k
        · subst e; omega
        · have := h1 i (by omega); omega
      · by_cases e : minTo xs k ≤ xs.getD k 0
        · exact ⟨j, by omega, by omega⟩
        · exact ⟨k, by omega, by omega⟩
    · have : k = 0 := by omega
      subst this
      have e : minTo xs 0 = xs.getD 0 0 := rfl
      refine ⟨fun i hi => ?_, 0, by omega, by omega⟩
      have : i = 0 := by omega
      subst this; omega
/-- The first place with the least number. -/
def argF (row : List Int) (b : Int) (k : Nat) : Int := if row.getD k 0 < row.getD b.toNat 0 then (k : Int) else b
def argTo (row : List Int) (k : Nat) : Int := foldTo (argF row) 0 k
theorem argTo_succ (row : List Int) (k : Nat) : argTo row (k + 1) = argF row (argTo row k) k := rfl
theorem argTo_ok (row : List Int) : ∀ k, 0 < k → 0 ≤ argTo row k ∧ argTo row k < k ∧ (∀ j, j < k → row.getD (argTo row k).toNat 0 ≤ row.getD j 0) ∧ ∀ j, j < (argTo row k).toNat → row.getD (argTo row k).toNat 0 < row.getD j 0
  | 0, h => by omega
  | k + 1, _ => by
    rw [argTo_succ]
    by_cases hk : 0 < k
    · obtain ⟨h1, h2, h3, h4⟩ := argTo_ok row k hk
      unfold argF
      by_cases e : row.getD k 0 < row.getD (argTo row k).toNat 0
      · rw [if_pos e, Int.toNat_natCast]
        refine ⟨by omega, by omega, fun j hj => ?_, fun j hj => ?_⟩
        · by_cases ej : j = k
          · subst ej; omega
          · have := h3 j (by omega); omega
        · have := h3 j (by omega); omega
      · rw [if_neg e]
        refine ⟨h1, by omega, fun j hj => ?_, h4⟩
        by_cases ej : j = k
        · subst ej; omega
        · exact h3 j (by omega)
    · have : k = 0 := by omega
      subst this
      have e : argF row (argTo row 0) 0 = 0 := by
        show argF row 0 0 = 0
        unfold argF; split <;> rfl
      rw [e]
      refine ⟨by omega, by omega, fun j hj => ?_, fun j hj => by simp at hj⟩
      have : j = 0 := by omega
      subst this; exact Int.le_refl _
def argM (row : List Int) : Int := argTo row row.length
theorem arg_idx {row : List Int} (h : 0 < row.length) : idxI (fun y => minL row == y) row = argM row := by
  obtain ⟨h1, h2, h3, h4⟩ := argTo_ok row row.length h
  obtain ⟨m1, j, m2, m3⟩ := minTo_le row row.length h
  have e : minL row = row.getD (argM row).toNat 0 := by
    have a1 := m1 (argM row).toNat (by unfold argM; omega)
    have a2 := h3 j m2
    unfold minL argM at *
    omega
  refine (idx_found (d := 0) h1 h2 (fun k hk => ?_) ?_).symm
  · have := h4 k hk
    rw [e]
    unfold argM
    simp only [beq_eq_false_iff_ne]
    omega
  · rw [e]
    unfold argM
    simp
theorem allN_get {n k : Nat} (h : k < n) : (allN n).getD k 0 = (k : Int) := by
  unfold allN members
  have e : (List.range n).filter (fun _ => true) = List.range n := List.filter_eq_self.2 fun _ _ => rfl
  rw [e]
  simp [h]
theorem allN_len (n : Nat) : (allN n).length = n := by
  unfold allN members
  have e : (List.range n).filter (fun _ => true) = List.range n := List.filter_eq_self.2 fun _ _ => rfl
  rw [e]; simp
theorem site_arg {row : List Int} {n : Nat} (hn : 0 < n) : siteTo row (allN n) n = argTo row n := by
  have key : ∀ k, k ≤ n → siteTo row (allN n) k = argTo row k := by
    intro k hk
    induction k with
    | zero => exact allN_get hn
    | succ k ih =>
      rw [siteTo_succ, argTo_succ, ih (by omega)]
      unfold siteF argF
      rw [allN_get (by omega), Int.toNat_natCast]
  exact key n (Nat.le_refl _)
def sitB (Dist : List (List Int)) (clients : List Int) (k : Nat) : Nat := foldTo (fun s j => s ||| 2 ^ (argM (Dist.getD (clients.getD j 0).toNat [])).toNat) 0 k
def sitL (Dist : List (List Int)) (clients : List Int) (k : Nat) : List Int := foldTo (fun l j => putL l (argM (Dist.getD (clients.getD j 0).toNat []))) [] k
def sitesOf (Dist : List (List Int)) (clients : List Int) : List Int := if clients.length = 0 then [0] else sitL Dist clients clients.length
theorem sitL_mem {Dist : List (List Int)} {clients : List Int} {y : Int} : ∀ k, y ∈ sitL Dist clients k ↔ ∃ j, j < k ∧ argM (Dist.getD (clients.getD j 0).toNat []) = y
  | 0 => by simp [sitL, foldTo]
  | k + 1 => by
    have e : sitL Dist clients (k + 1) = putL (sitL Dist clients k) (argM (Dist.getD (clients.getD k 0).toNat [])) := rfl
    rw [e, mem_putL, sitL_mem k]
    constructor
    · rintro (h | ⟨j, h1, h2⟩)
      · exact ⟨k, by omega, h.symm⟩
      · exact ⟨j, by omega, h2⟩
    · rintro ⟨j, h1, h2⟩
      by_cases e : j = k
      · subst e; exact .inl h2.symm
      · exact .inr ⟨j, by omega, h2⟩
theorem sitL_asc {Dist : List (List Int)} {clients : List Int} : ∀ k, Asc (sitL Dist clients k)
  | 0 => List.Pairwise.nil
  | k + 1 => asc_putL (sitL_asc k)
theorem sitL_len {Dist : List (List Int)} {clients : List Int} : ∀ k, (sitL Dist clients k).length ≤ k
  | 0 => Nat.le_refl _
  | k + 1 => by
    have e : sitL Dist clients (k + 1) = putL (sitL Dist clients k) (argM (Dist.getD (clients.getD k 0).toNat [])) := rfl
    have := putL_len (sitL Dist clients k) (argM (Dist.getD (clients.getD k 0).toNat []))
    have := sitL_len (Dist := Dist) (clients := clients) k
    rw [e]; omega
theorem sitB_bit {Dist : List (List Int)} {clients : List Int} {x : Nat} : ∀ k, (sitB Dist clients k).testBit x = true ↔ ∃ j, j < k ∧ (argM (Dist.getD (clients.getD j 0).toNat [])).toNat = x
  | 0 => by simp [sitB, foldTo]
  | k + 1 => by
    have e : sitB Dist clients (k + 1) = sitB Dist clients k ||| 2 ^ (argM (Dist.getD (clients.getD k 0).toNat [])).toNat := rfl
    rw [e, Nat.testBit_or, Bool.or_eq_true, sitB_bit k, Nat.testBit_two_pow]
    simp only [decide_eq_true_eq]
    constructor
    · rintro (⟨j, h1, h2⟩ | h)
      · exact ⟨j, by omega, h2⟩
      · exact ⟨k, by omega, h⟩
    · rintro ⟨j, h1, h2⟩
      by_cases e : j = k
      · subst e; exact .inr h2
      · exact .inl ⟨j, by omega, h2⟩
theorem argM_in {Open : List Int} {Dist : List (List Int)} (hf : goodField Open Dist = true) {c : Int} (hc : 0 ≤ c ∧ c < (Dist.length : Int)) : 0 ≤ argM (Dist.getD c.toNat []) ∧ argM (Dist.getD c.toNat []) < (Open.length : Int) ∧ (Dist.getD c.toNat []).length = Open.length := by
  obtain ⟨g1, g2, g3⟩ := gf_open hf
  obtain ⟨rl, _⟩ := gf_row (i := c.toNat) hf (by omega)
  obtain ⟨h1, h2, _⟩ := argTo_ok (Dist.getD c.toNat []) (Dist.getD c.toNat []).length (by omega)
  unfold argM
  omega
theorem sitB_lt {Open : List Int} {Dist : List (List Int)} (hf : goodField Open Dist = true) {clients : List Int} (hc : ∀ c ∈ clients, 0 ≤ c ∧ c < (Dist.length : Int)) : ∀ k, k ≤ clients.length → sitB Dist clients k < 256
  | 0, _ => (by decide : (0 : Nat) < 256)
  | k + 1, hk => by
    have e : sitB Dist clients (k + 1) = sitB Dist clients k ||| 2 ^ (argM (Dist.getD (clients.getD k 0).toNat [])).toNat := rfl
    have h1 := argM_in hf (hc _ (getD_mem (d := 0) (show k < clients.length by omega)))
    have h2 := gf_open hf
    rw [e]
    exact Nat.or_lt_two_pow (n := 8) (sitB_lt hf hc k (by omega)) (Nat.pow_lt_pow_right (by omega) (by omega))
end Go.Proofs.Ytijdbfbeobflnaa
