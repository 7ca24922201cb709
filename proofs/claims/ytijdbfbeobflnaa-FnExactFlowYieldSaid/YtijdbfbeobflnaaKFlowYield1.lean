/- Contracts of the functions that the law reaches. -/
import Derived.Test.YtijdbfbeobflnaaPw
import Derived.Test.YtijdbfbeobflnaaPma
import Derived.Test.YtijdbfbeobflnaaProg
import Derived.KernelRfl
set_option linter.unusedVariables false
set_option linter.unusedSimpArgs false
namespace Go.Proofs.Ytijdbfbeobflnaa
open Go

def s_l1In_C (f : FuncId) (ds : List D) : Orc := .no
def s_l1In_A (x : Int) (a : Int) (b : Int) : Ann := .none
def s_l1In_P (x : Int) (a : Int) (b : Int) : Prop :=
  ((decide (x ≥ a)) = true → (decide (x ≥ a)) = true) ∧ ((decide (x ≥ a)) = true → (decide (x ≥ a)) = true) ∧ (true = true) ∧ (((decide (x ≥ a)) = true → (decide (x ≥ a)) = true)) ∧ (((decide (x ≥ a)) = false → true = true)) ∧ (((cond (decide (x ≥ a)) (decide (x ≤ b)) false) = (inB x a b)))
theorem s_l1In_vc (x : Int) (a : Int) (b : Int)   : s_l1In_P x a b := by
  unfold s_l1In_P
  refine ⟨id, id, rfl, id, fun _ => rfl, ?_⟩
  · first | omega | rfl | (intro hg; simp only [nrmT] at hg; omega) | (intro g1 g2; simp [g1, g2]; done) | (intro g1; simp at g1 ⊢; simp [g1]; done) | (simp only [nrmT] at *; omega) | (simp at * <;> omega) | (simp_all <;> omega) | (simp_all; done) | (simp [inB]; omega) | (simp only [inB]; by_cases h : a ≤ x <;> simp_all)
theorem s_l1In_pc (x : Int) (a : Int) (b : Int)  : PC Try.prog 104 [.int .i64 x, .int .i64 a, .int .i64 b] (.one (.d (.bool (inB x a b)))) :=
  pc_wf @Try.call104 fun _ => pc_by (by kernel_rfl) Try.func104 @Try.call104 (by kernel_rfl) s_l1In_C (s_l1In_A x a b) (by kernel_rfl) (s_l1In_vc x a b) (by kernel_rfl)
def s_l1In_orc : List D → Orc := orcN [none, none, none] fun ds => match ds with
  | [.int .i64 x, .int .i64 a, .int .i64 b] => some (.one (.d (.bool (inB x a b))))
  | _ => none
def i_between_C (f : FuncId) (ds : List D) : Orc := .no
def i_between_A (x : Int) (a : Int) (b : Int) : Ann := .none
def i_between_P (x : Int) (a : Int) (b : Int) : Prop :=
  ((decide (x ≥ a)) = true → (decide (x ≥ a)) = true) ∧ ((decide (x ≥ a)) = true → (decide (x ≥ a)) = true) ∧ (true = true) ∧ (((decide (x ≥ a)) = true → (decide (x ≥ a)) = true)) ∧ (((decide (x ≥ a)) = false → true = true)) ∧ (((cond (decide (x ≥ a)) (decide (x ≤ b)) false) = (inB x a b)))
theorem i_between_vc (x : Int) (a : Int) (b : Int)   : i_between_P x a b := by
  unfold i_between_P
  refine ⟨id, id, rfl, id, fun _ => rfl, ?_⟩
  · first | omega | rfl | (intro hg; simp only [nrmT] at hg; omega) | (intro g1 g2; simp [g1, g2]; done) | (intro g1; simp at g1 ⊢; simp [g1]; done) | (simp only [nrmT] at *; omega) | (simp at * <;> omega) | (simp_all <;> omega) | (simp_all; done) | (simp [inB]; omega) | (simp only [inB]; by_cases h : a ≤ x <;> simp_all)
theorem i_between_pc (x : Int) (a : Int) (b : Int)  : PC Try.prog 107 [.int .i64 x, .int .i64 a, .int .i64 b] (.one (.d (.bool (inB x a b)))) :=
  pc_wf @Try.call107 fun _ => pc_by (by kernel_rfl) Try.func107 @Try.call107 (by kernel_rfl) i_between_C (i_between_A x a b) (by kernel_rfl) (i_between_vc x a b) (by kernel_rfl)
def i_between_orc : List D → Orc := orcN [none, none, none] fun ds => match ds with
  | [.int .i64 x, .int .i64 a, .int .i64 b] => some (.one (.d (.bool (inB x a b))))
  | _ => none
def sz1 (n : Nat) (left : Int) : Int := if left - n < 0 then -1 else left - n
def szTo (xss : List (List Int)) (left : Int) (k : Nat) : Int := foldTo (fun l k => if l < 0 then l else sz1 (xss.getD k []).length l) left k
def szRows (xss : List (List Int)) (left : Int) : Int := if left - xss.length < 0 then -1 else szTo xss (left - xss.length) xss.length
theorem szTo_stuck {xss : List (List Int)} {left : Int} {k : Nat} (h : szTo xss left k < 0) : ∀ n, k ≤ n → szTo xss left n = szTo xss left k
  | 0, hk => by have : k = 0 := by omega
                rw [this]
  | n + 1, hk => by
    by_cases e : k = n + 1
    · rw [e]
    · have h2 := szTo_stuck h n (by omega)
      show (if szTo xss left n < 0 then szTo xss left n else _) = _
      rw [h2, if_pos h]
theorem szTo_step {xss : List (List Int)} {left : Int} {i : Int} (h0 : 0 ≤ i) (h : 0 ≤ szTo xss left i.toNat) : szTo xss left (i + 1).toNat = sz1 (xss.getD i.toNat []).length (szTo xss left i.toNat) := by
  have e : (i + 1).toNat = i.toNat + 1 := by omega
  rw [e]
  show (if szTo xss left i.toNat < 0 then _ else _) = _
  rw [if_neg (by omega)]
  rfl
theorem szTo_bound {xss : List (List Int)} {left : Int} : ∀ k, k ≤ xss.length → 0 ≤ szTo xss left k → szTo xss left k ≤ left ∧ ∀ j, j < k → ((xss.getD j []).length : Int) ≤ left
  | 0, _, _ => ⟨Int.le_refl _, fun j hj => by omega⟩
  | k + 1, hk, h => by
    have e : szTo xss left (k + 1) = if szTo xss left k < 0 then szTo xss left k else sz1 (xss.getD k []).length (szTo xss left k) := rfl
    rw [e] at h ⊢
    by_cases h2 : szTo xss left k < 0
    · rw [if_pos h2] at h; omega
    · rw [if_neg h2] at h ⊢
      obtain ⟨h3, h4⟩ := szTo_bound (xss := xss) (left := left) k (by omega) (by omega)
      unfold sz1 at h ⊢
      by_cases h5 : szTo xss left k - ((xss.getD k []).length : Int) < 0
      · rw [if_pos h5] at h; omega
      · rw [if_neg h5] at h ⊢
        refine ⟨by omega, fun j hj => ?_⟩
        by_cases ej : j = k
        · rw [ej]; omega
        · exact h4 j (by omega)
theorem szRows_bound {xss : List (List Int)} {left : Int} (h : 0 ≤ szRows xss left) : szRows xss left ≤ left ∧ (xss.length : Int) ≤ left ∧ ∀ xs ∈ xss, (xs.length : Int) ≤ left := by
  unfold szRows at h ⊢
  by_cases h2 : left - (xss.length : Int) < 0
  · rw [if_pos h2] at h; omega
  · rw [if_neg h2] at h ⊢
    obtain ⟨h3, h4⟩ := szTo_bound _ (Nat.le_refl _) h
    refine ⟨by omega, by omega, fun xs hx => ?_⟩
    obtain ⟨k, hk, rfl⟩ := List.mem_iff_getElem.1 hx
    have := h4 k hk
    simp [hk] at this
    omega
theorem sz1_neg {n : Nat} {left : Int} (h : sz1 n left < 0) : sz1 n left = -1 := by
  unfold sz1 at *
  by_cases c : left - (n : Int) < 0
  · rw [if_pos c]
  · rw [if_neg c] at h; omega
theorem sz1_bound {n : Nat} {left : Int} (h : 0 ≤ sz1 n left) : sz1 n left ≤ left ∧ (n : Int) ≤ left := by
  unfold sz1 at *
  split at h <;> simp_all <;> omega
def l_szIntS_C (f : FuncId) (ds : List D) : Orc := .no
def l_szIntS_A (xs : List Int) (left : Int) : Ann := .none
def l_szIntS_P (xs : List Int) (left : Int) : Prop :=
  (-9223372036854775808 ≤ (left - (xs.length : Int)) ∧ (left - (xs.length : Int)) ≤ 9223372036854775807) ∧ (((decide ((left - (xs.length : Int)) < 0)) = true → ((((-1) : Int) = (sz1 xs.length left)))) ∧ ((decide ((left - (xs.length : Int)) < 0)) = false → (((left - (xs.length : Int)) = (sz1 xs.length left)))))
theorem l_szIntS_vc (xs : List Int) (left : Int) (hl : 0 ≤ left ∧ left ≤ 1048576) (w_xs : (xs.length : Int) ≤ 9223372036854775807) : l_szIntS_P xs left := by
  unfold l_szIntS_P
  refine ⟨?_, ?_, ?_⟩
  · first | omega | rfl | (intro hg; simp only [nrmT] at hg; omega) | (intro g1 g2; simp [g1, g2]; done) | (intro g1; simp at g1 ⊢; simp [g1]; done) | (simp only [nrmT] at *; omega) | (simp at * <;> omega) | (simp_all <;> omega) | (simp_all; done)
  · intro b1
    try simp only [nrmT] at b1
    unfold sz1; split <;> omega
  · intro b2
    try simp only [nrmT] at b2
    unfold sz1; split <;> omega
theorem l_szIntS_pc (xs : List Int) (left : Int) (hl : 0 ≤ left ∧ left ≤ 1048576) : PC Try.prog 98 [.sl (.ints xs), .int .i64 left] (.one (.d (.int .i64 (sz1 xs.length left)))) :=
  pc_wf @Try.call98 fun hw => pc_by (by kernel_rfl) Try.func98 @Try.call98 (by kernel_rfl) l_szIntS_C (l_szIntS_A xs left) (by kernel_rfl) (l_szIntS_vc xs left hl hw.1) (by kernel_rfl)
def l_szIntS_orc : List D → Orc := orcN [some .ints, none] fun ds => match ds with
  | [.sl (.ints xs), .int .i64 left] => some (.one (.d (.int .i64 (sz1 xs.length left))))
  | _ => none
abbrev l_szIntSS_JJ0 (xss : List (List Int)) (left : Int) (left1 : Int) (i : Int) : Prop := (0 ≤ i) ∧ (i ≤ (xss.length : Int)) ∧ (left1 = szTo xss (left - xss.length) i.toNat) ∧ (0 ≤ left1 ∧ left1 ≤ 1048576) ∧ (0 ≤ left - (xss.length : Int))
abbrev l_szIntSS_mJ0 (xss : List (List Int)) (left : Int) (left1 : Int) (i : Int) : Nat := (xss.length - i).toNat
def l_szIntSS_C (f : FuncId) (ds : List D) : Orc := bif Nat.beq f 98 then l_szIntS_orc ds else .no
def l_szIntSS_A (xss : List (List Int)) (left : Int) : Ann := .two (.none) (.two (.none) (.two (.none) (.two (.two (.none) (.loop (cut2 (fun (left1 : Int) (i : Int) => l_szIntSS_JJ0 xss left left1 i) (fun (left1 : Int) (i : Int) => [(0, .d false (.sl (.rows xss))), (1, .d true (.int .i64 left1)), (5, .d true (.int .i64 i))]) (fun (left1 : Int) (i : Int) => [])) (fun g => l_szIntSS_mJ0 xss left g.1 g.2) (fun _ => .none))) (.none))))
def l_szIntSS_P (xss : List (List Int)) (left : Int) : Prop :=
  (-9223372036854775808 ≤ (left - (xss.length : Int)) ∧ (left - (xss.length : Int)) ≤ 9223372036854775807) ∧ (((decide ((left - (xss.length : Int)) < 0)) = true → ((((-1) : Int) = (szRows xss left)))) ∧ ((decide ((left - (xss.length : Int)) < 0)) = false → ((∃ left1' : Int, ∃ i' : Int, (l_szIntSS_JJ0 xss left left1' i') ∧ (xss = xss) ∧ ((left - (xss.length : Int)) = left1') ∧ ((0 : Int) = i')) ∧ (∀ left1 : Int, ∀ i : Int, (l_szIntSS_JJ0 xss left left1 i) → (((decide (i < (xss.length : Int))) = true → ((0 : Int) ≤ i) ∧ ((i : Int) < xss.length) ∧ (i.toNat < xss.length) ∧ (PC Try.prog 98 [.sl (.ints (xss.getD i.toNat [])), .int .i64 left1] (.one (.d (.int .i64 (sz1 (xss.getD i.toNat []).length left1))))) ∧ (((decide ((sz1 (xss.getD i.toNat []).length left1) < 0)) = true → ((((-1) : Int) = (szRows xss left)))) ∧ ((decide ((sz1 (xss.getD i.toNat []).length left1) < 0)) = false → (-9223372036854775808 ≤ (i + 1) ∧ (i + 1) ≤ 9223372036854775807) ∧ (∃ left1' : Int, ∃ i' : Int, (l_szIntSS_JJ0 xss left left1' i') ∧ (l_szIntSS_mJ0 xss left left1' i' < l_szIntSS_mJ0 xss left left1 i) ∧ (xss = xss) ∧ ((sz1 (xss.getD i.toNat []).length left1) = left1') ∧ ((i + 1) = i'))))) ∧ ((decide (i < (xss.length : Int))) = false → ((left1 = (szRows xss left)))))))))
theorem l_szIntSS_vc (xss : List (List Int)) (left : Int) (hl : 0 ≤ left ∧ left ≤ 1048576) (w_xss : (xss.length : Int) ≤ 9223372036854775807) (v_xss : ∀ x9 ∈ xss, (x9.length : Int) ≤ 9223372036854775807) : l_szIntSS_P xss left := by
  unfold l_szIntSS_P
  refine ⟨?_, ?_, ?_⟩
  · first | omega | rfl | (intro hg; simp only [nrmT] at hg; omega) | (intro g1 g2; simp [g1, g2]; done) | (intro g1; simp at g1 ⊢; simp [g1]; done) | (simp only [nrmT] at *; omega) | (simp at * <;> omega) | (simp_all <;> omega) | (simp_all; done)
  · intro b1
    try simp only [nrmT] at b1
    unfold szRows; rw [if_pos (by omega)]
  · intro b2
    try simp only [nrmT] at b2
    refine ⟨?_, ?_⟩
    · refine ⟨(left - (xss.length : Int)), 0, ?_⟩
      refine ⟨?_, rfl, rfl, rfl⟩
      · refine ⟨?_, ?_, ?_, ?_, ?_⟩
        · first | omega | rfl | (intro hg; simp only [nrmT] at hg; omega) | (intro g1 g2; simp [g1, g2]; done) | (intro g1; simp at g1 ⊢; simp [g1]; done) | (simp only [nrmT] at *; omega) | (simp at * <;> omega) | (simp_all <;> omega) | (simp_all; done)
        · first | omega | rfl | (intro hg; simp only [nrmT] at hg; omega) | (intro g1 g2; simp [g1, g2]; done) | (intro g1; simp at g1 ⊢; simp [g1]; done) | (simp only [nrmT] at *; omega) | (simp at * <;> omega) | (simp_all <;> omega) | (simp_all; done)
        · first | omega | rfl | (intro hg; simp only [nrmT] at hg; omega) | (intro g1 g2; simp [g1, g2]; done) | (intro g1; simp at g1 ⊢; simp [g1]; done) | (simp only [nrmT] at *; omega) | (simp at * <;> omega) | (simp_all <;> omega) | (simp_all; done)
        · first | omega | rfl | (intro hg; simp only [nrmT] at hg; omega) | (intro g1 g2; simp [g1, g2]; done) | (intro g1; simp at g1 ⊢; simp [g1]; done) | (simp only [nrmT] at *; omega) | (simp at * <;> omega) | (simp_all <;> omega) | (simp_all; done)
        · first | omega | rfl | (intro hg; simp only [nrmT] at hg; omega) | (intro g1 g2; simp [g1, g2]; done) | (intro g1; simp at g1 ⊢; simp [g1]; done) | (simp only [nrmT] at *; omega) | (simp at * <;> omega) | (simp_all <;> omega) | (simp_all; done)
    · intro left1 i hJ
      obtain ⟨h1, h2, h3, h4, h5⟩ := hJ
      refine ⟨?_, ?_⟩
      · intro b3
        try simp only [nrmT] at b3
        refine ⟨?_, ?_, ?_, ?_, ?_, ?_⟩
        · first | omega | rfl | (intro hg; simp only [nrmT] at hg; omega) | (intro g1 g2; simp [g1, g2]; done) | (intro g1; simp at g1 ⊢; simp [g1]; done) | (simp only [nrmT] at *; omega) | (simp at * <;> omega) | (simp_all <;> omega) | (simp_all; done)
        · first | omega | rfl | (intro hg; simp only [nrmT] at hg; omega) | (intro g1 g2; simp [g1, g2]; done) | (intro g1; simp at g1 ⊢; simp [g1]; done) | (simp only [nrmT] at *; omega) | (simp at * <;> omega) | (simp_all <;> omega) | (simp_all; done)
        · first | omega | rfl | (intro hg; simp only [nrmT] at hg; omega) | (intro g1 g2; simp [g1, g2]; done) | (intro g1; simp at g1 ⊢; simp [g1]; done) | (simp only [nrmT] at *; omega) | (simp at * <;> omega) | (simp_all <;> omega) | (simp_all; done)
        · refine l_szIntS_pc (xss.getD i.toNat []) left1 ?_
          · first | omega | rfl | (intro hg; simp only [nrmT] at hg; omega) | (intro g1 g2; simp [g1, g2]; done) | (intro g1; simp at g1 ⊢; simp [g1]; done) | (simp only [nrmT] at *; omega) | (simp at * <;> omega) | (simp_all <;> omega) | (simp_all; done)
        · intro b4
          try simp only [nrmT] at b4
          have e := szTo_step (xss := xss) (left := left - xss.length) h1 (by omega)
          rw [← h3] at e
          have e2 := szTo_stuck (k := (i + 1).toNat) (by rw [e]; exact b4) xss.length (by omega)
          unfold szRows
          rw [if_neg (by omega), e2, e]
          exact (sz1_neg b4).symm
        · intro b5
          try simp only [nrmT] at b5
          refine ⟨?_, ?_⟩
          · first | omega | rfl | (intro hg; simp only [nrmT] at hg; omega) | (intro g1 g2; simp [g1, g2]; done) | (intro g1; simp at g1 ⊢; simp [g1]; done) | (simp only [nrmT] at *; omega) | (simp at * <;> omega) | (simp_all <;> omega) | (simp_all; done)
          · refine ⟨(sz1 (xss.getD i.toNat []).length left1), (i + 1), ?_⟩
            refine ⟨?_, ?_, rfl, rfl, rfl⟩
            · refine ⟨?_, ?_, ?_, ?_, ?_⟩
              · first | omega | rfl | (intro hg; simp only [nrmT] at hg; omega) | (intro g1 g2; simp [g1, g2]; done) | (intro g1; simp at g1 ⊢; simp [g1]; done) | (simp only [nrmT] at *; omega) | (simp at * <;> omega) | (simp_all <;> omega) | (simp_all; done)
              · first | omega | rfl | (intro hg; simp only [nrmT] at hg; omega) | (intro g1 g2; simp [g1, g2]; done) | (intro g1; simp at g1 ⊢; simp [g1]; done) | (simp only [nrmT] at *; omega) | (simp at * <;> omega) | (simp_all <;> omega) | (simp_all; done)
              · rw [h3, szTo_step h1 (by omega)]
              · have := sz1_bound (n := (xss.getD i.toNat []).length) (left := left1) (by omega)
                omega
              · first | omega | rfl | (intro hg; simp only [nrmT] at hg; omega) | (intro g1 g2; simp [g1, g2]; done) | (intro g1; simp at g1 ⊢; simp [g1]; done) | (simp only [nrmT] at *; omega) | (simp at * <;> omega) | (simp_all <;> omega) | (simp_all; done)
            · first | (show _ < _; omega) | (simp only [l_szIntSS_mJ0]; omega) | (simp only [l_szIntSS_mJ0] at *; simp at *; omega)
      · intro b6
        try simp only [nrmT] at b6
        unfold szRows
        rw [if_neg (by omega), h3]
        have : i.toNat = xss.length := by omega
        rw [this]
theorem l_szIntSS_pc (xss : List (List Int)) (left : Int) (hl : 0 ≤ left ∧ left ≤ 1048576) : PC Try.prog 65 [.sl (.rows xss), .int .i64 left] (.one (.d (.int .i64 (szRows xss left)))) :=
  pc_wf @Try.call65 fun hw => pc_by (by kernel_rfl) Try.func65 @Try.call65 (by kernel_rfl) l_szIntSS_C (l_szIntSS_A xss left) (by kernel_rfl) (l_szIntSS_vc xss left hl hw.1.1 hw.1.2) (by kernel_rfl)
def l_szIntSS_orc : List D → Orc := orcN [some .rows, none] fun ds => match ds with
  | [.sl (.rows xss), .int .i64 left] => some (.one (.d (.int .i64 (szRows xss left))))
  | _ => none
def risingP (xs : List Int) (lo hi : Int) (k : Nat) : Bool := inB (xs.getD k 0) lo hi && (decide (k = 0) || decide (xs.getD (k - 1) 0 < xs.getD k 0))
def rising (xs : List Int) (lo hi : Int) : Bool := allTo (risingP xs lo hi) xs.length
theorem rising_step {xs : List Int} {lo hi i : Int} (h0 : 0 ≤ i) {c : Bool} (hc : (cond (!(inB (xs.getD i.toNat 0) lo hi)) true (cond (decide (i > 0)) (decide (xs.getD (i - 1).toNat 0 ≥ xs.getD i.toNat 0)) false)) = c) :
    risingP xs lo hi i.toNat = !c := by
  subst hc
  have e : (i - 1).toNat = i.toNat - 1 := by omega
  unfold risingP
  rw [e]
  cases inB (xs.getD i.toNat 0) lo hi
  · rfl
  · by_cases h : i > 0
    · have h2 : ¬ i.toNat = 0 := by omega
      simp [h, h2]
      by_cases h3 : xs[i.toNat - 1]?.getD 0 < xs[i.toNat]?.getD 0
      · simp [h3]
      · simp [h3]; omega
    · have h2 : i.toNat = 0 := by omega
      simp [h, h2]
abbrev s_l1Rising_JJ0 (xs : List Int) (lo : Int) (hi : Int) (i : Int) : Prop := (0 ≤ i) ∧ (i ≤ (xs.length : Int)) ∧ (allTo (risingP xs lo hi) i.toNat = true)
abbrev s_l1Rising_mJ0 (xs : List Int) (lo : Int) (hi : Int) (i : Int) : Nat := (xs.length - i).toNat
def s_l1Rising_C (f : FuncId) (ds : List D) : Orc := bif Nat.beq f 104 then s_l1In_orc ds else .no
def s_l1Rising_A (xs : List Int) (lo : Int) (hi : Int) : Ann := .two (.none) (.two (.two (.none) (.loop (cut1 (fun (i : Int) => s_l1Rising_JJ0 xs lo hi i) (fun (i : Int) => [(0, .d false (.sl (.ints xs))), (1, .d false (.int .i64 lo)), (2, .d false (.int .i64 hi)), (7, .d true (.int .i64 i))]) (fun (i : Int) => [])) (fun g => s_l1Rising_mJ0 xs lo hi g) (fun _ => .none))) (.none))
def s_l1Rising_P (xs : List Int) (lo : Int) (hi : Int) : Prop :=
  ((∃ i' : Int, (s_l1Rising_JJ0 xs lo hi i') ∧ (xs = xs) ∧ (lo = lo) ∧ (hi = hi) ∧ ((0 : Int) = i')) ∧ (∀ i : Int, (s_l1Rising_JJ0 xs lo hi i) → (((decide (i < (xs.length : Int))) = true → (true = true) ∧ ((0 : Int) ≤ i) ∧ ((i : Int) < xs.length) ∧ (i.toNat < xs.length) ∧ (PC Try.prog 104 [.int .i64 (xs.getD i.toNat 0), .int .i64 lo, .int .i64 hi] (.one (.d (.bool (inB (xs.getD i.toNat 0) lo hi))))) ∧ ((!(!(inB (xs.getD i.toNat 0) lo hi))) = true → (!(!(inB (xs.getD i.toNat 0) lo hi))) = true) ∧ ((!(!(inB (xs.getD i.toNat 0) lo hi))) = true → (!(!(inB (xs.getD i.toNat 0) lo hi))) = true) ∧ (((!(!(inB (xs.getD i.toNat 0) lo hi))) && (decide (i > 0))) = true → ((!(!(inB (xs.getD i.toNat 0) lo hi))) && (decide (i > 0))) = true) ∧ ((((!(!(inB (xs.getD i.toNat 0) lo hi))) && (decide (i > 0))) = true → -9223372036854775808 ≤ (i - 1) ∧ (i - 1) ≤ 9223372036854775807)) ∧ (((!(!(inB (xs.getD i.toNat 0) lo hi))) && (decide (i > 0))) = true → ((!(!(inB (xs.getD i.toNat 0) lo hi))) && (decide (i > 0))) = true) ∧ (((!(!(inB (xs.getD i.toNat 0) lo hi))) && (decide (i > 0))) = true → ((!(!(inB (xs.getD i.toNat 0) lo hi))) && (decide (i > 0))) = true) ∧ ((((!(!(inB (xs.getD i.toNat 0) lo hi))) && (decide (i > 0))) = true → (0 : Int) ≤ (i - 1))) ∧ ((((!(!(inB (xs.getD i.toNat 0) lo hi))) && (decide (i > 0))) = true → ((i - 1) : Int) < xs.length)) ∧ (((!(!(inB (xs.getD i.toNat 0) lo hi))) && (decide (i > 0))) = true → ((!(!(inB (xs.getD i.toNat 0) lo hi))) && (decide (i > 0))) = true) ∧ ((((!(!(inB (xs.getD i.toNat 0) lo hi))) && (decide (i > 0))) = true → (i - 1).toNat < xs.length)) ∧ (((!(!(inB (xs.getD i.toNat 0) lo hi))) && (decide (i > 0))) = true → ((!(!(inB (xs.getD i.toNat 0) lo hi))) && (decide (i > 0))) = true) ∧ (((!(!(inB (xs.getD i.toNat 0) lo hi))) && (decide (i > 0))) = true → ((!(!(inB (xs.getD i.toNat 0) lo hi))) && (decide (i > 0))) = true) ∧ ((((!(!(inB (xs.getD i.toNat 0) lo hi))) && (decide (i > 0))) = true → (0 : Int) ≤ i)) ∧ ((((!(!(inB (xs.getD i.toNat 0) lo hi))) && (decide (i > 0))) = true → (i : Int) < xs.length)) ∧ (((!(!(inB (xs.getD i.toNat 0) lo hi))) && (decide (i > 0))) = true → ((!(!(inB (xs.getD i.toNat 0) lo hi))) && (decide (i > 0))) = true) ∧ ((((!(!(inB (xs.getD i.toNat 0) lo hi))) && (decide (i > 0))) = true → i.toNat < xs.length)) ∧ (((!(!(inB (xs.getD i.toNat 0) lo hi))) && (decide (i > 0))) = true → ((!(!(inB (xs.getD i.toNat 0) lo hi))) && (decide (i > 0))) = true) ∧ (((!(!(inB (xs.getD i.toNat 0) lo hi))) && (decide (i > 0))) = true → ((!(!(inB (xs.getD i.toNat 0) lo hi))) && (decide (i > 0))) = true) ∧ (((!(!(inB (xs.getD i.toNat 0) lo hi))) = true → (!(!(inB (xs.getD i.toNat 0) lo hi))) = true)) ∧ (((!(!(inB (xs.getD i.toNat 0) lo hi))) = true → (decide (i > 0)) = true → ((!(!(inB (xs.getD i.toNat 0) lo hi))) && (decide (i > 0))) = true)) ∧ (((!(!(inB (xs.getD i.toNat 0) lo hi))) = true → (decide (i > 0)) = false → true = true)) ∧ (true = true) ∧ (((!(inB (xs.getD i.toNat 0) lo hi)) = true → true = true)) ∧ (((!(inB (xs.getD i.toNat 0) lo hi)) = false → (!(!(inB (xs.getD i.toNat 0) lo hi))) = true)) ∧ (((cond (!(inB (xs.getD i.toNat 0) lo hi)) true (cond (decide (i > 0)) (decide ((xs.getD ((i - 1).toNat) 0) ≥ (xs.getD i.toNat 0))) false)) = true → ((false = (rising xs lo hi)))) ∧ ((cond (!(inB (xs.getD i.toNat 0) lo hi)) true (cond (decide (i > 0)) (decide ((xs.getD ((i - 1).toNat) 0) ≥ (xs.getD i.toNat 0))) false)) = false → (-9223372036854775808 ≤ (i + 1) ∧ (i + 1) ≤ 9223372036854775807) ∧ (∃ i' : Int, (s_l1Rising_JJ0 xs lo hi i') ∧ (s_l1Rising_mJ0 xs lo hi i' < s_l1Rising_mJ0 xs lo hi i) ∧ (xs = xs) ∧ (lo = lo) ∧ (hi = hi) ∧ ((i + 1) = i'))))) ∧ ((decide (i < (xs.length : Int))) = false → ((true = (rising xs lo hi)))))))
theorem s_l1Rising_vc (xs : List Int) (lo : Int) (hi : Int)  (w_xs : (xs.length : Int) ≤ 9223372036854775807) : s_l1Rising_P xs lo hi := by
  unfold s_l1Rising_P
  refine ⟨?_, ?_⟩
  · refine ⟨0, ?_⟩
    refine ⟨?_, rfl, rfl, rfl, rfl⟩
    · refine ⟨?_, ?_, ?_⟩
      · first | omega | rfl | (intro hg; simp only [nrmT] at hg; omega) | (intro g1 g2; simp [g1, g2]; done) | (intro g1; simp at g1 ⊢; simp [g1]; done) | (simp only [nrmT] at *; omega) | (simp at * <;> omega) | (simp_all <;> omega) | (simp_all; done)
      · first | omega | rfl | (intro hg; simp only [nrmT] at hg; omega) | (intro g1 g2; simp [g1, g2]; done) | (intro g1; simp at g1 ⊢; simp [g1]; done) | (simp only [nrmT] at *; omega) | (simp at * <;> omega) | (simp_all <;> omega) | (simp_all; done)
      · first | omega | rfl | (intro hg; simp only [nrmT] at hg; omega) | (intro g1 g2; simp [g1, g2]; done) | (intro g1; simp at g1 ⊢; simp [g1]; done) | (simp only [nrmT] at *; omega) | (simp at * <;> omega) | (simp_all <;> omega) | (simp_all; done)
  · intro i hJ
    obtain ⟨h1, h2, h3⟩ := hJ
    refine ⟨?_, ?_⟩
    · intro b1
      try simp only [nrmT] at b1
      refine ⟨rfl, ?_, ?_, ?_, s_l1In_pc (xs.getD i.toNat 0) lo hi, id, id, id, ?_, id, id, ?_, ?_, id, ?_, id, id, ?_, ?_, id, ?_, id, id, id, ?_, fun _ _ => rfl, rfl, fun _ => rfl, ?_, ?_, ?_⟩
      · first | omega | rfl | (intro hg; simp only [nrmT] at hg; omega) | (intro g1 g2; simp [g1, g2]; done) | (intro g1; simp at g1 ⊢; simp [g1]; done) | (simp only [nrmT] at *; omega) | (simp at * <;> omega) | (simp_all <;> omega) | (simp_all; done)
      · first | omega | rfl | (intro hg; simp only [nrmT] at hg; omega) | (intro g1 g2; simp [g1, g2]; done) | (intro g1; simp at g1 ⊢; simp [g1]; done) | (simp only [nrmT] at *; omega) | (simp at * <;> omega) | (simp_all <;> omega) | (simp_all; done)
      · first | omega | rfl | (intro hg; simp only [nrmT] at hg; omega) | (intro g1 g2; simp [g1, g2]; done) | (intro g1; simp at g1 ⊢; simp [g1]; done) | (simp only [nrmT] at *; omega) | (simp at * <;> omega) | (simp_all <;> omega) | (simp_all; done)
      · first | omega | rfl | (intro hg; simp only [nrmT] at hg; omega) | (intro g1 g2; simp [g1, g2]; done) | (intro g1; simp at g1 ⊢; simp [g1]; done) | (simp only [nrmT] at *; omega) | (simp at * <;> omega) | (simp_all <;> omega) | (simp_all; done)
      · first | omega | rfl | (intro hg; simp only [nrmT] at hg; omega) | (intro g1 g2; simp [g1, g2]; done) | (intro g1; simp at g1 ⊢; simp [g1]; done) | (simp only [nrmT] at *; omega) | (simp at * <;> omega) | (simp_all <;> omega) | (simp_all; done)
      · first | omega | rfl | (intro hg; simp only [nrmT] at hg; omega) | (intro g1 g2; simp [g1, g2]; done) | (intro g1; simp at g1 ⊢; simp [g1]; done) | (simp only [nrmT] at *; omega) | (simp at * <;> omega) | (simp_all <;> omega) | (simp_all; done)
      · first | omega | rfl | (intro hg; simp only [nrmT] at hg; omega) | (intro g1 g2; simp [g1, g2]; done) | (intro g1; simp at g1 ⊢; simp [g1]; done) | (simp only [nrmT] at *; omega) | (simp at * <;> omega) | (simp_all <;> omega) | (simp_all; done)
      · first | omega | rfl | (intro hg; simp only [nrmT] at hg; omega) | (intro g1 g2; simp [g1, g2]; done) | (intro g1; simp at g1 ⊢; simp [g1]; done) | (simp only [nrmT] at *; omega) | (simp at * <;> omega) | (simp_all <;> omega) | (simp_all; done)
      · first | omega | rfl | (intro hg; simp only [nrmT] at hg; omega) | (intro g1 g2; simp [g1, g2]; done) | (intro g1; simp at g1 ⊢; simp [g1]; done) | (simp only [nrmT] at *; omega) | (simp at * <;> omega) | (simp_all <;> omega) | (simp_all; done)
      · first | omega | rfl | (intro hg; simp only [nrmT] at hg; omega) | (intro g1 g2; simp [g1, g2]; done) | (intro g1; simp at g1 ⊢; simp [g1]; done) | (simp only [nrmT] at *; omega) | (simp at * <;> omega) | (simp_all <;> omega) | (simp_all; done)
      · first | omega | rfl | (intro hg; simp only [nrmT] at hg; omega) | (intro g1 g2; simp [g1, g2]; done) | (intro g1; simp at g1 ⊢; simp [g1]; done) | (simp only [nrmT] at *; omega) | (simp at * <;> omega) | (simp_all <;> omega) | (simp_all; done)
      · first | omega | rfl | (intro hg; simp only [nrmT] at hg; omega) | (intro g1 g2; simp [g1, g2]; done) | (intro g1; simp at g1 ⊢; simp [g1]; done) | (simp only [nrmT] at *; omega) | (simp at * <;> omega) | (simp_all <;> omega) | (simp_all; done)
      · intro b2
        have e := rising_step h1 b2
        exact (allTo_falseI h1 (by omega) e).symm
      · intro b3
        refine ⟨?_, ?_⟩
        · first | omega | rfl | (intro hg; simp only [nrmT] at hg; omega) | (intro g1 g2; simp [g1, g2]; done) | (intro g1; simp at g1 ⊢; simp [g1]; done) | (simp only [nrmT] at *; omega) | (simp at * <;> omega) | (simp_all <;> omega) | (simp_all; done)
        · refine ⟨(i + 1), ?_⟩
          refine ⟨?_, ?_, rfl, rfl, rfl, rfl⟩
          · refine ⟨?_, ?_, ?_⟩
            · first | omega | rfl | (intro hg; simp only [nrmT] at hg; omega) | (intro g1 g2; simp [g1, g2]; done) | (intro g1; simp at g1 ⊢; simp [g1]; done) | (simp only [nrmT] at *; omega) | (simp at * <;> omega) | (simp_all <;> omega) | (simp_all; done)
            · first | omega | rfl | (intro hg; simp only [nrmT] at hg; omega) | (intro g1 g2; simp [g1, g2]; done) | (intro g1; simp at g1 ⊢; simp [g1]; done) | (simp only [nrmT] at *; omega) | (simp at * <;> omega) | (simp_all <;> omega) | (simp_all; done)
            · have e := rising_step h1 b3
              exact allTo_step h1 h3 e
          · first | (show _ < _; omega) | (simp only [s_l1Rising_mJ0]; omega) | (simp only [s_l1Rising_mJ0] at *; simp at *; omega)
    · intro b4
      try simp only [nrmT] at b4
      have e : i.toNat = xs.length := by omega
      rw [e] at h3
      exact h3.symm
theorem s_l1Rising_pc (xs : List Int) (lo : Int) (hi : Int)  : PC Try.prog 200 [.sl (.ints xs), .int .i64 lo, .int .i64 hi] (.one (.d (.bool (rising xs lo hi)))) :=
  pc_wf @Try.call200 fun hw => pc_by (by kernel_rfl) Try.func200 @Try.call200 (by kernel_rfl) s_l1Rising_C (s_l1Rising_A xs lo hi) (by kernel_rfl) (s_l1Rising_vc xs lo hi hw.1) (by kernel_rfl)
def s_l1Rising_orc : List D → Orc := orcN [some .ints, none, none] fun ds => match ds with
  | [.sl (.ints xs), .int .i64 lo, .int .i64 hi] => some (.one (.d (.bool (rising xs lo hi))))
  | _ => none
abbrev i_isRising_JJ0 (xs : List Int) (below : Int) (i : Int) : Prop := (0 ≤ i) ∧ (i ≤ (xs.length : Int)) ∧ (allTo (risingP xs 0 (below - 1)) i.toNat = true)
abbrev i_isRising_mJ0 (xs : List Int) (below : Int) (i : Int) : Nat := (xs.length - i).toNat
def i_isRising_C (f : FuncId) (ds : List D) : Orc := bif Nat.beq f 107 then i_between_orc ds else .no
def i_isRising_A (xs : List Int) (below : Int) : Ann := .two (.none) (.two (.two (.none) (.loop (cut1 (fun (i : Int) => i_isRising_JJ0 xs below i) (fun (i : Int) => [(0, .d false (.sl (.ints xs))), (1, .d false (.int .i64 below)), (7, .d false (.sl (.ints xs))), (8, .d true (.int .i64 (xs.length : Int))), (9, .d true (.int .i64 i))]) (fun (i : Int) => [])) (fun g => i_isRising_mJ0 xs below g) (fun _ => .none))) (.none))
def i_isRising_P (xs : List Int) (below : Int) : Prop :=
  ((∃ i' : Int, (i_isRising_JJ0 xs below i') ∧ (xs = xs) ∧ (below = below) ∧ (xs = xs) ∧ ((xs.length : Int) = (xs.length : Int)) ∧ ((0 : Int) = i')) ∧ (∀ i : Int, (i_isRising_JJ0 xs below i) → (((decide (i < (xs.length : Int))) = true → ((0 : Int) ≤ i) ∧ ((i : Int) < xs.length) ∧ (i.toNat < xs.length) ∧ (-9223372036854775808 ≤ (below - 1) ∧ (below - 1) ≤ 9223372036854775807) ∧ (PC Try.prog 107 [.int .i64 (xs.getD i.toNat 0), .int .i64 0, .int .i64 (below - 1)] (.one (.d (.bool (inB (xs.getD i.toNat 0) 0 (below - 1)))))) ∧ ((!(!(inB (xs.getD i.toNat 0) 0 (below - 1)))) = true → (!(!(inB (xs.getD i.toNat 0) 0 (below - 1)))) = true) ∧ ((!(!(inB (xs.getD i.toNat 0) 0 (below - 1)))) = true → (!(!(inB (xs.getD i.toNat 0) 0 (below - 1)))) = true) ∧ (((!(!(inB (xs.getD i.toNat 0) 0 (below - 1)))) && (decide (i > 0))) = true → ((!(!(inB (xs.getD i.toNat 0) 0 (below - 1)))) && (decide (i > 0))) = true) ∧ ((((!(!(inB (xs.getD i.toNat 0) 0 (below - 1)))) && (decide (i > 0))) = true → -9223372036854775808 ≤ (i - 1) ∧ (i - 1) ≤ 9223372036854775807)) ∧ (((!(!(inB (xs.getD i.toNat 0) 0 (below - 1)))) && (decide (i > 0))) = true → ((!(!(inB (xs.getD i.toNat 0) 0 (below - 1)))) && (decide (i > 0))) = true) ∧ (((!(!(inB (xs.getD i.toNat 0) 0 (below - 1)))) && (decide (i > 0))) = true → ((!(!(inB (xs.getD i.toNat 0) 0 (below - 1)))) && (decide (i > 0))) = true) ∧ ((((!(!(inB (xs.getD i.toNat 0) 0 (below - 1)))) && (decide (i > 0))) = true → (0 : Int) ≤ (i - 1))) ∧ ((((!(!(inB (xs.getD i.toNat 0) 0 (below - 1)))) && (decide (i > 0))) = true → ((i - 1) : Int) < xs.length)) ∧ (((!(!(inB (xs.getD i.toNat 0) 0 (below - 1)))) && (decide (i > 0))) = true → ((!(!(inB (xs.getD i.toNat 0) 0 (below - 1)))) && (decide (i > 0))) = true) ∧ ((((!(!(inB (xs.getD i.toNat 0) 0 (below - 1)))) && (decide (i > 0))) = true → (i - 1).toNat < xs.length)) ∧ (((!(!(inB (xs.getD i.toNat 0) 0 (below - 1)))) && (decide (i > 0))) = true → ((!(!(inB (xs.getD i.toNat 0) 0 (below - 1)))) && (decide (i > 0))) = true) ∧ (((!(!(inB (xs.getD i.toNat 0) 0 (below - 1)))) && (decide (i > 0))) = true → ((!(!(inB (xs.getD i.toNat 0) 0 (below - 1)))) && (decide (i > 0))) = true) ∧ (((!(!(inB (xs.getD i.toNat 0) 0 (below - 1)))) = true → (!(!(inB (xs.getD i.toNat 0) 0 (below - 1)))) = true)) ∧ (((!(!(inB (xs.getD i.toNat 0) 0 (below - 1)))) = true → (decide (i > 0)) = true → ((!(!(inB (xs.getD i.toNat 0) 0 (below - 1)))) && (decide (i > 0))) = true)) ∧ (((!(!(inB (xs.getD i.toNat 0) 0 (below - 1)))) = true → (decide (i > 0)) = false → true = true)) ∧ (true = true) ∧ (((!(inB (xs.getD i.toNat 0) 0 (below - 1))) = true → true = true)) ∧ (((!(inB (xs.getD i.toNat 0) 0 (below - 1))) = false → (!(!(inB (xs.getD i.toNat 0) 0 (below - 1)))) = true)) ∧ (((cond (!(inB (xs.getD i.toNat 0) 0 (below - 1))) true (cond (decide (i > 0)) (decide ((xs.getD i.toNat 0) ≤ (xs.getD ((i - 1).toNat) 0))) false)) = true → ((false = (rising xs 0 (below - 1))))) ∧ ((cond (!(inB (xs.getD i.toNat 0) 0 (below - 1))) true (cond (decide (i > 0)) (decide ((xs.getD i.toNat 0) ≤ (xs.getD ((i - 1).toNat) 0))) false)) = false → (-9223372036854775808 ≤ (i + 1) ∧ (i + 1) ≤ 9223372036854775807) ∧ (∃ i' : Int, (i_isRising_JJ0 xs below i') ∧ (i_isRising_mJ0 xs below i' < i_isRising_mJ0 xs below i) ∧ (xs = xs) ∧ (below = below) ∧ (xs = xs) ∧ ((xs.length : Int) = (xs.length : Int)) ∧ ((i + 1) = i'))))) ∧ ((decide (i < (xs.length : Int))) = false → ((true = (rising xs 0 (below - 1))))))))
theorem i_isRising_vc (xs : List Int) (below : Int) (hb : -9223372036854775808 < below ∧ below ≤ 9223372036854775807) (w_xs : (xs.length : Int) ≤ 9223372036854775807) : i_isRising_P xs below := by
  unfold i_isRising_P
  refine ⟨?_, ?_⟩
  · refine ⟨0, ?_⟩
    refine ⟨?_, rfl, rfl, rfl, rfl, rfl⟩
    · refine ⟨?_, ?_, ?_⟩
      · first | omega | rfl | (intro hg; simp only [nrmT] at hg; omega) | (intro g1 g2; simp [g1, g2]; done) | (intro g1; simp at g1 ⊢; simp [g1]; done) | (simp only [nrmT] at *; omega) | (simp at * <;> omega) | (simp_all <;> omega) | (simp_all; done)
      · first | omega | rfl | (intro hg; simp only [nrmT] at hg; omega) | (intro g1 g2; simp [g1, g2]; done) | (intro g1; simp at g1 ⊢; simp [g1]; done) | (simp only [nrmT] at *; omega) | (simp at * <;> omega) | (simp_all <;> omega) | (simp_all; done)
      · first | omega | rfl | (intro hg; simp only [nrmT] at hg; omega) | (intro g1 g2; simp [g1, g2]; done) | (intro g1; simp at g1 ⊢; simp [g1]; done) | (simp only [nrmT] at *; omega) | (simp at * <;> omega) | (simp_all <;> omega) | (simp_all; done)
  · intro i hJ
    obtain ⟨h1, h2, h3⟩ := hJ
    refine ⟨?_, ?_⟩
    · intro b1
      try simp only [nrmT] at b1
      refine ⟨?_, ?_, ?_, ?_, i_between_pc (xs.getD i.toNat 0) 0 (below - 1), id, id, id, ?_, id, id, ?_, ?_, id, ?_, id, id, id, ?_, fun _ _ => rfl, rfl, fun _ => rfl, ?_, ?_, ?_⟩
      · first | omega | rfl | (intro hg; simp only [nrmT] at hg; omega) | (intro g1 g2; simp [g1, g2]; done) | (intro g1; simp at g1 ⊢; simp [g1]; done) | (simp only [nrmT] at *; omega) | (simp at * <;> omega) | (simp_all <;> omega) | (simp_all; done)
      · first | omega | rfl | (intro hg; simp only [nrmT] at hg; omega) | (intro g1 g2; simp [g1, g2]; done) | (intro g1; simp at g1 ⊢; simp [g1]; done) | (simp only [nrmT] at *; omega) | (simp at * <;> omega) | (simp_all <;> omega) | (simp_all; done)
      · first | omega | rfl | (intro hg; simp only [nrmT] at hg; omega) | (intro g1 g2; simp [g1, g2]; done) | (intro g1; simp at g1 ⊢; simp [g1]; done) | (simp only [nrmT] at *; omega) | (simp at * <;> omega) | (simp_all <;> omega) | (simp_all; done)
      · first | omega | rfl | (intro hg; simp only [nrmT] at hg; omega) | (intro g1 g2; simp [g1, g2]; done) | (intro g1; simp at g1 ⊢; simp [g1]; done) | (simp only [nrmT] at *; omega) | (simp at * <;> omega) | (simp_all <;> omega) | (simp_all; done)
      · first | omega | rfl | (intro hg; simp only [nrmT] at hg; omega) | (intro g1 g2; simp [g1, g2]; done) | (intro g1; simp at g1 ⊢; simp [g1]; done) | (simp only [nrmT] at *; omega) | (simp at * <;> omega) | (simp_all <;> omega) | (simp_all; done)
      · first | omega | rfl | (intro hg; simp only [nrmT] at hg; omega) | (intro g1 g2; simp [g1, g2]; done) | (intro g1; simp at g1 ⊢; simp [g1]; done) | (simp only [nrmT] at *; omega) | (simp at * <;> omega) | (simp_all <;> omega) | (simp_all; done)
      · first | omega | rfl | (intro hg; simp only [nrmT] at hg; omega) | (intro g1 g2; simp [g1, g2]; done) | (intro g1; simp at g1 ⊢; simp [g1]; done) | (simp only [nrmT] at *; omega) | (simp at * <;> omega) | (simp_all <;> omega) | (simp_all; done)
      · first | omega | rfl | (intro hg; simp only [nrmT] at hg; omega) | (intro g1 g2; simp [g1, g2]; done) | (intro g1; simp at g1 ⊢; simp [g1]; done) | (simp only [nrmT] at *; omega) | (simp at * <;> omega) | (simp_all <;> omega) | (simp_all; done)
      · first | omega | rfl | (intro hg; simp only [nrmT] at hg; omega) | (intro g1 g2; simp [g1, g2]; done) | (intro g1; simp at g1 ⊢; simp [g1]; done) | (simp only [nrmT] at *; omega) | (simp at * <;> omega) | (simp_all <;> omega) | (simp_all; done)
      · first | omega | rfl | (intro hg; simp only [nrmT] at hg; omega) | (intro g1 g2; simp [g1, g2]; done) | (intro g1; simp at g1 ⊢; simp [g1]; done) | (simp only [nrmT] at *; omega) | (simp at * <;> omega) | (simp_all <;> omega) | (simp_all; done)
      · intro b2
        have e := rising_step h1 b2
        exact (allTo_falseI h1 (by omega) e).symm
      · intro b3
        refine ⟨?_, ?_⟩
        · first | omega | rfl | (intro hg; simp only [nrmT] at hg; omega) | (intro g1 g2; simp [g1, g2]; done) | (intro g1; simp at g1 ⊢; simp [g1]; done) | (simp only [nrmT] at *; omega) | (simp at * <;> omega) | (simp_all <;> omega) | (simp_all; done)
        · refine ⟨(i + 1), ?_⟩
          refine ⟨?_, ?_, rfl, rfl, rfl, rfl, rfl⟩
          · refine ⟨?_, ?_, ?_⟩
            · first | omega | rfl | (intro hg; simp only [nrmT] at hg; omega) | (intro g1 g2; simp [g1, g2]; done) | (intro g1; simp at g1 ⊢; simp [g1]; done) | (simp only [nrmT] at *; omega) | (simp at * <;> omega) | (simp_all <;> omega) | (simp_all; done)
            · first | omega | rfl | (intro hg; simp only [nrmT] at hg; omega) | (intro g1 g2; simp [g1, g2]; done) | (intro g1; simp at g1 ⊢; simp [g1]; done) | (simp only [nrmT] at *; omega) | (simp at * <;> omega) | (simp_all <;> omega) | (simp_all; done)
            · have e := rising_step h1 b3
              exact allTo_step h1 h3 e
          · first | (show _ < _; omega) | (simp only [i_isRising_mJ0]; omega) | (simp only [i_isRising_mJ0] at *; simp at *; omega)
    · intro b4
      try simp only [nrmT] at b4
      have e : i.toNat = xs.length := by omega
      rw [e] at h3
      exact h3.symm
theorem i_isRising_pc (xs : List Int) (below : Int) (hb : -9223372036854775808 < below ∧ below ≤ 9223372036854775807) : PC Try.prog 161 [.sl (.ints xs), .int .i64 below] (.one (.d (.bool (rising xs 0 (below - 1))))) :=
  pc_wf @Try.call161 fun hw => pc_by (by kernel_rfl) Try.func161 @Try.call161 (by kernel_rfl) i_isRising_C (i_isRising_A xs below) (by kernel_rfl) (i_isRising_vc xs below hb hw.1) (by kernel_rfl)
def i_isRising_orc : List D → Orc := orcN [some .ints, none] fun ds => match ds with
  | [.sl (.ints xs), .int .i64 below] => some (.one (.d (.bool (rising xs 0 (below - 1)))))
  | _ => none
theorem len_beq (m n : Nat) : ((m : Int) == (n : Int)) = decide (m = n) := by
  rw [Bool.eq_iff_iff]; simp only [beq_iff_eq, decide_eq_true_eq]; omega
theorem len_le (m n : Nat) : decide ((m : Int) ≤ (n : Int)) = decide (m ≤ n) := by
  rw [Bool.eq_iff_iff]; simp only [decide_eq_true_eq]; omega
theorem all_end {α : Type} {p : α → Bool} {d : α} {xs : List α} {i : Int} (h2 : (xs.length : Int) ≤ i) (h2' : i ≤ (xs.length : Int)) (h3 : allTo (fun k => p (xs.getD k d)) i.toNat = true) : xs.all p = true := by
  have e : i.toNat = xs.length := by omega
  rw [e, allTo_list] at h3; exact h3
theorem all_no {α : Type} {p : α → Bool} {d : α} {xs : List α} {i : Int} (h0 : 0 ≤ i) (h : i < (xs.length : Int)) (h3 : p (xs.getD i.toNat d) = false) : xs.all p = false := by
  rw [← allTo_list (d := d)]; exact allTo_falseI h0 h h3
theorem inB_le {x lo hi : Int} (h : inB x lo hi = true) : lo ≤ x ∧ x ≤ hi := of_decide_eq_true h
def i_areBetween_1_C (f : FuncId) (ds : List D) : Orc := bif Nat.beq f 107 then i_between_orc ds else .no
def i_areBetween_1_A (x : Int) (lo : Int) (hi : Int) : Ann := .none
def i_areBetween_1_P (x : Int) (lo : Int) (hi : Int) : Prop :=
  (PC Try.prog 107 [.int .i64 x, .int .i64 lo, .int .i64 hi] (.one (.d (.bool (inB x lo hi))))) ∧ (((!(inB x lo hi)) = (!(inB x lo hi))))
theorem i_areBetween_1_vc (x : Int) (lo : Int) (hi : Int)   : i_areBetween_1_P x lo hi := by
  unfold i_areBetween_1_P
  refine ⟨i_between_pc x lo hi, rfl⟩
theorem i_areBetween_1_pc (x : Int) (lo : Int) (hi : Int)  : PC Try.prog 201 [.int .i64 x, .bx [.int .i64 lo] 0, .bx [.int .i64 hi] 0] (.one (.d (.bool (!(inB x lo hi))))) :=
  pc_wf @Try.call201 fun _ => pc_by (by kernel_rfl) Try.func201 @Try.call201 (by kernel_rfl) i_areBetween_1_C (i_areBetween_1_A x lo hi) (by kernel_rfl) (i_areBetween_1_vc x lo hi) (by kernel_rfl)
def i_areBetween_1_orc : List D → Orc := orcN [none, none, none] fun ds => match ds with
  | [.int .i64 x, .bx [.int .i64 lo] 0, .bx [.int .i64 hi] 0] => some (.one (.d (.bool (!(inB x lo hi)))))
  | _ => none
abbrev slices_IndexFunc_int_int_aB_JJ0 (xs : List Int) (lo : Int) (hi : Int) (i : Int) : Prop := (0 ≤ i) ∧ (i ≤ (xs.length : Int)) ∧ (∀ k, k < i.toNat → (fun x => !(inB x lo hi)) (xs.getD k 0) = false)
abbrev slices_IndexFunc_int_int_aB_mJ0 (xs : List Int) (lo : Int) (hi : Int) (i : Int) : Nat := (xs.length - i).toNat
def slices_IndexFunc_int_int_aB_C (f : FuncId) (ds : List D) : Orc := bif Nat.beq f 201 then i_areBetween_1_orc ds else .no
def slices_IndexFunc_int_int_aB_A (xs : List Int) (lo : Int) (hi : Int) : Ann := .two (.none) (.two (.two (.none) (.loop (cut1 (fun (i : Int) => slices_IndexFunc_int_int_aB_JJ0 xs lo hi i) (fun (i : Int) => [(0, .d false (.sl (.ints xs))), (1, .d false (.fn 201 [.bx [.int .i64 lo] 0, .bx [.int .i64 hi] 0])), (7, .d true (.int .i64 (xs.length : Int))), (8, .d true (.int .i64 i))]) (fun (i : Int) => [])) (fun g => slices_IndexFunc_int_int_aB_mJ0 xs lo hi g) (fun _ => .none))) (.none))
def slices_IndexFunc_int_int_aB_P (xs : List Int) (lo : Int) (hi : Int) : Prop :=
  ((∃ i' : Int, (slices_IndexFunc_int_int_aB_JJ0 xs lo hi i') ∧ (xs = xs) ∧ ((.fn 201 [.bx [.int .i64 lo] 0, .bx [.int .i64 hi] 0] : D) = (.fn 201 [.bx [.int .i64 lo] 0, .bx [.int .i64 hi] 0] : D)) ∧ ((xs.length : Int) = (xs.length : Int)) ∧ ((0 : Int) = i')) ∧ (∀ i : Int, (slices_IndexFunc_int_int_aB_JJ0 xs lo hi i) → (((decide (i < (xs.length : Int))) = true → ((0 : Int) ≤ i) ∧ ((i : Int) < xs.length) ∧ (i.toNat < xs.length) ∧ (PC Try.prog 201 [.int .i64 (xs.getD i.toNat 0), .bx [.int .i64 lo] 0, .bx [.int .i64 hi] 0] (.one (.d (.bool (!(inB (xs.getD i.toNat 0) lo hi)))))) ∧ (((!(inB (xs.getD i.toNat 0) lo hi)) = true → ((i = (idxI (fun x => !(inB x lo hi)) xs)))) ∧ ((!(inB (xs.getD i.toNat 0) lo hi)) = false → (-9223372036854775808 ≤ (i + 1) ∧ (i + 1) ≤ 9223372036854775807) ∧ (∃ i' : Int, (slices_IndexFunc_int_int_aB_JJ0 xs lo hi i') ∧ (slices_IndexFunc_int_int_aB_mJ0 xs lo hi i' < slices_IndexFunc_int_int_aB_mJ0 xs lo hi i) ∧ (xs = xs) ∧ ((.fn 201 [.bx [.int .i64 lo] 0, .bx [.int .i64 hi] 0] : D) = (.fn 201 [.bx [.int .i64 lo] 0, .bx [.int .i64 hi] 0] : D)) ∧ ((xs.length : Int) = (xs.length : Int)) ∧ ((i + 1) = i'))))) ∧ ((decide (i < (xs.length : Int))) = false → ((((-1) : Int) = (idxI (fun x => !(inB x lo hi)) xs)))))))
theorem slices_IndexFunc_int_int_aB_vc (xs : List Int) (lo : Int) (hi : Int)  (w_xs : (xs.length : Int) ≤ 9223372036854775807) : slices_IndexFunc_int_int_aB_P xs lo hi := by
  unfold slices_IndexFunc_int_int_aB_P
  refine ⟨?_, ?_⟩
  · refine ⟨0, ?_⟩
    refine ⟨?_, rfl, rfl, rfl, rfl⟩
    · refine ⟨?_, ?_, ?_⟩
      · first | omega | rfl | (intro hg; simp only [nrmT] at hg; omega) | (intro g1 g2; simp [g1, g2]; done) | (intro g1; simp at g1 ⊢; simp [g1]; done) | (simp only [nrmT] at *; omega) | (simp at * <;> omega) | (simp_all <;> omega) | (simp_all; done)
      · first | omega | rfl | (intro hg; simp only [nrmT] at hg; omega) | (intro g1 g2; simp [g1, g2]; done) | (intro g1; simp at g1 ⊢; simp [g1]; done) | (simp only [nrmT] at *; omega) | (simp at * <;> omega) | (simp_all <;> omega) | (simp_all; done)
      · first | omega | rfl | (intro hg; simp only [nrmT] at hg; omega) | (intro g1 g2; simp [g1, g2]; done) | (intro g1; simp at g1 ⊢; simp [g1]; done) | (simp only [nrmT] at *; omega) | (simp at * <;> omega) | (simp_all <;> omega) | (simp_all; done)
  · intro i hJ
    obtain ⟨h1, h2, h3⟩ := hJ
    refine ⟨?_, ?_⟩
    · intro b1
      try simp only [nrmT] at b1
      refine ⟨?_, ?_, ?_, i_areBetween_1_pc (xs.getD i.toNat 0) lo hi, ?_, ?_⟩
      · first | omega | rfl | (intro hg; simp only [nrmT] at hg; omega) | (intro g1 g2; simp [g1, g2]; done) | (intro g1; simp at g1 ⊢; simp [g1]; done) | (simp only [nrmT] at *; omega) | (simp at * <;> omega) | (simp_all <;> omega) | (simp_all; done)
      · first | omega | rfl | (intro hg; simp only [nrmT] at hg; omega) | (intro g1 g2; simp [g1, g2]; done) | (intro g1; simp at g1 ⊢; simp [g1]; done) | (simp only [nrmT] at *; omega) | (simp at * <;> omega) | (simp_all <;> omega) | (simp_all; done)
      · first | omega | rfl | (intro hg; simp only [nrmT] at hg; omega) | (intro g1 g2; simp [g1, g2]; done) | (intro g1; simp at g1 ⊢; simp [g1]; done) | (simp only [nrmT] at *; omega) | (simp at * <;> omega) | (simp_all <;> omega) | (simp_all; done)
      · intro b2
        try simp only [nrmT] at b2
        exact idx_found (p := fun x => !(inB x lo hi)) h1 b1 h3 (by simpa using b2)
      · intro b3
        try simp only [nrmT] at b3
        refine ⟨?_, ?_⟩
        · first | omega | rfl | (intro hg; simp only [nrmT] at hg; omega) | (intro g1 g2; simp [g1, g2]; done) | (intro g1; simp at g1 ⊢; simp [g1]; done) | (simp only [nrmT] at *; omega) | (simp at * <;> omega) | (simp_all <;> omega) | (simp_all; done)
        · refine ⟨(i + 1), ?_⟩
          refine ⟨?_, ?_, rfl, rfl, rfl, rfl⟩
          · refine ⟨?_, ?_, ?_⟩
            · first | omega | rfl | (intro hg; simp only [nrmT] at hg; omega) | (intro g1 g2; simp [g1, g2]; done) | (intro g1; simp at g1 ⊢; simp [g1]; done) | (simp only [nrmT] at *; omega) | (simp at * <;> omega) | (simp_all <;> omega) | (simp_all; done)
            · first | omega | rfl | (intro hg; simp only [nrmT] at hg; omega) | (intro g1 g2; simp [g1, g2]; done) | (intro g1; simp at g1 ⊢; simp [g1]; done) | (simp only [nrmT] at *; omega) | (simp at * <;> omega) | (simp_all <;> omega) | (simp_all; done)
            · exact idx_step (p := fun x => !(inB x lo hi)) h1 h3 (by simpa using b3)
          · first | (show _ < _; omega) | (simp only [slices_IndexFunc_int_int_aB_mJ0]; omega) | (simp only [slices_IndexFunc_int_int_aB_mJ0] at *; simp at *; omega)
    · intro b4
      try simp only [nrmT] at b4
      exact (idx_none (by omega) h3).symm
theorem slices_IndexFunc_int_int_aB_pc (xs : List Int) (lo : Int) (hi : Int)  : PC Try.prog 164 [.sl (.ints xs), .fn 201 [.bx [.int .i64 lo] 0, .bx [.int .i64 hi] 0]] (.one (.d (.int .i64 (idxI (fun x => !(inB x lo hi)) xs)))) :=
  pc_wf @Try.call164 fun hw => pc_by (by kernel_rfl) Try.func164 @Try.call164 (by kernel_rfl) slices_IndexFunc_int_int_aB_C (slices_IndexFunc_int_int_aB_A xs lo hi) (by kernel_rfl) (slices_IndexFunc_int_int_aB_vc xs lo hi hw.1) (by kernel_rfl)
def slices_IndexFunc_int_int_aB_orc : List D → Orc := orcN [some .ints, none] fun ds => match ds with
  | [.sl (.ints xs), .fn f0 [.bx [.int .i64 lo] 0, .bx [.int .i64 hi] 0]] => bif Nat.beq f0 201 then some (.one (.d (.int .i64 (idxI (fun x => !(inB x lo hi)) xs)))) else none
  | _ => none
def slices_ContainsFunc_int_int_aB_C (f : FuncId) (ds : List D) : Orc := bif Nat.beq f 164 then slices_IndexFunc_int_int_aB_orc ds else .no
def slices_ContainsFunc_int_int_aB_A (xs : List Int) (lo : Int) (hi : Int) : Ann := .none
def slices_ContainsFunc_int_int_aB_P (xs : List Int) (lo : Int) (hi : Int) : Prop :=
  (PC Try.prog 164 [.sl (.ints xs), .fn 201 [.bx [.int .i64 lo] 0, .bx [.int .i64 hi] 0]] (.one (.d (.int .i64 (idxI (fun x => !(inB x lo hi)) xs))))) ∧ (((decide ((idxI (fun x => !(inB x lo hi)) xs) ≥ 0)) = (xs.any (fun x => !(inB x lo hi)))))
theorem slices_ContainsFunc_int_int_aB_vc (xs : List Int) (lo : Int) (hi : Int)  (w_xs : (xs.length : Int) ≤ 9223372036854775807) : slices_ContainsFunc_int_int_aB_P xs lo hi := by
  unfold slices_ContainsFunc_int_int_aB_P
  refine ⟨slices_IndexFunc_int_int_aB_pc xs lo hi, ?_⟩
  · exact idx_any _ _
theorem slices_ContainsFunc_int_int_aB_pc (xs : List Int) (lo : Int) (hi : Int)  : PC Try.prog 96 [.sl (.ints xs), .fn 201 [.bx [.int .i64 lo] 0, .bx [.int .i64 hi] 0]] (.one (.d (.bool (xs.any (fun x => !(inB x lo hi)))))) :=
  pc_wf @Try.call96 fun hw => pc_by (by kernel_rfl) Try.func96 @Try.call96 (by kernel_rfl) slices_ContainsFunc_int_int_aB_C (slices_ContainsFunc_int_int_aB_A xs lo hi) (by kernel_rfl) (slices_ContainsFunc_int_int_aB_vc xs lo hi hw.1) (by kernel_rfl)
def slices_ContainsFunc_int_int_aB_orc : List D → Orc := orcN [some .ints, none] fun ds => match ds with
  | [.sl (.ints xs), .fn f0 [.bx [.int .i64 lo] 0, .bx [.int .i64 hi] 0]] => bif Nat.beq f0 201 then some (.one (.d (.bool (xs.any (fun x => !(inB x lo hi)))))) else none
  | _ => none
def i_areBetween_C (f : FuncId) (ds : List D) : Orc := bif Nat.beq f 96 then slices_ContainsFunc_int_int_aB_orc ds else .no
def i_areBetween_A (xs : List Int) (lo : Int) (hi : Int) : Ann := .none
def i_areBetween_P (xs : List Int) (lo : Int) (hi : Int) : Prop :=
  (PC Try.prog 96 [.sl (.ints xs), .fn 201 [.bx [.int .i64 lo] 0, .bx [.int .i64 hi] 0]] (.one (.d (.bool (xs.any (fun x => !(inB x lo hi))))))) ∧ (((!(xs.any (fun x => !(inB x lo hi)))) = (xs.all (fun x => inB x lo hi))))
theorem i_areBetween_vc (xs : List Int) (lo : Int) (hi : Int)  (w_xs : (xs.length : Int) ≤ 9223372036854775807) : i_areBetween_P xs lo hi := by
  unfold i_areBetween_P
  refine ⟨slices_ContainsFunc_int_int_aB_pc xs lo hi, ?_⟩
  · exact any_not _ _
theorem i_areBetween_pc (xs : List Int) (lo : Int) (hi : Int)  : PC Try.prog 162 [.sl (.ints xs), .int .i64 lo, .int .i64 hi] (.one (.d (.bool (xs.all (fun x => inB x lo hi))))) :=
  pc_wf @Try.call162 fun hw => pc_by (by kernel_rfl) Try.func162 @Try.call162 (by kernel_rfl) i_areBetween_C (i_areBetween_A xs lo hi) (by kernel_rfl) (i_areBetween_vc xs lo hi hw.1) (by kernel_rfl)
def i_areBetween_orc : List D → Orc := orcN [some .ints, none, none] fun ds => match ds with
  | [.sl (.ints xs), .int .i64 lo, .int .i64 hi] => some (.one (.d (.bool (xs.all (fun x => inB x lo hi)))))
  | _ => none
abbrev l_toIntS_JJ0 (xs : List Int) (out : List Int) (i : Int) : Prop := (0 ≤ i) ∧ (i ≤ (xs.length : Int)) ∧ (out = xs.take i.toNat ++ (List.replicate xs.length 0).drop i.toNat)
abbrev l_toIntS_mJ0 (xs : List Int) (out : List Int) (i : Int) : Nat := (xs.length - i).toNat
def l_toIntS_C (f : FuncId) (ds : List D) : Orc := .no
def l_toIntS_A (xs : List Int) : Ann := .two (.none) (.two (.none) (.two (.two (.none) (.loop (cut2 (fun (out : List Int) (i : Int) => l_toIntS_JJ0 xs out i) (fun (out : List Int) (i : Int) => [(0, .d false (.sl (.ints xs))), (3, .own 7 out.length), (4, .d true (.int .i64 i))]) (fun (out : List Int) (i : Int) => [(7, .arr true 3 (.ints out))])) (fun g => l_toIntS_mJ0 xs g.1 g.2) (fun _ => .none))) (.none)))
def l_toIntS_P (xs : List Int) : Prop :=
  ((xs.length : Int) = (xs.length : Int)) ∧ ((0 : Int) ≤ (xs.length : Int)) ∧ (((xs.length : Int) : Int) * ((8 : Nat) : Int) ≤ 140737488355328) ∧ ((∃ out' : List Int, ∃ i' : Int, (l_toIntS_JJ0 xs out' i') ∧ (xs = xs) ∧ ((xs.length : Int).toNat = out'.length) ∧ ((0 : Int) = i') ∧ ((List.replicate ((xs.length : Int).toNat) (0 : Int)) = out')) ∧ (∀ out : List Int, ∀ i : Int, (l_toIntS_JJ0 xs out i) → (((decide (i < (xs.length : Int))) = true → ((0 : Int) ≤ i) ∧ ((i : Int) < xs.length) ∧ (i.toNat < xs.length) ∧ ((0 : Int) ≤ i) ∧ ((i : Int) < (out.length : Int)) ∧ (i.toNat < out.length) ∧ (-9223372036854775808 ≤ (i + 1) ∧ (i + 1) ≤ 9223372036854775807) ∧ (∃ out' : List Int, ∃ i' : Int, (l_toIntS_JJ0 xs out' i') ∧ (l_toIntS_mJ0 xs out' i' < l_toIntS_mJ0 xs out i) ∧ (xs = xs) ∧ (out.length = out'.length) ∧ ((i + 1) = i') ∧ ((out.set i.toNat (xs.getD i.toNat 0)) = out'))) ∧ ((decide (i < (xs.length : Int))) = false → ((out.length = out.length) ∧ ((out : List Int) = xs))))))
theorem l_toIntS_vc (xs : List Int) (hn : xs.length ≤ 1048576) (w_xs : (xs.length : Int) ≤ 9223372036854775807) : l_toIntS_P xs := by
  unfold l_toIntS_P
  refine ⟨rfl, ?_, ?_, ?_, ?_⟩
  · first | omega | rfl | (intro hg; simp only [nrmT] at hg; omega) | (intro g1 g2; simp [g1, g2]; done) | (intro g1; simp at g1 ⊢; simp [g1]; done) | (simp only [nrmT] at *; omega) | (simp at * <;> omega) | (simp_all <;> omega) | (simp_all; done)
  · first | omega | rfl | (intro hg; simp only [nrmT] at hg; omega) | (intro g1 g2; simp [g1, g2]; done) | (intro g1; simp at g1 ⊢; simp [g1]; done) | (simp only [nrmT] at *; omega) | (simp at * <;> omega) | (simp_all <;> omega) | (simp_all; done)
  · refine ⟨(List.replicate ((xs.length : Int).toNat) (0 : Int)), 0, ?_⟩
    refine ⟨?_, rfl, ?_, rfl, rfl⟩
    · refine ⟨?_, ?_, ?_⟩
      · first | omega | rfl | (intro hg; simp only [nrmT] at hg; omega) | (intro g1 g2; simp [g1, g2]; done) | (intro g1; simp at g1 ⊢; simp [g1]; done) | (simp only [nrmT] at *; omega) | (simp at * <;> omega) | (simp_all <;> omega) | (simp_all; done)
      · first | omega | rfl | (intro hg; simp only [nrmT] at hg; omega) | (intro g1 g2; simp [g1, g2]; done) | (intro g1; simp at g1 ⊢; simp [g1]; done) | (simp only [nrmT] at *; omega) | (simp at * <;> omega) | (simp_all <;> omega) | (simp_all; done)
      · simp
    · simp
  · intro out i hJ
    obtain ⟨h1, h2, h3⟩ := hJ
    refine ⟨?_, ?_⟩
    · intro b1
      try simp only [nrmT] at b1
      refine ⟨?_, ?_, ?_, ?_, ?_, ?_, ?_, ?_⟩
      · first | omega | rfl | (intro hg; simp only [nrmT] at hg; omega) | (intro g1 g2; simp [g1, g2]; done) | (intro g1; simp at g1 ⊢; simp [g1]; done) | (simp only [nrmT] at *; omega) | (simp at * <;> omega) | (simp_all <;> omega) | (simp_all; done)
      · first | omega | rfl | (intro hg; simp only [nrmT] at hg; omega) | (intro g1 g2; simp [g1, g2]; done) | (intro g1; simp at g1 ⊢; simp [g1]; done) | (simp only [nrmT] at *; omega) | (simp at * <;> omega) | (simp_all <;> omega) | (simp_all; done)
      · first | omega | rfl | (intro hg; simp only [nrmT] at hg; omega) | (intro g1 g2; simp [g1, g2]; done) | (intro g1; simp at g1 ⊢; simp [g1]; done) | (simp only [nrmT] at *; omega) | (simp at * <;> omega) | (simp_all <;> omega) | (simp_all; done)
      · first | omega | rfl | (intro hg; simp only [nrmT] at hg; omega) | (intro g1 g2; simp [g1, g2]; done) | (intro g1; simp at g1 ⊢; simp [g1]; done) | (simp only [nrmT] at *; omega) | (simp at * <;> omega) | (simp_all <;> omega) | (simp_all; done)
      · have e : out.length = xs.length := by rw [h3]; exact copy_len (by omega) (by simp)
        omega
      · have e : out.length = xs.length := by rw [h3]; exact copy_len (by omega) (by simp)
        omega
      · first | omega | rfl | (intro hg; simp only [nrmT] at hg; omega) | (intro g1 g2; simp [g1, g2]; done) | (intro g1; simp at g1 ⊢; simp [g1]; done) | (simp only [nrmT] at *; omega) | (simp at * <;> omega) | (simp_all <;> omega) | (simp_all; done)
      · refine ⟨(out.set i.toNat (xs.getD i.toNat 0)), (i + 1), ?_⟩
        refine ⟨?_, ?_, rfl, ?_, rfl, rfl⟩
        · refine ⟨?_, ?_, ?_⟩
          · first | omega | rfl | (intro hg; simp only [nrmT] at hg; omega) | (intro g1 g2; simp [g1, g2]; done) | (intro g1; simp at g1 ⊢; simp [g1]; done) | (simp only [nrmT] at *; omega) | (simp at * <;> omega) | (simp_all <;> omega) | (simp_all; done)
          · first | omega | rfl | (intro hg; simp only [nrmT] at hg; omega) | (intro g1 g2; simp [g1, g2]; done) | (intro g1; simp at g1 ⊢; simp [g1]; done) | (simp only [nrmT] at *; omega) | (simp at * <;> omega) | (simp_all <;> omega) | (simp_all; done)
          · rw [h3]; exact copy_step h1 b1 (by simp)
        · first | (show _ < _; omega) | (simp only [l_toIntS_mJ0]; omega) | (simp only [l_toIntS_mJ0] at *; simp at *; omega)
        · simp
    · intro b2
      try simp only [nrmT] at b2
      refine ⟨rfl, ?_⟩
      · rw [h3, take_all (by omega)]; simp; omega
theorem l_toIntS_pc (xs : List Int) (hn : xs.length ≤ 1048576) : PC Try.prog 38 [.sl (.ints xs)] (.one (.d (.sl (.ints xs)))) :=
  pc_wf @Try.call38 fun hw => pc_by (by kernel_rfl) Try.func38 @Try.call38 (by kernel_rfl) l_toIntS_C (l_toIntS_A xs) (by kernel_rfl) (l_toIntS_vc xs hn hw.1) (by kernel_rfl)
def l_toIntS_orc : List D → Orc := orcN [some .ints] fun ds => match ds with
  | [.sl (.ints xs)] => some (.one (.d (.sl (.ints xs))))
  | _ => none
abbrev l_toIntSS_JJ0 (xss : List (List Int)) (out : List (List Int)) (i : Int) : Prop := (0 ≤ i) ∧ (i ≤ (xss.length : Int)) ∧ (out = xss.take i.toNat ++ (List.replicate xss.length []).drop i.toNat)
abbrev l_toIntSS_mJ0 (xss : List (List Int)) (out : List (List Int)) (i : Int) : Nat := (xss.length - i).toNat
def l_toIntSS_C (f : FuncId) (ds : List D) : Orc := bif Nat.beq f 38 then l_toIntS_orc ds else .no
def l_toIntSS_A (xss : List (List Int)) : Ann := .two (.none) (.two (.none) (.two (.two (.none) (.loop (cut2 (fun (out : List (List Int)) (i : Int) => l_toIntSS_JJ0 xss out i) (fun (out : List (List Int)) (i : Int) => [(0, .d false (.sl (.rows xss))), (3, .own 7 out.length), (4, .d true (.int .i64 i))]) (fun (out : List (List Int)) (i : Int) => [(7, .arr true 26 (.rows out))])) (fun g => l_toIntSS_mJ0 xss g.1 g.2) (fun _ => .none))) (.none)))
def l_toIntSS_P (xss : List (List Int)) : Prop :=
  ((xss.length : Int) = (xss.length : Int)) ∧ ((0 : Int) ≤ (xss.length : Int)) ∧ (((xss.length : Int) : Int) * ((24 : Nat) : Int) ≤ 140737488355328) ∧ ((∃ out' : List (List Int), ∃ i' : Int, (l_toIntSS_JJ0 xss out' i') ∧ (xss = xss) ∧ ((xss.length : Int).toNat = out'.length) ∧ ((0 : Int) = i') ∧ ((List.replicate ((xss.length : Int).toNat) ([] : List Int)) = out')) ∧ (∀ out : List (List Int), ∀ i : Int, (l_toIntSS_JJ0 xss out i) → (((decide (i < (xss.length : Int))) = true → ((0 : Int) ≤ i) ∧ ((i : Int) < xss.length) ∧ (i.toNat < xss.length) ∧ (PC Try.prog 38 [.sl (.ints (xss.getD i.toNat []))] (.one (.d (.sl (.ints (xss.getD i.toNat [])))))) ∧ ((0 : Int) ≤ i) ∧ ((i : Int) < (out.length : Int)) ∧ (i.toNat < out.length) ∧ (-9223372036854775808 ≤ (i + 1) ∧ (i + 1) ≤ 9223372036854775807) ∧ (∃ out' : List (List Int), ∃ i' : Int, (l_toIntSS_JJ0 xss out' i') ∧ (l_toIntSS_mJ0 xss out' i' < l_toIntSS_mJ0 xss out i) ∧ (xss = xss) ∧ (out.length = out'.length) ∧ ((i + 1) = i') ∧ ((out.set i.toNat (xss.getD i.toNat [])) = out'))) ∧ ((decide (i < (xss.length : Int))) = false → ((out.length = out.length) ∧ ((out : List (List Int)) = xss))))))
theorem l_toIntSS_vc (xss : List (List Int)) (hn : xss.length ≤ 1048576) (hm : ∀ xs ∈ xss, xs.length ≤ 1048576) (w_xss : (xss.length : Int) ≤ 9223372036854775807) (v_xss : ∀ x9 ∈ xss, (x9.length : Int) ≤ 9223372036854775807) : l_toIntSS_P xss := by
  unfold l_toIntSS_P
  refine ⟨rfl, ?_, ?_, ?_, ?_⟩
  · first | omega | rfl | (intro hg; simp only [nrmT] at hg; omega) | (intro g1 g2; simp [g1, g2]; done) | (intro g1; simp at g1 ⊢; simp [g1]; done) | (simp only [nrmT] at *; omega) | (simp at * <;> omega) | (simp_all <;> omega) | (simp_all; done)
  · first | omega | rfl | (intro hg; simp only [nrmT] at hg; omega) | (intro g1 g2; simp [g1, g2]; done) | (intro g1; simp at g1 ⊢; simp [g1]; done) | (simp only [nrmT] at *; omega) | (simp at * <;> omega) | (simp_all <;> omega) | (simp_all; done)
  · refine ⟨(List.replicate ((xss.length : Int).toNat) ([] : List Int)), 0, ?_⟩
    refine ⟨?_, rfl, ?_, rfl, rfl⟩
    · refine ⟨?_, ?_, ?_⟩
      · first | omega | rfl | (intro hg; simp only [nrmT] at hg; omega) | (intro g1 g2; simp [g1, g2]; done) | (intro g1; simp at g1 ⊢; simp [g1]; done) | (simp only [nrmT] at *; omega) | (simp at * <;> omega) | (simp_all <;> omega) | (simp_all; done)
      · first | omega | rfl | (intro hg; simp only [nrmT] at hg; omega) | (intro g1 g2; simp [g1, g2]; done) | (intro g1; simp at g1 ⊢; simp [g1]; done) | (simp only [nrmT] at *; omega) | (simp at * <;> omega) | (simp_all <;> omega) | (simp_all; done)
      · simp
    · simp
  · intro out i hJ
    obtain ⟨h1, h2, h3⟩ := hJ
    refine ⟨?_, ?_⟩
    · intro b1
      try simp only [nrmT] at b1
      refine ⟨?_, ?_, ?_, ?_, ?_, ?_, ?_, ?_, ?_⟩
      · first | omega | rfl | (intro hg; simp only [nrmT] at hg; omega) | (intro g1 g2; simp [g1, g2]; done) | (intro g1; simp at g1 ⊢; simp [g1]; done) | (simp only [nrmT] at *; omega) | (simp at * <;> omega) | (simp_all <;> omega) | (simp_all; done)
      · first | omega | rfl | (intro hg; simp only [nrmT] at hg; omega) | (intro g1 g2; simp [g1, g2]; done) | (intro g1; simp at g1 ⊢; simp [g1]; done) | (simp only [nrmT] at *; omega) | (simp at * <;> omega) | (simp_all <;> omega) | (simp_all; done)
      · first | omega | rfl | (intro hg; simp only [nrmT] at hg; omega) | (intro g1 g2; simp [g1, g2]; done) | (intro g1; simp at g1 ⊢; simp [g1]; done) | (simp only [nrmT] at *; omega) | (simp at * <;> omega) | (simp_all <;> omega) | (simp_all; done)
      · refine l_toIntS_pc (xss.getD i.toNat []) ?_
        · exact hm _ (getD_memI h1 b1)
      · first | omega | rfl | (intro hg; simp only [nrmT] at hg; omega) | (intro g1 g2; simp [g1, g2]; done) | (intro g1; simp at g1 ⊢; simp [g1]; done) | (simp only [nrmT] at *; omega) | (simp at * <;> omega) | (simp_all <;> omega) | (simp_all; done)
      · have e : out.length = xss.length := by rw [h3]; exact copy_len (by omega) (by simp)
        omega
      · have e : out.length = xss.length := by rw [h3]; exact copy_len (by omega) (by simp)
        omega
      · first | omega | rfl | (intro hg; simp only [nrmT] at hg; omega) | (intro g1 g2; simp [g1, g2]; done) | (intro g1; simp at g1 ⊢; simp [g1]; done) | (simp only [nrmT] at *; omega) | (simp at * <;> omega) | (simp_all <;> omega) | (simp_all; done)
      · refine ⟨(out.set i.toNat (xss.getD i.toNat [])), (i + 1), ?_⟩
        refine ⟨?_, ?_, rfl, ?_, rfl, rfl⟩
        · refine ⟨?_, ?_, ?_⟩
          · first | omega | rfl | (intro hg; simp only [nrmT] at hg; omega) | (intro g1 g2; simp [g1, g2]; done) | (intro g1; simp at g1 ⊢; simp [g1]; done) | (simp only [nrmT] at *; omega) | (simp at * <;> omega) | (simp_all <;> omega) | (simp_all; done)
          · first | omega | rfl | (intro hg; simp only [nrmT] at hg; omega) | (intro g1 g2; simp [g1, g2]; done) | (intro g1; simp at g1 ⊢; simp [g1]; done) | (simp only [nrmT] at *; omega) | (simp at * <;> omega) | (simp_all <;> omega) | (simp_all; done)
          · rw [h3]; exact copy_step h1 b1 (by simp)
        · first | (show _ < _; omega) | (simp only [l_toIntSS_mJ0]; omega) | (simp only [l_toIntSS_mJ0] at *; simp at *; omega)
        · simp
    · intro b2
      try simp only [nrmT] at b2
      refine ⟨rfl, ?_⟩
      · rw [h3, take_all (by omega)]; simp; omega
theorem l_toIntSS_pc (xss : List (List Int)) (hn : xss.length ≤ 1048576) (hm : ∀ xs ∈ xss, xs.length ≤ 1048576) : PC Try.prog 67 [.sl (.rows xss)] (.one (.d (.sl (.rows xss)))) :=
  pc_wf @Try.call67 fun hw => pc_by (by kernel_rfl) Try.func67 @Try.call67 (by kernel_rfl) l_toIntSS_C (l_toIntSS_A xss) (by kernel_rfl) (l_toIntSS_vc xss hn hm hw.1.1 hw.1.2) (by kernel_rfl)
def l_toIntSS_orc : List D → Orc := orcN [some .rows] fun ds => match ds with
  | [.sl (.rows xss)] => some (.one (.d (.sl (.rows xss))))
  | _ => none
theorem beq_of_all {α : Type} [BEq α] [LawfulBEq α] {d : α} {xs ys : List α} (hl : xs.length = ys.length) : allTo (fun k => xs.getD k d == ys.getD k d) xs.length = (xs == ys) := by
  rw [Bool.eq_iff_iff, allTo_iff]
  simp only [beq_iff_eq]
  constructor
  · intro h
    refine List.ext_getElem hl fun k h1 h2 => ?_
    have := h k h1
    simpa [h1, h2] using this
  · intro h k _
    rw [h]
theorem len_ne {α : Type} [BEq α] [LawfulBEq α] {xs ys : List α} (h : ¬ xs.length = ys.length) : (xs == ys) = false := by
  rw [Bool.eq_false_iff]; intro h2; simp only [beq_iff_eq] at h2; exact h (by rw [h2])
abbrev l_eqIntS_JJ0 (xs : List Int) (ys : List Int) (i : Int) : Prop := (0 ≤ i) ∧ (i ≤ (xs.length : Int)) ∧ (allTo (fun k => xs.getD k 0 == ys.getD k 0) i.toNat = true) ∧ (xs.length = ys.length)
abbrev l_eqIntS_mJ0 (xs : List Int) (ys : List Int) (i : Int) : Nat := (xs.length - i).toNat
def l_eqIntS_C (f : FuncId) (ds : List D) : Orc := .no
def l_eqIntS_A (xs : List Int) (ys : List Int) : Ann := .two (.none) (.two (.none) (.two (.two (.none) (.loop (cut1 (fun (i : Int) => l_eqIntS_JJ0 xs ys i) (fun (i : Int) => [(0, .d false (.sl (.ints xs))), (1, .d false (.sl (.ints ys))), (5, .d true (.int .i64 i))]) (fun (i : Int) => [])) (fun g => l_eqIntS_mJ0 xs ys g) (fun _ => .none))) (.none)))
def l_eqIntS_P (xs : List Int) (ys : List Int) : Prop :=
  ((((xs.length : Int) != (ys.length : Int)) = true → ((false = (xs == ys)))) ∧ (((xs.length : Int) != (ys.length : Int)) = false → ((∃ i' : Int, (l_eqIntS_JJ0 xs ys i') ∧ (xs = xs) ∧ (ys = ys) ∧ ((0 : Int) = i')) ∧ (∀ i : Int, (l_eqIntS_JJ0 xs ys i) → (((decide (i < (xs.length : Int))) = true → (true = true) ∧ ((0 : Int) ≤ i) ∧ ((i : Int) < xs.length) ∧ (i.toNat < xs.length) ∧ ((0 : Int) ≤ i) ∧ ((i : Int) < ys.length) ∧ (i.toNat < ys.length) ∧ ((((xs.getD i.toNat 0) != (ys.getD i.toNat 0)) = true → ((false = (xs == ys)))) ∧ (((xs.getD i.toNat 0) != (ys.getD i.toNat 0)) = false → (-9223372036854775808 ≤ (i + 1) ∧ (i + 1) ≤ 9223372036854775807) ∧ (∃ i' : Int, (l_eqIntS_JJ0 xs ys i') ∧ (l_eqIntS_mJ0 xs ys i' < l_eqIntS_mJ0 xs ys i) ∧ (xs = xs) ∧ (ys = ys) ∧ ((i + 1) = i'))))) ∧ ((decide (i < (xs.length : Int))) = false → ((true = (xs == ys)))))))))
theorem l_eqIntS_vc (xs : List Int) (ys : List Int)  (w_xs : (xs.length : Int) ≤ 9223372036854775807) (w_ys : (ys.length : Int) ≤ 9223372036854775807) : l_eqIntS_P xs ys := by
  unfold l_eqIntS_P
  refine ⟨?_, ?_⟩
  · intro b1
    try simp only [nrmT] at b1
    exact (len_ne (by omega)).symm
  · intro b2
    try simp only [nrmT] at b2
    refine ⟨?_, ?_⟩
    · refine ⟨0, ?_⟩
      refine ⟨?_, rfl, rfl, rfl⟩
      · refine ⟨?_, ?_, ?_, ?_⟩
        · first | omega | rfl | (intro hg; simp only [nrmT] at hg; omega) | (intro g1 g2; simp [g1, g2]; done) | (intro g1; simp at g1 ⊢; simp [g1]; done) | (simp only [nrmT] at *; omega) | (simp at * <;> omega) | (simp_all <;> omega) | (simp_all; done)
        · first | omega | rfl | (intro hg; simp only [nrmT] at hg; omega) | (intro g1 g2; simp [g1, g2]; done) | (intro g1; simp at g1 ⊢; simp [g1]; done) | (simp only [nrmT] at *; omega) | (simp at * <;> omega) | (simp_all <;> omega) | (simp_all; done)
        · first | omega | rfl | (intro hg; simp only [nrmT] at hg; omega) | (intro g1 g2; simp [g1, g2]; done) | (intro g1; simp at g1 ⊢; simp [g1]; done) | (simp only [nrmT] at *; omega) | (simp at * <;> omega) | (simp_all <;> omega) | (simp_all; done)
        · first | omega | rfl | (intro hg; simp only [nrmT] at hg; omega) | (intro g1 g2; simp [g1, g2]; done) | (intro g1; simp at g1 ⊢; simp [g1]; done) | (simp only [nrmT] at *; omega) | (simp at * <;> omega) | (simp_all <;> omega) | (simp_all; done)
    · intro i hJ
      obtain ⟨h1, h2, h3, h4⟩ := hJ
      refine ⟨?_, ?_⟩
      · intro b3
        try simp only [nrmT] at b3
        refine ⟨rfl, ?_, ?_, ?_, ?_, ?_, ?_, ?_, ?_⟩
        · first | omega | rfl | (intro hg; simp only [nrmT] at hg; omega) | (intro g1 g2; simp [g1, g2]; done) | (intro g1; simp at g1 ⊢; simp [g1]; done) | (simp only [nrmT] at *; omega) | (simp at * <;> omega) | (simp_all <;> omega) | (simp_all; done)
        · first | omega | rfl | (intro hg; simp only [nrmT] at hg; omega) | (intro g1 g2; simp [g1, g2]; done) | (intro g1; simp at g1 ⊢; simp [g1]; done) | (simp only [nrmT] at *; omega) | (simp at * <;> omega) | (simp_all <;> omega) | (simp_all; done)
        · first | omega | rfl | (intro hg; simp only [nrmT] at hg; omega) | (intro g1 g2; simp [g1, g2]; done) | (intro g1; simp at g1 ⊢; simp [g1]; done) | (simp only [nrmT] at *; omega) | (simp at * <;> omega) | (simp_all <;> omega) | (simp_all; done)
        · first | omega | rfl | (intro hg; simp only [nrmT] at hg; omega) | (intro g1 g2; simp [g1, g2]; done) | (intro g1; simp at g1 ⊢; simp [g1]; done) | (simp only [nrmT] at *; omega) | (simp at * <;> omega) | (simp_all <;> omega) | (simp_all; done)
        · first | omega | rfl | (intro hg; simp only [nrmT] at hg; omega) | (intro g1 g2; simp [g1, g2]; done) | (intro g1; simp at g1 ⊢; simp [g1]; done) | (simp only [nrmT] at *; omega) | (simp at * <;> omega) | (simp_all <;> omega) | (simp_all; done)
        · first | omega | rfl | (intro hg; simp only [nrmT] at hg; omega) | (intro g1 g2; simp [g1, g2]; done) | (intro g1; simp at g1 ⊢; simp [g1]; done) | (simp only [nrmT] at *; omega) | (simp at * <;> omega) | (simp_all <;> omega) | (simp_all; done)
        · intro b4
          try simp only [nrmT] at b4
          rw [← beq_of_all (d := 0) h4]; exact (allTo_falseI h1 (by omega) (by simpa using b4)).symm
        · intro b5
          try simp only [nrmT] at b5
          refine ⟨?_, ?_⟩
          · first | omega | rfl | (intro hg; simp only [nrmT] at hg; omega) | (intro g1 g2; simp [g1, g2]; done) | (intro g1; simp at g1 ⊢; simp [g1]; done) | (simp only [nrmT] at *; omega) | (simp at * <;> omega) | (simp_all <;> omega) | (simp_all; done)
          · refine ⟨(i + 1), ?_⟩
            refine ⟨?_, ?_, rfl, rfl, rfl⟩
            · refine ⟨?_, ?_, ?_, ?_⟩
              · first | omega | rfl | (intro hg; simp only [nrmT] at hg; omega) | (intro g1 g2; simp [g1, g2]; done) | (intro g1; simp at g1 ⊢; simp [g1]; done) | (simp only [nrmT] at *; omega) | (simp at * <;> omega) | (simp_all <;> omega) | (simp_all; done)
              · first | omega | rfl | (intro hg; simp only [nrmT] at hg; omega) | (intro g1 g2; simp [g1, g2]; done) | (intro g1; simp at g1 ⊢; simp [g1]; done) | (simp only [nrmT] at *; omega) | (simp at * <;> omega) | (simp_all <;> omega) | (simp_all; done)
              · exact allTo_step h1 h3 (by simpa using b5)
              · first | omega | rfl | (intro hg; simp only [nrmT] at hg; omega) | (intro g1 g2; simp [g1, g2]; done) | (intro g1; simp at g1 ⊢; simp [g1]; done) | (simp only [nrmT] at *; omega) | (simp at * <;> omega) | (simp_all <;> omega) | (simp_all; done)
            · first | (show _ < _; omega) | (simp only [l_eqIntS_mJ0]; omega) | (simp only [l_eqIntS_mJ0] at *; simp at *; omega)
      · intro b6
        try simp only [nrmT] at b6
        rw [← beq_of_all (d := 0) h4, ← h3]; congr 1; omega
theorem l_eqIntS_pc (xs : List Int) (ys : List Int)  : PC Try.prog 32 [.sl (.ints xs), .sl (.ints ys)] (.one (.d (.bool (xs == ys)))) :=
  pc_wf @Try.call32 fun hw => pc_by (by kernel_rfl) Try.func32 @Try.call32 (by kernel_rfl) l_eqIntS_C (l_eqIntS_A xs ys) (by kernel_rfl) (l_eqIntS_vc xs ys hw.1 hw.2.1) (by kernel_rfl)
def l_eqIntS_orc : List D → Orc := orcN [some .ints, some .ints] fun ds => match ds with
  | [.sl (.ints xs), .sl (.ints ys)] => some (.one (.d (.bool (xs == ys))))
  | _ => none
abbrev l_eqIntSS_JJ0 (xs : List (List Int)) (ys : List (List Int)) (i : Int) : Prop := (0 ≤ i) ∧ (i ≤ (xs.length : Int)) ∧ (allTo (fun k => xs.getD k [] == ys.getD k []) i.toNat = true) ∧ (xs.length = ys.length)
abbrev l_eqIntSS_mJ0 (xs : List (List Int)) (ys : List (List Int)) (i : Int) : Nat := (xs.length - i).toNat
def l_eqIntSS_C (f : FuncId) (ds : List D) : Orc := bif Nat.beq f 32 then l_eqIntS_orc ds else .no
def l_eqIntSS_A (xs : List (List Int)) (ys : List (List Int)) : Ann := .two (.none) (.two (.none) (.two (.two (.none) (.loop (cut1 (fun (i : Int) => l_eqIntSS_JJ0 xs ys i) (fun (i : Int) => [(0, .d false (.sl (.rows xs))), (1, .d false (.sl (.rows ys))), (5, .d true (.int .i64 i))]) (fun (i : Int) => [])) (fun g => l_eqIntSS_mJ0 xs ys g) (fun _ => .none))) (.none)))
def l_eqIntSS_P (xs : List (List Int)) (ys : List (List Int)) : Prop :=
  ((((xs.length : Int) != (ys.length : Int)) = true → ((false = (xs == ys)))) ∧ (((xs.length : Int) != (ys.length : Int)) = false → ((∃ i' : Int, (l_eqIntSS_JJ0 xs ys i') ∧ (xs = xs) ∧ (ys = ys) ∧ ((0 : Int) = i')) ∧ (∀ i : Int, (l_eqIntSS_JJ0 xs ys i) → (((decide (i < (xs.length : Int))) = true → (true = true) ∧ ((0 : Int) ≤ i) ∧ ((i : Int) < xs.length) ∧ (i.toNat < xs.length) ∧ ((0 : Int) ≤ i) ∧ ((i : Int) < ys.length) ∧ (i.toNat < ys.length) ∧ (PC Try.prog 32 [.sl (.ints (xs.getD i.toNat [])), .sl (.ints (ys.getD i.toNat []))] (.one (.d (.bool ((xs.getD i.toNat []) == (ys.getD i.toNat [])))))) ∧ (((!((xs.getD i.toNat []) == (ys.getD i.toNat []))) = true → ((false = (xs == ys)))) ∧ ((!((xs.getD i.toNat []) == (ys.getD i.toNat []))) = false → (-9223372036854775808 ≤ (i + 1) ∧ (i + 1) ≤ 9223372036854775807) ∧ (∃ i' : Int, (l_eqIntSS_JJ0 xs ys i') ∧ (l_eqIntSS_mJ0 xs ys i' < l_eqIntSS_mJ0 xs ys i) ∧ (xs = xs) ∧ (ys = ys) ∧ ((i + 1) = i'))))) ∧ ((decide (i < (xs.length : Int))) = false → ((true = (xs == ys)))))))))
theorem l_eqIntSS_vc (xs : List (List Int)) (ys : List (List Int))  (w_xs : (xs.length : Int) ≤ 9223372036854775807) (v_xs : ∀ x9 ∈ xs, (x9.length : Int) ≤ 9223372036854775807) (w_ys : (ys.length : Int) ≤ 9223372036854775807) (v_ys : ∀ x9 ∈ ys, (x9.length : Int) ≤ 9223372036854775807) : l_eqIntSS_P xs ys := by
  unfold l_eqIntSS_P
  refine ⟨?_, ?_⟩
  · intro b1
    try simp only [nrmT] at b1
    exact (len_ne (by omega)).symm
  · intro b2
    try simp only [nrmT] at b2
    refine ⟨?_, ?_⟩
    · refine ⟨0, ?_⟩
      refine ⟨?_, rfl, rfl, rfl⟩
      · refine ⟨?_, ?_, ?_, ?_⟩
        · first | omega | rfl | (intro hg; simp only [nrmT] at hg; omega) | (intro g1 g2; simp [g1, g2]; done) | (intro g1; simp at g1 ⊢; simp [g1]; done) | (simp only [nrmT] at *; omega) | (simp at * <;> omega) | (simp_all <;> omega) | (simp_all; done)
        · first | omega | rfl | (intro hg; simp only [nrmT] at hg; omega) | (intro g1 g2; simp [g1, g2]; done) | (intro g1; simp at g1 ⊢; simp [g1]; done) | (simp only [nrmT] at *; omega) | (simp at * <;> omega) | (simp_all <;> omega) | (simp_all; done)
        · first | omega | rfl | (intro hg; simp only [nrmT] at hg; omega) | (intro g1 g2; simp [g1, g2]; done) | (intro g1; simp at g1 ⊢; simp [g1]; done) | (simp only [nrmT] at *; omega) | (simp at * <;> omega) | (simp_all <;> omega) | (simp_all; done)
        · first | omega | rfl | (intro hg; simp only [nrmT] at hg; omega) | (intro g1 g2; simp [g1, g2]; done) | (intro g1; simp at g1 ⊢; simp [g1]; done) | (simp only [nrmT] at *; omega) | (simp at * <;> omega) | (simp_all <;> omega) | (simp_all; done)
    · intro i hJ
      obtain ⟨h1, h2, h3, h4⟩ := hJ
      refine ⟨?_, ?_⟩
      · intro b3
        try simp only [nrmT] at b3
        refine ⟨rfl, ?_, ?_, ?_, ?_, ?_, ?_, l_eqIntS_pc (xs.getD i.toNat []) (ys.getD i.toNat []), ?_, ?_⟩
        · first | omega | rfl | (intro hg; simp only [nrmT] at hg; omega) | (intro g1 g2; simp [g1, g2]; done) | (intro g1; simp at g1 ⊢; simp [g1]; done) | (simp only [nrmT] at *; omega) | (simp at * <;> omega) | (simp_all <;> omega) | (simp_all; done)
        · first | omega | rfl | (intro hg; simp only [nrmT] at hg; omega) | (intro g1 g2; simp [g1, g2]; done) | (intro g1; simp at g1 ⊢; simp [g1]; done) | (simp only [nrmT] at *; omega) | (simp at * <;> omega) | (simp_all <;> omega) | (simp_all; done)
        · first | omega | rfl | (intro hg; simp only [nrmT] at hg; omega) | (intro g1 g2; simp [g1, g2]; done) | (intro g1; simp at g1 ⊢; simp [g1]; done) | (simp only [nrmT] at *; omega) | (simp at * <;> omega) | (simp_all <;> omega) | (simp_all; done)
        · first | omega | rfl | (intro hg; simp only [nrmT] at hg; omega) | (intro g1 g2; simp [g1, g2]; done) | (intro g1; simp at g1 ⊢; simp [g1]; done) | (simp only [nrmT] at *; omega) | (simp at * <;> omega) | (simp_all <;> omega) | (simp_all; done)
        · first | omega | rfl | (intro hg; simp only [nrmT] at hg; omega) | (intro g1 g2; simp [g1, g2]; done) | (intro g1; simp at g1 ⊢; simp [g1]; done) | (simp only [nrmT] at *; omega) | (simp at * <;> omega) | (simp_all <;> omega) | (simp_all; done)
        · first | omega | rfl | (intro hg; simp only [nrmT] at hg; omega) | (intro g1 g2; simp [g1, g2]; done) | (intro g1; simp at g1 ⊢; simp [g1]; done) | (simp only [nrmT] at *; omega) | (simp at * <;> omega) | (simp_all <;> omega) | (simp_all; done)
        · intro b4
          try simp only [nrmT] at b4
          rw [← beq_of_all (d := []) h4]; exact (allTo_falseI h1 (by omega) (by simpa using b4)).symm
        · intro b5
          try simp only [nrmT] at b5
          refine ⟨?_, ?_⟩
          · first | omega | rfl | (intro hg; simp only [nrmT] at hg; omega) | (intro g1 g2; simp [g1, g2]; done) | (intro g1; simp at g1 ⊢; simp [g1]; done) | (simp only [nrmT] at *; omega) | (simp at * <;> omega) | (simp_all <;> omega) | (simp_all; done)
          · refine ⟨(i + 1), ?_⟩
            refine ⟨?_, ?_, rfl, rfl, rfl⟩
            · refine ⟨?_, ?_, ?_, ?_⟩
              · first | omega | rfl | (intro hg; simp only [nrmT] at hg; omega) | (intro g1 g2; simp [g1, g2]; done) | (intro g1; simp at g1 ⊢; simp [g1]; done) | (simp only [nrmT] at *; omega) | (simp at * <;> omega) | (simp_all <;> omega) | (simp_all; done)
              · first | omega | rfl | (intro hg; simp only [nrmT] at hg; omega) | (intro g1 g2; simp [g1, g2]; done) | (intro g1; simp at g1 ⊢; simp [g1]; done) | (simp only [nrmT] at *; omega) | (simp at * <;> omega) | (simp_all <;> omega) | (simp_all; done)
              · exact allTo_step h1 h3 (by simpa using b5)
              · first | omega | rfl | (intro hg; simp only [nrmT] at hg; omega) | (intro g1 g2; simp [g1, g2]; done) | (intro g1; simp at g1 ⊢; simp [g1]; done) | (simp only [nrmT] at *; omega) | (simp at * <;> omega) | (simp_all <;> omega) | (simp_all; done)
            · first | (show _ < _; omega) | (simp only [l_eqIntSS_mJ0]; omega) | (simp only [l_eqIntSS_mJ0] at *; simp at *; omega)
      · intro b6
        try simp only [nrmT] at b6
        rw [← beq_of_all (d := []) h4, ← h3]; congr 1; omega
theorem l_eqIntSS_pc (xs : List (List Int)) (ys : List (List Int))  : PC Try.prog 69 [.sl (.rows xs), .sl (.rows ys)] (.one (.d (.bool (xs == ys)))) :=
  pc_wf @Try.call69 fun hw => pc_by (by kernel_rfl) Try.func69 @Try.call69 (by kernel_rfl) l_eqIntSS_C (l_eqIntSS_A xs ys) (by kernel_rfl) (l_eqIntSS_vc xs ys hw.1.1 hw.1.2 hw.2.1.1 hw.2.1.2) (by kernel_rfl)
def l_eqIntSS_orc : List D → Orc := orcN [some .rows, some .rows] fun ds => match ds with
  | [.sl (.rows xs), .sl (.rows ys)] => some (.one (.d (.bool (xs == ys))))
  | _ => none
def rowOk (row : List Int) (n most : Int) : Bool := row.all (fun x => inB x 0 most) && decide ((row.length : Int) = n)
def goodField (Open : List Int) (Dist : List (List Int)) : Bool :=
  inB (Open.length : Int) 1 7 && Open.all (fun x => inB x 0 99) && decide (Dist.length ≤ 7) && Dist.all (fun l => rowOk l (Open.length : Int) 99)
theorem gf_open {Open : List Int} {Dist : List (List Int)} (h : goodField Open Dist = true) : 1 ≤ Open.length ∧ Open.length ≤ 7 ∧ Dist.length ≤ 7 := by
  simp only [goodField, Bool.and_eq_true, decide_eq_true_eq] at h
  have := inB_le h.1.1.1
  omega
theorem gf_row {Open : List Int} {Dist : List (List Int)} (h : goodField Open Dist = true) {i : Nat} (hi : i < Dist.length) : (Dist.getD i []).length = Open.length ∧ ∀ a, a < Open.length → 0 ≤ (Dist.getD i []).getD a 0 ∧ (Dist.getD i []).getD a 0 ≤ 99 := by
  simp only [goodField, Bool.and_eq_true, decide_eq_true_eq] at h
  have h2 := List.all_eq_true.1 h.2 _ (getD_mem (d := []) hi)
  simp only [rowOk, Bool.and_eq_true, decide_eq_true_eq] at h2
  refine ⟨by omega, fun a ha => ?_⟩
  exact inB_le (List.all_eq_true.1 h2.1 _ (getD_mem (by omega)))
def szField (o : List Int) (d : List (List Int)) (left : Int) : Int := if sz1 o.length left < 0 then -1 else if szRows d (sz1 o.length left) < 0 then -1 else szRows d (sz1 o.length left)
theorem szField_bound {o : List Int} {d : List (List Int)} {left : Int} (h : 0 ≤ szField o d left) : (o.length : Int) ≤ left ∧ (d.length : Int) ≤ left ∧ (∀ xs ∈ d, (xs.length : Int) ≤ left) := by
  unfold szField at h
  by_cases h1 : sz1 o.length left < 0
  · rw [if_pos h1] at h; omega
  · rw [if_neg h1] at h
    obtain ⟨a1, a2⟩ := sz1_bound (by omega : 0 ≤ sz1 o.length left)
    by_cases h2 : szRows d (sz1 o.length left) < 0
    · rw [if_pos h2] at h; omega
    · obtain ⟨b1, b2, b3⟩ := szRows_bound (by omega : 0 ≤ szRows d (sz1 o.length left))
      exact ⟨a2, by omega, fun xs hx => by have := b3 xs hx; omega⟩
def l_szField_C (f : FuncId) (ds : List D) : Orc := bif Nat.beq f 98 then l_szIntS_orc ds else bif Nat.beq f 65 then l_szIntSS_orc ds else .no
def l_szField_A (Open : List Int) (Dist : List (List Int)) (left : Int) : Ann := .none
def l_szField_P (Open : List Int) (Dist : List (List Int)) (left : Int) : Prop :=
  (PC Try.prog 98 [.sl (.ints Open), .int .i64 left] (.one (.d (.int .i64 (sz1 Open.length left))))) ∧ (((decide ((sz1 Open.length left) < 0)) = true → ((((-1) : Int) = (szField Open Dist left)))) ∧ ((decide ((sz1 Open.length left) < 0)) = false → (PC Try.prog 65 [.sl (.rows Dist), .int .i64 (sz1 Open.length left)] (.one (.d (.int .i64 (szRows Dist (sz1 Open.length left)))))) ∧ (((decide ((szRows Dist (sz1 Open.length left)) < 0)) = true → ((((-1) : Int) = (szField Open Dist left)))) ∧ ((decide ((szRows Dist (sz1 Open.length left)) < 0)) = false → (((szRows Dist (sz1 Open.length left)) = (szField Open Dist left)))))))
theorem l_szField_vc (Open : List Int) (Dist : List (List Int)) (left : Int) (hl : 0 ≤ left ∧ left ≤ 1048576) (w_Open : (Open.length : Int) ≤ 9223372036854775807) (w_Dist : (Dist.length : Int) ≤ 9223372036854775807) (v_Dist : ∀ x9 ∈ Dist, (x9.length : Int) ≤ 9223372036854775807) : l_szField_P Open Dist left := by
  unfold l_szField_P
  refine ⟨?_, ?_, ?_⟩
  · refine l_szIntS_pc Open left ?_
    · first | omega | rfl | (intro hg; simp only [nrmT] at hg; omega) | (intro g1 g2; simp [g1, g2]; done) | (intro g1; simp at g1 ⊢; simp [g1]; done) | (simp only [nrmT] at *; omega) | (simp at * <;> omega) | (simp_all <;> omega) | (simp_all; done)
  · intro b1
    try simp only [nrmT] at b1
    unfold szField; first | rw [if_pos (by omega)] | rw [if_neg (by omega), if_pos (by omega)] | rw [if_neg (by omega), if_neg (by omega)]
  · intro b2
    try simp only [nrmT] at b2
    refine ⟨?_, ?_, ?_⟩
    · refine l_szIntSS_pc Dist (sz1 Open.length left) ?_
      · have := sz1_bound (n := Open.length) (left := left) (by omega); omega
    · intro b3
      try simp only [nrmT] at b3
      unfold szField; first | rw [if_pos (by omega)] | rw [if_neg (by omega), if_pos (by omega)] | rw [if_neg (by omega), if_neg (by omega)]
    · intro b4
      try simp only [nrmT] at b4
      unfold szField; first | rw [if_pos (by omega)] | rw [if_neg (by omega), if_pos (by omega)] | rw [if_neg (by omega), if_neg (by omega)]
theorem l_szField_pc (Open : List Int) (Dist : List (List Int)) (left : Int) (hl : 0 ≤ left ∧ left ≤ 1048576) : PC Try.prog 40 [.agg [.sl (.ints Open), .sl (.rows Dist)], .int .i64 left] (.one (.d (.int .i64 (szField Open Dist left)))) :=
  pc_wf @Try.call40 fun hw => pc_by (by kernel_rfl) Try.func40 @Try.call40 (by kernel_rfl) l_szField_C (l_szField_A Open Dist left) (by kernel_rfl) (l_szField_vc Open Dist left hl hw.1.1 hw.1.2.1.1 hw.1.2.1.2) (by kernel_rfl)
def l_szField_orc : List D → Orc := orcN [none, none] fun ds => match ds with
  | [.agg [.sl (.ints Open), .sl (.rows Dist)], .int .i64 left] => some (.one (.d (.int .i64 (szField Open Dist left))))
  | _ => none
def l_toField_C (f : FuncId) (ds : List D) : Orc := bif Nat.beq f 38 then l_toIntS_orc ds else bif Nat.beq f 67 then l_toIntSS_orc ds else .no
def l_toField_A (Open : List Int) (Dist : List (List Int)) : Ann := .none
def l_toField_P (Open : List Int) (Dist : List (List Int)) : Prop :=
  (PC Try.prog 38 [.sl (.ints Open)] (.one (.d (.sl (.ints Open))))) ∧ (PC Try.prog 67 [.sl (.rows Dist)] (.one (.d (.sl (.rows Dist))))) ∧ (((.agg [.sl (.ints Open), .sl (.rows Dist)] : D) = .agg [.sl (.ints Open), .sl (.rows Dist)]))
theorem l_toField_vc (Open : List Int) (Dist : List (List Int)) (h1 : Open.length ≤ 1048576) (h2 : Dist.length ≤ 1048576) (h3 : ∀ xs ∈ Dist, xs.length ≤ 1048576) (w_Open : (Open.length : Int) ≤ 9223372036854775807) (w_Dist : (Dist.length : Int) ≤ 9223372036854775807) (v_Dist : ∀ x9 ∈ Dist, (x9.length : Int) ≤ 9223372036854775807) : l_toField_P Open Dist := by
  unfold l_toField_P
  refine ⟨?_, ?_, rfl⟩
  · refine l_toIntS_pc Open ?_
    · assumption
  · refine l_toIntSS_pc Dist ?_ ?_
    · assumption
    · assumption
theorem l_toField_pc (Open : List Int) (Dist : List (List Int)) (h1 : Open.length ≤ 1048576) (h2 : Dist.length ≤ 1048576) (h3 : ∀ xs ∈ Dist, xs.length ≤ 1048576) : PC Try.prog 42 [.agg [.sl (.ints Open), .sl (.rows Dist)]] (.one (.d (.agg [.sl (.ints Open), .sl (.rows Dist)]))) :=
  pc_wf @Try.call42 fun hw => pc_by (by kernel_rfl) Try.func42 @Try.call42 (by kernel_rfl) l_toField_C (l_toField_A Open Dist) (by kernel_rfl) (l_toField_vc Open Dist h1 h2 h3 hw.1.1 hw.1.2.1.1 hw.1.2.1.2) (by kernel_rfl)
def l_toField_orc : List D → Orc := orcN [none] fun ds => match ds with
  | [.agg [.sl (.ints Open), .sl (.rows Dist)]] => some (.one (.d (.agg [.sl (.ints Open), .sl (.rows Dist)])))
  | _ => none
def l_eqField_C (f : FuncId) (ds : List D) : Orc := bif Nat.beq f 32 then l_eqIntS_orc ds else bif Nat.beq f 69 then l_eqIntSS_orc ds else .no
def l_eqField_A (o1 : List Int) (d1 : List (List Int)) (o2 : List Int) (d2 : List (List Int)) : Ann := .none
def l_eqField_P (o1 : List Int) (d1 : List (List Int)) (o2 : List Int) (d2 : List (List Int)) : Prop :=
  (PC Try.prog 32 [.sl (.ints o1), .sl (.ints o2)] (.one (.d (.bool (o1 == o2))))) ∧ (((!(o1 == o2)) = true → ((false = ((o1 == o2) && (d1 == d2))))) ∧ ((!(o1 == o2)) = false → (PC Try.prog 69 [.sl (.rows d1), .sl (.rows d2)] (.one (.d (.bool (d1 == d2))))) ∧ (((!(d1 == d2)) = true → ((false = ((o1 == o2) && (d1 == d2))))) ∧ ((!(d1 == d2)) = false → ((true = ((o1 == o2) && (d1 == d2))))))))
theorem l_eqField_vc (o1 : List Int) (d1 : List (List Int)) (o2 : List Int) (d2 : List (List Int))  (w_o1 : (o1.length : Int) ≤ 9223372036854775807) (w_d1 : (d1.length : Int) ≤ 9223372036854775807) (v_d1 : ∀ x9 ∈ d1, (x9.length : Int) ≤ 9223372036854775807) (w_o2 : (o2.length : Int) ≤ 9223372036854775807) (w_d2 : (d2.length : Int) ≤ 9223372036854775807) (v_d2 : ∀ x9 ∈ d2, (x9.length : Int) ≤ 9223372036854775807) : l_eqField_P o1 d1 o2 d2 := by
  unfold l_eqField_P
  refine ⟨l_eqIntS_pc o1 o2, ?_, ?_⟩
  · intro b1
    try simp only [nrmT] at b1
    first | omega | rfl | (intro hg; simp only [nrmT] at hg; omega) | (intro g1 g2; simp [g1, g2]; done) | (intro g1; simp at g1 ⊢; simp [g1]; done) | (simp only [nrmT] at *; omega) | (simp at * <;> omega) | (simp_all <;> omega) | (simp_all; done)
  · intro b2
    try simp only [nrmT] at b2
    refine ⟨l_eqIntSS_pc d1 d2, ?_, ?_⟩
    · intro b3
      try simp only [nrmT] at b3
      first | omega | rfl | (intro hg; simp only [nrmT] at hg; omega) | (intro g1 g2; simp [g1, g2]; done) | (intro g1; simp at g1 ⊢; simp [g1]; done) | (simp only [nrmT] at *; omega) | (simp at * <;> omega) | (simp_all <;> omega) | (simp_all; done)
    · intro b4
      try simp only [nrmT] at b4
      first | omega | rfl | (intro hg; simp only [nrmT] at hg; omega) | (intro g1 g2; simp [g1, g2]; done) | (intro g1; simp at g1 ⊢; simp [g1]; done) | (simp only [nrmT] at *; omega) | (simp at * <;> omega) | (simp_all <;> omega) | (simp_all; done)
theorem l_eqField_pc (o1 : List Int) (d1 : List (List Int)) (o2 : List Int) (d2 : List (List Int))  : PC Try.prog 44 [.agg [.sl (.ints o1), .sl (.rows d1)], .agg [.sl (.ints o2), .sl (.rows d2)]] (.one (.d (.bool ((o1 == o2) && (d1 == d2))))) :=
  pc_wf @Try.call44 fun hw => pc_by (by kernel_rfl) Try.func44 @Try.call44 (by kernel_rfl) l_eqField_C (l_eqField_A o1 d1 o2 d2) (by kernel_rfl) (l_eqField_vc o1 d1 o2 d2 hw.1.1 hw.1.2.1.1 hw.1.2.1.2 hw.2.1.1 hw.2.1.2.1.1 hw.2.1.2.1.2) (by kernel_rfl)
def l_eqField_orc : List D → Orc := orcN [none, none] fun ds => match ds with
  | [.agg [.sl (.ints o1), .sl (.rows d1)], .agg [.sl (.ints o2), .sl (.rows d2)]] => some (.one (.d (.bool ((o1 == o2) && (d1 == d2)))))
  | _ => none
abbrev s_l2Row_JJ0 (row : List Int) (n : Int) (most : Int) (i : Int) : Prop := (0 ≤ i) ∧ (i ≤ (row.length : Int)) ∧ (allTo (fun k => inB (row.getD k 0) 0 most) i.toNat = true)
abbrev s_l2Row_mJ0 (row : List Int) (n : Int) (most : Int) (i : Int) : Nat := (row.length - i).toNat
def s_l2Row_C (f : FuncId) (ds : List D) : Orc := bif Nat.beq f 104 then s_l1In_orc ds else .no
def s_l2Row_A (row : List Int) (n : Int) (most : Int) : Ann := .two (.none) (.two (.two (.none) (.loop (cut1 (fun (i : Int) => s_l2Row_JJ0 row n most i) (fun (i : Int) => [(0, .d false (.sl (.ints row))), (1, .d false (.int .i64 n)), (2, .d false (.int .i64 most)), (7, .d true (.int .i64 i))]) (fun (i : Int) => [])) (fun g => s_l2Row_mJ0 row n most g) (fun _ => .none))) (.none))
def s_l2Row_P (row : List Int) (n : Int) (most : Int) : Prop :=
  ((∃ i' : Int, (s_l2Row_JJ0 row n most i') ∧ (row = row) ∧ (n = n) ∧ (most = most) ∧ ((0 : Int) = i')) ∧ (∀ i : Int, (s_l2Row_JJ0 row n most i) → (((decide (i < (row.length : Int))) = true → ((0 : Int) ≤ i) ∧ ((i : Int) < row.length) ∧ (i.toNat < row.length) ∧ (PC Try.prog 104 [.int .i64 (row.getD i.toNat 0), .int .i64 0, .int .i64 most] (.one (.d (.bool (inB (row.getD i.toNat 0) 0 most))))) ∧ (((!(inB (row.getD i.toNat 0) 0 most)) = true → ((false = (rowOk row n most)))) ∧ ((!(inB (row.getD i.toNat 0) 0 most)) = false → (-9223372036854775808 ≤ (i + 1) ∧ (i + 1) ≤ 9223372036854775807) ∧ (∃ i' : Int, (s_l2Row_JJ0 row n most i') ∧ (s_l2Row_mJ0 row n most i' < s_l2Row_mJ0 row n most i) ∧ (row = row) ∧ (n = n) ∧ (most = most) ∧ ((i + 1) = i'))))) ∧ ((decide (i < (row.length : Int))) = false → ((((row.length : Int) == n) = (rowOk row n most)))))))
theorem s_l2Row_vc (row : List Int) (n : Int) (most : Int)  (w_row : (row.length : Int) ≤ 9223372036854775807) : s_l2Row_P row n most := by
  unfold s_l2Row_P
  refine ⟨?_, ?_⟩
  · refine ⟨0, ?_⟩
    refine ⟨?_, rfl, rfl, rfl, rfl⟩
    · refine ⟨?_, ?_, ?_⟩
      · first | omega | rfl | (intro hg; simp only [nrmT] at hg; omega) | (intro g1 g2; simp [g1, g2]; done) | (intro g1; simp at g1 ⊢; simp [g1]; done) | (simp only [nrmT] at *; omega) | (simp at * <;> omega) | (simp_all <;> omega) | (simp_all; done)
      · first | omega | rfl | (intro hg; simp only [nrmT] at hg; omega) | (intro g1 g2; simp [g1, g2]; done) | (intro g1; simp at g1 ⊢; simp [g1]; done) | (simp only [nrmT] at *; omega) | (simp at * <;> omega) | (simp_all <;> omega) | (simp_all; done)
      · first | omega | rfl | (intro hg; simp only [nrmT] at hg; omega) | (intro g1 g2; simp [g1, g2]; done) | (intro g1; simp at g1 ⊢; simp [g1]; done) | (simp only [nrmT] at *; omega) | (simp at * <;> omega) | (simp_all <;> omega) | (simp_all; done)
  · intro i hJ
    obtain ⟨h1, h2, h3⟩ := hJ
    refine ⟨?_, ?_⟩
    · intro b1
      try simp only [nrmT] at b1
      refine ⟨?_, ?_, ?_, s_l1In_pc (row.getD i.toNat 0) 0 most, ?_, ?_⟩
      · first | omega | rfl | (intro hg; simp only [nrmT] at hg; omega) | (intro g1 g2; simp [g1, g2]; done) | (intro g1; simp at g1 ⊢; simp [g1]; done) | (simp only [nrmT] at *; omega) | (simp at * <;> omega) | (simp_all <;> omega) | (simp_all; done)
      · first | omega | rfl | (intro hg; simp only [nrmT] at hg; omega) | (intro g1 g2; simp [g1, g2]; done) | (intro g1; simp at g1 ⊢; simp [g1]; done) | (simp only [nrmT] at *; omega) | (simp at * <;> omega) | (simp_all <;> omega) | (simp_all; done)
      · first | omega | rfl | (intro hg; simp only [nrmT] at hg; omega) | (intro g1 g2; simp [g1, g2]; done) | (intro g1; simp at g1 ⊢; simp [g1]; done) | (simp only [nrmT] at *; omega) | (simp at * <;> omega) | (simp_all <;> omega) | (simp_all; done)
      · intro b2
        try simp only [nrmT] at b2
        unfold rowOk
        rw [all_no (p := fun x => inB x 0 most) (d := 0) h1 (by omega) b2]; rfl
      · intro b3
        try simp only [nrmT] at b3
        refine ⟨?_, ?_⟩
        · first | omega | rfl | (intro hg; simp only [nrmT] at hg; omega) | (intro g1 g2; simp [g1, g2]; done) | (intro g1; simp at g1 ⊢; simp [g1]; done) | (simp only [nrmT] at *; omega) | (simp at * <;> omega) | (simp_all <;> omega) | (simp_all; done)
        · refine ⟨(i + 1), ?_⟩
          refine ⟨?_, ?_, rfl, rfl, rfl, rfl⟩
          · refine ⟨?_, ?_, ?_⟩
            · first | omega | rfl | (intro hg; simp only [nrmT] at hg; omega) | (intro g1 g2; simp [g1, g2]; done) | (intro g1; simp at g1 ⊢; simp [g1]; done) | (simp only [nrmT] at *; omega) | (simp at * <;> omega) | (simp_all <;> omega) | (simp_all; done)
            · first | omega | rfl | (intro hg; simp only [nrmT] at hg; omega) | (intro g1 g2; simp [g1, g2]; done) | (intro g1; simp at g1 ⊢; simp [g1]; done) | (simp only [nrmT] at *; omega) | (simp at * <;> omega) | (simp_all <;> omega) | (simp_all; done)
            · exact allTo_step h1 h3 b3
          · first | (show _ < _; omega) | (simp only [s_l2Row_mJ0]; omega) | (simp only [s_l2Row_mJ0] at *; simp at *; omega)
    · intro b4
      try simp only [nrmT] at b4
      unfold rowOk
      rw [all_end (p := fun x => inB x 0 most) (d := 0) (by omega) h2 h3, Bool.true_and]; rfl
theorem s_l2Row_pc (row : List Int) (n : Int) (most : Int)  : PC Try.prog 165 [.sl (.ints row), .int .i64 n, .int .i64 most] (.one (.d (.bool (rowOk row n most)))) :=
  pc_wf @Try.call165 fun hw => pc_by (by kernel_rfl) Try.func165 @Try.call165 (by kernel_rfl) s_l2Row_C (s_l2Row_A row n most) (by kernel_rfl) (s_l2Row_vc row n most hw.1) (by kernel_rfl)
def s_l2Row_orc : List D → Orc := orcN [some .ints, none, none] fun ds => match ds with
  | [.sl (.ints row), .int .i64 n, .int .i64 most] => some (.one (.d (.bool (rowOk row n most))))
  | _ => none
abbrev s_l2Good_JJ0 (Open : List Int) (Dist : List (List Int)) (i : Int) : Prop := (0 ≤ i) ∧ (i ≤ (Dist.length : Int)) ∧ (allTo (fun k => rowOk (Dist.getD k []) (Open.length : Int) 99) i.toNat = true)
abbrev s_l2Good_mJ0 (Open : List Int) (Dist : List (List Int)) (i : Int) : Nat := (Dist.length - i).toNat
def s_l2Good_C (f : FuncId) (ds : List D) : Orc := bif Nat.beq f 165 then s_l2Row_orc ds else bif Nat.beq f 104 then s_l1In_orc ds else .no
def s_l2Good_A (Open : List Int) (Dist : List (List Int)) : Ann := .two (.none) (.two (.none) (.two (.two (.none) (.loop (cut1 (fun (i : Int) => s_l2Good_JJ0 Open Dist i) (fun (i : Int) => [(1, .ptr 1 0), (3, .d true (.int .i64 (Open.length : Int))), (4, .d true (.int .i64 i))]) (fun (i : Int) => [(1, .box 44 [.d false (.sl (.ints Open)), .d false (.sl (.rows Dist))])])) (fun g => s_l2Good_mJ0 Open Dist g) (fun _ => .none))) (.none)))
def s_l2Good_P (Open : List Int) (Dist : List (List Int)) : Prop :=
  ((∃ i' : Int, (s_l2Good_JJ0 Open Dist i') ∧ ((Open.length : Int) = (Open.length : Int)) ∧ ((0 : Int) = i') ∧ (Open = Open) ∧ (Dist = Dist)) ∧ (∀ i : Int, (s_l2Good_JJ0 Open Dist i) → (((decide (i < (Dist.length : Int))) = true → ((0 : Int) ≤ i) ∧ ((i : Int) < Dist.length) ∧ (i.toNat < Dist.length) ∧ (PC Try.prog 165 [.sl (.ints (Dist.getD i.toNat [])), .int .i64 (Open.length : Int), .int .i64 99] (.one (.d (.bool (rowOk (Dist.getD i.toNat []) (Open.length : Int) 99))))) ∧ (((!(rowOk (Dist.getD i.toNat []) (Open.length : Int) 99)) = true → ((false = (goodField Open Dist)))) ∧ ((!(rowOk (Dist.getD i.toNat []) (Open.length : Int) 99)) = false → (-9223372036854775808 ≤ (i + 1) ∧ (i + 1) ≤ 9223372036854775807) ∧ (∃ i' : Int, (s_l2Good_JJ0 Open Dist i') ∧ (s_l2Good_mJ0 Open Dist i' < s_l2Good_mJ0 Open Dist i) ∧ ((Open.length : Int) = (Open.length : Int)) ∧ ((i + 1) = i') ∧ (Open = Open) ∧ (Dist = Dist))))) ∧ ((decide (i < (Dist.length : Int))) = false → (PC Try.prog 104 [.int .i64 (Open.length : Int), .int .i64 1, .int .i64 7] (.one (.d (.bool (inB (Open.length : Int) 1 7))))) ∧ ((inB (Open.length : Int) 1 7) = true → (inB (Open.length : Int) 1 7) = true) ∧ ((inB (Open.length : Int) 1 7) = true → (inB (Open.length : Int) 1 7) = true) ∧ ((inB (Open.length : Int) 1 7) = true → (inB (Open.length : Int) 1 7) = true) ∧ ((inB (Open.length : Int) 1 7) = true → PC Try.prog 165 [.sl (.ints Open), .int .i64 (Open.length : Int), .int .i64 99] (.one (.d (.bool (rowOk Open (Open.length : Int) 99))))) ∧ (true = true) ∧ (((inB (Open.length : Int) 1 7) = true → (inB (Open.length : Int) 1 7) = true)) ∧ (((inB (Open.length : Int) 1 7) = false → true = true)) ∧ ((cond (inB (Open.length : Int) 1 7) (rowOk Open (Open.length : Int) 99) false) = true → (cond (inB (Open.length : Int) 1 7) (rowOk Open (Open.length : Int) 99) false) = true) ∧ ((cond (inB (Open.length : Int) 1 7) (rowOk Open (Open.length : Int) 99) false) = true → (cond (inB (Open.length : Int) 1 7) (rowOk Open (Open.length : Int) 99) false) = true) ∧ ((cond (inB (Open.length : Int) 1 7) (rowOk Open (Open.length : Int) 99) false) = true → (cond (inB (Open.length : Int) 1 7) (rowOk Open (Open.length : Int) 99) false) = true) ∧ (true = true) ∧ (((cond (inB (Open.length : Int) 1 7) (rowOk Open (Open.length : Int) 99) false) = true → (cond (inB (Open.length : Int) 1 7) (rowOk Open (Open.length : Int) 99) false) = true)) ∧ (((cond (inB (Open.length : Int) 1 7) (rowOk Open (Open.length : Int) 99) false) = false → true = true)) ∧ (((cond (cond (inB (Open.length : Int) 1 7) (rowOk Open (Open.length : Int) 99) false) (decide ((Dist.length : Int) ≤ 7)) false) = (goodField Open Dist)))))))
theorem s_l2Good_vc (Open : List Int) (Dist : List (List Int))  (w_Open : (Open.length : Int) ≤ 9223372036854775807) (w_Dist : (Dist.length : Int) ≤ 9223372036854775807) (v_Dist : ∀ x9 ∈ Dist, (x9.length : Int) ≤ 9223372036854775807) : s_l2Good_P Open Dist := by
  unfold s_l2Good_P
  refine ⟨?_, ?_⟩
  · refine ⟨0, ?_⟩
    refine ⟨?_, rfl, rfl, rfl, rfl⟩
    · refine ⟨?_, ?_, ?_⟩
      · first | omega | rfl | (intro hg; simp only [nrmT] at hg; omega) | (intro g1 g2; simp [g1, g2]; done) | (intro g1; simp at g1 ⊢; simp [g1]; done) | (simp only [nrmT] at *; omega) | (simp at * <;> omega) | (simp_all <;> omega) | (simp_all; done)
      · first | omega | rfl | (intro hg; simp only [nrmT] at hg; omega) | (intro g1 g2; simp [g1, g2]; done) | (intro g1; simp at g1 ⊢; simp [g1]; done) | (simp only [nrmT] at *; omega) | (simp at * <;> omega) | (simp_all <;> omega) | (simp_all; done)
      · first | omega | rfl | (intro hg; simp only [nrmT] at hg; omega) | (intro g1 g2; simp [g1, g2]; done) | (intro g1; simp at g1 ⊢; simp [g1]; done) | (simp only [nrmT] at *; omega) | (simp at * <;> omega) | (simp_all <;> omega) | (simp_all; done)
  · intro i hJ
    obtain ⟨h1, h2, h3⟩ := hJ
    refine ⟨?_, ?_⟩
    · intro b1
      try simp only [nrmT] at b1
      refine ⟨?_, ?_, ?_, s_l2Row_pc (Dist.getD i.toNat []) (Open.length : Int) 99, ?_, ?_⟩
      · first | omega | rfl | (intro hg; simp only [nrmT] at hg; omega) | (intro g1 g2; simp [g1, g2]; done) | (intro g1; simp at g1 ⊢; simp [g1]; done) | (simp only [nrmT] at *; omega) | (simp at * <;> omega) | (simp_all <;> omega) | (simp_all; done)
      · first | omega | rfl | (intro hg; simp only [nrmT] at hg; omega) | (intro g1 g2; simp [g1, g2]; done) | (intro g1; simp at g1 ⊢; simp [g1]; done) | (simp only [nrmT] at *; omega) | (simp at * <;> omega) | (simp_all <;> omega) | (simp_all; done)
      · first | omega | rfl | (intro hg; simp only [nrmT] at hg; omega) | (intro g1 g2; simp [g1, g2]; done) | (intro g1; simp at g1 ⊢; simp [g1]; done) | (simp only [nrmT] at *; omega) | (simp at * <;> omega) | (simp_all <;> omega) | (simp_all; done)
      · intro b2
        try simp only [nrmT] at b2
        unfold goodField
        rw [all_no (p := fun l => rowOk l (Open.length : Int) 99) (d := []) h1 (by omega) b2, Bool.and_false]
      · intro b3
        try simp only [nrmT] at b3
        refine ⟨?_, ?_⟩
        · first | omega | rfl | (intro hg; simp only [nrmT] at hg; omega) | (intro g1 g2; simp [g1, g2]; done) | (intro g1; simp at g1 ⊢; simp [g1]; done) | (simp only [nrmT] at *; omega) | (simp at * <;> omega) | (simp_all <;> omega) | (simp_all; done)
        · refine ⟨(i + 1), ?_⟩
          refine ⟨?_, ?_, rfl, rfl, rfl, rfl⟩
          · refine ⟨?_, ?_, ?_⟩
            · first | omega | rfl | (intro hg; simp only [nrmT] at hg; omega) | (intro g1 g2; simp [g1, g2]; done) | (intro g1; simp at g1 ⊢; simp [g1]; done) | (simp only [nrmT] at *; omega) | (simp at * <;> omega) | (simp_all <;> omega) | (simp_all; done)
            · first | omega | rfl | (intro hg; simp only [nrmT] at hg; omega) | (intro g1 g2; simp [g1, g2]; done) | (intro g1; simp at g1 ⊢; simp [g1]; done) | (simp only [nrmT] at *; omega) | (simp at * <;> omega) | (simp_all <;> omega) | (simp_all; done)
            · exact allTo_step h1 h3 b3
          · first | (show _ < _; omega) | (simp only [s_l2Good_mJ0]; omega) | (simp only [s_l2Good_mJ0] at *; simp at *; omega)
    · intro b4
      try simp only [nrmT] at b4
      refine ⟨s_l1In_pc (Open.length : Int) 1 7, id, id, id, fun _ => s_l2Row_pc Open (Open.length : Int) 99, rfl, id, fun _ => rfl, id, id, id, rfl, id, fun _ => rfl, ?_⟩
      · unfold goodField
        rw [all_end (p := fun l => rowOk l (Open.length : Int) 99) (d := []) (by omega) h2 h3, show decide ((Dist.length : Int) ≤ 7) = decide (Dist.length ≤ 7) from len_le _ 7]
        unfold rowOk
        cases inB (Open.length : Int) 1 7 <;> cases Open.all (fun x => inB x 0 99) <;> cases decide (Dist.length ≤ 7) <;> simp
theorem s_l2Good_pc (Open : List Int) (Dist : List (List Int))  : PC Try.prog 99 [.agg [.sl (.ints Open), .sl (.rows Dist)]] (.one (.d (.bool (goodField Open Dist)))) :=
  pc_wf @Try.call99 fun hw => pc_by (by kernel_rfl) Try.func99 @Try.call99 (by kernel_rfl) s_l2Good_C (s_l2Good_A Open Dist) (by kernel_rfl) (s_l2Good_vc Open Dist hw.1.1 hw.1.2.1.1 hw.1.2.1.2) (by kernel_rfl)
def s_l2Good_orc : List D → Orc := orcN [none] fun ds => match ds with
  | [.agg [.sl (.ints Open), .sl (.rows Dist)]] => some (.one (.d (.bool (goodField Open Dist))))
  | _ => none
def i_IsField_1_C (f : FuncId) (ds : List D) : Orc := bif Nat.beq f 162 then i_areBetween_orc ds else .no
def i_IsField_1_A (xs : List Int) (Open : List Int) (Dist : List (List Int)) : Ann := .none
def i_IsField_1_P (xs : List Int) (Open : List Int) (Dist : List (List Int)) : Prop :=
  ((!((xs.length : Int) != (Open.length : Int))) = true → (!((xs.length : Int) != (Open.length : Int))) = true) ∧ ((!((xs.length : Int) != (Open.length : Int))) = true → PC Try.prog 162 [.sl (.ints xs), .int .i64 0, .int .i64 99] (.one (.d (.bool (xs.all (fun x => inB x 0 99)))))) ∧ ((!((xs.length : Int) != (Open.length : Int))) = true → (!((xs.length : Int) != (Open.length : Int))) = true) ∧ (true = true) ∧ ((((xs.length : Int) != (Open.length : Int)) = true → true = true)) ∧ ((((xs.length : Int) != (Open.length : Int)) = false → (!((xs.length : Int) != (Open.length : Int))) = true)) ∧ (((cond ((xs.length : Int) != (Open.length : Int)) true (!(xs.all (fun x => inB x 0 99)))) = (!(rowOk xs (Open.length : Int) 99))))
theorem i_IsField_1_vc (xs : List Int) (Open : List Int) (Dist : List (List Int))  (w_xs : (xs.length : Int) ≤ 9223372036854775807) (w_Open : (Open.length : Int) ≤ 9223372036854775807) (w_Dist : (Dist.length : Int) ≤ 9223372036854775807) (v_Dist : ∀ x9 ∈ Dist, (x9.length : Int) ≤ 9223372036854775807) : i_IsField_1_P xs Open Dist := by
  unfold i_IsField_1_P
  refine ⟨id, fun _ => i_areBetween_pc xs 0 99, id, rfl, fun _ => rfl, ?_, ?_⟩
  · first | omega | rfl | (intro hg; simp only [nrmT] at hg; omega) | (intro g1 g2; simp [g1, g2]; done) | (intro g1; simp at g1 ⊢; simp [g1]; done) | (simp only [nrmT] at *; omega) | (simp at * <;> omega) | (simp_all <;> omega) | (simp_all; done)
  · unfold rowOk
    by_cases h : (xs.length : Int) = (Open.length : Int)
    · simp [h]
    · simp [h]
theorem i_IsField_1_pc (xs : List Int) (Open : List Int) (Dist : List (List Int))  : PC Try.prog 171 [.sl (.ints xs), .bx [.sl (.ints Open), .sl (.rows Dist)] 0] (.one (.d (.bool (!(rowOk xs (Open.length : Int) 99))))) :=
  pc_wf @Try.call171 fun hw => pc_by (by kernel_rfl) Try.func171 @Try.call171 (by kernel_rfl) i_IsField_1_C (i_IsField_1_A xs Open Dist) (by kernel_rfl) (i_IsField_1_vc xs Open Dist hw.1 hw.2.1.1 hw.2.1.2.1.1 hw.2.1.2.1.2) (by kernel_rfl)
def i_IsField_1_orc : List D → Orc := orcN [some .ints, none] fun ds => match ds with
  | [.sl (.ints xs), .bx [.sl (.ints Open), .sl (.rows Dist)] 0] => some (.one (.d (.bool (!(rowOk xs (Open.length : Int) 99)))))
  | _ => none
abbrev slices_IndexFunc_int_int_iF_JJ0 (xs : List (List Int)) (Open : List Int) (Dist : List (List Int)) (i : Int) : Prop := (0 ≤ i) ∧ (i ≤ (xs.length : Int)) ∧ (∀ k, k < i.toNat → (fun x => !(rowOk x (Open.length : Int) 99)) (xs.getD k []) = false)
abbrev slices_IndexFunc_int_int_iF_mJ0 (xs : List (List Int)) (Open : List Int) (Dist : List (List Int)) (i : Int) : Nat := (xs.length - i).toNat
def slices_IndexFunc_int_int_iF_C (f : FuncId) (ds : List D) : Orc := bif Nat.beq f 171 then i_IsField_1_orc ds else .no
def slices_IndexFunc_int_int_iF_A (xs : List (List Int)) (Open : List Int) (Dist : List (List Int)) : Ann := .two (.none) (.two (.two (.none) (.loop (cut1 (fun (i : Int) => slices_IndexFunc_int_int_iF_JJ0 xs Open Dist i) (fun (i : Int) => [(0, .d false (.sl (.rows xs))), (1, .d false (.fn 171 [.bx [.sl (.ints Open), .sl (.rows Dist)] 0])), (7, .d true (.int .i64 (xs.length : Int))), (8, .d true (.int .i64 i))]) (fun (i : Int) => [])) (fun g => slices_IndexFunc_int_int_iF_mJ0 xs Open Dist g) (fun _ => .none))) (.none))
def slices_IndexFunc_int_int_iF_P (xs : List (List Int)) (Open : List Int) (Dist : List (List Int)) : Prop :=
  ((∃ i' : Int, (slices_IndexFunc_int_int_iF_JJ0 xs Open Dist i') ∧ (xs = xs) ∧ ((.fn 171 [.bx [.sl (.ints Open), .sl (.rows Dist)] 0] : D) = (.fn 171 [.bx [.sl (.ints Open), .sl (.rows Dist)] 0] : D)) ∧ ((xs.length : Int) = (xs.length : Int)) ∧ ((0 : Int) = i')) ∧ (∀ i : Int, (slices_IndexFunc_int_int_iF_JJ0 xs Open Dist i) → (((decide (i < (xs.length : Int))) = true → ((0 : Int) ≤ i) ∧ ((i : Int) < xs.length) ∧ (i.toNat < xs.length) ∧ (PC Try.prog 171 [.sl (.ints (xs.getD i.toNat [])), .bx [.sl (.ints Open), .sl (.rows Dist)] 0] (.one (.d (.bool (!(rowOk (xs.getD i.toNat []) (Open.length : Int) 99)))))) ∧ (((!(rowOk (xs.getD i.toNat []) (Open.length : Int) 99)) = true → ((i = (idxI (fun x => !(rowOk x (Open.length : Int) 99)) xs)))) ∧ ((!(rowOk (xs.getD i.toNat []) (Open.length : Int) 99)) = false → (-9223372036854775808 ≤ (i + 1) ∧ (i + 1) ≤ 9223372036854775807) ∧ (∃ i' : Int, (slices_IndexFunc_int_int_iF_JJ0 xs Open Dist i') ∧ (slices_IndexFunc_int_int_iF_mJ0 xs Open Dist i' < slices_IndexFunc_int_int_iF_mJ0 xs Open Dist i) ∧ (xs = xs) ∧ ((.fn 171 [.bx [.sl (.ints Open), .sl (.rows Dist)] 0] : D) = (.fn 171 [.bx [.sl (.ints Open), .sl (.rows Dist)] 0] : D)) ∧ ((xs.length : Int) = (xs.length : Int)) ∧ ((i + 1) = i'))))) ∧ ((decide (i < (xs.length : Int))) = false → ((((-1) : Int) = (idxI (fun x => !(rowOk x (Open.length : Int) 99)) xs)))))))
theorem slices_IndexFunc_int_int_iF_vc (xs : List (List Int)) (Open : List Int) (Dist : List (List Int))  (w_xs : (xs.length : Int) ≤ 9223372036854775807) (v_xs : ∀ x9 ∈ xs, (x9.length : Int) ≤ 9223372036854775807) (w_Open : (Open.length : Int) ≤ 9223372036854775807) (w_Dist : (Dist.length : Int) ≤ 9223372036854775807) (v_Dist : ∀ x9 ∈ Dist, (x9.length : Int) ≤ 9223372036854775807) : slices_IndexFunc_int_int_iF_P xs Open Dist := by
  unfold slices_IndexFunc_int_int_iF_P
  refine ⟨?_, ?_⟩
  · refine ⟨0, ?_⟩
    refine ⟨?_, rfl, rfl, rfl, rfl⟩
    · refine ⟨?_, ?_, ?_⟩
      · first | omega | rfl | (intro hg; simp only [nrmT] at hg; omega) | (intro g1 g2; simp [g1, g2]; done) | (intro g1; simp at g1 ⊢; simp [g1]; done) | (simp only [nrmT] at *; omega) | (simp at * <;> omega) | (simp_all <;> omega) | (simp_all; done)
      · first | omega | rfl | (intro hg; simp only [nrmT] at hg; omega) | (intro g1 g2; simp [g1, g2]; done) | (intro g1; simp at g1 ⊢; simp [g1]; done) | (simp only [nrmT] at *; omega) | (simp at * <;> omega) | (simp_all <;> omega) | (simp_all; done)
      · first | omega | rfl | (intro hg; simp only [nrmT] at hg; omega) | (intro g1 g2; simp [g1, g2]; done) | (intro g1; simp at g1 ⊢; simp [g1]; done) | (simp only [nrmT] at *; omega) | (simp at * <;> omega) | (simp_all <;> omega) | (simp_all; done)
  · intro i hJ
    obtain ⟨h1, h2, h3⟩ := hJ
    refine ⟨?_, ?_⟩
    · intro b1
      try simp only [nrmT] at b1
      refine ⟨?_, ?_, ?_, i_IsField_1_pc (xs.getD i.toNat []) Open Dist, ?_, ?_⟩
      · first | omega | rfl | (intro hg; simp only [nrmT] at hg; omega) | (intro g1 g2; simp [g1, g2]; done) | (intro g1; simp at g1 ⊢; simp [g1]; done) | (simp only [nrmT] at *; omega) | (simp at * <;> omega) | (simp_all <;> omega) | (simp_all; done)
      · first | omega | rfl | (intro hg; simp only [nrmT] at hg; omega) | (intro g1 g2; simp [g1, g2]; done) | (intro g1; simp at g1 ⊢; simp [g1]; done) | (simp only [nrmT] at *; omega) | (simp at * <;> omega) | (simp_all <;> omega) | (simp_all; done)
      · first | omega | rfl | (intro hg; simp only [nrmT] at hg; omega) | (intro g1 g2; simp [g1, g2]; done) | (intro g1; simp at g1 ⊢; simp [g1]; done) | (simp only [nrmT] at *; omega) | (simp at * <;> omega) | (simp_all <;> omega) | (simp_all; done)
      · intro b2
        try simp only [nrmT] at b2
        exact idx_found (p := fun x => !(rowOk x (Open.length : Int) 99)) h1 b1 h3 (by simpa using b2)
      · intro b3
        try simp only [nrmT] at b3
        refine ⟨?_, ?_⟩
        · first | omega | rfl | (intro hg; simp only [nrmT] at hg; omega) | (intro g1 g2; simp [g1, g2]; done) | (intro g1; simp at g1 ⊢; simp [g1]; done) | (simp only [nrmT] at *; omega) | (simp at * <;> omega) | (simp_all <;> omega) | (simp_all; done)
        · refine ⟨(i + 1), ?_⟩
          refine ⟨?_, ?_, rfl, rfl, rfl, rfl⟩
          · refine ⟨?_, ?_, ?_⟩
            · first | omega | rfl | (intro hg; simp only [nrmT] at hg; omega) | (intro g1 g2; simp [g1, g2]; done) | (intro g1; simp at g1 ⊢; simp [g1]; done) | (simp only [nrmT] at *; omega) | (simp at * <;> omega) | (simp_all <;> omega) | (simp_all; done)
            · first | omega | rfl | (intro hg; simp only [nrmT] at hg; omega) | (intro g1 g2; simp [g1, g2]; done) | (intro g1; simp at g1 ⊢; simp [g1]; done) | (simp only [nrmT] at *; omega) | (simp at * <;> omega) | (simp_all <;> omega) | (simp_all; done)
            · exact idx_step (p := fun x => !(rowOk x (Open.length : Int) 99)) h1 h3 (by simpa using b3)
          · first | (show _ < _; omega) | (simp only [slices_IndexFunc_int_int_iF_mJ0]; omega) | (simp only [slices_IndexFunc_int_int_iF_mJ0] at *; simp at *; omega)
    · intro b4
      try simp only [nrmT] at b4
      exact (idx_none (by omega) h3).symm
theorem slices_IndexFunc_int_int_iF_pc (xs : List (List Int)) (Open : List Int) (Dist : List (List Int))  : PC Try.prog 204 [.sl (.rows xs), .fn 171 [.bx [.sl (.ints Open), .sl (.rows Dist)] 0]] (.one (.d (.int .i64 (idxI (fun x => !(rowOk x (Open.length : Int) 99)) xs)))) :=
  pc_wf @Try.call204 fun hw => pc_by (by kernel_rfl) Try.func204 @Try.call204 (by kernel_rfl) slices_IndexFunc_int_int_iF_C (slices_IndexFunc_int_int_iF_A xs Open Dist) (by kernel_rfl) (slices_IndexFunc_int_int_iF_vc xs Open Dist hw.1.1 hw.1.2 hw.2.1.1.1 hw.2.1.1.2.1.1 hw.2.1.1.2.1.2) (by kernel_rfl)
def slices_IndexFunc_int_int_iF_orc : List D → Orc := orcN [some .rows, none] fun ds => match ds with
  | [.sl (.rows xs), .fn f0 [.bx [.sl (.ints Open), .sl (.rows Dist)] 0]] => bif Nat.beq f0 171 then some (.one (.d (.int .i64 (idxI (fun x => !(rowOk x (Open.length : Int) 99)) xs)))) else none
  | _ => none
def slices_ContainsFunc_int_int_iF_C (f : FuncId) (ds : List D) : Orc := bif Nat.beq f 204 then slices_IndexFunc_int_int_iF_orc ds else .no
def slices_ContainsFunc_int_int_iF_A (xs : List (List Int)) (Open : List Int) (Dist : List (List Int)) : Ann := .none
def slices_ContainsFunc_int_int_iF_P (xs : List (List Int)) (Open : List Int) (Dist : List (List Int)) : Prop :=
  (PC Try.prog 204 [.sl (.rows xs), .fn 171 [.bx [.sl (.ints Open), .sl (.rows Dist)] 0]] (.one (.d (.int .i64 (idxI (fun x => !(rowOk x (Open.length : Int) 99)) xs))))) ∧ (((decide ((idxI (fun x => !(rowOk x (Open.length : Int) 99)) xs) ≥ 0)) = (xs.any (fun x => !(rowOk x (Open.length : Int) 99)))))
theorem slices_ContainsFunc_int_int_iF_vc (xs : List (List Int)) (Open : List Int) (Dist : List (List Int))  (w_xs : (xs.length : Int) ≤ 9223372036854775807) (v_xs : ∀ x9 ∈ xs, (x9.length : Int) ≤ 9223372036854775807) (w_Open : (Open.length : Int) ≤ 9223372036854775807) (w_Dist : (Dist.length : Int) ≤ 9223372036854775807) (v_Dist : ∀ x9 ∈ Dist, (x9.length : Int) ≤ 9223372036854775807) : slices_ContainsFunc_int_int_iF_P xs Open Dist := by
  unfold slices_ContainsFunc_int_int_iF_P
  refine ⟨slices_IndexFunc_int_int_iF_pc xs Open Dist, ?_⟩
  · exact idx_any _ _
theorem slices_ContainsFunc_int_int_iF_pc (xs : List (List Int)) (Open : List Int) (Dist : List (List Int))  : PC Try.prog 170 [.sl (.rows xs), .fn 171 [.bx [.sl (.ints Open), .sl (.rows Dist)] 0]] (.one (.d (.bool (xs.any (fun x => !(rowOk x (Open.length : Int) 99)))))) :=
  pc_wf @Try.call170 fun hw => pc_by (by kernel_rfl) Try.func170 @Try.call170 (by kernel_rfl) slices_ContainsFunc_int_int_iF_C (slices_ContainsFunc_int_int_iF_A xs Open Dist) (by kernel_rfl) (slices_ContainsFunc_int_int_iF_vc xs Open Dist hw.1.1 hw.1.2 hw.2.1.1.1 hw.2.1.1.2.1.1 hw.2.1.1.2.1.2) (by kernel_rfl)
def slices_ContainsFunc_int_int_iF_orc : List D → Orc := orcN [some .rows, none] fun ds => match ds with
  | [.sl (.rows xs), .fn f0 [.bx [.sl (.ints Open), .sl (.rows Dist)] 0]] => bif Nat.beq f0 171 then some (.one (.d (.bool (xs.any (fun x => !(rowOk x (Open.length : Int) 99)))))) else none
  | _ => none
def i_IsField_C (f : FuncId) (ds : List D) : Orc := bif Nat.beq f 107 then i_between_orc ds else bif Nat.beq f 162 then i_areBetween_orc ds else bif Nat.beq f 170 then slices_ContainsFunc_int_int_iF_orc ds else .no
def i_IsField_A (Open : List Int) (Dist : List (List Int)) : Ann := .none
def i_IsField_P (Open : List Int) (Dist : List (List Int)) : Prop :=
  (PC Try.prog 107 [.int .i64 (Open.length : Int), .int .i64 1, .int .i64 7] (.one (.d (.bool (inB (Open.length : Int) 1 7))))) ∧ ((inB (Open.length : Int) 1 7) = true → (inB (Open.length : Int) 1 7) = true) ∧ ((inB (Open.length : Int) 1 7) = true → (inB (Open.length : Int) 1 7) = true) ∧ ((inB (Open.length : Int) 1 7) = true → PC Try.prog 162 [.sl (.ints Open), .int .i64 0, .int .i64 99] (.one (.d (.bool (Open.all (fun x => inB x 0 99)))))) ∧ (true = true) ∧ (((inB (Open.length : Int) 1 7) = true → (inB (Open.length : Int) 1 7) = true)) ∧ (((inB (Open.length : Int) 1 7) = false → true = true)) ∧ ((cond (inB (Open.length : Int) 1 7) (Open.all (fun x => inB x 0 99)) false) = true → (cond (inB (Open.length : Int) 1 7) (Open.all (fun x => inB x 0 99)) false) = true) ∧ ((cond (inB (Open.length : Int) 1 7) (Open.all (fun x => inB x 0 99)) false) = true → (cond (inB (Open.length : Int) 1 7) (Open.all (fun x => inB x 0 99)) false) = true) ∧ ((cond (inB (Open.length : Int) 1 7) (Open.all (fun x => inB x 0 99)) false) = true → (cond (inB (Open.length : Int) 1 7) (Open.all (fun x => inB x 0 99)) false) = true) ∧ (true = true) ∧ (((cond (inB (Open.length : Int) 1 7) (Open.all (fun x => inB x 0 99)) false) = true → (cond (inB (Open.length : Int) 1 7) (Open.all (fun x => inB x 0 99)) false) = true)) ∧ (((cond (inB (Open.length : Int) 1 7) (Open.all (fun x => inB x 0 99)) false) = false → true = true)) ∧ ((cond (cond (inB (Open.length : Int) 1 7) (Open.all (fun x => inB x 0 99)) false) (decide ((Dist.length : Int) ≤ 7)) false) = true → (cond (cond (inB (Open.length : Int) 1 7) (Open.all (fun x => inB x 0 99)) false) (decide ((Dist.length : Int) ≤ 7)) false) = true) ∧ ((cond (cond (inB (Open.length : Int) 1 7) (Open.all (fun x => inB x 0 99)) false) (decide ((Dist.length : Int) ≤ 7)) false) = true → (cond (cond (inB (Open.length : Int) 1 7) (Open.all (fun x => inB x 0 99)) false) (decide ((Dist.length : Int) ≤ 7)) false) = true) ∧ ((cond (cond (inB (Open.length : Int) 1 7) (Open.all (fun x => inB x 0 99)) false) (decide ((Dist.length : Int) ≤ 7)) false) = true → (cond (cond (inB (Open.length : Int) 1 7) (Open.all (fun x => inB x 0 99)) false) (decide ((Dist.length : Int) ≤ 7)) false) = true) ∧ ((cond (cond (inB (Open.length : Int) 1 7) (Open.all (fun x => inB x 0 99)) false) (decide ((Dist.length : Int) ≤ 7)) false) = true → PC Try.prog 170 [.sl (.rows Dist), .fn 171 [.bx [.sl (.ints Open), .sl (.rows Dist)] 0]] (.one (.d (.bool (Dist.any (fun x => !(rowOk x (Open.length : Int) 99))))))) ∧ ((cond (cond (inB (Open.length : Int) 1 7) (Open.all (fun x => inB x 0 99)) false) (decide ((Dist.length : Int) ≤ 7)) false) = true → (cond (cond (inB (Open.length : Int) 1 7) (Open.all (fun x => inB x 0 99)) false) (decide ((Dist.length : Int) ≤ 7)) false) = true) ∧ (true = true) ∧ (((cond (cond (inB (Open.length : Int) 1 7) (Open.all (fun x => inB x 0 99)) false) (decide ((Dist.length : Int) ≤ 7)) false) = true → (cond (cond (inB (Open.length : Int) 1 7) (Open.all (fun x => inB x 0 99)) false) (decide ((Dist.length : Int) ≤ 7)) false) = true)) ∧ (((cond (cond (inB (Open.length : Int) 1 7) (Open.all (fun x => inB x 0 99)) false) (decide ((Dist.length : Int) ≤ 7)) false) = false → true = true)) ∧ (((cond (cond (cond (inB (Open.length : Int) 1 7) (Open.all (fun x => inB x 0 99)) false) (decide ((Dist.length : Int) ≤ 7)) false) (!(Dist.any (fun x => !(rowOk x (Open.length : Int) 99)))) false) = (goodField Open Dist)))
theorem i_IsField_vc (Open : List Int) (Dist : List (List Int))  (w_Open : (Open.length : Int) ≤ 9223372036854775807) (w_Dist : (Dist.length : Int) ≤ 9223372036854775807) (v_Dist : ∀ x9 ∈ Dist, (x9.length : Int) ≤ 9223372036854775807) : i_IsField_P Open Dist := by
  unfold i_IsField_P
  refine ⟨i_between_pc (Open.length : Int) 1 7, id, id, fun _ => i_areBetween_pc Open 0 99, rfl, id, fun _ => rfl, id, id, id, rfl, id, fun _ => rfl, id, id, id, fun _ => slices_ContainsFunc_int_int_iF_pc Dist Open Dist, id, rfl, id, fun _ => rfl, ?_⟩
  · unfold goodField
    rw [any_not, show decide ((Dist.length : Int) ≤ 7) = decide (Dist.length ≤ 7) from len_le _ 7]
    cases inB (Open.length : Int) 1 7 <;> cases Open.all (fun x => inB x 0 99) <;> cases decide (Dist.length ≤ 7) <;> simp
theorem i_IsField_pc (Open : List Int) (Dist : List (List Int))  : PC Try.prog 106 [.agg [.sl (.ints Open), .sl (.rows Dist)]] (.one (.d (.bool (goodField Open Dist)))) :=
  pc_wf @Try.call106 fun hw => pc_by (by kernel_rfl) Try.func106 @Try.call106 (by kernel_rfl) i_IsField_C (i_IsField_A Open Dist) (by kernel_rfl) (i_IsField_vc Open Dist hw.1.1 hw.1.2.1.1 hw.1.2.1.2) (by kernel_rfl)
def i_IsField_orc : List D → Orc := orcN [none] fun ds => match ds with
  | [.agg [.sl (.ints Open), .sl (.rows Dist)]] => some (.one (.d (.bool (goodField Open Dist))))
  | _ => none
def s_l1Least_C (f : FuncId) (ds : List D) : Orc := .no
def s_l1Least_A (a : Int) (b : Int) : Ann := .none
def s_l1Least_P (a : Int) (b : Int) : Prop :=
  (((decide (a < b)) = true → ((a = (min a b)))) ∧ ((decide (a < b)) = false → ((b = (min a b)))))
theorem s_l1Least_vc (a : Int) (b : Int)   : s_l1Least_P a b := by
  unfold s_l1Least_P
  refine ⟨?_, ?_⟩
  · intro b1
    try simp only [nrmT] at b1
    first | omega | rfl | (intro hg; simp only [nrmT] at hg; omega) | (intro g1 g2; simp [g1, g2]; done) | (intro g1; simp at g1 ⊢; simp [g1]; done) | (simp only [nrmT] at *; omega) | (simp at * <;> omega) | (simp_all <;> omega) | (simp_all; done)
  · intro b2
    try simp only [nrmT] at b2
    first | omega | rfl | (intro hg; simp only [nrmT] at hg; omega) | (intro g1 g2; simp [g1, g2]; done) | (intro g1; simp at g1 ⊢; simp [g1]; done) | (simp only [nrmT] at *; omega) | (simp at * <;> omega) | (simp_all <;> omega) | (simp_all; done)
theorem s_l1Least_pc (a : Int) (b : Int)  : PC Try.prog 206 [.int .i64 a, .int .i64 b] (.one (.d (.int .i64 (min a b)))) :=
  pc_wf @Try.call206 fun _ => pc_by (by kernel_rfl) Try.func206 @Try.call206 (by kernel_rfl) s_l1Least_C (s_l1Least_A a b) (by kernel_rfl) (s_l1Least_vc a b) (by kernel_rfl)
def s_l1Least_orc : List D → Orc := orcN [none, none] fun ds => match ds with
  | [.int .i64 a, .int .i64 b] => some (.one (.d (.int .i64 (min a b))))
  | _ => none
def sumTo (f : Nat → Int) (n : Nat) : Int := foldTo (fun s k => s + f k) 0 n
theorem sumTo_step {f : Nat → Int} {i : Int} (h : 0 ≤ i) : sumTo f (i + 1).toNat = sumTo f i.toNat + f i.toNat := foldTo_step h
theorem rising_at {xs : List Int} {lo hi : Int} (h : rising xs lo hi = true) : ∀ k, k < xs.length → lo + k ≤ xs.getD k 0 ∧ xs.getD k 0 ≤ hi := by
  intro k
  induction k with
  | zero =>
    intro hk
    have h1 := allTo_iff.1 h 0 hk
    simp only [risingP, Bool.and_eq_true] at h1
    have := inB_le h1.1
    omega
  | succ k ih =>
    intro hk
    have h0 := ih (by omega)
    have h1 := allTo_iff.1 h (k + 1) hk
    simp only [risingP, Bool.and_eq_true, Bool.or_eq_true, decide_eq_true_eq, Nat.add_sub_cancel] at h1
    have := inB_le h1.1
    have h2 := h1.2
    omega
theorem rowOk_at {row : List Int} {n most : Int} (h : rowOk row n most = true) : (row.length : Int) = n ∧ ∀ k, k < row.length → 0 ≤ row.getD k 0 ∧ row.getD k 0 ≤ most := by
  simp only [rowOk, Bool.and_eq_true, decide_eq_true_eq] at h
  exact ⟨h.2, fun k hk => inB_le (List.all_eq_true.1 h.1 _ (getD_mem hk))⟩
abbrev s_l7Numbers_JJ0 (list : List Int) (n : Int) (most : Int) (i : Int) : Prop := (0 ≤ i) ∧ (i ≤ (list.length : Int)) ∧ (allTo (fun k => inB (list.getD k 0) 0 most) i.toNat = true)
abbrev s_l7Numbers_mJ0 (list : List Int) (n : Int) (most : Int) (i : Int) : Nat := (list.length - i).toNat
def s_l7Numbers_C (f : FuncId) (ds : List D) : Orc := bif Nat.beq f 104 then s_l1In_orc ds else .no
def s_l7Numbers_A (list : List Int) (n : Int) (most : Int) : Ann := .two (.none) (.two (.two (.none) (.loop (cut1 (fun (i : Int) => s_l7Numbers_JJ0 list n most i) (fun (i : Int) => [(0, .d false (.sl (.ints list))), (1, .d false (.int .i64 n)), (2, .d false (.int .i64 most)), (7, .d true (.int .i64 i))]) (fun (i : Int) => [])) (fun g => s_l7Numbers_mJ0 list n most g) (fun _ => .none))) (.none))
def s_l7Numbers_P (list : List Int) (n : Int) (most : Int) : Prop :=
  ((∃ i' : Int, (s_l7Numbers_JJ0 list n most i') ∧ (list = list) ∧ (n = n) ∧ (most = most) ∧ ((0 : Int) = i')) ∧ (∀ i : Int, (s_l7Numbers_JJ0 list n most i) → (((decide (i < (list.length : Int))) = true → ((0 : Int) ≤ i) ∧ ((i : Int) < list.length) ∧ (i.toNat < list.length) ∧ (PC Try.prog 104 [.int .i64 (list.getD i.toNat 0), .int .i64 0, .int .i64 most] (.one (.d (.bool (inB (list.getD i.toNat 0) 0 most))))) ∧ (((!(inB (list.getD i.toNat 0) 0 most)) = true → ((false = (rowOk list n most)))) ∧ ((!(inB (list.getD i.toNat 0) 0 most)) = false → (-9223372036854775808 ≤ (i + 1) ∧ (i + 1) ≤ 9223372036854775807) ∧ (∃ i' : Int, (s_l7Numbers_JJ0 list n most i') ∧ (s_l7Numbers_mJ0 list n most i' < s_l7Numbers_mJ0 list n most i) ∧ (list = list) ∧ (n = n) ∧ (most = most) ∧ ((i + 1) = i'))))) ∧ ((decide (i < (list.length : Int))) = false → ((((list.length : Int) == n) = (rowOk list n most)))))))
theorem s_l7Numbers_vc (list : List Int) (n : Int) (most : Int)  (w_list : (list.length : Int) ≤ 9223372036854775807) : s_l7Numbers_P list n most := by
  unfold s_l7Numbers_P
  refine ⟨?_, ?_⟩
  · refine ⟨0, ?_⟩
    refine ⟨?_, rfl, rfl, rfl, rfl⟩
    · refine ⟨?_, ?_, ?_⟩
      · first | omega | rfl | (intro hg; simp only [nrmT] at hg; omega) | (intro g1 g2; simp [g1, g2]; done) | (intro g1; simp at g1 ⊢; simp [g1]; done) | (simp only [nrmT] at *; omega) | (simp at * <;> omega) | (simp_all <;> omega) | (simp_all; done)
      · first | omega | rfl | (intro hg; simp only [nrmT] at hg; omega) | (intro g1 g2; simp [g1, g2]; done) | (intro g1; simp at g1 ⊢; simp [g1]; done) | (simp only [nrmT] at *; omega) | (simp at * <;> omega) | (simp_all <;> omega) | (simp_all; done)
      · first | omega | rfl | (intro hg; simp only [nrmT] at hg; omega) | (intro g1 g2; simp [g1, g2]; done) | (intro g1; simp at g1 ⊢; simp [g1]; done) | (simp only [nrmT] at *; omega) | (simp at * <;> omega) | (simp_all <;> omega) | (simp_all; done)
  · intro i hJ
    obtain ⟨h1, h2, h3⟩ := hJ
    refine ⟨?_, ?_⟩
    · intro b1
      try simp only [nrmT] at b1
      refine ⟨?_, ?_, ?_, s_l1In_pc (list.getD i.toNat 0) 0 most, ?_, ?_⟩
      · first | omega | rfl | (intro hg; simp only [nrmT] at hg; omega) | (intro g1 g2; simp [g1, g2]; done) | (intro g1; simp at g1 ⊢; simp [g1]; done) | (simp only [nrmT] at *; omega) | (simp at * <;> omega) | (simp_all <;> omega) | (simp_all; done)
      · first | omega | rfl | (intro hg; simp only [nrmT] at hg; omega) | (intro g1 g2; simp [g1, g2]; done) | (intro g1; simp at g1 ⊢; simp [g1]; done) | (simp only [nrmT] at *; omega) | (simp at * <;> omega) | (simp_all <;> omega) | (simp_all; done)
      · first | omega | rfl | (intro hg; simp only [nrmT] at hg; omega) | (intro g1 g2; simp [g1, g2]; done) | (intro g1; simp at g1 ⊢; simp [g1]; done) | (simp only [nrmT] at *; omega) | (simp at * <;> omega) | (simp_all <;> omega) | (simp_all; done)
      · intro b2
        try simp only [nrmT] at b2
        unfold rowOk
        rw [all_no (p := fun x => inB x 0 most) (d := 0) h1 (by omega) b2]; rfl
      · intro b3
        try simp only [nrmT] at b3
        refine ⟨?_, ?_⟩
        · first | omega | rfl | (intro hg; simp only [nrmT] at hg; omega) | (intro g1 g2; simp [g1, g2]; done) | (intro g1; simp at g1 ⊢; simp [g1]; done) | (simp only [nrmT] at *; omega) | (simp at * <;> omega) | (simp_all <;> omega) | (simp_all; done)
        · refine ⟨(i + 1), ?_⟩
          refine ⟨?_, ?_, rfl, rfl, rfl, rfl⟩
          · refine ⟨?_, ?_, ?_⟩
            · first | omega | rfl | (intro hg; simp only [nrmT] at hg; omega) | (intro g1 g2; simp [g1, g2]; done) | (intro g1; simp at g1 ⊢; simp [g1]; done) | (simp only [nrmT] at *; omega) | (simp at * <;> omega) | (simp_all <;> omega) | (simp_all; done)
            · first | omega | rfl | (intro hg; simp only [nrmT] at hg; omega) | (intro g1 g2; simp [g1, g2]; done) | (intro g1; simp at g1 ⊢; simp [g1]; done) | (simp only [nrmT] at *; omega) | (simp at * <;> omega) | (simp_all <;> omega) | (simp_all; done)
            · exact allTo_step h1 h3 b3
          · first | (show _ < _; omega) | (simp only [s_l7Numbers_mJ0]; omega) | (simp only [s_l7Numbers_mJ0] at *; simp at *; omega)
    · intro b4
      try simp only [nrmT] at b4
      unfold rowOk
      rw [all_end (p := fun x => inB x 0 most) (d := 0) (by omega) h2 h3, Bool.true_and]; rfl
theorem s_l7Numbers_pc (list : List Int) (n : Int) (most : Int)  : PC Try.prog 180 [.sl (.ints list), .int .i64 n, .int .i64 most] (.one (.d (.bool (rowOk list n most)))) :=
  pc_wf @Try.call180 fun hw => pc_by (by kernel_rfl) Try.func180 @Try.call180 (by kernel_rfl) s_l7Numbers_C (s_l7Numbers_A list n most) (by kernel_rfl) (s_l7Numbers_vc list n most hw.1) (by kernel_rfl)
def s_l7Numbers_orc : List D → Orc := orcN [some .ints, none, none] fun ds => match ds with
  | [.sl (.ints list), .int .i64 n, .int .i64 most] => some (.one (.d (.bool (rowOk list n most))))
  | _ => none
theorem rowOk_cond (row : List Int) (n : Nat) (most : Int) : rowOk row (n : Int) most = (((row.length : Int) == (n : Int)) && row.all (fun x => inB x 0 most)) := by
  unfold rowOk
  rw [Bool.and_comm]
  congr 1
def s_l7Needs_C (f : FuncId) (ds : List D) : Orc := bif Nat.beq f 180 then s_l7Numbers_orc ds else .no
def s_l7Needs_A (Open : List Int) (Dist : List (List Int)) (rooms : List Int) (needs : List Int) : Ann := .none
def s_l7Needs_P (Open : List Int) (Dist : List (List Int)) (rooms : List Int) (needs : List Int) : Prop :=
  (PC Try.prog 180 [.sl (.ints rooms), .int .i64 (Open.length : Int), .int .i64 20] (.one (.d (.bool (rowOk rooms (Open.length : Int) 20))))) ∧ ((rowOk rooms (Open.length : Int) 20) = true → (rowOk rooms (Open.length : Int) 20) = true) ∧ ((rowOk rooms (Open.length : Int) 20) = true → (rowOk rooms (Open.length : Int) 20) = true) ∧ ((rowOk rooms (Open.length : Int) 20) = true → (rowOk rooms (Open.length : Int) 20) = true) ∧ ((rowOk rooms (Open.length : Int) 20) = true → (rowOk rooms (Open.length : Int) 20) = true) ∧ ((rowOk rooms (Open.length : Int) 20) = true → PC Try.prog 180 [.sl (.ints needs), .int .i64 (Dist.length : Int), .int .i64 5] (.one (.d (.bool (rowOk needs (Dist.length : Int) 5))))) ∧ (true = true) ∧ (((rowOk rooms (Open.length : Int) 20) = true → (rowOk rooms (Open.length : Int) 20) = true)) ∧ (((rowOk rooms (Open.length : Int) 20) = false → true = true)) ∧ (((cond (rowOk rooms (Open.length : Int) 20) (rowOk needs (Dist.length : Int) 5) false) = (rowOk rooms (Open.length : Int) 20 && rowOk needs (Dist.length : Int) 5)))
theorem s_l7Needs_vc (Open : List Int) (Dist : List (List Int)) (rooms : List Int) (needs : List Int)  (w_Open : (Open.length : Int) ≤ 9223372036854775807) (w_Dist : (Dist.length : Int) ≤ 9223372036854775807) (v_Dist : ∀ x9 ∈ Dist, (x9.length : Int) ≤ 9223372036854775807) (w_rooms : (rooms.length : Int) ≤ 9223372036854775807) (w_needs : (needs.length : Int) ≤ 9223372036854775807) : s_l7Needs_P Open Dist rooms needs := by
  unfold s_l7Needs_P
  refine ⟨s_l7Numbers_pc rooms (Open.length : Int) 20, id, id, id, id, fun _ => s_l7Numbers_pc needs (Dist.length : Int) 5, rfl, id, fun _ => rfl, ?_⟩
  · cases rowOk rooms (Open.length : Int) 20 <;> rfl
theorem s_l7Needs_pc (Open : List Int) (Dist : List (List Int)) (rooms : List Int) (needs : List Int)  : PC Try.prog 179 [.agg [.sl (.ints Open), .sl (.rows Dist)], .sl (.ints rooms), .sl (.ints needs)] (.one (.d (.bool (rowOk rooms (Open.length : Int) 20 && rowOk needs (Dist.length : Int) 5)))) :=
  pc_wf @Try.call179 fun hw => pc_by (by kernel_rfl) Try.func179 @Try.call179 (by kernel_rfl) s_l7Needs_C (s_l7Needs_A Open Dist rooms needs) (by kernel_rfl) (s_l7Needs_vc Open Dist rooms needs hw.1.1 hw.1.2.1.1 hw.1.2.1.2 hw.2.1 hw.2.2.1) (by kernel_rfl)
def s_l7Needs_orc : List D → Orc := orcN [none, some .ints, some .ints] fun ds => match ds with
  | [.agg [.sl (.ints Open), .sl (.rows Dist)], .sl (.ints rooms), .sl (.ints needs)] => some (.one (.d (.bool (rowOk rooms (Open.length : Int) 20 && rowOk needs (Dist.length : Int) 5))))
  | _ => none
def i_Field_areNeeds_C (f : FuncId) (ds : List D) : Orc := bif Nat.beq f 162 then i_areBetween_orc ds else .no
def i_Field_areNeeds_A (Open : List Int) (Dist : List (List Int)) (rooms : List Int) (needs : List Int) : Ann := .none
def i_Field_areNeeds_P (Open : List Int) (Dist : List (List Int)) (rooms : List Int) (needs : List Int) : Prop :=
  (((rooms.length : Int) == (Open.length : Int)) = true → ((rooms.length : Int) == (Open.length : Int)) = true) ∧ (((rooms.length : Int) == (Open.length : Int)) = true → PC Try.prog 162 [.sl (.ints rooms), .int .i64 0, .int .i64 20] (.one (.d (.bool (rooms.all (fun x => inB x 0 20)))))) ∧ (true = true) ∧ ((((rooms.length : Int) == (Open.length : Int)) = true → ((rooms.length : Int) == (Open.length : Int)) = true)) ∧ ((((rooms.length : Int) == (Open.length : Int)) = false → true = true)) ∧ ((cond ((rooms.length : Int) == (Open.length : Int)) (rooms.all (fun x => inB x 0 20)) false) = true → (cond ((rooms.length : Int) == (Open.length : Int)) (rooms.all (fun x => inB x 0 20)) false) = true) ∧ ((cond ((rooms.length : Int) == (Open.length : Int)) (rooms.all (fun x => inB x 0 20)) false) = true → (cond ((rooms.length : Int) == (Open.length : Int)) (rooms.all (fun x => inB x 0 20)) false) = true) ∧ ((cond ((rooms.length : Int) == (Open.length : Int)) (rooms.all (fun x => inB x 0 20)) false) = true → (cond ((rooms.length : Int) == (Open.length : Int)) (rooms.all (fun x => inB x 0 20)) false) = true) ∧ ((cond ((rooms.length : Int) == (Open.length : Int)) (rooms.all (fun x => inB x 0 20)) false) = true → (cond ((rooms.length : Int) == (Open.length : Int)) (rooms.all (fun x => inB x 0 20)) false) = true) ∧ ((cond ((rooms.length : Int) == (Open.length : Int)) (rooms.all (fun x => inB x 0 20)) false) = true → (cond ((rooms.length : Int) == (Open.length : Int)) (rooms.all (fun x => inB x 0 20)) false) = true) ∧ (true = true) ∧ (((cond ((rooms.length : Int) == (Open.length : Int)) (rooms.all (fun x => inB x 0 20)) false) = true → (cond ((rooms.length : Int) == (Open.length : Int)) (rooms.all (fun x => inB x 0 20)) false) = true)) ∧ (((cond ((rooms.length : Int) == (Open.length : Int)) (rooms.all (fun x => inB x 0 20)) false) = false → true = true)) ∧ ((cond (cond ((rooms.length : Int) == (Open.length : Int)) (rooms.all (fun x => inB x 0 20)) false) ((needs.length : Int) == (Dist.length : Int)) false) = true → (cond (cond ((rooms.length : Int) == (Open.length : Int)) (rooms.all (fun x => inB x 0 20)) false) ((needs.length : Int) == (Dist.length : Int)) false) = true) ∧ ((cond (cond ((rooms.length : Int) == (Open.length : Int)) (rooms.all (fun x => inB x 0 20)) false) ((needs.length : Int) == (Dist.length : Int)) false) = true → PC Try.prog 162 [.sl (.ints needs), .int .i64 0, .int .i64 5] (.one (.d (.bool (needs.all (fun x => inB x 0 5)))))) ∧ (true = true) ∧ (((cond (cond ((rooms.length : Int) == (Open.length : Int)) (rooms.all (fun x => inB x 0 20)) false) ((needs.length : Int) == (Dist.length : Int)) false) = true → (cond (cond ((rooms.length : Int) == (Open.length : Int)) (rooms.all (fun x => inB x 0 20)) false) ((needs.length : Int) == (Dist.length : Int)) false) = true)) ∧ (((cond (cond ((rooms.length : Int) == (Open.length : Int)) (rooms.all (fun x => inB x 0 20)) false) ((needs.length : Int) == (Dist.length : Int)) false) = false → true = true)) ∧ (((cond (cond (cond ((rooms.length : Int) == (Open.length : Int)) (rooms.all (fun x => inB x 0 20)) false) ((needs.length : Int) == (Dist.length : Int)) false) (needs.all (fun x => inB x 0 5)) false) = (rowOk rooms (Open.length : Int) 20 && rowOk needs (Dist.length : Int) 5)))
theorem i_Field_areNeeds_vc (Open : List Int) (Dist : List (List Int)) (rooms : List Int) (needs : List Int)  (w_Open : (Open.length : Int) ≤ 9223372036854775807) (w_Dist : (Dist.length : Int) ≤ 9223372036854775807) (v_Dist : ∀ x9 ∈ Dist, (x9.length : Int) ≤ 9223372036854775807) (w_rooms : (rooms.length : Int) ≤ 9223372036854775807) (w_needs : (needs.length : Int) ≤ 9223372036854775807) : i_Field_areNeeds_P Open Dist rooms needs := by
  unfold i_Field_areNeeds_P
  refine ⟨id, fun _ => i_areBetween_pc rooms 0 20, rfl, id, fun _ => rfl, id, id, id, id, id, rfl, id, fun _ => rfl, id, fun _ => i_areBetween_pc needs 0 5, rfl, id, fun _ => rfl, ?_⟩
  · rw [rowOk_cond, rowOk_cond]
    cases ((rooms.length : Int) == (Open.length : Int)) <;> cases rooms.all (fun x => inB x 0 20) <;> cases ((needs.length : Int) == (Dist.length : Int)) <;> cases needs.all (fun x => inB x 0 5) <;> rfl
theorem i_Field_areNeeds_pc (Open : List Int) (Dist : List (List Int)) (rooms : List Int) (needs : List Int)  : PC Try.prog 182 [.agg [.sl (.ints Open), .sl (.rows Dist)], .sl (.ints rooms), .sl (.ints needs)] (.one (.d (.bool (rowOk rooms (Open.length : Int) 20 && rowOk needs (Dist.length : Int) 5)))) :=
  pc_wf @Try.call182 fun hw => pc_by (by kernel_rfl) Try.func182 @Try.call182 (by kernel_rfl) i_Field_areNeeds_C (i_Field_areNeeds_A Open Dist rooms needs) (by kernel_rfl) (i_Field_areNeeds_vc Open Dist rooms needs hw.1.1 hw.1.2.1.1 hw.1.2.1.2 hw.2.1 hw.2.2.1) (by kernel_rfl)
def i_Field_areNeeds_orc : List D → Orc := orcN [none, some .ints, some .ints] fun ds => match ds with
  | [.agg [.sl (.ints Open), .sl (.rows Dist)], .sl (.ints rooms), .sl (.ints needs)] => some (.one (.d (.bool (rowOk rooms (Open.length : Int) 20 && rowOk needs (Dist.length : Int) 5))))
  | _ => none
abbrev i_bagOf_JJ0 (list : List Int) (out : Int) (i : Int) : Prop := (0 ≤ i) ∧ (i ≤ (list.length : Int)) ∧ (out = ((bagTo list i.toNat : Nat) : Int))
abbrev i_bagOf_mJ0 (list : List Int) (out : Int) (i : Int) : Nat := (list.length - i).toNat
def i_bagOf_C (f : FuncId) (ds : List D) : Orc := .no
def i_bagOf_A (list : List Int) : Ann := .two (.none) (.two (.none) (.two (.two (.none) (.loop (cut2 (fun (out : Int) (i : Int) => i_bagOf_JJ0 list out i) (fun (out : Int) (i : Int) => [(3, .d true (.int .u64 out)), (6, .d false (.sl (.ints list))), (7, .d true (.int .i64 (list.length : Int))), (8, .d true (.int .i64 i))]) (fun (out : Int) (i : Int) => [])) (fun g => i_bagOf_mJ0 list g.1 g.2) (fun _ => .none))) (.none)))
def i_bagOf_P (list : List Int) : Prop :=
  ((∃ out' : Int, ∃ i' : Int, (i_bagOf_JJ0 list out' i') ∧ ((0 : Int) = out') ∧ (list = list) ∧ ((list.length : Int) = (list.length : Int)) ∧ ((0 : Int) = i')) ∧ (∀ out : Int, ∀ i : Int, (i_bagOf_JJ0 list out i) → (((decide (i < (list.length : Int))) = true → ((0 : Int) ≤ i) ∧ ((i : Int) < list.length) ∧ (i.toNat < list.length) ∧ ((0 : Int) ≤ 1) ∧ ((0 : Int) ≤ (list.getD i.toNat 0)) ∧ ((0 : Int) ≤ ((1 : Int) * 2 ^ ((list.getD i.toNat 0).toNat)) ∧ (((1 : Int) * 2 ^ ((list.getD i.toNat 0).toNat)) : Int) ≤ 18446744073709551615) ∧ ((0 : Int) ≤ out ∧ (out : Int) ≤ 18446744073709551615) ∧ ((0 : Int) ≤ ((1 : Int) * 2 ^ ((list.getD i.toNat 0).toNat)) ∧ (((1 : Int) * 2 ^ ((list.getD i.toNat 0).toNat)) : Int) ≤ 18446744073709551615) ∧ (-9223372036854775808 ≤ (i + 1) ∧ (i + 1) ≤ 9223372036854775807) ∧ (∃ out' : Int, ∃ i' : Int, (i_bagOf_JJ0 list out' i') ∧ (i_bagOf_mJ0 list out' i' < i_bagOf_mJ0 list out i) ∧ (((out.toNat ||| ((1 : Int) * 2 ^ ((list.getD i.toNat 0).toNat)).toNat : Nat) : Int) = out') ∧ (list = list) ∧ ((list.length : Int) = (list.length : Int)) ∧ ((i + 1) = i'))) ∧ ((decide (i < (list.length : Int))) = false → ((out = ((bagN list : Nat) : Int)))))))
theorem i_bagOf_vc (list : List Int) (hb : ∀ x ∈ list, 0 ≤ x ∧ x < 62) (w_list : (list.length : Int) ≤ 9223372036854775807) : i_bagOf_P list := by
  unfold i_bagOf_P
  have lt := bagTo_lt (m := 62) hb
  have he : (2 : Nat) ^ 62 = 4611686018427387904 := by decide
  refine ⟨?_, ?_⟩
  · refine ⟨0, 0, ?_⟩
    refine ⟨?_, rfl, rfl, rfl, rfl⟩
    · refine ⟨?_, ?_, ?_⟩
      · first | omega | rfl | (intro hg; simp only [nrmT] at hg; omega) | (intro g1 g2; simp [g1, g2]; done) | (intro g1; simp at g1 ⊢; simp [g1]; done) | (simp only [nrmT] at *; omega) | (simp at * <;> omega) | (simp_all <;> omega) | (simp_all; done)
      · first | omega | rfl | (intro hg; simp only [nrmT] at hg; omega) | (intro g1 g2; simp [g1, g2]; done) | (intro g1; simp at g1 ⊢; simp [g1]; done) | (simp only [nrmT] at *; omega) | (simp at * <;> omega) | (simp_all <;> omega) | (simp_all; done)
      · first | omega | rfl | (intro hg; simp only [nrmT] at hg; omega) | (intro g1 g2; simp [g1, g2]; done) | (intro g1; simp at g1 ⊢; simp [g1]; done) | (simp only [nrmT] at *; omega) | (simp at * <;> omega) | (simp_all <;> omega) | (simp_all; done)
  · intro out i hJ
    obtain ⟨h1, h2, h3⟩ := hJ
    refine ⟨?_, ?_⟩
    · intro b1
      try simp only [nrmT] at b1
      refine ⟨?_, ?_, ?_, ?_, ?_, ?_, ?_, ?_, ?_, ?_⟩
      · first | omega | rfl | (intro hg; simp only [nrmT] at hg; omega) | (intro g1 g2; simp [g1, g2]; done) | (intro g1; simp at g1 ⊢; simp [g1]; done) | (simp only [nrmT] at *; omega) | (simp at * <;> omega) | (simp_all <;> omega) | (simp_all; done)
      · first | omega | rfl | (intro hg; simp only [nrmT] at hg; omega) | (intro g1 g2; simp [g1, g2]; done) | (intro g1; simp at g1 ⊢; simp [g1]; done) | (simp only [nrmT] at *; omega) | (simp at * <;> omega) | (simp_all <;> omega) | (simp_all; done)
      · first | omega | rfl | (intro hg; simp only [nrmT] at hg; omega) | (intro g1 g2; simp [g1, g2]; done) | (intro g1; simp at g1 ⊢; simp [g1]; done) | (simp only [nrmT] at *; omega) | (simp at * <;> omega) | (simp_all <;> omega) | (simp_all; done)
      · first | omega | rfl | (intro hg; simp only [nrmT] at hg; omega) | (intro g1 g2; simp [g1, g2]; done) | (intro g1; simp at g1 ⊢; simp [g1]; done) | (simp only [nrmT] at *; omega) | (simp at * <;> omega) | (simp_all <;> omega) | (simp_all; done)
      · have := hb _ (getD_memI (d := 0) h1 (by omega))
        omega
      · have h7 := hb _ (getD_memI (d := 0) h1 (by omega))
        have h8 := pow_le (x := list.getD i.toNat 0) (m := 62) (by omega)
        rw [he] at h8
        omega
      · have := lt i.toNat (by omega)
        omega
      · have h7 := hb _ (getD_memI (d := 0) h1 (by omega))
        have h8 := pow_le (x := list.getD i.toNat 0) (m := 62) (by omega)
        rw [he] at h8
        omega
      · first | omega | rfl | (intro hg; simp only [nrmT] at hg; omega) | (intro g1 g2; simp [g1, g2]; done) | (intro g1; simp at g1 ⊢; simp [g1]; done) | (simp only [nrmT] at *; omega) | (simp at * <;> omega) | (simp_all <;> omega) | (simp_all; done)
      · refine ⟨((out.toNat ||| ((1 : Int) * 2 ^ ((list.getD i.toNat 0).toNat)).toNat : Nat) : Int), (i + 1), ?_⟩
        refine ⟨?_, ?_, rfl, rfl, rfl, rfl⟩
        · refine ⟨?_, ?_, ?_⟩
          · first | omega | rfl | (intro hg; simp only [nrmT] at hg; omega) | (intro g1 g2; simp [g1, g2]; done) | (intro g1; simp at g1 ⊢; simp [g1]; done) | (simp only [nrmT] at *; omega) | (simp at * <;> omega) | (simp_all <;> omega) | (simp_all; done)
          · first | omega | rfl | (intro hg; simp only [nrmT] at hg; omega) | (intro g1 g2; simp [g1, g2]; done) | (intro g1; simp at g1 ⊢; simp [g1]; done) | (simp only [nrmT] at *; omega) | (simp at * <;> omega) | (simp_all <;> omega) | (simp_all; done)
          · have e : (i + 1).toNat = i.toNat + 1 := by omega
            rw [one_pow, h3, Int.toNat_natCast, e]
            rfl
        · first | (show _ < _; omega) | (simp only [i_bagOf_mJ0]; omega) | (simp only [i_bagOf_mJ0] at *; simp at *; omega)
    · intro b2
      try simp only [nrmT] at b2
      rw [h3]
      unfold bagN
      rw [show i.toNat = list.length by omega]
theorem i_bagOf_pc (list : List Int) (hb : ∀ x ∈ list, 0 ≤ x ∧ x < 62) : PC Try.prog 139 [.sl (.ints list)] (.one (.d (.int .u64 ((bagN list : Nat) : Int)))) :=
  pc_wf @Try.call139 fun hw => pc_by (by kernel_rfl) Try.func139 @Try.call139 (by kernel_rfl) i_bagOf_C (i_bagOf_A list) (by kernel_rfl) (i_bagOf_vc list hb hw.1) (by kernel_rfl)
def i_bagOf_orc : List D → Orc := orcN [some .ints] fun ds => match ds with
  | [.sl (.ints list)] => some (.one (.d (.int .u64 ((bagN list : Nat) : Int))))
  | _ => none
def i_bag_has_C (f : FuncId) (ds : List D) : Orc := .no
def i_bag_has_A (b : Int) (x : Int) : Ann := .none
def i_bag_has_P (b : Int) (x : Int) : Prop :=
  ((0 : Int) ≤ b ∧ (b : Int) ≤ 18446744073709551615) ∧ ((0 : Int) ≤ x) ∧ ((0 : Int) ≤ (b / 2 ^ x.toNat) ∧ ((b / 2 ^ x.toNat) : Int) ≤ 18446744073709551615) ∧ ((0 : Int) ≤ 1 ∧ (1 : Int) ≤ 18446744073709551615) ∧ ((((((b / 2 ^ x.toNat).toNat &&& 1 : Nat) : Int) == 1) = (b.toNat.testBit x.toNat)))
theorem i_bag_has_vc (b : Int) (x : Int) (hb : 0 ≤ b ∧ b ≤ 4611686018427387903) (hx : 0 ≤ x)  : i_bag_has_P b x := by
  unfold i_bag_has_P
  refine ⟨?_, ?_, ?_, ?_, ?_⟩
  · first | omega | rfl | (intro hg; simp only [nrmT] at hg; omega) | (intro g1 g2; simp [g1, g2]; done) | (intro g1; simp at g1 ⊢; simp [g1]; done) | (simp only [nrmT] at *; omega) | (simp at * <;> omega) | (simp_all <;> omega) | (simp_all; done)
  · first | omega | rfl | (intro hg; simp only [nrmT] at hg; omega) | (intro g1 g2; simp [g1, g2]; done) | (intro g1; simp at g1 ⊢; simp [g1]; done) | (simp only [nrmT] at *; omega) | (simp at * <;> omega) | (simp_all <;> omega) | (simp_all; done)
  · have h1 : 0 ≤ b / 2 ^ x.toNat := Int.ediv_nonneg hb.1 (Int.le_of_lt (Int.pow_pos (by omega)))
    have h2 : b / 2 ^ x.toNat ≤ b := Int.ediv_le_self _ hb.1
    omega
  · first | omega | rfl | (intro hg; simp only [nrmT] at hg; omega) | (intro g1 g2; simp [g1, g2]; done) | (intro g1; simp at g1 ⊢; simp [g1]; done) | (simp only [nrmT] at *; omega) | (simp at * <;> omega) | (simp_all <;> omega) | (simp_all; done)
  · have e : b = ((b.toNat : Nat) : Int) := by omega
    have h := shr_bit (n := b.toNat) (k := x.toNat)
    rw [← e] at h
    rw [h]
    cases b.toNat.testBit x.toNat <;> rfl
theorem i_bag_has_pc (b : Int) (x : Int) (hb : 0 ≤ b ∧ b ≤ 4611686018427387903) (hx : 0 ≤ x) : PC Try.prog 183 [.int .u64 b, .int .i64 x] (.one (.d (.bool (b.toNat.testBit x.toNat)))) :=
  pc_wf @Try.call183 fun _ => pc_by (by kernel_rfl) Try.func183 @Try.call183 (by kernel_rfl) i_bag_has_C (i_bag_has_A b x) (by kernel_rfl) (i_bag_has_vc b x hb hx) (by kernel_rfl)
def i_bag_has_orc : List D → Orc := orcN [none, none] fun ds => match ds with
  | [.int .u64 b, .int .i64 x] => some (.one (.d (.bool (b.toNat.testBit x.toNat))))
  | _ => none
theorem rising_mem {xs : List Int} {lo hi : Int} (h : rising xs lo hi = true) : ∀ x ∈ xs, lo ≤ x ∧ x ≤ hi := by
  intro x hx
  obtain ⟨k, hk, rfl⟩ := List.mem_iff_getElem.1 hx
  have := rising_at h k hk
  simp [hk] at this
  omega
theorem getD_get {α : Type} {xs : List α} {k : Nat} {d : α} (h : k < xs.length) : xs.getD k d = xs[k] := by simp [h]
theorem has_end {xs : List Int} {x i : Int} (h2 : (xs.length : Int) ≤ i) (h3 : ∀ k, k < i.toNat → (fun y => x == y) (xs.getD k 0) = false) : xs.contains x = false := by
  rw [List.contains_eq_any_beq, List.any_eq_false]
  intro y hy
  obtain ⟨k, hk, rfl⟩ := List.mem_iff_getElem.1 hy
  have := h3 k (by omega)
  simp [hk] at this
  simpa using this
theorem has_found {xs : List Int} {x i : Int} (h1 : 0 ≤ i) (h2 : i < (xs.length : Int)) (h : xs.getD i.toNat 0 = x) : xs.contains x = true := by
  rw [List.contains_iff_mem, ← h]; exact getD_memI h1 h2
abbrev s_l1Has_JJ0 (xs : List Int) (x : Int) (i : Int) : Prop := (0 ≤ i) ∧ (i ≤ (xs.length : Int)) ∧ (∀ k, k < i.toNat → (fun y => x == y) (xs.getD k 0) = false)
abbrev s_l1Has_mJ0 (xs : List Int) (x : Int) (i : Int) : Nat := (xs.length - i).toNat
def s_l1Has_C (f : FuncId) (ds : List D) : Orc := .no
def s_l1Has_A (xs : List Int) (x : Int) : Ann := .two (.none) (.two (.two (.none) (.loop (cut1 (fun (i : Int) => s_l1Has_JJ0 xs x i) (fun (i : Int) => [(0, .d false (.sl (.ints xs))), (1, .d false (.int .i64 x)), (5, .d true (.int .i64 i))]) (fun (i : Int) => [])) (fun g => s_l1Has_mJ0 xs x g) (fun _ => .none))) (.none))
def s_l1Has_P (xs : List Int) (x : Int) : Prop :=
  ((∃ i' : Int, (s_l1Has_JJ0 xs x i') ∧ (xs = xs) ∧ (x = x) ∧ ((0 : Int) = i')) ∧ (∀ i : Int, (s_l1Has_JJ0 xs x i) → (((decide (i < (xs.length : Int))) = true → ((0 : Int) ≤ i) ∧ ((i : Int) < xs.length) ∧ (i.toNat < xs.length) ∧ ((((xs.getD i.toNat 0) == x) = true → ((true = (xs.contains x)))) ∧ (((xs.getD i.toNat 0) == x) = false → (-9223372036854775808 ≤ (i + 1) ∧ (i + 1) ≤ 9223372036854775807) ∧ (∃ i' : Int, (s_l1Has_JJ0 xs x i') ∧ (s_l1Has_mJ0 xs x i' < s_l1Has_mJ0 xs x i) ∧ (xs = xs) ∧ (x = x) ∧ ((i + 1) = i'))))) ∧ ((decide (i < (xs.length : Int))) = false → ((false = (xs.contains x)))))))
theorem s_l1Has_vc (xs : List Int) (x : Int)  (w_xs : (xs.length : Int) ≤ 9223372036854775807) : s_l1Has_P xs x := by
  unfold s_l1Has_P
  refine ⟨?_, ?_⟩
  · refine ⟨0, ?_⟩
    refine ⟨?_, rfl, rfl, rfl⟩
    · refine ⟨?_, ?_, ?_⟩
      · first | omega | rfl | (intro hg; simp only [nrmT] at hg; omega) | (intro g1 g2; simp [g1, g2]; done) | (intro g1; simp at g1 ⊢; simp [g1]; done) | (simp only [nrmT] at *; omega) | (simp at * <;> omega) | (simp_all <;> omega) | (simp_all; done)
      · first | omega | rfl | (intro hg; simp only [nrmT] at hg; omega) | (intro g1 g2; simp [g1, g2]; done) | (intro g1; simp at g1 ⊢; simp [g1]; done) | (simp only [nrmT] at *; omega) | (simp at * <;> omega) | (simp_all <;> omega) | (simp_all; done)
      · first | omega | rfl | (intro hg; simp only [nrmT] at hg; omega) | (intro g1 g2; simp [g1, g2]; done) | (intro g1; simp at g1 ⊢; simp [g1]; done) | (simp only [nrmT] at *; omega) | (simp at * <;> omega) | (simp_all <;> omega) | (simp_all; done)
  · intro i hJ
    obtain ⟨h1, h2, h3⟩ := hJ
    refine ⟨?_, ?_⟩
    · intro b1
      try simp only [nrmT] at b1
      refine ⟨?_, ?_, ?_, ?_, ?_⟩
      · first | omega | rfl | (intro hg; simp only [nrmT] at hg; omega) | (intro g1 g2; simp [g1, g2]; done) | (intro g1; simp at g1 ⊢; simp [g1]; done) | (simp only [nrmT] at *; omega) | (simp at * <;> omega) | (simp_all <;> omega) | (simp_all; done)
      · first | omega | rfl | (intro hg; simp only [nrmT] at hg; omega) | (intro g1 g2; simp [g1, g2]; done) | (intro g1; simp at g1 ⊢; simp [g1]; done) | (simp only [nrmT] at *; omega) | (simp at * <;> omega) | (simp_all <;> omega) | (simp_all; done)
      · first | omega | rfl | (intro hg; simp only [nrmT] at hg; omega) | (intro g1 g2; simp [g1, g2]; done) | (intro g1; simp at g1 ⊢; simp [g1]; done) | (simp only [nrmT] at *; omega) | (simp at * <;> omega) | (simp_all <;> omega) | (simp_all; done)
      · intro b2
        try simp only [nrmT] at b2
        exact (has_found h1 b1 b2).symm
      · intro b3
        try simp only [nrmT] at b3
        refine ⟨?_, ?_⟩
        · first | omega | rfl | (intro hg; simp only [nrmT] at hg; omega) | (intro g1 g2; simp [g1, g2]; done) | (intro g1; simp at g1 ⊢; simp [g1]; done) | (simp only [nrmT] at *; omega) | (simp at * <;> omega) | (simp_all <;> omega) | (simp_all; done)
        · refine ⟨(i + 1), ?_⟩
          refine ⟨?_, ?_, rfl, rfl, rfl⟩
          · refine ⟨?_, ?_, ?_⟩
            · first | omega | rfl | (intro hg; simp only [nrmT] at hg; omega) | (intro g1 g2; simp [g1, g2]; done) | (intro g1; simp at g1 ⊢; simp [g1]; done) | (simp only [nrmT] at *; omega) | (simp at * <;> omega) | (simp_all <;> omega) | (simp_all; done)
            · first | omega | rfl | (intro hg; simp only [nrmT] at hg; omega) | (intro g1 g2; simp [g1, g2]; done) | (intro g1; simp at g1 ⊢; simp [g1]; done) | (simp only [nrmT] at *; omega) | (simp at * <;> omega) | (simp_all <;> omega) | (simp_all; done)
            · exact idx_step (p := fun y => x == y) h1 h3 (by simp only [beq_eq_false_iff_ne]; exact fun h => b3 h.symm)
          · first | (show _ < _; omega) | (simp only [s_l1Has_mJ0]; omega) | (simp only [s_l1Has_mJ0] at *; simp at *; omega)
    · intro b4
      try simp only [nrmT] at b4
      exact (has_end (by omega) h3).symm
theorem s_l1Has_pc (xs : List Int) (x : Int)  : PC Try.prog 122 [.sl (.ints xs), .int .i64 x] (.one (.d (.bool (xs.contains x)))) :=
  pc_wf @Try.call122 fun hw => pc_by (by kernel_rfl) Try.func122 @Try.call122 (by kernel_rfl) s_l1Has_C (s_l1Has_A xs x) (by kernel_rfl) (s_l1Has_vc xs x hw.1) (by kernel_rfl)
def s_l1Has_orc : List D → Orc := orcN [some .ints, none] fun ds => match ds with
  | [.sl (.ints xs), .int .i64 x] => some (.one (.d (.bool (xs.contains x))))
  | _ => none
def s_l2Set_C (f : FuncId) (ds : List D) : Orc := bif Nat.beq f 200 then s_l1Rising_orc ds else .no
def s_l2Set_A (Open : List Int) (Dist : List (List Int)) (set : List Int) : Ann := .none
def s_l2Set_P (Open : List Int) (Dist : List (List Int)) (set : List Int) : Prop :=
  (-9223372036854775808 ≤ ((Open.length : Int) - 1) ∧ ((Open.length : Int) - 1) ≤ 9223372036854775807) ∧ (PC Try.prog 200 [.sl (.ints set), .int .i64 0, .int .i64 ((Open.length : Int) - 1)] (.one (.d (.bool (rising set 0 ((Open.length : Int) - 1)))))) ∧ (((rising set 0 ((Open.length : Int) - 1)) = (rising set 0 ((Open.length : Int) - 1))))
theorem s_l2Set_vc (Open : List Int) (Dist : List (List Int)) (set : List Int)  (w_Open : (Open.length : Int) ≤ 9223372036854775807) (w_Dist : (Dist.length : Int) ≤ 9223372036854775807) (v_Dist : ∀ x9 ∈ Dist, (x9.length : Int) ≤ 9223372036854775807) (w_set : (set.length : Int) ≤ 9223372036854775807) : s_l2Set_P Open Dist set := by
  unfold s_l2Set_P
  refine ⟨?_, s_l1Rising_pc set 0 ((Open.length : Int) - 1), rfl⟩
  · first | omega | rfl | (intro hg; simp only [nrmT] at hg; omega) | (intro g1 g2; simp [g1, g2]; done) | (intro g1; simp at g1 ⊢; simp [g1]; done) | (simp only [nrmT] at *; omega) | (simp at * <;> omega) | (simp_all <;> omega) | (simp_all; done)
theorem s_l2Set_pc (Open : List Int) (Dist : List (List Int)) (set : List Int)  : PC Try.prog 172 [.agg [.sl (.ints Open), .sl (.rows Dist)], .sl (.ints set)] (.one (.d (.bool (rising set 0 ((Open.length : Int) - 1))))) :=
  pc_wf @Try.call172 fun hw => pc_by (by kernel_rfl) Try.func172 @Try.call172 (by kernel_rfl) s_l2Set_C (s_l2Set_A Open Dist set) (by kernel_rfl) (s_l2Set_vc Open Dist set hw.1.1 hw.1.2.1.1 hw.1.2.1.2 hw.2.1) (by kernel_rfl)
def s_l2Set_orc : List D → Orc := orcN [none, some .ints] fun ds => match ds with
  | [.agg [.sl (.ints Open), .sl (.rows Dist)], .sl (.ints set)] => some (.one (.d (.bool (rising set 0 ((Open.length : Int) - 1)))))
  | _ => none
def s_l2Two_C (f : FuncId) (ds : List D) : Orc := bif Nat.beq f 99 then s_l2Good_orc ds else bif Nat.beq f 172 then s_l2Set_orc ds else .no
def s_l2Two_A (Open : List Int) (Dist : List (List Int)) (set : List Int) : Ann := .none
def s_l2Two_P (Open : List Int) (Dist : List (List Int)) (set : List Int) : Prop :=
  (PC Try.prog 99 [.agg [.sl (.ints Open), .sl (.rows Dist)]] (.one (.d (.bool (goodField Open Dist))))) ∧ ((goodField Open Dist) = true → (goodField Open Dist) = true) ∧ ((goodField Open Dist) = true → (goodField Open Dist) = true) ∧ ((goodField Open Dist) = true → PC Try.prog 172 [.agg [.sl (.ints Open), .sl (.rows Dist)], .sl (.ints set)] (.one (.d (.bool (rising set 0 ((Open.length : Int) - 1)))))) ∧ (true = true) ∧ (((goodField Open Dist) = true → (goodField Open Dist) = true)) ∧ (((goodField Open Dist) = false → true = true)) ∧ ((cond (goodField Open Dist) (rising set 0 ((Open.length : Int) - 1)) false) = true → (cond (goodField Open Dist) (rising set 0 ((Open.length : Int) - 1)) false) = true) ∧ ((cond (goodField Open Dist) (rising set 0 ((Open.length : Int) - 1)) false) = true → (cond (goodField Open Dist) (rising set 0 ((Open.length : Int) - 1)) false) = true) ∧ (true = true) ∧ (((cond (goodField Open Dist) (rising set 0 ((Open.length : Int) - 1)) false) = true → (cond (goodField Open Dist) (rising set 0 ((Open.length : Int) - 1)) false) = true)) ∧ (((cond (goodField Open Dist) (rising set 0 ((Open.length : Int) - 1)) false) = false → true = true)) ∧ (((cond (cond (goodField Open Dist) (rising set 0 ((Open.length : Int) - 1)) false) (decide ((set.length : Int) > 0)) false) = (goodField Open Dist && rising set 0 ((Open.length : Int) - 1) && decide (0 < set.length))))
theorem s_l2Two_vc (Open : List Int) (Dist : List (List Int)) (set : List Int)  (w_Open : (Open.length : Int) ≤ 9223372036854775807) (w_Dist : (Dist.length : Int) ≤ 9223372036854775807) (v_Dist : ∀ x9 ∈ Dist, (x9.length : Int) ≤ 9223372036854775807) (w_set : (set.length : Int) ≤ 9223372036854775807) : s_l2Two_P Open Dist set := by
  unfold s_l2Two_P
  refine ⟨s_l2Good_pc Open Dist, id, id, fun _ => s_l2Set_pc Open Dist set, rfl, id, fun _ => rfl, id, id, rfl, id, fun _ => rfl, ?_⟩
  · rw [(show decide ((set.length : Int) > 0) = decide (0 < set.length) by rw [Bool.eq_iff_iff]; simp only [decide_eq_true_eq]; omega)]
    cases goodField Open Dist <;> cases rising set 0 ((Open.length : Int) - 1) <;> cases decide (0 < set.length) <;> rfl
theorem s_l2Two_pc (Open : List Int) (Dist : List (List Int)) (set : List Int)  : PC Try.prog 109 [.agg [.sl (.ints Open), .sl (.rows Dist)], .sl (.ints set)] (.one (.d (.bool (goodField Open Dist && rising set 0 ((Open.length : Int) - 1) && decide (0 < set.length))))) :=
  pc_wf @Try.call109 fun hw => pc_by (by kernel_rfl) Try.func109 @Try.call109 (by kernel_rfl) s_l2Two_C (s_l2Two_A Open Dist set) (by kernel_rfl) (s_l2Two_vc Open Dist set hw.1.1 hw.1.2.1.1 hw.1.2.1.2 hw.2.1) (by kernel_rfl)
def s_l2Two_orc : List D → Orc := orcN [none, some .ints] fun ds => match ds with
  | [.agg [.sl (.ints Open), .sl (.rows Dist)], .sl (.ints set)] => some (.one (.d (.bool (goodField Open Dist && rising set 0 ((Open.length : Int) - 1) && decide (0 < set.length)))))
  | _ => none
def i_Field_isSet_C (f : FuncId) (ds : List D) : Orc := bif Nat.beq f 161 then i_isRising_orc ds else .no
def i_Field_isSet_A (Open : List Int) (Dist : List (List Int)) (set : List Int) : Ann := .none
def i_Field_isSet_P (Open : List Int) (Dist : List (List Int)) (set : List Int) : Prop :=
  ((decide ((set.length : Int) > 0)) = true → (decide ((set.length : Int) > 0)) = true) ∧ ((decide ((set.length : Int) > 0)) = true → (decide ((set.length : Int) > 0)) = true) ∧ ((decide ((set.length : Int) > 0)) = true → (decide ((set.length : Int) > 0)) = true) ∧ ((decide ((set.length : Int) > 0)) = true → (decide ((set.length : Int) > 0)) = true) ∧ ((decide ((set.length : Int) > 0)) = true → PC Try.prog 161 [.sl (.ints set), .int .i64 (Open.length : Int)] (.one (.d (.bool (rising set 0 ((Open.length : Int) - 1)))))) ∧ (true = true) ∧ (((decide ((set.length : Int) > 0)) = true → (decide ((set.length : Int) > 0)) = true)) ∧ (((decide ((set.length : Int) > 0)) = false → true = true)) ∧ (((cond (decide ((set.length : Int) > 0)) (rising set 0 ((Open.length : Int) - 1)) false) = (rising set 0 ((Open.length : Int) - 1) && decide (0 < set.length))))
theorem i_Field_isSet_vc (Open : List Int) (Dist : List (List Int)) (set : List Int)  (w_Open : (Open.length : Int) ≤ 9223372036854775807) (w_Dist : (Dist.length : Int) ≤ 9223372036854775807) (v_Dist : ∀ x9 ∈ Dist, (x9.length : Int) ≤ 9223372036854775807) (w_set : (set.length : Int) ≤ 9223372036854775807) : i_Field_isSet_P Open Dist set := by
  unfold i_Field_isSet_P
  refine ⟨id, id, id, id, ?_, rfl, id, fun _ => rfl, ?_⟩
  · intro hg
    refine i_isRising_pc set (Open.length : Int) ?_
    · first | omega | rfl | (intro hg; simp only [nrmT] at hg; omega) | (intro g1 g2; simp [g1, g2]; done) | (intro g1; simp at g1 ⊢; simp [g1]; done) | (simp only [nrmT] at *; omega) | (simp at * <;> omega) | (simp_all <;> omega) | (simp_all; done)
  · rw [(show decide ((set.length : Int) > 0) = decide (0 < set.length) by rw [Bool.eq_iff_iff]; simp only [decide_eq_true_eq]; omega)]
    cases rising set 0 ((Open.length : Int) - 1) <;> cases decide (0 < set.length) <;> rfl
theorem i_Field_isSet_pc (Open : List Int) (Dist : List (List Int)) (set : List Int)  : PC Try.prog 173 [.agg [.sl (.ints Open), .sl (.rows Dist)], .sl (.ints set)] (.one (.d (.bool (rising set 0 ((Open.length : Int) - 1) && decide (0 < set.length))))) :=
  pc_wf @Try.call173 fun hw => pc_by (by kernel_rfl) Try.func173 @Try.call173 (by kernel_rfl) i_Field_isSet_C (i_Field_isSet_A Open Dist set) (by kernel_rfl) (i_Field_isSet_vc Open Dist set hw.1.1 hw.1.2.1.1 hw.1.2.1.2 hw.2.1) (by kernel_rfl)
def i_Field_isSet_orc : List D → Orc := orcN [none, some .ints] fun ds => match ds with
  | [.agg [.sl (.ints Open), .sl (.rows Dist)], .sl (.ints set)] => some (.one (.d (.bool (rising set 0 ((Open.length : Int) - 1) && decide (0 < set.length)))))
  | _ => none
def i_isOpened_C (f : FuncId) (ds : List D) : Orc := bif Nat.beq f 106 then i_IsField_orc ds else bif Nat.beq f 173 then i_Field_isSet_orc ds else .no
def i_isOpened_A (Open : List Int) (Dist : List (List Int)) (set : List Int) : Ann := .none
def i_isOpened_P (Open : List Int) (Dist : List (List Int)) (set : List Int) : Prop :=
  (PC Try.prog 106 [.agg [.sl (.ints Open), .sl (.rows Dist)]] (.one (.d (.bool (goodField Open Dist))))) ∧ ((goodField Open Dist) = true → (goodField Open Dist) = true) ∧ ((goodField Open Dist) = true → (goodField Open Dist) = true) ∧ ((goodField Open Dist) = true → PC Try.prog 173 [.agg [.sl (.ints Open), .sl (.rows Dist)], .sl (.ints set)] (.one (.d (.bool (rising set 0 ((Open.length : Int) - 1) && decide (0 < set.length)))))) ∧ (true = true) ∧ (((goodField Open Dist) = true → (goodField Open Dist) = true)) ∧ (((goodField Open Dist) = false → true = true)) ∧ (((cond (goodField Open Dist) (rising set 0 ((Open.length : Int) - 1) && decide (0 < set.length)) false) = (goodField Open Dist && rising set 0 ((Open.length : Int) - 1) && decide (0 < set.length))))
theorem i_isOpened_vc (Open : List Int) (Dist : List (List Int)) (set : List Int)  (w_Open : (Open.length : Int) ≤ 9223372036854775807) (w_Dist : (Dist.length : Int) ≤ 9223372036854775807) (v_Dist : ∀ x9 ∈ Dist, (x9.length : Int) ≤ 9223372036854775807) (w_set : (set.length : Int) ≤ 9223372036854775807) : i_isOpened_P Open Dist set := by
  unfold i_isOpened_P
  refine ⟨i_IsField_pc Open Dist, id, id, fun _ => i_Field_isSet_pc Open Dist set, rfl, id, fun _ => rfl, ?_⟩
  · cases goodField Open Dist <;> cases rising set 0 ((Open.length : Int) - 1) <;> cases decide (0 < set.length) <;> rfl
theorem i_isOpened_pc (Open : List Int) (Dist : List (List Int)) (set : List Int)  : PC Try.prog 111 [.agg [.sl (.ints Open), .sl (.rows Dist)], .sl (.ints set)] (.one (.d (.bool (goodField Open Dist && rising set 0 ((Open.length : Int) - 1) && decide (0 < set.length))))) :=
  pc_wf @Try.call111 fun hw => pc_by (by kernel_rfl) Try.func111 @Try.call111 (by kernel_rfl) i_isOpened_C (i_isOpened_A Open Dist set) (by kernel_rfl) (i_isOpened_vc Open Dist set hw.1.1 hw.1.2.1.1 hw.1.2.1.2 hw.2.1) (by kernel_rfl)
def i_isOpened_orc : List D → Orc := orcN [none, some .ints] fun ds => match ds with
  | [.agg [.sl (.ints Open), .sl (.rows Dist)], .sl (.ints set)] => some (.one (.d (.bool (goodField Open Dist && rising set 0 ((Open.length : Int) - 1) && decide (0 < set.length)))))
  | _ => none
def offAt (Dist : List (List Int)) (set w : List Int) (c : Int) (k : Nat) : Int := (Dist.getD c.toNat []).getD (set.getD k 0).toNat 0 + w.getD (set.getD k 0).toNat 0
def offTo (Dist : List (List Int)) (set w : List Int) (c : Int) (k : Nat) : Int := foldTo (fun b k => min b (offAt Dist set w c k)) (offAt Dist set w c 0) k
theorem offTo_le {Dist : List (List Int)} {set w : List Int} {c u : Int} : ∀ k, 0 < k → (u ≤ offTo Dist set w c k ↔ ∀ j, j < k → u ≤ offAt Dist set w c j)
  | 0, h => by omega
  | k + 1, _ => by
    have e : offTo Dist set w c (k + 1) = min (offTo Dist set w c k) (offAt Dist set w c k) := rfl
    rw [e, Int.le_min]
    by_cases hk : 0 < k
    · rw [offTo_le k hk]
      constructor
      · rintro ⟨h1, h2⟩ j hj
        by_cases ej : j = k
        · rw [ej]; exact h2
        · exact h1 j (by omega)
      · exact fun h => ⟨fun j hj => h j (by omega), h k (by omega)⟩
    · have : k = 0 := by omega
      subst this
      constructor
      · rintro ⟨h1, h2⟩ j hj
        have : j = 0 := by omega
        rw [this]; exact h2
      · exact fun h => ⟨h 0 (by omega), h 0 (by omega)⟩
def priceOk (Dist : List (List Int)) (set u w : List Int) (j : Nat) : Bool := inB (u.getD j 0) (-999) 999 && decide (u.getD j 0 ≤ offTo Dist set w j set.length)
def flowPrices (Open : List Int) (Dist : List (List Int)) (set u w : List Int) : Bool :=
  decide (u.length = Dist.length) && rowOk w (Open.length : Int) 999 && allTo (fun a => !(decide (w.getD a 0 > 0) && !(set.contains (a : Int)))) w.length && allTo (priceOk Dist set u w) u.length
theorem two_facts {Open set : List Int} {Dist : List (List Int)} (h : (goodField Open Dist && rising set 0 ((Open.length : Int) - 1) && decide (0 < set.length)) = true) :
    goodField Open Dist = true ∧ rising set 0 ((Open.length : Int) - 1) = true ∧ 0 < set.length := by
  simp only [Bool.and_eq_true, decide_eq_true_eq] at h
  exact ⟨h.1.1, h.1.2, h.2⟩
abbrev s_l7Offer_JJ0 (Open : List Int) (Dist : List (List Int)) (set : List Int) (w : List Int) (c : Int) (best : Int) (i : Int) : Prop := (1 ≤ i) ∧ (i ≤ (set.length : Int)) ∧ (best = offTo Dist set w c i.toNat)
abbrev s_l7Offer_mJ0 (Open : List Int) (Dist : List (List Int)) (set : List Int) (w : List Int) (c : Int) (best : Int) (i : Int) : Nat := (set.length - i).toNat
def s_l7Offer_C (f : FuncId) (ds : List D) : Orc := bif Nat.beq f 206 then s_l1Least_orc ds else .no
def s_l7Offer_A (Open : List Int) (Dist : List (List Int)) (set : List Int) (w : List Int) (c : Int) : Ann := .two (.none) (.two (.none) (.two (.two (.none) (.loop (cut2 (fun (best : Int) (i : Int) => s_l7Offer_JJ0 Open Dist set w c best i) (fun (best : Int) (i : Int) => [(1, .d false (.sl (.ints set))), (2, .d false (.sl (.ints w))), (3, .d false (.int .i64 c)), (4, .ptr 4 0), (9, .d true (.int .i64 best)), (10, .d true (.int .i64 i))]) (fun (best : Int) (i : Int) => [(4, .box 44 [.d false (.sl (.ints Open)), .d false (.sl (.rows Dist))])])) (fun g => s_l7Offer_mJ0 Open Dist set w c g.1 g.2) (fun _ => .none))) (.none)))
def s_l7Offer_P (Open : List Int) (Dist : List (List Int)) (set : List Int) (w : List Int) (c : Int) : Prop :=
  (true = true) ∧ ((0 : Int) ≤ c) ∧ ((c : Int) < Dist.length) ∧ (c.toNat < Dist.length) ∧ ((0 : Int) ≤ 0) ∧ ((0 : Int) < set.length) ∧ (0 < set.length) ∧ ((0 : Int) ≤ (set.getD 0 0)) ∧ (((set.getD 0 0) : Int) < (Dist.getD c.toNat []).length) ∧ ((set.getD 0 0).toNat < (Dist.getD c.toNat []).length) ∧ ((0 : Int) ≤ 0) ∧ ((0 : Int) < set.length) ∧ (0 < set.length) ∧ ((0 : Int) ≤ (set.getD 0 0)) ∧ (((set.getD 0 0) : Int) < w.length) ∧ ((set.getD 0 0).toNat < w.length) ∧ (-9223372036854775808 ≤ (((Dist.getD c.toNat []).getD ((set.getD 0 0).toNat) 0) + (w.getD ((set.getD 0 0).toNat) 0)) ∧ (((Dist.getD c.toNat []).getD ((set.getD 0 0).toNat) 0) + (w.getD ((set.getD 0 0).toNat) 0)) ≤ 9223372036854775807) ∧ ((∃ best' : Int, ∃ i' : Int, (s_l7Offer_JJ0 Open Dist set w c best' i') ∧ (set = set) ∧ (w = w) ∧ (c = c) ∧ ((((Dist.getD c.toNat []).getD ((set.getD 0 0).toNat) 0) + (w.getD ((set.getD 0 0).toNat) 0)) = best') ∧ ((1 : Int) = i') ∧ (Open = Open) ∧ (Dist = Dist)) ∧ (∀ best : Int, ∀ i : Int, (s_l7Offer_JJ0 Open Dist set w c best i) → (((decide (i < (set.length : Int))) = true → (true = true) ∧ ((0 : Int) ≤ c) ∧ ((c : Int) < Dist.length) ∧ (c.toNat < Dist.length) ∧ ((0 : Int) ≤ i) ∧ ((i : Int) < set.length) ∧ (i.toNat < set.length) ∧ ((0 : Int) ≤ (set.getD i.toNat 0)) ∧ (((set.getD i.toNat 0) : Int) < (Dist.getD c.toNat []).length) ∧ ((set.getD i.toNat 0).toNat < (Dist.getD c.toNat []).length) ∧ ((0 : Int) ≤ i) ∧ ((i : Int) < set.length) ∧ (i.toNat < set.length) ∧ ((0 : Int) ≤ (set.getD i.toNat 0)) ∧ (((set.getD i.toNat 0) : Int) < w.length) ∧ ((set.getD i.toNat 0).toNat < w.length) ∧ (-9223372036854775808 ≤ (((Dist.getD c.toNat []).getD ((set.getD i.toNat 0).toNat) 0) + (w.getD ((set.getD i.toNat 0).toNat) 0)) ∧ (((Dist.getD c.toNat []).getD ((set.getD i.toNat 0).toNat) 0) + (w.getD ((set.getD i.toNat 0).toNat) 0)) ≤ 9223372036854775807) ∧ (PC Try.prog 206 [.int .i64 best, .int .i64 (((Dist.getD c.toNat []).getD ((set.getD i.toNat 0).toNat) 0) + (w.getD ((set.getD i.toNat 0).toNat) 0))] (.one (.d (.int .i64 (min best (((Dist.getD c.toNat []).getD ((set.getD i.toNat 0).toNat) 0) + (w.getD ((set.getD i.toNat 0).toNat) 0))))))) ∧ (-9223372036854775808 ≤ (i + 1) ∧ (i + 1) ≤ 9223372036854775807) ∧ (∃ best' : Int, ∃ i' : Int, (s_l7Offer_JJ0 Open Dist set w c best' i') ∧ (s_l7Offer_mJ0 Open Dist set w c best' i' < s_l7Offer_mJ0 Open Dist set w c best i) ∧ (set = set) ∧ (w = w) ∧ (c = c) ∧ ((min best (((Dist.getD c.toNat []).getD ((set.getD i.toNat 0).toNat) 0) + (w.getD ((set.getD i.toNat 0).toNat) 0))) = best') ∧ ((i + 1) = i') ∧ (Open = Open) ∧ (Dist = Dist))) ∧ ((decide (i < (set.length : Int))) = false → ((best = (offTo Dist set w c set.length)))))))
theorem s_l7Offer_vc (Open : List Int) (Dist : List (List Int)) (set : List Int) (w : List Int) (c : Int) (ht : (goodField Open Dist && rising set 0 ((Open.length : Int) - 1) && decide (0 < set.length)) = true) (hww : rowOk w (Open.length : Int) 999 = true) (hc : 0 ≤ c ∧ c < (Dist.length : Int)) (w_Open : (Open.length : Int) ≤ 9223372036854775807) (w_Dist : (Dist.length : Int) ≤ 9223372036854775807) (v_Dist : ∀ x9 ∈ Dist, (x9.length : Int) ≤ 9223372036854775807) (w_set : (set.length : Int) ≤ 9223372036854775807) (w_w : (w.length : Int) ≤ 9223372036854775807) : s_l7Offer_P Open Dist set w c := by
  unfold s_l7Offer_P
  obtain ⟨hg, hs, hp⟩ := two_facts ht
  obtain ⟨g1, g2, g3⟩ := gf_open hg
  have cs := fun k => rising_at hs k
  obtain ⟨wl, wb⟩ := rowOk_at hww
  obtain ⟨rl, rb⟩ := gf_row (i := c.toNat) hg (by omega)
  refine ⟨rfl, ?_, ?_, ?_, ?_, ?_, ?_, ?_, ?_, ?_, ?_, ?_, ?_, ?_, ?_, ?_, ?_, ?_, ?_⟩
  · first | omega | rfl | (intro hg; simp only [nrmT] at hg; omega) | (intro g1 g2; simp [g1, g2]; done) | (intro g1; simp at g1 ⊢; simp [g1]; done) | (simp only [nrmT] at *; omega) | (simp at * <;> omega) | (simp_all <;> omega) | (simp_all; done)
  · first | omega | rfl | (intro hg; simp only [nrmT] at hg; omega) | (intro g1 g2; simp [g1, g2]; done) | (intro g1; simp at g1 ⊢; simp [g1]; done) | (simp only [nrmT] at *; omega) | (simp at * <;> omega) | (simp_all <;> omega) | (simp_all; done)
  · first | omega | rfl | (intro hg; simp only [nrmT] at hg; omega) | (intro g1 g2; simp [g1, g2]; done) | (intro g1; simp at g1 ⊢; simp [g1]; done) | (simp only [nrmT] at *; omega) | (simp at * <;> omega) | (simp_all <;> omega) | (simp_all; done)
  · first | omega | rfl | (intro hg; simp only [nrmT] at hg; omega) | (intro g1 g2; simp [g1, g2]; done) | (intro g1; simp at g1 ⊢; simp [g1]; done) | (simp only [nrmT] at *; omega) | (simp at * <;> omega) | (simp_all <;> omega) | (simp_all; done)
  · first | omega | rfl | (intro hg; simp only [nrmT] at hg; omega) | (intro g1 g2; simp [g1, g2]; done) | (intro g1; simp at g1 ⊢; simp [g1]; done) | (simp only [nrmT] at *; omega) | (simp at * <;> omega) | (simp_all <;> omega) | (simp_all; done)
  · first | omega | rfl | (intro hg; simp only [nrmT] at hg; omega) | (intro g1 g2; simp [g1, g2]; done) | (intro g1; simp at g1 ⊢; simp [g1]; done) | (simp only [nrmT] at *; omega) | (simp at * <;> omega) | (simp_all <;> omega) | (simp_all; done)
  · have := cs 0 (by omega)
    omega
  · have := cs 0 (by omega)
    omega
  · have := cs 0 (by omega)
    omega
  · first | omega | rfl | (intro hg; simp only [nrmT] at hg; omega) | (intro g1 g2; simp [g1, g2]; done) | (intro g1; simp at g1 ⊢; simp [g1]; done) | (simp only [nrmT] at *; omega) | (simp at * <;> omega) | (simp_all <;> omega) | (simp_all; done)
  · first | omega | rfl | (intro hg; simp only [nrmT] at hg; omega) | (intro g1 g2; simp [g1, g2]; done) | (intro g1; simp at g1 ⊢; simp [g1]; done) | (simp only [nrmT] at *; omega) | (simp at * <;> omega) | (simp_all <;> omega) | (simp_all; done)
  · first | omega | rfl | (intro hg; simp only [nrmT] at hg; omega) | (intro g1 g2; simp [g1, g2]; done) | (intro g1; simp at g1 ⊢; simp [g1]; done) | (simp only [nrmT] at *; omega) | (simp at * <;> omega) | (simp_all <;> omega) | (simp_all; done)
  · have := cs 0 (by omega)
    omega
  · have := cs 0 (by omega)
    omega
  · have := cs 0 (by omega)
    omega
  · have h7 := cs 0 (by omega)
    have := wb (set.getD 0 0).toNat (by omega)
    have := rb (set.getD 0 0).toNat (by omega)
    omega
  · refine ⟨(((Dist.getD c.toNat []).getD ((set.getD 0 0).toNat) 0) + (w.getD ((set.getD 0 0).toNat) 0)), 1, ?_⟩
    refine ⟨?_, rfl, rfl, rfl, rfl, rfl, rfl, rfl⟩
    · refine ⟨?_, ?_, ?_⟩
      · first | omega | rfl | (intro hg; simp only [nrmT] at hg; omega) | (intro g1 g2; simp [g1, g2]; done) | (intro g1; simp at g1 ⊢; simp [g1]; done) | (simp only [nrmT] at *; omega) | (simp at * <;> omega) | (simp_all <;> omega) | (simp_all; done)
      · first | omega | rfl | (intro hg; simp only [nrmT] at hg; omega) | (intro g1 g2; simp [g1, g2]; done) | (intro g1; simp at g1 ⊢; simp [g1]; done) | (simp only [nrmT] at *; omega) | (simp at * <;> omega) | (simp_all <;> omega) | (simp_all; done)
      · exact (Int.min_self _).symm
  · intro best i hJ
    obtain ⟨h1, h2, h3⟩ := hJ
    refine ⟨?_, ?_⟩
    · intro b1
      try simp only [nrmT] at b1
      refine ⟨rfl, ?_, ?_, ?_, ?_, ?_, ?_, ?_, ?_, ?_, ?_, ?_, ?_, ?_, ?_, ?_, ?_, s_l1Least_pc best (((Dist.getD c.toNat []).getD ((set.getD i.toNat 0).toNat) 0) + (w.getD ((set.getD i.toNat 0).toNat) 0)), ?_, ?_⟩
      · first | omega | rfl | (intro hg; simp only [nrmT] at hg; omega) | (intro g1 g2; simp [g1, g2]; done) | (intro g1; simp at g1 ⊢; simp [g1]; done) | (simp only [nrmT] at *; omega) | (simp at * <;> omega) | (simp_all <;> omega) | (simp_all; done)
      · first | omega | rfl | (intro hg; simp only [nrmT] at hg; omega) | (intro g1 g2; simp [g1, g2]; done) | (intro g1; simp at g1 ⊢; simp [g1]; done) | (simp only [nrmT] at *; omega) | (simp at * <;> omega) | (simp_all <;> omega) | (simp_all; done)
      · first | omega | rfl | (intro hg; simp only [nrmT] at hg; omega) | (intro g1 g2; simp [g1, g2]; done) | (intro g1; simp at g1 ⊢; simp [g1]; done) | (simp only [nrmT] at *; omega) | (simp at * <;> omega) | (simp_all <;> omega) | (simp_all; done)
      · first | omega | rfl | (intro hg; simp only [nrmT] at hg; omega) | (intro g1 g2; simp [g1, g2]; done) | (intro g1; simp at g1 ⊢; simp [g1]; done) | (simp only [nrmT] at *; omega) | (simp at * <;> omega) | (simp_all <;> omega) | (simp_all; done)
      · first | omega | rfl | (intro hg; simp only [nrmT] at hg; omega) | (intro g1 g2; simp [g1, g2]; done) | (intro g1; simp at g1 ⊢; simp [g1]; done) | (simp only [nrmT] at *; omega) | (simp at * <;> omega) | (simp_all <;> omega) | (simp_all; done)
      · first | omega | rfl | (intro hg; simp only [nrmT] at hg; omega) | (intro g1 g2; simp [g1, g2]; done) | (intro g1; simp at g1 ⊢; simp [g1]; done) | (simp only [nrmT] at *; omega) | (simp at * <;> omega) | (simp_all <;> omega) | (simp_all; done)
      · have := cs i.toNat (by omega)
        omega
      · have := cs i.toNat (by omega)
        omega
      · have := cs i.toNat (by omega)
        omega
      · first | omega | rfl | (intro hg; simp only [nrmT] at hg; omega) | (intro g1 g2; simp [g1, g2]; done) | (intro g1; simp at g1 ⊢; simp [g1]; done) | (simp only [nrmT] at *; omega) | (simp at * <;> omega) | (simp_all <;> omega) | (simp_all; done)
      · first | omega | rfl | (intro hg; simp only [nrmT] at hg; omega) | (intro g1 g2; simp [g1, g2]; done) | (intro g1; simp at g1 ⊢; simp [g1]; done) | (simp only [nrmT] at *; omega) | (simp at * <;> omega) | (simp_all <;> omega) | (simp_all; done)
      · first | omega | rfl | (intro hg; simp only [nrmT] at hg; omega) | (intro g1 g2; simp [g1, g2]; done) | (intro g1; simp at g1 ⊢; simp [g1]; done) | (simp only [nrmT] at *; omega) | (simp at * <;> omega) | (simp_all <;> omega) | (simp_all; done)
      · have := cs i.toNat (by omega)
        omega
      · have := cs i.toNat (by omega)
        omega
      · have := cs i.toNat (by omega)
        omega
      · have h7 := cs i.toNat (by omega)
        have := wb (set.getD i.toNat 0).toNat (by omega)
        have := rb (set.getD i.toNat 0).toNat (by omega)
        omega
      · first | omega | rfl | (intro hg; simp only [nrmT] at hg; omega) | (intro g1 g2; simp [g1, g2]; done) | (intro g1; simp at g1 ⊢; simp [g1]; done) | (simp only [nrmT] at *; omega) | (simp at * <;> omega) | (simp_all <;> omega) | (simp_all; done)
      · refine ⟨(min best (((Dist.getD c.toNat []).getD ((set.getD i.toNat 0).toNat) 0) + (w.getD ((set.getD i.toNat 0).toNat) 0))), (i + 1), ?_⟩
        refine ⟨?_, ?_, rfl, rfl, rfl, rfl, rfl, rfl, rfl⟩
        · refine ⟨?_, ?_, ?_⟩
          · first | omega | rfl | (intro hg; simp only [nrmT] at hg; omega) | (intro g1 g2; simp [g1, g2]; done) | (intro g1; simp at g1 ⊢; simp [g1]; done) | (simp only [nrmT] at *; omega) | (simp at * <;> omega) | (simp_all <;> omega) | (simp_all; done)
          · first | omega | rfl | (intro hg; simp only [nrmT] at hg; omega) | (intro g1 g2; simp [g1, g2]; done) | (intro g1; simp at g1 ⊢; simp [g1]; done) | (simp only [nrmT] at *; omega) | (simp at * <;> omega) | (simp_all <;> omega) | (simp_all; done)
          · rw [h3, show (i + 1).toNat = i.toNat + 1 by omega]; rfl
        · first | (show _ < _; omega) | (simp only [s_l7Offer_mJ0]; omega) | (simp only [s_l7Offer_mJ0] at *; simp at *; omega)
    · intro b2
      try simp only [nrmT] at b2
      rw [h3, show i.toNat = set.length by omega]
theorem s_l7Offer_pc (Open : List Int) (Dist : List (List Int)) (set : List Int) (w : List Int) (c : Int) (ht : (goodField Open Dist && rising set 0 ((Open.length : Int) - 1) && decide (0 < set.length)) = true) (hww : rowOk w (Open.length : Int) 999 = true) (hc : 0 ≤ c ∧ c < (Dist.length : Int)) : PC Try.prog 181 [.agg [.sl (.ints Open), .sl (.rows Dist)], .sl (.ints set), .sl (.ints w), .int .i64 c] (.one (.d (.int .i64 (offTo Dist set w c set.length)))) :=
  pc_wf @Try.call181 fun hw => pc_by (by kernel_rfl) Try.func181 @Try.call181 (by kernel_rfl) s_l7Offer_C (s_l7Offer_A Open Dist set w c) (by kernel_rfl) (s_l7Offer_vc Open Dist set w c ht hww hc hw.1.1 hw.1.2.1.1 hw.1.2.1.2 hw.2.1 hw.2.2.1) (by kernel_rfl)
def s_l7Offer_orc : List D → Orc := orcN [none, some .ints, some .ints, none] fun ds => match ds with
  | [.agg [.sl (.ints Open), .sl (.rows Dist)], .sl (.ints set), .sl (.ints w), .int .i64 c] => some (.one (.d (.int .i64 (offTo Dist set w c set.length))))
  | _ => none
abbrev s_l7Prices_JJ0 (Open : List Int) (Dist : List (List Int)) (set : List Int) (u : List Int) (w : List Int) (a : Int) : Prop := (0 ≤ a) ∧ (a ≤ (w.length : Int)) ∧ (allTo (fun a => !(decide (w.getD a 0 > 0) && !(set.contains (a : Int)))) a.toNat = true) ∧ ((u.length : Int) = (Dist.length : Int)) ∧ (rowOk w (Open.length : Int) 999 = true)
abbrev s_l7Prices_mJ0 (Open : List Int) (Dist : List (List Int)) (set : List Int) (u : List Int) (w : List Int) (a : Int) : Nat := (w.length - a).toNat
abbrev s_l7Prices_JA0 (Open : List Int) (Dist : List (List Int)) (set : List Int) (u : List Int) (w : List Int) : Prop := ((u.length : Int) = (Dist.length : Int)) ∧ (rowOk w (Open.length : Int) 999 = true) ∧ (allTo (fun a => !(decide (w.getD a 0 > 0) && !(set.contains (a : Int)))) w.length = true)
abbrev s_l7Prices_JJ1 (Open : List Int) (Dist : List (List Int)) (set : List Int) (u : List Int) (w : List Int) (j : Int) : Prop := (0 ≤ j) ∧ (j ≤ (u.length : Int)) ∧ (allTo (priceOk Dist set u w) j.toNat = true)
abbrev s_l7Prices_mJ1 (Open : List Int) (Dist : List (List Int)) (set : List Int) (u : List Int) (w : List Int) (j : Int) : Nat := (u.length - j).toNat
def s_l7Prices_C (f : FuncId) (ds : List D) : Orc := bif Nat.beq f 180 then s_l7Numbers_orc ds else bif Nat.beq f 122 then s_l1Has_orc ds else bif Nat.beq f 104 then s_l1In_orc ds else bif Nat.beq f 181 then s_l7Offer_orc ds else .no
def s_l7Prices_A (Open : List Int) (Dist : List (List Int)) (set : List Int) (u : List Int) (w : List Int) : Ann := .two (.none) (.two (.none) (.cut (.two (.none) (.loop (cut1 (fun (a : Int) => s_l7Prices_JJ0 Open Dist set u w a) (fun (a : Int) => [(1, .d false (.sl (.ints set))), (2, .d false (.sl (.ints u))), (3, .d false (.sl (.ints w))), (4, .ptr 4 0), (9, .d true (.int .i64 a))]) (fun (a : Int) => [(4, .box 44 [.d false (.sl (.ints Open)), .d false (.sl (.rows Dist))])])) (fun g => s_l7Prices_mJ0 Open Dist set u w g) (fun _ => .none))) (cut0 (s_l7Prices_JA0 Open Dist set u w ) ([(1, .d false (.sl (.ints set))), (2, .d false (.sl (.ints u))), (3, .d false (.sl (.ints w))), (4, .ptr 4 0)]) ([(4, .box 44 [.d false (.sl (.ints Open)), .d false (.sl (.rows Dist))])])) (fun _ => .two (.two (.none) (.loop (cut1 (fun (j : Int) => s_l7Prices_JJ1 Open Dist set u w j) (fun (j : Int) => [(1, .d false (.sl (.ints set))), (2, .d false (.sl (.ints u))), (3, .d false (.sl (.ints w))), (4, .ptr 4 0), (10, .d true (.int .i64 j))]) (fun (j : Int) => [(4, .box 44 [.d false (.sl (.ints Open)), .d false (.sl (.rows Dist))])])) (fun g => s_l7Prices_mJ1 Open Dist set u w g) (fun _ => .none))) (.none))))
def s_l7Prices_P (Open : List Int) (Dist : List (List Int)) (set : List Int) (u : List Int) (w : List Int) : Prop :=
  ((!((u.length : Int) != (Dist.length : Int))) = true → (!((u.length : Int) != (Dist.length : Int))) = true) ∧ ((!((u.length : Int) != (Dist.length : Int))) = true → (!((u.length : Int) != (Dist.length : Int))) = true) ∧ ((!((u.length : Int) != (Dist.length : Int))) = true → (!((u.length : Int) != (Dist.length : Int))) = true) ∧ ((!((u.length : Int) != (Dist.length : Int))) = true → (!((u.length : Int) != (Dist.length : Int))) = true) ∧ ((!((u.length : Int) != (Dist.length : Int))) = true → PC Try.prog 180 [.sl (.ints w), .int .i64 (Open.length : Int), .int .i64 999] (.one (.d (.bool (rowOk w (Open.length : Int) 999))))) ∧ ((!((u.length : Int) != (Dist.length : Int))) = true → (!((u.length : Int) != (Dist.length : Int))) = true) ∧ (true = true) ∧ ((((u.length : Int) != (Dist.length : Int)) = true → true = true)) ∧ ((((u.length : Int) != (Dist.length : Int)) = false → (!((u.length : Int) != (Dist.length : Int))) = true)) ∧ (((cond ((u.length : Int) != (Dist.length : Int)) true (!(rowOk w (Open.length : Int) 999))) = true → ((false = (flowPrices Open Dist set u w)))) ∧ ((cond ((u.length : Int) != (Dist.length : Int)) true (!(rowOk w (Open.length : Int) 999))) = false → (((∃ a' : Int, (s_l7Prices_JJ0 Open Dist set u w a') ∧ (set = set) ∧ (u = u) ∧ (w = w) ∧ ((0 : Int) = a') ∧ (Open = Open) ∧ (Dist = Dist)) ∧ (∀ a : Int, (s_l7Prices_JJ0 Open Dist set u w a) → (((decide (a < (w.length : Int))) = true → ((0 : Int) ≤ a) ∧ ((a : Int) < w.length) ∧ (a.toNat < w.length) ∧ ((decide ((w.getD a.toNat 0) > 0)) = true → (decide ((w.getD a.toNat 0) > 0)) = true) ∧ ((decide ((w.getD a.toNat 0) > 0)) = true → (decide ((w.getD a.toNat 0) > 0)) = true) ∧ ((decide ((w.getD a.toNat 0) > 0)) = true → PC Try.prog 122 [.sl (.ints set), .int .i64 a] (.one (.d (.bool (set.contains a))))) ∧ ((decide ((w.getD a.toNat 0) > 0)) = true → (decide ((w.getD a.toNat 0) > 0)) = true) ∧ (true = true) ∧ (((decide ((w.getD a.toNat 0) > 0)) = true → (decide ((w.getD a.toNat 0) > 0)) = true)) ∧ (((decide ((w.getD a.toNat 0) > 0)) = false → true = true)) ∧ (((cond (decide ((w.getD a.toNat 0) > 0)) (!(set.contains a)) false) = true → ((false = (flowPrices Open Dist set u w)))) ∧ ((cond (decide ((w.getD a.toNat 0) > 0)) (!(set.contains a)) false) = false → (-9223372036854775808 ≤ (a + 1) ∧ (a + 1) ≤ 9223372036854775807) ∧ (∃ a' : Int, (s_l7Prices_JJ0 Open Dist set u w a') ∧ (s_l7Prices_mJ0 Open Dist set u w a' < s_l7Prices_mJ0 Open Dist set u w a) ∧ (set = set) ∧ (u = u) ∧ (w = w) ∧ ((a + 1) = a') ∧ (Open = Open) ∧ (Dist = Dist))))) ∧ ((decide (a < (w.length : Int))) = false → ((s_l7Prices_JA0 Open Dist set u w) ∧ (set = set) ∧ (u = u) ∧ (w = w) ∧ (Open = Open) ∧ (Dist = Dist)))))) ∧ ((s_l7Prices_JA0 Open Dist set u w) → ((∃ j' : Int, (s_l7Prices_JJ1 Open Dist set u w j') ∧ (set = set) ∧ (u = u) ∧ (w = w) ∧ ((0 : Int) = j') ∧ (Open = Open) ∧ (Dist = Dist)) ∧ (∀ j : Int, (s_l7Prices_JJ1 Open Dist set u w j) → (((decide (j < (u.length : Int))) = true → (true = true) ∧ ((0 : Int) ≤ j) ∧ ((j : Int) < u.length) ∧ (j.toNat < u.length) ∧ (PC Try.prog 104 [.int .i64 (u.getD j.toNat 0), .int .i64 (-999), .int .i64 999] (.one (.d (.bool (inB (u.getD j.toNat 0) (-999) 999))))) ∧ ((!(!(inB (u.getD j.toNat 0) (-999) 999))) = true → (!(!(inB (u.getD j.toNat 0) (-999) 999))) = true) ∧ ((!(!(inB (u.getD j.toNat 0) (-999) 999))) = true → (!(!(inB (u.getD j.toNat 0) (-999) 999))) = true) ∧ (((!(!(inB (u.getD j.toNat 0) (-999) 999))) = true → (0 : Int) ≤ j)) ∧ (((!(!(inB (u.getD j.toNat 0) (-999) 999))) = true → (j : Int) < u.length)) ∧ ((!(!(inB (u.getD j.toNat 0) (-999) 999))) = true → (!(!(inB (u.getD j.toNat 0) (-999) 999))) = true) ∧ (((!(!(inB (u.getD j.toNat 0) (-999) 999))) = true → j.toNat < u.length)) ∧ ((!(!(inB (u.getD j.toNat 0) (-999) 999))) = true → (!(!(inB (u.getD j.toNat 0) (-999) 999))) = true) ∧ ((!(!(inB (u.getD j.toNat 0) (-999) 999))) = true → (!(!(inB (u.getD j.toNat 0) (-999) 999))) = true) ∧ ((!(!(inB (u.getD j.toNat 0) (-999) 999))) = true → (!(!(inB (u.getD j.toNat 0) (-999) 999))) = true) ∧ ((!(!(inB (u.getD j.toNat 0) (-999) 999))) = true → (!(!(inB (u.getD j.toNat 0) (-999) 999))) = true) ∧ ((!(!(inB (u.getD j.toNat 0) (-999) 999))) = true → PC Try.prog 181 [.agg [.sl (.ints Open), .sl (.rows Dist)], .sl (.ints set), .sl (.ints w), .int .i64 j] (.one (.d (.int .i64 (offTo Dist set w j set.length))))) ∧ ((!(!(inB (u.getD j.toNat 0) (-999) 999))) = true → (!(!(inB (u.getD j.toNat 0) (-999) 999))) = true) ∧ ((!(!(inB (u.getD j.toNat 0) (-999) 999))) = true → (!(!(inB (u.getD j.toNat 0) (-999) 999))) = true) ∧ (true = true) ∧ (((!(inB (u.getD j.toNat 0) (-999) 999)) = true → true = true)) ∧ (((!(inB (u.getD j.toNat 0) (-999) 999)) = false → (!(!(inB (u.getD j.toNat 0) (-999) 999))) = true)) ∧ (((cond (!(inB (u.getD j.toNat 0) (-999) 999)) true (decide ((u.getD j.toNat 0) > (offTo Dist set w j set.length)))) = true → ((false = (flowPrices Open Dist set u w)))) ∧ ((cond (!(inB (u.getD j.toNat 0) (-999) 999)) true (decide ((u.getD j.toNat 0) > (offTo Dist set w j set.length)))) = false → (-9223372036854775808 ≤ (j + 1) ∧ (j + 1) ≤ 9223372036854775807) ∧ (∃ j' : Int, (s_l7Prices_JJ1 Open Dist set u w j') ∧ (s_l7Prices_mJ1 Open Dist set u w j' < s_l7Prices_mJ1 Open Dist set u w j) ∧ (set = set) ∧ (u = u) ∧ (w = w) ∧ ((j + 1) = j') ∧ (Open = Open) ∧ (Dist = Dist))))) ∧ ((decide (j < (u.length : Int))) = false → ((true = (flowPrices Open Dist set u w)))))))))))
theorem s_l7Prices_vc (Open : List Int) (Dist : List (List Int)) (set : List Int) (u : List Int) (w : List Int) (ht : (goodField Open Dist && rising set 0 ((Open.length : Int) - 1) && decide (0 < set.length)) = true) (w_Open : (Open.length : Int) ≤ 9223372036854775807) (w_Dist : (Dist.length : Int) ≤ 9223372036854775807) (v_Dist : ∀ x9 ∈ Dist, (x9.length : Int) ≤ 9223372036854775807) (w_set : (set.length : Int) ≤ 9223372036854775807) (w_u : (u.length : Int) ≤ 9223372036854775807) (w_w : (w.length : Int) ≤ 9223372036854775807) : s_l7Prices_P Open Dist set u w := by
  unfold s_l7Prices_P
  obtain ⟨hg, hs, hp⟩ := two_facts ht
  obtain ⟨g1, g2, g3⟩ := gf_open hg
  have cs := fun k => rising_at hs k
  refine ⟨id, id, id, id, fun _ => s_l7Numbers_pc w (Open.length : Int) 999, id, rfl, fun _ => rfl, ?_, ?_, ?_⟩
  · first | omega | rfl | (intro hg; simp only [nrmT] at hg; omega) | (intro g1 g2; simp [g1, g2]; done) | (intro g1; simp at g1 ⊢; simp [g1]; done) | (simp only [nrmT] at *; omega) | (simp at * <;> omega) | (simp_all <;> omega) | (simp_all; done)
  · intro b1
    unfold flowPrices
    have hq : (decide (u.length = Dist.length) && rowOk w (Open.length : Int) 999) = false := by
      revert b1; cases rowOk w (Open.length : Int) 999 <;> by_cases h : (u.length : Int) = (Dist.length : Int) <;> simp [h] <;> omega
    rw [hq]; rfl
  · intro b2
    refine ⟨?_, ?_⟩
    · refine ⟨?_, ?_⟩
      · refine ⟨0, ?_⟩
        refine ⟨?_, rfl, rfl, rfl, rfl, rfl, rfl⟩
        · refine ⟨?_, ?_, ?_, ?_, ?_⟩
          · first | omega | rfl | (intro hg; simp only [nrmT] at hg; omega) | (intro g1 g2; simp [g1, g2]; done) | (intro g1; simp at g1 ⊢; simp [g1]; done) | (simp only [nrmT] at *; omega) | (simp at * <;> omega) | (simp_all <;> omega) | (simp_all; done)
          · first | omega | rfl | (intro hg; simp only [nrmT] at hg; omega) | (intro g1 g2; simp [g1, g2]; done) | (intro g1; simp at g1 ⊢; simp [g1]; done) | (simp only [nrmT] at *; omega) | (simp at * <;> omega) | (simp_all <;> omega) | (simp_all; done)
          · first | omega | rfl | (intro hg; simp only [nrmT] at hg; omega) | (intro g1 g2; simp [g1, g2]; done) | (intro g1; simp at g1 ⊢; simp [g1]; done) | (simp only [nrmT] at *; omega) | (simp at * <;> omega) | (simp_all <;> omega) | (simp_all; done)
          · have hq : (u.length : Int) = (Dist.length : Int) ∧ rowOk w (Open.length : Int) 999 = true := by
              revert b2; cases rowOk w (Open.length : Int) 999 <;> by_cases h : (u.length : Int) = (Dist.length : Int) <;> simp [h]
            exact hq.1
          · have hq : (u.length : Int) = (Dist.length : Int) ∧ rowOk w (Open.length : Int) 999 = true := by
              revert b2; cases rowOk w (Open.length : Int) 999 <;> by_cases h : (u.length : Int) = (Dist.length : Int) <;> simp [h]
            exact hq.2
      · intro a hJ
        obtain ⟨h1, h2, h3, h4, h5⟩ := hJ
        refine ⟨?_, ?_⟩
        · intro b3
          try simp only [nrmT] at b3
          refine ⟨?_, ?_, ?_, id, id, fun _ => s_l1Has_pc set a, id, rfl, id, fun _ => rfl, ?_, ?_⟩
          · first | omega | rfl | (intro hg; simp only [nrmT] at hg; omega) | (intro g1 g2; simp [g1, g2]; done) | (intro g1; simp at g1 ⊢; simp [g1]; done) | (simp only [nrmT] at *; omega) | (simp at * <;> omega) | (simp_all <;> omega) | (simp_all; done)
          · first | omega | rfl | (intro hg; simp only [nrmT] at hg; omega) | (intro g1 g2; simp [g1, g2]; done) | (intro g1; simp at g1 ⊢; simp [g1]; done) | (simp only [nrmT] at *; omega) | (simp at * <;> omega) | (simp_all <;> omega) | (simp_all; done)
          · first | omega | rfl | (intro hg; simp only [nrmT] at hg; omega) | (intro g1 g2; simp [g1, g2]; done) | (intro g1; simp at g1 ⊢; simp [g1]; done) | (simp only [nrmT] at *; omega) | (simp at * <;> omega) | (simp_all <;> omega) | (simp_all; done)
          · intro b4
            unfold flowPrices
            rw [show allTo (fun a => !(decide (w.getD a 0 > 0) && !(set.contains (a : Int)))) w.length = false from allTo_falseI h1 (by omega) (by rw [show ((a.toNat : Nat) : Int) = a by omega]; revert b4; cases decide (w.getD a.toNat 0 > 0) <;> cases set.contains a <;> simp)]
            simp
          · intro b5
            refine ⟨?_, ?_⟩
            · first | omega | rfl | (intro hg; simp only [nrmT] at hg; omega) | (intro g1 g2; simp [g1, g2]; done) | (intro g1; simp at g1 ⊢; simp [g1]; done) | (simp only [nrmT] at *; omega) | (simp at * <;> omega) | (simp_all <;> omega) | (simp_all; done)
            · refine ⟨(a + 1), ?_⟩
              refine ⟨?_, ?_, rfl, rfl, rfl, rfl, rfl, rfl⟩
              · refine ⟨?_, ?_, ?_, ?_, ?_⟩
                · first | omega | rfl | (intro hg; simp only [nrmT] at hg; omega) | (intro g1 g2; simp [g1, g2]; done) | (intro g1; simp at g1 ⊢; simp [g1]; done) | (simp only [nrmT] at *; omega) | (simp at * <;> omega) | (simp_all <;> omega) | (simp_all; done)
                · first | omega | rfl | (intro hg; simp only [nrmT] at hg; omega) | (intro g1 g2; simp [g1, g2]; done) | (intro g1; simp at g1 ⊢; simp [g1]; done) | (simp only [nrmT] at *; omega) | (simp at * <;> omega) | (simp_all <;> omega) | (simp_all; done)
                · exact allTo_step h1 h3 (by rw [show ((a.toNat : Nat) : Int) = a by omega]; revert b5; cases decide (w.getD a.toNat 0 > 0) <;> cases set.contains a <;> simp)
                · exact h4
                · exact h5
              · first | (show _ < _; omega) | (simp only [s_l7Prices_mJ0]; omega) | (simp only [s_l7Prices_mJ0] at *; simp at *; omega)
        · intro b6
          try simp only [nrmT] at b6
          refine ⟨?_, rfl, rfl, rfl, rfl, rfl⟩
          · refine ⟨?_, ?_, ?_⟩
            · assumption
            · assumption
            · rw [← h3]; congr 1; omega
    · intro  hJ
      obtain ⟨h6, h7, h8⟩ := hJ
      refine ⟨?_, ?_⟩
      · refine ⟨0, ?_⟩
        refine ⟨?_, rfl, rfl, rfl, rfl, rfl, rfl⟩
        · refine ⟨?_, ?_, ?_⟩
          · first | omega | rfl | (intro hg; simp only [nrmT] at hg; omega) | (intro g1 g2; simp [g1, g2]; done) | (intro g1; simp at g1 ⊢; simp [g1]; done) | (simp only [nrmT] at *; omega) | (simp at * <;> omega) | (simp_all <;> omega) | (simp_all; done)
          · first | omega | rfl | (intro hg; simp only [nrmT] at hg; omega) | (intro g1 g2; simp [g1, g2]; done) | (intro g1; simp at g1 ⊢; simp [g1]; done) | (simp only [nrmT] at *; omega) | (simp at * <;> omega) | (simp_all <;> omega) | (simp_all; done)
          · first | omega | rfl | (intro hg; simp only [nrmT] at hg; omega) | (intro g1 g2; simp [g1, g2]; done) | (intro g1; simp at g1 ⊢; simp [g1]; done) | (simp only [nrmT] at *; omega) | (simp at * <;> omega) | (simp_all <;> omega) | (simp_all; done)
      · intro j hJ
        obtain ⟨k1, k2, k3⟩ := hJ
        refine ⟨?_, ?_⟩
        · intro b7
          try simp only [nrmT] at b7
          refine ⟨rfl, ?_, ?_, ?_, s_l1In_pc (u.getD j.toNat 0) (-999) 999, id, id, ?_, ?_, id, ?_, id, id, id, id, ?_, id, id, rfl, fun _ => rfl, ?_, ?_, ?_⟩
          · first | omega | rfl | (intro hg; simp only [nrmT] at hg; omega) | (intro g1 g2; simp [g1, g2]; done) | (intro g1; simp at g1 ⊢; simp [g1]; done) | (simp only [nrmT] at *; omega) | (simp at * <;> omega) | (simp_all <;> omega) | (simp_all; done)
          · first | omega | rfl | (intro hg; simp only [nrmT] at hg; omega) | (intro g1 g2; simp [g1, g2]; done) | (intro g1; simp at g1 ⊢; simp [g1]; done) | (simp only [nrmT] at *; omega) | (simp at * <;> omega) | (simp_all <;> omega) | (simp_all; done)
          · first | omega | rfl | (intro hg; simp only [nrmT] at hg; omega) | (intro g1 g2; simp [g1, g2]; done) | (intro g1; simp at g1 ⊢; simp [g1]; done) | (simp only [nrmT] at *; omega) | (simp at * <;> omega) | (simp_all <;> omega) | (simp_all; done)
          · first | omega | rfl | (intro hg; simp only [nrmT] at hg; omega) | (intro g1 g2; simp [g1, g2]; done) | (intro g1; simp at g1 ⊢; simp [g1]; done) | (simp only [nrmT] at *; omega) | (simp at * <;> omega) | (simp_all <;> omega) | (simp_all; done)
          · first | omega | rfl | (intro hg; simp only [nrmT] at hg; omega) | (intro g1 g2; simp [g1, g2]; done) | (intro g1; simp at g1 ⊢; simp [g1]; done) | (simp only [nrmT] at *; omega) | (simp at * <;> omega) | (simp_all <;> omega) | (simp_all; done)
          · first | omega | rfl | (intro hg; simp only [nrmT] at hg; omega) | (intro g1 g2; simp [g1, g2]; done) | (intro g1; simp at g1 ⊢; simp [g1]; done) | (simp only [nrmT] at *; omega) | (simp at * <;> omega) | (simp_all <;> omega) | (simp_all; done)
          · intro hg
            refine s_l7Offer_pc Open Dist set w j ?_ ?_ ?_
            · exact ht
            · assumption
            · first | omega | rfl | (intro hg; simp only [nrmT] at hg; omega) | (intro g1 g2; simp [g1, g2]; done) | (intro g1; simp at g1 ⊢; simp [g1]; done) | (simp only [nrmT] at *; omega) | (simp at * <;> omega) | (simp_all <;> omega) | (simp_all; done)
          · first | omega | rfl | (intro hg; simp only [nrmT] at hg; omega) | (intro g1 g2; simp [g1, g2]; done) | (intro g1; simp at g1 ⊢; simp [g1]; done) | (simp only [nrmT] at *; omega) | (simp at * <;> omega) | (simp_all <;> omega) | (simp_all; done)
          · intro b8
            unfold flowPrices
            rw [show allTo (priceOk Dist set u w) u.length = false from allTo_falseI k1 (by omega) (by unfold priceOk; rw [show ((j.toNat : Nat) : Int) = j by omega]; revert b8; cases inB (u.getD j.toNat 0) (-999) 999 <;> by_cases h : u.getD j.toNat 0 ≤ offTo Dist set w j set.length <;> simp [h] <;> omega)]
            simp
          · intro b9
            refine ⟨?_, ?_⟩
            · first | omega | rfl | (intro hg; simp only [nrmT] at hg; omega) | (intro g1 g2; simp [g1, g2]; done) | (intro g1; simp at g1 ⊢; simp [g1]; done) | (simp only [nrmT] at *; omega) | (simp at * <;> omega) | (simp_all <;> omega) | (simp_all; done)
            · refine ⟨(j + 1), ?_⟩
              refine ⟨?_, ?_, rfl, rfl, rfl, rfl, rfl, rfl⟩
              · refine ⟨?_, ?_, ?_⟩
                · first | omega | rfl | (intro hg; simp only [nrmT] at hg; omega) | (intro g1 g2; simp [g1, g2]; done) | (intro g1; simp at g1 ⊢; simp [g1]; done) | (simp only [nrmT] at *; omega) | (simp at * <;> omega) | (simp_all <;> omega) | (simp_all; done)
                · first | omega | rfl | (intro hg; simp only [nrmT] at hg; omega) | (intro g1 g2; simp [g1, g2]; done) | (intro g1; simp at g1 ⊢; simp [g1]; done) | (simp only [nrmT] at *; omega) | (simp at * <;> omega) | (simp_all <;> omega) | (simp_all; done)
                · exact allTo_step k1 k3 (by unfold priceOk; rw [show ((j.toNat : Nat) : Int) = j by omega]; revert b9; cases inB (u.getD j.toNat 0) (-999) 999 <;> by_cases h : u.getD j.toNat 0 ≤ offTo Dist set w j set.length <;> simp [h] <;> omega)
              · first | (show _ < _; omega) | (simp only [s_l7Prices_mJ1]; omega) | (simp only [s_l7Prices_mJ1] at *; simp at *; omega)
        · intro b10
          try simp only [nrmT] at b10
          unfold flowPrices
          rw [h7, h8, show decide (u.length = Dist.length) = true from decide_eq_true (by omega)]
          have : allTo (priceOk Dist set u w) u.length = true := by rw [← k3]; congr 1; omega
          rw [this]; rfl
theorem s_l7Prices_pc (Open : List Int) (Dist : List (List Int)) (set : List Int) (u : List Int) (w : List Int) (ht : (goodField Open Dist && rising set 0 ((Open.length : Int) - 1) && decide (0 < set.length)) = true) : PC Try.prog 130 [.agg [.sl (.ints Open), .sl (.rows Dist)], .sl (.ints set), .sl (.ints u), .sl (.ints w)] (.one (.d (.bool (flowPrices Open Dist set u w)))) :=
  pc_wf @Try.call130 fun hw => pc_by (by kernel_rfl) Try.func130 @Try.call130 (by kernel_rfl) s_l7Prices_C (s_l7Prices_A Open Dist set u w) (by kernel_rfl) (s_l7Prices_vc Open Dist set u w ht hw.1.1 hw.1.2.1.1 hw.1.2.1.2 hw.2.1 hw.2.2.1 hw.2.2.2.1) (by kernel_rfl)
def s_l7Prices_orc : List D → Orc := orcN [none, some .ints, some .ints, some .ints] fun ds => match ds with
  | [.agg [.sl (.ints Open), .sl (.rows Dist)], .sl (.ints set), .sl (.ints u), .sl (.ints w)] => some (.one (.d (.bool (flowPrices Open Dist set u w))))
  | _ => none
def okI (Dist : List (List Int)) (set u w : List Int) (a : Nat) : Bool := !(decide (w.getD a 0 > 0) && !(set.contains (a : Int))) && allTo (fun i => !(set.contains (a : Int) && decide (u.getD i 0 > (Dist.getD i []).getD a 0 + w.getD a 0))) Dist.length
theorem open_bit {set : List Int} {n : Int} (hs : rising set 0 n = true) {a : Int} (ha : 0 ≤ a) : (((bagN set : Nat) : Int).toNat.testBit a.toNat) = set.contains a := by
  rw [Int.toNat_natCast, bagN_bit (fun x hx => (rising_mem hs x hx).1), show ((a.toNat : Nat) : Int) = a by omega]
theorem flow_no {Open : List Int} {Dist : List (List Int)} {set u w : List Int} (h : (((u.length : Int) == (Dist.length : Int)) && rowOk w (Open.length : Int) 999 && u.all (fun x => inB x (-999) 999)) = false) : flowPrices Open Dist set u w = false := by
  unfold flowPrices
  rw [← len_beq]
  cases hb : u.all (fun x => inB x (-999) 999) with
  | true =>
    rw [hb, Bool.and_true] at h
    rw [h]; rfl
  | false =>
    rw [List.all_eq_false] at hb
    obtain ⟨x, hx, h2⟩ := hb
    obtain ⟨k, hk, rfl⟩ := List.mem_iff_getElem.1 hx
    have : allTo (priceOk Dist set u w) u.length = false := by
      refine allTo_false hk ?_
      unfold priceOk
      rw [getD_get hk, Bool.eq_false_iff.2 h2, Bool.false_and]
    rw [this, Bool.and_false]
theorem flow_eq {Open : List Int} {Dist : List (List Int)} {set u w : List Int} (ht : (goodField Open Dist && rising set 0 ((Open.length : Int) - 1) && decide (0 < set.length)) = true) (hu : u.length = Dist.length) (hb : u.all (fun x => inB x (-999) 999) = true)
    (hw : rowOk w (Open.length : Int) 999 = true) : flowPrices Open Dist set u w = allTo (okI Dist set u w) w.length := by
  obtain ⟨hg, hs, hp⟩ := two_facts ht
  obtain ⟨wl, wb⟩ := rowOk_at hw
  unfold flowPrices
  rw [decide_eq_true hu, hw, Bool.true_and, Bool.true_and, Bool.eq_iff_iff, Bool.and_eq_true]
  simp only [allTo_iff]
  constructor
  · rintro ⟨h1, h2⟩ a ha
    unfold okI
    rw [h1 a ha, Bool.true_and, allTo_iff]
    intro i hi
    have h3 := h2 i (by omega)
    unfold priceOk at h3
    simp only [Bool.and_eq_true, decide_eq_true_eq] at h3
    rw [offTo_le _ hp] at h3
    rw [Bool.not_eq_true', Bool.and_eq_false_iff]
    cases hc : set.contains (a : Int) with
    | false => exact .inl rfl
    | true =>
      refine .inr (decide_eq_false ?_)
      rw [List.contains_iff_mem] at hc
      obtain ⟨j, hj, hj2⟩ := List.mem_iff_getElem.1 hc
      have h4 := h3.2 j hj
      unfold offAt at h4
      rw [getD_get hj, hj2, Int.toNat_natCast, Int.toNat_natCast] at h4
      omega
  · intro h
    refine ⟨fun a ha => ?_, fun i hi => ?_⟩
    · have h1 := h a ha
      unfold okI at h1
      rw [Bool.and_eq_true] at h1
      exact h1.1
    · unfold priceOk
      simp only [Bool.and_eq_true, decide_eq_true_eq]
      refine ⟨List.all_eq_true.1 hb _ (getD_mem hi), ?_⟩
      rw [offTo_le _ hp]
      intro j hj
      have h3 := rising_at hs j hj
      have h1 := h (set.getD j 0).toNat (by omega)
      unfold okI at h1
      simp only [Bool.and_eq_true] at h1
      have h2 := allTo_iff.1 h1.2 i (by omega)
      rw [show (((set.getD j 0).toNat : Nat) : Int) = set.getD j 0 by omega] at h2
      have h4 : set.contains (set.getD j 0) = true := by rw [List.contains_iff_mem]; exact getD_mem hj
      rw [h4, Bool.true_and, Bool.not_eq_true', decide_eq_false_iff_not] at h2
      unfold offAt
      rw [Int.toNat_natCast]
      omega
abbrev i_Field_areFlowPrices_JJ0 (Open : List Int) (Dist : List (List Int)) (set : List Int) (u : List Int) (w : List Int) (a : Int) : Prop := (0 ≤ a) ∧ (a ≤ (w.length : Int)) ∧ (allTo (okI Dist set u w) a.toNat = true) ∧ ((u.length : Int) = (Dist.length : Int)) ∧ (u.all (fun x => inB x (-999) 999) = true) ∧ (rowOk w (Open.length : Int) 999 = true)
abbrev i_Field_areFlowPrices_mJ0 (Open : List Int) (Dist : List (List Int)) (set : List Int) (u : List Int) (w : List Int) (a : Int) : Nat := (w.length - a).toNat
abbrev i_Field_areFlowPrices_JJ1 (Open : List Int) (Dist : List (List Int)) (set : List Int) (u : List Int) (w : List Int) (a : Int) (i : Int) : Prop := (0 ≤ i) ∧ (i ≤ (Dist.length : Int)) ∧ (allTo (fun i => !(set.contains (a.toNat : Int) && decide (u.getD i 0 > (Dist.getD i []).getD a.toNat 0 + w.getD a.toNat 0))) i.toNat = true) ∧ ((decide (w.getD a.toNat 0 > 0) && !(set.contains a)) = false)
abbrev i_Field_areFlowPrices_mJ1 (Open : List Int) (Dist : List (List Int)) (set : List Int) (u : List Int) (w : List Int) (a : Int) (i : Int) : Nat := (Dist.length - i).toNat
def i_Field_areFlowPrices_C (f : FuncId) (ds : List D) : Orc := bif Nat.beq f 162 then i_areBetween_orc ds else bif Nat.beq f 139 then i_bagOf_orc ds else bif Nat.beq f 183 then i_bag_has_orc ds else .no
def i_Field_areFlowPrices_A (Open : List Int) (Dist : List (List Int)) (set : List Int) (u : List Int) (w : List Int) : Ann := .two (.none) (.two (.none) (.two (.none) (.two (.two (.none) (.loop (cut1 (fun (a : Int) => i_Field_areFlowPrices_JJ0 Open Dist set u w a) (fun (a : Int) => [(2, .d false (.sl (.ints u))), (4, .ptr 4 0), (9, .d true (.int .u64 ((bagN set : Nat) : Int))), (40, .d false (.sl (.ints w))), (41, .d true (.int .i64 (w.length : Int))), (42, .d true (.int .i64 a))]) (fun (a : Int) => [(4, .box 44 [.d false (.sl (.ints Open)), .d false (.sl (.rows Dist))])])) (fun g => i_Field_areFlowPrices_mJ0 Open Dist set u w g) (fun g => (fun (a : Int) => .two (.none) (.two (.none) (.two (.two (.none) (.two (.none) (.two (.none) (.loop (cut1 (fun (i : Int) => i_Field_areFlowPrices_JJ1 Open Dist set u w a i) (fun (i : Int) => [(2, .d false (.sl (.ints u))), (4, .ptr 4 0), (9, .d true (.int .u64 ((bagN set : Nat) : Int))), (10, .d true (.int .i64 a)), (11, .d false (.int .i64 (w.getD a.toNat 0))), (40, .d false (.sl (.ints w))), (41, .d true (.int .i64 (w.length : Int))), (42, .d true (.int .i64 a)), (56, .d false (.sl (.rows Dist))), (57, .d true (.int .i64 (Dist.length : Int))), (58, .d true (.int .i64 i))]) (fun (i : Int) => [(4, .box 44 [.d false (.sl (.ints Open)), .d false (.sl (.rows Dist))])])) (fun g => i_Field_areFlowPrices_mJ1 Open Dist set u w a g) (fun _ => .none))))) (.none)))) g))) (.none))))
def i_Field_areFlowPrices_P (Open : List Int) (Dist : List (List Int)) (set : List Int) (u : List Int) (w : List Int) : Prop :=
  ((!((u.length : Int) != (Dist.length : Int))) = true → (!((u.length : Int) != (Dist.length : Int))) = true) ∧ ((!((u.length : Int) != (Dist.length : Int))) = true → (!((u.length : Int) != (Dist.length : Int))) = true) ∧ ((!((u.length : Int) != (Dist.length : Int))) = true → (!((u.length : Int) != (Dist.length : Int))) = true) ∧ ((!((u.length : Int) != (Dist.length : Int))) = true → (!((u.length : Int) != (Dist.length : Int))) = true) ∧ ((!((u.length : Int) != (Dist.length : Int))) = true → (!((u.length : Int) != (Dist.length : Int))) = true) ∧ (true = true) ∧ ((((u.length : Int) != (Dist.length : Int)) = true → true = true)) ∧ ((((u.length : Int) != (Dist.length : Int)) = false → (!((u.length : Int) != (Dist.length : Int))) = true)) ∧ ((!(cond ((u.length : Int) != (Dist.length : Int)) true ((w.length : Int) != (Open.length : Int)))) = true → (!(cond ((u.length : Int) != (Dist.length : Int)) true ((w.length : Int) != (Open.length : Int)))) = true) ∧ ((!(cond ((u.length : Int) != (Dist.length : Int)) true ((w.length : Int) != (Open.length : Int)))) = true → PC Try.prog 162 [.sl (.ints u), .int .i64 (-999), .int .i64 999] (.one (.d (.bool (u.all (fun x => inB x (-999) 999)))))) ∧ ((!(cond ((u.length : Int) != (Dist.length : Int)) true ((w.length : Int) != (Open.length : Int)))) = true → (!(cond ((u.length : Int) != (Dist.length : Int)) true ((w.length : Int) != (Open.length : Int)))) = true) ∧ (true = true) ∧ (((cond ((u.length : Int) != (Dist.length : Int)) true ((w.length : Int) != (Open.length : Int))) = true → true = true)) ∧ (((cond ((u.length : Int) != (Dist.length : Int)) true ((w.length : Int) != (Open.length : Int))) = false → (!(cond ((u.length : Int) != (Dist.length : Int)) true ((w.length : Int) != (Open.length : Int)))) = true)) ∧ ((!(cond (cond ((u.length : Int) != (Dist.length : Int)) true ((w.length : Int) != (Open.length : Int))) true (!(u.all (fun x => inB x (-999) 999))))) = true → (!(cond (cond ((u.length : Int) != (Dist.length : Int)) true ((w.length : Int) != (Open.length : Int))) true (!(u.all (fun x => inB x (-999) 999))))) = true) ∧ ((!(cond (cond ((u.length : Int) != (Dist.length : Int)) true ((w.length : Int) != (Open.length : Int))) true (!(u.all (fun x => inB x (-999) 999))))) = true → PC Try.prog 162 [.sl (.ints w), .int .i64 0, .int .i64 999] (.one (.d (.bool (w.all (fun x => inB x 0 999)))))) ∧ ((!(cond (cond ((u.length : Int) != (Dist.length : Int)) true ((w.length : Int) != (Open.length : Int))) true (!(u.all (fun x => inB x (-999) 999))))) = true → (!(cond (cond ((u.length : Int) != (Dist.length : Int)) true ((w.length : Int) != (Open.length : Int))) true (!(u.all (fun x => inB x (-999) 999))))) = true) ∧ (true = true) ∧ (((cond (cond ((u.length : Int) != (Dist.length : Int)) true ((w.length : Int) != (Open.length : Int))) true (!(u.all (fun x => inB x (-999) 999)))) = true → true = true)) ∧ (((cond (cond ((u.length : Int) != (Dist.length : Int)) true ((w.length : Int) != (Open.length : Int))) true (!(u.all (fun x => inB x (-999) 999)))) = false → (!(cond (cond ((u.length : Int) != (Dist.length : Int)) true ((w.length : Int) != (Open.length : Int))) true (!(u.all (fun x => inB x (-999) 999))))) = true)) ∧ (((cond (cond (cond ((u.length : Int) != (Dist.length : Int)) true ((w.length : Int) != (Open.length : Int))) true (!(u.all (fun x => inB x (-999) 999)))) true (!(w.all (fun x => inB x 0 999)))) = true → ((false = (flowPrices Open Dist set u w)))) ∧ ((cond (cond (cond ((u.length : Int) != (Dist.length : Int)) true ((w.length : Int) != (Open.length : Int))) true (!(u.all (fun x => inB x (-999) 999)))) true (!(w.all (fun x => inB x 0 999)))) = false → (PC Try.prog 139 [.sl (.ints set)] (.one (.d (.int .u64 ((bagN set : Nat) : Int))))) ∧ ((∃ a' : Int, (i_Field_areFlowPrices_JJ0 Open Dist set u w a') ∧ (u = u) ∧ (((bagN set : Nat) : Int) = ((bagN set : Nat) : Int)) ∧ (w = w) ∧ ((w.length : Int) = (w.length : Int)) ∧ ((0 : Int) = a') ∧ (Open = Open) ∧ (Dist = Dist)) ∧ (∀ a : Int, (i_Field_areFlowPrices_JJ0 Open Dist set u w a) → (((decide (a < (w.length : Int))) = true → ((0 : Int) ≤ a) ∧ ((a : Int) < w.length) ∧ (a.toNat < w.length) ∧ (PC Try.prog 183 [.int .u64 ((bagN set : Nat) : Int), .int .i64 a] (.one (.d (.bool (((bagN set : Nat) : Int).toNat.testBit a.toNat))))) ∧ ((!(((bagN set : Nat) : Int).toNat.testBit a.toNat)) = true → (!(((bagN set : Nat) : Int).toNat.testBit a.toNat)) = true) ∧ (true = true) ∧ (((!(((bagN set : Nat) : Int).toNat.testBit a.toNat)) = true → (!(((bagN set : Nat) : Int).toNat.testBit a.toNat)) = true)) ∧ (((!(((bagN set : Nat) : Int).toNat.testBit a.toNat)) = false → true = true)) ∧ (((cond (!(((bagN set : Nat) : Int).toNat.testBit a.toNat)) (decide ((w.getD a.toNat 0) > 0)) false) = true → ((false = (flowPrices Open Dist set u w)))) ∧ ((cond (!(((bagN set : Nat) : Int).toNat.testBit a.toNat)) (decide ((w.getD a.toNat 0) > 0)) false) = false → ((∃ i' : Int, (i_Field_areFlowPrices_JJ1 Open Dist set u w a i') ∧ (u = u) ∧ (((bagN set : Nat) : Int) = ((bagN set : Nat) : Int)) ∧ (a = a) ∧ ((w.getD a.toNat 0) = (w.getD a.toNat 0)) ∧ (w = w) ∧ ((w.length : Int) = (w.length : Int)) ∧ (a = a) ∧ (Dist = Dist) ∧ ((Dist.length : Int) = (Dist.length : Int)) ∧ ((0 : Int) = i') ∧ (Open = Open) ∧ (Dist = Dist)) ∧ (∀ i : Int, (i_Field_areFlowPrices_JJ1 Open Dist set u w a i) → (((decide (i < (Dist.length : Int))) = true → ((0 : Int) ≤ i) ∧ ((i : Int) < Dist.length) ∧ (i.toNat < Dist.length) ∧ (true = true) ∧ (PC Try.prog 183 [.int .u64 ((bagN set : Nat) : Int), .int .i64 a] (.one (.d (.bool (((bagN set : Nat) : Int).toNat.testBit a.toNat))))) ∧ ((((bagN set : Nat) : Int).toNat.testBit a.toNat) = true → (((bagN set : Nat) : Int).toNat.testBit a.toNat) = true) ∧ ((((bagN set : Nat) : Int).toNat.testBit a.toNat) = true → (((bagN set : Nat) : Int).toNat.testBit a.toNat) = true) ∧ (((((bagN set : Nat) : Int).toNat.testBit a.toNat) = true → (0 : Int) ≤ i)) ∧ (((((bagN set : Nat) : Int).toNat.testBit a.toNat) = true → (i : Int) < u.length)) ∧ ((((bagN set : Nat) : Int).toNat.testBit a.toNat) = true → (((bagN set : Nat) : Int).toNat.testBit a.toNat) = true) ∧ (((((bagN set : Nat) : Int).toNat.testBit a.toNat) = true → i.toNat < u.length)) ∧ ((((bagN set : Nat) : Int).toNat.testBit a.toNat) = true → (((bagN set : Nat) : Int).toNat.testBit a.toNat) = true) ∧ ((((bagN set : Nat) : Int).toNat.testBit a.toNat) = true → (((bagN set : Nat) : Int).toNat.testBit a.toNat) = true) ∧ (((((bagN set : Nat) : Int).toNat.testBit a.toNat) = true → (0 : Int) ≤ a)) ∧ (((((bagN set : Nat) : Int).toNat.testBit a.toNat) = true → (a : Int) < (Dist.getD i.toNat []).length)) ∧ ((((bagN set : Nat) : Int).toNat.testBit a.toNat) = true → (((bagN set : Nat) : Int).toNat.testBit a.toNat) = true) ∧ (((((bagN set : Nat) : Int).toNat.testBit a.toNat) = true → a.toNat < (Dist.getD i.toNat []).length)) ∧ ((((bagN set : Nat) : Int).toNat.testBit a.toNat) = true → (((bagN set : Nat) : Int).toNat.testBit a.toNat) = true) ∧ ((((bagN set : Nat) : Int).toNat.testBit a.toNat) = true → (((bagN set : Nat) : Int).toNat.testBit a.toNat) = true) ∧ (((((bagN set : Nat) : Int).toNat.testBit a.toNat) = true → -9223372036854775808 ≤ (((Dist.getD i.toNat []).getD a.toNat 0) + (w.getD a.toNat 0)) ∧ (((Dist.getD i.toNat []).getD a.toNat 0) + (w.getD a.toNat 0)) ≤ 9223372036854775807)) ∧ ((((bagN set : Nat) : Int).toNat.testBit a.toNat) = true → (((bagN set : Nat) : Int).toNat.testBit a.toNat) = true) ∧ ((((bagN set : Nat) : Int).toNat.testBit a.toNat) = true → (((bagN set : Nat) : Int).toNat.testBit a.toNat) = true) ∧ (true = true) ∧ (((((bagN set : Nat) : Int).toNat.testBit a.toNat) = true → (((bagN set : Nat) : Int).toNat.testBit a.toNat) = true)) ∧ (((((bagN set : Nat) : Int).toNat.testBit a.toNat) = false → true = true)) ∧ (((cond (((bagN set : Nat) : Int).toNat.testBit a.toNat) (decide ((u.getD i.toNat 0) > (((Dist.getD i.toNat []).getD a.toNat 0) + (w.getD a.toNat 0)))) false) = true → ((false = (flowPrices Open Dist set u w)))) ∧ ((cond (((bagN set : Nat) : Int).toNat.testBit a.toNat) (decide ((u.getD i.toNat 0) > (((Dist.getD i.toNat []).getD a.toNat 0) + (w.getD a.toNat 0)))) false) = false → (-9223372036854775808 ≤ (i + 1) ∧ (i + 1) ≤ 9223372036854775807) ∧ (∃ i' : Int, (i_Field_areFlowPrices_JJ1 Open Dist set u w a i') ∧ (i_Field_areFlowPrices_mJ1 Open Dist set u w a i' < i_Field_areFlowPrices_mJ1 Open Dist set u w a i) ∧ (u = u) ∧ (((bagN set : Nat) : Int) = ((bagN set : Nat) : Int)) ∧ (a = a) ∧ ((w.getD a.toNat 0) = (w.getD a.toNat 0)) ∧ (w = w) ∧ ((w.length : Int) = (w.length : Int)) ∧ (a = a) ∧ (Dist = Dist) ∧ ((Dist.length : Int) = (Dist.length : Int)) ∧ ((i + 1) = i') ∧ (Open = Open) ∧ (Dist = Dist))))) ∧ ((decide (i < (Dist.length : Int))) = false → (-9223372036854775808 ≤ (a + 1) ∧ (a + 1) ≤ 9223372036854775807) ∧ (∃ a' : Int, (i_Field_areFlowPrices_JJ0 Open Dist set u w a') ∧ (i_Field_areFlowPrices_mJ0 Open Dist set u w a' < i_Field_areFlowPrices_mJ0 Open Dist set u w a) ∧ (u = u) ∧ (((bagN set : Nat) : Int) = ((bagN set : Nat) : Int)) ∧ (w = w) ∧ ((w.length : Int) = (w.length : Int)) ∧ ((a + 1) = a') ∧ (Open = Open) ∧ (Dist = Dist))))))))) ∧ ((decide (a < (w.length : Int))) = false → ((true = (flowPrices Open Dist set u w)))))))))
theorem i_Field_areFlowPrices_vc (Open : List Int) (Dist : List (List Int)) (set : List Int) (u : List Int) (w : List Int) (ht : (goodField Open Dist && rising set 0 ((Open.length : Int) - 1) && decide (0 < set.length)) = true) (w_Open : (Open.length : Int) ≤ 9223372036854775807) (w_Dist : (Dist.length : Int) ≤ 9223372036854775807) (v_Dist : ∀ x9 ∈ Dist, (x9.length : Int) ≤ 9223372036854775807) (w_set : (set.length : Int) ≤ 9223372036854775807) (w_u : (u.length : Int) ≤ 9223372036854775807) (w_w : (w.length : Int) ≤ 9223372036854775807) : i_Field_areFlowPrices_P Open Dist set u w := by
  unfold i_Field_areFlowPrices_P
  obtain ⟨hg, hs, hp⟩ := two_facts ht
  obtain ⟨g1, g2, g3⟩ := gf_open hg
  have cs := fun k => rising_at hs k
  have hbl := bagN_lt (m := 62) (list := set) fun x hx => by have := rising_mem hs x hx; omega
  have he : (2 : Nat) ^ 62 = 4611686018427387904 := by decide
  refine ⟨id, id, id, id, id, rfl, fun _ => rfl, ?_, id, fun _ => i_areBetween_pc u (-999) 999, id, rfl, fun _ => rfl, ?_, id, fun _ => i_areBetween_pc w 0 999, id, rfl, fun _ => rfl, ?_, ?_, ?_⟩
  · first | omega | rfl | (intro hg; simp only [nrmT] at hg; omega) | (intro g1 g2; simp [g1, g2]; done) | (intro g1; simp at g1 ⊢; simp [g1]; done) | (simp only [nrmT] at *; omega) | (simp at * <;> omega) | (simp_all <;> omega) | (simp_all; done)
  · first | omega | rfl | (intro hg; simp only [nrmT] at hg; omega) | (intro g1 g2; simp [g1, g2]; done) | (intro g1; simp at g1 ⊢; simp [g1]; done) | (simp only [nrmT] at *; omega) | (simp at * <;> omega) | (simp_all <;> omega) | (simp_all; done)
  · first | omega | rfl | (intro hg; simp only [nrmT] at hg; omega) | (intro g1 g2; simp [g1, g2]; done) | (intro g1; simp at g1 ⊢; simp [g1]; done) | (simp only [nrmT] at *; omega) | (simp at * <;> omega) | (simp_all <;> omega) | (simp_all; done)
  · intro b1
    refine (flow_no ?_).symm
    revert b1; rw [rowOk_cond]; simp only [bne]; cases ((u.length : Int) == (Dist.length : Int)) <;> cases ((w.length : Int) == (Open.length : Int)) <;> cases u.all (fun x => inB x (-999) 999) <;> cases w.all (fun x => inB x 0 999) <;> simp
  · intro b2
    refine ⟨?_, ?_, ?_⟩
    · refine i_bagOf_pc set ?_
      · intro x hx; have := rising_mem hs x hx; omega
    · refine ⟨0, ?_⟩
      refine ⟨?_, rfl, rfl, rfl, rfl, rfl, rfl, rfl⟩
      · refine ⟨?_, ?_, ?_, ?_, ?_, ?_⟩
        · first | omega | rfl | (intro hg; simp only [nrmT] at hg; omega) | (intro g1 g2; simp [g1, g2]; done) | (intro g1; simp at g1 ⊢; simp [g1]; done) | (simp only [nrmT] at *; omega) | (simp at * <;> omega) | (simp_all <;> omega) | (simp_all; done)
        · first | omega | rfl | (intro hg; simp only [nrmT] at hg; omega) | (intro g1 g2; simp [g1, g2]; done) | (intro g1; simp at g1 ⊢; simp [g1]; done) | (simp only [nrmT] at *; omega) | (simp at * <;> omega) | (simp_all <;> omega) | (simp_all; done)
        · first | omega | rfl | (intro hg; simp only [nrmT] at hg; omega) | (intro g1 g2; simp [g1, g2]; done) | (intro g1; simp at g1 ⊢; simp [g1]; done) | (simp only [nrmT] at *; omega) | (simp at * <;> omega) | (simp_all <;> omega) | (simp_all; done)
        · have hq : (u.length : Int) = (Dist.length : Int) ∧ u.all (fun x => inB x (-999) 999) = true ∧ rowOk w (Open.length : Int) 999 = true := by
            revert b2; rw [rowOk_cond]; cases u.all (fun x => inB x (-999) 999) <;> cases w.all (fun x => inB x 0 999) <;> by_cases h : (u.length : Int) = (Dist.length : Int) <;> by_cases h2 : (w.length : Int) = (Open.length : Int) <;> simp [h, h2]
          exact hq.1
        · have hq : (u.length : Int) = (Dist.length : Int) ∧ u.all (fun x => inB x (-999) 999) = true ∧ rowOk w (Open.length : Int) 999 = true := by
            revert b2; rw [rowOk_cond]; cases u.all (fun x => inB x (-999) 999) <;> cases w.all (fun x => inB x 0 999) <;> by_cases h : (u.length : Int) = (Dist.length : Int) <;> by_cases h2 : (w.length : Int) = (Open.length : Int) <;> simp [h, h2]
          exact hq.2.1
        · have hq : (u.length : Int) = (Dist.length : Int) ∧ u.all (fun x => inB x (-999) 999) = true ∧ rowOk w (Open.length : Int) 999 = true := by
            revert b2; rw [rowOk_cond]; cases u.all (fun x => inB x (-999) 999) <;> cases w.all (fun x => inB x 0 999) <;> by_cases h : (u.length : Int) = (Dist.length : Int) <;> by_cases h2 : (w.length : Int) = (Open.length : Int) <;> simp [h, h2]
          exact hq.2.2
    · intro a hJ
      obtain ⟨h1, h2, h3, h4, h5, h6⟩ := hJ
      refine ⟨?_, ?_⟩
      · intro b3
        try simp only [nrmT] at b3
        refine ⟨?_, ?_, ?_, ?_, id, rfl, id, fun _ => rfl, ?_, ?_⟩
        · first | omega | rfl | (intro hg; simp only [nrmT] at hg; omega) | (intro g1 g2; simp [g1, g2]; done) | (intro g1; simp at g1 ⊢; simp [g1]; done) | (simp only [nrmT] at *; omega) | (simp at * <;> omega) | (simp_all <;> omega) | (simp_all; done)
        · first | omega | rfl | (intro hg; simp only [nrmT] at hg; omega) | (intro g1 g2; simp [g1, g2]; done) | (intro g1; simp at g1 ⊢; simp [g1]; done) | (simp only [nrmT] at *; omega) | (simp at * <;> omega) | (simp_all <;> omega) | (simp_all; done)
        · first | omega | rfl | (intro hg; simp only [nrmT] at hg; omega) | (intro g1 g2; simp [g1, g2]; done) | (intro g1; simp at g1 ⊢; simp [g1]; done) | (simp only [nrmT] at *; omega) | (simp at * <;> omega) | (simp_all <;> omega) | (simp_all; done)
        · refine i_bag_has_pc ((bagN set : Nat) : Int) a ?_ ?_
          · omega
          · first | omega | rfl | (intro hg; simp only [nrmT] at hg; omega) | (intro g1 g2; simp [g1, g2]; done) | (intro g1; simp at g1 ⊢; simp [g1]; done) | (simp only [nrmT] at *; omega) | (simp at * <;> omega) | (simp_all <;> omega) | (simp_all; done)
        · intro b4
          have hfe := flow_eq (u := u) ht (by omega) h5 h6
          rw [hfe]
          rw [open_bit hs h1] at b4
          exact (allTo_falseI h1 (by omega) (by unfold okI; rw [show ((a.toNat : Nat) : Int) = a by omega]; revert b4; cases set.contains a <;> cases decide (w.getD a.toNat 0 > 0) <;> simp)).symm
        · intro b5
          refine ⟨?_, ?_⟩
          · refine ⟨0, ?_⟩
            refine ⟨?_, rfl, rfl, rfl, rfl, rfl, rfl, rfl, rfl, rfl, rfl, rfl, rfl⟩
            · refine ⟨?_, ?_, ?_, ?_⟩
              · first | omega | rfl | (intro hg; simp only [nrmT] at hg; omega) | (intro g1 g2; simp [g1, g2]; done) | (intro g1; simp at g1 ⊢; simp [g1]; done) | (simp only [nrmT] at *; omega) | (simp at * <;> omega) | (simp_all <;> omega) | (simp_all; done)
              · first | omega | rfl | (intro hg; simp only [nrmT] at hg; omega) | (intro g1 g2; simp [g1, g2]; done) | (intro g1; simp at g1 ⊢; simp [g1]; done) | (simp only [nrmT] at *; omega) | (simp at * <;> omega) | (simp_all <;> omega) | (simp_all; done)
              · first | omega | rfl | (intro hg; simp only [nrmT] at hg; omega) | (intro g1 g2; simp [g1, g2]; done) | (intro g1; simp at g1 ⊢; simp [g1]; done) | (simp only [nrmT] at *; omega) | (simp at * <;> omega) | (simp_all <;> omega) | (simp_all; done)
              · rw [open_bit hs h1] at b5
                revert b5; cases set.contains a <;> cases decide (w.getD a.toNat 0 > 0) <;> simp
          · intro i hJ
            obtain ⟨k1, k2, k3, k4⟩ := hJ
            refine ⟨?_, ?_⟩
            · intro b6
              try simp only [nrmT] at b6
              refine ⟨?_, ?_, ?_, rfl, ?_, id, id, ?_, ?_, id, ?_, id, id, ?_, ?_, id, ?_, id, id, ?_, id, id, rfl, id, fun _ => rfl, ?_, ?_⟩
              · first | omega | rfl | (intro hg; simp only [nrmT] at hg; omega) | (intro g1 g2; simp [g1, g2]; done) | (intro g1; simp at g1 ⊢; simp [g1]; done) | (simp only [nrmT] at *; omega) | (simp at * <;> omega) | (simp_all <;> omega) | (simp_all; done)
              · first | omega | rfl | (intro hg; simp only [nrmT] at hg; omega) | (intro g1 g2; simp [g1, g2]; done) | (intro g1; simp at g1 ⊢; simp [g1]; done) | (simp only [nrmT] at *; omega) | (simp at * <;> omega) | (simp_all <;> omega) | (simp_all; done)
              · first | omega | rfl | (intro hg; simp only [nrmT] at hg; omega) | (intro g1 g2; simp [g1, g2]; done) | (intro g1; simp at g1 ⊢; simp [g1]; done) | (simp only [nrmT] at *; omega) | (simp at * <;> omega) | (simp_all <;> omega) | (simp_all; done)
              · refine i_bag_has_pc ((bagN set : Nat) : Int) a ?_ ?_
                · omega
                · first | omega | rfl | (intro hg; simp only [nrmT] at hg; omega) | (intro g1 g2; simp [g1, g2]; done) | (intro g1; simp at g1 ⊢; simp [g1]; done) | (simp only [nrmT] at *; omega) | (simp at * <;> omega) | (simp_all <;> omega) | (simp_all; done)
              · intro _; omega
              · intro _; omega
              · intro _; omega
              · intro _; omega
              · intro _
                obtain ⟨rl, rb⟩ := gf_row (i := i.toNat) hg (by omega)
                obtain ⟨wl, wb⟩ := rowOk_at h6
                omega
              · intro _
                obtain ⟨rl, rb⟩ := gf_row (i := i.toNat) hg (by omega)
                obtain ⟨wl, wb⟩ := rowOk_at h6
                omega
              · intro _
                obtain ⟨rl, rb⟩ := gf_row (i := i.toNat) hg (by omega)
                obtain ⟨wl, wb⟩ := rowOk_at h6
                have := rb a.toNat (by omega)
                have := wb a.toNat (by omega)
                omega
              · intro b7
                have hfe := flow_eq (u := u) ht (by omega) h5 h6
                rw [hfe]
                rw [open_bit hs h1] at b7
                refine (allTo_falseI h1 (by omega) ?_).symm
                unfold okI
                rw [show allTo (fun i => !(set.contains (a.toNat : Int) && decide (u.getD i 0 > (Dist.getD i []).getD a.toNat 0 + w.getD a.toNat 0))) Dist.length = false from allTo_falseI k1 (by omega) (by rw [show ((a.toNat : Nat) : Int) = a by omega]; revert b7; cases set.contains a <;> simp), Bool.and_false]
              · intro b8
                refine ⟨?_, ?_⟩
                · first | omega | rfl | (intro hg; simp only [nrmT] at hg; omega) | (intro g1 g2; simp [g1, g2]; done) | (intro g1; simp at g1 ⊢; simp [g1]; done) | (simp only [nrmT] at *; omega) | (simp at * <;> omega) | (simp_all <;> omega) | (simp_all; done)
                · refine ⟨(i + 1), ?_⟩
                  refine ⟨?_, ?_, rfl, rfl, rfl, rfl, rfl, rfl, rfl, rfl, rfl, rfl, rfl, rfl⟩
                  · refine ⟨?_, ?_, ?_, ?_⟩
                    · first | omega | rfl | (intro hg; simp only [nrmT] at hg; omega) | (intro g1 g2; simp [g1, g2]; done) | (intro g1; simp at g1 ⊢; simp [g1]; done) | (simp only [nrmT] at *; omega) | (simp at * <;> omega) | (simp_all <;> omega) | (simp_all; done)
                    · first | omega | rfl | (intro hg; simp only [nrmT] at hg; omega) | (intro g1 g2; simp [g1, g2]; done) | (intro g1; simp at g1 ⊢; simp [g1]; done) | (simp only [nrmT] at *; omega) | (simp at * <;> omega) | (simp_all <;> omega) | (simp_all; done)
                    · refine allTo_step k1 k3 ?_
                      rw [open_bit hs h1] at b8
                      rw [show ((a.toNat : Nat) : Int) = a by omega]; revert b8; cases set.contains a <;> simp
                    · exact k4
                  · first | (show _ < _; omega) | (simp only [i_Field_areFlowPrices_mJ1]; omega) | (simp only [i_Field_areFlowPrices_mJ1] at *; simp at *; omega)
            · intro b9
              try simp only [nrmT] at b9
              refine ⟨?_, ?_⟩
              · first | omega | rfl | (intro hg; simp only [nrmT] at hg; omega) | (intro g1 g2; simp [g1, g2]; done) | (intro g1; simp at g1 ⊢; simp [g1]; done) | (simp only [nrmT] at *; omega) | (simp at * <;> omega) | (simp_all <;> omega) | (simp_all; done)
              · refine ⟨(a + 1), ?_⟩
                refine ⟨?_, ?_, rfl, rfl, rfl, rfl, rfl, rfl, rfl⟩
                · refine ⟨?_, ?_, ?_, ?_, ?_, ?_⟩
                  · first | omega | rfl | (intro hg; simp only [nrmT] at hg; omega) | (intro g1 g2; simp [g1, g2]; done) | (intro g1; simp at g1 ⊢; simp [g1]; done) | (simp only [nrmT] at *; omega) | (simp at * <;> omega) | (simp_all <;> omega) | (simp_all; done)
                  · first | omega | rfl | (intro hg; simp only [nrmT] at hg; omega) | (intro g1 g2; simp [g1, g2]; done) | (intro g1; simp at g1 ⊢; simp [g1]; done) | (simp only [nrmT] at *; omega) | (simp at * <;> omega) | (simp_all <;> omega) | (simp_all; done)
                  · refine allTo_step h1 h3 ?_
                    unfold okI
                    rw [show i.toNat = Dist.length by omega] at k3
                    rw [k3, show ((a.toNat : Nat) : Int) = a by omega, k4]; rfl
                  · exact h4
                  · exact h5
                  · exact h6
                · first | (show _ < _; omega) | (simp only [i_Field_areFlowPrices_mJ0]; omega) | (simp only [i_Field_areFlowPrices_mJ0] at *; simp at *; omega)
      · intro b10
        try simp only [nrmT] at b10
        have hfe := flow_eq (u := u) ht (by omega) h5 h6
        rw [hfe, ← h3]; congr 1; omega
theorem i_Field_areFlowPrices_pc (Open : List Int) (Dist : List (List Int)) (set : List Int) (u : List Int) (w : List Int) (ht : (goodField Open Dist && rising set 0 ((Open.length : Int) - 1) && decide (0 < set.length)) = true) : PC Try.prog 133 [.agg [.sl (.ints Open), .sl (.rows Dist)], .sl (.ints set), .sl (.ints u), .sl (.ints w)] (.one (.d (.bool (flowPrices Open Dist set u w)))) :=
  pc_wf @Try.call133 fun hw => pc_by (by kernel_rfl) Try.func133 @Try.call133 (by kernel_rfl) i_Field_areFlowPrices_C (i_Field_areFlowPrices_A Open Dist set u w) (by kernel_rfl) (i_Field_areFlowPrices_vc Open Dist set u w ht hw.1.1 hw.1.2.1.1 hw.1.2.1.2 hw.2.1 hw.2.2.1 hw.2.2.2.1) (by kernel_rfl)
def i_Field_areFlowPrices_orc : List D → Orc := orcN [none, some .ints, some .ints, some .ints] fun ds => match ds with
  | [.agg [.sl (.ints Open), .sl (.rows Dist)], .sl (.ints set), .sl (.ints u), .sl (.ints w)] => some (.one (.d (.bool (flowPrices Open Dist set u w))))
  | _ => none
def s_l7Given_C (f : FuncId) (ds : List D) : Orc := bif Nat.beq f 109 then s_l2Two_orc ds else bif Nat.beq f 179 then s_l7Needs_orc ds else .no
def s_l7Given_A (Open : List Int) (Dist : List (List Int)) (rooms : List Int) (needs : List Int) (set : List Int) : Ann := .none
def s_l7Given_P (Open : List Int) (Dist : List (List Int)) (rooms : List Int) (needs : List Int) (set : List Int) : Prop :=
  (PC Try.prog 109 [.agg [.sl (.ints Open), .sl (.rows Dist)], .sl (.ints set)] (.one (.d (.bool (goodField Open Dist && rising set 0 ((Open.length : Int) - 1) && decide (0 < set.length)))))) ∧ ((goodField Open Dist && rising set 0 ((Open.length : Int) - 1) && decide (0 < set.length)) = true → (goodField Open Dist && rising set 0 ((Open.length : Int) - 1) && decide (0 < set.length)) = true) ∧ ((goodField Open Dist && rising set 0 ((Open.length : Int) - 1) && decide (0 < set.length)) = true → (goodField Open Dist && rising set 0 ((Open.length : Int) - 1) && decide (0 < set.length)) = true) ∧ ((goodField Open Dist && rising set 0 ((Open.length : Int) - 1) && decide (0 < set.length)) = true → (goodField Open Dist && rising set 0 ((Open.length : Int) - 1) && decide (0 < set.length)) = true) ∧ ((goodField Open Dist && rising set 0 ((Open.length : Int) - 1) && decide (0 < set.length)) = true → PC Try.prog 179 [.agg [.sl (.ints Open), .sl (.rows Dist)], .sl (.ints rooms), .sl (.ints needs)] (.one (.d (.bool (rowOk rooms (Open.length : Int) 20 && rowOk needs (Dist.length : Int) 5))))) ∧ (true = true) ∧ (((goodField Open Dist && rising set 0 ((Open.length : Int) - 1) && decide (0 < set.length)) = true → (goodField Open Dist && rising set 0 ((Open.length : Int) - 1) && decide (0 < set.length)) = true)) ∧ (((goodField Open Dist && rising set 0 ((Open.length : Int) - 1) && decide (0 < set.length)) = false → true = true)) ∧ (((cond (goodField Open Dist && rising set 0 ((Open.length : Int) - 1) && decide (0 < set.length)) (rowOk rooms (Open.length : Int) 20 && rowOk needs (Dist.length : Int) 5) false) = ((goodField Open Dist && rising set 0 ((Open.length : Int) - 1) && decide (0 < set.length)) && (rowOk rooms (Open.length : Int) 20 && rowOk needs (Dist.length : Int) 5))))
theorem s_l7Given_vc (Open : List Int) (Dist : List (List Int)) (rooms : List Int) (needs : List Int) (set : List Int)  (w_Open : (Open.length : Int) ≤ 9223372036854775807) (w_Dist : (Dist.length : Int) ≤ 9223372036854775807) (v_Dist : ∀ x9 ∈ Dist, (x9.length : Int) ≤ 9223372036854775807) (w_rooms : (rooms.length : Int) ≤ 9223372036854775807) (w_needs : (needs.length : Int) ≤ 9223372036854775807) (w_set : (set.length : Int) ≤ 9223372036854775807) : s_l7Given_P Open Dist rooms needs set := by
  unfold s_l7Given_P
  refine ⟨s_l2Two_pc Open Dist set, id, id, id, fun _ => s_l7Needs_pc Open Dist rooms needs, rfl, id, fun _ => rfl, ?_⟩
  · first | omega | rfl | (intro hg; simp only [nrmT] at hg; omega) | (intro g1 g2; simp [g1, g2]; done) | (intro g1; simp at g1 ⊢; simp [g1]; done) | (simp only [nrmT] at *; omega) | (simp at * <;> omega) | (simp_all <;> omega) | (simp_all; done)
theorem s_l7Given_pc (Open : List Int) (Dist : List (List Int)) (rooms : List Int) (needs : List Int) (set : List Int)  : PC Try.prog 129 [.agg [.sl (.ints Open), .sl (.rows Dist)], .sl (.ints rooms), .sl (.ints needs), .sl (.ints set)] (.one (.d (.bool ((goodField Open Dist && rising set 0 ((Open.length : Int) - 1) && decide (0 < set.length)) && (rowOk rooms (Open.length : Int) 20 && rowOk needs (Dist.length : Int) 5))))) :=
  pc_wf @Try.call129 fun hw => pc_by (by kernel_rfl) Try.func129 @Try.call129 (by kernel_rfl) s_l7Given_C (s_l7Given_A Open Dist rooms needs set) (by kernel_rfl) (s_l7Given_vc Open Dist rooms needs set hw.1.1 hw.1.2.1.1 hw.1.2.1.2 hw.2.1 hw.2.2.1 hw.2.2.2.1) (by kernel_rfl)
def s_l7Given_orc : List D → Orc := orcN [none, some .ints, some .ints, some .ints] fun ds => match ds with
  | [.agg [.sl (.ints Open), .sl (.rows Dist)], .sl (.ints rooms), .sl (.ints needs), .sl (.ints set)] => some (.one (.d (.bool ((goodField Open Dist && rising set 0 ((Open.length : Int) - 1) && decide (0 < set.length)) && (rowOk rooms (Open.length : Int) 20 && rowOk needs (Dist.length : Int) 5)))))
  | _ => none
def i_isHaul_C (f : FuncId) (ds : List D) : Orc := bif Nat.beq f 111 then i_isOpened_orc ds else bif Nat.beq f 182 then i_Field_areNeeds_orc ds else .no
def i_isHaul_A (Open : List Int) (Dist : List (List Int)) (rooms : List Int) (needs : List Int) (set : List Int) : Ann := .none
def i_isHaul_P (Open : List Int) (Dist : List (List Int)) (rooms : List Int) (needs : List Int) (set : List Int) : Prop :=
  (PC Try.prog 111 [.agg [.sl (.ints Open), .sl (.rows Dist)], .sl (.ints set)] (.one (.d (.bool (goodField Open Dist && rising set 0 ((Open.length : Int) - 1) && decide (0 < set.length)))))) ∧ ((goodField Open Dist && rising set 0 ((Open.length : Int) - 1) && decide (0 < set.length)) = true → (goodField Open Dist && rising set 0 ((Open.length : Int) - 1) && decide (0 < set.length)) = true) ∧ ((goodField Open Dist && rising set 0 ((Open.length : Int) - 1) && decide (0 < set.length)) = true → (goodField Open Dist && rising set 0 ((Open.length : Int) - 1) && decide (0 < set.length)) = true) ∧ ((goodField Open Dist && rising set 0 ((Open.length : Int) - 1) && decide (0 < set.length)) = true → (goodField Open Dist && rising set 0 ((Open.length : Int) - 1) && decide (0 < set.length)) = true) ∧ ((goodField Open Dist && rising set 0 ((Open.length : Int) - 1) && decide (0 < set.length)) = true → PC Try.prog 182 [.agg [.sl (.ints Open), .sl (.rows Dist)], .sl (.ints rooms), .sl (.ints needs)] (.one (.d (.bool (rowOk rooms (Open.length : Int) 20 && rowOk needs (Dist.length : Int) 5))))) ∧ (true = true) ∧ (((goodField Open Dist && rising set 0 ((Open.length : Int) - 1) && decide (0 < set.length)) = true → (goodField Open Dist && rising set 0 ((Open.length : Int) - 1) && decide (0 < set.length)) = true)) ∧ (((goodField Open Dist && rising set 0 ((Open.length : Int) - 1) && decide (0 < set.length)) = false → true = true)) ∧ (((cond (goodField Open Dist && rising set 0 ((Open.length : Int) - 1) && decide (0 < set.length)) (rowOk rooms (Open.length : Int) 20 && rowOk needs (Dist.length : Int) 5) false) = ((goodField Open Dist && rising set 0 ((Open.length : Int) - 1) && decide (0 < set.length)) && (rowOk rooms (Open.length : Int) 20 && rowOk needs (Dist.length : Int) 5))))
theorem i_isHaul_vc (Open : List Int) (Dist : List (List Int)) (rooms : List Int) (needs : List Int) (set : List Int)  (w_Open : (Open.length : Int) ≤ 9223372036854775807) (w_Dist : (Dist.length : Int) ≤ 9223372036854775807) (v_Dist : ∀ x9 ∈ Dist, (x9.length : Int) ≤ 9223372036854775807) (w_rooms : (rooms.length : Int) ≤ 9223372036854775807) (w_needs : (needs.length : Int) ≤ 9223372036854775807) (w_set : (set.length : Int) ≤ 9223372036854775807) : i_isHaul_P Open Dist rooms needs set := by
  unfold i_isHaul_P
  refine ⟨i_isOpened_pc Open Dist set, id, id, id, fun _ => i_Field_areNeeds_pc Open Dist rooms needs, rfl, id, fun _ => rfl, ?_⟩
  · first | omega | rfl | (intro hg; simp only [nrmT] at hg; omega) | (intro g1 g2; simp [g1, g2]; done) | (intro g1; simp at g1 ⊢; simp [g1]; done) | (simp only [nrmT] at *; omega) | (simp at * <;> omega) | (simp_all <;> omega) | (simp_all; done)
theorem i_isHaul_pc (Open : List Int) (Dist : List (List Int)) (rooms : List Int) (needs : List Int) (set : List Int)  : PC Try.prog 132 [.agg [.sl (.ints Open), .sl (.rows Dist)], .sl (.ints rooms), .sl (.ints needs), .sl (.ints set)] (.one (.d (.bool ((goodField Open Dist && rising set 0 ((Open.length : Int) - 1) && decide (0 < set.length)) && (rowOk rooms (Open.length : Int) 20 && rowOk needs (Dist.length : Int) 5))))) :=
  pc_wf @Try.call132 fun hw => pc_by (by kernel_rfl) Try.func132 @Try.call132 (by kernel_rfl) i_isHaul_C (i_isHaul_A Open Dist rooms needs set) (by kernel_rfl) (i_isHaul_vc Open Dist rooms needs set hw.1.1 hw.1.2.1.1 hw.1.2.1.2 hw.2.1 hw.2.2.1 hw.2.2.2.1) (by kernel_rfl)
def i_isHaul_orc : List D → Orc := orcN [none, some .ints, some .ints, some .ints] fun ds => match ds with
  | [.agg [.sl (.ints Open), .sl (.rows Dist)], .sl (.ints rooms), .sl (.ints needs), .sl (.ints set)] => some (.one (.d (.bool ((goodField Open Dist && rising set 0 ((Open.length : Int) - 1) && decide (0 < set.length)) && (rowOk rooms (Open.length : Int) 20 && rowOk needs (Dist.length : Int) 5)))))
  | _ => none
theorem haul_facts {Open set rooms needs : List Int} {Dist : List (List Int)} (h : ((goodField Open Dist && rising set 0 ((Open.length : Int) - 1) && decide (0 < set.length)) && (rowOk rooms (Open.length : Int) 20 && rowOk needs (Dist.length : Int) 5)) = true) :
    (goodField Open Dist && rising set 0 ((Open.length : Int) - 1) && decide (0 < set.length)) = true ∧ rowOk rooms (Open.length : Int) 20 = true ∧ rowOk needs (Dist.length : Int) 5 = true := by
  rw [Bool.and_eq_true, Bool.and_eq_true (rowOk _ _ _)] at h
  exact h
def mulAt (xs ys : List Int) (k : Nat) : Int := xs.getD k 0 * ys.getD k 0
def dot (xs ys : List Int) (k : Nat) : Int := sumTo (mulAt xs ys) k
def yieldOf (rooms needs u w : List Int) : Int := dot needs u needs.length - dot rooms w rooms.length
theorem mul_abs {x y a b : Int} (hx : 0 ≤ x ∧ x ≤ a) (hy : -b ≤ y ∧ y ≤ b) : -(a * b) ≤ x * y ∧ x * y ≤ a * b := by
  have hb : 0 ≤ b := by omega
  have h1 : x * y ≤ x * b := Int.mul_le_mul_of_nonneg_left hy.2 hx.1
  have h2 : x * b ≤ a * b := Int.mul_le_mul_of_nonneg_right hx.2 hb
  have h3 : x * (-b) ≤ x * y := Int.mul_le_mul_of_nonneg_left hy.1 hx.1
  have h4 : x * (-b) = -(x * b) := Int.mul_neg _ _
  omega
theorem sumTo_abs {f : Nat → Int} {m : Int} (n : Nat) (h : ∀ k, k < n → -m ≤ f k ∧ f k ≤ m) : -(m * n) ≤ sumTo f n ∧ sumTo f n ≤ m * n := by
  induction n with
  | zero => simp [sumTo, foldTo]
  | succ n ih =>
    have h1 := ih fun k hk => h k (Nat.lt_succ_of_lt hk)
    have h2 := h n (Nat.lt_succ_self n)
    have e : sumTo f (n + 1) = sumTo f n + f n := rfl
    rw [e]
    have e2 : m * ((n + 1 : Nat) : Int) = m * (n : Int) + m := by rw [Int.natCast_succ, Int.mul_add, Int.mul_one]
    rw [e2]
    omega
theorem mulAt_small {xs ys : List Int} {n most : Int} (hx : rowOk xs n most = true) (hm : 0 ≤ most ∧ most ≤ 20) (hy : ∀ k, k < xs.length → -999 ≤ ys.getD k 0 ∧ ys.getD k 0 ≤ 999) {k : Nat} (hk : k < xs.length) : -19980 ≤ mulAt xs ys k ∧ mulAt xs ys k ≤ 19980 := by
  obtain ⟨_, h2⟩ := rowOk_at hx
  have h3 := h2 k hk
  have := mul_abs (x := xs.getD k 0) (a := 20) (b := 999) ⟨h3.1, by omega⟩ (hy k hk)
  unfold mulAt
  omega
theorem flow_facts {Open set u w : List Int} {Dist : List (List Int)} (h : flowPrices Open Dist set u w = true) : u.length = Dist.length ∧ rowOk w (Open.length : Int) 999 = true ∧ ∀ k, k < u.length → -999 ≤ u.getD k 0 ∧ u.getD k 0 ≤ 999 := by
  unfold flowPrices at h
  simp only [Bool.and_eq_true, decide_eq_true_eq] at h
  refine ⟨h.1.1.1, h.1.1.2, fun k hk => ?_⟩
  have h1 := allTo_iff.1 h.2 k hk
  unfold priceOk at h1
  rw [Bool.and_eq_true] at h1
  exact inB_le h1.1
abbrev s_l7Yield_JJ0 (rooms : List Int) (needs : List Int) (u : List Int) (w : List Int) (out : Int) (j : Int) : Prop := (0 ≤ j) ∧ (j ≤ (needs.length : Int)) ∧ (out = dot needs u j.toNat)
abbrev s_l7Yield_mJ0 (rooms : List Int) (needs : List Int) (u : List Int) (w : List Int) (out : Int) (j : Int) : Nat := (needs.length - j).toNat
abbrev s_l7Yield_JA0 (rooms : List Int) (needs : List Int) (u : List Int) (w : List Int) (out : Int) : Prop := (out = dot needs u needs.length)
abbrev s_l7Yield_JJ1 (rooms : List Int) (needs : List Int) (u : List Int) (w : List Int) (out : Int) (out : Int) (a : Int) : Prop := (0 ≤ a) ∧ (a ≤ (rooms.length : Int)) ∧ (out = dot needs u needs.length - dot rooms w a.toNat)
abbrev s_l7Yield_mJ1 (rooms : List Int) (needs : List Int) (u : List Int) (w : List Int) (out : Int) (out : Int) (a : Int) : Nat := (rooms.length - a).toNat
def s_l7Yield_C (f : FuncId) (ds : List D) : Orc := .no
def s_l7Yield_A (rooms : List Int) (needs : List Int) (u : List Int) (w : List Int) : Ann := .two (.none) (.two (.none) (.cut (.two (.none) (.loop (cut2 (fun (out : Int) (j : Int) => s_l7Yield_JJ0 rooms needs u w out j) (fun (out : Int) (j : Int) => [(0, .d false (.sl (.ints rooms))), (1, .d false (.sl (.ints needs))), (2, .d false (.sl (.ints u))), (3, .d false (.sl (.ints w))), (9, .d true (.int .i64 out)), (10, .d true (.int .i64 j))]) (fun (out : Int) (j : Int) => [])) (fun g => s_l7Yield_mJ0 rooms needs u w g.1 g.2) (fun _ => .none))) (cut1 (fun (out : Int) => s_l7Yield_JA0 rooms needs u w out) (fun (out : Int) => [(0, .d false (.sl (.ints rooms))), (3, .d false (.sl (.ints w))), (9, .d true (.int .i64 out))]) (fun (out : Int) => [])) (fun g => (fun (out : Int) => .two (.two (.none) (.loop (cut2 (fun (out : Int) (a : Int) => s_l7Yield_JJ1 rooms needs u w out out a) (fun (out : Int) (a : Int) => [(0, .d false (.sl (.ints rooms))), (3, .d false (.sl (.ints w))), (9, .d true (.int .i64 out)), (11, .d true (.int .i64 a))]) (fun (out : Int) (a : Int) => [])) (fun g => s_l7Yield_mJ1 rooms needs u w out g.1 g.2) (fun _ => .none))) (.none)) g)))
def s_l7Yield_P (rooms : List Int) (needs : List Int) (u : List Int) (w : List Int) : Prop :=
  (((∃ out' : Int, ∃ j' : Int, (s_l7Yield_JJ0 rooms needs u w out' j') ∧ (rooms = rooms) ∧ (needs = needs) ∧ (u = u) ∧ (w = w) ∧ ((0 : Int) = out') ∧ ((0 : Int) = j')) ∧ (∀ out : Int, ∀ j : Int, (s_l7Yield_JJ0 rooms needs u w out j) → (((decide (j < (needs.length : Int))) = true → (true = true) ∧ ((0 : Int) ≤ j) ∧ ((j : Int) < needs.length) ∧ (j.toNat < needs.length) ∧ ((0 : Int) ≤ j) ∧ ((j : Int) < u.length) ∧ (j.toNat < u.length) ∧ (-9223372036854775808 ≤ ((needs.getD j.toNat 0) * (u.getD j.toNat 0)) ∧ ((needs.getD j.toNat 0) * (u.getD j.toNat 0)) ≤ 9223372036854775807) ∧ (-9223372036854775808 ≤ (out + ((needs.getD j.toNat 0) * (u.getD j.toNat 0))) ∧ (out + ((needs.getD j.toNat 0) * (u.getD j.toNat 0))) ≤ 9223372036854775807) ∧ (-9223372036854775808 ≤ (j + 1) ∧ (j + 1) ≤ 9223372036854775807) ∧ (∃ out' : Int, ∃ j' : Int, (s_l7Yield_JJ0 rooms needs u w out' j') ∧ (s_l7Yield_mJ0 rooms needs u w out' j' < s_l7Yield_mJ0 rooms needs u w out j) ∧ (rooms = rooms) ∧ (needs = needs) ∧ (u = u) ∧ (w = w) ∧ ((out + ((needs.getD j.toNat 0) * (u.getD j.toNat 0))) = out') ∧ ((j + 1) = j'))) ∧ ((decide (j < (needs.length : Int))) = false → (∃ out' : Int, (s_l7Yield_JA0 rooms needs u w out') ∧ (rooms = rooms) ∧ (w = w) ∧ (out = out')))))) ∧ (∀ out : Int, (s_l7Yield_JA0 rooms needs u w out) → ((∃ out' : Int, ∃ a' : Int, (s_l7Yield_JJ1 rooms needs u w out out' a') ∧ (rooms = rooms) ∧ (w = w) ∧ (out = out') ∧ ((0 : Int) = a')) ∧ (∀ out : Int, ∀ a : Int, (s_l7Yield_JJ1 rooms needs u w out out a) → (((decide (a < (rooms.length : Int))) = true → (true = true) ∧ ((0 : Int) ≤ a) ∧ ((a : Int) < rooms.length) ∧ (a.toNat < rooms.length) ∧ ((0 : Int) ≤ a) ∧ ((a : Int) < w.length) ∧ (a.toNat < w.length) ∧ (-9223372036854775808 ≤ ((rooms.getD a.toNat 0) * (w.getD a.toNat 0)) ∧ ((rooms.getD a.toNat 0) * (w.getD a.toNat 0)) ≤ 9223372036854775807) ∧ (-9223372036854775808 ≤ (out - ((rooms.getD a.toNat 0) * (w.getD a.toNat 0))) ∧ (out - ((rooms.getD a.toNat 0) * (w.getD a.toNat 0))) ≤ 9223372036854775807) ∧ (-9223372036854775808 ≤ (a + 1) ∧ (a + 1) ≤ 9223372036854775807) ∧ (∃ out' : Int, ∃ a' : Int, (s_l7Yield_JJ1 rooms needs u w out out' a') ∧ (s_l7Yield_mJ1 rooms needs u w out out' a' < s_l7Yield_mJ1 rooms needs u w out out a) ∧ (rooms = rooms) ∧ (w = w) ∧ ((out - ((rooms.getD a.toNat 0) * (w.getD a.toNat 0))) = out') ∧ ((a + 1) = a'))) ∧ ((decide (a < (rooms.length : Int))) = false → ((out = (yieldOf rooms needs u w)))))))))
theorem s_l7Yield_vc (rooms : List Int) (needs : List Int) (u : List Int) (w : List Int) (hr : ∃ n m : Int, rowOk rooms n 20 = true ∧ rowOk needs m 5 = true ∧ n ≤ 7 ∧ m ≤ 7 ∧ (∀ k, k < rooms.length → -999 ≤ w.getD k 0 ∧ w.getD k 0 ≤ 999) ∧ (∀ k, k < needs.length → -999 ≤ u.getD k 0 ∧ u.getD k 0 ≤ 999) ∧ u.length = needs.length ∧ w.length = rooms.length) (w_rooms : (rooms.length : Int) ≤ 9223372036854775807) (w_needs : (needs.length : Int) ≤ 9223372036854775807) (w_u : (u.length : Int) ≤ 9223372036854775807) (w_w : (w.length : Int) ≤ 9223372036854775807) : s_l7Yield_P rooms needs u w := by
  unfold s_l7Yield_P
  obtain ⟨n, m, hrr, hnn, n7, m7, hwb, hub, hul, hwl⟩ := hr
  obtain ⟨rl, rb⟩ := rowOk_at hrr
  obtain ⟨nl, nb⟩ := rowOk_at hnn
  have mu := fun (k : Nat) (hk : k < needs.length) => mulAt_small hnn (by omega) hub hk
  have mw := fun (k : Nat) (hk : k < rooms.length) => mulAt_small hrr (by omega) hwb hk
  have su := fun (k : Nat) (hk : k ≤ needs.length) => sumTo_abs (m := 19980) k (fun j hj => mu j (by omega))
  have sw := fun (k : Nat) (hk : k ≤ rooms.length) => sumTo_abs (m := 19980) k (fun j hj => mw j (by omega))
  refine ⟨?_, ?_⟩
  · refine ⟨?_, ?_⟩
    · refine ⟨0, 0, ?_⟩
      refine ⟨?_, rfl, rfl, rfl, rfl, rfl, rfl⟩
      · refine ⟨?_, ?_, ?_⟩
        · first | omega | rfl | (intro hg; simp only [nrmT] at hg; omega) | (intro g1 g2; simp [g1, g2]; done) | (intro g1; simp at g1 ⊢; simp [g1]; done) | (simp only [nrmT] at *; omega) | (simp at * <;> omega) | (simp_all <;> omega) | (simp_all; done)
        · first | omega | rfl | (intro hg; simp only [nrmT] at hg; omega) | (intro g1 g2; simp [g1, g2]; done) | (intro g1; simp at g1 ⊢; simp [g1]; done) | (simp only [nrmT] at *; omega) | (simp at * <;> omega) | (simp_all <;> omega) | (simp_all; done)
        · first | omega | rfl | (intro hg; simp only [nrmT] at hg; omega) | (intro g1 g2; simp [g1, g2]; done) | (intro g1; simp at g1 ⊢; simp [g1]; done) | (simp only [nrmT] at *; omega) | (simp at * <;> omega) | (simp_all <;> omega) | (simp_all; done)
    · intro out j hJ
      obtain ⟨h1, h2, h3⟩ := hJ
      refine ⟨?_, ?_⟩
      · intro b1
        try simp only [nrmT] at b1
        refine ⟨rfl, ?_, ?_, ?_, ?_, ?_, ?_, ?_, ?_, ?_, ?_⟩
        · first | omega | rfl | (intro hg; simp only [nrmT] at hg; omega) | (intro g1 g2; simp [g1, g2]; done) | (intro g1; simp at g1 ⊢; simp [g1]; done) | (simp only [nrmT] at *; omega) | (simp at * <;> omega) | (simp_all <;> omega) | (simp_all; done)
        · first | omega | rfl | (intro hg; simp only [nrmT] at hg; omega) | (intro g1 g2; simp [g1, g2]; done) | (intro g1; simp at g1 ⊢; simp [g1]; done) | (simp only [nrmT] at *; omega) | (simp at * <;> omega) | (simp_all <;> omega) | (simp_all; done)
        · first | omega | rfl | (intro hg; simp only [nrmT] at hg; omega) | (intro g1 g2; simp [g1, g2]; done) | (intro g1; simp at g1 ⊢; simp [g1]; done) | (simp only [nrmT] at *; omega) | (simp at * <;> omega) | (simp_all <;> omega) | (simp_all; done)
        · first | omega | rfl | (intro hg; simp only [nrmT] at hg; omega) | (intro g1 g2; simp [g1, g2]; done) | (intro g1; simp at g1 ⊢; simp [g1]; done) | (simp only [nrmT] at *; omega) | (simp at * <;> omega) | (simp_all <;> omega) | (simp_all; done)
        · first | omega | rfl | (intro hg; simp only [nrmT] at hg; omega) | (intro g1 g2; simp [g1, g2]; done) | (intro g1; simp at g1 ⊢; simp [g1]; done) | (simp only [nrmT] at *; omega) | (simp at * <;> omega) | (simp_all <;> omega) | (simp_all; done)
        · first | omega | rfl | (intro hg; simp only [nrmT] at hg; omega) | (intro g1 g2; simp [g1, g2]; done) | (intro g1; simp at g1 ⊢; simp [g1]; done) | (simp only [nrmT] at *; omega) | (simp at * <;> omega) | (simp_all <;> omega) | (simp_all; done)
        · have hm := mu j.toNat (by omega)
          have hs := su j.toNat (by omega)
          unfold mulAt at hm
          unfold dot at h3
          omega
        · have hm := mu j.toNat (by omega)
          have hs := su j.toNat (by omega)
          unfold mulAt at hm
          unfold dot at h3
          omega
        · first | omega | rfl | (intro hg; simp only [nrmT] at hg; omega) | (intro g1 g2; simp [g1, g2]; done) | (intro g1; simp at g1 ⊢; simp [g1]; done) | (simp only [nrmT] at *; omega) | (simp at * <;> omega) | (simp_all <;> omega) | (simp_all; done)
        · refine ⟨(out + ((needs.getD j.toNat 0) * (u.getD j.toNat 0))), (j + 1), ?_⟩
          refine ⟨?_, ?_, rfl, rfl, rfl, rfl, rfl, rfl⟩
          · refine ⟨?_, ?_, ?_⟩
            · first | omega | rfl | (intro hg; simp only [nrmT] at hg; omega) | (intro g1 g2; simp [g1, g2]; done) | (intro g1; simp at g1 ⊢; simp [g1]; done) | (simp only [nrmT] at *; omega) | (simp at * <;> omega) | (simp_all <;> omega) | (simp_all; done)
            · first | omega | rfl | (intro hg; simp only [nrmT] at hg; omega) | (intro g1 g2; simp [g1, g2]; done) | (intro g1; simp at g1 ⊢; simp [g1]; done) | (simp only [nrmT] at *; omega) | (simp at * <;> omega) | (simp_all <;> omega) | (simp_all; done)
            · unfold dot; rw [sumTo_step h1]; unfold dot at h3; rw [h3]; rfl
          · first | (show _ < _; omega) | (simp only [s_l7Yield_mJ0]; omega) | (simp only [s_l7Yield_mJ0] at *; simp at *; omega)
      · intro b2
        try simp only [nrmT] at b2
        refine ⟨out, ?_⟩
        refine ⟨?_, rfl, rfl, rfl⟩
        · unfold s_l7Yield_JA0
          rw [h3, show j.toNat = needs.length by omega]
  · intro out hJ
    have h4 := hJ
    refine ⟨?_, ?_⟩
    · refine ⟨out, 0, ?_⟩
      refine ⟨?_, rfl, rfl, rfl, rfl⟩
      · refine ⟨?_, ?_, ?_⟩
        · first | omega | rfl | (intro hg; simp only [nrmT] at hg; omega) | (intro g1 g2; simp [g1, g2]; done) | (intro g1; simp at g1 ⊢; simp [g1]; done) | (simp only [nrmT] at *; omega) | (simp at * <;> omega) | (simp_all <;> omega) | (simp_all; done)
        · first | omega | rfl | (intro hg; simp only [nrmT] at hg; omega) | (intro g1 g2; simp [g1, g2]; done) | (intro g1; simp at g1 ⊢; simp [g1]; done) | (simp only [nrmT] at *; omega) | (simp at * <;> omega) | (simp_all <;> omega) | (simp_all; done)
        · have e0 : dot rooms w (0 : Int).toNat = 0 := rfl
          omega
    · intro out a hJ
      obtain ⟨k1, k2, k3⟩ := hJ
      refine ⟨?_, ?_⟩
      · intro b3
        try simp only [nrmT] at b3
        refine ⟨rfl, ?_, ?_, ?_, ?_, ?_, ?_, ?_, ?_, ?_, ?_⟩
        · first | omega | rfl | (intro hg; simp only [nrmT] at hg; omega) | (intro g1 g2; simp [g1, g2]; done) | (intro g1; simp at g1 ⊢; simp [g1]; done) | (simp only [nrmT] at *; omega) | (simp at * <;> omega) | (simp_all <;> omega) | (simp_all; done)
        · first | omega | rfl | (intro hg; simp only [nrmT] at hg; omega) | (intro g1 g2; simp [g1, g2]; done) | (intro g1; simp at g1 ⊢; simp [g1]; done) | (simp only [nrmT] at *; omega) | (simp at * <;> omega) | (simp_all <;> omega) | (simp_all; done)
        · first | omega | rfl | (intro hg; simp only [nrmT] at hg; omega) | (intro g1 g2; simp [g1, g2]; done) | (intro g1; simp at g1 ⊢; simp [g1]; done) | (simp only [nrmT] at *; omega) | (simp at * <;> omega) | (simp_all <;> omega) | (simp_all; done)
        · first | omega | rfl | (intro hg; simp only [nrmT] at hg; omega) | (intro g1 g2; simp [g1, g2]; done) | (intro g1; simp at g1 ⊢; simp [g1]; done) | (simp only [nrmT] at *; omega) | (simp at * <;> omega) | (simp_all <;> omega) | (simp_all; done)
        · first | omega | rfl | (intro hg; simp only [nrmT] at hg; omega) | (intro g1 g2; simp [g1, g2]; done) | (intro g1; simp at g1 ⊢; simp [g1]; done) | (simp only [nrmT] at *; omega) | (simp at * <;> omega) | (simp_all <;> omega) | (simp_all; done)
        · first | omega | rfl | (intro hg; simp only [nrmT] at hg; omega) | (intro g1 g2; simp [g1, g2]; done) | (intro g1; simp at g1 ⊢; simp [g1]; done) | (simp only [nrmT] at *; omega) | (simp at * <;> omega) | (simp_all <;> omega) | (simp_all; done)
        · have hm := mw a.toNat (by omega)
          have hs := sw a.toNat (by omega)
          have hu := su needs.length (Nat.le_refl _)
          unfold mulAt at hm
          unfold dot at k3
          omega
        · have hm := mw a.toNat (by omega)
          have hs := sw a.toNat (by omega)
          have hu := su needs.length (Nat.le_refl _)
          unfold mulAt at hm
          unfold dot at k3
          omega
        · first | omega | rfl | (intro hg; simp only [nrmT] at hg; omega) | (intro g1 g2; simp [g1, g2]; done) | (intro g1; simp at g1 ⊢; simp [g1]; done) | (simp only [nrmT] at *; omega) | (simp at * <;> omega) | (simp_all <;> omega) | (simp_all; done)
        · refine ⟨(out - ((rooms.getD a.toNat 0) * (w.getD a.toNat 0))), (a + 1), ?_⟩
          refine ⟨?_, ?_, rfl, rfl, rfl, rfl⟩
          · refine ⟨?_, ?_, ?_⟩
            · first | omega | rfl | (intro hg; simp only [nrmT] at hg; omega) | (intro g1 g2; simp [g1, g2]; done) | (intro g1; simp at g1 ⊢; simp [g1]; done) | (simp only [nrmT] at *; omega) | (simp at * <;> omega) | (simp_all <;> omega) | (simp_all; done)
            · first | omega | rfl | (intro hg; simp only [nrmT] at hg; omega) | (intro g1 g2; simp [g1, g2]; done) | (intro g1; simp at g1 ⊢; simp [g1]; done) | (simp only [nrmT] at *; omega) | (simp at * <;> omega) | (simp_all <;> omega) | (simp_all; done)
            · unfold dot; rw [sumTo_step k1]; unfold dot at k3; rw [k3]
              show _ = _ - (_ + mulAt rooms w a.toNat)
              unfold mulAt; omega
          · first | (show _ < _; omega) | (simp only [s_l7Yield_mJ1]; omega) | (simp only [s_l7Yield_mJ1] at *; simp at *; omega)
      · intro b4
        try simp only [nrmT] at b4
        unfold yieldOf
        rw [k3, show a.toNat = rooms.length by omega]
theorem s_l7Yield_pc (rooms : List Int) (needs : List Int) (u : List Int) (w : List Int) (hr : ∃ n m : Int, rowOk rooms n 20 = true ∧ rowOk needs m 5 = true ∧ n ≤ 7 ∧ m ≤ 7 ∧ (∀ k, k < rooms.length → -999 ≤ w.getD k 0 ∧ w.getD k 0 ≤ 999) ∧ (∀ k, k < needs.length → -999 ≤ u.getD k 0 ∧ u.getD k 0 ≤ 999) ∧ u.length = needs.length ∧ w.length = rooms.length) : PC Try.prog 131 [.sl (.ints rooms), .sl (.ints needs), .sl (.ints u), .sl (.ints w)] (.one (.d (.int .i64 (yieldOf rooms needs u w)))) :=
  pc_wf @Try.call131 fun hw => pc_by (by kernel_rfl) Try.func131 @Try.call131 (by kernel_rfl) s_l7Yield_C (s_l7Yield_A rooms needs u w) (by kernel_rfl) (s_l7Yield_vc rooms needs u w hr hw.1 hw.2.1 hw.2.2.1 hw.2.2.2.1) (by kernel_rfl)
def s_l7Yield_orc : List D → Orc := orcN [some .ints, some .ints, some .ints, some .ints] fun ds => match ds with
  | [.sl (.ints rooms), .sl (.ints needs), .sl (.ints u), .sl (.ints w)] => some (.one (.d (.int .i64 (yieldOf rooms needs u w))))
  | _ => none
abbrev i_yield_JJ0 (rooms : List Int) (needs : List Int) (u : List Int) (w : List Int) (out : Int) (i : Int) : Prop := (0 ≤ i) ∧ (i ≤ (needs.length : Int)) ∧ (out = dot needs u i.toNat)
abbrev i_yield_mJ0 (rooms : List Int) (needs : List Int) (u : List Int) (w : List Int) (out : Int) (i : Int) : Nat := (needs.length - i).toNat
abbrev i_yield_JA0 (rooms : List Int) (needs : List Int) (u : List Int) (w : List Int) (out : Int) : Prop := (out = dot needs u needs.length)
abbrev i_yield_JJ1 (rooms : List Int) (needs : List Int) (u : List Int) (w : List Int) (out : Int) (out : Int) (a : Int) : Prop := (0 ≤ a) ∧ (a ≤ (rooms.length : Int)) ∧ (out = dot needs u needs.length - dot rooms w a.toNat)
abbrev i_yield_mJ1 (rooms : List Int) (needs : List Int) (u : List Int) (w : List Int) (out : Int) (out : Int) (a : Int) : Nat := (rooms.length - a).toNat
def i_yield_C (f : FuncId) (ds : List D) : Orc := .no
def i_yield_A (rooms : List Int) (needs : List Int) (u : List Int) (w : List Int) : Ann := .two (.none) (.two (.none) (.cut (.two (.none) (.loop (cut2 (fun (out : Int) (i : Int) => i_yield_JJ0 rooms needs u w out i) (fun (out : Int) (i : Int) => [(0, .d false (.sl (.ints rooms))), (2, .d false (.sl (.ints u))), (3, .d false (.sl (.ints w))), (9, .d true (.int .i64 out)), (14, .d false (.sl (.ints needs))), (15, .d true (.int .i64 (needs.length : Int))), (16, .d true (.int .i64 i))]) (fun (out : Int) (i : Int) => [])) (fun g => i_yield_mJ0 rooms needs u w g.1 g.2) (fun _ => .none))) (cut1 (fun (out : Int) => i_yield_JA0 rooms needs u w out) (fun (out : Int) => [(0, .d false (.sl (.ints rooms))), (3, .d false (.sl (.ints w))), (9, .d true (.int .i64 out))]) (fun (out : Int) => [])) (fun g => (fun (out : Int) => .two (.two (.none) (.loop (cut2 (fun (out : Int) (a : Int) => i_yield_JJ1 rooms needs u w out out a) (fun (out : Int) (a : Int) => [(3, .d false (.sl (.ints w))), (9, .d true (.int .i64 out)), (30, .d false (.sl (.ints rooms))), (31, .d true (.int .i64 (rooms.length : Int))), (32, .d true (.int .i64 a))]) (fun (out : Int) (a : Int) => [])) (fun g => i_yield_mJ1 rooms needs u w out g.1 g.2) (fun _ => .none))) (.none)) g)))
def i_yield_P (rooms : List Int) (needs : List Int) (u : List Int) (w : List Int) : Prop :=
  (((∃ out' : Int, ∃ i' : Int, (i_yield_JJ0 rooms needs u w out' i') ∧ (rooms = rooms) ∧ (u = u) ∧ (w = w) ∧ ((0 : Int) = out') ∧ (needs = needs) ∧ ((needs.length : Int) = (needs.length : Int)) ∧ ((0 : Int) = i')) ∧ (∀ out : Int, ∀ i : Int, (i_yield_JJ0 rooms needs u w out i) → (((decide (i < (needs.length : Int))) = true → ((0 : Int) ≤ i) ∧ ((i : Int) < needs.length) ∧ (i.toNat < needs.length) ∧ ((0 : Int) ≤ i) ∧ ((i : Int) < u.length) ∧ (i.toNat < u.length) ∧ (-9223372036854775808 ≤ ((needs.getD i.toNat 0) * (u.getD i.toNat 0)) ∧ ((needs.getD i.toNat 0) * (u.getD i.toNat 0)) ≤ 9223372036854775807) ∧ (-9223372036854775808 ≤ (out + ((needs.getD i.toNat 0) * (u.getD i.toNat 0))) ∧ (out + ((needs.getD i.toNat 0) * (u.getD i.toNat 0))) ≤ 9223372036854775807) ∧ (-9223372036854775808 ≤ (i + 1) ∧ (i + 1) ≤ 9223372036854775807) ∧ (∃ out' : Int, ∃ i' : Int, (i_yield_JJ0 rooms needs u w out' i') ∧ (i_yield_mJ0 rooms needs u w out' i' < i_yield_mJ0 rooms needs u w out i) ∧ (rooms = rooms) ∧ (u = u) ∧ (w = w) ∧ ((out + ((needs.getD i.toNat 0) * (u.getD i.toNat 0))) = out') ∧ (needs = needs) ∧ ((needs.length : Int) = (needs.length : Int)) ∧ ((i + 1) = i'))) ∧ ((decide (i < (needs.length : Int))) = false → (∃ out' : Int, (i_yield_JA0 rooms needs u w out') ∧ (rooms = rooms) ∧ (w = w) ∧ (out = out')))))) ∧ (∀ out : Int, (i_yield_JA0 rooms needs u w out) → ((∃ out' : Int, ∃ a' : Int, (i_yield_JJ1 rooms needs u w out out' a') ∧ (w = w) ∧ (out = out') ∧ (rooms = rooms) ∧ ((rooms.length : Int) = (rooms.length : Int)) ∧ ((0 : Int) = a')) ∧ (∀ out : Int, ∀ a : Int, (i_yield_JJ1 rooms needs u w out out a) → (((decide (a < (rooms.length : Int))) = true → ((0 : Int) ≤ a) ∧ ((a : Int) < rooms.length) ∧ (a.toNat < rooms.length) ∧ ((0 : Int) ≤ a) ∧ ((a : Int) < w.length) ∧ (a.toNat < w.length) ∧ (-9223372036854775808 ≤ ((rooms.getD a.toNat 0) * (w.getD a.toNat 0)) ∧ ((rooms.getD a.toNat 0) * (w.getD a.toNat 0)) ≤ 9223372036854775807) ∧ (-9223372036854775808 ≤ (out - ((rooms.getD a.toNat 0) * (w.getD a.toNat 0))) ∧ (out - ((rooms.getD a.toNat 0) * (w.getD a.toNat 0))) ≤ 9223372036854775807) ∧ (-9223372036854775808 ≤ (a + 1) ∧ (a + 1) ≤ 9223372036854775807) ∧ (∃ out' : Int, ∃ a' : Int, (i_yield_JJ1 rooms needs u w out out' a') ∧ (i_yield_mJ1 rooms needs u w out out' a' < i_yield_mJ1 rooms needs u w out out a) ∧ (w = w) ∧ ((out - ((rooms.getD a.toNat 0) * (w.getD a.toNat 0))) = out') ∧ (rooms = rooms) ∧ ((rooms.length : Int) = (rooms.length : Int)) ∧ ((a + 1) = a'))) ∧ ((decide (a < (rooms.length : Int))) = false → ((out = (yieldOf rooms needs u w)))))))))
theorem i_yield_vc (rooms : List Int) (needs : List Int) (u : List Int) (w : List Int) (hr : ∃ n m : Int, rowOk rooms n 20 = true ∧ rowOk needs m 5 = true ∧ n ≤ 7 ∧ m ≤ 7 ∧ (∀ k, k < rooms.length → -999 ≤ w.getD k 0 ∧ w.getD k 0 ≤ 999) ∧ (∀ k, k < needs.length → -999 ≤ u.getD k 0 ∧ u.getD k 0 ≤ 999) ∧ u.length = needs.length ∧ w.length = rooms.length) (w_rooms : (rooms.length : Int) ≤ 9223372036854775807) (w_needs : (needs.length : Int) ≤ 9223372036854775807) (w_u : (u.length : Int) ≤ 9223372036854775807) (w_w : (w.length : Int) ≤ 9223372036854775807) : i_yield_P rooms needs u w := by
  unfold i_yield_P
  obtain ⟨n, m, hrr, hnn, n7, m7, hwb, hub, hul, hwl⟩ := hr
  obtain ⟨rl, rb⟩ := rowOk_at hrr
  obtain ⟨nl, nb⟩ := rowOk_at hnn
  have mu := fun (k : Nat) (hk : k < needs.length) => mulAt_small hnn (by omega) hub hk
  have mw := fun (k : Nat) (hk : k < rooms.length) => mulAt_small hrr (by omega) hwb hk
  have su := fun (k : Nat) (hk : k ≤ needs.length) => sumTo_abs (m := 19980) k (fun j hj => mu j (by omega))
  have sw := fun (k : Nat) (hk : k ≤ rooms.length) => sumTo_abs (m := 19980) k (fun j hj => mw j (by omega))
  refine ⟨?_, ?_⟩
  · refine ⟨?_, ?_⟩
    · refine ⟨0, 0, ?_⟩
      refine ⟨?_, rfl, rfl, rfl, rfl, rfl, rfl, rfl⟩
      · refine ⟨?_, ?_, ?_⟩
        · first | omega | rfl | (intro hg; simp only [nrmT] at hg; omega) | (intro g1 g2; simp [g1, g2]; done) | (intro g1; simp at g1 ⊢; simp [g1]; done) | (simp only [nrmT] at *; omega) | (simp at * <;> omega) | (simp_all <;> omega) | (simp_all; done)
        · first | omega | rfl | (intro hg; simp only [nrmT] at hg; omega) | (intro g1 g2; simp [g1, g2]; done) | (intro g1; simp at g1 ⊢; simp [g1]; done) | (simp only [nrmT] at *; omega) | (simp at * <;> omega) | (simp_all <;> omega) | (simp_all; done)
        · first | omega | rfl | (intro hg; simp only [nrmT] at hg; omega) | (intro g1 g2; simp [g1, g2]; done) | (intro g1; simp at g1 ⊢; simp [g1]; done) | (simp only [nrmT] at *; omega) | (simp at * <;> omega) | (simp_all <;> omega) | (simp_all; done)
    · intro out i hJ
      obtain ⟨h1, h2, h3⟩ := hJ
      refine ⟨?_, ?_⟩
      · intro b1
        try simp only [nrmT] at b1
        refine ⟨?_, ?_, ?_, ?_, ?_, ?_, ?_, ?_, ?_, ?_⟩
        · first | omega | rfl | (intro hg; simp only [nrmT] at hg; omega) | (intro g1 g2; simp [g1, g2]; done) | (intro g1; simp at g1 ⊢; simp [g1]; done) | (simp only [nrmT] at *; omega) | (simp at * <;> omega) | (simp_all <;> omega) | (simp_all; done)
        · first | omega | rfl | (intro hg; simp only [nrmT] at hg; omega) | (intro g1 g2; simp [g1, g2]; done) | (intro g1; simp at g1 ⊢; simp [g1]; done) | (simp only [nrmT] at *; omega) | (simp at * <;> omega) | (simp_all <;> omega) | (simp_all; done)
        · first | omega | rfl | (intro hg; simp only [nrmT] at hg; omega) | (intro g1 g2; simp [g1, g2]; done) | (intro g1; simp at g1 ⊢; simp [g1]; done) | (simp only [nrmT] at *; omega) | (simp at * <;> omega) | (simp_all <;> omega) | (simp_all; done)
        · first | omega | rfl | (intro hg; simp only [nrmT] at hg; omega) | (intro g1 g2; simp [g1, g2]; done) | (intro g1; simp at g1 ⊢; simp [g1]; done) | (simp only [nrmT] at *; omega) | (simp at * <;> omega) | (simp_all <;> omega) | (simp_all; done)
        · first | omega | rfl | (intro hg; simp only [nrmT] at hg; omega) | (intro g1 g2; simp [g1, g2]; done) | (intro g1; simp at g1 ⊢; simp [g1]; done) | (simp only [nrmT] at *; omega) | (simp at * <;> omega) | (simp_all <;> omega) | (simp_all; done)
        · first | omega | rfl | (intro hg; simp only [nrmT] at hg; omega) | (intro g1 g2; simp [g1, g2]; done) | (intro g1; simp at g1 ⊢; simp [g1]; done) | (simp only [nrmT] at *; omega) | (simp at * <;> omega) | (simp_all <;> omega) | (simp_all; done)
        · have hm := mu i.toNat (by omega)
          have hs := su i.toNat (by omega)
          unfold mulAt at hm
          unfold dot at h3
          omega
        · have hm := mu i.toNat (by omega)
          have hs := su i.toNat (by omega)
          unfold mulAt at hm
          unfold dot at h3
          omega
        · first | omega | rfl | (intro hg; simp only [nrmT] at hg; omega) | (intro g1 g2; simp [g1, g2]; done) | (intro g1; simp at g1 ⊢; simp [g1]; done) | (simp only [nrmT] at *; omega) | (simp at * <;> omega) | (simp_all <;> omega) | (simp_all; done)
        · refine ⟨(out + ((needs.getD i.toNat 0) * (u.getD i.toNat 0))), (i + 1), ?_⟩
          refine ⟨?_, ?_, rfl, rfl, rfl, rfl, rfl, rfl, rfl⟩
          · refine ⟨?_, ?_, ?_⟩
            · first | omega | rfl | (intro hg; simp only [nrmT] at hg; omega) | (intro g1 g2; simp [g1, g2]; done) | (intro g1; simp at g1 ⊢; simp [g1]; done) | (simp only [nrmT] at *; omega) | (simp at * <;> omega) | (simp_all <;> omega) | (simp_all; done)
            · first | omega | rfl | (intro hg; simp only [nrmT] at hg; omega) | (intro g1 g2; simp [g1, g2]; done) | (intro g1; simp at g1 ⊢; simp [g1]; done) | (simp only [nrmT] at *; omega) | (simp at * <;> omega) | (simp_all <;> omega) | (simp_all; done)
            · unfold dot; rw [sumTo_step h1]; unfold dot at h3; rw [h3]; rfl
          · first | (show _ < _; omega) | (simp only [i_yield_mJ0]; omega) | (simp only [i_yield_mJ0] at *; simp at *; omega)
      · intro b2
        try simp only [nrmT] at b2
        refine ⟨out, ?_⟩
        refine ⟨?_, rfl, rfl, rfl⟩
        · unfold i_yield_JA0
          rw [h3, show i.toNat = needs.length by omega]
  · intro out hJ
    have h4 := hJ
    refine ⟨?_, ?_⟩
    · refine ⟨out, 0, ?_⟩
      refine ⟨?_, rfl, rfl, rfl, rfl, rfl⟩
      · refine ⟨?_, ?_, ?_⟩
        · first | omega | rfl | (intro hg; simp only [nrmT] at hg; omega) | (intro g1 g2; simp [g1, g2]; done) | (intro g1; simp at g1 ⊢; simp [g1]; done) | (simp only [nrmT] at *; omega) | (simp at * <;> omega) | (simp_all <;> omega) | (simp_all; done)
        · first | omega | rfl | (intro hg; simp only [nrmT] at hg; omega) | (intro g1 g2; simp [g1, g2]; done) | (intro g1; simp at g1 ⊢; simp [g1]; done) | (simp only [nrmT] at *; omega) | (simp at * <;> omega) | (simp_all <;> omega) | (simp_all; done)
        · have e0 : dot rooms w (0 : Int).toNat = 0 := rfl
          omega
    · intro out a hJ
      obtain ⟨k1, k2, k3⟩ := hJ
      refine ⟨?_, ?_⟩
      · intro b3
        try simp only [nrmT] at b3
        refine ⟨?_, ?_, ?_, ?_, ?_, ?_, ?_, ?_, ?_, ?_⟩
        · first | omega | rfl | (intro hg; simp only [nrmT] at hg; omega) | (intro g1 g2; simp [g1, g2]; done) | (intro g1; simp at g1 ⊢; simp [g1]; done) | (simp only [nrmT] at *; omega) | (simp at * <;> omega) | (simp_all <;> omega) | (simp_all; done)
        · first | omega | rfl | (intro hg; simp only [nrmT] at hg; omega) | (intro g1 g2; simp [g1, g2]; done) | (intro g1; simp at g1 ⊢; simp [g1]; done) | (simp only [nrmT] at *; omega) | (simp at * <;> omega) | (simp_all <;> omega) | (simp_all; done)
        · first | omega | rfl | (intro hg; simp only [nrmT] at hg; omega) | (intro g1 g2; simp [g1, g2]; done) | (intro g1; simp at g1 ⊢; simp [g1]; done) | (simp only [nrmT] at *; omega) | (simp at * <;> omega) | (simp_all <;> omega) | (simp_all; done)
        · first | omega | rfl | (intro hg; simp only [nrmT] at hg; omega) | (intro g1 g2; simp [g1, g2]; done) | (intro g1; simp at g1 ⊢; simp [g1]; done) | (simp only [nrmT] at *; omega) | (simp at * <;> omega) | (simp_all <;> omega) | (simp_all; done)
        · first | omega | rfl | (intro hg; simp only [nrmT] at hg; omega) | (intro g1 g2; simp [g1, g2]; done) | (intro g1; simp at g1 ⊢; simp [g1]; done) | (simp only [nrmT] at *; omega) | (simp at * <;> omega) | (simp_all <;> omega) | (simp_all; done)
        · first | omega | rfl | (intro hg; simp only [nrmT] at hg; omega) | (intro g1 g2; simp [g1, g2]; done) | (intro g1; simp at g1 ⊢; simp [g1]; done) | (simp only [nrmT] at *; omega) | (simp at * <;> omega) | (simp_all <;> omega) | (simp_all; done)
        · have hm := mw a.toNat (by omega)
          have hs := sw a.toNat (by omega)
          have hu := su needs.length (Nat.le_refl _)
          unfold mulAt at hm
          unfold dot at k3
          omega
        · have hm := mw a.toNat (by omega)
          have hs := sw a.toNat (by omega)
          have hu := su needs.length (Nat.le_refl _)
          unfold mulAt at hm
          unfold dot at k3
          omega
        · first | omega | rfl | (intro hg; simp only [nrmT] at hg; omega) | (intro g1 g2; simp [g1, g2]; done) | (intro g1; simp at g1 ⊢; simp [g1]; done) | (simp only [nrmT] at *; omega) | (simp at * <;> omega) | (simp_all <;> omega) | (simp_all; done)
        · refine ⟨(out - ((rooms.getD a.toNat 0) * (w.getD a.toNat 0))), (a + 1), ?_⟩
          refine ⟨?_, ?_, rfl, rfl, rfl, rfl, rfl⟩
          · refine ⟨?_, ?_, ?_⟩
            · first | omega | rfl | (intro hg; simp only [nrmT] at hg; omega) | (intro g1 g2; simp [g1, g2]; done) | (intro g1; simp at g1 ⊢; simp [g1]; done) | (simp only [nrmT] at *; omega) | (simp at * <;> omega) | (simp_all <;> omega) | (simp_all; done)
            · first | omega | rfl | (intro hg; simp only [nrmT] at hg; omega) | (intro g1 g2; simp [g1, g2]; done) | (intro g1; simp at g1 ⊢; simp [g1]; done) | (simp only [nrmT] at *; omega) | (simp at * <;> omega) | (simp_all <;> omega) | (simp_all; done)
            · unfold dot; rw [sumTo_step k1]; unfold dot at k3; rw [k3]
              show _ = _ - (_ + mulAt rooms w a.toNat)
              unfold mulAt; omega
          · first | (show _ < _; omega) | (simp only [i_yield_mJ1]; omega) | (simp only [i_yield_mJ1] at *; simp at *; omega)
      · intro b4
        try simp only [nrmT] at b4
        unfold yieldOf
        rw [k3, show a.toNat = rooms.length by omega]
theorem i_yield_pc (rooms : List Int) (needs : List Int) (u : List Int) (w : List Int) (hr : ∃ n m : Int, rowOk rooms n 20 = true ∧ rowOk needs m 5 = true ∧ n ≤ 7 ∧ m ≤ 7 ∧ (∀ k, k < rooms.length → -999 ≤ w.getD k 0 ∧ w.getD k 0 ≤ 999) ∧ (∀ k, k < needs.length → -999 ≤ u.getD k 0 ∧ u.getD k 0 ≤ 999) ∧ u.length = needs.length ∧ w.length = rooms.length) : PC Try.prog 134 [.sl (.ints rooms), .sl (.ints needs), .sl (.ints u), .sl (.ints w)] (.one (.d (.int .i64 (yieldOf rooms needs u w)))) :=
  pc_wf @Try.call134 fun hw => pc_by (by kernel_rfl) Try.func134 @Try.call134 (by kernel_rfl) i_yield_C (i_yield_A rooms needs u w) (by kernel_rfl) (i_yield_vc rooms needs u w hr hw.1 hw.2.1 hw.2.2.1 hw.2.2.2.1) (by kernel_rfl)
def i_yield_orc : List D → Orc := orcN [some .ints, some .ints, some .ints, some .ints] fun ds => match ds with
  | [.sl (.ints rooms), .sl (.ints needs), .sl (.ints u), .sl (.ints w)] => some (.one (.d (.int .i64 (yieldOf rooms needs u w))))
  | _ => none
def s_FlowYield_C (f : FuncId) (ds : List D) : Orc := bif Nat.beq f 129 then s_l7Given_orc ds else bif Nat.beq f 130 then s_l7Prices_orc ds else bif Nat.beq f 131 then s_l7Yield_orc ds else .no
def s_FlowYield_A (Open : List Int) (Dist : List (List Int)) (rooms : List Int) (needs : List Int) (set : List Int) (u : List Int) (w : List Int) : Ann := .none
def s_FlowYield_P (Open : List Int) (Dist : List (List Int)) (rooms : List Int) (needs : List Int) (set : List Int) (u : List Int) (w : List Int) : Prop :=
  (PC Try.prog 129 [.agg [.sl (.ints Open), .sl (.rows Dist)], .sl (.ints rooms), .sl (.ints needs), .sl (.ints set)] (.one (.d (.bool ((goodField Open Dist && rising set 0 ((Open.length : Int) - 1) && decide (0 < set.length)) && (rowOk rooms (Open.length : Int) 20 && rowOk needs (Dist.length : Int) 5)))))) ∧ ((!(!((goodField Open Dist && rising set 0 ((Open.length : Int) - 1) && decide (0 < set.length)) && (rowOk rooms (Open.length : Int) 20 && rowOk needs (Dist.length : Int) 5)))) = true → (!(!((goodField Open Dist && rising set 0 ((Open.length : Int) - 1) && decide (0 < set.length)) && (rowOk rooms (Open.length : Int) 20 && rowOk needs (Dist.length : Int) 5)))) = true) ∧ ((!(!((goodField Open Dist && rising set 0 ((Open.length : Int) - 1) && decide (0 < set.length)) && (rowOk rooms (Open.length : Int) 20 && rowOk needs (Dist.length : Int) 5)))) = true → (!(!((goodField Open Dist && rising set 0 ((Open.length : Int) - 1) && decide (0 < set.length)) && (rowOk rooms (Open.length : Int) 20 && rowOk needs (Dist.length : Int) 5)))) = true) ∧ ((!(!((goodField Open Dist && rising set 0 ((Open.length : Int) - 1) && decide (0 < set.length)) && (rowOk rooms (Open.length : Int) 20 && rowOk needs (Dist.length : Int) 5)))) = true → (!(!((goodField Open Dist && rising set 0 ((Open.length : Int) - 1) && decide (0 < set.length)) && (rowOk rooms (Open.length : Int) 20 && rowOk needs (Dist.length : Int) 5)))) = true) ∧ ((!(!((goodField Open Dist && rising set 0 ((Open.length : Int) - 1) && decide (0 < set.length)) && (rowOk rooms (Open.length : Int) 20 && rowOk needs (Dist.length : Int) 5)))) = true → (!(!((goodField Open Dist && rising set 0 ((Open.length : Int) - 1) && decide (0 < set.length)) && (rowOk rooms (Open.length : Int) 20 && rowOk needs (Dist.length : Int) 5)))) = true) ∧ ((!(!((goodField Open Dist && rising set 0 ((Open.length : Int) - 1) && decide (0 < set.length)) && (rowOk rooms (Open.length : Int) 20 && rowOk needs (Dist.length : Int) 5)))) = true → PC Try.prog 130 [.agg [.sl (.ints Open), .sl (.rows Dist)], .sl (.ints set), .sl (.ints u), .sl (.ints w)] (.one (.d (.bool (flowPrices Open Dist set u w))))) ∧ ((!(!((goodField Open Dist && rising set 0 ((Open.length : Int) - 1) && decide (0 < set.length)) && (rowOk rooms (Open.length : Int) 20 && rowOk needs (Dist.length : Int) 5)))) = true → (!(!((goodField Open Dist && rising set 0 ((Open.length : Int) - 1) && decide (0 < set.length)) && (rowOk rooms (Open.length : Int) 20 && rowOk needs (Dist.length : Int) 5)))) = true) ∧ (true = true) ∧ (((!((goodField Open Dist && rising set 0 ((Open.length : Int) - 1) && decide (0 < set.length)) && (rowOk rooms (Open.length : Int) 20 && rowOk needs (Dist.length : Int) 5))) = true → true = true)) ∧ (((!((goodField Open Dist && rising set 0 ((Open.length : Int) - 1) && decide (0 < set.length)) && (rowOk rooms (Open.length : Int) 20 && rowOk needs (Dist.length : Int) 5))) = false → (!(!((goodField Open Dist && rising set 0 ((Open.length : Int) - 1) && decide (0 < set.length)) && (rowOk rooms (Open.length : Int) 20 && rowOk needs (Dist.length : Int) 5)))) = true)) ∧ (((cond (!((goodField Open Dist && rising set 0 ((Open.length : Int) - 1) && decide (0 < set.length)) && (rowOk rooms (Open.length : Int) 20 && rowOk needs (Dist.length : Int) 5))) true (!(flowPrices Open Dist set u w))) = true → (((0 : Int) = (if (((goodField Open Dist && rising set 0 ((Open.length : Int) - 1) && decide (0 < set.length)) && (rowOk rooms (Open.length : Int) 20 && rowOk needs (Dist.length : Int) 5)) && flowPrices Open Dist set u w) = true then yieldOf rooms needs u w else 0)) ∧ (false = (((goodField Open Dist && rising set 0 ((Open.length : Int) - 1) && decide (0 < set.length)) && (rowOk rooms (Open.length : Int) 20 && rowOk needs (Dist.length : Int) 5)) && flowPrices Open Dist set u w)))) ∧ ((cond (!((goodField Open Dist && rising set 0 ((Open.length : Int) - 1) && decide (0 < set.length)) && (rowOk rooms (Open.length : Int) 20 && rowOk needs (Dist.length : Int) 5))) true (!(flowPrices Open Dist set u w))) = false → (PC Try.prog 131 [.sl (.ints rooms), .sl (.ints needs), .sl (.ints u), .sl (.ints w)] (.one (.d (.int .i64 (yieldOf rooms needs u w))))) ∧ (((yieldOf rooms needs u w) = (if (((goodField Open Dist && rising set 0 ((Open.length : Int) - 1) && decide (0 < set.length)) && (rowOk rooms (Open.length : Int) 20 && rowOk needs (Dist.length : Int) 5)) && flowPrices Open Dist set u w) = true then yieldOf rooms needs u w else 0)) ∧ (true = (((goodField Open Dist && rising set 0 ((Open.length : Int) - 1) && decide (0 < set.length)) && (rowOk rooms (Open.length : Int) 20 && rowOk needs (Dist.length : Int) 5)) && flowPrices Open Dist set u w)))))
end Go.Proofs.Ytijdbfbeobflnaa
