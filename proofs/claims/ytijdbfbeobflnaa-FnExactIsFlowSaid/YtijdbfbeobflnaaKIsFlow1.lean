/- Contracts of the functions that the law reaches. -/
import Derived.Test.YtijdbfbeobflnaaPw
import Derived.Test.YtijdbfbeobflnaaPma
import Derived.Test.YtijdbfbeobflnaaProg
import Derived.KernelRfl
set_option linter.unusedVariables false
set_option linter.unusedSimpArgs false
namespace Go.Proofs.Ytijdbfbeobflnaa
open Go

def s_l1In_C (f : FuncId) (ds : List D) : Orc := .no
def s_l1In_A (x : Int) (a : Int) (b : Int) : Ann := .none
def s_l1In_P (x : Int) (a : Int) (b : Int) : Prop :=
  ((decide (x ≥ a)) = true → (decide (x ≥ a)) = true) ∧ ((decide (x ≥ a)) = true → (decide (x ≥ a)) = true) ∧ (true = true) ∧ (((decide (x ≥ a)) = true → (decide (x ≥ a)) = true)) ∧ (((decide (x ≥ a)) = false → true = true)) ∧ (((cond (decide (x ≥ a)) (decide (x ≤ b)) false) = (inB x a b)))
theorem s_l1In_vc (x : Int) (a : Int) (b : Int)   : s_l1In_P x a b := by
  unfold s_l1In_P
  refine ⟨id, id, rfl, id, fun _ => rfl, ?_⟩
  · first | omega | rfl | (intro hg; simp only [nrmT] at hg; omega) | (intro g1 g2; simp [g1, g2]; done) | (intro g1; simp at g1 ⊢; simp [g1]; done) | (simp only [nrmT] at *; omega) | (simp at * <;> omega) | (simp_all <;> omega) | (simp_all; done) | (simp [inB]; omega) | (simp only [inB]; by_cases h : a ≤ x <;> simp_all)
theorem s_l1In_pc (x : Int) (a : Int) (b : Int)  : PC Try.prog 104 [.int .i64 x, .int .i64 a, .int .i64 b] (.one (.d (.bool (inB x a b)))) :=
  pc_wf @Try.call104 fun _ => pc_by (by kernel_rfl) Try.func104 @Try.call104 (by kernel_rfl) s_l1In_C (s_l1In_A x a b) (by kernel_rfl) (s_l1In_vc x a b) (by kernel_rfl)
def s_l1In_orc : List D → Orc := orcN [none, none, none] fun ds => match ds with
  | [.int .i64 x, .int .i64 a, .int .i64 b] => some (.one (.d (.bool (inB x a b))))
  | _ => none
def i_between_C (f : FuncId) (ds : List D) : Orc := .no
def i_between_A (x : Int) (a : Int) (b : Int) : Ann := .none
def i_between_P (x : Int) (a : Int) (b : Int) : Prop :=
  ((decide (x ≥ a)) = true → (decide (x ≥ a)) = true) ∧ ((decide (x ≥ a)) = true → (decide (x ≥ a)) = true) ∧ (true = true) ∧ (((decide (x ≥ a)) = true → (decide (x ≥ a)) = true)) ∧ (((decide (x ≥ a)) = false → true = true)) ∧ (((cond (decide (x ≥ a)) (decide (x ≤ b)) false) = (inB x a b)))
theorem i_between_vc (x : Int) (a : Int) (b : Int)   : i_between_P x a b := by
  unfold i_between_P
  refine ⟨id, id, rfl, id, fun _ => rfl, ?_⟩
  · first | omega | rfl | (intro hg; simp only [nrmT] at hg; omega) | (intro g1 g2; simp [g1, g2]; done) | (intro g1; simp at g1 ⊢; simp [g1]; done) | (simp only [nrmT] at *; omega) | (simp at * <;> omega) | (simp_all <;> omega) | (simp_all; done) | (simp [inB]; omega) | (simp only [inB]; by_cases h : a ≤ x <;> simp_all)
theorem i_between_pc (x : Int) (a : Int) (b : Int)  : PC Try.prog 107 [.int .i64 x, .int .i64 a, .int .i64 b] (.one (.d (.bool (inB x a b)))) :=
  pc_wf @Try.call107 fun _ => pc_by (by kernel_rfl) Try.func107 @Try.call107 (by kernel_rfl) i_between_C (i_between_A x a b) (by kernel_rfl) (i_between_vc x a b) (by kernel_rfl)
def i_between_orc : List D → Orc := orcN [none, none, none] fun ds => match ds with
  | [.int .i64 x, .int .i64 a, .int .i64 b] => some (.one (.d (.bool (inB x a b))))
  | _ => none
def sz1 (n : Nat) (left : Int) : Int := if left - n < 0 then -1 else left - n
def szTo (xss : List (List Int)) (left : Int) (k : Nat) : Int := foldTo (fun l k => if l < 0 then l else sz1 (xss.getD k []).length l) left k
def szRows (xss : List (List Int)) (left : Int) : Int := if left - xss.length < 0 then -1 else szTo xss (left - xss.length) xss.length
theorem szTo_stuck {xss : List (List Int)} {left : Int} {k : Nat} (h : szTo xss left k < 0) : ∀ n, k ≤ n → szTo xss left n = szTo xss left k
  | 0, hk => by have : k = 0 := by omega
                rw [this]
  | n + 1, hk => by
    by_cases e : k = n + 1
    · rw [e]
    · have h2 := szTo_stuck h n (by omega)
      show (if szTo xss left n < 0 then szTo xss left n else _) = _
      rw [h2, if_pos h]
theorem szTo_step {xss : List (List Int)} {left : Int} {i : Int} (h0 : 0 ≤ i) (h : 0 ≤ szTo xss left i.toNat) : szTo xss left (i + 1).toNat = sz1 (xss.getD i.toNat []).length (szTo xss left i.toNat) := by
  have e : (i + 1).toNat = i.toNat + 1 := by omega
  rw [e]
  show (if szTo xss left i.toNat < 0 then _ else _) = _
  rw [if_neg (by omega)]
  rfl
theorem szTo_bound {xss : List (List Int)} {left : Int} : ∀ k, k ≤ xss.length → 0 ≤ szTo xss left k → szTo xss left k ≤ left ∧ ∀ j, j < k → ((xss.getD j []).length : Int) ≤ left
  | 0, _, _ => ⟨Int.le_refl _, fun j hj => by omega⟩
  | k + 1, hk, h => by
    have e : szTo xss left (k + 1) = if szTo xss left k < 0 then szTo xss left k else sz1 (xss.getD k []).length (szTo xss left k) := rfl
    rw [e] at h ⊢
    by_cases h2 : szTo xss left k < 0
    · rw [if_pos h2] at h; omega
    · rw [if_neg h2] at h ⊢
      obtain ⟨h3, h4⟩ := szTo_bound (xss := xss) (left := left) k (by omega) (by omega)
      unfold sz1 at h ⊢
      by_cases h5 : szTo xss left k - ((xss.getD k []).length : Int) < 0
      · rw [if_pos h5] at h; omega
      · rw [if_neg h5] at h ⊢
        refine ⟨by omega, fun j hj => ?_⟩
        by_cases ej : j = k
        · rw [ej]; omega
        · exact h4 j (by omega)
theorem szRows_bound {xss : List (List Int)} {left : Int} (h : 0 ≤ szRows xss left) : szRows xss left ≤ left ∧ (xss.length : Int) ≤ left ∧ ∀ xs ∈ xss, (xs.length : Int) ≤ left := by
  unfold szRows at h ⊢
  by_cases h2 : left - (xss.length : Int) < 0
  · rw [if_pos h2] at h; omega
  · rw [if_neg h2] at h ⊢
    obtain ⟨h3, h4⟩ := szTo_bound _ (Nat.le_refl _) h
    refine ⟨by omega, by omega, fun xs hx => ?_⟩
    obtain ⟨k, hk, rfl⟩ := List.mem_iff_getElem.1 hx
    have := h4 k hk
    simp [hk] at this
    omega
theorem sz1_neg {n : Nat} {left : Int} (h : sz1 n left < 0) : sz1 n left = -1 := by
  unfold sz1 at *
  by_cases c : left - (n : Int) < 0
  · rw [if_pos c]
  · rw [if_neg c] at h; omega
theorem sz1_bound {n : Nat} {left : Int} (h : 0 ≤ sz1 n left) : sz1 n left ≤ left ∧ (n : Int) ≤ left := by
  unfold sz1 at *
  split at h <;> simp_all <;> omega
def l_szIntS_C (f : FuncId) (ds : List D) : Orc := .no
def l_szIntS_A (xs : List Int) (left : Int) : Ann := .none
def l_szIntS_P (xs : List Int) (left : Int) : Prop :=
  (-9223372036854775808 ≤ (left - (xs.length : Int)) ∧ (left - (xs.length : Int)) ≤ 9223372036854775807) ∧ (((decide ((left - (xs.length : Int)) < 0)) = true → ((((-1) : Int) = (sz1 xs.length left)))) ∧ ((decide ((left - (xs.length : Int)) < 0)) = false → (((left - (xs.length : Int)) = (sz1 xs.length left)))))
theorem l_szIntS_vc (xs : List Int) (left : Int) (hl : 0 ≤ left ∧ left ≤ 1048576) (w_xs : (xs.length : Int) ≤ 9223372036854775807) : l_szIntS_P xs left := by
  unfold l_szIntS_P
  refine ⟨?_, ?_, ?_⟩
  · first | omega | rfl | (intro hg; simp only [nrmT] at hg; omega) | (intro g1 g2; simp [g1, g2]; done) | (intro g1; simp at g1 ⊢; simp [g1]; done) | (simp only [nrmT] at *; omega) | (simp at * <;> omega) | (simp_all <;> omega) | (simp_all; done)
  · intro b1
    try simp only [nrmT] at b1
    unfold sz1; split <;> omega
  · intro b2
    try simp only [nrmT] at b2
    unfold sz1; split <;> omega
theorem l_szIntS_pc (xs : List Int) (left : Int) (hl : 0 ≤ left ∧ left ≤ 1048576) : PC Try.prog 98 [.sl (.ints xs), .int .i64 left] (.one (.d (.int .i64 (sz1 xs.length left)))) :=
  pc_wf @Try.call98 fun hw => pc_by (by kernel_rfl) Try.func98 @Try.call98 (by kernel_rfl) l_szIntS_C (l_szIntS_A xs left) (by kernel_rfl) (l_szIntS_vc xs left hl hw.1) (by kernel_rfl)
def l_szIntS_orc : List D → Orc := orcN [some .ints, none] fun ds => match ds with
  | [.sl (.ints xs), .int .i64 left] => some (.one (.d (.int .i64 (sz1 xs.length left))))
  | _ => none
abbrev l_szIntSS_JJ0 (xss : List (List Int)) (left : Int) (left1 : Int) (i : Int) : Prop := (0 ≤ i) ∧ (i ≤ (xss.length : Int)) ∧ (left1 = szTo xss (left - xss.length) i.toNat) ∧ (0 ≤ left1 ∧ left1 ≤ 1048576) ∧ (0 ≤ left - (xss.length : Int))
abbrev l_szIntSS_mJ0 (xss : List (List Int)) (left : Int) (left1 : Int) (i : Int) : Nat := (xss.length - i).toNat
def l_szIntSS_C (f : FuncId) (ds : List D) : Orc := bif Nat.beq f 98 then l_szIntS_orc ds else .no
def l_szIntSS_A (xss : List (List Int)) (left : Int) : Ann := .two (.none) (.two (.none) (.two (.none) (.two (.two (.none) (.loop (cut2 (fun (left1 : Int) (i : Int) => l_szIntSS_JJ0 xss left left1 i) (fun (left1 : Int) (i : Int) => [(0, .d false (.sl (.rows xss))), (1, .d true (.int .i64 left1)), (5, .d true (.int .i64 i))]) (fun (left1 : Int) (i : Int) => [])) (fun g => l_szIntSS_mJ0 xss left g.1 g.2) (fun _ => .none))) (.none))))
def l_szIntSS_P (xss : List (List Int)) (left : Int) : Prop :=
  (-9223372036854775808 ≤ (left - (xss.length : Int)) ∧ (left - (xss.length : Int)) ≤ 9223372036854775807) ∧ (((decide ((left - (xss.length : Int)) < 0)) = true → ((((-1) : Int) = (szRows xss left)))) ∧ ((decide ((left - (xss.length : Int)) < 0)) = false → ((∃ left1' : Int, ∃ i' : Int, (l_szIntSS_JJ0 xss left left1' i') ∧ (xss = xss) ∧ ((left - (xss.length : Int)) = left1') ∧ ((0 : Int) = i')) ∧ (∀ left1 : Int, ∀ i : Int, (l_szIntSS_JJ0 xss left left1 i) → (((decide (i < (xss.length : Int))) = true → ((0 : Int) ≤ i) ∧ ((i : Int) < xss.length) ∧ (i.toNat < xss.length) ∧ (PC Try.prog 98 [.sl (.ints (xss.getD i.toNat [])), .int .i64 left1] (.one (.d (.int .i64 (sz1 (xss.getD i.toNat []).length left1))))) ∧ (((decide ((sz1 (xss.getD i.toNat []).length left1) < 0)) = true → ((((-1) : Int) = (szRows xss left)))) ∧ ((decide ((sz1 (xss.getD i.toNat []).length left1) < 0)) = false → (-9223372036854775808 ≤ (i + 1) ∧ (i + 1) ≤ 9223372036854775807) ∧ (∃ left1' : Int, ∃ i' : Int, (l_szIntSS_JJ0 xss left left1' i') ∧ (l_szIntSS_mJ0 xss left left1' i' < l_szIntSS_mJ0 xss left left1 i) ∧ (xss = xss) ∧ ((sz1 (xss.getD i.toNat []).length left1) = left1') ∧ ((i + 1) = i'))))) ∧ ((decide (i < (xss.length : Int))) = false → ((left1 = (szRows xss left)))))))))
theorem l_szIntSS_vc (xss : List (List Int)) (left : Int) (hl : 0 ≤ left ∧ left ≤ 1048576) (w_xss : (xss.length : Int) ≤ 9223372036854775807) (v_xss : ∀ x9 ∈ xss, (x9.length : Int) ≤ 9223372036854775807) : l_szIntSS_P xss left := by
  unfold l_szIntSS_P
  refine ⟨?_, ?_, ?_⟩
  · first | omega | rfl | (intro hg; simp only [nrmT] at hg; omega) | (intro g1 g2; simp [g1, g2]; done) | (intro g1; simp at g1 ⊢; simp [g1]; done) | (simp only [nrmT] at *; omega) | (simp at * <;> omega) | (simp_all <;> omega) | (simp_all; done)
  · intro b1
    try simp only [nrmT] at b1
    unfold szRows; rw [if_pos (by omega)]
  · intro b2
    try simp only [nrmT] at b2
    refine ⟨?_, ?_⟩
    · refine ⟨(left - (xss.length : Int)), 0, ?_⟩
      refine ⟨?_, rfl, rfl, rfl⟩
      · refine ⟨?_, ?_, ?_, ?_, ?_⟩
        · first | omega | rfl | (intro hg; simp only [nrmT] at hg; omega) | (intro g1 g2; simp [g1, g2]; done) | (intro g1; simp at g1 ⊢; simp [g1]; done) | (simp only [nrmT] at *; omega) | (simp at * <;> omega) | (simp_all <;> omega) | (simp_all; done)
        · first | omega | rfl | (intro hg; simp only [nrmT] at hg; omega) | (intro g1 g2; simp [g1, g2]; done) | (intro g1; simp at g1 ⊢; simp [g1]; done) | (simp only [nrmT] at *; omega) | (simp at * <;> omega) | (simp_all <;> omega) | (simp_all; done)
        · first | omega | rfl | (intro hg; simp only [nrmT] at hg; omega) | (intro g1 g2; simp [g1, g2]; done) | (intro g1; simp at g1 ⊢; simp [g1]; done) | (simp only [nrmT] at *; omega) | (simp at * <;> omega) | (simp_all <;> omega) | (simp_all; done)
        · first | omega | rfl | (intro hg; simp only [nrmT] at hg; omega) | (intro g1 g2; simp [g1, g2]; done) | (intro g1; simp at g1 ⊢; simp [g1]; done) | (simp only [nrmT] at *; omega) | (simp at * <;> omega) | (simp_all <;> omega) | (simp_all; done)
        · first | omega | rfl | (intro hg; simp only [nrmT] at hg; omega) | (intro g1 g2; simp [g1, g2]; done) | (intro g1; simp at g1 ⊢; simp [g1]; done) | (simp only [nrmT] at *; omega) | (simp at * <;> omega) | (simp_all <;> omega) | (simp_all; done)
    · intro left1 i hJ
      obtain ⟨h1, h2, h3, h4, h5⟩ := hJ
      refine ⟨?_, ?_⟩
      · intro b3
        try simp only [nrmT] at b3
        refine ⟨?_, ?_, ?_, ?_, ?_, ?_⟩
        · first | omega | rfl | (intro hg; simp only [nrmT] at hg; omega) | (intro g1 g2; simp [g1, g2]; done) | (intro g1; simp at g1 ⊢; simp [g1]; done) | (simp only [nrmT] at *; omega) | (simp at * <;> omega) | (simp_all <;> omega) | (simp_all; done)
        · first | omega | rfl | (intro hg; simp only [nrmT] at hg; omega) | (intro g1 g2; simp [g1, g2]; done) | (intro g1; simp at g1 ⊢; simp [g1]; done) | (simp only [nrmT] at *; omega) | (simp at * <;> omega) | (simp_all <;> omega) | (simp_all; done)
        · first | omega | rfl | (intro hg; simp only [nrmT] at hg; omega) | (intro g1 g2; simp [g1, g2]; done) | (intro g1; simp at g1 ⊢; simp [g1]; done) | (simp only [nrmT] at *; omega) | (simp at * <;> omega) | (simp_all <;> omega) | (simp_all; done)
        · refine l_szIntS_pc (xss.getD i.toNat []) left1 ?_
          · first | omega | rfl | (intro hg; simp only [nrmT] at hg; omega) | (intro g1 g2; simp [g1, g2]; done) | (intro g1; simp at g1 ⊢; simp [g1]; done) | (simp only [nrmT] at *; omega) | (simp at * <;> omega) | (simp_all <;> omega) | (simp_all; done)
        · intro b4
          try simp only [nrmT] at b4
          have e := szTo_step (xss := xss) (left := left - xss.length) h1 (by omega)
          rw [← h3] at e
          have e2 := szTo_stuck (k := (i + 1).toNat) (by rw [e]; exact b4) xss.length (by omega)
          unfold szRows
          rw [if_neg (by omega), e2, e]
          exact (sz1_neg b4).symm
        · intro b5
          try simp only [nrmT] at b5
          refine ⟨?_, ?_⟩
          · first | omega | rfl | (intro hg; simp only [nrmT] at hg; omega) | (intro g1 g2; simp [g1, g2]; done) | (intro g1; simp at g1 ⊢; simp [g1]; done) | (simp only [nrmT] at *; omega) | (simp at * <;> omega) | (simp_all <;> omega) | (simp_all; done)
          · refine ⟨(sz1 (xss.getD i.toNat []).length left1), (i + 1), ?_⟩
            refine ⟨?_, ?_, rfl, rfl, rfl⟩
            · refine ⟨?_, ?_, ?_, ?_, ?_⟩
              · first | omega | rfl | (intro hg; simp only [nrmT] at hg; omega) | (intro g1 g2; simp [g1, g2]; done) | (intro g1; simp at g1 ⊢; simp [g1]; done) | (simp only [nrmT] at *; omega) | (simp at * <;> omega) | (simp_all <;> omega) | (simp_all; done)
              · first | omega | rfl | (intro hg; simp only [nrmT] at hg; omega) | (intro g1 g2; simp [g1, g2]; done) | (intro g1; simp at g1 ⊢; simp [g1]; done) | (simp only [nrmT] at *; omega) | (simp at * <;> omega) | (simp_all <;> omega) | (simp_all; done)
              · rw [h3, szTo_step h1 (by omega)]
              · have := sz1_bound (n := (xss.getD i.toNat []).length) (left := left1) (by omega)
                omega
              · first | omega | rfl | (intro hg; simp only [nrmT] at hg; omega) | (intro g1 g2; simp [g1, g2]; done) | (intro g1; simp at g1 ⊢; simp [g1]; done) | (simp only [nrmT] at *; omega) | (simp at * <;> omega) | (simp_all <;> omega) | (simp_all; done)
            · first | (show _ < _; omega) | (simp only [l_szIntSS_mJ0]; omega) | (simp only [l_szIntSS_mJ0] at *; simp at *; omega)
      · intro b6
        try simp only [nrmT] at b6
        unfold szRows
        rw [if_neg (by omega), h3]
        have : i.toNat = xss.length := by omega
        rw [this]
theorem l_szIntSS_pc (xss : List (List Int)) (left : Int) (hl : 0 ≤ left ∧ left ≤ 1048576) : PC Try.prog 65 [.sl (.rows xss), .int .i64 left] (.one (.d (.int .i64 (szRows xss left)))) :=
  pc_wf @Try.call65 fun hw => pc_by (by kernel_rfl) Try.func65 @Try.call65 (by kernel_rfl) l_szIntSS_C (l_szIntSS_A xss left) (by kernel_rfl) (l_szIntSS_vc xss left hl hw.1.1 hw.1.2) (by kernel_rfl)
def l_szIntSS_orc : List D → Orc := orcN [some .rows, none] fun ds => match ds with
  | [.sl (.rows xss), .int .i64 left] => some (.one (.d (.int .i64 (szRows xss left))))
  | _ => none
def risingP (xs : List Int) (lo hi : Int) (k : Nat) : Bool := inB (xs.getD k 0) lo hi && (decide (k = 0) || decide (xs.getD (k - 1) 0 < xs.getD k 0))
def rising (xs : List Int) (lo hi : Int) : Bool := allTo (risingP xs lo hi) xs.length
theorem rising_step {xs : List Int} {lo hi i : Int} (h0 : 0 ≤ i) {c : Bool} (hc : (cond (!(inB (xs.getD i.toNat 0) lo hi)) true (cond (decide (i > 0)) (decide (xs.getD (i - 1).toNat 0 ≥ xs.getD i.toNat 0)) false)) = c) :
    risingP xs lo hi i.toNat = !c := by
  subst hc
  have e : (i - 1).toNat = i.toNat - 1 := by omega
  unfold risingP
  rw [e]
  cases inB (xs.getD i.toNat 0) lo hi
  · rfl
  · by_cases h : i > 0
    · have h2 : ¬ i.toNat = 0 := by omega
      simp [h, h2]
      by_cases h3 : xs[i.toNat - 1]?.getD 0 < xs[i.toNat]?.getD 0
      · simp [h3]
      · simp [h3]; omega
    · have h2 : i.toNat = 0 := by omega
      simp [h, h2]
abbrev s_l1Rising_JJ0 (xs : List Int) (lo : Int) (hi : Int) (i : Int) : Prop := (0 ≤ i) ∧ (i ≤ (xs.length : Int)) ∧ (allTo (risingP xs lo hi) i.toNat = true)
abbrev s_l1Rising_mJ0 (xs : List Int) (lo : Int) (hi : Int) (i : Int) : Nat := (xs.length - i).toNat
def s_l1Rising_C (f : FuncId) (ds : List D) : Orc := bif Nat.beq f 104 then s_l1In_orc ds else .no
def s_l1Rising_A (xs : List Int) (lo : Int) (hi : Int) : Ann := .two (.none) (.two (.two (.none) (.loop (cut1 (fun (i : Int) => s_l1Rising_JJ0 xs lo hi i) (fun (i : Int) => [(0, .d false (.sl (.ints xs))), (1, .d false (.int .i64 lo)), (2, .d false (.int .i64 hi)), (7, .d true (.int .i64 i))]) (fun (i : Int) => [])) (fun g => s_l1Rising_mJ0 xs lo hi g) (fun _ => .none))) (.none))
def s_l1Rising_P (xs : List Int) (lo : Int) (hi : Int) : Prop :=
  ((∃ i' : Int, (s_l1Rising_JJ0 xs lo hi i') ∧ (xs = xs) ∧ (lo = lo) ∧ (hi = hi) ∧ ((0 : Int) = i')) ∧ (∀ i : Int, (s_l1Rising_JJ0 xs lo hi i) → (((decide (i < (xs.length : Int))) = true → (true = true) ∧ ((0 : Int) ≤ i) ∧ ((i : Int) < xs.length) ∧ (i.toNat < xs.length) ∧ (PC Try.prog 104 [.int .i64 (xs.getD i.toNat 0), .int .i64 lo, .int .i64 hi] (.one (.d (.bool (inB (xs.getD i.toNat 0) lo hi))))) ∧ ((!(!(inB (xs.getD i.toNat 0) lo hi))) = true → (!(!(inB (xs.getD i.toNat 0) lo hi))) = true) ∧ ((!(!(inB (xs.getD i.toNat 0) lo hi))) = true → (!(!(inB (xs.getD i.toNat 0) lo hi))) = true) ∧ (((!(!(inB (xs.getD i.toNat 0) lo hi))) && (decide (i > 0))) = true → ((!(!(inB (xs.getD i.toNat 0) lo hi))) && (decide (i > 0))) = true) ∧ ((((!(!(inB (xs.getD i.toNat 0) lo hi))) && (decide (i > 0))) = true → -9223372036854775808 ≤ (i - 1) ∧ (i - 1) ≤ 9223372036854775807)) ∧ (((!(!(inB (xs.getD i.toNat 0) lo hi))) && (decide (i > 0))) = true → ((!(!(inB (xs.getD i.toNat 0) lo hi))) && (decide (i > 0))) = true) ∧ (((!(!(inB (xs.getD i.toNat 0) lo hi))) && (decide (i > 0))) = true → ((!(!(inB (xs.getD i.toNat 0) lo hi))) && (decide (i > 0))) = true) ∧ ((((!(!(inB (xs.getD i.toNat 0) lo hi))) && (decide (i > 0))) = true → (0 : Int) ≤ (i - 1))) ∧ ((((!(!(inB (xs.getD i.toNat 0) lo hi))) && (decide (i > 0))) = true → ((i - 1) : Int) < xs.length)) ∧ (((!(!(inB (xs.getD i.toNat 0) lo hi))) && (decide (i > 0))) = true → ((!(!(inB (xs.getD i.toNat 0) lo hi))) && (decide (i > 0))) = true) ∧ ((((!(!(inB (xs.getD i.toNat 0) lo hi))) && (decide (i > 0))) = true → (i - 1).toNat < xs.length)) ∧ (((!(!(inB (xs.getD i.toNat 0) lo hi))) && (decide (i > 0))) = true → ((!(!(inB (xs.getD i.toNat 0) lo hi))) && (decide (i > 0))) = true) ∧ (((!(!(inB (xs.getD i.toNat 0) lo hi))) && (decide (i > 0))) = true → ((!(!(inB (xs.getD i.toNat 0) lo hi))) && (decide (i > 0))) = true) ∧ ((((!(!(inB (xs.getD i.toNat 0) lo hi))) && (decide (i > 0))) = true → (0 : Int) ≤ i)) ∧ ((((!(!(inB (xs.getD i.toNat 0) lo hi))) && (decide (i > 0))) = true → (i : Int) < xs.length)) ∧ (((!(!(inB (xs.getD i.toNat 0) lo hi))) && (decide (i > 0))) = true → ((!(!(inB (xs.getD i.toNat 0) lo hi))) && (decide (i > 0))) = true) ∧ ((((!(!(inB (xs.getD i.toNat 0) lo hi))) && (decide (i > 0))) = true → i.toNat < xs.length)) ∧ (((!(!(inB (xs.getD i.toNat 0) lo hi))) && (decide (i > 0))) = true → ((!(!(inB (xs.getD i.toNat 0) lo hi))) && (decide (i > 0))) = true) ∧ (((!(!(inB (xs.getD i.toNat 0) lo hi))) && (decide (i > 0))) = true → ((!(!(inB (xs.getD i.toNat 0) lo hi))) && (decide (i > 0))) = true) ∧ (((!(!(inB (xs.getD i.toNat 0) lo hi))) = true → (!(!(inB (xs.getD i.toNat 0) lo hi))) = true)) ∧ (((!(!(inB (xs.getD i.toNat 0) lo hi))) = true → (decide (i > 0)) = true → ((!(!(inB (xs.getD i.toNat 0) lo hi))) && (decide (i > 0))) = true)) ∧ (((!(!(inB (xs.getD i.toNat 0) lo hi))) = true → (decide (i > 0)) = false → true = true)) ∧ (true = true) ∧ (((!(inB (xs.getD i.toNat 0) lo hi)) = true → true = true)) ∧ (((!(inB (xs.getD i.toNat 0) lo hi)) = false → (!(!(inB (xs.getD i.toNat 0) lo hi))) = true)) ∧ (((cond (!(inB (xs.getD i.toNat 0) lo hi)) true (cond (decide (i > 0)) (decide ((xs.getD ((i - 1).toNat) 0) ≥ (xs.getD i.toNat 0))) false)) = true → ((false = (rising xs lo hi)))) ∧ ((cond (!(inB (xs.getD i.toNat 0) lo hi)) true (cond (decide (i > 0)) (decide ((xs.getD ((i - 1).toNat) 0) ≥ (xs.getD i.toNat 0))) false)) = false → (-9223372036854775808 ≤ (i + 1) ∧ (i + 1) ≤ 9223372036854775807) ∧ (∃ i' : Int, (s_l1Rising_JJ0 xs lo hi i') ∧ (s_l1Rising_mJ0 xs lo hi i' < s_l1Rising_mJ0 xs lo hi i) ∧ (xs = xs) ∧ (lo = lo) ∧ (hi = hi) ∧ ((i + 1) = i'))))) ∧ ((decide (i < (xs.length : Int))) = false → ((true = (rising xs lo hi)))))))
theorem s_l1Rising_vc (xs : List Int) (lo : Int) (hi : Int)  (w_xs : (xs.length : Int) ≤ 9223372036854775807) : s_l1Rising_P xs lo hi := by
  unfold s_l1Rising_P
  refine ⟨?_, ?_⟩
  · refine ⟨0, ?_⟩
    refine ⟨?_, rfl, rfl, rfl, rfl⟩
    · refine ⟨?_, ?_, ?_⟩
      · first | omega | rfl | (intro hg; simp only [nrmT] at hg; omega) | (intro g1 g2; simp [g1, g2]; done) | (intro g1; simp at g1 ⊢; simp [g1]; done) | (simp only [nrmT] at *; omega) | (simp at * <;> omega) | (simp_all <;> omega) | (simp_all; done)
      · first | omega | rfl | (intro hg; simp only [nrmT] at hg; omega) | (intro g1 g2; simp [g1, g2]; done) | (intro g1; simp at g1 ⊢; simp [g1]; done) | (simp only [nrmT] at *; omega) | (simp at * <;> omega) | (simp_all <;> omega) | (simp_all; done)
      · first | omega | rfl | (intro hg; simp only [nrmT] at hg; omega) | (intro g1 g2; simp [g1, g2]; done) | (intro g1; simp at g1 ⊢; simp [g1]; done) | (simp only [nrmT] at *; omega) | (simp at * <;> omega) | (simp_all <;> omega) | (simp_all; done)
  · intro i hJ
    obtain ⟨h1, h2, h3⟩ := hJ
    refine ⟨?_, ?_⟩
    · intro b1
      try simp only [nrmT] at b1
      refine ⟨rfl, ?_, ?_, ?_, s_l1In_pc (xs.getD i.toNat 0) lo hi, id, id, id, ?_, id, id, ?_, ?_, id, ?_, id, id, ?_, ?_, id, ?_, id, id, id, ?_, fun _ _ => rfl, rfl, fun _ => rfl, ?_, ?_, ?_⟩
      · first | omega | rfl | (intro hg; simp only [nrmT] at hg; omega) | (intro g1 g2; simp [g1, g2]; done) | (intro g1; simp at g1 ⊢; simp [g1]; done) | (simp only [nrmT] at *; omega) | (simp at * <;> omega) | (simp_all <;> omega) | (simp_all; done)
      · first | omega | rfl | (intro hg; simp only [nrmT] at hg; omega) | (intro g1 g2; simp [g1, g2]; done) | (intro g1; simp at g1 ⊢; simp [g1]; done) | (simp only [nrmT] at *; omega) | (simp at * <;> omega) | (simp_all <;> omega) | (simp_all; done)
      · first | omega | rfl | (intro hg; simp only [nrmT] at hg; omega) | (intro g1 g2; simp [g1, g2]; done) | (intro g1; simp at g1 ⊢; simp [g1]; done) | (simp only [nrmT] at *; omega) | (simp at * <;> omega) | (simp_all <;> omega) | (simp_all; done)
      · first | omega | rfl | (intro hg; simp only [nrmT] at hg; omega) | (intro g1 g2; simp [g1, g2]; done) | (intro g1; simp at g1 ⊢; simp [g1]; done) | (simp only [nrmT] at *; omega) | (simp at * <;> omega) | (simp_all <;> omega) | (simp_all; done)
      · first | omega | rfl | (intro hg; simp only [nrmT] at hg; omega) | (intro g1 g2; simp [g1, g2]; done) | (intro g1; simp at g1 ⊢; simp [g1]; done) | (simp only [nrmT] at *; omega) | (simp at * <;> omega) | (simp_all <;> omega) | (simp_all; done)
      · first | omega | rfl | (intro hg; simp only [nrmT] at hg; omega) | (intro g1 g2; simp [g1, g2]; done) | (intro g1; simp at g1 ⊢; simp [g1]; done) | (simp only [nrmT] at *; omega) | (simp at * <;> omega) | (simp_all <;> omega) | (simp_all; done)
      · first | omega | rfl | (intro hg; simp only [nrmT] at hg; omega) | (intro g1 g2; simp [g1, g2]; done) | (intro g1; simp at g1 ⊢; simp [g1]; done) | (simp only [nrmT] at *; omega) | (simp at * <;> omega) | (simp_all <;> omega) | (simp_all; done)
      · first | omega | rfl | (intro hg; simp only [nrmT] at hg; omega) | (intro g1 g2; simp [g1, g2]; done) | (intro g1; simp at g1 ⊢; simp [g1]; done) | (simp only [nrmT] at *; omega) | (simp at * <;> omega) | (simp_all <;> omega) | (simp_all; done)
      · first | omega | rfl | (intro hg; simp only [nrmT] at hg; omega) | (intro g1 g2; simp [g1, g2]; done) | (intro g1; simp at g1 ⊢; simp [g1]; done) | (simp only [nrmT] at *; omega) | (simp at * <;> omega) | (simp_all <;> omega) | (simp_all; done)
      · first | omega | rfl | (intro hg; simp only [nrmT] at hg; omega) | (intro g1 g2; simp [g1, g2]; done) | (intro g1; simp at g1 ⊢; simp [g1]; done) | (simp only [nrmT] at *; omega) | (simp at * <;> omega) | (simp_all <;> omega) | (simp_all; done)
      · first | omega | rfl | (intro hg; simp only [nrmT] at hg; omega) | (intro g1 g2; simp [g1, g2]; done) | (intro g1; simp at g1 ⊢; simp [g1]; done) | (simp only [nrmT] at *; omega) | (simp at * <;> omega) | (simp_all <;> omega) | (simp_all; done)
      · first | omega | rfl | (intro hg; simp only [nrmT] at hg; omega) | (intro g1 g2; simp [g1, g2]; done) | (intro g1; simp at g1 ⊢; simp [g1]; done) | (simp only [nrmT] at *; omega) | (simp at * <;> omega) | (simp_all <;> omega) | (simp_all; done)
      · intro b2
        have e := rising_step h1 b2
        exact (allTo_falseI h1 (by omega) e).symm
      · intro b3
        refine ⟨?_, ?_⟩
        · first | omega | rfl | (intro hg; simp only [nrmT] at hg; omega) | (intro g1 g2; simp [g1, g2]; done) | (intro g1; simp at g1 ⊢; simp [g1]; done) | (simp only [nrmT] at *; omega) | (simp at * <;> omega) | (simp_all <;> omega) | (simp_all; done)
        · refine ⟨(i + 1), ?_⟩
          refine ⟨?_, ?_, rfl, rfl, rfl, rfl⟩
          · refine ⟨?_, ?_, ?_⟩
            · first | omega | rfl | (intro hg; simp only [nrmT] at hg; omega) | (intro g1 g2; simp [g1, g2]; done) | (intro g1; simp at g1 ⊢; simp [g1]; done) | (simp only [nrmT] at *; omega) | (simp at * <;> omega) | (simp_all <;> omega) | (simp_all; done)
            · first | omega | rfl | (intro hg; simp only [nrmT] at hg; omega) | (intro g1 g2; simp [g1, g2]; done) | (intro g1; simp at g1 ⊢; simp [g1]; done) | (simp only [nrmT] at *; omega) | (simp at * <;> omega) | (simp_all <;> omega) | (simp_all; done)
            · have e := rising_step h1 b3
              exact allTo_step h1 h3 e
          · first | (show _ < _; omega) | (simp only [s_l1Rising_mJ0]; omega) | (simp only [s_l1Rising_mJ0] at *; simp at *; omega)
    · intro b4
      try simp only [nrmT] at b4
      have e : i.toNat = xs.length := by omega
      rw [e] at h3
      exact h3.symm
theorem s_l1Rising_pc (xs : List Int) (lo : Int) (hi : Int)  : PC Try.prog 200 [.sl (.ints xs), .int .i64 lo, .int .i64 hi] (.one (.d (.bool (rising xs lo hi)))) :=
  pc_wf @Try.call200 fun hw => pc_by (by kernel_rfl) Try.func200 @Try.call200 (by kernel_rfl) s_l1Rising_C (s_l1Rising_A xs lo hi) (by kernel_rfl) (s_l1Rising_vc xs lo hi hw.1) (by kernel_rfl)
def s_l1Rising_orc : List D → Orc := orcN [some .ints, none, none] fun ds => match ds with
  | [.sl (.ints xs), .int .i64 lo, .int .i64 hi] => some (.one (.d (.bool (rising xs lo hi))))
  | _ => none
abbrev i_isRising_JJ0 (xs : List Int) (below : Int) (i : Int) : Prop := (0 ≤ i) ∧ (i ≤ (xs.length : Int)) ∧ (allTo (risingP xs 0 (below - 1)) i.toNat = true)
abbrev i_isRising_mJ0 (xs : List Int) (below : Int) (i : Int) : Nat := (xs.length - i).toNat
def i_isRising_C (f : FuncId) (ds : List D) : Orc := bif Nat.beq f 107 then i_between_orc ds else .no
def i_isRising_A (xs : List Int) (below : Int) : Ann := .two (.none) (.two (.two (.none) (.loop (cut1 (fun (i : Int) => i_isRising_JJ0 xs below i) (fun (i : Int) => [(0, .d false (.sl (.ints xs))), (1, .d false (.int .i64 below)), (7, .d false (.sl (.ints xs))), (8, .d true (.int .i64 (xs.length : Int))), (9, .d true (.int .i64 i))]) (fun (i : Int) => [])) (fun g => i_isRising_mJ0 xs below g) (fun _ => .none))) (.none))
def i_isRising_P (xs : List Int) (below : Int) : Prop :=
  ((∃ i' : Int, (i_isRising_JJ0 xs below i') ∧ (xs = xs) ∧ (below = below) ∧ (xs = xs) ∧ ((xs.length : Int) = (xs.length : Int)) ∧ ((0 : Int) = i')) ∧ (∀ i : Int, (i_isRising_JJ0 xs below i) → (((decide (i < (xs.length : Int))) = true → ((0 : Int) ≤ i) ∧ ((i : Int) < xs.length) ∧ (i.toNat < xs.length) ∧ (-9223372036854775808 ≤ (below - 1) ∧ (below - 1) ≤ 9223372036854775807) ∧ (PC Try.prog 107 [.int .i64 (xs.getD i.toNat 0), .int .i64 0, .int .i64 (below - 1)] (.one (.d (.bool (inB (xs.getD i.toNat 0) 0 (below - 1)))))) ∧ ((!(!(inB (xs.getD i.toNat 0) 0 (below - 1)))) = true → (!(!(inB (xs.getD i.toNat 0) 0 (below - 1)))) = true) ∧ ((!(!(inB (xs.getD i.toNat 0) 0 (below - 1)))) = true → (!(!(inB (xs.getD i.toNat 0) 0 (below - 1)))) = true) ∧ (((!(!(inB (xs.getD i.toNat 0) 0 (below - 1)))) && (decide (i > 0))) = true → ((!(!(inB (xs.getD i.toNat 0) 0 (below - 1)))) && (decide (i > 0))) = true) ∧ ((((!(!(inB (xs.getD i.toNat 0) 0 (below - 1)))) && (decide (i > 0))) = true → -9223372036854775808 ≤ (i - 1) ∧ (i - 1) ≤ 9223372036854775807)) ∧ (((!(!(inB (xs.getD i.toNat 0) 0 (below - 1)))) && (decide (i > 0))) = true → ((!(!(inB (xs.getD i.toNat 0) 0 (below - 1)))) && (decide (i > 0))) = true) ∧ (((!(!(inB (xs.getD i.toNat 0) 0 (below - 1)))) && (decide (i > 0))) = true → ((!(!(inB (xs.getD i.toNat 0) 0 (below - 1)))) && (decide (i > 0))) = true) ∧ ((((!(!(inB (xs.getD i.toNat 0) 0 (below - 1)))) && (decide (i > 0))) = true → (0 : Int) ≤ (i - 1))) ∧ ((((!(!(inB (xs.getD i.toNat 0) 0 (below - 1)))) && (decide (i > 0))) = true → ((i - 1) : Int) < xs.length)) ∧ (((!(!(inB (xs.getD i.toNat 0) 0 (below - 1)))) && (decide (i > 0))) = true → ((!(!(inB (xs.getD i.toNat 0) 0 (below - 1)))) && (decide (i > 0))) = true) ∧ ((((!(!(inB (xs.getD i.toNat 0) 0 (below - 1)))) && (decide (i > 0))) = true → (i - 1).toNat < xs.length)) ∧ (((!(!(inB (xs.getD i.toNat 0) 0 (below - 1)))) && (decide (i > 0))) = true → ((!(!(inB (xs.getD i.toNat 0) 0 (below - 1)))) && (decide (i > 0))) = true) ∧ (((!(!(inB (xs.getD i.toNat 0) 0 (below - 1)))) && (decide (i > 0))) = true → ((!(!(inB (xs.getD i.toNat 0) 0 (below - 1)))) && (decide (i > 0))) = true) ∧ (((!(!(inB (xs.getD i.toNat 0) 0 (below - 1)))) = true → (!(!(inB (xs.getD i.toNat 0) 0 (below - 1)))) = true)) ∧ (((!(!(inB (xs.getD i.toNat 0) 0 (below - 1)))) = true → (decide (i > 0)) = true → ((!(!(inB (xs.getD i.toNat 0) 0 (below - 1)))) && (decide (i > 0))) = true)) ∧ (((!(!(inB (xs.getD i.toNat 0) 0 (below - 1)))) = true → (decide (i > 0)) = false → true = true)) ∧ (true = true) ∧ (((!(inB (xs.getD i.toNat 0) 0 (below - 1))) = true → true = true)) ∧ (((!(inB (xs.getD i.toNat 0) 0 (below - 1))) = false → (!(!(inB (xs.getD i.toNat 0) 0 (below - 1)))) = true)) ∧ (((cond (!(inB (xs.getD i.toNat 0) 0 (below - 1))) true (cond (decide (i > 0)) (decide ((xs.getD i.toNat 0) ≤ (xs.getD ((i - 1).toNat) 0))) false)) = true → ((false = (rising xs 0 (below - 1))))) ∧ ((cond (!(inB (xs.getD i.toNat 0) 0 (below - 1))) true (cond (decide (i > 0)) (decide ((xs.getD i.toNat 0) ≤ (xs.getD ((i - 1).toNat) 0))) false)) = false → (-9223372036854775808 ≤ (i + 1) ∧ (i + 1) ≤ 9223372036854775807) ∧ (∃ i' : Int, (i_isRising_JJ0 xs below i') ∧ (i_isRising_mJ0 xs below i' < i_isRising_mJ0 xs below i) ∧ (xs = xs) ∧ (below = below) ∧ (xs = xs) ∧ ((xs.length : Int) = (xs.length : Int)) ∧ ((i + 1) = i'))))) ∧ ((decide (i < (xs.length : Int))) = false → ((true = (rising xs 0 (below - 1))))))))
theorem i_isRising_vc (xs : List Int) (below : Int) (hb : -9223372036854775808 < below ∧ below ≤ 9223372036854775807) (w_xs : (xs.length : Int) ≤ 9223372036854775807) : i_isRising_P xs below := by
  unfold i_isRising_P
  refine ⟨?_, ?_⟩
  · refine ⟨0, ?_⟩
    refine ⟨?_, rfl, rfl, rfl, rfl, rfl⟩
    · refine ⟨?_, ?_, ?_⟩
      · first | omega | rfl | (intro hg; simp only [nrmT] at hg; omega) | (intro g1 g2; simp [g1, g2]; done) | (intro g1; simp at g1 ⊢; simp [g1]; done) | (simp only [nrmT] at *; omega) | (simp at * <;> omega) | (simp_all <;> omega) | (simp_all; done)
      · first | omega | rfl | (intro hg; simp only [nrmT] at hg; omega) | (intro g1 g2; simp [g1, g2]; done) | (intro g1; simp at g1 ⊢; simp [g1]; done) | (simp only [nrmT] at *; omega) | (simp at * <;> omega) | (simp_all <;> omega) | (simp_all; done)
      · first | omega | rfl | (intro hg; simp only [nrmT] at hg; omega) | (intro g1 g2; simp [g1, g2]; done) | (intro g1; simp at g1 ⊢; simp [g1]; done) | (simp only [nrmT] at *; omega) | (simp at * <;> omega) | (simp_all <;> omega) | (simp_all; done)
  · intro i hJ
    obtain ⟨h1, h2, h3⟩ := hJ
    refine ⟨?_, ?_⟩
    · intro b1
      try simp only [nrmT] at b1
      refine ⟨?_, ?_, ?_, ?_, i_between_pc (xs.getD i.toNat 0) 0 (below - 1), id, id, id, ?_, id, id, ?_, ?_, id, ?_, id, id, id, ?_, fun _ _ => rfl, rfl, fun _ => rfl, ?_, ?_, ?_⟩
      · first | omega | rfl | (intro hg; simp only [nrmT] at hg; omega) | (intro g1 g2; simp [g1, g2]; done) | (intro g1; simp at g1 ⊢; simp [g1]; done) | (simp only [nrmT] at *; omega) | (simp at * <;> omega) | (simp_all <;> omega) | (simp_all; done)
      · first | omega | rfl | (intro hg; simp only [nrmT] at hg; omega) | (intro g1 g2; simp [g1, g2]; done) | (intro g1; simp at g1 ⊢; simp [g1]; done) | (simp only [nrmT] at *; omega) | (simp at * <;> omega) | (simp_all <;> omega) | (simp_all; done)
      · first | omega | rfl | (intro hg; simp only [nrmT] at hg; omega) | (intro g1 g2; simp [g1, g2]; done) | (intro g1; simp at g1 ⊢; simp [g1]; done) | (simp only [nrmT] at *; omega) | (simp at * <;> omega) | (simp_all <;> omega) | (simp_all; done)
      · first | omega | rfl | (intro hg; simp only [nrmT] at hg; omega) | (intro g1 g2; simp [g1, g2]; done) | (intro g1; simp at g1 ⊢; simp [g1]; done) | (simp only [nrmT] at *; omega) | (simp at * <;> omega) | (simp_all <;> omega) | (simp_all; done)
      · first | omega | rfl | (intro hg; simp only [nrmT] at hg; omega) | (intro g1 g2; simp [g1, g2]; done) | (intro g1; simp at g1 ⊢; simp [g1]; done) | (simp only [nrmT] at *; omega) | (simp at * <;> omega) | (simp_all <;> omega) | (simp_all; done)
      · first | omega | rfl | (intro hg; simp only [nrmT] at hg; omega) | (intro g1 g2; simp [g1, g2]; done) | (intro g1; simp at g1 ⊢; simp [g1]; done) | (simp only [nrmT] at *; omega) | (simp at * <;> omega) | (simp_all <;> omega) | (simp_all; done)
      · first | omega | rfl | (intro hg; simp only [nrmT] at hg; omega) | (intro g1 g2; simp [g1, g2]; done) | (intro g1; simp at g1 ⊢; simp [g1]; done) | (simp only [nrmT] at *; omega) | (simp at * <;> omega) | (simp_all <;> omega) | (simp_all; done)
      · first | omega | rfl | (intro hg; simp only [nrmT] at hg; omega) | (intro g1 g2; simp [g1, g2]; done) | (intro g1; simp at g1 ⊢; simp [g1]; done) | (simp only [nrmT] at *; omega) | (simp at * <;> omega) | (simp_all <;> omega) | (simp_all; done)
      · first | omega | rfl | (intro hg; simp only [nrmT] at hg; omega) | (intro g1 g2; simp [g1, g2]; done) | (intro g1; simp at g1 ⊢; simp [g1]; done) | (simp only [nrmT] at *; omega) | (simp at * <;> omega) | (simp_all <;> omega) | (simp_all; done)
      · first | omega | rfl | (intro hg; simp only [nrmT] at hg; omega) | (intro g1 g2; simp [g1, g2]; done) | (intro g1; simp at g1 ⊢; simp [g1]; done) | (simp only [nrmT] at *; omega) | (simp at * <;> omega) | (simp_all <;> omega) | (simp_all; done)
      · intro b2
        have e := rising_step h1 b2
        exact (allTo_falseI h1 (by omega) e).symm
      · intro b3
        refine ⟨?_, ?_⟩
        · first | omega | rfl | (intro hg; simp only [nrmT] at hg; omega) | (intro g1 g2; simp [g1, g2]; done) | (intro g1; simp at g1 ⊢; simp [g1]; done) | (simp only [nrmT] at *; omega) | (simp at * <;> omega) | (simp_all <;> omega) | (simp_all; done)
        · refine ⟨(i + 1), ?_⟩
          refine ⟨?_, ?_, rfl, rfl, rfl, rfl, rfl⟩
          · refine ⟨?_, ?_, ?_⟩
            · first | omega | rfl | (intro hg; simp only [nrmT] at hg; omega) | (intro g1 g2; simp [g1, g2]; done) | (intro g1; simp at g1 ⊢; simp [g1]; done) | (simp only [nrmT] at *; omega) | (simp at * <;> omega) | (simp_all <;> omega) | (simp_all; done)
            · first | omega | rfl | (intro hg; simp only [nrmT] at hg; omega) | (intro g1 g2; simp [g1, g2]; done) | (intro g1; simp at g1 ⊢; simp [g1]; done) | (simp only [nrmT] at *; omega) | (simp at * <;> omega) | (simp_all <;> omega) | (simp_all; done)
            · have e := rising_step h1 b3
              exact allTo_step h1 h3 e
          · first | (show _ < _; omega) | (simp only [i_isRising_mJ0]; omega) | (simp only [i_isRising_mJ0] at *; simp at *; omega)
    · intro b4
      try simp only [nrmT] at b4
      have e : i.toNat = xs.length := by omega
      rw [e] at h3
      exact h3.symm
theorem i_isRising_pc (xs : List Int) (below : Int) (hb : -9223372036854775808 < below ∧ below ≤ 9223372036854775807) : PC Try.prog 161 [.sl (.ints xs), .int .i64 below] (.one (.d (.bool (rising xs 0 (below - 1))))) :=
  pc_wf @Try.call161 fun hw => pc_by (by kernel_rfl) Try.func161 @Try.call161 (by kernel_rfl) i_isRising_C (i_isRising_A xs below) (by kernel_rfl) (i_isRising_vc xs below hb hw.1) (by kernel_rfl)
def i_isRising_orc : List D → Orc := orcN [some .ints, none] fun ds => match ds with
  | [.sl (.ints xs), .int .i64 below] => some (.one (.d (.bool (rising xs 0 (below - 1)))))
  | _ => none
theorem len_le (m n : Nat) : decide ((m : Int) ≤ (n : Int)) = decide (m ≤ n) := by
  rw [Bool.eq_iff_iff]; simp only [decide_eq_true_eq]; omega
theorem all_end {α : Type} {p : α → Bool} {d : α} {xs : List α} {i : Int} (h2 : (xs.length : Int) ≤ i) (h2' : i ≤ (xs.length : Int)) (h3 : allTo (fun k => p (xs.getD k d)) i.toNat = true) : xs.all p = true := by
  have e : i.toNat = xs.length := by omega
  rw [e, allTo_list] at h3; exact h3
theorem all_no {α : Type} {p : α → Bool} {d : α} {xs : List α} {i : Int} (h0 : 0 ≤ i) (h : i < (xs.length : Int)) (h3 : p (xs.getD i.toNat d) = false) : xs.all p = false := by
  rw [← allTo_list (d := d)]; exact allTo_falseI h0 h h3
theorem inB_le {x lo hi : Int} (h : inB x lo hi = true) : lo ≤ x ∧ x ≤ hi := of_decide_eq_true h
def i_areBetween_1_C (f : FuncId) (ds : List D) : Orc := bif Nat.beq f 107 then i_between_orc ds else .no
def i_areBetween_1_A (x : Int) (lo : Int) (hi : Int) : Ann := .none
def i_areBetween_1_P (x : Int) (lo : Int) (hi : Int) : Prop :=
  (PC Try.prog 107 [.int .i64 x, .int .i64 lo, .int .i64 hi] (.one (.d (.bool (inB x lo hi))))) ∧ (((!(inB x lo hi)) = (!(inB x lo hi))))
theorem i_areBetween_1_vc (x : Int) (lo : Int) (hi : Int)   : i_areBetween_1_P x lo hi := by
  unfold i_areBetween_1_P
  refine ⟨i_between_pc x lo hi, rfl⟩
theorem i_areBetween_1_pc (x : Int) (lo : Int) (hi : Int)  : PC Try.prog 201 [.int .i64 x, .bx [.int .i64 lo] 0, .bx [.int .i64 hi] 0] (.one (.d (.bool (!(inB x lo hi))))) :=
  pc_wf @Try.call201 fun _ => pc_by (by kernel_rfl) Try.func201 @Try.call201 (by kernel_rfl) i_areBetween_1_C (i_areBetween_1_A x lo hi) (by kernel_rfl) (i_areBetween_1_vc x lo hi) (by kernel_rfl)
def i_areBetween_1_orc : List D → Orc := orcN [none, none, none] fun ds => match ds with
  | [.int .i64 x, .bx [.int .i64 lo] 0, .bx [.int .i64 hi] 0] => some (.one (.d (.bool (!(inB x lo hi)))))
  | _ => none
abbrev slices_IndexFunc_int_int_aB_JJ0 (xs : List Int) (lo : Int) (hi : Int) (i : Int) : Prop := (0 ≤ i) ∧ (i ≤ (xs.length : Int)) ∧ (∀ k, k < i.toNat → (fun x => !(inB x lo hi)) (xs.getD k 0) = false)
abbrev slices_IndexFunc_int_int_aB_mJ0 (xs : List Int) (lo : Int) (hi : Int) (i : Int) : Nat := (xs.length - i).toNat
def slices_IndexFunc_int_int_aB_C (f : FuncId) (ds : List D) : Orc := bif Nat.beq f 201 then i_areBetween_1_orc ds else .no
def slices_IndexFunc_int_int_aB_A (xs : List Int) (lo : Int) (hi : Int) : Ann := .two (.none) (.two (.two (.none) (.loop (cut1 (fun (i : Int) => slices_IndexFunc_int_int_aB_JJ0 xs lo hi i) (fun (i : Int) => [(0, .d false (.sl (.ints xs))), (1, .d false (.fn 201 [.bx [.int .i64 lo] 0, .bx [.int .i64 hi] 0])), (7, .d true (.int .i64 (xs.length : Int))), (8, .d true (.int .i64 i))]) (fun (i : Int) => [])) (fun g => slices_IndexFunc_int_int_aB_mJ0 xs lo hi g) (fun _ => .none))) (.none))
def slices_IndexFunc_int_int_aB_P (xs : List Int) (lo : Int) (hi : Int) : Prop :=
  ((∃ i' : Int, (slices_IndexFunc_int_int_aB_JJ0 xs lo hi i') ∧ (xs = xs) ∧ ((.fn 201 [.bx [.int .i64 lo] 0, .bx [.int .i64 hi] 0] : D) = (.fn 201 [.bx [.int .i64 lo] 0, .bx [.int .i64 hi] 0] : D)) ∧ ((xs.length : Int) = (xs.length : Int)) ∧ ((0 : Int) = i')) ∧ (∀ i : Int, (slices_IndexFunc_int_int_aB_JJ0 xs lo hi i) → (((decide (i < (xs.length : Int))) = true → ((0 : Int) ≤ i) ∧ ((i : Int) < xs.length) ∧ (i.toNat < xs.length) ∧ (PC Try.prog 201 [.int .i64 (xs.getD i.toNat 0), .bx [.int .i64 lo] 0, .bx [.int .i64 hi] 0] (.one (.d (.bool (!(inB (xs.getD i.toNat 0) lo hi)))))) ∧ (((!(inB (xs.getD i.toNat 0) lo hi)) = true → ((i = (idxI (fun x => !(inB x lo hi)) xs)))) ∧ ((!(inB (xs.getD i.toNat 0) lo hi)) = false → (-9223372036854775808 ≤ (i + 1) ∧ (i + 1) ≤ 9223372036854775807) ∧ (∃ i' : Int, (slices_IndexFunc_int_int_aB_JJ0 xs lo hi i') ∧ (slices_IndexFunc_int_int_aB_mJ0 xs lo hi i' < slices_IndexFunc_int_int_aB_mJ0 xs lo hi i) ∧ (xs = xs) ∧ ((.fn 201 [.bx [.int .i64 lo] 0, .bx [.int .i64 hi] 0] : D) = (.fn 201 [.bx [.int .i64 lo] 0, .bx [.int .i64 hi] 0] : D)) ∧ ((xs.length : Int) = (xs.length : Int)) ∧ ((i + 1) = i'))))) ∧ ((decide (i < (xs.length : Int))) = false → ((((-1) : Int) = (idxI (fun x => !(inB x lo hi)) xs)))))))
theorem slices_IndexFunc_int_int_aB_vc (xs : List Int) (lo : Int) (hi : Int)  (w_xs : (xs.length : Int) ≤ 9223372036854775807) : slices_IndexFunc_int_int_aB_P xs lo hi := by
  unfold slices_IndexFunc_int_int_aB_P
  refine ⟨?_, ?_⟩
  · refine ⟨0, ?_⟩
    refine ⟨?_, rfl, rfl, rfl, rfl⟩
    · refine ⟨?_, ?_, ?_⟩
      · first | omega | rfl | (intro hg; simp only [nrmT] at hg; omega) | (intro g1 g2; simp [g1, g2]; done) | (intro g1; simp at g1 ⊢; simp [g1]; done) | (simp only [nrmT] at *; omega) | (simp at * <;> omega) | (simp_all <;> omega) | (simp_all; done)
      · first | omega | rfl | (intro hg; simp only [nrmT] at hg; omega) | (intro g1 g2; simp [g1, g2]; done) | (intro g1; simp at g1 ⊢; simp [g1]; done) | (simp only [nrmT] at *; omega) | (simp at * <;> omega) | (simp_all <;> omega) | (simp_all; done)
      · first | omega | rfl | (intro hg; simp only [nrmT] at hg; omega) | (intro g1 g2; simp [g1, g2]; done) | (intro g1; simp at g1 ⊢; simp [g1]; done) | (simp only [nrmT] at *; omega) | (simp at * <;> omega) | (simp_all <;> omega) | (simp_all; done)
  · intro i hJ
    obtain ⟨h1, h2, h3⟩ := hJ
    refine ⟨?_, ?_⟩
    · intro b1
      try simp only [nrmT] at b1
      refine ⟨?_, ?_, ?_, i_areBetween_1_pc (xs.getD i.toNat 0) lo hi, ?_, ?_⟩
      · first | omega | rfl | (intro hg; simp only [nrmT] at hg; omega) | (intro g1 g2; simp [g1, g2]; done) | (intro g1; simp at g1 ⊢; simp [g1]; done) | (simp only [nrmT] at *; omega) | (simp at * <;> omega) | (simp_all <;> omega) | (simp_all; done)
      · first | omega | rfl | (intro hg; simp only [nrmT] at hg; omega) | (intro g1 g2; simp [g1, g2]; done) | (intro g1; simp at g1 ⊢; simp [g1]; done) | (simp only [nrmT] at *; omega) | (simp at * <;> omega) | (simp_all <;> omega) | (simp_all; done)
      · first | omega | rfl | (intro hg; simp only [nrmT] at hg; omega) | (intro g1 g2; simp [g1, g2]; done) | (intro g1; simp at g1 ⊢; simp [g1]; done) | (simp only [nrmT] at *; omega) | (simp at * <;> omega) | (simp_all <;> omega) | (simp_all; done)
      · intro b2
        try simp only [nrmT] at b2
        exact idx_found (p := fun x => !(inB x lo hi)) h1 b1 h3 (by simpa using b2)
      · intro b3
        try simp only [nrmT] at b3
        refine ⟨?_, ?_⟩
        · first | omega | rfl | (intro hg; simp only [nrmT] at hg; omega) | (intro g1 g2; simp [g1, g2]; done) | (intro g1; simp at g1 ⊢; simp [g1]; done) | (simp only [nrmT] at *; omega) | (simp at * <;> omega) | (simp_all <;> omega) | (simp_all; done)
        · refine ⟨(i + 1), ?_⟩
          refine ⟨?_, ?_, rfl, rfl, rfl, rfl⟩
          · refine ⟨?_, ?_, ?_⟩
            · first | omega | rfl | (intro hg; simp only [nrmT] at hg; omega) | (intro g1 g2; simp [g1, g2]; done) | (intro g1; simp at g1 ⊢; simp [g1]; done) | (simp only [nrmT] at *; omega) | (simp at * <;> omega) | (simp_all <;> omega) | (simp_all; done)
            · first | omega | rfl | (intro hg; simp only [nrmT] at hg; omega) | (intro g1 g2; simp [g1, g2]; done) | (intro g1; simp at g1 ⊢; simp [g1]; done) | (simp only [nrmT] at *; omega) | (simp at * <;> omega) | (simp_all <;> omega) | (simp_all; done)
            · exact idx_step (p := fun x => !(inB x lo hi)) h1 h3 (by simpa using b3)
          · first | (show _ < _; omega) | (simp only [slices_IndexFunc_int_int_aB_mJ0]; omega) | (simp only [slices_IndexFunc_int_int_aB_mJ0] at *; simp at *; omega)
    · intro b4
      try simp only [nrmT] at b4
      exact (idx_none (by omega) h3).symm
theorem slices_IndexFunc_int_int_aB_pc (xs : List Int) (lo : Int) (hi : Int)  : PC Try.prog 164 [.sl (.ints xs), .fn 201 [.bx [.int .i64 lo] 0, .bx [.int .i64 hi] 0]] (.one (.d (.int .i64 (idxI (fun x => !(inB x lo hi)) xs)))) :=
  pc_wf @Try.call164 fun hw => pc_by (by kernel_rfl) Try.func164 @Try.call164 (by kernel_rfl) slices_IndexFunc_int_int_aB_C (slices_IndexFunc_int_int_aB_A xs lo hi) (by kernel_rfl) (slices_IndexFunc_int_int_aB_vc xs lo hi hw.1) (by kernel_rfl)
def slices_IndexFunc_int_int_aB_orc : List D → Orc := orcN [some .ints, none] fun ds => match ds with
  | [.sl (.ints xs), .fn f0 [.bx [.int .i64 lo] 0, .bx [.int .i64 hi] 0]] => bif Nat.beq f0 201 then some (.one (.d (.int .i64 (idxI (fun x => !(inB x lo hi)) xs)))) else none
  | _ => none
def slices_ContainsFunc_int_int_aB_C (f : FuncId) (ds : List D) : Orc := bif Nat.beq f 164 then slices_IndexFunc_int_int_aB_orc ds else .no
def slices_ContainsFunc_int_int_aB_A (xs : List Int) (lo : Int) (hi : Int) : Ann := .none
def slices_ContainsFunc_int_int_aB_P (xs : List Int) (lo : Int) (hi : Int) : Prop :=
  (PC Try.prog 164 [.sl (.ints xs), .fn 201 [.bx [.int .i64 lo] 0, .bx [.int .i64 hi] 0]] (.one (.d (.int .i64 (idxI (fun x => !(inB x lo hi)) xs))))) ∧ (((decide ((idxI (fun x => !(inB x lo hi)) xs) ≥ 0)) = (xs.any (fun x => !(inB x lo hi)))))
theorem slices_ContainsFunc_int_int_aB_vc (xs : List Int) (lo : Int) (hi : Int)  (w_xs : (xs.length : Int) ≤ 9223372036854775807) : slices_ContainsFunc_int_int_aB_P xs lo hi := by
  unfold slices_ContainsFunc_int_int_aB_P
  refine ⟨slices_IndexFunc_int_int_aB_pc xs lo hi, ?_⟩
  · exact idx_any _ _
theorem slices_ContainsFunc_int_int_aB_pc (xs : List Int) (lo : Int) (hi : Int)  : PC Try.prog 96 [.sl (.ints xs), .fn 201 [.bx [.int .i64 lo] 0, .bx [.int .i64 hi] 0]] (.one (.d (.bool (xs.any (fun x => !(inB x lo hi)))))) :=
  pc_wf @Try.call96 fun hw => pc_by (by kernel_rfl) Try.func96 @Try.call96 (by kernel_rfl) slices_ContainsFunc_int_int_aB_C (slices_ContainsFunc_int_int_aB_A xs lo hi) (by kernel_rfl) (slices_ContainsFunc_int_int_aB_vc xs lo hi hw.1) (by kernel_rfl)
def slices_ContainsFunc_int_int_aB_orc : List D → Orc := orcN [some .ints, none] fun ds => match ds with
  | [.sl (.ints xs), .fn f0 [.bx [.int .i64 lo] 0, .bx [.int .i64 hi] 0]] => bif Nat.beq f0 201 then some (.one (.d (.bool (xs.any (fun x => !(inB x lo hi)))))) else none
  | _ => none
def i_areBetween_C (f : FuncId) (ds : List D) : Orc := bif Nat.beq f 96 then slices_ContainsFunc_int_int_aB_orc ds else .no
def i_areBetween_A (xs : List Int) (lo : Int) (hi : Int) : Ann := .none
def i_areBetween_P (xs : List Int) (lo : Int) (hi : Int) : Prop :=
  (PC Try.prog 96 [.sl (.ints xs), .fn 201 [.bx [.int .i64 lo] 0, .bx [.int .i64 hi] 0]] (.one (.d (.bool (xs.any (fun x => !(inB x lo hi))))))) ∧ (((!(xs.any (fun x => !(inB x lo hi)))) = (xs.all (fun x => inB x lo hi))))
theorem i_areBetween_vc (xs : List Int) (lo : Int) (hi : Int)  (w_xs : (xs.length : Int) ≤ 9223372036854775807) : i_areBetween_P xs lo hi := by
  unfold i_areBetween_P
  refine ⟨slices_ContainsFunc_int_int_aB_pc xs lo hi, ?_⟩
  · exact any_not _ _
theorem i_areBetween_pc (xs : List Int) (lo : Int) (hi : Int)  : PC Try.prog 162 [.sl (.ints xs), .int .i64 lo, .int .i64 hi] (.one (.d (.bool (xs.all (fun x => inB x lo hi))))) :=
  pc_wf @Try.call162 fun hw => pc_by (by kernel_rfl) Try.func162 @Try.call162 (by kernel_rfl) i_areBetween_C (i_areBetween_A xs lo hi) (by kernel_rfl) (i_areBetween_vc xs lo hi hw.1) (by kernel_rfl)
def i_areBetween_orc : List D → Orc := orcN [some .ints, none, none] fun ds => match ds with
  | [.sl (.ints xs), .int .i64 lo, .int .i64 hi] => some (.one (.d (.bool (xs.all (fun x => inB x lo hi)))))
  | _ => none
abbrev l_toIntS_JJ0 (xs : List Int) (out : List Int) (i : Int) : Prop := (0 ≤ i) ∧ (i ≤ (xs.length : Int)) ∧ (out = xs.take i.toNat ++ (List.replicate xs.length 0).drop i.toNat)
abbrev l_toIntS_mJ0 (xs : List Int) (out : List Int) (i : Int) : Nat := (xs.length - i).toNat
def l_toIntS_C (f : FuncId) (ds : List D) : Orc := .no
def l_toIntS_A (xs : List Int) : Ann := .two (.none) (.two (.none) (.two (.two (.none) (.loop (cut2 (fun (out : List Int) (i : Int) => l_toIntS_JJ0 xs out i) (fun (out : List Int) (i : Int) => [(0, .d false (.sl (.ints xs))), (3, .own 7 out.length), (4, .d true (.int .i64 i))]) (fun (out : List Int) (i : Int) => [(7, .arr true 3 (.ints out))])) (fun g => l_toIntS_mJ0 xs g.1 g.2) (fun _ => .none))) (.none)))
def l_toIntS_P (xs : List Int) : Prop :=
  ((xs.length : Int) = (xs.length : Int)) ∧ ((0 : Int) ≤ (xs.length : Int)) ∧ (((xs.length : Int) : Int) * ((8 : Nat) : Int) ≤ 140737488355328) ∧ ((∃ out' : List Int, ∃ i' : Int, (l_toIntS_JJ0 xs out' i') ∧ (xs = xs) ∧ ((xs.length : Int).toNat = out'.length) ∧ ((0 : Int) = i') ∧ ((List.replicate ((xs.length : Int).toNat) (0 : Int)) = out')) ∧ (∀ out : List Int, ∀ i : Int, (l_toIntS_JJ0 xs out i) → (((decide (i < (xs.length : Int))) = true → ((0 : Int) ≤ i) ∧ ((i : Int) < xs.length) ∧ (i.toNat < xs.length) ∧ ((0 : Int) ≤ i) ∧ ((i : Int) < (out.length : Int)) ∧ (i.toNat < out.length) ∧ (-9223372036854775808 ≤ (i + 1) ∧ (i + 1) ≤ 9223372036854775807) ∧ (∃ out' : List Int, ∃ i' : Int, (l_toIntS_JJ0 xs out' i') ∧ (l_toIntS_mJ0 xs out' i' < l_toIntS_mJ0 xs out i) ∧ (xs = xs) ∧ (out.length = out'.length) ∧ ((i + 1) = i') ∧ ((out.set i.toNat (xs.getD i.toNat 0)) = out'))) ∧ ((decide (i < (xs.length : Int))) = false → ((out.length = out.length) ∧ ((out : List Int) = xs))))))
theorem l_toIntS_vc (xs : List Int) (hn : xs.length ≤ 1048576) (w_xs : (xs.length : Int) ≤ 9223372036854775807) : l_toIntS_P xs := by
  unfold l_toIntS_P
  refine ⟨rfl, ?_, ?_, ?_, ?_⟩
  · first | omega | rfl | (intro hg; simp only [nrmT] at hg; omega) | (intro g1 g2; simp [g1, g2]; done) | (intro g1; simp at g1 ⊢; simp [g1]; done) | (simp only [nrmT] at *; omega) | (simp at * <;> omega) | (simp_all <;> omega) | (simp_all; done)
  · first | omega | rfl | (intro hg; simp only [nrmT] at hg; omega) | (intro g1 g2; simp [g1, g2]; done) | (intro g1; simp at g1 ⊢; simp [g1]; done) | (simp only [nrmT] at *; omega) | (simp at * <;> omega) | (simp_all <;> omega) | (simp_all; done)
  · refine ⟨(List.replicate ((xs.length : Int).toNat) (0 : Int)), 0, ?_⟩
    refine ⟨?_, rfl, ?_, rfl, rfl⟩
    · refine ⟨?_, ?_, ?_⟩
      · first | omega | rfl | (intro hg; simp only [nrmT] at hg; omega) | (intro g1 g2; simp [g1, g2]; done) | (intro g1; simp at g1 ⊢; simp [g1]; done) | (simp only [nrmT] at *; omega) | (simp at * <;> omega) | (simp_all <;> omega) | (simp_all; done)
      · first | omega | rfl | (intro hg; simp only [nrmT] at hg; omega) | (intro g1 g2; simp [g1, g2]; done) | (intro g1; simp at g1 ⊢; simp [g1]; done) | (simp only [nrmT] at *; omega) | (simp at * <;> omega) | (simp_all <;> omega) | (simp_all; done)
      · simp
    · simp
  · intro out i hJ
    obtain ⟨h1, h2, h3⟩ := hJ
    refine ⟨?_, ?_⟩
    · intro b1
      try simp only [nrmT] at b1
      refine ⟨?_, ?_, ?_, ?_, ?_, ?_, ?_, ?_⟩
      · first | omega | rfl | (intro hg; simp only [nrmT] at hg; omega) | (intro g1 g2; simp [g1, g2]; done) | (intro g1; simp at g1 ⊢; simp [g1]; done) | (simp only [nrmT] at *; omega) | (simp at * <;> omega) | (simp_all <;> omega) | (simp_all; done)
      · first | omega | rfl | (intro hg; simp only [nrmT] at hg; omega) | (intro g1 g2; simp [g1, g2]; done) | (intro g1; simp at g1 ⊢; simp [g1]; done) | (simp only [nrmT] at *; omega) | (simp at * <;> omega) | (simp_all <;> omega) | (simp_all; done)
      · first | omega | rfl | (intro hg; simp only [nrmT] at hg; omega) | (intro g1 g2; simp [g1, g2]; done) | (intro g1; simp at g1 ⊢; simp [g1]; done) | (simp only [nrmT] at *; omega) | (simp at * <;> omega) | (simp_all <;> omega) | (simp_all; done)
      · first | omega | rfl | (intro hg; simp only [nrmT] at hg; omega) | (intro g1 g2; simp [g1, g2]; done) | (intro g1; simp at g1 ⊢; simp [g1]; done) | (simp only [nrmT] at *; omega) | (simp at * <;> omega) | (simp_all <;> omega) | (simp_all; done)
      · have e : out.length = xs.length := by rw [h3]; exact copy_len (by omega) (by simp)
        omega
      · have e : out.length = xs.length := by rw [h3]; exact copy_len (by omega) (by simp)
        omega
      · first | omega | rfl | (intro hg; simp only [nrmT] at hg; omega) | (intro g1 g2; simp [g1, g2]; done) | (intro g1; simp at g1 ⊢; simp [g1]; done) | (simp only [nrmT] at *; omega) | (simp at * <;> omega) | (simp_all <;> omega) | (simp_all; done)
      · refine ⟨(out.set i.toNat (xs.getD i.toNat 0)), (i + 1), ?_⟩
        refine ⟨?_, ?_, rfl, ?_, rfl, rfl⟩
        · refine ⟨?_, ?_, ?_⟩
          · first | omega | rfl | (intro hg; simp only [nrmT] at hg; omega) | (intro g1 g2; simp [g1, g2]; done) | (intro g1; simp at g1 ⊢; simp [g1]; done) | (simp only [nrmT] at *; omega) | (simp at * <;> omega) | (simp_all <;> omega) | (simp_all; done)
          · first | omega | rfl | (intro hg; simp only [nrmT] at hg; omega) | (intro g1 g2; simp [g1, g2]; done) | (intro g1; simp at g1 ⊢; simp [g1]; done) | (simp only [nrmT] at *; omega) | (simp at * <;> omega) | (simp_all <;> omega) | (simp_all; done)
          · rw [h3]; exact copy_step h1 b1 (by simp)
        · first | (show _ < _; omega) | (simp only [l_toIntS_mJ0]; omega) | (simp only [l_toIntS_mJ0] at *; simp at *; omega)
        · simp
    · intro b2
      try simp only [nrmT] at b2
      refine ⟨rfl, ?_⟩
      · rw [h3, take_all (by omega)]; simp; omega
theorem l_toIntS_pc (xs : List Int) (hn : xs.length ≤ 1048576) : PC Try.prog 38 [.sl (.ints xs)] (.one (.d (.sl (.ints xs)))) :=
  pc_wf @Try.call38 fun hw => pc_by (by kernel_rfl) Try.func38 @Try.call38 (by kernel_rfl) l_toIntS_C (l_toIntS_A xs) (by kernel_rfl) (l_toIntS_vc xs hn hw.1) (by kernel_rfl)
def l_toIntS_orc : List D → Orc := orcN [some .ints] fun ds => match ds with
  | [.sl (.ints xs)] => some (.one (.d (.sl (.ints xs))))
  | _ => none
abbrev l_toIntSS_JJ0 (xss : List (List Int)) (out : List (List Int)) (i : Int) : Prop := (0 ≤ i) ∧ (i ≤ (xss.length : Int)) ∧ (out = xss.take i.toNat ++ (List.replicate xss.length []).drop i.toNat)
abbrev l_toIntSS_mJ0 (xss : List (List Int)) (out : List (List Int)) (i : Int) : Nat := (xss.length - i).toNat
def l_toIntSS_C (f : FuncId) (ds : List D) : Orc := bif Nat.beq f 38 then l_toIntS_orc ds else .no
def l_toIntSS_A (xss : List (List Int)) : Ann := .two (.none) (.two (.none) (.two (.two (.none) (.loop (cut2 (fun (out : List (List Int)) (i : Int) => l_toIntSS_JJ0 xss out i) (fun (out : List (List Int)) (i : Int) => [(0, .d false (.sl (.rows xss))), (3, .own 7 out.length), (4, .d true (.int .i64 i))]) (fun (out : List (List Int)) (i : Int) => [(7, .arr true 26 (.rows out))])) (fun g => l_toIntSS_mJ0 xss g.1 g.2) (fun _ => .none))) (.none)))
def l_toIntSS_P (xss : List (List Int)) : Prop :=
  ((xss.length : Int) = (xss.length : Int)) ∧ ((0 : Int) ≤ (xss.length : Int)) ∧ (((xss.length : Int) : Int) * ((24 : Nat) : Int) ≤ 140737488355328) ∧ ((∃ out' : List (List Int), ∃ i' : Int, (l_toIntSS_JJ0 xss out' i') ∧ (xss = xss) ∧ ((xss.length : Int).toNat = out'.length) ∧ ((0 : Int) = i') ∧ ((List.replicate ((xss.length : Int).toNat) ([] : List Int)) = out')) ∧ (∀ out : List (List Int), ∀ i : Int, (l_toIntSS_JJ0 xss out i) → (((decide (i < (xss.length : Int))) = true → ((0 : Int) ≤ i) ∧ ((i : Int) < xss.length) ∧ (i.toNat < xss.length) ∧ (PC Try.prog 38 [.sl (.ints (xss.getD i.toNat []))] (.one (.d (.sl (.ints (xss.getD i.toNat [])))))) ∧ ((0 : Int) ≤ i) ∧ ((i : Int) < (out.length : Int)) ∧ (i.toNat < out.length) ∧ (-9223372036854775808 ≤ (i + 1) ∧ (i + 1) ≤ 9223372036854775807) ∧ (∃ out' : List (List Int), ∃ i' : Int, (l_toIntSS_JJ0 xss out' i') ∧ (l_toIntSS_mJ0 xss out' i' < l_toIntSS_mJ0 xss out i) ∧ (xss = xss) ∧ (out.length = out'.length) ∧ ((i + 1) = i') ∧ ((out.set i.toNat (xss.getD i.toNat [])) = out'))) ∧ ((decide (i < (xss.length : Int))) = false → ((out.length = out.length) ∧ ((out : List (List Int)) = xss))))))
theorem l_toIntSS_vc (xss : List (List Int)) (hn : xss.length ≤ 1048576) (hm : ∀ xs ∈ xss, xs.length ≤ 1048576) (w_xss : (xss.length : Int) ≤ 9223372036854775807) (v_xss : ∀ x9 ∈ xss, (x9.length : Int) ≤ 9223372036854775807) : l_toIntSS_P xss := by
  unfold l_toIntSS_P
  refine ⟨rfl, ?_, ?_, ?_, ?_⟩
  · first | omega | rfl | (intro hg; simp only [nrmT] at hg; omega) | (intro g1 g2; simp [g1, g2]; done) | (intro g1; simp at g1 ⊢; simp [g1]; done) | (simp only [nrmT] at *; omega) | (simp at * <;> omega) | (simp_all <;> omega) | (simp_all; done)
  · first | omega | rfl | (intro hg; simp only [nrmT] at hg; omega) | (intro g1 g2; simp [g1, g2]; done) | (intro g1; simp at g1 ⊢; simp [g1]; done) | (simp only [nrmT] at *; omega) | (simp at * <;> omega) | (simp_all <;> omega) | (simp_all; done)
  · refine ⟨(List.replicate ((xss.length : Int).toNat) ([] : List Int)), 0, ?_⟩
    refine ⟨?_, rfl, ?_, rfl, rfl⟩
    · refine ⟨?_, ?_, ?_⟩
      · first | omega | rfl | (intro hg; simp only [nrmT] at hg; omega) | (intro g1 g2; simp [g1, g2]; done) | (intro g1; simp at g1 ⊢; simp [g1]; done) | (simp only [nrmT] at *; omega) | (simp at * <;> omega) | (simp_all <;> omega) | (simp_all; done)
      · first | omega | rfl | (intro hg; simp only [nrmT] at hg; omega) | (intro g1 g2; simp [g1, g2]; done) | (intro g1; simp at g1 ⊢; simp [g1]; done) | (simp only [nrmT] at *; omega) | (simp at * <;> omega) | (simp_all <;> omega) | (simp_all; done)
      · simp
    · simp
  · intro out i hJ
    obtain ⟨h1, h2, h3⟩ := hJ
    refine ⟨?_, ?_⟩
    · intro b1
      try simp only [nrmT] at b1
      refine ⟨?_, ?_, ?_, ?_, ?_, ?_, ?_, ?_, ?_⟩
      · first | omega | rfl | (intro hg; simp only [nrmT] at hg; omega) | (intro g1 g2; simp [g1, g2]; done) | (intro g1; simp at g1 ⊢; simp [g1]; done) | (simp only [nrmT] at *; omega) | (simp at * <;> omega) | (simp_all <;> omega) | (simp_all; done)
      · first | omega | rfl | (intro hg; simp only [nrmT] at hg; omega) | (intro g1 g2; simp [g1, g2]; done) | (intro g1; simp at g1 ⊢; simp [g1]; done) | (simp only [nrmT] at *; omega) | (simp at * <;> omega) | (simp_all <;> omega) | (simp_all; done)
      · first | omega | rfl | (intro hg; simp only [nrmT] at hg; omega) | (intro g1 g2; simp [g1, g2]; done) | (intro g1; simp at g1 ⊢; simp [g1]; done) | (simp only [nrmT] at *; omega) | (simp at * <;> omega) | (simp_all <;> omega) | (simp_all; done)
      · refine l_toIntS_pc (xss.getD i.toNat []) ?_
        · exact hm _ (getD_memI h1 b1)
      · first | omega | rfl | (intro hg; simp only [nrmT] at hg; omega) | (intro g1 g2; simp [g1, g2]; done) | (intro g1; simp at g1 ⊢; simp [g1]; done) | (simp only [nrmT] at *; omega) | (simp at * <;> omega) | (simp_all <;> omega) | (simp_all; done)
      · have e : out.length = xss.length := by rw [h3]; exact copy_len (by omega) (by simp)
        omega
      · have e : out.length = xss.length := by rw [h3]; exact copy_len (by omega) (by simp)
        omega
      · first | omega | rfl | (intro hg; simp only [nrmT] at hg; omega) | (intro g1 g2; simp [g1, g2]; done) | (intro g1; simp at g1 ⊢; simp [g1]; done) | (simp only [nrmT] at *; omega) | (simp at * <;> omega) | (simp_all <;> omega) | (simp_all; done)
      · refine ⟨(out.set i.toNat (xss.getD i.toNat [])), (i + 1), ?_⟩
        refine ⟨?_, ?_, rfl, ?_, rfl, rfl⟩
        · refine ⟨?_, ?_, ?_⟩
          · first | omega | rfl | (intro hg; simp only [nrmT] at hg; omega) | (intro g1 g2; simp [g1, g2]; done) | (intro g1; simp at g1 ⊢; simp [g1]; done) | (simp only [nrmT] at *; omega) | (simp at * <;> omega) | (simp_all <;> omega) | (simp_all; done)
          · first | omega | rfl | (intro hg; simp only [nrmT] at hg; omega) | (intro g1 g2; simp [g1, g2]; done) | (intro g1; simp at g1 ⊢; simp [g1]; done) | (simp only [nrmT] at *; omega) | (simp at * <;> omega) | (simp_all <;> omega) | (simp_all; done)
          · rw [h3]; exact copy_step h1 b1 (by simp)
        · first | (show _ < _; omega) | (simp only [l_toIntSS_mJ0]; omega) | (simp only [l_toIntSS_mJ0] at *; simp at *; omega)
        · simp
    · intro b2
      try simp only [nrmT] at b2
      refine ⟨rfl, ?_⟩
      · rw [h3, take_all (by omega)]; simp; omega
theorem l_toIntSS_pc (xss : List (List Int)) (hn : xss.length ≤ 1048576) (hm : ∀ xs ∈ xss, xs.length ≤ 1048576) : PC Try.prog 67 [.sl (.rows xss)] (.one (.d (.sl (.rows xss)))) :=
  pc_wf @Try.call67 fun hw => pc_by (by kernel_rfl) Try.func67 @Try.call67 (by kernel_rfl) l_toIntSS_C (l_toIntSS_A xss) (by kernel_rfl) (l_toIntSS_vc xss hn hm hw.1.1 hw.1.2) (by kernel_rfl)
def l_toIntSS_orc : List D → Orc := orcN [some .rows] fun ds => match ds with
  | [.sl (.rows xss)] => some (.one (.d (.sl (.rows xss))))
  | _ => none
theorem beq_of_all {α : Type} [BEq α] [LawfulBEq α] {d : α} {xs ys : List α} (hl : xs.length = ys.length) : allTo (fun k => xs.getD k d == ys.getD k d) xs.length = (xs == ys) := by
  rw [Bool.eq_iff_iff, allTo_iff]
  simp only [beq_iff_eq]
  constructor
  · intro h
    refine List.ext_getElem hl fun k h1 h2 => ?_
    have := h k h1
    simpa [h1, h2] using this
  · intro h k _
    rw [h]
theorem len_ne {α : Type} [BEq α] [LawfulBEq α] {xs ys : List α} (h : ¬ xs.length = ys.length) : (xs == ys) = false := by
  rw [Bool.eq_false_iff]; intro h2; simp only [beq_iff_eq] at h2; exact h (by rw [h2])
abbrev l_eqIntS_JJ0 (xs : List Int) (ys : List Int) (i : Int) : Prop := (0 ≤ i) ∧ (i ≤ (xs.length : Int)) ∧ (allTo (fun k => xs.getD k 0 == ys.getD k 0) i.toNat = true) ∧ (xs.length = ys.length)
abbrev l_eqIntS_mJ0 (xs : List Int) (ys : List Int) (i : Int) : Nat := (xs.length - i).toNat
def l_eqIntS_C (f : FuncId) (ds : List D) : Orc := .no
def l_eqIntS_A (xs : List Int) (ys : List Int) : Ann := .two (.none) (.two (.none) (.two (.two (.none) (.loop (cut1 (fun (i : Int) => l_eqIntS_JJ0 xs ys i) (fun (i : Int) => [(0, .d false (.sl (.ints xs))), (1, .d false (.sl (.ints ys))), (5, .d true (.int .i64 i))]) (fun (i : Int) => [])) (fun g => l_eqIntS_mJ0 xs ys g) (fun _ => .none))) (.none)))
def l_eqIntS_P (xs : List Int) (ys : List Int) : Prop :=
  ((((xs.length : Int) != (ys.length : Int)) = true → ((false = (xs == ys)))) ∧ (((xs.length : Int) != (ys.length : Int)) = false → ((∃ i' : Int, (l_eqIntS_JJ0 xs ys i') ∧ (xs = xs) ∧ (ys = ys) ∧ ((0 : Int) = i')) ∧ (∀ i : Int, (l_eqIntS_JJ0 xs ys i) → (((decide (i < (xs.length : Int))) = true → (true = true) ∧ ((0 : Int) ≤ i) ∧ ((i : Int) < xs.length) ∧ (i.toNat < xs.length) ∧ ((0 : Int) ≤ i) ∧ ((i : Int) < ys.length) ∧ (i.toNat < ys.length) ∧ ((((xs.getD i.toNat 0) != (ys.getD i.toNat 0)) = true → ((false = (xs == ys)))) ∧ (((xs.getD i.toNat 0) != (ys.getD i.toNat 0)) = false → (-9223372036854775808 ≤ (i + 1) ∧ (i + 1) ≤ 9223372036854775807) ∧ (∃ i' : Int, (l_eqIntS_JJ0 xs ys i') ∧ (l_eqIntS_mJ0 xs ys i' < l_eqIntS_mJ0 xs ys i) ∧ (xs = xs) ∧ (ys = ys) ∧ ((i + 1) = i'))))) ∧ ((decide (i < (xs.length : Int))) = false → ((true = (xs == ys)))))))))
theorem l_eqIntS_vc (xs : List Int) (ys : List Int)  (w_xs : (xs.length : Int) ≤ 9223372036854775807) (w_ys : (ys.length : Int) ≤ 9223372036854775807) : l_eqIntS_P xs ys := by
  unfold l_eqIntS_P
  refine ⟨?_, ?_⟩
  · intro b1
    try simp only [nrmT] at b1
    exact (len_ne (by omega)).symm
  · intro b2
    try simp only [nrmT] at b2
    refine ⟨?_, ?_⟩
    · refine ⟨0, ?_⟩
      refine ⟨?_, rfl, rfl, rfl⟩
      · refine ⟨?_, ?_, ?_, ?_⟩
        · first | omega | rfl | (intro hg; simp only [nrmT] at hg; omega) | (intro g1 g2; simp [g1, g2]; done) | (intro g1; simp at g1 ⊢; simp [g1]; done) | (simp only [nrmT] at *; omega) | (simp at * <;> omega) | (simp_all <;> omega) | (simp_all; done)
        · first | omega | rfl | (intro hg; simp only [nrmT] at hg; omega) | (intro g1 g2; simp [g1, g2]; done) | (intro g1; simp at g1 ⊢; simp [g1]; done) | (simp only [nrmT] at *; omega) | (simp at * <;> omega) | (simp_all <;> omega) | (simp_all; done)
        · first | omega | rfl | (intro hg; simp only [nrmT] at hg; omega) | (intro g1 g2; simp [g1, g2]; done) | (intro g1; simp at g1 ⊢; simp [g1]; done) | (simp only [nrmT] at *; omega) | (simp at * <;> omega) | (simp_all <;> omega) | (simp_all; done)
        · first | omega | rfl | (intro hg; simp only [nrmT] at hg; omega) | (intro g1 g2; simp [g1, g2]; done) | (intro g1; simp at g1 ⊢; simp [g1]; done) | (simp only [nrmT] at *; omega) | (simp at * <;> omega) | (simp_all <;> omega) | (simp_all; done)
    · intro i hJ
      obtain ⟨h1, h2, h3, h4⟩ := hJ
      refine ⟨?_, ?_⟩
      · intro b3
        try simp only [nrmT] at b3
        refine ⟨rfl, ?_, ?_, ?_, ?_, ?_, ?_, ?_, ?_⟩
        · first | omega | rfl | (intro hg; simp only [nrmT] at hg; omega) | (intro g1 g2; simp [g1, g2]; done) | (intro g1; simp at g1 ⊢; simp [g1]; done) | (simp only [nrmT] at *; omega) | (simp at * <;> omega) | (simp_all <;> omega) | (simp_all; done)
        · first | omega | rfl | (intro hg; simp only [nrmT] at hg; omega) | (intro g1 g2; simp [g1, g2]; done) | (intro g1; simp at g1 ⊢; simp [g1]; done) | (simp only [nrmT] at *; omega) | (simp at * <;> omega) | (simp_all <;> omega) | (simp_all; done)
        · first | omega | rfl | (intro hg; simp only [nrmT] at hg; omega) | (intro g1 g2; simp [g1, g2]; done) | (intro g1; simp at g1 ⊢; simp [g1]; done) | (simp only [nrmT] at *; omega) | (simp at * <;> omega) | (simp_all <;> omega) | (simp_all; done)
        · first | omega | rfl | (intro hg; simp only [nrmT] at hg; omega) | (intro g1 g2; simp [g1, g2]; done) | (intro g1; simp at g1 ⊢; simp [g1]; done) | (simp only [nrmT] at *; omega) | (simp at * <;> omega) | (simp_all <;> omega) | (simp_all; done)
        · first | omega | rfl | (intro hg; simp only [nrmT] at hg; omega) | (intro g1 g2; simp [g1, g2]; done) | (intro g1; simp at g1 ⊢; simp [g1]; done) | (simp only [nrmT] at *; omega) | (simp at * <;> omega) | (simp_all <;> omega) | (simp_all; done)
        · first | omega | rfl | (intro hg; simp only [nrmT] at hg; omega) | (intro g1 g2; simp [g1, g2]; done) | (intro g1; simp at g1 ⊢; simp [g1]; done) | (simp only [nrmT] at *; omega) | (simp at * <;> omega) | (simp_all <;> omega) | (simp_all; done)
        · intro b4
          try simp only [nrmT] at b4
          rw [← beq_of_all (d := 0) h4]; exact (allTo_falseI h1 (by omega) (by simpa using b4)).symm
        · intro b5
          try simp only [nrmT] at b5
          refine ⟨?_, ?_⟩
          · first | omega | rfl | (intro hg; simp only [nrmT] at hg; omega) | (intro g1 g2; simp [g1, g2]; done) | (intro g1; simp at g1 ⊢; simp [g1]; done) | (simp only [nrmT] at *; omega) | (simp at * <;> omega) | (simp_all <;> omega) | (simp_all; done)
          · refine ⟨(i + 1), ?_⟩
            refine ⟨?_, ?_, rfl, rfl, rfl⟩
            · refine ⟨?_, ?_, ?_, ?_⟩
              · first | omega | rfl | (intro hg; simp only [nrmT] at hg; omega) | (intro g1 g2; simp [g1, g2]; done) | (intro g1; simp at g1 ⊢; simp [g1]; done) | (simp only [nrmT] at *; omega) | (simp at * <;> omega) | (simp_all <;> omega) | (simp_all; done)
              · first | omega | rfl | (intro hg; simp only [nrmT] at hg; omega) | (intro g1 g2; simp [g1, g2]; done) | (intro g1; simp at g1 ⊢; simp [g1]; done) | (simp only [nrmT] at *; omega) | (simp at * <;> omega) | (simp_all <;> omega) | (simp_all; done)
              · exact allTo_step h1 h3 (by simpa using b5)
              · first | omega | rfl | (intro hg; simp only [nrmT] at hg; omega) | (intro g1 g2; simp [g1, g2]; done) | (intro g1; simp at g1 ⊢; simp [g1]; done) | (simp only [nrmT] at *; omega) | (simp at * <;> omega) | (simp_all <;> omega) | (simp_all; done)
            · first | (show _ < _; omega) | (simp only [l_eqIntS_mJ0]; omega) | (simp only [l_eqIntS_mJ0] at *; simp at *; omega)
      · intro b6
        try simp only [nrmT] at b6
        rw [← beq_of_all (d := 0) h4, ← h3]; congr 1; omega
theorem l_eqIntS_pc (xs : List Int) (ys : List Int)  : PC Try.prog 32 [.sl (.ints xs), .sl (.ints ys)] (.one (.d (.bool (xs == ys)))) :=
  pc_wf @Try.call32 fun hw => pc_by (by kernel_rfl) Try.func32 @Try.call32 (by kernel_rfl) l_eqIntS_C (l_eqIntS_A xs ys) (by kernel_rfl) (l_eqIntS_vc xs ys hw.1 hw.2.1) (by kernel_rfl)
def l_eqIntS_orc : List D → Orc := orcN [some .ints, some .ints] fun ds => match ds with
  | [.sl (.ints xs), .sl (.ints ys)] => some (.one (.d (.bool (xs == ys))))
  | _ => none
abbrev l_eqIntSS_JJ0 (xs : List (List Int)) (ys : List (List Int)) (i : Int) : Prop := (0 ≤ i) ∧ (i ≤ (xs.length : Int)) ∧ (allTo (fun k => xs.getD k [] == ys.getD k []) i.toNat = true) ∧ (xs.length = ys.length)
abbrev l_eqIntSS_mJ0 (xs : List (List Int)) (ys : List (List Int)) (i : Int) : Nat := (xs.length - i).toNat
def l_eqIntSS_C (f : FuncId) (ds : List D) : Orc := bif Nat.beq f 32 then l_eqIntS_orc ds else .no
def l_eqIntSS_A (xs : List (List Int)) (ys : List (List Int)) : Ann := .two (.none) (.two (.none) (.two (.two (.none) (.loop (cut1 (fun (i : Int) => l_eqIntSS_JJ0 xs ys i) (fun (i : Int) => [(0, .d false (.sl (.rows xs))), (1, .d false (.sl (.rows ys))), (5, .d true (.int .i64 i))]) (fun (i : Int) => [])) (fun g => l_eqIntSS_mJ0 xs ys g) (fun _ => .none))) (.none)))
def l_eqIntSS_P (xs : List (List Int)) (ys : List (List Int)) : Prop :=
  ((((xs.length : Int) != (ys.length : Int)) = true → ((false = (xs == ys)))) ∧ (((xs.length : Int) != (ys.length : Int)) = false → ((∃ i' : Int, (l_eqIntSS_JJ0 xs ys i') ∧ (xs = xs) ∧ (ys = ys) ∧ ((0 : Int) = i')) ∧ (∀ i : Int, (l_eqIntSS_JJ0 xs ys i) → (((decide (i < (xs.length : Int))) = true → (true = true) ∧ ((0 : Int) ≤ i) ∧ ((i : Int) < xs.length) ∧ (i.toNat < xs.length) ∧ ((0 : Int) ≤ i) ∧ ((i : Int) < ys.length) ∧ (i.toNat < ys.length) ∧ (PC Try.prog 32 [.sl (.ints (xs.getD i.toNat [])), .sl (.ints (ys.getD i.toNat []))] (.one (.d (.bool ((xs.getD i.toNat []) == (ys.getD i.toNat [])))))) ∧ (((!((xs.getD i.toNat []) == (ys.getD i.toNat []))) = true → ((false = (xs == ys)))) ∧ ((!((xs.getD i.toNat []) == (ys.getD i.toNat []))) = false → (-9223372036854775808 ≤ (i + 1) ∧ (i + 1) ≤ 9223372036854775807) ∧ (∃ i' : Int, (l_eqIntSS_JJ0 xs ys i') ∧ (l_eqIntSS_mJ0 xs ys i' < l_eqIntSS_mJ0 xs ys i) ∧ (xs = xs) ∧ (ys = ys) ∧ ((i + 1) = i'))))) ∧ ((decide (i < (xs.length : Int))) = false → ((true = (xs == ys)))))))))
theorem l_eqIntSS_vc (xs : List (List Int)) (ys : List (List Int))  (w_xs : (xs.length : Int) ≤ 9223372036854775807) (v_xs : ∀ x9 ∈ xs, (x9.length : Int) ≤ 9223372036854775807) (w_ys : (ys.length : Int) ≤ 9223372036854775807) (v_ys : ∀ x9 ∈ ys, (x9.length : Int) ≤ 9223372036854775807) : l_eqIntSS_P xs ys := by
  unfold l_eqIntSS_P
  refine ⟨?_, ?_⟩
  · intro b1
    try simp only [nrmT] at b1
    exact (len_ne (by omega)).symm
  · intro b2
    try simp only [nrmT] at b2
    refine ⟨?_, ?_⟩
    · refine ⟨0, ?_⟩
      refine ⟨?_, rfl, rfl, rfl⟩
      · refine ⟨?_, ?_, ?_, ?_⟩
        · first | omega | rfl | (intro hg; simp only [nrmT] at hg; omega) | (intro g1 g2; simp [g1, g2]; done) | (intro g1; simp at g1 ⊢; simp [g1]; done) | (simp only [nrmT] at *; omega) | (simp at * <;> omega) | (simp_all <;> omega) | (simp_all; done)
        · first | omega | rfl | (intro hg; simp only [nrmT] at hg; omega) | (intro g1 g2; simp [g1, g2]; done) | (intro g1; simp at g1 ⊢; simp [g1]; done) | (simp only [nrmT] at *; omega) | (simp at * <;> omega) | (simp_all <;> omega) | (simp_all; done)
        · first | omega | rfl | (intro hg; simp only [nrmT] at hg; omega) | (intro g1 g2; simp [g1, g2]; done) | (intro g1; simp at g1 ⊢; simp [g1]; done) | (simp only [nrmT] at *; omega) | (simp at * <;> omega) | (simp_all <;> omega) | (simp_all; done)
        · first | omega | rfl | (intro hg; simp only [nrmT] at hg; omega) | (intro g1 g2; simp [g1, g2]; done) | (intro g1; simp at g1 ⊢; simp [g1]; done) | (simp only [nrmT] at *; omega) | (simp at * <;> omega) | (simp_all <;> omega) | (simp_all; done)
    · intro i hJ
      obtain ⟨h1, h2, h3, h4⟩ := hJ
      refine ⟨?_, ?_⟩
      · intro b3
        try simp only [nrmT] at b3
        refine ⟨rfl, ?_, ?_, ?_, ?_, ?_, ?_, l_eqIntS_pc (xs.getD i.toNat []) (ys.getD i.toNat []), ?_, ?_⟩
        · first | omega | rfl | (intro hg; simp only [nrmT] at hg; omega) | (intro g1 g2; simp [g1, g2]; done) | (intro g1; simp at g1 ⊢; simp [g1]; done) | (simp only [nrmT] at *; omega) | (simp at * <;> omega) | (simp_all <;> omega) | (simp_all; done)
        · first | omega | rfl | (intro hg; simp only [nrmT] at hg; omega) | (intro g1 g2; simp [g1, g2]; done) | (intro g1; simp at g1 ⊢; simp [g1]; done) | (simp only [nrmT] at *; omega) | (simp at * <;> omega) | (simp_all <;> omega) | (simp_all; done)
        · first | omega | rfl | (intro hg; simp only [nrmT] at hg; omega) | (intro g1 g2; simp [g1, g2]; done) | (intro g1; simp at g1 ⊢; simp [g1]; done) | (simp only [nrmT] at *; omega) | (simp at * <;> omega) | (simp_all <;> omega) | (simp_all; done)
        · first | omega | rfl | (intro hg; simp only [nrmT] at hg; omega) | (intro g1 g2; simp [g1, g2]; done) | (intro g1; simp at g1 ⊢; simp [g1]; done) | (simp only [nrmT] at *; omega) | (simp at * <;> omega) | (simp_all <;> omega) | (simp_all; done)
        · first | omega | rfl | (intro hg; simp only [nrmT] at hg; omega) | (intro g1 g2; simp [g1, g2]; done) | (intro g1; simp at g1 ⊢; simp [g1]; done) | (simp only [nrmT] at *; omega) | (simp at * <;> omega) | (simp_all <;> omega) | (simp_all; done)
        · first | omega | rfl | (intro hg; simp only [nrmT] at hg; omega) | (intro g1 g2; simp [g1, g2]; done) | (intro g1; simp at g1 ⊢; simp [g1]; done) | (simp only [nrmT] at *; omega) | (simp at * <;> omega) | (simp_all <;> omega) | (simp_all; done)
        · intro b4
          try simp only [nrmT] at b4
          rw [← beq_of_all (d := []) h4]; exact (allTo_falseI h1 (by omega) (by simpa using b4)).symm
        · intro b5
          try simp only [nrmT] at b5
          refine ⟨?_, ?_⟩
          · first | omega | rfl | (intro hg; simp only [nrmT] at hg; omega) | (intro g1 g2; simp [g1, g2]; done) | (intro g1; simp at g1 ⊢; simp [g1]; done) | (simp only [nrmT] at *; omega) | (simp at * <;> omega) | (simp_all <;> omega) | (simp_all; done)
          · refine ⟨(i + 1), ?_⟩
            refine ⟨?_, ?_, rfl, rfl, rfl⟩
            · refine ⟨?_, ?_, ?_, ?_⟩
              · first | omega | rfl | (intro hg; simp only [nrmT] at hg; omega) | (intro g1 g2; simp [g1, g2]; done) | (intro g1; simp at g1 ⊢; simp [g1]; done) | (simp only [nrmT] at *; omega) | (simp at * <;> omega) | (simp_all <;> omega) | (simp_all; done)
              · first | omega | rfl | (intro hg; simp only [nrmT] at hg; omega) | (intro g1 g2; simp [g1, g2]; done) | (intro g1; simp at g1 ⊢; simp [g1]; done) | (simp only [nrmT] at *; omega) | (simp at * <;> omega) | (simp_all <;> omega) | (simp_all; done)
              · exact allTo_step h1 h3 (by simpa using b5)
              · first | omega | rfl | (intro hg; simp only [nrmT] at hg; omega) | (intro g1 g2; simp [g1, g2]; done) | (intro g1; simp at g1 ⊢; simp [g1]; done) | (simp only [nrmT] at *; omega) | (simp at * <;> omega) | (simp_all <;> omega) | (simp_all; done)
            · first | (show _ < _; omega) | (simp only [l_eqIntSS_mJ0]; omega) | (simp only [l_eqIntSS_mJ0] at *; simp at *; omega)
      · intro b6
        try simp only [nrmT] at b6
        rw [← beq_of_all (d := []) h4, ← h3]; congr 1; omega
theorem l_eqIntSS_pc (xs : List (List Int)) (ys : List (List Int))  : PC Try.prog 69 [.sl (.rows xs), .sl (.rows ys)] (.one (.d (.bool (xs == ys)))) :=
  pc_wf @Try.call69 fun hw => pc_by (by kernel_rfl) Try.func69 @Try.call69 (by kernel_rfl) l_eqIntSS_C (l_eqIntSS_A xs ys) (by kernel_rfl) (l_eqIntSS_vc xs ys hw.1.1 hw.1.2 hw.2.1.1 hw.2.1.2) (by kernel_rfl)
def l_eqIntSS_orc : List D → Orc := orcN [some .rows, some .rows] fun ds => match ds with
  | [.sl (.rows xs), .sl (.rows ys)] => some (.one (.d (.bool (xs == ys))))
  | _ => none
def rowOk (row : List Int) (n most : Int) : Bool := row.all (fun x => inB x 0 most) && decide ((row.length : Int) = n)
def goodField (Open : List Int) (Dist : List (List Int)) : Bool :=
  inB (Open.length : Int) 1 7 && Open.all (fun x => inB x 0 99) && decide (Dist.length ≤ 7) && Dist.all (fun l => rowOk l (Open.length : Int) 99)
theorem gf_open {Open : List Int} {Dist : List (List Int)} (h : goodField Open Dist = true) : 1 ≤ Open.length ∧ Open.length ≤ 7 ∧ Dist.length ≤ 7 := by
  simp only [goodField, Bool.and_eq_true, decide_eq_true_eq] at h
  have := inB_le h.1.1.1
  omega
def szField (o : List Int) (d : List (List Int)) (left : Int) : Int := if sz1 o.length left < 0 then -1 else if szRows d (sz1 o.length left) < 0 then -1 else szRows d (sz1 o.length left)
theorem szField_bound {o : List Int} {d : List (List Int)} {left : Int} (h : 0 ≤ szField o d left) : (o.length : Int) ≤ left ∧ (d.length : Int) ≤ left ∧ (∀ xs ∈ d, (xs.length : Int) ≤ left) := by
  unfold szField at h
  by_cases h1 : sz1 o.length left < 0
  · rw [if_pos h1] at h; omega
  · rw [if_neg h1] at h
    obtain ⟨a1, a2⟩ := sz1_bound (by omega : 0 ≤ sz1 o.length left)
    by_cases h2 : szRows d (sz1 o.length left) < 0
    · rw [if_pos h2] at h; omega
    · obtain ⟨b1, b2, b3⟩ := szRows_bound (by omega : 0 ≤ szRows d (sz1 o.length left))
      exact ⟨a2, by omega, fun xs hx => by have := b3 xs hx; omega⟩
def l_szField_C (f : FuncId) (ds : List D) : Orc := bif Nat.beq f 98 then l_szIntS_orc ds else bif Nat.beq f 65 then l_szIntSS_orc ds else .no
def l_szField_A (Open : List Int) (Dist : List (List Int)) (left : Int) : Ann := .none
def l_szField_P (Open : List Int) (Dist : List (List Int)) (left : Int) : Prop :=
  (PC Try.prog 98 [.sl (.ints Open), .int .i64 left] (.one (.d (.int .i64 (sz1 Open.length left))))) ∧ (((decide ((sz1 Open.length left) < 0)) = true → ((((-1) : Int) = (szField Open Dist left)))) ∧ ((decide ((sz1 Open.length left) < 0)) = false → (PC Try.prog 65 [.sl (.rows Dist), .int .i64 (sz1 Open.length left)] (.one (.d (.int .i64 (szRows Dist (sz1 Open.length left)))))) ∧ (((decide ((szRows Dist (sz1 Open.length left)) < 0)) = true → ((((-1) : Int) = (szField Open Dist left)))) ∧ ((decide ((szRows Dist (sz1 Open.length left)) < 0)) = false → (((szRows Dist (sz1 Open.length left)) = (szField Open Dist left)))))))
theorem l_szField_vc (Open : List Int) (Dist : List (List Int)) (left : Int) (hl : 0 ≤ left ∧ left ≤ 1048576) (w_Open : (Open.length : Int) ≤ 9223372036854775807) (w_Dist : (Dist.length : Int) ≤ 9223372036854775807) (v_Dist : ∀ x9 ∈ Dist, (x9.length : Int) ≤ 9223372036854775807) : l_szField_P Open Dist left := by
  unfold l_szField_P
  refine ⟨?_, ?_, ?_⟩
  · refine l_szIntS_pc Open left ?_
    · first | omega | rfl | (intro hg; simp only [nrmT] at hg; omega) | (intro g1 g2; simp [g1, g2]; done) | (intro g1; simp at g1 ⊢; simp [g1]; done) | (simp only [nrmT] at *; omega) | (simp at * <;> omega) | (simp_all <;> omega) | (simp_all; done)
  · intro b1
    try simp only [nrmT] at b1
    unfold szField; first | rw [if_pos (by omega)] | rw [if_neg (by omega), if_pos (by omega)] | rw [if_neg (by omega), if_neg (by omega)]
  · intro b2
    try simp only [nrmT] at b2
    refine ⟨?_, ?_, ?_⟩
    · refine l_szIntSS_pc Dist (sz1 Open.length left) ?_
      · have := sz1_bound (n := Open.length) (left := left) (by omega); omega
    · intro b3
      try simp only [nrmT] at b3
      unfold szField; first | rw [if_pos (by omega)] | rw [if_neg (by omega), if_pos (by omega)] | rw [if_neg (by omega), if_neg (by omega)]
    · intro b4
      try simp only [nrmT] at b4
      unfold szField; first | rw [if_pos (by omega)] | rw [if_neg (by omega), if_pos (by omega)] | rw [if_neg (by omega), if_neg (by omega)]
theorem l_szField_pc (Open : List Int) (Dist : List (List Int)) (left : Int) (hl : 0 ≤ left ∧ left ≤ 1048576) : PC Try.prog 40 [.agg [.sl (.ints Open), .sl (.rows Dist)], .int .i64 left] (.one (.d (.int .i64 (szField Open Dist left)))) :=
  pc_wf @Try.call40 fun hw => pc_by (by kernel_rfl) Try.func40 @Try.call40 (by kernel_rfl) l_szField_C (l_szField_A Open Dist left) (by kernel_rfl) (l_szField_vc Open Dist left hl hw.1.1 hw.1.2.1.1 hw.1.2.1.2) (by kernel_rfl)
def l_szField_orc : List D → Orc := orcN [none, none] fun ds => match ds with
  | [.agg [.sl (.ints Open), .sl (.rows Dist)], .int .i64 left] => some (.one (.d (.int .i64 (szField Open Dist left))))
  | _ => none
def l_toField_C (f : FuncId) (ds : List D) : Orc := bif Nat.beq f 38 then l_toIntS_orc ds else bif Nat.beq f 67 then l_toIntSS_orc ds else .no
def l_toField_A (Open : List Int) (Dist : List (List Int)) : Ann := .none
def l_toField_P (Open : List Int) (Dist : List (List Int)) : Prop :=
  (PC Try.prog 38 [.sl (.ints Open)] (.one (.d (.sl (.ints Open))))) ∧ (PC Try.prog 67 [.sl (.rows Dist)] (.one (.d (.sl (.rows Dist))))) ∧ (((.agg [.sl (.ints Open), .sl (.rows Dist)] : D) = .agg [.sl (.ints Open), .sl (.rows Dist)]))
theorem l_toField_vc (Open : List Int) (Dist : List (List Int)) (h1 : Open.length ≤ 1048576) (h2 : Dist.length ≤ 1048576) (h3 : ∀ xs ∈ Dist, xs.length ≤ 1048576) (w_Open : (Open.length : Int) ≤ 9223372036854775807) (w_Dist : (Dist.length : Int) ≤ 9223372036854775807) (v_Dist : ∀ x9 ∈ Dist, (x9.length : Int) ≤ 9223372036854775807) : l_toField_P Open Dist := by
  unfold l_toField_P
  refine ⟨?_, ?_, rfl⟩
  · refine l_toIntS_pc Open ?_
    · assumption
  · refine l_toIntSS_pc Dist ?_ ?_
    · assumption
    · assumption
theorem l_toField_pc (Open : List Int) (Dist : List (List Int)) (h1 : Open.length ≤ 1048576) (h2 : Dist.length ≤ 1048576) (h3 : ∀ xs ∈ Dist, xs.length ≤ 1048576) : PC Try.prog 42 [.agg [.sl (.ints Open), .sl (.rows Dist)]] (.one (.d (.agg [.sl (.ints Open), .sl (.rows Dist)]))) :=
  pc_wf @Try.call42 fun hw => pc_by (by kernel_rfl) Try.func42 @Try.call42 (by kernel_rfl) l_toField_C (l_toField_A Open Dist) (by kernel_rfl) (l_toField_vc Open Dist h1 h2 h3 hw.1.1 hw.1.2.1.1 hw.1.2.1.2) (by kernel_rfl)
def l_toField_orc : List D → Orc := orcN [none] fun ds => match ds with
  | [.agg [.sl (.ints Open), .sl (.rows Dist)]] => some (.one (.d (.agg [.sl (.ints Open), .sl (.rows Dist)])))
  | _ => none
def l_eqField_C (f : FuncId) (ds : List D) : Orc := bif Nat.beq f 32 then l_eqIntS_orc ds else bif Nat.beq f 69 then l_eqIntSS_orc ds else .no
def l_eqField_A (o1 : List Int) (d1 : List (List Int)) (o2 : List Int) (d2 : List (List Int)) : Ann := .none
def l_eqField_P (o1 : List Int) (d1 : List (List Int)) (o2 : List Int) (d2 : List (List Int)) : Prop :=
  (PC Try.prog 32 [.sl (.ints o1), .sl (.ints o2)] (.one (.d (.bool (o1 == o2))))) ∧ (((!(o1 == o2)) = true → ((false = ((o1 == o2) && (d1 == d2))))) ∧ ((!(o1 == o2)) = false → (PC Try.prog 69 [.sl (.rows d1), .sl (.rows d2)] (.one (.d (.bool (d1 == d2))))) ∧ (((!(d1 == d2)) = true → ((false = ((o1 == o2) && (d1 == d2))))) ∧ ((!(d1 == d2)) = false → ((true = ((o1 == o2) && (d1 == d2))))))))
theorem l_eqField_vc (o1 : List Int) (d1 : List (List Int)) (o2 : List Int) (d2 : List (List Int))  (w_o1 : (o1.length : Int) ≤ 9223372036854775807) (w_d1 : (d1.length : Int) ≤ 9223372036854775807) (v_d1 : ∀ x9 ∈ d1, (x9.length : Int) ≤ 9223372036854775807) (w_o2 : (o2.length : Int) ≤ 9223372036854775807) (w_d2 : (d2.length : Int) ≤ 9223372036854775807) (v_d2 : ∀ x9 ∈ d2, (x9.length : Int) ≤ 9223372036854775807) : l_eqField_P o1 d1 o2 d2 := by
  unfold l_eqField_P
  refine ⟨l_eqIntS_pc o1 o2, ?_, ?_⟩
  · intro b1
    try simp only [nrmT] at b1
    first | omega | rfl | (intro hg; simp only [nrmT] at hg; omega) | (intro g1 g2; simp [g1, g2]; done) | (intro g1; simp at g1 ⊢; simp [g1]; done) | (simp only [nrmT] at *; omega) | (simp at * <;> omega) | (simp_all <;> omega) | (simp_all; done)
  · intro b2
    try simp only [nrmT] at b2
    refine ⟨l_eqIntSS_pc d1 d2, ?_, ?_⟩
    · intro b3
      try simp only [nrmT] at b3
      first | omega | rfl | (intro hg; simp only [nrmT] at hg; omega) | (intro g1 g2; simp [g1, g2]; done) | (intro g1; simp at g1 ⊢; simp [g1]; done) | (simp only [nrmT] at *; omega) | (simp at * <;> omega) | (simp_all <;> omega) | (simp_all; done)
    · intro b4
      try simp only [nrmT] at b4
      first | omega | rfl | (intro hg; simp only [nrmT] at hg; omega) | (intro g1 g2; simp [g1, g2]; done) | (intro g1; simp at g1 ⊢; simp [g1]; done) | (simp only [nrmT] at *; omega) | (simp at * <;> omega) | (simp_all <;> omega) | (simp_all; done)
theorem l_eqField_pc (o1 : List Int) (d1 : List (List Int)) (o2 : List Int) (d2 : List (List Int))  : PC Try.prog 44 [.agg [.sl (.ints o1), .sl (.rows d1)], .agg [.sl (.ints o2), .sl (.rows d2)]] (.one (.d (.bool ((o1 == o2) && (d1 == d2))))) :=
  pc_wf @Try.call44 fun hw => pc_by (by kernel_rfl) Try.func44 @Try.call44 (by kernel_rfl) l_eqField_C (l_eqField_A o1 d1 o2 d2) (by kernel_rfl) (l_eqField_vc o1 d1 o2 d2 hw.1.1 hw.1.2.1.1 hw.1.2.1.2 hw.2.1.1 hw.2.1.2.1.1 hw.2.1.2.1.2) (by kernel_rfl)
def l_eqField_orc : List D → Orc := orcN [none, none] fun ds => match ds with
  | [.agg [.sl (.ints o1), .sl (.rows d1)], .agg [.sl (.ints o2), .sl (.rows d2)]] => some (.one (.d (.bool ((o1 == o2) && (d1 == d2)))))
  | _ => none
abbrev s_l2Row_JJ0 (row : List Int) (n : Int) (most : Int) (i : Int) : Prop := (0 ≤ i) ∧ (i ≤ (row.length : Int)) ∧ (allTo (fun k => inB (row.getD k 0) 0 most) i.toNat = true)
abbrev s_l2Row_mJ0 (row : List Int) (n : Int) (most : Int) (i : Int) : Nat := (row.length - i).toNat
def s_l2Row_C (f : FuncId) (ds : List D) : Orc := bif Nat.beq f 104 then s_l1In_orc ds else .no
def s_l2Row_A (row : List Int) (n : Int) (most : Int) : Ann := .two (.none) (.two (.two (.none) (.loop (cut1 (fun (i : Int) => s_l2Row_JJ0 row n most i) (fun (i : Int) => [(0, .d false (.sl (.ints row))), (1, .d false (.int .i64 n)), (2, .d false (.int .i64 most)), (7, .d true (.int .i64 i))]) (fun (i : Int) => [])) (fun g => s_l2Row_mJ0 row n most g) (fun _ => .none))) (.none))
def s_l2Row_P (row : List Int) (n : Int) (most : Int) : Prop :=
  ((∃ i' : Int, (s_l2Row_JJ0 row n most i') ∧ (row = row) ∧ (n = n) ∧ (most = most) ∧ ((0 : Int) = i')) ∧ (∀ i : Int, (s_l2Row_JJ0 row n most i) → (((decide (i < (row.length : Int))) = true → ((0 : Int) ≤ i) ∧ ((i : Int) < row.length) ∧ (i.toNat < row.length) ∧ (PC Try.prog 104 [.int .i64 (row.getD i.toNat 0), .int .i64 0, .int .i64 most] (.one (.d (.bool (inB (row.getD i.toNat 0) 0 most))))) ∧ (((!(inB (row.getD i.toNat 0) 0 most)) = true → ((false = (rowOk row n most)))) ∧ ((!(inB (row.getD i.toNat 0) 0 most)) = false → (-9223372036854775808 ≤ (i + 1) ∧ (i + 1) ≤ 9223372036854775807) ∧ (∃ i' : Int, (s_l2Row_JJ0 row n most i') ∧ (s_l2Row_mJ0 row n most i' < s_l2Row_mJ0 row n most i) ∧ (row = row) ∧ (n = n) ∧ (most = most) ∧ ((i + 1) = i'))))) ∧ ((decide (i < (row.length : Int))) = false → ((((row.length : Int) == n) = (rowOk row n most)))))))
theorem s_l2Row_vc (row : List Int) (n : Int) (most : Int)  (w_row : (row.length : Int) ≤ 9223372036854775807) : s_l2Row_P row n most := by
  unfold s_l2Row_P
  refine ⟨?_, ?_⟩
  · refine ⟨0, ?_⟩
    refine ⟨?_, rfl, rfl, rfl, rfl⟩
    · refine ⟨?_, ?_, ?_⟩
      · first | omega | rfl | (intro hg; simp only [nrmT] at hg; omega) | (intro g1 g2; simp [g1, g2]; done) | (intro g1; simp at g1 ⊢; simp [g1]; done) | (simp only [nrmT] at *; omega) | (simp at * <;> omega) | (simp_all <;> omega) | (simp_all; done)
      · first | omega | rfl | (intro hg; simp only [nrmT] at hg; omega) | (intro g1 g2; simp [g1, g2]; done) | (intro g1; simp at g1 ⊢; simp [g1]; done) | (simp only [nrmT] at *; omega) | (simp at * <;> omega) | (simp_all <;> omega) | (simp_all; done)
      · first | omega | rfl | (intro hg; simp only [nrmT] at hg; omega) | (intro g1 g2; simp [g1, g2]; done) | (intro g1; simp at g1 ⊢; simp [g1]; done) | (simp only [nrmT] at *; omega) | (simp at * <;> omega) | (simp_all <;> omega) | (simp_all; done)
  · intro i hJ
    obtain ⟨h1, h2, h3⟩ := hJ
    refine ⟨?_, ?_⟩
    · intro b1
      try simp only [nrmT] at b1
      refine ⟨?_, ?_, ?_, s_l1In_pc (row.getD i.toNat 0) 0 most, ?_, ?_⟩
      · first | omega | rfl | (intro hg; simp only [nrmT] at hg; omega) | (intro g1 g2; simp [g1, g2]; done) | (intro g1; simp at g1 ⊢; simp [g1]; done) | (simp only [nrmT] at *; omega) | (simp at * <;> omega) | (simp_all <;> omega) | (simp_all; done)
      · first | omega | rfl | (intro hg; simp only [nrmT] at hg; omega) | (intro g1 g2; simp [g1, g2]; done) | (intro g1; simp at g1 ⊢; simp [g1]; done) | (simp only [nrmT] at *; omega) | (simp at * <;> omega) | (simp_all <;> omega) | (simp_all; done)
      · first | omega | rfl | (intro hg; simp only [nrmT] at hg; omega) | (intro g1 g2; simp [g1, g2]; done) | (intro g1; simp at g1 ⊢; simp [g1]; done) | (simp only [nrmT] at *; omega) | (simp at * <;> omega) | (simp_all <;> omega) | (simp_all; done)
      · intro b2
        try simp only [nrmT] at b2
        unfold rowOk
        rw [all_no (p := fun x => inB x 0 most) (d := 0) h1 (by omega) b2]; rfl
      · intro b3
        try simp only [nrmT] at b3
        refine ⟨?_, ?_⟩
        · first | omega | rfl | (intro hg; simp only [nrmT] at hg; omega) | (intro g1 g2; simp [g1, g2]; done) | (intro g1; simp at g1 ⊢; simp [g1]; done) | (simp only [nrmT] at *; omega) | (simp at * <;> omega) | (simp_all <;> omega) | (simp_all; done)
        · refine ⟨(i + 1), ?_⟩
          refine ⟨?_, ?_, rfl, rfl, rfl, rfl⟩
          · refine ⟨?_, ?_, ?_⟩
            · first | omega | rfl | (intro hg; simp only [nrmT] at hg; omega) | (intro g1 g2; simp [g1, g2]; done) | (intro g1; simp at g1 ⊢; simp [g1]; done) | (simp only [nrmT] at *; omega) | (simp at * <;> omega) | (simp_all <;> omega) | (simp_all; done)
            · first | omega | rfl | (intro hg; simp only [nrmT] at hg; omega) | (intro g1 g2; simp [g1, g2]; done) | (intro g1; simp at g1 ⊢; simp [g1]; done) | (simp only [nrmT] at *; omega) | (simp at * <;> omega) | (simp_all <;> omega) | (simp_all; done)
            · exact allTo_step h1 h3 b3
          · first | (show _ < _; omega) | (simp only [s_l2Row_mJ0]; omega) | (simp only [s_l2Row_mJ0] at *; simp at *; omega)
    · intro b4
      try simp only [nrmT] at b4
      unfold rowOk
      rw [all_end (p := fun x => inB x 0 most) (d := 0) (by omega) h2 h3, Bool.true_and]; rfl
theorem s_l2Row_pc (row : List Int) (n : Int) (most : Int)  : PC Try.prog 165 [.sl (.ints row), .int .i64 n, .int .i64 most] (.one (.d (.bool (rowOk row n most)))) :=
  pc_wf @Try.call165 fun hw => pc_by (by kernel_rfl) Try.func165 @Try.call165 (by kernel_rfl) s_l2Row_C (s_l2Row_A row n most) (by kernel_rfl) (s_l2Row_vc row n most hw.1) (by kernel_rfl)
def s_l2Row_orc : List D → Orc := orcN [some .ints, none, none] fun ds => match ds with
  | [.sl (.ints row), .int .i64 n, .int .i64 most] => some (.one (.d (.bool (rowOk row n most))))
  | _ => none
abbrev s_l2Good_JJ0 (Open : List Int) (Dist : List (List Int)) (i : Int) : Prop := (0 ≤ i) ∧ (i ≤ (Dist.length : Int)) ∧ (allTo (fun k => rowOk (Dist.getD k []) (Open.length : Int) 99) i.toNat = true)
abbrev s_l2Good_mJ0 (Open : List Int) (Dist : List (List Int)) (i : Int) : Nat := (Dist.length - i).toNat
def s_l2Good_C (f : FuncId) (ds : List D) : Orc := bif Nat.beq f 165 then s_l2Row_orc ds else bif Nat.beq f 104 then s_l1In_orc ds else .no
def s_l2Good_A (Open : List Int) (Dist : List (List Int)) : Ann := .two (.none) (.two (.none) (.two (.two (.none) (.loop (cut1 (fun (i : Int) => s_l2Good_JJ0 Open Dist i) (fun (i : Int) => [(1, .ptr 1 0), (3, .d true (.int .i64 (Open.length : Int))), (4, .d true (.int .i64 i))]) (fun (i : Int) => [(1, .box 44 [.d false (.sl (.ints Open)), .d false (.sl (.rows Dist))])])) (fun g => s_l2Good_mJ0 Open Dist g) (fun _ => .none))) (.none)))
def s_l2Good_P (Open : List Int) (Dist : List (List Int)) : Prop :=
  ((∃ i' : Int, (s_l2Good_JJ0 Open Dist i') ∧ ((Open.length : Int) = (Open.length : Int)) ∧ ((0 : Int) = i') ∧ (Open = Open) ∧ (Dist = Dist)) ∧ (∀ i : Int, (s_l2Good_JJ0 Open Dist i) → (((decide (i < (Dist.length : Int))) = true → ((0 : Int) ≤ i) ∧ ((i : Int) < Dist.length) ∧ (i.toNat < Dist.length) ∧ (PC Try.prog 165 [.sl (.ints (Dist.getD i.toNat [])), .int .i64 (Open.length : Int), .int .i64 99] (.one (.d (.bool (rowOk (Dist.getD i.toNat []) (Open.length : Int) 99))))) ∧ (((!(rowOk (Dist.getD i.toNat []) (Open.length : Int) 99)) = true → ((false = (goodField Open Dist)))) ∧ ((!(rowOk (Dist.getD i.toNat []) (Open.length : Int) 99)) = false → (-9223372036854775808 ≤ (i + 1) ∧ (i + 1) ≤ 9223372036854775807) ∧ (∃ i' : Int, (s_l2Good_JJ0 Open Dist i') ∧ (s_l2Good_mJ0 Open Dist i' < s_l2Good_mJ0 Open Dist i) ∧ ((Open.length : Int) = (Open.length : Int)) ∧ ((i + 1) = i') ∧ (Open = Open) ∧ (Dist = Dist))))) ∧ ((decide (i < (Dist.length : Int))) = false → (PC Try.prog 104 [.int .i64 (Open.length : Int), .int .i64 1, .int .i64 7] (.one (.d (.bool (inB (Open.length : Int) 1 7))))) ∧ ((inB (Open.length : Int) 1 7) = true → (inB (Open.length : Int) 1 7) = true) ∧ ((inB (Open.length : Int) 1 7) = true → (inB (Open.length : Int) 1 7) = true) ∧ ((inB (Open.length : Int) 1 7) = true → (inB (Open.length : Int) 1 7) = true) ∧ ((inB (Open.length : Int) 1 7) = true → PC Try.prog 165 [.sl (.ints Open), .int .i64 (Open.length : Int), .int .i64 99] (.one (.d (.bool (rowOk Open (Open.length : Int) 99))))) ∧ (true = true) ∧ (((inB (Open.length : Int) 1 7) = true → (inB (Open.length : Int) 1 7) = true)) ∧ (((inB (Open.length : Int) 1 7) = false → true = true)) ∧ ((cond (inB (Open.length : Int) 1 7) (rowOk Open (Open.length : Int) 99) false) = true → (cond (inB (Open.length : Int) 1 7) (rowOk Open (Open.length : Int) 99) false) = true) ∧ ((cond (inB (Open.length : Int) 1 7) (rowOk Open (Open.length : Int) 99) false) = true → (cond (inB (Open.length : Int) 1 7) (rowOk Open (Open.length : Int) 99) false) = true) ∧ ((cond (inB (Open.length : Int) 1 7) (rowOk Open (Open.length : Int) 99) false) = true → (cond (inB (Open.length : Int) 1 7) (rowOk Open (Open.length : Int) 99) false) = true) ∧ (true = true) ∧ (((cond (inB (Open.length : Int) 1 7) (rowOk Open (Open.length : Int) 99) false) = true → (cond (inB (Open.length : Int) 1 7) (rowOk Open (Open.length : Int) 99) false) = true)) ∧ (((cond (inB (Open.length : Int) 1 7) (rowOk Open (Open.length : Int) 99) false) = false → true = true)) ∧ (((cond (cond (inB (Open.length : Int) 1 7) (rowOk Open (Open.length : Int) 99) false) (decide ((Dist.length : Int) ≤ 7)) false) = (goodField Open Dist)))))))
theorem s_l2Good_vc (Open : List Int) (Dist : List (List Int))  (w_Open : (Open.length : Int) ≤ 9223372036854775807) (w_Dist : (Dist.length : Int) ≤ 9223372036854775807) (v_Dist : ∀ x9 ∈ Dist, (x9.length : Int) ≤ 9223372036854775807) : s_l2Good_P Open Dist := by
  unfold s_l2Good_P
  refine ⟨?_, ?_⟩
  · refine ⟨0, ?_⟩
    refine ⟨?_, rfl, rfl, rfl, rfl⟩
    · refine ⟨?_, ?_, ?_⟩
      · first | omega | rfl | (intro hg; simp only [nrmT] at hg; omega) | (intro g1 g2; simp [g1, g2]; done) | (intro g1; simp at g1 ⊢; simp [g1]; done) | (simp only [nrmT] at *; omega) | (simp at * <;> omega) | (simp_all <;> omega) | (simp_all; done)
      · first | omega | rfl | (intro hg; simp only [nrmT] at hg; omega) | (intro g1 g2; simp [g1, g2]; done) | (intro g1; simp at g1 ⊢; simp [g1]; done) | (simp only [nrmT] at *; omega) | (simp at * <;> omega) | (simp_all <;> omega) | (simp_all; done)
      · first | omega | rfl | (intro hg; simp only [nrmT] at hg; omega) | (intro g1 g2; simp [g1, g2]; done) | (intro g1; simp at g1 ⊢; simp [g1]; done) | (simp only [nrmT] at *; omega) | (simp at * <;> omega) | (simp_all <;> omega) | (simp_all; done)
  · intro i hJ
    obtain ⟨h1, h2, h3⟩ := hJ
    refine ⟨?_, ?_⟩
    · intro b1
      try simp only [nrmT] at b1
      refine ⟨?_, ?_, ?_, s_l2Row_pc (Dist.getD i.toNat []) (Open.length : Int) 99, ?_, ?_⟩
      · first | omega | rfl | (intro hg; simp only [nrmT] at hg; omega) | (intro g1 g2; simp [g1, g2]; done) | (intro g1; simp at g1 ⊢; simp [g1]; done) | (simp only [nrmT] at *; omega) | (simp at * <;> omega) | (simp_all <;> omega) | (simp_all; done)
      · first | omega | rfl | (intro hg; simp only [nrmT] at hg; omega) | (intro g1 g2; simp [g1, g2]; done) | (intro g1; simp at g1 ⊢; simp [g1]; done) | (simp only [nrmT] at *; omega) | (simp at * <;> omega) | (simp_all <;> omega) | (simp_all; done)
      · first | omega | rfl | (intro hg; simp only [nrmT] at hg; omega) | (intro g1 g2; simp [g1, g2]; done) | (intro g1; simp at g1 ⊢; simp [g1]; done) | (simp only [nrmT] at *; omega) | (simp at * <;> omega) | (simp_all <;> omega) | (simp_all; done)
      · intro b2
        try simp only [nrmT] at b2
        unfold goodField
        rw [all_no (p := fun l => rowOk l (Open.length : Int) 99) (d := []) h1 (by omega) b2, Bool.and_false]
      · intro b3
        try simp only [nrmT] at b3
        refine ⟨?_, ?_⟩
        · first | omega | rfl | (intro hg; simp only [nrmT] at hg; omega) | (intro g1 g2; simp [g1, g2]; done) | (intro g1; simp at g1 ⊢; simp [g1]; done) | (simp only [nrmT] at *; omega) | (simp at * <;> omega) | (simp_all <;> omega) | (simp_all; done)
        · refine ⟨(i + 1), ?_⟩
          refine ⟨?_, ?_, rfl, rfl, rfl, rfl⟩
          · refine ⟨?_, ?_, ?_⟩
            · first | omega | rfl | (intro hg; simp only [nrmT] at hg; omega) | (intro g1 g2; simp [g1, g2]; done) | (intro g1; simp at g1 ⊢; simp [g1]; done) | (simp only [nrmT] at *; omega) | (simp at * <;> omega) | (simp_all <;> omega) | (simp_all; done)
            · first | omega | rfl | (intro hg; simp only [nrmT] at hg; omega) | (intro g1 g2; simp [g1, g2]; done) | (intro g1; simp at g1 ⊢; simp [g1]; done) | (simp only [nrmT] at *; omega) | (simp at * <;> omega) | (simp_all <;> omega) | (simp_all; done)
            · exact allTo_step h1 h3 b3
          · first | (show _ < _; omega) | (simp only [s_l2Good_mJ0]; omega) | (simp only [s_l2Good_mJ0] at *; simp at *; omega)
    · intro b4
      try simp only [nrmT] at b4
      refine ⟨s_l1In_pc (Open.length : Int) 1 7, id, id, id, fun _ => s_l2Row_pc Open (Open.length : Int) 99, rfl, id, fun _ => rfl, id, id, id, rfl, id, fun _ => rfl, ?_⟩
      · unfold goodField
        rw [all_end (p := fun l => rowOk l (Open.length : Int) 99) (d := []) (by omega) h2 h3, show decide ((Dist.length : Int) ≤ 7) = decide (Dist.length ≤ 7) from len_le _ 7]
        unfold rowOk
        cases inB (Open.length : Int) 1 7 <;> cases Open.all (fun x => inB x 0 99) <;> cases decide (Dist.length ≤ 7) <;> simp
theorem s_l2Good_pc (Open : List Int) (Dist : List (List Int))  : PC Try.prog 99 [.agg [.sl (.ints Open), .sl (.rows Dist)]] (.one (.d (.bool (goodField Open Dist)))) :=
  pc_wf @Try.call99 fun hw => pc_by (by kernel_rfl) Try.func99 @Try.call99 (by kernel_rfl) s_l2Good_C (s_l2Good_A Open Dist) (by kernel_rfl) (s_l2Good_vc Open Dist hw.1.1 hw.1.2.1.1 hw.1.2.1.2) (by kernel_rfl)
def s_l2Good_orc : List D → Orc := orcN [none] fun ds => match ds with
  | [.agg [.sl (.ints Open), .sl (.rows Dist)]] => some (.one (.d (.bool (goodField Open Dist))))
  | _ => none
def i_IsField_1_C (f : FuncId) (ds : List D) : Orc := bif Nat.beq f 162 then i_areBetween_orc ds else .no
def i_IsField_1_A (xs : List Int) (Open : List Int) (Dist : List (List Int)) : Ann := .none
def i_IsField_1_P (xs : List Int) (Open : List Int) (Dist : List (List Int)) : Prop :=
  ((!((xs.length : Int) != (Open.length : Int))) = true → (!((xs.length : Int) != (Open.length : Int))) = true) ∧ ((!((xs.length : Int) != (Open.length : Int))) = true → PC Try.prog 162 [.sl (.ints xs), .int .i64 0, .int .i64 99] (.one (.d (.bool (xs.all (fun x => inB x 0 99)))))) ∧ ((!((xs.length : Int) != (Open.length : Int))) = true → (!((xs.length : Int) != (Open.length : Int))) = true) ∧ (true = true) ∧ ((((xs.length : Int) != (Open.length : Int)) = true → true = true)) ∧ ((((xs.length : Int) != (Open.length : Int)) = false → (!((xs.length : Int) != (Open.length : Int))) = true)) ∧ (((cond ((xs.length : Int) != (Open.length : Int)) true (!(xs.all (fun x => inB x 0 99)))) = (!(rowOk xs (Open.length : Int) 99))))
theorem i_IsField_1_vc (xs : List Int) (Open : List Int) (Dist : List (List Int))  (w_xs : (xs.length : Int) ≤ 9223372036854775807) (w_Open : (Open.length : Int) ≤ 9223372036854775807) (w_Dist : (Dist.length : Int) ≤ 9223372036854775807) (v_Dist : ∀ x9 ∈ Dist, (x9.length : Int) ≤ 9223372036854775807) : i_IsField_1_P xs Open Dist := by
  unfold i_IsField_1_P
  refine ⟨id, fun _ => i_areBetween_pc xs 0 99, id, rfl, fun _ => rfl, ?_, ?_⟩
  · first | omega | rfl | (intro hg; simp only [nrmT] at hg; omega) | (intro g1 g2; simp [g1, g2]; done) | (intro g1; simp at g1 ⊢; simp [g1]; done) | (simp only [nrmT] at *; omega) | (simp at * <;> omega) | (simp_all <;> omega) | (simp_all; done)
  · unfold rowOk
    by_cases h : (xs.length : Int) = (Open.length : Int)
    · simp [h]
    · simp [h]
theorem i_IsField_1_pc (xs : List Int) (Open : List Int) (Dist : List (List Int))  : PC Try.prog 171 [.sl (.ints xs), .bx [.sl (.ints Open), .sl (.rows Dist)] 0] (.one (.d (.bool (!(rowOk xs (Open.length : Int) 99))))) :=
  pc_wf @Try.call171 fun hw => pc_by (by kernel_rfl) Try.func171 @Try.call171 (by kernel_rfl) i_IsField_1_C (i_IsField_1_A xs Open Dist) (by kernel_rfl) (i_IsField_1_vc xs Open Dist hw.1 hw.2.1.1 hw.2.1.2.1.1 hw.2.1.2.1.2) (by kernel_rfl)
def i_IsField_1_orc : List D → Orc := orcN [some .ints, none] fun ds => match ds with
  | [.sl (.ints xs), .bx [.sl (.ints Open), .sl (.rows Dist)] 0] => some (.one (.d (.bool (!(rowOk xs (Open.length : Int) 99)))))
  | _ => none
abbrev slices_IndexFunc_int_int_iF_JJ0 (xs : List (List Int)) (Open : List Int) (Dist : List (List Int)) (i : Int) : Prop := (0 ≤ i) ∧ (i ≤ (xs.length : Int)) ∧ (∀ k, k < i.toNat → (fun x => !(rowOk x (Open.length : Int) 99)) (xs.getD k []) = false)
abbrev slices_IndexFunc_int_int_iF_mJ0 (xs : List (List Int)) (Open : List Int) (Dist : List (List Int)) (i : Int) : Nat := (xs.length - i).toNat
def slices_IndexFunc_int_int_iF_C (f : FuncId) (ds : List D) : Orc := bif Nat.beq f 171 then i_IsField_1_orc ds else .no
def slices_IndexFunc_int_int_iF_A (xs : List (List Int)) (Open : List Int) (Dist : List (List Int)) : Ann := .two (.none) (.two (.two (.none) (.loop (cut1 (fun (i : Int) => slices_IndexFunc_int_int_iF_JJ0 xs Open Dist i) (fun (i : Int) => [(0, .d false (.sl (.rows xs))), (1, .d false (.fn 171 [.bx [.sl (.ints Open), .sl (.rows Dist)] 0])), (7, .d true (.int .i64 (xs.length : Int))), (8, .d true (.int .i64 i))]) (fun (i : Int) => [])) (fun g => slices_IndexFunc_int_int_iF_mJ0 xs Open Dist g) (fun _ => .none))) (.none))
def slices_IndexFunc_int_int_iF_P (xs : List (List Int)) (Open : List Int) (Dist : List (List Int)) : Prop :=
  ((∃ i' : Int, (slices_IndexFunc_int_int_iF_JJ0 xs Open Dist i') ∧ (xs = xs) ∧ ((.fn 171 [.bx [.sl (.ints Open), .sl (.rows Dist)] 0] : D) = (.fn 171 [.bx [.sl (.ints Open), .sl (.rows Dist)] 0] : D)) ∧ ((xs.length : Int) = (xs.length : Int)) ∧ ((0 : Int) = i')) ∧ (∀ i : Int, (slices_IndexFunc_int_int_iF_JJ0 xs Open Dist i) → (((decide (i < (xs.length : Int))) = true → ((0 : Int) ≤ i) ∧ ((i : Int) < xs.length) ∧ (i.toNat < xs.length) ∧ (PC Try.prog 171 [.sl (.ints (xs.getD i.toNat [])), .bx [.sl (.ints Open), .sl (.rows Dist)] 0] (.one (.d (.bool (!(rowOk (xs.getD i.toNat []) (Open.length : Int) 99)))))) ∧ (((!(rowOk (xs.getD i.toNat []) (Open.length : Int) 99)) = true → ((i = (idxI (fun x => !(rowOk x (Open.length : Int) 99)) xs)))) ∧ ((!(rowOk (xs.getD i.toNat []) (Open.length : Int) 99)) = false → (-9223372036854775808 ≤ (i + 1) ∧ (i + 1) ≤ 9223372036854775807) ∧ (∃ i' : Int, (slices_IndexFunc_int_int_iF_JJ0 xs Open Dist i') ∧ (slices_IndexFunc_int_int_iF_mJ0 xs Open Dist i' < slices_IndexFunc_int_int_iF_mJ0 xs Open Dist i) ∧ (xs = xs) ∧ ((.fn 171 [.bx [.sl (.ints Open), .sl (.rows Dist)] 0] : D) = (.fn 171 [.bx [.sl (.ints Open), .sl (.rows Dist)] 0] : D)) ∧ ((xs.length : Int) = (xs.length : Int)) ∧ ((i + 1) = i'))))) ∧ ((decide (i < (xs.length : Int))) = false → ((((-1) : Int) = (idxI (fun x => !(rowOk x (Open.length : Int) 99)) xs)))))))
theorem slices_IndexFunc_int_int_iF_vc (xs : List (List Int)) (Open : List Int) (Dist : List (List Int))  (w_xs : (xs.length : Int) ≤ 9223372036854775807) (v_xs : ∀ x9 ∈ xs, (x9.length : Int) ≤ 9223372036854775807) (w_Open : (Open.length : Int) ≤ 9223372036854775807) (w_Dist : (Dist.length : Int) ≤ 9223372036854775807) (v_Dist : ∀ x9 ∈ Dist, (x9.length : Int) ≤ 9223372036854775807) : slices_IndexFunc_int_int_iF_P xs Open Dist := by
  unfold slices_IndexFunc_int_int_iF_P
  refine ⟨?_, ?_⟩
  · refine ⟨0, ?_⟩
    refine ⟨?_, rfl, rfl, rfl, rfl⟩
    · refine ⟨?_, ?_, ?_⟩
      · first | omega | rfl | (intro hg; simp only [nrmT] at hg; omega) | (intro g1 g2; simp [g1, g2]; done) | (intro g1; simp at g1 ⊢; simp [g1]; done) | (simp only [nrmT] at *; omega) | (simp at * <;> omega) | (simp_all <;> omega) | (simp_all; done)
      · first | omega | rfl | (intro hg; simp only [nrmT] at hg; omega) | (intro g1 g2; simp [g1, g2]; done) | (intro g1; simp at g1 ⊢; simp [g1]; done) | (simp only [nrmT] at *; omega) | (simp at * <;> omega) | (simp_all <;> omega) | (simp_all; done)
      · first | omega | rfl | (intro hg; simp only [nrmT] at hg; omega) | (intro g1 g2; simp [g1, g2]; done) | (intro g1; simp at g1 ⊢; simp [g1]; done) | (simp only [nrmT] at *; omega) | (simp at * <;> omega) | (simp_all <;> omega) | (simp_all; done)
  · intro i hJ
    obtain ⟨h1, h2, h3⟩ := hJ
    refine ⟨?_, ?_⟩
    · intro b1
      try simp only [nrmT] at b1
      refine ⟨?_, ?_, ?_, i_IsField_1_pc (xs.getD i.toNat []) Open Dist, ?_, ?_⟩
      · first | omega | rfl | (intro hg; simp only [nrmT] at hg; omega) | (intro g1 g2; simp [g1, g2]; done) | (intro g1; simp at g1 ⊢; simp [g1]; done) | (simp only [nrmT] at *; omega) | (simp at * <;> omega) | (simp_all <;> omega) | (simp_all; done)
      · first | omega | rfl | (intro hg; simp only [nrmT] at hg; omega) | (intro g1 g2; simp [g1, g2]; done) | (intro g1; simp at g1 ⊢; simp [g1]; done) | (simp only [nrmT] at *; omega) | (simp at * <;> omega) | (simp_all <;> omega) | (simp_all; done)
      · first | omega | rfl | (intro hg; simp only [nrmT] at hg; omega) | (intro g1 g2; simp [g1, g2]; done) | (intro g1; simp at g1 ⊢; simp [g1]; done) | (simp only [nrmT] at *; omega) | (simp at * <;> omega) | (simp_all <;> omega) | (simp_all; done)
      · intro b2
        try simp only [nrmT] at b2
        exact idx_found (p := fun x => !(rowOk x (Open.length : Int) 99)) h1 b1 h3 (by simpa using b2)
      · intro b3
        try simp only [nrmT] at b3
        refine ⟨?_, ?_⟩
        · first | omega | rfl | (intro hg; simp only [nrmT] at hg; omega) | (intro g1 g2; simp [g1, g2]; done) | (intro g1; simp at g1 ⊢; simp [g1]; done) | (simp only [nrmT] at *; omega) | (simp at * <;> omega) | (simp_all <;> omega) | (simp_all; done)
        · refine ⟨(i + 1), ?_⟩
          refine ⟨?_, ?_, rfl, rfl, rfl, rfl⟩
          · refine ⟨?_, ?_, ?_⟩
            · first | omega | rfl | (intro hg; simp only [nrmT] at hg; omega) | (intro g1 g2; simp [g1, g2]; done) | (intro g1; simp at g1 ⊢; simp [g1]; done) | (simp only [nrmT] at *; omega) | (simp at * <;> omega) | (simp_all <;> omega) | (simp_all; done)
            · first | omega | rfl | (intro hg; simp only [nrmT] at hg; omega) | (intro g1 g2; simp [g1, g2]; done) | (intro g1; simp at g1 ⊢; simp [g1]; done) | (simp only [nrmT] at *; omega) | (simp at * <;> omega) | (simp_all <;> omega) | (simp_all; done)
            · exact idx_step (p := fun x => !(rowOk x (Open.length : Int) 99)) h1 h3 (by simpa using b3)
          · first | (show _ < _; omega) | (simp only [slices_IndexFunc_int_int_iF_mJ0]; omega) | (simp only [slices_IndexFunc_int_int_iF_mJ0] at *; simp at *; omega)
    · intro b4
      try simp only [nrmT] at b4
      exact (idx_none (by omega) h3).symm
theorem slices_IndexFunc_int_int_iF_pc (xs : List (List Int)) (Open : List Int) (Dist : List (List Int))  : PC Try.prog 204 [.sl (.rows xs), .fn 171 [.bx [.sl (.ints Open), .sl (.rows Dist)] 0]] (.one (.d (.int .i64 (idxI (fun x => !(rowOk x (Open.length : Int) 99)) xs)))) :=
  pc_wf @Try.call204 fun hw => pc_by (by kernel_rfl) Try.func204 @Try.call204 (by kernel_rfl) slices_IndexFunc_int_int_iF_C (slices_IndexFunc_int_int_iF_A xs Open Dist) (by kernel_rfl) (slices_IndexFunc_int_int_iF_vc xs Open Dist hw.1.1 hw.1.2 hw.2.1.1.1 hw.2.1.1.2.1.1 hw.2.1.1.2.1.2) (by kernel_rfl)
def slices_IndexFunc_int_int_iF_orc : List D → Orc := orcN [some .rows, none] fun ds => match ds with
  | [.sl (.rows xs), .fn f0 [.bx [.sl (.ints Open), .sl (.rows Dist)] 0]] => bif Nat.beq f0 171 then some (.one (.d (.int .i64 (idxI (fun x => !(rowOk x (Open.length : Int) 99)) xs)))) else none
  | _ => none
def slices_ContainsFunc_int_int_iF_C (f : FuncId) (ds : List D) : Orc := bif Nat.beq f 204 then slices_IndexFunc_int_int_iF_orc ds else .no
def slices_ContainsFunc_int_int_iF_A (xs : List (List Int)) (Open : List Int) (Dist : List (List Int)) : Ann := .none
def slices_ContainsFunc_int_int_iF_P (xs : List (List Int)) (Open : List Int) (Dist : List (List Int)) : Prop :=
  (PC Try.prog 204 [.sl (.rows xs), .fn 171 [.bx [.sl (.ints Open), .sl (.rows Dist)] 0]] (.one (.d (.int .i64 (idxI (fun x => !(rowOk x (Open.length : Int) 99)) xs))))) ∧ (((decide ((idxI (fun x => !(rowOk x (Open.length : Int) 99)) xs) ≥ 0)) = (xs.any (fun x => !(rowOk x (Open.length : Int) 99)))))
theorem slices_ContainsFunc_int_int_iF_vc (xs : List (List Int)) (Open : List Int) (Dist : List (List Int))  (w_xs : (xs.length : Int) ≤ 9223372036854775807) (v_xs : ∀ x9 ∈ xs, (x9.length : Int) ≤ 9223372036854775807) (w_Open : (Open.length : Int) ≤ 9223372036854775807) (w_Dist : (Dist.length : Int) ≤ 9223372036854775807) (v_Dist : ∀ x9 ∈ Dist, (x9.length : Int) ≤ 9223372036854775807) : slices_ContainsFunc_int_int_iF_P xs Open Dist := by
  unfold slices_ContainsFunc_int_int_iF_P
  refine ⟨slices_IndexFunc_int_int_iF_pc xs Open Dist, ?_⟩
  · exact idx_any _ _
theorem slices_ContainsFunc_int_int_iF_pc (xs : List (List Int)) (Open : List Int) (Dist : List (List Int))  : PC Try.prog 170 [.sl (.rows xs), .fn 171 [.bx [.sl (.ints Open), .sl (.rows Dist)] 0]] (.one (.d (.bool (xs.any (fun x => !(rowOk x (Open.length : Int) 99)))))) :=
  pc_wf @Try.call170 fun hw => pc_by (by kernel_rfl) Try.func170 @Try.call170 (by kernel_rfl) slices_ContainsFunc_int_int_iF_C (slices_ContainsFunc_int_int_iF_A xs Open Dist) (by kernel_rfl) (slices_ContainsFunc_int_int_iF_vc xs Open Dist hw.1.1 hw.1.2 hw.2.1.1.1 hw.2.1.1.2.1.1 hw.2.1.1.2.1.2) (by kernel_rfl)
def slices_ContainsFunc_int_int_iF_orc : List D → Orc := orcN [some .rows, none] fun ds => match ds with
  | [.sl (.rows xs), .fn f0 [.bx [.sl (.ints Open), .sl (.rows Dist)] 0]] => bif Nat.beq f0 171 then some (.one (.d (.bool (xs.any (fun x => !(rowOk x (Open.length : Int) 99)))))) else none
  | _ => none
def i_IsField_C (f : FuncId) (ds : List D) : Orc := bif Nat.beq f 107 then i_between_orc ds else bif Nat.beq f 162 then i_areBetween_orc ds else bif Nat.beq f 170 then slices_ContainsFunc_int_int_iF_orc ds else .no
def i_IsField_A (Open : List Int) (Dist : List (List Int)) : Ann := .none
def i_IsField_P (Open : List Int) (Dist : List (List Int)) : Prop :=
  (PC Try.prog 107 [.int .i64 (Open.length : Int), .int .i64 1, .int .i64 7] (.one (.d (.bool (inB (Open.length : Int) 1 7))))) ∧ ((inB (Open.length : Int) 1 7) = true → (inB (Open.length : Int) 1 7) = true) ∧ ((inB (Open.length : Int) 1 7) = true → (inB (Open.length : Int) 1 7) = true) ∧ ((inB (Open.length : Int) 1 7) = true → PC Try.prog 162 [.sl (.ints Open), .int .i64 0, .int .i64 99] (.one (.d (.bool (Open.all (fun x => inB x 0 99)))))) ∧ (true = true) ∧ (((inB (Open.length : Int) 1 7) = true → (inB (Open.length : Int) 1 7) = true)) ∧ (((inB (Open.length : Int) 1 7) = false → true = true)) ∧ ((cond (inB (Open.length : Int) 1 7) (Open.all (fun x => inB x 0 99)) false) = true → (cond (inB (Open.length : Int) 1 7) (Open.all (fun x => inB x 0 99)) false) = true) ∧ ((cond (inB (Open.length : Int) 1 7) (Open.all (fun x => inB x 0 99)) false) = true → (cond (inB (Open.length : Int) 1 7) (Open.all (fun x => inB x 0 99)) false) = true) ∧ ((cond (inB (Open.length : Int) 1 7) (Open.all (fun x => inB x 0 99)) false) = true → (cond (inB (Open.length : Int) 1 7) (Open.all (fun x => inB x 0 99)) false) = true) ∧ (true = true) ∧ (((cond (inB (Open.length : Int) 1 7) (Open.all (fun x => inB x 0 99)) false) = true → (cond (inB (Open.length : Int) 1 7) (Open.all (fun x => inB x 0 99)) false) = true)) ∧ (((cond (inB (Open.length : Int) 1 7) (Open.all (fun x => inB x 0 99)) false) = false → true = true)) ∧ ((cond (cond (inB (Open.length : Int) 1 7) (Open.all (fun x => inB x 0 99)) false) (decide ((Dist.length : Int) ≤ 7)) false) = true → (cond (cond (inB (Open.length : Int) 1 7) (Open.all (fun x => inB x 0 99)) false) (decide ((Dist.length : Int) ≤ 7)) false) = true) ∧ ((cond (cond (inB (Open.length : Int) 1 7) (Open.all (fun x => inB x 0 99)) false) (decide ((Dist.length : Int) ≤ 7)) false) = true → (cond (cond (inB (Open.length : Int) 1 7) (Open.all (fun x => inB x 0 99)) false) (decide ((Dist.length : Int) ≤ 7)) false) = true) ∧ ((cond (cond (inB (Open.length : Int) 1 7) (Open.all (fun x => inB x 0 99)) false) (decide ((Dist.length : Int) ≤ 7)) false) = true → (cond (cond (inB (Open.length : Int) 1 7) (Open.all (fun x => inB x 0 99)) false) (decide ((Dist.length : Int) ≤ 7)) false) = true) ∧ ((cond (cond (inB (Open.length : Int) 1 7) (Open.all (fun x => inB x 0 99)) false) (decide ((Dist.length : Int) ≤ 7)) false) = true → PC Try.prog 170 [.sl (.rows Dist), .fn 171 [.bx [.sl (.ints Open), .sl (.rows Dist)] 0]] (.one (.d (.bool (Dist.any (fun x => !(rowOk x (Open.length : Int) 99))))))) ∧ ((cond (cond (inB (Open.length : Int) 1 7) (Open.all (fun x => inB x 0 99)) false) (decide ((Dist.length : Int) ≤ 7)) false) = true → (cond (cond (inB (Open.length : Int) 1 7) (Open.all (fun x => inB x 0 99)) false) (decide ((Dist.length : Int) ≤ 7)) false) = true) ∧ (true = true) ∧ (((cond (cond (inB (Open.length : Int) 1 7) (Open.all (fun x => inB x 0 99)) false) (decide ((Dist.length : Int) ≤ 7)) false) = true → (cond (cond (inB (Open.length : Int) 1 7) (Open.all (fun x => inB x 0 99)) false) (decide ((Dist.length : Int) ≤ 7)) false) = true)) ∧ (((cond (cond (inB (Open.length : Int) 1 7) (Open.all (fun x => inB x 0 99)) false) (decide ((Dist.length : Int) ≤ 7)) false) = false → true = true)) ∧ (((cond (cond (cond (inB (Open.length : Int) 1 7) (Open.all (fun x => inB x 0 99)) false) (decide ((Dist.length : Int) ≤ 7)) false) (!(Dist.any (fun x => !(rowOk x (Open.length : Int) 99)))) false) = (goodField Open Dist)))
theorem i_IsField_vc (Open : List Int) (Dist : List (List Int))  (w_Open : (Open.length : Int) ≤ 9223372036854775807) (w_Dist : (Dist.length : Int) ≤ 9223372036854775807) (v_Dist : ∀ x9 ∈ Dist, (x9.length : Int) ≤ 9223372036854775807) : i_IsField_P Open Dist := by
  unfold i_IsField_P
  refine ⟨i_between_pc (Open.length : Int) 1 7, id, id, fun _ => i_areBetween_pc Open 0 99, rfl, id, fun _ => rfl, id, id, id, rfl, id, fun _ => rfl, id, id, id, fun _ => slices_ContainsFunc_int_int_iF_pc Dist Open Dist, id, rfl, id, fun _ => rfl, ?_⟩
  · unfold goodField
    rw [any_not, show decide ((Dist.length : Int) ≤ 7) = decide (Dist.length ≤ 7) from len_le _ 7]
    cases inB (Open.length : Int) 1 7 <;> cases Open.all (fun x => inB x 0 99) <;> cases decide (Dist.length ≤ 7) <;> simp
theorem i_IsField_pc (Open : List Int) (Dist : List (List Int))  : PC Try.prog 106 [.agg [.sl (.ints Open), .sl (.rows Dist)]] (.one (.d (.bool (goodField Open Dist)))) :=
  pc_wf @Try.call106 fun hw => pc_by (by kernel_rfl) Try.func106 @Try.call106 (by kernel_rfl) i_IsField_C (i_IsField_A Open Dist) (by kernel_rfl) (i_IsField_vc Open Dist hw.1.1 hw.1.2.1.1 hw.1.2.1.2) (by kernel_rfl)
def i_IsField_orc : List D → Orc := orcN [none] fun ds => match ds with
  | [.agg [.sl (.ints Open), .sl (.rows Dist)]] => some (.one (.d (.bool (goodField Open Dist))))
  | _ => none
def sumTo (f : Nat → Int) (n : Nat) : Int := foldTo (fun s k => s + f k) 0 n
theorem sumTo_step {f : Nat → Int} {i : Int} (h : 0 ≤ i) : sumTo f (i + 1).toNat = sumTo f i.toNat + f i.toNat := foldTo_step h
theorem sumTo_bound {f : Nat → Int} {m : Int} (n : Nat) (h : ∀ k, k < n → 0 ≤ f k ∧ f k ≤ m) : 0 ≤ sumTo f n ∧ sumTo f n ≤ m * n := by
  induction n with
  | zero => simp [sumTo, foldTo]
  | succ n ih =>
    have h1 := ih fun k hk => h k (Nat.lt_succ_of_lt hk)
    have h2 := h n (Nat.lt_succ_self n)
    have e : sumTo f (n + 1) = sumTo f n + f n := rfl
    rw [e]
    have e2 : m * ((n + 1 : Nat) : Int) = m * (n : Int) + m := by rw [Int.natCast_succ, Int.mul_add, Int.mul_one]
    rw [e2]
    omega
theorem rising_at {xs : List Int} {lo hi : Int} (h : rising xs lo hi = true) : ∀ k, k < xs.length → lo + k ≤ xs.getD k 0 ∧ xs.getD k 0 ≤ hi := by
  intro k
  induction k with
  | zero =>
    intro hk
    have h1 := allTo_iff.1 h 0 hk
    simp only [risingP, Bool.and_eq_true] at h1
    have := inB_le h1.1
    omega
  | succ k ih =>
    intro hk
    have h0 := ih (by omega)
    have h1 := allTo_iff.1 h (k + 1) hk
    simp only [risingP, Bool.and_eq_true, Bool.or_eq_true, decide_eq_true_eq, Nat.add_sub_cancel] at h1
    have := inB_le h1.1
    have h2 := h1.2
    omega
theorem rowOk_at {row : List Int} {n most : Int} (h : rowOk row n most = true) : (row.length : Int) = n ∧ ∀ k, k < row.length → 0 ≤ row.getD k 0 ∧ row.getD k 0 ≤ most := by
  simp only [rowOk, Bool.and_eq_true, decide_eq_true_eq] at h
  exact ⟨h.2, fun k hk => inB_le (List.all_eq_true.1 h.1 _ (getD_mem hk))⟩
abbrev s_l7Numbers_JJ0 (list : List Int) (n : Int) (most : Int) (i : Int) : Prop := (0 ≤ i) ∧ (i ≤ (list.length : Int)) ∧ (allTo (fun k => inB (list.getD k 0) 0 most) i.toNat = true)
abbrev s_l7Numbers_mJ0 (list : List Int) (n : Int) (most : Int) (i : Int) : Nat := (list.length - i).toNat
def s_l7Numbers_C (f : FuncId) (ds : List D) : Orc := bif Nat.beq f 104 then s_l1In_orc ds else .no
def s_l7Numbers_A (list : List Int) (n : Int) (most : Int) : Ann := .two (.none) (.two (.two (.none) (.loop (cut1 (fun (i : Int) => s_l7Numbers_JJ0 list n most i) (fun (i : Int) => [(0, .d false (.sl (.ints list))), (1, .d false (.int .i64 n)), (2, .d false (.int .i64 most)), (7, .d true (.int .i64 i))]) (fun (i : Int) => [])) (fun g => s_l7Numbers_mJ0 list n most g) (fun _ => .none))) (.none))
def s_l7Numbers_P (list : List Int) (n : Int) (most : Int) : Prop :=
  ((∃ i' : Int, (s_l7Numbers_JJ0 list n most i') ∧ (list = list) ∧ (n = n) ∧ (most = most) ∧ ((0 : Int) = i')) ∧ (∀ i : Int, (s_l7Numbers_JJ0 list n most i) → (((decide (i < (list.length : Int))) = true → ((0 : Int) ≤ i) ∧ ((i : Int) < list.length) ∧ (i.toNat < list.length) ∧ (PC Try.prog 104 [.int .i64 (list.getD i.toNat 0), .int .i64 0, .int .i64 most] (.one (.d (.bool (inB (list.getD i.toNat 0) 0 most))))) ∧ (((!(inB (list.getD i.toNat 0) 0 most)) = true → ((false = (rowOk list n most)))) ∧ ((!(inB (list.getD i.toNat 0) 0 most)) = false → (-9223372036854775808 ≤ (i + 1) ∧ (i + 1) ≤ 9223372036854775807) ∧ (∃ i' : Int, (s_l7Numbers_JJ0 list n most i') ∧ (s_l7Numbers_mJ0 list n most i' < s_l7Numbers_mJ0 list n most i) ∧ (list = list) ∧ (n = n) ∧ (most = most) ∧ ((i + 1) = i'))))) ∧ ((decide (i < (list.length : Int))) = false → ((((list.length : Int) == n) = (rowOk list n most)))))))
theorem s_l7Numbers_vc (list : List Int) (n : Int) (most : Int)  (w_list : (list.length : Int) ≤ 9223372036854775807) : s_l7Numbers_P list n most := by
  unfold s_l7Numbers_P
  refine ⟨?_, ?_⟩
  · refine ⟨0, ?_⟩
    refine ⟨?_, rfl, rfl, rfl, rfl⟩
    · refine ⟨?_, ?_, ?_⟩
      · first | omega | rfl | (intro hg; simp only [nrmT] at hg; omega) | (intro g1 g2; simp [g1, g2]; done) | (intro g1; simp at g1 ⊢; simp [g1]; done) | (simp only [nrmT] at *; omega) | (simp at * <;> omega) | (simp_all <;> omega) | (simp_all; done)
      · first | omega | rfl | (intro hg; simp only [nrmT] at hg; omega) | (intro g1 g2; simp [g1, g2]; done) | (intro g1; simp at g1 ⊢; simp [g1]; done) | (simp only [nrmT] at *; omega) | (simp at * <;> omega) | (simp_all <;> omega) | (simp_all; done)
      · first | omega | rfl | (intro hg; simp only [nrmT] at hg; omega) | (intro g1 g2; simp [g1, g2]; done) | (intro g1; simp at g1 ⊢; simp [g1]; done) | (simp only [nrmT] at *; omega) | (simp at * <;> omega) | (simp_all <;> omega) | (simp_all; done)
  · intro i hJ
    obtain ⟨h1, h2, h3⟩ := hJ
    refine ⟨?_, ?_⟩
    · intro b1
      try simp only [nrmT] at b1
      refine ⟨?_, ?_, ?_, s_l1In_pc (list.getD i.toNat 0) 0 most, ?_, ?_⟩
      · first | omega | rfl | (intro hg; simp only [nrmT] at hg; omega) | (intro g1 g2; simp [g1, g2]; done) | (intro g1; simp at g1 ⊢; simp [g1]; done) | (simp only [nrmT] at *; omega) | (simp at * <;> omega) | (simp_all <;> omega) | (simp_all; done)
      · first | omega | rfl | (intro hg; simp only [nrmT] at hg; omega) | (intro g1 g2; simp [g1, g2]; done) | (intro g1; simp at g1 ⊢; simp [g1]; done) | (simp only [nrmT] at *; omega) | (simp at * <;> omega) | (simp_all <;> omega) | (simp_all; done)
      · first | omega | rfl | (intro hg; simp only [nrmT] at hg; omega) | (intro g1 g2; simp [g1, g2]; done) | (intro g1; simp at g1 ⊢; simp [g1]; done) | (simp only [nrmT] at *; omega) | (simp at * <;> omega) | (simp_all <;> omega) | (simp_all; done)
      · intro b2
        try simp only [nrmT] at b2
        unfold rowOk
        rw [all_no (p := fun x => inB x 0 most) (d := 0) h1 (by omega) b2]; rfl
      · intro b3
        try simp only [nrmT] at b3
        refine ⟨?_, ?_⟩
        · first | omega | rfl | (intro hg; simp only [nrmT] at hg; omega) | (intro g1 g2; simp [g1, g2]; done) | (intro g1; simp at g1 ⊢; simp [g1]; done) | (simp only [nrmT] at *; omega) | (simp at * <;> omega) | (simp_all <;> omega) | (simp_all; done)
        · refine ⟨(i + 1), ?_⟩
          refine ⟨?_, ?_, rfl, rfl, rfl, rfl⟩
          · refine ⟨?_, ?_, ?_⟩
            · first | omega | rfl | (intro hg; simp only [nrmT] at hg; omega) | (intro g1 g2; simp [g1, g2]; done) | (intro g1; simp at g1 ⊢; simp [g1]; done) | (simp only [nrmT] at *; omega) | (simp at * <;> omega) | (simp_all <;> omega) | (simp_all; done)
            · first | omega | rfl | (intro hg; simp only [nrmT] at hg; omega) | (intro g1 g2; simp [g1, g2]; done) | (intro g1; simp at g1 ⊢; simp [g1]; done) | (simp only [nrmT] at *; omega) | (simp at * <;> omega) | (simp_all <;> omega) | (simp_all; done)
            · exact allTo_step h1 h3 b3
          · first | (show _ < _; omega) | (simp only [s_l7Numbers_mJ0]; omega) | (simp only [s_l7Numbers_mJ0] at *; simp at *; omega)
    · intro b4
      try simp only [nrmT] at b4
      unfold rowOk
      rw [all_end (p := fun x => inB x 0 most) (d := 0) (by omega) h2 h3, Bool.true_and]; rfl
theorem s_l7Numbers_pc (list : List Int) (n : Int) (most : Int)  : PC Try.prog 180 [.sl (.ints list), .int .i64 n, .int .i64 most] (.one (.d (.bool (rowOk list n most)))) :=
  pc_wf @Try.call180 fun hw => pc_by (by kernel_rfl) Try.func180 @Try.call180 (by kernel_rfl) s_l7Numbers_C (s_l7Numbers_A list n most) (by kernel_rfl) (s_l7Numbers_vc list n most hw.1) (by kernel_rfl)
def s_l7Numbers_orc : List D → Orc := orcN [some .ints, none, none] fun ds => match ds with
  | [.sl (.ints list), .int .i64 n, .int .i64 most] => some (.one (.d (.bool (rowOk list n most))))
  | _ => none
theorem rowOk_cond (row : List Int) (n : Nat) (most : Int) : rowOk row (n : Int) most = (((row.length : Int) == (n : Int)) && row.all (fun x => inB x 0 most)) := by
  unfold rowOk
  rw [Bool.and_comm]
  congr 1
def s_l7Needs_C (f : FuncId) (ds : List D) : Orc := bif Nat.beq f 180 then s_l7Numbers_orc ds else .no
def s_l7Needs_A (Open : List Int) (Dist : List (List Int)) (rooms : List Int) (needs : List Int) : Ann := .none
def s_l7Needs_P (Open : List Int) (Dist : List (List Int)) (rooms : List Int) (needs : List Int) : Prop :=
  (PC Try.prog 180 [.sl (.ints rooms), .int .i64 (Open.length : Int), .int .i64 20] (.one (.d (.bool (rowOk rooms (Open.length : Int) 20))))) ∧ ((rowOk rooms (Open.length : Int) 20) = true → (rowOk rooms (Open.length : Int) 20) = true) ∧ ((rowOk rooms (Open.length : Int) 20) = true → (rowOk rooms (Open.length : Int) 20) = true) ∧ ((rowOk rooms (Open.length : Int) 20) = true → (rowOk rooms (Open.length : Int) 20) = true) ∧ ((rowOk rooms (Open.length : Int) 20) = true → (rowOk rooms (Open.length : Int) 20) = true) ∧ ((rowOk rooms (Open.length : Int) 20) = true → PC Try.prog 180 [.sl (.ints needs), .int .i64 (Dist.length : Int), .int .i64 5] (.one (.d (.bool (rowOk needs (Dist.length : Int) 5))))) ∧ (true = true) ∧ (((rowOk rooms (Open.length : Int) 20) = true → (rowOk rooms (Open.length : Int) 20) = true)) ∧ (((rowOk rooms (Open.length : Int) 20) = false → true = true)) ∧ (((cond (rowOk rooms (Open.length : Int) 20) (rowOk needs (Dist.length : Int) 5) false) = (rowOk rooms (Open.length : Int) 20 && rowOk needs (Dist.length : Int) 5)))
theorem s_l7Needs_vc (Open : List Int) (Dist : List (List Int)) (rooms : List Int) (needs : List Int)  (w_Open : (Open.length : Int) ≤ 9223372036854775807) (w_Dist : (Dist.length : Int) ≤ 9223372036854775807) (v_Dist : ∀ x9 ∈ Dist, (x9.length : Int) ≤ 9223372036854775807) (w_rooms : (rooms.length : Int) ≤ 9223372036854775807) (w_needs : (needs.length : Int) ≤ 9223372036854775807) : s_l7Needs_P Open Dist rooms needs := by
  unfold s_l7Needs_P
  refine ⟨s_l7Numbers_pc rooms (Open.length : Int) 20, id, id, id, id, fun _ => s_l7Numbers_pc needs (Dist.length : Int) 5, rfl, id, fun _ => rfl, ?_⟩
  · cases rowOk rooms (Open.length : Int) 20 <;> rfl
theorem s_l7Needs_pc (Open : List Int) (Dist : List (List Int)) (rooms : List Int) (needs : List Int)  : PC Try.prog 179 [.agg [.sl (.ints Open), .sl (.rows Dist)], .sl (.ints rooms), .sl (.ints needs)] (.one (.d (.bool (rowOk rooms (Open.length : Int) 20 && rowOk needs (Dist.length : Int) 5)))) :=
  pc_wf @Try.call179 fun hw => pc_by (by kernel_rfl) Try.func179 @Try.call179 (by kernel_rfl) s_l7Needs_C (s_l7Needs_A Open Dist rooms needs) (by kernel_rfl) (s_l7Needs_vc Open Dist rooms needs hw.1.1 hw.1.2.1.1 hw.1.2.1.2 hw.2.1 hw.2.2.1) (by kernel_rfl)
def s_l7Needs_orc : List D → Orc := orcN [none, some .ints, some .ints] fun ds => match ds with
  | [.agg [.sl (.ints Open), .sl (.rows Dist)], .sl (.ints rooms), .sl (.ints needs)] => some (.one (.d (.bool (rowOk rooms (Open.length : Int) 20 && rowOk needs (Dist.length : Int) 5))))
  | _ => none
def i_Field_areNeeds_C (f : FuncId) (ds : List D) : Orc := bif Nat.beq f 162 then i_areBetween_orc ds else .no
def i_Field_areNeeds_A (Open : List Int) (Dist : List (List Int)) (rooms : List Int) (needs : List Int) : Ann := .none
def i_Field_areNeeds_P (Open : List Int) (Dist : List (List Int)) (rooms : List Int) (needs : List Int) : Prop :=
  (((rooms.length : Int) == (Open.length : Int)) = true → ((rooms.length : Int) == (Open.length : Int)) = true) ∧ (((rooms.length : Int) == (Open.length : Int)) = true → PC Try.prog 162 [.sl (.ints rooms), .int .i64 0, .int .i64 20] (.one (.d (.bool (rooms.all (fun x => inB x 0 20)))))) ∧ (true = true) ∧ ((((rooms.length : Int) == (Open.length : Int)) = true → ((rooms.length : Int) == (Open.length : Int)) = true)) ∧ ((((rooms.length : Int) == (Open.length : Int)) = false → true = true)) ∧ ((cond ((rooms.length : Int) == (Open.length : Int)) (rooms.all (fun x => inB x 0 20)) false) = true → (cond ((rooms.length : Int) == (Open.length : Int)) (rooms.all (fun x => inB x 0 20)) false) = true) ∧ ((cond ((rooms.length : Int) == (Open.length : Int)) (rooms.all (fun x => inB x 0 20)) false) = true → (cond ((rooms.length : Int) == (Open.length : Int)) (rooms.all (fun x => inB x 0 20)) false) = true) ∧ ((cond ((rooms.length : Int) == (Open.length : Int)) (rooms.all (fun x => inB x 0 20)) false) = true → (cond ((rooms.length : Int) == (Open.length : Int)) (rooms.all (fun x => inB x 0 20)) false) = true) ∧ ((cond ((rooms.length : Int) == (Open.length : Int)) (rooms.all (fun x => inB x 0 20)) false) = true → (cond ((rooms.length : Int) == (Open.length : Int)) (rooms.all (fun x => inB x 0 20)) false) = true) ∧ ((cond ((rooms.length : Int) == (Open.length : Int)) (rooms.all (fun x => inB x 0 20)) false) = true → (cond ((rooms.length : Int) == (Open.length : Int)) (rooms.all (fun x => inB x 0 20)) false) = true) ∧ (true = true) ∧ (((cond ((rooms.length : Int) == (Open.length : Int)) (rooms.all (fun x => inB x 0 20)) false) = true → (cond ((rooms.length : Int) == (Open.length : Int)) (rooms.all (fun x => inB x 0 20)) false) = true)) ∧ (((cond ((rooms.length : Int) == (Open.length : Int)) (rooms.all (fun x => inB x 0 20)) false) = false → true = true)) ∧ ((cond (cond ((rooms.length : Int) == (Open.length : Int)) (rooms.all (fun x => inB x 0 20)) false) ((needs.length : Int) == (Dist.length : Int)) false) = true → (cond (cond ((rooms.length : Int) == (Open.length : Int)) (rooms.all (fun x => inB x 0 20)) false) ((needs.length : Int) == (Dist.length : Int)) false) = true) ∧ ((cond (cond ((rooms.length : Int) == (Open.length : Int)) (rooms.all (fun x => inB x 0 20)) false) ((needs.length : Int) == (Dist.length : Int)) false) = true → PC Try.prog 162 [.sl (.ints needs), .int .i64 0, .int .i64 5] (.one (.d (.bool (needs.all (fun x => inB x 0 5)))))) ∧ (true = true) ∧ (((cond (cond ((rooms.length : Int) == (Open.length : Int)) (rooms.all (fun x => inB x 0 20)) false) ((needs.length : Int) == (Dist.length : Int)) false) = true → (cond (cond ((rooms.length : Int) == (Open.length : Int)) (rooms.all (fun x => inB x 0 20)) false) ((needs.length : Int) == (Dist.length : Int)) false) = true)) ∧ (((cond (cond ((rooms.length : Int) == (Open.length : Int)) (rooms.all (fun x => inB x 0 20)) false) ((needs.length : Int) == (Dist.length : Int)) false) = false → true = true)) ∧ (((cond (cond (cond ((rooms.length : Int) == (Open.length : Int)) (rooms.all (fun x => inB x 0 20)) false) ((needs.length : Int) == (Dist.length : Int)) false) (needs.all (fun x => inB x 0 5)) false) = (rowOk rooms (Open.length : Int) 20 && rowOk needs (Dist.length : Int) 5)))
theorem i_Field_areNeeds_vc (Open : List Int) (Dist : List (List Int)) (rooms : List Int) (needs : List Int)  (w_Open : (Open.length : Int) ≤ 9223372036854775807) (w_Dist : (Dist.length : Int) ≤ 9223372036854775807) (v_Dist : ∀ x9 ∈ Dist, (x9.length : Int) ≤ 9223372036854775807) (w_rooms : (rooms.length : Int) ≤ 9223372036854775807) (w_needs : (needs.length : Int) ≤ 9223372036854775807) : i_Field_areNeeds_P Open Dist rooms needs := by
  unfold i_Field_areNeeds_P
  refine ⟨id, fun _ => i_areBetween_pc rooms 0 20, rfl, id, fun _ => rfl, id, id, id, id, id, rfl, id, fun _ => rfl, id, fun _ => i_areBetween_pc needs 0 5, rfl, id, fun _ => rfl, ?_⟩
  · rw [rowOk_cond, rowOk_cond]
    cases ((rooms.length : Int) == (Open.length : Int)) <;> cases rooms.all (fun x => inB x 0 20) <;> cases ((needs.length : Int) == (Dist.length : Int)) <;> cases needs.all (fun x => inB x 0 5) <;> rfl
theorem i_Field_areNeeds_pc (Open : List Int) (Dist : List (List Int)) (rooms : List Int) (needs : List Int)  : PC Try.prog 182 [.agg [.sl (.ints Open), .sl (.rows Dist)], .sl (.ints rooms), .sl (.ints needs)] (.one (.d (.bool (rowOk rooms (Open.length : Int) 20 && rowOk needs (Dist.length : Int) 5)))) :=
  pc_wf @Try.call182 fun hw => pc_by (by kernel_rfl) Try.func182 @Try.call182 (by kernel_rfl) i_Field_areNeeds_C (i_Field_areNeeds_A Open Dist rooms needs) (by kernel_rfl) (i_Field_areNeeds_vc Open Dist rooms needs hw.1.1 hw.1.2.1.1 hw.1.2.1.2 hw.2.1 hw.2.2.1) (by kernel_rfl)
def i_Field_areNeeds_orc : List D → Orc := orcN [none, some .ints, some .ints] fun ds => match ds with
  | [.agg [.sl (.ints Open), .sl (.rows Dist)], .sl (.ints rooms), .sl (.ints needs)] => some (.one (.d (.bool (rowOk rooms (Open.length : Int) 20 && rowOk needs (Dist.length : Int) 5))))
  | _ => none
abbrev i_bagOf_JJ0 (list : List Int) (out : Int) (i : Int) : Prop := (0 ≤ i) ∧ (i ≤ (list.length : Int)) ∧ (out = ((bagTo list i.toNat : Nat) : Int))
abbrev i_bagOf_mJ0 (list : List Int) (out : Int) (i : Int) : Nat := (list.length - i).toNat
def i_bagOf_C (f : FuncId) (ds : List D) : Orc := .no
def i_bagOf_A (list : List Int) : Ann := .two (.none) (.two (.none) (.two (.two (.none) (.loop (cut2 (fun (out : Int) (i : Int) => i_bagOf_JJ0 list out i) (fun (out : Int) (i : Int) => [(3, .d true (.int .u64 out)), (6, .d false (.sl (.ints list))), (7, .d true (.int .i64 (list.length : Int))), (8, .d true (.int .i64 i))]) (fun (out : Int) (i : Int) => [])) (fun g => i_bagOf_mJ0 list g.1 g.2) (fun _ => .none))) (.none)))
def i_bagOf_P (list : List Int) : Prop :=
  ((∃ out' : Int, ∃ i' : Int, (i_bagOf_JJ0 list out' i') ∧ ((0 : Int) = out') ∧ (list = list) ∧ ((list.length : Int) = (list.length : Int)) ∧ ((0 : Int) = i')) ∧ (∀ out : Int, ∀ i : Int, (i_bagOf_JJ0 list out i) → (((decide (i < (list.length : Int))) = true → ((0 : Int) ≤ i) ∧ ((i : Int) < list.length) ∧ (i.toNat < list.length) ∧ ((0 : Int) ≤ 1) ∧ ((0 : Int) ≤ (list.getD i.toNat 0)) ∧ ((0 : Int) ≤ ((1 : Int) * 2 ^ ((list.getD i.toNat 0).toNat)) ∧ (((1 : Int) * 2 ^ ((list.getD i.toNat 0).toNat)) : Int) ≤ 18446744073709551615) ∧ ((0 : Int) ≤ out ∧ (out : Int) ≤ 18446744073709551615) ∧ ((0 : Int) ≤ ((1 : Int) * 2 ^ ((list.getD i.toNat 0).toNat)) ∧ (((1 : Int) * 2 ^ ((list.getD i.toNat 0).toNat)) : Int) ≤ 18446744073709551615) ∧ (-9223372036854775808 ≤ (i + 1) ∧ (i + 1) ≤ 9223372036854775807) ∧ (∃ out' : Int, ∃ i' : Int, (i_bagOf_JJ0 list out' i') ∧ (i_bagOf_mJ0 list out' i' < i_bagOf_mJ0 list out i) ∧ (((out.toNat ||| ((1 : Int) * 2 ^ ((list.getD i.toNat 0).toNat)).toNat : Nat) : Int) = out') ∧ (list = list) ∧ ((list.length : Int) = (list.length : Int)) ∧ ((i + 1) = i'))) ∧ ((decide (i < (list.length : Int))) = false → ((out = ((bagN list : Nat) : Int)))))))
theorem i_bagOf_vc (list : List Int) (hb : ∀ x ∈ list, 0 ≤ x ∧ x < 62) (w_list : (list.length : Int) ≤ 9223372036854775807) : i_bagOf_P list := by
  unfold i_bagOf_P
  have lt := bagTo_lt (m := 62) hb
  have he : (2 : Nat) ^ 62 = 4611686018427387904 := by decide
  refine ⟨?_, ?_⟩
  · refine ⟨0, 0, ?_⟩
    refine ⟨?_, rfl, rfl, rfl, rfl⟩
    · refine ⟨?_, ?_, ?_⟩
      · first | omega | rfl | (intro hg; simp only [nrmT] at hg; omega) | (intro g1 g2; simp [g1, g2]; done) | (intro g1; simp at g1 ⊢; simp [g1]; done) | (simp only [nrmT] at *; omega) | (simp at * <;> omega) | (simp_all <;> omega) | (simp_all; done)
      · first | omega | rfl | (intro hg; simp only [nrmT] at hg; omega) | (intro g1 g2; simp [g1, g2]; done) | (intro g1; simp at g1 ⊢; simp [g1]; done) | (simp only [nrmT] at *; omega) | (simp at * <;> omega) | (simp_all <;> omega) | (simp_all; done)
      · first | omega | rfl | (intro hg; simp only [nrmT] at hg; omega) | (intro g1 g2; simp [g1, g2]; done) | (intro g1; simp at g1 ⊢; simp [g1]; done) | (simp only [nrmT] at *; omega) | (simp at * <;> omega) | (simp_all <;> omega) | (simp_all; done)
  · intro out i hJ
    obtain ⟨h1, h2, h3⟩ := hJ
    refine ⟨?_, ?_⟩
    · intro b1
      try simp only [nrmT] at b1
      refine ⟨?_, ?_, ?_, ?_, ?_, ?_, ?_, ?_, ?_, ?_⟩
      · first | omega | rfl | (intro hg; simp only [nrmT] at hg; omega) | (intro g1 g2; simp [g1, g2]; done) | (intro g1; simp at g1 ⊢; simp [g1]; done) | (simp only [nrmT] at *; omega) | (simp at * <;> omega) | (simp_all <;> omega) | (simp_all; done)
      · first | omega | rfl | (intro hg; simp only [nrmT] at hg; omega) | (intro g1 g2; simp [g1, g2]; done) | (intro g1; simp at g1 ⊢; simp [g1]; done) | (simp only [nrmT] at *; omega) | (simp at * <;> omega) | (simp_all <;> omega) | (simp_all; done)
      · first | omega | rfl | (intro hg; simp only [nrmT] at hg; omega) | (intro g1 g2; simp [g1, g2]; done) | (intro g1; simp at g1 ⊢; simp [g1]; done) | (simp only [nrmT] at *; omega) | (simp at * <;> omega) | (simp_all <;> omega) | (simp_all; done)
      · first | omega | rfl | (intro hg; simp only [nrmT] at hg; omega) | (intro g1 g2; simp [g1, g2]; done) | (intro g1; simp at g1 ⊢; simp [g1]; done) | (simp only [nrmT] at *; omega) | (simp at * <;> omega) | (simp_all <;> omega) | (simp_all; done)
      · have := hb _ (getD_memI (d := 0) h1 (by omega))
        omega
      · have h7 := hb _ (getD_memI (d := 0) h1 (by omega))
        have h8 := pow_le (x := list.getD i.toNat 0) (m := 62) (by omega)
        rw [he] at h8
        omega
      · have := lt i.toNat (by omega)
        omega
      · have h7 := hb _ (getD_memI (d := 0) h1 (by omega))
        have h8 := pow_le (x := list.getD i.toNat 0) (m := 62) (by omega)
        rw [he] at h8
        omega
      · first | omega | rfl | (intro hg; simp only [nrmT] at hg; omega) | (intro g1 g2; simp [g1, g2]; done) | (intro g1; simp at g1 ⊢; simp [g1]; done) | (simp only [nrmT] at *; omega) | (simp at * <;> omega) | (simp_all <;> omega) | (simp_all; done)
      · refine ⟨((out.toNat ||| ((1 : Int) * 2 ^ ((list.getD i.toNat 0).toNat)).toNat : Nat) : Int), (i + 1), ?_⟩
        refine ⟨?_, ?_, rfl, rfl, rfl, rfl⟩
        · refine ⟨?_, ?_, ?_⟩
          · first | omega | rfl | (intro hg; simp only [nrmT] at hg; omega) | (intro g1 g2; simp [g1, g2]; done) | (intro g1; simp at g1 ⊢; simp [g1]; done) | (simp only [nrmT] at *; omega) | (simp at * <;> omega) | (simp_all <;> omega) | (simp_all; done)
          · first | omega | rfl | (intro hg; simp only [nrmT] at hg; omega) | (intro g1 g2; simp [g1, g2]; done) | (intro g1; simp at g1 ⊢; simp [g1]; done) | (simp only [nrmT] at *; omega) | (simp at * <;> omega) | (simp_all <;> omega) | (simp_all; done)
          · have e : (i + 1).toNat = i.toNat + 1 := by omega
            rw [one_pow, h3, Int.toNat_natCast, e]
            rfl
        · first | (show _ < _; omega) | (simp only [i_bagOf_mJ0]; omega) | (simp only [i_bagOf_mJ0] at *; simp at *; omega)
    · intro b2
      try simp only [nrmT] at b2
      rw [h3]
      unfold bagN
      rw [show i.toNat = list.length by omega]
theorem i_bagOf_pc (list : List Int) (hb : ∀ x ∈ list, 0 ≤ x ∧ x < 62) : PC Try.prog 139 [.sl (.ints list)] (.one (.d (.int .u64 ((bagN list : Nat) : Int)))) :=
  pc_wf @Try.call139 fun hw => pc_by (by kernel_rfl) Try.func139 @Try.call139 (by kernel_rfl) i_bagOf_C (i_bagOf_A list) (by kernel_rfl) (i_bagOf_vc list hb hw.1) (by kernel_rfl)
def i_bagOf_orc : List D → Orc := orcN [some .ints] fun ds => match ds with
  | [.sl (.ints list)] => some (.one (.d (.int .u64 ((bagN list : Nat) : Int))))
  | _ => none
def i_bag_has_C (f : FuncId) (ds : List D) : Orc := .no
def i_bag_has_A (b : Int) (x : Int) : Ann := .none
def i_bag_has_P (b : Int) (x : Int) : Prop :=
  ((0 : Int) ≤ b ∧ (b : Int) ≤ 18446744073709551615) ∧ ((0 : Int) ≤ x) ∧ ((0 : Int) ≤ (b / 2 ^ x.toNat) ∧ ((b / 2 ^ x.toNat) : Int) ≤ 18446744073709551615) ∧ ((0 : Int) ≤ 1 ∧ (1 : Int) ≤ 18446744073709551615) ∧ ((((((b / 2 ^ x.toNat).toNat &&& 1 : Nat) : Int) == 1) = (b.toNat.testBit x.toNat)))
theorem i_bag_has_vc (b : Int) (x : Int) (hb : 0 ≤ b ∧ b ≤ 4611686018427387903) (hx : 0 ≤ x)  : i_bag_has_P b x := by
  unfold i_bag_has_P
  refine ⟨?_, ?_, ?_, ?_, ?_⟩
  · first | omega | rfl | (intro hg; simp only [nrmT] at hg; omega) | (intro g1 g2; simp [g1, g2]; done) | (intro g1; simp at g1 ⊢; simp [g1]; done) | (simp only [nrmT] at *; omega) | (simp at * <;> omega) | (simp_all <;> omega) | (simp_all; done)
  · first | omega | rfl | (intro hg; simp only [nrmT] at hg; omega) | (intro g1 g2; simp [g1, g2]; done) | (intro g1; simp at g1 ⊢; simp [g1]; done) | (simp only [nrmT] at *; omega) | (simp at * <;> omega) | (simp_all <;> omega) | (simp_all; done)
  · have h1 : 0 ≤ b / 2 ^ x.toNat := Int.ediv_nonneg hb.1 (Int.le_of_lt (Int.pow_pos (by omega)))
    have h2 : b / 2 ^ x.toNat ≤ b := Int.ediv_le_self _ hb.1
    omega
  · first | omega | rfl | (intro hg; simp only [nrmT] at hg; omega) | (intro g1 g2; simp [g1, g2]; done) | (intro g1; simp at g1 ⊢; simp [g1]; done) | (simp only [nrmT] at *; omega) | (simp at * <;> omega) | (simp_all <;> omega) | (simp_all; done)
  · have e : b = ((b.toNat : Nat) : Int) := by omega
    have h := shr_bit (n := b.toNat) (k := x.toNat)
    rw [← e] at h
    rw [h]
    cases b.toNat.testBit x.toNat <;> rfl
theorem i_bag_has_pc (b : Int) (x : Int) (hb : 0 ≤ b ∧ b ≤ 4611686018427387903) (hx : 0 ≤ x) : PC Try.prog 183 [.int .u64 b, .int .i64 x] (.one (.d (.bool (b.toNat.testBit x.toNat)))) :=
  pc_wf @Try.call183 fun _ => pc_by (by kernel_rfl) Try.func183 @Try.call183 (by kernel_rfl) i_bag_has_C (i_bag_has_A b x) (by kernel_rfl) (i_bag_has_vc b x hb hx) (by kernel_rfl)
def i_bag_has_orc : List D → Orc := orcN [none, none] fun ds => match ds with
  | [.int .u64 b, .int .i64 x] => some (.one (.d (.bool (b.toNat.testBit x.toNat))))
  | _ => none
theorem rising_mem {xs : List Int} {lo hi : Int} (h : rising xs lo hi = true) : ∀ x ∈ xs, lo ≤ x ∧ x ≤ hi := by
  intro x hx
  obtain ⟨k, hk, rfl⟩ := List.mem_iff_getElem.1 hx
  have := rising_at h k hk
  simp [hk] at this
  omega
theorem getD_get {α : Type} {xs : List α} {k : Nat} {d : α} (h : k < xs.length) : xs.getD k d = xs[k] := by simp [h]
theorem has_end {xs : List Int} {x i : Int} (h2 : (xs.length : Int) ≤ i) (h3 : ∀ k, k < i.toNat → (fun y => x == y) (xs.getD k 0) = false) : xs.contains x = false := by
  rw [List.contains_eq_any_beq, List.any_eq_false]
  intro y hy
  obtain ⟨k, hk, rfl⟩ := List.mem_iff_getElem.1 hy
  have := h3 k (by omega)
  simp [hk] at this
  simpa using this
theorem has_found {xs : List Int} {x i : Int} (h1 : 0 ≤ i) (h2 : i < (xs.length : Int)) (h : xs.getD i.toNat 0 = x) : xs.contains x = true := by
  rw [List.contains_iff_mem, ← h]; exact getD_memI h1 h2
abbrev s_l1Has_JJ0 (xs : List Int) (x : Int) (i : Int) : Prop := (0 ≤ i) ∧ (i ≤ (xs.length : Int)) ∧ (∀ k, k < i.toNat → (fun y => x == y) (xs.getD k 0) = false)
abbrev s_l1Has_mJ0 (xs : List Int) (x : Int) (i : Int) : Nat := (xs.length - i).toNat
def s_l1Has_C (f : FuncId) (ds : List D) : Orc := .no
def s_l1Has_A (xs : List Int) (x : Int) : Ann := .two (.none) (.two (.two (.none) (.loop (cut1 (fun (i : Int) => s_l1Has_JJ0 xs x i) (fun (i : Int) => [(0, .d false (.sl (.ints xs))), (1, .d false (.int .i64 x)), (5, .d true (.int .i64 i))]) (fun (i : Int) => [])) (fun g => s_l1Has_mJ0 xs x g) (fun _ => .none))) (.none))
def s_l1Has_P (xs : List Int) (x : Int) : Prop :=
  ((∃ i' : Int, (s_l1Has_JJ0 xs x i') ∧ (xs = xs) ∧ (x = x) ∧ ((0 : Int) = i')) ∧ (∀ i : Int, (s_l1Has_JJ0 xs x i) → (((decide (i < (xs.length : Int))) = true → ((0 : Int) ≤ i) ∧ ((i : Int) < xs.length) ∧ (i.toNat < xs.length) ∧ ((((xs.getD i.toNat 0) == x) = true → ((true = (xs.contains x)))) ∧ (((xs.getD i.toNat 0) == x) = false → (-9223372036854775808 ≤ (i + 1) ∧ (i + 1) ≤ 9223372036854775807) ∧ (∃ i' : Int, (s_l1Has_JJ0 xs x i') ∧ (s_l1Has_mJ0 xs x i' < s_l1Has_mJ0 xs x i) ∧ (xs = xs) ∧ (x = x) ∧ ((i + 1) = i'))))) ∧ ((decide (i < (xs.length : Int))) = false → ((false = (xs.contains x)))))))
theorem s_l1Has_vc (xs : List Int) (x : Int)  (w_xs : (xs.length : Int) ≤ 9223372036854775807) : s_l1Has_P xs x := by
  unfold s_l1Has_P
  refine ⟨?_, ?_⟩
  · refine ⟨0, ?_⟩
    refine ⟨?_, rfl, rfl, rfl⟩
    · refine ⟨?_, ?_, ?_⟩
      · first | omega | rfl | (intro hg; simp only [nrmT] at hg; omega) | (intro g1 g2; simp [g1, g2]; done) | (intro g1; simp at g1 ⊢; simp [g1]; done) | (simp only [nrmT] at *; omega) | (simp at * <;> omega) | (simp_all <;> omega) | (simp_all; done)
      · first | omega | rfl | (intro hg; simp only [nrmT] at hg; omega) | (intro g1 g2; simp [g1, g2]; done) | (intro g1; simp at g1 ⊢; simp [g1]; done) | (simp only [nrmT] at *; omega) | (simp at * <;> omega) | (simp_all <;> omega) | (simp_all; done)
      · first | omega | rfl | (intro hg; simp only [nrmT] at hg; omega) | (intro g1 g2; simp [g1, g2]; done) | (intro g1; simp at g1 ⊢; simp [g1]; done) | (simp only [nrmT] at *; omega) | (simp at * <;> omega) | (simp_all <;> omega) | (simp_all; done)
  · intro i hJ
    obtain ⟨h1, h2, h3⟩ := hJ
    refine ⟨?_, ?_⟩
    · intro b1
      try simp only [nrmT] at b1
      refine ⟨?_, ?_, ?_, ?_, ?_⟩
      · first | omega | rfl | (intro hg; simp only [nrmT] at hg; omega) | (intro g1 g2; simp [g1, g2]; done) | (intro g1; simp at g1 ⊢; simp [g1]; done) | (simp only [nrmT] at *; omega) | (simp at * <;> omega) | (simp_all <;> omega) | (simp_all; done)
      · first | omega | rfl | (intro hg; simp only [nrmT] at hg; omega) | (intro g1 g2; simp [g1, g2]; done) | (intro g1; simp at g1 ⊢; simp [g1]; done) | (simp only [nrmT] at *; omega) | (simp at * <;> omega) | (simp_all <;> omega) | (simp_all; done)
      · first | omega | rfl | (intro hg; simp only [nrmT] at hg; omega) | (intro g1 g2; simp [g1, g2]; done) | (intro g1; simp at g1 ⊢; simp [g1]; done) | (simp only [nrmT] at *; omega) | (simp at * <;> omega) | (simp_all <;> omega) | (simp_all; done)
      · intro b2
        try simp only [nrmT] at b2
        exact (has_found h1 b1 b2).symm
      · intro b3
        try simp only [nrmT] at b3
        refine ⟨?_, ?_⟩
        · first | omega | rfl | (intro hg; simp only [nrmT] at hg; omega) | (intro g1 g2; simp [g1, g2]; done) | (intro g1; simp at g1 ⊢; simp [g1]; done) | (simp only [nrmT] at *; omega) | (simp at * <;> omega) | (simp_all <;> omega) | (simp_all; done)
        · refine ⟨(i + 1), ?_⟩
          refine ⟨?_, ?_, rfl, rfl, rfl⟩
          · refine ⟨?_, ?_, ?_⟩
            · first | omega | rfl | (intro hg; simp only [nrmT] at hg; omega) | (intro g1 g2; simp [g1, g2]; done) | (intro g1; simp at g1 ⊢; simp [g1]; done) | (simp only [nrmT] at *; omega) | (simp at * <;> omega) | (simp_all <;> omega) | (simp_all; done)
            · first | omega | rfl | (intro hg; simp only [nrmT] at hg; omega) | (intro g1 g2; simp [g1, g2]; done) | (intro g1; simp at g1 ⊢; simp [g1]; done) | (simp only [nrmT] at *; omega) | (simp at * <;> omega) | (simp_all <;> omega) | (simp_all; done)
            · exact idx_step (p := fun y => x == y) h1 h3 (by simp only [beq_eq_false_iff_ne]; exact fun h => b3 h.symm)
          · first | (show _ < _; omega) | (simp only [s_l1Has_mJ0]; omega) | (simp only [s_l1Has_mJ0] at *; simp at *; omega)
    · intro b4
      try simp only [nrmT] at b4
      exact (has_end (by omega) h3).symm
theorem s_l1Has_pc (xs : List Int) (x : Int)  : PC Try.prog 122 [.sl (.ints xs), .int .i64 x] (.one (.d (.bool (xs.contains x)))) :=
  pc_wf @Try.call122 fun hw => pc_by (by kernel_rfl) Try.func122 @Try.call122 (by kernel_rfl) s_l1Has_C (s_l1Has_A xs x) (by kernel_rfl) (s_l1Has_vc xs x hw.1) (by kernel_rfl)
def s_l1Has_orc : List D → Orc := orcN [some .ints, none] fun ds => match ds with
  | [.sl (.ints xs), .int .i64 x] => some (.one (.d (.bool (xs.contains x))))
  | _ => none
def s_l2Set_C (f : FuncId) (ds : List D) : Orc := bif Nat.beq f 200 then s_l1Rising_orc ds else .no
def s_l2Set_A (Open : List Int) (Dist : List (List Int)) (set : List Int) : Ann := .none
def s_l2Set_P (Open : List Int) (Dist : List (List Int)) (set : List Int) : Prop :=
  (-9223372036854775808 ≤ ((Open.length : Int) - 1) ∧ ((Open.length : Int) - 1) ≤ 9223372036854775807) ∧ (PC Try.prog 200 [.sl (.ints set), .int .i64 0, .int .i64 ((Open.length : Int) - 1)] (.one (.d (.bool (rising set 0 ((Open.length : Int) - 1)))))) ∧ (((rising set 0 ((Open.length : Int) - 1)) = (rising set 0 ((Open.length : Int) - 1))))
theorem s_l2Set_vc (Open : List Int) (Dist : List (List Int)) (set : List Int)  (w_Open : (Open.length : Int) ≤ 9223372036854775807) (w_Dist : (Dist.length : Int) ≤ 9223372036854775807) (v_Dist : ∀ x9 ∈ Dist, (x9.length : Int) ≤ 9223372036854775807) (w_set : (set.length : Int) ≤ 9223372036854775807) : s_l2Set_P Open Dist set := by
  unfold s_l2Set_P
  refine ⟨?_, s_l1Rising_pc set 0 ((Open.length : Int) - 1), rfl⟩
  · first | omega | rfl | (intro hg; simp only [nrmT] at hg; omega) | (intro g1 g2; simp [g1, g2]; done) | (intro g1; simp at g1 ⊢; simp [g1]; done) | (simp only [nrmT] at *; omega) | (simp at * <;> omega) | (simp_all <;> omega) | (simp_all; done)
theorem s_l2Set_pc (Open : List Int) (Dist : List (List Int)) (set : List Int)  : PC Try.prog 172 [.agg [.sl (.ints Open), .sl (.rows Dist)], .sl (.ints set)] (.one (.d (.bool (rising set 0 ((Open.length : Int) - 1))))) :=
  pc_wf @Try.call172 fun hw => pc_by (by kernel_rfl) Try.func172 @Try.call172 (by kernel_rfl) s_l2Set_C (s_l2Set_A Open Dist set) (by kernel_rfl) (s_l2Set_vc Open Dist set hw.1.1 hw.1.2.1.1 hw.1.2.1.2 hw.2.1) (by kernel_rfl)
def s_l2Set_orc : List D → Orc := orcN [none, some .ints] fun ds => match ds with
  | [.agg [.sl (.ints Open), .sl (.rows Dist)], .sl (.ints set)] => some (.one (.d (.bool (rising set 0 ((Open.length : Int) - 1)))))
  | _ => none
def s_l2Two_C (f : FuncId) (ds : List D) : Orc := bif Nat.beq f 99 then s_l2Good_orc ds else bif Nat.beq f 172 then s_l2Set_orc ds else .no
def s_l2Two_A (Open : List Int) (Dist : List (List Int)) (set : List Int) : Ann := .none
def s_l2Two_P (Open : List Int) (Dist : List (List Int)) (set : List Int) : Prop :=
  (PC Try.prog 99 [.agg [.sl (.ints Open), .sl (.rows Dist)]] (.one (.d (.bool (goodField Open Dist))))) ∧ ((goodField Open Dist) = true → (goodField Open Dist) = true) ∧ ((goodField Open Dist) = true → (goodField Open Dist) = true) ∧ ((goodField Open Dist) = true → PC Try.prog 172 [.agg [.sl (.ints Open), .sl (.rows Dist)], .sl (.ints set)] (.one (.d (.bool (rising set 0 ((Open.length : Int) - 1)))))) ∧ (true = true) ∧ (((goodField Open Dist) = true → (goodField Open Dist) = true)) ∧ (((goodField Open Dist) = false → true = true)) ∧ ((cond (goodField Open Dist) (rising set 0 ((Open.length : Int) - 1)) false) = true → (cond (goodField Open Dist) (rising set 0 ((Open.length : Int) - 1)) false) = true) ∧ ((cond (goodField Open Dist) (rising set 0 ((Open.length : Int) - 1)) false) = true → (cond (goodField Open Dist) (rising set 0 ((Open.length : Int) - 1)) false) = true) ∧ (true = true) ∧ (((cond (goodField Open Dist) (rising set 0 ((Open.length : Int) - 1)) false) = true → (cond (goodField Open Dist) (rising set 0 ((Open.length : Int) - 1)) false) = true)) ∧ (((cond (goodField Open Dist) (rising set 0 ((Open.length : Int) - 1)) false) = false → true = true)) ∧ (((cond (cond (goodField Open Dist) (rising set 0 ((Open.length : Int) - 1)) false) (decide ((set.length : Int) > 0)) false) = (goodField Open Dist && rising set 0 ((Open.length : Int) - 1) && decide (0 < set.length))))
theorem s_l2Two_vc (Open : List Int) (Dist : List (List Int)) (set : List Int)  (w_Open : (Open.length : Int) ≤ 9223372036854775807) (w_Dist : (Dist.length : Int) ≤ 9223372036854775807) (v_Dist : ∀ x9 ∈ Dist, (x9.length : Int) ≤ 9223372036854775807) (w_set : (set.length : Int) ≤ 9223372036854775807) : s_l2Two_P Open Dist set := by
  unfold s_l2Two_P
  refine ⟨s_l2Good_pc Open Dist, id, id, fun _ => s_l2Set_pc Open Dist set, rfl, id, fun _ => rfl, id, id, rfl, id, fun _ => rfl, ?_⟩
  · rw [(show decide ((set.length : Int) > 0) = decide (0 < set.length) by rw [Bool.eq_iff_iff]; simp only [decide_eq_true_eq]; omega)]
    cases goodField Open Dist <;> cases rising set 0 ((Open.length : Int) - 1) <;> cases decide (0 < set.length) <;> rfl
theorem s_l2Two_pc (Open : List Int) (Dist : List (List Int)) (set : List Int)  : PC Try.prog 109 [.agg [.sl (.ints Open), .sl (.rows Dist)], .sl (.ints set)] (.one (.d (.bool (goodField Open Dist && rising set 0 ((Open.length : Int) - 1) && decide (0 < set.length))))) :=
  pc_wf @Try.call109 fun hw => pc_by (by kernel_rfl) Try.func109 @Try.call109 (by kernel_rfl) s_l2Two_C (s_l2Two_A Open Dist set) (by kernel_rfl) (s_l2Two_vc Open Dist set hw.1.1 hw.1.2.1.1 hw.1.2.1.2 hw.2.1) (by kernel_rfl)
def s_l2Two_orc : List D → Orc := orcN [none, some .ints] fun ds => match ds with
  | [.agg [.sl (.ints Open), .sl (.rows Dist)], .sl (.ints set)] => some (.one (.d (.bool (goodField Open Dist && rising set 0 ((Open.length : Int) - 1) && decide (0 < set.length)))))
  | _ => none
def i_Field_isSet_C (f : FuncId) (ds : List D) : Orc := bif Nat.beq f 161 then i_isRising_orc ds else .no
def i_Field_isSet_A (Open : List Int) (Dist : List (List Int)) (set : List Int) : Ann := .none
def i_Field_isSet_P (Open : List Int) (Dist : List (List Int)) (set : List Int) : Prop :=
  ((decide ((set.length : Int) > 0)) = true → (decide ((set.length : Int) > 0)) = true) ∧ ((decide ((set.length : Int) > 0)) = true → (decide ((set.length : Int) > 0)) = true) ∧ ((decide ((set.length : Int) > 0)) = true → (decide ((set.length : Int) > 0)) = true) ∧ ((decide ((set.length : Int) > 0)) = true → (decide ((set.length : Int) > 0)) = true) ∧ ((decide ((set.length : Int) > 0)) = true → PC Try.prog 161 [.sl (.ints set), .int .i64 (Open.length : Int)] (.one (.d (.bool (rising set 0 ((Open.length : Int) - 1)))))) ∧ (true = true) ∧ (((decide ((set.length : Int) > 0)) = true → (decide ((set.length : Int) > 0)) = true)) ∧ (((decide ((set.length : Int) > 0)) = false → true = true)) ∧ (((cond (decide ((set.length : Int) > 0)) (rising set 0 ((Open.length : Int) - 1)) false) = (rising set 0 ((Open.length : Int) - 1) && decide (0 < set.length))))
theorem i_Field_isSet_vc (Open : List Int) (Dist : List (List Int)) (set : List Int)  (w_Open : (Open.length : Int) ≤ 9223372036854775807) (w_Dist : (Dist.length : Int) ≤ 9223372036854775807) (v_Dist : ∀ x9 ∈ Dist, (x9.length : Int) ≤ 9223372036854775807) (w_set : (set.length : Int) ≤ 9223372036854775807) : i_Field_isSet_P Open Dist set := by
  unfold i_Field_isSet_P
  refine ⟨id, id, id, id, ?_, rfl, id, fun _ => rfl, ?_⟩
  · intro hg
    refine i_isRising_pc set (Open.length : Int) ?_
    · first | omega | rfl | (intro hg; simp only [nrmT] at hg; omega) | (intro g1 g2; simp [g1, g2]; done) | (intro g1; simp at g1 ⊢; simp [g1]; done) | (simp only [nrmT] at *; omega) | (simp at * <;> omega) | (simp_all <;> omega) | (simp_all; done)
  · rw [(show decide ((set.length : Int) > 0) = decide (0 < set.length) by rw [Bool.eq_iff_iff]; simp only [decide_eq_true_eq]; omega)]
    cases rising set 0 ((Open.length : Int) - 1) <;> cases decide (0 < set.length) <;> rfl
theorem i_Field_isSet_pc (Open : List Int) (Dist : List (List Int)) (set : List Int)  : PC Try.prog 173 [.agg [.sl (.ints Open), .sl (.rows Dist)], .sl (.ints set)] (.one (.d (.bool (rising set 0 ((Open.length : Int) - 1) && decide (0 < set.length))))) :=
  pc_wf @Try.call173 fun hw => pc_by (by kernel_rfl) Try.func173 @Try.call173 (by kernel_rfl) i_Field_isSet_C (i_Field_isSet_A Open Dist set) (by kernel_rfl) (i_Field_isSet_vc Open Dist set hw.1.1 hw.1.2.1.1 hw.1.2.1.2 hw.2.1) (by kernel_rfl)
def i_Field_isSet_orc : List D → Orc := orcN [none, some .ints] fun ds => match ds with
  | [.agg [.sl (.ints Open), .sl (.rows Dist)], .sl (.ints set)] => some (.one (.d (.bool (rising set 0 ((Open.length : Int) - 1) && decide (0 < set.length)))))
  | _ => none
def i_isOpened_C (f : FuncId) (ds : List D) : Orc := bif Nat.beq f 106 then i_IsField_orc ds else bif Nat.beq f 173 then i_Field_isSet_orc ds else .no
def i_isOpened_A (Open : List Int) (Dist : List (List Int)) (set : List Int) : Ann := .none
def i_isOpened_P (Open : List Int) (Dist : List (List Int)) (set : List Int) : Prop :=
  (PC Try.prog 106 [.agg [.sl (.ints Open), .sl (.rows Dist)]] (.one (.d (.bool (goodField Open Dist))))) ∧ ((goodField Open Dist) = true → (goodField Open Dist) = true) ∧ ((goodField Open Dist) = true → (goodField Open Dist) = true) ∧ ((goodField Open Dist) = true → PC Try.prog 173 [.agg [.sl (.ints Open), .sl (.rows Dist)], .sl (.ints set)] (.one (.d (.bool (rising set 0 ((Open.length : Int) - 1) && decide (0 < set.length)))))) ∧ (true = true) ∧ (((goodField Open Dist) = true → (goodField Open Dist) = true)) ∧ (((goodField Open Dist) = false → true = true)) ∧ (((cond (goodField Open Dist) (rising set 0 ((Open.length : Int) - 1) && decide (0 < set.length)) false) = (goodField Open Dist && rising set 0 ((Open.length : Int) - 1) && decide (0 < set.length))))
theorem i_isOpened_vc (Open : List Int) (Dist : List (List Int)) (set : List Int)  (w_Open : (Open.length : Int) ≤ 9223372036854775807) (w_Dist : (Dist.length : Int) ≤ 9223372036854775807) (v_Dist : ∀ x9 ∈ Dist, (x9.length : Int) ≤ 9223372036854775807) (w_set : (set.length : Int) ≤ 9223372036854775807) : i_isOpened_P Open Dist set := by
  unfold i_isOpened_P
  refine ⟨i_IsField_pc Open Dist, id, id, fun _ => i_Field_isSet_pc Open Dist set, rfl, id, fun _ => rfl, ?_⟩
  · cases goodField Open Dist <;> cases rising set 0 ((Open.length : Int) - 1) <;> cases decide (0 < set.length) <;> rfl
theorem i_isOpened_pc (Open : List Int) (Dist : List (List Int)) (set : List Int)  : PC Try.prog 111 [.agg [.sl (.ints Open), .sl (.rows Dist)], .sl (.ints set)] (.one (.d (.bool (goodField Open Dist && rising set 0 ((Open.length : Int) - 1) && decide (0 < set.length))))) :=
  pc_wf @Try.call111 fun hw => pc_by (by kernel_rfl) Try.func111 @Try.call111 (by kernel_rfl) i_isOpened_C (i_isOpened_A Open Dist set) (by kernel_rfl) (i_isOpened_vc Open Dist set hw.1.1 hw.1.2.1.1 hw.1.2.1.2 hw.2.1) (by kernel_rfl)
def i_isOpened_orc : List D → Orc := orcN [none, some .ints] fun ds => match ds with
  | [.agg [.sl (.ints Open), .sl (.rows Dist)], .sl (.ints set)] => some (.one (.d (.bool (goodField Open Dist && rising set 0 ((Open.length : Int) - 1) && decide (0 < set.length)))))
  | _ => none
theorem two_facts {Open set : List Int} {Dist : List (List Int)} (h : (goodField Open Dist && rising set 0 ((Open.length : Int) - 1) && decide (0 < set.length)) = true) :
    goodField Open Dist = true ∧ rising set 0 ((Open.length : Int) - 1) = true ∧ 0 < set.length := by
  simp only [Bool.and_eq_true, decide_eq_true_eq] at h
  exact ⟨h.1.1, h.1.2, h.2⟩
theorem open_bit {set : List Int} {n : Int} (hs : rising set 0 n = true) {a : Int} (ha : 0 ≤ a) : (((bagN set : Nat) : Int).toNat.testBit a.toNat) = set.contains a := by
  rw [Int.toNat_natCast, bagN_bit (fun x hx => (rising_mem hs x hx).1), show ((a.toNat : Nat) : Int) = a by omega]
def s_l7Given_C (f : FuncId) (ds : List D) : Orc := bif Nat.beq f 109 then s_l2Two_orc ds else bif Nat.beq f 179 then s_l7Needs_orc ds else .no
def s_l7Given_A (Open : List Int) (Dist : List (List Int)) (rooms : List Int) (needs : List Int) (set : List Int) : Ann := .none
def s_l7Given_P (Open : List Int) (Dist : List (List Int)) (rooms : List Int) (needs : List Int) (set : List Int) : Prop :=
  (PC Try.prog 109 [.agg [.sl (.ints Open), .sl (.rows Dist)], .sl (.ints set)] (.one (.d (.bool (goodField Open Dist && rising set 0 ((Open.length : Int) - 1) && decide (0 < set.length)))))) ∧ ((goodField Open Dist && rising set 0 ((Open.length : Int) - 1) && decide (0 < set.length)) = true → (goodField Open Dist && rising set 0 ((Open.length : Int) - 1) && decide (0 < set.length)) = true) ∧ ((goodField Open Dist && rising set 0 ((Open.length : Int) - 1) && decide (0 < set.length)) = true → (goodField Open Dist && rising set 0 ((Open.length : Int) - 1) && decide (0 < set.length)) = true) ∧ ((goodField Open Dist && rising set 0 ((Open.length : Int) - 1) && decide (0 < set.length)) = true → (goodField Open Dist && rising set 0 ((Open.length : Int) - 1) && decide (0 < set.length)) = true) ∧ ((goodField Open Dist && rising set 0 ((Open.length : Int) - 1) && decide (0 < set.length)) = true → PC Try.prog 179 [.agg [.sl (.ints Open), .sl (.rows Dist)], .sl (.ints rooms), .sl (.ints needs)] (.one (.d (.bool (rowOk rooms (Open.length : Int) 20 && rowOk needs (Dist.length : Int) 5))))) ∧ (true = true) ∧ (((goodField Open Dist && rising set 0 ((Open.length : Int) - 1) && decide (0 < set.length)) = true → (goodField Open Dist && rising set 0 ((Open.length : Int) - 1) && decide (0 < set.length)) = true)) ∧ (((goodField Open Dist && rising set 0 ((Open.length : Int) - 1) && decide (0 < set.length)) = false → true = true)) ∧ (((cond (goodField Open Dist && rising set 0 ((Open.length : Int) - 1) && decide (0 < set.length)) (rowOk rooms (Open.length : Int) 20 && rowOk needs (Dist.length : Int) 5) false) = ((goodField Open Dist && rising set 0 ((Open.length : Int) - 1) && decide (0 < set.length)) && (rowOk rooms (Open.length : Int) 20 && rowOk needs (Dist.length : Int) 5))))
theorem s_l7Given_vc (Open : List Int) (Dist : List (List Int)) (rooms : List Int) (needs : List Int) (set : List Int)  (w_Open : (Open.length : Int) ≤ 9223372036854775807) (w_Dist : (Dist.length : Int) ≤ 9223372036854775807) (v_Dist : ∀ x9 ∈ Dist, (x9.length : Int) ≤ 9223372036854775807) (w_rooms : (rooms.length : Int) ≤ 9223372036854775807) (w_needs : (needs.length : Int) ≤ 9223372036854775807) (w_set : (set.length : Int) ≤ 9223372036854775807) : s_l7Given_P Open Dist rooms needs set := by
  unfold s_l7Given_P
  refine ⟨s_l2Two_pc Open Dist set, id, id, id, fun _ => s_l7Needs_pc Open Dist rooms needs, rfl, id, fun _ => rfl, ?_⟩
  · first | omega | rfl | (intro hg; simp only [nrmT] at hg; omega) | (intro g1 g2; simp [g1, g2]; done) | (intro g1; simp at g1 ⊢; simp [g1]; done) | (simp only [nrmT] at *; omega) | (simp at * <;> omega) | (simp_all <;> omega) | (simp_all; done)
theorem s_l7Given_pc (Open : List Int) (Dist : List (List Int)) (rooms : List Int) (needs : List Int) (set : List Int)  : PC Try.prog 129 [.agg [.sl (.ints Open), .sl (.rows Dist)], .sl (.ints rooms), .sl (.ints needs), .sl (.ints set)] (.one (.d (.bool ((goodField Open Dist && rising set 0 ((Open.length : Int) - 1) && decide (0 < set.length)) && (rowOk rooms (Open.length : Int) 20 && rowOk needs (Dist.length : Int) 5))))) :=
  pc_wf @Try.call129 fun hw => pc_by (by kernel_rfl) Try.func129 @Try.call129 (by kernel_rfl) s_l7Given_C (s_l7Given_A Open Dist rooms needs set) (by kernel_rfl) (s_l7Given_vc Open Dist rooms needs set hw.1.1 hw.1.2.1.1 hw.1.2.1.2 hw.2.1 hw.2.2.1 hw.2.2.2.1) (by kernel_rfl)
def s_l7Given_orc : List D → Orc := orcN [none, some .ints, some .ints, some .ints] fun ds => match ds with
  | [.agg [.sl (.ints Open), .sl (.rows Dist)], .sl (.ints rooms), .sl (.ints needs), .sl (.ints set)] => some (.one (.d (.bool ((goodField Open Dist && rising set 0 ((Open.length : Int) - 1) && decide (0 < set.length)) && (rowOk rooms (Open.length : Int) 20 && rowOk needs (Dist.length : Int) 5)))))
  | _ => none
def i_isHaul_C (f : FuncId) (ds : List D) : Orc := bif Nat.beq f 111 then i_isOpened_orc ds else bif Nat.beq f 182 then i_Field_areNeeds_orc ds else .no
def i_isHaul_A (Open : List Int) (Dist : List (List Int)) (rooms : List Int) (needs : List Int) (set : List Int) : Ann := .none
def i_isHaul_P (Open : List Int) (Dist : List (List Int)) (rooms : List Int) (needs : List Int) (set : List Int) : Prop :=
  (PC Try.prog 111 [.agg [.sl (.ints Open), .sl (.rows Dist)], .sl (.ints set)] (.one (.d (.bool (goodField Open Dist && rising set 0 ((Open.length : Int) - 1) && decide (0 < set.length)))))) ∧ ((goodField Open Dist && rising set 0 ((Open.length : Int) - 1) && decide (0 < set.length)) = true → (goodField Open Dist && rising set 0 ((Open.length : Int) - 1) && decide (0 < set.length)) = true) ∧ ((goodField Open Dist && rising set 0 ((Open.length : Int) - 1) && decide (0 < set.length)) = true → (goodField Open Dist && rising set 0 ((Open.length : Int) - 1) && decide (0 < set.length)) = true) ∧ ((goodField Open Dist && rising set 0 ((Open.length : Int) - 1) && decide (0 < set.length)) = true → (goodField Open Dist && rising set 0 ((Open.length : Int) - 1) && decide (0 < set.length)) = true) ∧ ((goodField Open Dist && rising set 0 ((Open.length : Int) - 1) && decide (0 < set.length)) = true → PC Try.prog 182 [.agg [.sl (.ints Open), .sl (.rows Dist)], .sl (.ints rooms), .sl (.ints needs)] (.one (.d (.bool (rowOk rooms (Open.length : Int) 20 && rowOk needs (Dist.length : Int) 5))))) ∧ (true = true) ∧ (((goodField Open Dist && rising set 0 ((Open.length : Int) - 1) && decide (0 < set.length)) = true → (goodField Open Dist && rising set 0 ((Open.length : Int) - 1) && decide (0 < set.length)) = true)) ∧ (((goodField Open Dist && rising set 0 ((Open.length : Int) - 1) && decide (0 < set.length)) = false → true = true)) ∧ (((cond (goodField Open Dist && rising set 0 ((Open.length : Int) - 1) && decide (0 < set.length)) (rowOk rooms (Open.length : Int) 20 && rowOk needs (Dist.length : Int) 5) false) = ((goodField Open Dist && rising set 0 ((Open.length : Int) - 1) && decide (0 < set.length)) && (rowOk rooms (Open.length : Int) 20 && rowOk needs (Dist.length : Int) 5))))
theorem i_isHaul_vc (Open : List Int) (Dist : List (List Int)) (rooms : List Int) (needs : List Int) (set : List Int)  (w_Open : (Open.length : Int) ≤ 9223372036854775807) (w_Dist : (Dist.length : Int) ≤ 9223372036854775807) (v_Dist : ∀ x9 ∈ Dist, (x9.length : Int) ≤ 9223372036854775807) (w_rooms : (rooms.length : Int) ≤ 9223372036854775807) (w_needs : (needs.length : Int) ≤ 9223372036854775807) (w_set : (set.length : Int) ≤ 9223372036854775807) : i_isHaul_P Open Dist rooms needs set := by
  unfold i_isHaul_P
  refine ⟨i_isOpened_pc Open Dist set, id, id, id, fun _ => i_Field_areNeeds_pc Open Dist rooms needs, rfl, id, fun _ => rfl, ?_⟩
  · first | omega | rfl | (intro hg; simp only [nrmT] at hg; omega) | (intro g1 g2; simp [g1, g2]; done) | (intro g1; simp at g1 ⊢; simp [g1]; done) | (simp only [nrmT] at *; omega) | (simp at * <;> omega) | (simp_all <;> omega) | (simp_all; done)
theorem i_isHaul_pc (Open : List Int) (Dist : List (List Int)) (rooms : List Int) (needs : List Int) (set : List Int)  : PC Try.prog 132 [.agg [.sl (.ints Open), .sl (.rows Dist)], .sl (.ints rooms), .sl (.ints needs), .sl (.ints set)] (.one (.d (.bool ((goodField Open Dist && rising set 0 ((Open.length : Int) - 1) && decide (0 < set.length)) && (rowOk rooms (Open.length : Int) 20 && rowOk needs (Dist.length : Int) 5))))) :=
  pc_wf @Try.call132 fun hw => pc_by (by kernel_rfl) Try.func132 @Try.call132 (by kernel_rfl) i_isHaul_C (i_isHaul_A Open Dist rooms needs set) (by kernel_rfl) (i_isHaul_vc Open Dist rooms needs set hw.1.1 hw.1.2.1.1 hw.1.2.1.2 hw.2.1 hw.2.2.1 hw.2.2.2.1) (by kernel_rfl)
def i_isHaul_orc : List D → Orc := orcN [none, some .ints, some .ints, some .ints] fun ds => match ds with
  | [.agg [.sl (.ints Open), .sl (.rows Dist)], .sl (.ints rooms), .sl (.ints needs), .sl (.ints set)] => some (.one (.d (.bool ((goodField Open Dist && rising set 0 ((Open.length : Int) - 1) && decide (0 < set.length)) && (rowOk rooms (Open.length : Int) 20 && rowOk needs (Dist.length : Int) 5)))))
  | _ => none
theorem haul_facts {Open set rooms needs : List Int} {Dist : List (List Int)} (h : ((goodField Open Dist && rising set 0 ((Open.length : Int) - 1) && decide (0 < set.length)) && (rowOk rooms (Open.length : Int) 20 && rowOk needs (Dist.length : Int) 5)) = true) :
    (goodField Open Dist && rising set 0 ((Open.length : Int) - 1) && decide (0 < set.length)) = true ∧ rowOk rooms (Open.length : Int) 20 = true ∧ rowOk needs (Dist.length : Int) 5 = true := by
  rw [Bool.and_eq_true, Bool.and_eq_true (rowOk _ _ _)] at h
  exact h
def rowAt (set row : List Int) (need : Int) (a : Nat) : Bool := inB (row.getD a 0) 0 need && !(decide (row.getD a 0 > 0) && !(set.contains (a : Int)))
def rowGood (n : Nat) (set row : List Int) (need : Int) : Bool := decide (row.length = n) && allTo (rowAt set row need) n && decide (sumTo (fun a => row.getD a 0) n = need)
def colTo (flow : List (List Int)) (a : Nat) (j : Nat) : Int := sumTo (fun k => (flow.getD k []).getD a 0) j
def flowGood (n m : Nat) (rooms needs set : List Int) (flow : List (List Int)) : Bool :=
  decide (flow.length = m) && allTo (fun j => rowGood n set (flow.getD j []) (needs.getD j 0)) m && allTo (fun a => decide (colTo flow a m ≤ rooms.getD a 0)) n
theorem sumTo_succ (f : Nat → Int) (n : Nat) : sumTo f (n + 1) = sumTo f n + f n := rfl
theorem sumTo_mono {f : Nat → Int} : ∀ n k, k ≤ n → (∀ j, j < n → 0 ≤ f j) → sumTo f k ≤ sumTo f n
  | 0, k, h, _ => by have : k = 0 := by omega
                     rw [this]; exact Int.le_refl _
  | n + 1, k, h, h0 => by
    by_cases e : k = n + 1
    · rw [e]; exact Int.le_refl _
    · have := sumTo_mono (f := f) n k (by omega) fun j hj => h0 j (by omega)
      have := h0 n (by omega)
      rw [sumTo_succ]; omega
theorem rowGood_facts {n : Nat} {set row : List Int} {need : Int} (h : rowGood n set row need = true) : row.length = n ∧ (∀ a, a < n → 0 ≤ row.getD a 0 ∧ row.getD a 0 ≤ need ∧ (0 < row.getD a 0 → set.contains (a : Int) = true)) ∧ sumTo (fun a => row.getD a 0) n = need := by
  unfold rowGood at h
  simp only [Bool.and_eq_true, decide_eq_true_eq] at h
  refine ⟨h.1.1, fun a ha => ?_, h.2⟩
  have h1 := allTo_iff.1 h.1.2 a ha
  unfold rowAt at h1
  rw [Bool.and_eq_true] at h1
  have h2 := inB_le h1.1
  refine ⟨h2.1, h2.2, fun hp => ?_⟩
  have h3 := h1.2
  rw [decide_eq_true hp] at h3
  simpa using h3
theorem flowGood_row {n m : Nat} {rooms needs set : List Int} {flow : List (List Int)} (h : flowGood n m rooms needs set flow = true) : flow.length = m ∧ (∀ j, j < m → rowGood n set (flow.getD j []) (needs.getD j 0) = true) ∧ ∀ a, a < n → colTo flow a m ≤ rooms.getD a 0 := by
  unfold flowGood at h
  simp only [Bool.and_eq_true, decide_eq_true_eq] at h
  exact ⟨h.1.1, fun j hj => allTo_iff.1 h.1.2 j hj, fun a ha => of_decide_eq_true (allTo_iff.1 h.2 a ha)⟩
theorem flowGood_part {n m : Nat} {rooms needs set : List Int} {flow : List (List Int)} (h : flowGood n m rooms needs set flow = true) {j a : Nat} (hj : j < m) (ha : a < n) :
    0 ≤ (flow.getD j []).getD a 0 ∧ sumTo (fun a => (flow.getD j []).getD a 0) (a + 1) ≤ needs.getD j 0 ∧ colTo flow a (j + 1) ≤ rooms.getD a 0 ∧ (0 < (flow.getD j []).getD a 0 → set.contains (a : Int) = true) := by
  obtain ⟨h1, h2, h3⟩ := flowGood_row h
  obtain ⟨r1, r2, r3⟩ := rowGood_facts (h2 j hj)
  have s1 := sumTo_mono (f := fun a => (flow.getD j []).getD a 0) n (a + 1) (by omega) fun c hc => (r2 c hc).1
  have s2 := sumTo_mono (f := fun k => (flow.getD k []).getD a 0) m (j + 1) (by omega) fun k hk => ((rowGood_facts (h2 k hk)).2.1 a ha).1
  have := h3 a ha
  unfold colTo at *
  exact ⟨(r2 a ha).1, by omega, by omega, (r2 a ha).2.2⟩
theorem colTo_succ (flow : List (List Int)) (a j : Nat) : colTo flow a (j + 1) = colTo flow a j + (flow.getD j []).getD a 0 := rfl
def leftAt (rooms : List Int) (flow : List (List Int)) (j c : Nat) (a : Nat) : Int := rooms.getD a 0 - colTo flow a (if a < c then j + 1 else j)
def leftL (n : Nat) (rooms : List Int) (flow : List (List Int)) (j c : Nat) : List Int := tabTo (leftAt rooms flow j c) n
theorem leftL_len (n : Nat) (rooms : List Int) (flow : List (List Int)) (j c : Nat) : (leftL n rooms flow j c).length = n := tabTo_len _ _
theorem leftL_get {n : Nat} {rooms : List Int} {flow : List (List Int)} {j c a : Nat} (h : a < n) : (leftL n rooms flow j c).getD a 0 = leftAt rooms flow j c a := tabTo_get h
theorem leftL_zero (rooms : List Int) (flow : List (List Int)) : leftL rooms.length rooms flow 0 0 = rooms := by
  apply List.ext_getElem
  · exact leftL_len _ _ _ _ _
  · intro k h1 h2
    have := leftL_get (n := rooms.length) (rooms := rooms) (flow := flow) (j := 0) (c := 0) h2
    rw [getD_get h1] at this
    rw [this]
    simp [leftAt, colTo, sumTo, foldTo, h2]
theorem leftL_next (n : Nat) (rooms : List Int) (flow : List (List Int)) (j : Nat) : leftL n rooms flow j n = leftL n rooms flow (j + 1) 0 := by
  unfold leftL tabTo
  refine List.map_congr_left fun a ha => ?_
  have ha := List.mem_range.1 ha
  simp [leftAt, ha]
theorem leftL_set {n : Nat} {rooms : List Int} {flow : List (List Int)} {j c : Nat} (h : c < n) : (leftL n rooms flow j c).set c (rooms.getD c 0 - colTo flow c j - (flow.getD j []).getD c 0) = leftL n rooms flow j (c + 1) := by
  apply List.ext_getElem
  · simp [leftL_len]
  · intro k h1 h2
    have hk : k < n := by simpa [leftL_len] using h2
    have e2 := leftL_get (n := n) (rooms := rooms) (flow := flow) (j := j) (c := c + 1) hk
    rw [getD_get h2] at e2
    rw [e2, List.getElem_set]
    by_cases e : c = k
    · subst e
      rw [if_pos rfl]
      simp only [leftAt, if_pos (Nat.lt_succ_self c), colTo_succ]
      omega
    · rw [if_neg e]
      have e3 := leftL_get (n := n) (rooms := rooms) (flow := flow) (j := j) (c := c) hk
      rw [getD_get (by simpa [leftL_len] using hk)] at e3
      rw [e3]
      unfold leftAt
      by_cases h3 : k < c
      · rw [if_pos h3, if_pos (by omega)]
      · rw [if_neg h3, if_neg (by omega)]
theorem flow_false {n m : Nat} {rooms needs set : List Int} {flow : List (List Int)} (h : flowGood n m rooms needs set flow = true → False) : false = flowGood n m rooms needs set flow := by
  cases hf : flowGood n m rooms needs set flow with
  | false => rfl
  | true => exact (h hf).elim
theorem row_false {n : Nat} {set row : List Int} {need : Int} (h : rowGood n set row need = true → False) : false = rowGood n set row need := by
  cases hf : rowGood n set row need with
  | false => rfl
  | true => exact (h hf).elim
theorem row_true {n : Nat} {set row : List Int} {need : Int} (h1 : row.length = n) (h2 : allTo (rowAt set row need) n = true) (h3 : sumTo (fun a => row.getD a 0) n = need) : rowGood n set row need = true := by
  unfold rowGood
  rw [decide_eq_true h1, h2, decide_eq_true h3]; rfl
theorem flow_true {n m : Nat} {rooms needs set : List Int} {flow : List (List Int)} (h1 : flow.length = m) (h2 : ∀ j, j < m → rowGood n set (flow.getD j []) (needs.getD j 0) = true) (h3 : ∀ a, a < n → colTo flow a m ≤ rooms.getD a 0) : flowGood n m rooms needs set flow = true := by
  unfold flowGood
  rw [decide_eq_true h1, allTo_iff.2 h2, allTo_iff.2 fun a ha => decide_eq_true (h3 a ha)]; rfl
abbrev s_l3Sum_JJ0 (xs : List Int) (out : Int) (i : Int) : Prop := (0 ≤ i) ∧ (i ≤ (xs.length : Int)) ∧ (out = sumTo (fun a => xs.getD a 0) i.toNat)
abbrev s_l3Sum_mJ0 (xs : List Int) (out : Int) (i : Int) : Nat := (xs.length - i).toNat
def s_l3Sum_C (f : FuncId) (ds : List D) : Orc := .no
def s_l3Sum_A (xs : List Int) : Ann := .two (.none) (.two (.none) (.two (.two (.none) (.loop (cut2 (fun (out : Int) (i : Int) => s_l3Sum_JJ0 xs out i) (fun (out : Int) (i : Int) => [(0, .d false (.sl (.ints xs))), (3, .d true (.int .i64 out)), (4, .d true (.int .i64 i))]) (fun (out : Int) (i : Int) => [])) (fun g => s_l3Sum_mJ0 xs g.1 g.2) (fun _ => .none))) (.none)))
def s_l3Sum_P (xs : List Int) : Prop :=
  ((∃ out' : Int, ∃ i' : Int, (s_l3Sum_JJ0 xs out' i') ∧ (xs = xs) ∧ ((0 : Int) = out') ∧ ((0 : Int) = i')) ∧ (∀ out : Int, ∀ i : Int, (s_l3Sum_JJ0 xs out i) → (((decide (i < (xs.length : Int))) = true → ((0 : Int) ≤ i) ∧ ((i : Int) < xs.length) ∧ (i.toNat < xs.length) ∧ (-9223372036854775808 ≤ (out + (xs.getD i.toNat 0)) ∧ (out + (xs.getD i.toNat 0)) ≤ 9223372036854775807) ∧ (-9223372036854775808 ≤ (i + 1) ∧ (i + 1) ≤ 9223372036854775807) ∧ (∃ out' : Int, ∃ i' : Int, (s_l3Sum_JJ0 xs out' i') ∧ (s_l3Sum_mJ0 xs out' i' < s_l3Sum_mJ0 xs out i) ∧ (xs = xs) ∧ ((out + (xs.getD i.toNat 0)) = out') ∧ ((i + 1) = i'))) ∧ ((decide (i < (xs.length : Int))) = false → ((out = (sumTo (fun a => xs.getD a 0) xs.length)))))))
theorem s_l3Sum_vc (xs : List Int) (hb : ∀ k, k < xs.length → 0 ≤ xs.getD k 0 ∧ xs.getD k 0 ≤ 1000) (hl : xs.length ≤ 100) (w_xs : (xs.length : Int) ≤ 9223372036854775807) : s_l3Sum_P xs := by
  unfold s_l3Sum_P
  have sb := fun (k : Nat) (hk : k ≤ xs.length) => sumTo_bound (f := fun a => xs.getD a 0) (m := 1000) k (fun j hj => hb j (by omega))
  refine ⟨?_, ?_⟩
  · refine ⟨0, 0, ?_⟩
    refine ⟨?_, rfl, rfl, rfl⟩
    · refine ⟨?_, ?_, ?_⟩
      · first | omega | rfl | (intro hg; simp only [nrmT] at hg; omega) | (intro g1 g2; simp [g1, g2]; done) | (intro g1; simp at g1 ⊢; simp [g1]; done) | (simp only [nrmT] at *; omega) | (simp at * <;> omega) | (simp_all <;> omega) | (simp_all; done)
      · first | omega | rfl | (intro hg; simp only [nrmT] at hg; omega) | (intro g1 g2; simp [g1, g2]; done) | (intro g1; simp at g1 ⊢; simp [g1]; done) | (simp only [nrmT] at *; omega) | (simp at * <;> omega) | (simp_all <;> omega) | (simp_all; done)
      · first | omega | rfl | (intro hg; simp only [nrmT] at hg; omega) | (intro g1 g2; simp [g1, g2]; done) | (intro g1; simp at g1 ⊢; simp [g1]; done) | (simp only [nrmT] at *; omega) | (simp at * <;> omega) | (simp_all <;> omega) | (simp_all; done)
  · intro out i hJ
    obtain ⟨h1, h2, h3⟩ := hJ
    refine ⟨?_, ?_⟩
    · intro b1
      try simp only [nrmT] at b1
      refine ⟨?_, ?_, ?_, ?_, ?_, ?_⟩
      · first | omega | rfl | (intro hg; simp only [nrmT] at hg; omega) | (intro g1 g2; simp [g1, g2]; done) | (intro g1; simp at g1 ⊢; simp [g1]; done) | (simp only [nrmT] at *; omega) | (simp at * <;> omega) | (simp_all <;> omega) | (simp_all; done)
      · first | omega | rfl | (intro hg; simp only [nrmT] at hg; omega) | (intro g1 g2; simp [g1, g2]; done) | (intro g1; simp at g1 ⊢; simp [g1]; done) | (simp only [nrmT] at *; omega) | (simp at * <;> omega) | (simp_all <;> omega) | (simp_all; done)
      · first | omega | rfl | (intro hg; simp only [nrmT] at hg; omega) | (intro g1 g2; simp [g1, g2]; done) | (intro g1; simp at g1 ⊢; simp [g1]; done) | (simp only [nrmT] at *; omega) | (simp at * <;> omega) | (simp_all <;> omega) | (simp_all; done)
      · have := sb i.toNat (by omega)
        have := hb i.toNat (by omega)
        omega
      · first | omega | rfl | (intro hg; simp only [nrmT] at hg; omega) | (intro g1 g2; simp [g1, g2]; done) | (intro g1; simp at g1 ⊢; simp [g1]; done) | (simp only [nrmT] at *; omega) | (simp at * <;> omega) | (simp_all <;> omega) | (simp_all; done)
      · refine ⟨(out + (xs.getD i.toNat 0)), (i + 1), ?_⟩
        refine ⟨?_, ?_, rfl, rfl, rfl⟩
        · refine ⟨?_, ?_, ?_⟩
          · first | omega | rfl | (intro hg; simp only [nrmT] at hg; omega) | (intro g1 g2; simp [g1, g2]; done) | (intro g1; simp at g1 ⊢; simp [g1]; done) | (simp only [nrmT] at *; omega) | (simp at * <;> omega) | (simp_all <;> omega) | (simp_all; done)
          · first | omega | rfl | (intro hg; simp only [nrmT] at hg; omega) | (intro g1 g2; simp [g1, g2]; done) | (intro g1; simp at g1 ⊢; simp [g1]; done) | (simp only [nrmT] at *; omega) | (simp at * <;> omega) | (simp_all <;> omega) | (simp_all; done)
          · rw [sumTo_step h1, h3]
        · first | (show _ < _; omega) | (simp only [s_l3Sum_mJ0]; omega) | (simp only [s_l3Sum_mJ0] at *; simp at *; omega)
    · intro b2
      try simp only [nrmT] at b2
      rw [h3, show i.toNat = xs.length by omega]
theorem s_l3Sum_pc (xs : List Int) (hb : ∀ k, k < xs.length → 0 ≤ xs.getD k 0 ∧ xs.getD k 0 ≤ 1000) (hl : xs.length ≤ 100) : PC Try.prog 207 [.sl (.ints xs)] (.one (.d (.int .i64 (sumTo (fun a => xs.getD a 0) xs.length)))) :=
  pc_wf @Try.call207 fun hw => pc_by (by kernel_rfl) Try.func207 @Try.call207 (by kernel_rfl) s_l3Sum_C (s_l3Sum_A xs) (by kernel_rfl) (s_l3Sum_vc xs hb hl hw.1) (by kernel_rfl)
def s_l3Sum_orc : List D → Orc := orcN [some .ints] fun ds => match ds with
  | [.sl (.ints xs)] => some (.one (.d (.int .i64 (sumTo (fun a => xs.getD a 0) xs.length))))
  | _ => none
def slices_Clone_int_int__C (f : FuncId) (ds : List D) : Orc := .no
def slices_Clone_int_int__A (xs : List Int) : Ann := .none
def slices_Clone_int_int__P (xs : List Int) : Prop :=
  (0 < xs.length) ∧ ((false = true → ((xs.length = 0))) ∧ (false = false → ((0 : Nat) = 0) ∧ (True) ∧ ((0 + xs.length) * 8 ≤ 140737488355328) ∧ (((0 + xs.length) = ([] ++ xs).length) ∧ ((([] ++ xs) : List Int) = xs))))
theorem slices_Clone_int_int__vc (xs : List Int) (hl : 0 < xs.length ∧ xs.length ≤ 1048576) (w_xs : (xs.length : Int) ≤ 9223372036854775807) : slices_Clone_int_int__P xs := by
  unfold slices_Clone_int_int__P
  refine ⟨?_, ?_, ?_⟩
  · exact hl.1
  · intro b1
    try simp only [nrmT] at b1
    cases b1
  · intro b2
    try simp only [nrmT] at b2
    refine ⟨rfl, trivial, ?_, ?_, ?_⟩
    · first | omega | rfl | (intro hg; simp only [nrmT] at hg; omega) | (intro g1 g2; simp [g1, g2]; done) | (intro g1; simp at g1 ⊢; simp [g1]; done) | (simp only [nrmT] at *; omega) | (simp at * <;> omega) | (simp_all <;> omega) | (simp_all; done)
    · first | omega | rfl | (intro hg; simp only [nrmT] at hg; omega) | (intro g1 g2; simp [g1, g2]; done) | (intro g1; simp at g1 ⊢; simp [g1]; done) | (simp only [nrmT] at *; omega) | (simp at * <;> omega) | (simp_all <;> omega) | (simp_all; done)
    · first | omega | rfl | (intro hg; simp only [nrmT] at hg; omega) | (intro g1 g2; simp [g1, g2]; done) | (intro g1; simp at g1 ⊢; simp [g1]; done) | (simp only [nrmT] at *; omega) | (simp at * <;> omega) | (simp_all <;> omega) | (simp_all; done)
theorem slices_Clone_int_int__pc (xs : List Int) (hl : 0 < xs.length ∧ xs.length ≤ 1048576) : PC Try.prog 185 [.sl (.ints xs)] (.one (.own 3 (.ints xs))) :=
  pc_wf @Try.call185 fun hw => pc_by (by kernel_rfl) Try.func185 @Try.call185 (by kernel_rfl) slices_Clone_int_int__C (slices_Clone_int_int__A xs) (by kernel_rfl) (slices_Clone_int_int__vc xs hl hw.1) (by kernel_rfl)
def slices_Clone_int_int__orc : List D → Orc := orcN [some .ints] fun ds => match ds with
  | [.sl (.ints xs)] => some (.one (.own 3 (.ints xs)))
  | _ => none
abbrev s_l7Row_JJ0 (row : List Int) (n : Int) (need : Int) (set : List Int) (i : Int) : Prop := (0 ≤ i) ∧ (i ≤ (row.length : Int)) ∧ (allTo (rowAt set row need) i.toNat = true)
abbrev s_l7Row_mJ0 (row : List Int) (n : Int) (need : Int) (set : List Int) (i : Int) : Nat := (row.length - i).toNat
def s_l7Row_C (f : FuncId) (ds : List D) : Orc := bif Nat.beq f 104 then s_l1In_orc ds else bif Nat.beq f 122 then s_l1Has_orc ds else bif Nat.beq f 207 then s_l3Sum_orc ds else .no
def s_l7Row_A (row : List Int) (n : Int) (need : Int) (set : List Int) : Ann := .two (.none) (.two (.two (.none) (.loop (cut1 (fun (i : Int) => s_l7Row_JJ0 row n need set i) (fun (i : Int) => [(0, .d false (.sl (.ints row))), (1, .d false (.int .i64 n)), (2, .d false (.int .i64 need)), (3, .d false (.sl (.ints set))), (9, .d true (.int .i64 i))]) (fun (i : Int) => [])) (fun g => s_l7Row_mJ0 row n need set g) (fun _ => .none))) (.none))
def s_l7Row_P (row : List Int) (n : Int) (need : Int) (set : List Int) : Prop :=
  ((∃ i' : Int, (s_l7Row_JJ0 row n need set i') ∧ (row = row) ∧ (n = n) ∧ (need = need) ∧ (set = set) ∧ ((0 : Int) = i')) ∧ (∀ i : Int, (s_l7Row_JJ0 row n need set i) → (((decide (i < (row.length : Int))) = true → ((0 : Int) ≤ i) ∧ ((i : Int) < row.length) ∧ (i.toNat < row.length) ∧ (PC Try.prog 104 [.int .i64 (row.getD i.toNat 0), .int .i64 0, .int .i64 need] (.one (.d (.bool (inB (row.getD i.toNat 0) 0 need))))) ∧ ((!(!(inB (row.getD i.toNat 0) 0 need))) = true → (!(!(inB (row.getD i.toNat 0) 0 need))) = true) ∧ ((!(!(inB (row.getD i.toNat 0) 0 need))) = true → (!(!(inB (row.getD i.toNat 0) 0 need))) = true) ∧ (((!(!(inB (row.getD i.toNat 0) 0 need))) = true → (0 : Int) ≤ i)) ∧ (((!(!(inB (row.getD i.toNat 0) 0 need))) = true → (i : Int) < row.length)) ∧ ((!(!(inB (row.getD i.toNat 0) 0 need))) = true → (!(!(inB (row.getD i.toNat 0) 0 need))) = true) ∧ (((!(!(inB (row.getD i.toNat 0) 0 need))) = true → i.toNat < row.length)) ∧ ((!(!(inB (row.getD i.toNat 0) 0 need))) = true → (!(!(inB (row.getD i.toNat 0) 0 need))) = true) ∧ ((!(!(inB (row.getD i.toNat 0) 0 need))) = true → (!(!(inB (row.getD i.toNat 0) 0 need))) = true) ∧ (((!(!(inB (row.getD i.toNat 0) 0 need))) && (decide ((row.getD i.toNat 0) > 0))) = true → ((!(!(inB (row.getD i.toNat 0) 0 need))) && (decide ((row.getD i.toNat 0) > 0))) = true) ∧ (((!(!(inB (row.getD i.toNat 0) 0 need))) && (decide ((row.getD i.toNat 0) > 0))) = true → ((!(!(inB (row.getD i.toNat 0) 0 need))) && (decide ((row.getD i.toNat 0) > 0))) = true) ∧ (((!(!(inB (row.getD i.toNat 0) 0 need))) && (decide ((row.getD i.toNat 0) > 0))) = true → PC Try.prog 122 [.sl (.ints set), .int .i64 i] (.one (.d (.bool (set.contains i))))) ∧ (((!(!(inB (row.getD i.toNat 0) 0 need))) && (decide ((row.getD i.toNat 0) > 0))) = true → ((!(!(inB (row.getD i.toNat 0) 0 need))) && (decide ((row.getD i.toNat 0) > 0))) = true) ∧ (((!(!(inB (row.getD i.toNat 0) 0 need))) = true → (!(!(inB (row.getD i.toNat 0) 0 need))) = true)) ∧ (((!(!(inB (row.getD i.toNat 0) 0 need))) = true → (decide ((row.getD i.toNat 0) > 0)) = true → ((!(!(inB (row.getD i.toNat 0) 0 need))) && (decide ((row.getD i.toNat 0) > 0))) = true)) ∧ (((!(!(inB (row.getD i.toNat 0) 0 need))) = true → (decide ((row.getD i.toNat 0) > 0)) = false → true = true)) ∧ (true = true) ∧ (((!(inB (row.getD i.toNat 0) 0 need)) = true → true = true)) ∧ (((!(inB (row.getD i.toNat 0) 0 need)) = false → (!(!(inB (row.getD i.toNat 0) 0 need))) = true)) ∧ (((cond (!(inB (row.getD i.toNat 0) 0 need)) true (cond (decide ((row.getD i.toNat 0) > 0)) (!(set.contains i)) false)) = true → ((false = (rowGood n.toNat set row need)))) ∧ ((cond (!(inB (row.getD i.toNat 0) 0 need)) true (cond (decide ((row.getD i.toNat 0) > 0)) (!(set.contains i)) false)) = false → (-9223372036854775808 ≤ (i + 1) ∧ (i + 1) ≤ 9223372036854775807) ∧ (∃ i' : Int, (s_l7Row_JJ0 row n need set i') ∧ (s_l7Row_mJ0 row n need set i' < s_l7Row_mJ0 row n need set i) ∧ (row = row) ∧ (n = n) ∧ (need = need) ∧ (set = set) ∧ ((i + 1) = i'))))) ∧ ((decide (i < (row.length : Int))) = false → (((row.length : Int) == n) = true → ((row.length : Int) == n) = true) ∧ (((row.length : Int) == n) = true → PC Try.prog 207 [.sl (.ints row)] (.one (.d (.int .i64 (sumTo (fun a => row.getD a 0) row.length))))) ∧ (((row.length : Int) == n) = true → ((row.length : Int) == n) = true) ∧ (((row.length : Int) == n) = true → ((row.length : Int) == n) = true) ∧ (true = true) ∧ ((((row.length : Int) == n) = true → ((row.length : Int) == n) = true)) ∧ ((((row.length : Int) == n) = false → true = true)) ∧ (((cond ((row.length : Int) == n) ((sumTo (fun a => row.getD a 0) row.length) == need) false) = (rowGood n.toNat set row need)))))))
theorem s_l7Row_vc (row : List Int) (n : Int) (need : Int) (set : List Int) (hn : 0 ≤ n ∧ n ≤ 7) (hd : 0 ≤ need ∧ need ≤ 5) (w_row : (row.length : Int) ≤ 9223372036854775807) (w_set : (set.length : Int) ≤ 9223372036854775807) : s_l7Row_P row n need set := by
  unfold s_l7Row_P
  refine ⟨?_, ?_⟩
  · refine ⟨0, ?_⟩
    refine ⟨?_, rfl, rfl, rfl, rfl, rfl⟩
    · refine ⟨?_, ?_, ?_⟩
      · first | omega | rfl | (intro hg; simp only [nrmT] at hg; omega) | (intro g1 g2; simp [g1, g2]; done) | (intro g1; simp at g1 ⊢; simp [g1]; done) | (simp only [nrmT] at *; omega) | (simp at * <;> omega) | (simp_all <;> omega) | (simp_all; done)
      · first | omega | rfl | (intro hg; simp only [nrmT] at hg; omega) | (intro g1 g2; simp [g1, g2]; done) | (intro g1; simp at g1 ⊢; simp [g1]; done) | (simp only [nrmT] at *; omega) | (simp at * <;> omega) | (simp_all <;> omega) | (simp_all; done)
      · first | omega | rfl | (intro hg; simp only [nrmT] at hg; omega) | (intro g1 g2; simp [g1, g2]; done) | (intro g1; simp at g1 ⊢; simp [g1]; done) | (simp only [nrmT] at *; omega) | (simp at * <;> omega) | (simp_all <;> omega) | (simp_all; done)
  · intro i hJ
    obtain ⟨h1, h2, h3⟩ := hJ
    refine ⟨?_, ?_⟩
    · intro b1
      try simp only [nrmT] at b1
      refine ⟨?_, ?_, ?_, s_l1In_pc (row.getD i.toNat 0) 0 need, id, id, ?_, ?_, id, ?_, id, id, id, id, fun _ => s_l1Has_pc set i, id, id, ?_, fun _ _ => rfl, rfl, fun _ => rfl, ?_, ?_, ?_⟩
      · first | omega | rfl | (intro hg; simp only [nrmT] at hg; omega) | (intro g1 g2; simp [g1, g2]; done) | (intro g1; simp at g1 ⊢; simp [g1]; done) | (simp only [nrmT] at *; omega) | (simp at * <;> omega) | (simp_all <;> omega) | (simp_all; done)
      · first | omega | rfl | (intro hg; simp only [nrmT] at hg; omega) | (intro g1 g2; simp [g1, g2]; done) | (intro g1; simp at g1 ⊢; simp [g1]; done) | (simp only [nrmT] at *; omega) | (simp at * <;> omega) | (simp_all <;> omega) | (simp_all; done)
      · first | omega | rfl | (intro hg; simp only [nrmT] at hg; omega) | (intro g1 g2; simp [g1, g2]; done) | (intro g1; simp at g1 ⊢; simp [g1]; done) | (simp only [nrmT] at *; omega) | (simp at * <;> omega) | (simp_all <;> omega) | (simp_all; done)
      · first | omega | rfl | (intro hg; simp only [nrmT] at hg; omega) | (intro g1 g2; simp [g1, g2]; done) | (intro g1; simp at g1 ⊢; simp [g1]; done) | (simp only [nrmT] at *; omega) | (simp at * <;> omega) | (simp_all <;> omega) | (simp_all; done)
      · first | omega | rfl | (intro hg; simp only [nrmT] at hg; omega) | (intro g1 g2; simp [g1, g2]; done) | (intro g1; simp at g1 ⊢; simp [g1]; done) | (simp only [nrmT] at *; omega) | (simp at * <;> omega) | (simp_all <;> omega) | (simp_all; done)
      · first | omega | rfl | (intro hg; simp only [nrmT] at hg; omega) | (intro g1 g2; simp [g1, g2]; done) | (intro g1; simp at g1 ⊢; simp [g1]; done) | (simp only [nrmT] at *; omega) | (simp at * <;> omega) | (simp_all <;> omega) | (simp_all; done)
      · first | omega | rfl | (intro hg; simp only [nrmT] at hg; omega) | (intro g1 g2; simp [g1, g2]; done) | (intro g1; simp at g1 ⊢; simp [g1]; done) | (simp only [nrmT] at *; omega) | (simp at * <;> omega) | (simp_all <;> omega) | (simp_all; done)
      · first | omega | rfl | (intro hg; simp only [nrmT] at hg; omega) | (intro g1 g2; simp [g1, g2]; done) | (intro g1; simp at g1 ⊢; simp [g1]; done) | (simp only [nrmT] at *; omega) | (simp at * <;> omega) | (simp_all <;> omega) | (simp_all; done)
      · intro b2
        refine row_false fun h => ?_
        obtain ⟨r1, r2, r3⟩ := rowGood_facts h
        have h7 := r2 i.toNat (by omega)
        rw [show ((i.toNat : Nat) : Int) = i by omega] at h7
        have e1 : inB (row.getD i.toNat 0) 0 need = true := decide_eq_true ⟨h7.1, h7.2.1⟩
        rw [e1] at b2
        by_cases hp : row.getD i.toNat 0 > 0
        · rw [decide_eq_true hp, h7.2.2 hp] at b2; simp at b2
        · rw [decide_eq_false hp] at b2; simp at b2
      · intro b3
        refine ⟨?_, ?_⟩
        · first | omega | rfl | (intro hg; simp only [nrmT] at hg; omega) | (intro g1 g2; simp [g1, g2]; done) | (intro g1; simp at g1 ⊢; simp [g1]; done) | (simp only [nrmT] at *; omega) | (simp at * <;> omega) | (simp_all <;> omega) | (simp_all; done)
        · refine ⟨(i + 1), ?_⟩
          refine ⟨?_, ?_, rfl, rfl, rfl, rfl, rfl⟩
          · refine ⟨?_, ?_, ?_⟩
            · first | omega | rfl | (intro hg; simp only [nrmT] at hg; omega) | (intro g1 g2; simp [g1, g2]; done) | (intro g1; simp at g1 ⊢; simp [g1]; done) | (simp only [nrmT] at *; omega) | (simp at * <;> omega) | (simp_all <;> omega) | (simp_all; done)
            · first | omega | rfl | (intro hg; simp only [nrmT] at hg; omega) | (intro g1 g2; simp [g1, g2]; done) | (intro g1; simp at g1 ⊢; simp [g1]; done) | (simp only [nrmT] at *; omega) | (simp at * <;> omega) | (simp_all <;> omega) | (simp_all; done)
            · refine allTo_step h1 h3 ?_
              unfold rowAt
              rw [show ((i.toNat : Nat) : Int) = i by omega]
              revert b3; cases inB (row.getD i.toNat 0) 0 need <;> cases decide (row.getD i.toNat 0 > 0) <;> cases set.contains i <;> simp
          · first | (show _ < _; omega) | (simp only [s_l7Row_mJ0]; omega) | (simp only [s_l7Row_mJ0] at *; simp at *; omega)
    · intro b4
      try simp only [nrmT] at b4
      refine ⟨id, ?_, id, id, rfl, id, fun _ => rfl, ?_⟩
      · intro hg
        refine s_l3Sum_pc row ?_ ?_
        · intro k hk
          have h7 := allTo_iff.1 h3 k (by omega)
          unfold rowAt at h7
          rw [Bool.and_eq_true] at h7
          have := inB_le h7.1
          omega
        · simp only [beq_iff_eq] at hg; omega
      · by_cases e : (row.length : Int) = n
        · have e3 : allTo (rowAt set row need) n.toNat = true := by rw [← h3]; congr 1; omega
          unfold rowGood
          rw [e3, decide_eq_true (show row.length = n.toNat by omega), show row.length = n.toNat by omega]
          rw [show (((n.toNat : Nat) : Int) == n) = true by rw [beq_iff_eq]; omega]
          simp only [cond_true, Bool.true_and]
          rw [Bool.eq_iff_iff]; simp only [beq_iff_eq, decide_eq_true_eq]
        · unfold rowGood
          rw [decide_eq_false (show ¬ row.length = n.toNat by omega), show ((row.length : Int) == n) = false by rw [beq_eq_false_iff_ne]; exact e]
          rfl
theorem s_l7Row_pc (row : List Int) (n : Int) (need : Int) (set : List Int) (hn : 0 ≤ n ∧ n ≤ 7) (hd : 0 ≤ need ∧ need ≤ 5) : PC Try.prog 184 [.sl (.ints row), .int .i64 n, .int .i64 need, .sl (.ints set)] (.one (.d (.bool (rowGood n.toNat set row need)))) :=
  pc_wf @Try.call184 fun hw => pc_by (by kernel_rfl) Try.func184 @Try.call184 (by kernel_rfl) s_l7Row_C (s_l7Row_A row n need set) (by kernel_rfl) (s_l7Row_vc row n need set hn hd hw.1 hw.2.2.2.1) (by kernel_rfl)
def s_l7Row_orc : List D → Orc := orcN [some .ints, none, none, some .ints] fun ds => match ds with
  | [.sl (.ints row), .int .i64 n, .int .i64 need, .sl (.ints set)] => some (.one (.d (.bool (rowGood n.toNat set row need))))
  | _ => none
def colL (n : Nat) (flow : List (List Int)) (j c : Nat) : List Int := tabTo (fun a => colTo flow a (if a < c then j + 1 else j)) n
theorem colL_len (n : Nat) (flow : List (List Int)) (j c : Nat) : (colL n flow j c).length = n := tabTo_len _ _
theorem colL_get {n : Nat} {flow : List (List Int)} {j c a : Nat} (h : a < n) : (colL n flow j c).getD a 0 = colTo flow a (if a < c then j + 1 else j) := tabTo_get h
theorem colL_zero (n : Nat) (flow : List (List Int)) : colL n flow 0 0 = List.replicate n 0 := by
  apply List.ext_getElem
  · simp [colL_len]
  · intro k h1 h2
    have hk : k < n := by simpa using h2
    have e := colL_get (n := n) (flow := flow) (j := 0) (c := 0) hk
    rw [getD_get h1] at e
    rw [e]
    simp [colTo, sumTo, foldTo]
theorem colL_next (n : Nat) (flow : List (List Int)) (j : Nat) : colL n flow j n = colL n flow (j + 1) 0 := by
  unfold colL tabTo
  refine List.map_congr_left fun a ha => ?_
  have ha := List.mem_range.1 ha
  simp [ha]
theorem colL_set {n : Nat} {flow : List (List Int)} {j c : Nat} (h : c < n) : (colL n flow j c).set c ((colL n flow j c).getD c 0 + (flow.getD j []).getD c 0) = colL n flow j (c + 1) := by
  apply List.ext_getElem
  · simp [colL_len]
  · intro k h1 h2
    have hk : k < n := by simpa [colL_len] using h2
    have e2 := colL_get (n := n) (flow := flow) (j := j) (c := c + 1) hk
    rw [getD_get h2] at e2
    rw [e2, List.getElem_set]
    by_cases e : c = k
    · subst e
      rw [if_pos rfl, if_pos (Nat.lt_succ_self c), colTo_succ, colL_get h, if_neg (by omega)]
    · rw [if_neg e]
      have e3 := colL_get (n := n) (flow := flow) (j := j) (c := c) hk
      rw [getD_get (by simpa [colL_len] using hk)] at e3
      rw [e3]
      by_cases h3 : k < c
      · rw [if_pos h3, if_pos (by omega)]
      · rw [if_neg h3, if_neg (by omega)]
theorem colTo_bound {n m : Nat} {needs set : List Int} {flow : List (List Int)} (hb : ∀ k, k < m → rowGood n set (flow.getD k []) (needs.getD k 0) = true) (hn : ∀ k, k < m → needs.getD k 0 ≤ 5) {a : Nat} (ha : a < n) (j : Nat) (hj : j ≤ m) : 0 ≤ colTo flow a j ∧ colTo flow a j ≤ 5 * j :=
  sumTo_bound (f := fun k => (flow.getD k []).getD a 0) (m := 5) j fun k hk => by
    have h1 := (rowGood_facts (hb k (by omega))).2.1 a ha
    have h2 := hn k (by omega)
    omega
abbrev s_l7Flow_JJ0 (Open : List Int) (Dist : List (List Int)) (rooms : List Int) (needs : List Int) (set : List Int) (flow : List (List Int)) (used : List Int) (j : Int) : Prop := (flow.length = Dist.length) ∧ (0 ≤ j) ∧ (j ≤ (flow.length : Int)) ∧ (used = colL Open.length flow j.toNat 0) ∧ (∀ k, k < j.toNat → rowGood Open.length set (flow.getD k []) (needs.getD k 0) = true)
abbrev s_l7Flow_mJ0 (Open : List Int) (Dist : List (List Int)) (rooms : List Int) (needs : List Int) (set : List Int) (flow : List (List Int)) (used : List Int) (j : Int) : Nat := (flow.length - j).toNat
abbrev s_l7Flow_JA0 (Open : List Int) (Dist : List (List Int)) (rooms : List Int) (needs : List Int) (set : List Int) (flow : List (List Int)) (used : List Int) : Prop := (flow.length = Dist.length) ∧ (used = colL Open.length flow Dist.length 0) ∧ (used.length = Open.length) ∧ (∀ k, k < Dist.length → rowGood Open.length set (flow.getD k []) (needs.getD k 0) = true)
abbrev s_l7Flow_JJ1 (Open : List Int) (Dist : List (List Int)) (rooms : List Int) (needs : List Int) (set : List Int) (flow : List (List Int)) (used : List Int) (j : Int) (used1 : List Int) (a : Int) : Prop := (0 ≤ a) ∧ (a ≤ (Open.length : Int)) ∧ (used1 = colL Open.length flow j.toNat a.toNat) ∧ (used1.length = Open.length) ∧ (rowGood Open.length set (flow.getD j.toNat []) (needs.getD j.toNat 0) = true)
abbrev s_l7Flow_mJ1 (Open : List Int) (Dist : List (List Int)) (rooms : List Int) (needs : List Int) (set : List Int) (flow : List (List Int)) (used : List Int) (j : Int) (used1 : List Int) (a : Int) : Nat := (Open.length - a).toNat
abbrev s_l7Flow_JJ2 (Open : List Int) (Dist : List (List Int)) (rooms : List Int) (needs : List Int) (set : List Int) (flow : List (List Int)) (used : List Int) (c : Int) : Prop := (0 ≤ c) ∧ (c ≤ (Open.length : Int)) ∧ (allTo (fun a => decide (colTo flow a Dist.length ≤ rooms.getD a 0)) c.toNat = true)
abbrev s_l7Flow_mJ2 (Open : List Int) (Dist : List (List Int)) (rooms : List Int) (needs : List Int) (set : List Int) (flow : List (List Int)) (used : List Int) (c : Int) : Nat := (Open.length - c).toNat
def s_l7Flow_C (f : FuncId) (ds : List D) : Orc := bif Nat.beq f 184 then s_l7Row_orc ds else .no
def s_l7Flow_A (Open : List Int) (Dist : List (List Int)) (rooms : List Int) (needs : List Int) (set : List Int) (flow : List (List Int)) : Ann := .two (.none) (.two (.none) (.two (.none) (.cut (.two (.none) (.loop (cut2 (fun (used : List Int) (j : Int) => s_l7Flow_JJ0 Open Dist rooms needs set flow used j) (fun (used : List Int) (j : Int) => [(1, .d false (.sl (.ints rooms))), (2, .d false (.sl (.ints needs))), (3, .d false (.sl (.ints set))), (4, .d false (.sl (.rows flow))), (5, .ptr 5 0), (11, .own 24 used.length), (12, .d true (.int .i64 j))]) (fun (used : List Int) (j : Int) => [(24, .arr true 3 (.ints used)), (5, .box 44 [.d false (.sl (.ints Open)), .d false (.sl (.rows Dist))])])) (fun g => s_l7Flow_mJ0 Open Dist rooms needs set flow g.1 g.2) (fun g => (fun (used : List Int) (j : Int) => .two (.none) (.two (.two (.none) (.two (.none) (.loop (cut2 (fun (used1 : List Int) (a : Int) => s_l7Flow_JJ1 Open Dist rooms needs set flow used j used1 a) (fun (used1 : List Int) (a : Int) => [(1, .d false (.sl (.ints rooms))), (2, .d false (.sl (.ints needs))), (3, .d false (.sl (.ints set))), (4, .d false (.sl (.rows flow))), (5, .ptr 5 0), (11, .own 24 used1.length), (12, .d true (.int .i64 j)), (13, .d true (.int .i64 a))]) (fun (used1 : List Int) (a : Int) => [(24, .arr true 3 (.ints used1)), (5, .box 44 [.d false (.sl (.ints Open)), .d false (.sl (.rows Dist))])])) (fun g => s_l7Flow_mJ1 Open Dist rooms needs set flow used j g.1 g.2) (fun _ => .none)))) (.none))) (g.1) (g.2)))) (cut1 (fun (used : List Int) => s_l7Flow_JA0 Open Dist rooms needs set flow used) (fun (used : List Int) => [(1, .d false (.sl (.ints rooms))), (11, .own 1000050 used.length)]) (fun (used : List Int) => [(1000050, .arr true 3 (.ints used))])) (fun g => (fun (used : List Int) => .two (.two (.none) (.loop (cut1 (fun (c : Int) => s_l7Flow_JJ2 Open Dist rooms needs set flow used c) (fun (c : Int) => [(1, .d false (.sl (.ints rooms))), (11, .own 1000050 used.length), (14, .d true (.int .i64 c))]) (fun (c : Int) => [(1000050, .arr true 3 (.ints used))])) (fun g => s_l7Flow_mJ2 Open Dist rooms needs set flow used g) (fun _ => .none))) (.none)) g))))
def s_l7Flow_P (Open : List Int) (Dist : List (List Int)) (rooms : List Int) (needs : List Int) (set : List Int) (flow : List (List Int)) : Prop :=
  ((((flow.length : Int) != (Dist.length : Int)) = true → ((false = (flowGood Open.length Dist.length rooms needs set flow)))) ∧ (((flow.length : Int) != (Dist.length : Int)) = false → ((Open.length : Int) = (Open.length : Int)) ∧ ((0 : Int) ≤ (Open.length : Int)) ∧ (((Open.length : Int) : Int) * ((8 : Nat) : Int) ≤ 140737488355328) ∧ (((∃ used' : List Int, ∃ j' : Int, (s_l7Flow_JJ0 Open Dist rooms needs set flow used' j') ∧ (rooms = rooms) ∧ (needs = needs) ∧ (set = set) ∧ (flow = flow) ∧ ((Open.length : Int).toNat = used'.length) ∧ ((0 : Int) = j') ∧ ((List.replicate ((Open.length : Int).toNat) (0 : Int)) = used') ∧ (Open = Open) ∧ (Dist = Dist)) ∧ (∀ used : List Int, ∀ j : Int, (s_l7Flow_JJ0 Open Dist rooms needs set flow used j) → (((decide (j < (flow.length : Int))) = true → (true = true) ∧ ((0 : Int) ≤ j) ∧ ((j : Int) < flow.length) ∧ (j.toNat < flow.length) ∧ ((0 : Int) ≤ j) ∧ ((j : Int) < needs.length) ∧ (j.toNat < needs.length) ∧ (PC Try.prog 184 [.sl (.ints (flow.getD j.toNat [])), .int .i64 (Open.length : Int), .int .i64 (needs.getD j.toNat 0), .sl (.ints set)] (.one (.d (.bool (rowGood (Open.length : Int).toNat set (flow.getD j.toNat []) (needs.getD j.toNat 0)))))) ∧ (((!(rowGood (Open.length : Int).toNat set (flow.getD j.toNat []) (needs.getD j.toNat 0))) = true → ((false = (flowGood Open.length Dist.length rooms needs set flow)))) ∧ ((!(rowGood (Open.length : Int).toNat set (flow.getD j.toNat []) (needs.getD j.toNat 0))) = false → ((∃ used1' : List Int, ∃ a' : Int, (s_l7Flow_JJ1 Open Dist rooms needs set flow used j used1' a') ∧ (rooms = rooms) ∧ (needs = needs) ∧ (set = set) ∧ (flow = flow) ∧ (used.length = used1'.length) ∧ (j = j) ∧ ((0 : Int) = a') ∧ (used = used1') ∧ (Open = Open) ∧ (Dist = Dist)) ∧ (∀ used1 : List Int, ∀ a : Int, (s_l7Flow_JJ1 Open Dist rooms needs set flow used j used1 a) → (((decide (a < (used1.length : Int))) = true → (true = true) ∧ ((0 : Int) ≤ a) ∧ ((a : Int) < (used1.length : Int)) ∧ (a.toNat < used1.length) ∧ ((0 : Int) ≤ j) ∧ ((j : Int) < flow.length) ∧ (j.toNat < flow.length) ∧ ((0 : Int) ≤ a) ∧ ((a : Int) < (flow.getD j.toNat []).length) ∧ (a.toNat < (flow.getD j.toNat []).length) ∧ (-9223372036854775808 ≤ ((used1.getD a.toNat 0) + ((flow.getD j.toNat []).getD a.toNat 0)) ∧ ((used1.getD a.toNat 0) + ((flow.getD j.toNat []).getD a.toNat 0)) ≤ 9223372036854775807) ∧ ((0 : Int) ≤ a) ∧ ((a : Int) < (used1.length : Int)) ∧ (a.toNat < used1.length) ∧ (-9223372036854775808 ≤ (a + 1) ∧ (a + 1) ≤ 9223372036854775807) ∧ (∃ used1' : List Int, ∃ a' : Int, (s_l7Flow_JJ1 Open Dist rooms needs set flow used j used1' a') ∧ (s_l7Flow_mJ1 Open Dist rooms needs set flow used j used1' a' < s_l7Flow_mJ1 Open Dist rooms needs set flow used j used1 a) ∧ (rooms = rooms) ∧ (needs = needs) ∧ (set = set) ∧ (flow = flow) ∧ (used1.length = used1'.length) ∧ (j = j) ∧ ((a + 1) = a') ∧ ((used1.set a.toNat ((used1.getD a.toNat 0) + ((flow.getD j.toNat []).getD a.toNat 0))) = used1') ∧ (Open = Open) ∧ (Dist = Dist))) ∧ ((decide (a < (used1.length : Int))) = false → (-9223372036854775808 ≤ (j + 1) ∧ (j + 1) ≤ 9223372036854775807) ∧ (∃ used' : List Int, ∃ j' : Int, (s_l7Flow_JJ0 Open Dist rooms needs set flow used' j') ∧ (s_l7Flow_mJ0 Open Dist rooms needs set flow used' j' < s_l7Flow_mJ0 Open Dist rooms needs set flow used j) ∧ (rooms = rooms) ∧ (needs = needs) ∧ (set = set) ∧ (flow = flow) ∧ (used1.length = used'.length) ∧ ((j + 1) = j') ∧ (used1 = used') ∧ (Open = Open) ∧ (Dist = Dist))))))))) ∧ ((decide (j < (flow.length : Int))) = false → (∃ used' : List Int, (s_l7Flow_JA0 Open Dist rooms needs set flow used') ∧ (rooms = rooms) ∧ (used.length = used'.length) ∧ (used = used')))))) ∧ (∀ used : List Int, (s_l7Flow_JA0 Open Dist rooms needs set flow used) → ((∃ c' : Int, (s_l7Flow_JJ2 Open Dist rooms needs set flow used c') ∧ (rooms = rooms) ∧ (used.length = used.length) ∧ ((0 : Int) = c') ∧ (used = used)) ∧ (∀ c : Int, (s_l7Flow_JJ2 Open Dist rooms needs set flow used c) → (((decide (c < (used.length : Int))) = true → (true = true) ∧ ((0 : Int) ≤ c) ∧ ((c : Int) < (used.length : Int)) ∧ (c.toNat < used.length) ∧ ((0 : Int) ≤ c) ∧ ((c : Int) < rooms.length) ∧ (c.toNat < rooms.length) ∧ (((decide ((used.getD c.toNat 0) > (rooms.getD c.toNat 0))) = true → ((false = (flowGood Open.length Dist.length rooms needs set flow)))) ∧ ((decide ((used.getD c.toNat 0) > (rooms.getD c.toNat 0))) = false → (-9223372036854775808 ≤ (c + 1) ∧ (c + 1) ≤ 9223372036854775807) ∧ (∃ c' : Int, (s_l7Flow_JJ2 Open Dist rooms needs set flow used c') ∧ (s_l7Flow_mJ2 Open Dist rooms needs set flow used c' < s_l7Flow_mJ2 Open Dist rooms needs set flow used c) ∧ (rooms = rooms) ∧ (used.length = used.length) ∧ ((c + 1) = c') ∧ (used = used))))) ∧ ((decide (c < (used.length : Int))) = false → ((true = (flowGood Open.length Dist.length rooms needs set flow)))))))))))
theorem s_l7Flow_vc (Open : List Int) (Dist : List (List Int)) (rooms : List Int) (needs : List Int) (set : List Int) (flow : List (List Int)) (hh : ((goodField Open Dist && rising set 0 ((Open.length : Int) - 1) && decide (0 < set.length)) && (rowOk rooms (Open.length : Int) 20 && rowOk needs (Dist.length : Int) 5)) = true) (w_Open : (Open.length : Int) ≤ 9223372036854775807) (w_Dist : (Dist.length : Int) ≤ 9223372036854775807) (v_Dist : ∀ x9 ∈ Dist, (x9.length : Int) ≤ 9223372036854775807) (w_rooms : (rooms.length : Int) ≤ 9223372036854775807) (w_needs : (needs.length : Int) ≤ 9223372036854775807) (w_set : (set.length : Int) ≤ 9223372036854775807) (w_flow : (flow.length : Int) ≤ 9223372036854775807) (v_flow : ∀ x9 ∈ flow, (x9.length : Int) ≤ 9223372036854775807) : s_l7Flow_P Open Dist rooms needs set flow := by
  unfold s_l7Flow_P
  obtain ⟨ht, hr, hn⟩ := haul_facts hh
  obtain ⟨hg, hs, hp⟩ := two_facts ht
  obtain ⟨g1, g2, g3⟩ := gf_open hg
  obtain ⟨rl, rb⟩ := rowOk_at hr
  obtain ⟨nl, nb⟩ := rowOk_at hn
  refine ⟨?_, ?_⟩
  · intro b1
    try simp only [nrmT] at b1
    refine flow_false fun h => ?_
    have := (flowGood_row h).1
    omega
  · intro b2
    try simp only [nrmT] at b2
    refine ⟨rfl, ?_, ?_, ?_, ?_⟩
    · first | omega | rfl | (intro hg; simp only [nrmT] at hg; omega) | (intro g1 g2; simp [g1, g2]; done) | (intro g1; simp at g1 ⊢; simp [g1]; done) | (simp only [nrmT] at *; omega) | (simp at * <;> omega) | (simp_all <;> omega) | (simp_all; done)
    · omega
    · refine ⟨?_, ?_⟩
      · refine ⟨(List.replicate ((Open.length : Int).toNat) (0 : Int)), 0, ?_⟩
        refine ⟨?_, rfl, rfl, rfl, rfl, ?_, rfl, rfl, rfl, rfl⟩
        · refine ⟨?_, ?_, ?_, ?_, ?_⟩
          · first | assumption | (simp only [bne_eq_false_iff_eq] at b2; omega) | omega
          · first | omega | rfl | (intro hg; simp only [nrmT] at hg; omega) | (intro g1 g2; simp [g1, g2]; done) | (intro g1; simp at g1 ⊢; simp [g1]; done) | (simp only [nrmT] at *; omega) | (simp at * <;> omega) | (simp_all <;> omega) | (simp_all; done)
          · first | omega | rfl | (intro hg; simp only [nrmT] at hg; omega) | (intro g1 g2; simp [g1, g2]; done) | (intro g1; simp at g1 ⊢; simp [g1]; done) | (simp only [nrmT] at *; omega) | (simp at * <;> omega) | (simp_all <;> omega) | (simp_all; done)
          · rw [Int.toNat_natCast]; exact (colL_zero _ _).symm
          · intro k hk; simp at hk
        · simp
      · intro used j hJ
        obtain ⟨h0, h1, h2, h3, h4⟩ := hJ
        refine ⟨?_, ?_⟩
        · intro b3
          try simp only [nrmT] at b3
          refine ⟨rfl, ?_, ?_, ?_, ?_, ?_, ?_, ?_, ?_, ?_⟩
          · first | omega | rfl | (intro hg; simp only [nrmT] at hg; omega) | (intro g1 g2; simp [g1, g2]; done) | (intro g1; simp at g1 ⊢; simp [g1]; done) | (simp only [nrmT] at *; omega) | (simp at * <;> omega) | (simp_all <;> omega) | (simp_all; done)
          · first | omega | rfl | (intro hg; simp only [nrmT] at hg; omega) | (intro g1 g2; simp [g1, g2]; done) | (intro g1; simp at g1 ⊢; simp [g1]; done) | (simp only [nrmT] at *; omega) | (simp at * <;> omega) | (simp_all <;> omega) | (simp_all; done)
          · first | omega | rfl | (intro hg; simp only [nrmT] at hg; omega) | (intro g1 g2; simp [g1, g2]; done) | (intro g1; simp at g1 ⊢; simp [g1]; done) | (simp only [nrmT] at *; omega) | (simp at * <;> omega) | (simp_all <;> omega) | (simp_all; done)
          · first | omega | rfl | (intro hg; simp only [nrmT] at hg; omega) | (intro g1 g2; simp [g1, g2]; done) | (intro g1; simp at g1 ⊢; simp [g1]; done) | (simp only [nrmT] at *; omega) | (simp at * <;> omega) | (simp_all <;> omega) | (simp_all; done)
          · first | omega | rfl | (intro hg; simp only [nrmT] at hg; omega) | (intro g1 g2; simp [g1, g2]; done) | (intro g1; simp at g1 ⊢; simp [g1]; done) | (simp only [nrmT] at *; omega) | (simp at * <;> omega) | (simp_all <;> omega) | (simp_all; done)
          · first | omega | rfl | (intro hg; simp only [nrmT] at hg; omega) | (intro g1 g2; simp [g1, g2]; done) | (intro g1; simp at g1 ⊢; simp [g1]; done) | (simp only [nrmT] at *; omega) | (simp at * <;> omega) | (simp_all <;> omega) | (simp_all; done)
          · refine s_l7Row_pc (flow.getD j.toNat []) (Open.length : Int) (needs.getD j.toNat 0) set ?_ ?_
            · first | omega | rfl | (intro hg; simp only [nrmT] at hg; omega) | (intro g1 g2; simp [g1, g2]; done) | (intro g1; simp at g1 ⊢; simp [g1]; done) | (simp only [nrmT] at *; omega) | (simp at * <;> omega) | (simp_all <;> omega) | (simp_all; done)
            · exact nb _ (by omega)
          · intro b4
            try simp only [nrmT] at b4
            refine flow_false fun h => ?_
            have h9 := (flowGood_row h).2.1 j.toNat (by omega)
            rw [Int.toNat_natCast, h9] at b4
            cases b4
          · intro b5
            try simp only [nrmT] at b5
            refine ⟨?_, ?_⟩
            · refine ⟨used, 0, ?_⟩
              refine ⟨?_, rfl, rfl, rfl, rfl, rfl, rfl, rfl, rfl, rfl, rfl⟩
              · refine ⟨?_, ?_, ?_, ?_, ?_⟩
                · first | omega | rfl | (intro hg; simp only [nrmT] at hg; omega) | (intro g1 g2; simp [g1, g2]; done) | (intro g1; simp at g1 ⊢; simp [g1]; done) | (simp only [nrmT] at *; omega) | (simp at * <;> omega) | (simp_all <;> omega) | (simp_all; done)
                · first | omega | rfl | (intro hg; simp only [nrmT] at hg; omega) | (intro g1 g2; simp [g1, g2]; done) | (intro g1; simp at g1 ⊢; simp [g1]; done) | (simp only [nrmT] at *; omega) | (simp at * <;> omega) | (simp_all <;> omega) | (simp_all; done)
                · exact h3
                · rw [h3, colL_len]
                · first | exact h8 | (rw [← b5]; rw [Int.toNat_natCast])
            · intro used1 a hJ
              obtain ⟨h5, h6, h7, h7l, h8⟩ := hJ
              refine ⟨?_, ?_⟩
              · intro b6
                try simp only [nrmT] at b6
                refine ⟨rfl, ?_, ?_, ?_, ?_, ?_, ?_, ?_, ?_, ?_, ?_, ?_, ?_, ?_, ?_, ?_⟩
                · first | omega | rfl | (intro hg; simp only [nrmT] at hg; omega) | (intro g1 g2; simp [g1, g2]; done) | (intro g1; simp at g1 ⊢; simp [g1]; done) | (simp only [nrmT] at *; omega) | (simp at * <;> omega) | (simp_all <;> omega) | (simp_all; done)
                · first | omega | rfl | (intro hg; simp only [nrmT] at hg; omega) | (intro g1 g2; simp [g1, g2]; done) | (intro g1; simp at g1 ⊢; simp [g1]; done) | (simp only [nrmT] at *; omega) | (simp at * <;> omega) | (simp_all <;> omega) | (simp_all; done)
                · first | omega | rfl | (intro hg; simp only [nrmT] at hg; omega) | (intro g1 g2; simp [g1, g2]; done) | (intro g1; simp at g1 ⊢; simp [g1]; done) | (simp only [nrmT] at *; omega) | (simp at * <;> omega) | (simp_all <;> omega) | (simp_all; done)
                · first | omega | rfl | (intro hg; simp only [nrmT] at hg; omega) | (intro g1 g2; simp [g1, g2]; done) | (intro g1; simp at g1 ⊢; simp [g1]; done) | (simp only [nrmT] at *; omega) | (simp at * <;> omega) | (simp_all <;> omega) | (simp_all; done)
                · first | omega | rfl | (intro hg; simp only [nrmT] at hg; omega) | (intro g1 g2; simp [g1, g2]; done) | (intro g1; simp at g1 ⊢; simp [g1]; done) | (simp only [nrmT] at *; omega) | (simp at * <;> omega) | (simp_all <;> omega) | (simp_all; done)
                · first | omega | rfl | (intro hg; simp only [nrmT] at hg; omega) | (intro g1 g2; simp [g1, g2]; done) | (intro g1; simp at g1 ⊢; simp [g1]; done) | (simp only [nrmT] at *; omega) | (simp at * <;> omega) | (simp_all <;> omega) | (simp_all; done)
                · first | omega | rfl | (intro hg; simp only [nrmT] at hg; omega) | (intro g1 g2; simp [g1, g2]; done) | (intro g1; simp at g1 ⊢; simp [g1]; done) | (simp only [nrmT] at *; omega) | (simp at * <;> omega) | (simp_all <;> omega) | (simp_all; done)
                · have := (rowGood_facts h8).1
                  omega
                · have := (rowGood_facts h8).1
                  omega
                · have hb : ∀ k, k < j.toNat + 1 → rowGood Open.length set (flow.getD k []) (needs.getD k 0) = true := by
                    intro k hk
                    by_cases e : k = j.toNat
                    · rw [e]; exact h8
                    · exact h4 k (by omega)
                  have h9 := colTo_bound (m := j.toNat + 1) hb (fun k hk => (nb k (by omega)).2) (a := a.toNat) (by omega) j.toNat (by omega)
                  have h10 := (rowGood_facts h8).2.1 a.toNat (by omega)
                  have h11 := nb j.toNat (by omega)
                  have e := colL_get (n := Open.length) (flow := flow) (j := j.toNat) (c := a.toNat) (a := a.toNat) (by omega)
                  rw [← h7, if_neg (by omega)] at e
                  omega
                · first | omega | rfl | (intro hg; simp only [nrmT] at hg; omega) | (intro g1 g2; simp [g1, g2]; done) | (intro g1; simp at g1 ⊢; simp [g1]; done) | (simp only [nrmT] at *; omega) | (simp at * <;> omega) | (simp_all <;> omega) | (simp_all; done)
                · first | omega | rfl | (intro hg; simp only [nrmT] at hg; omega) | (intro g1 g2; simp [g1, g2]; done) | (intro g1; simp at g1 ⊢; simp [g1]; done) | (simp only [nrmT] at *; omega) | (simp at * <;> omega) | (simp_all <;> omega) | (simp_all; done)
                · first | omega | rfl | (intro hg; simp only [nrmT] at hg; omega) | (intro g1 g2; simp [g1, g2]; done) | (intro g1; simp at g1 ⊢; simp [g1]; done) | (simp only [nrmT] at *; omega) | (simp at * <;> omega) | (simp_all <;> omega) | (simp_all; done)
                · first | omega | (have e9 := colL_len Open.length flow Dist.length 0; rw [← k3] at e9; omega) | (have e9 := colL_len Open.length flow j.toNat a.toNat; rw [← h7] at e9; omega)
                · refine ⟨(used1.set a.toNat ((used1.getD a.toNat 0) + ((flow.getD j.toNat []).getD a.toNat 0))), (a + 1), ?_⟩
                  refine ⟨?_, ?_, rfl, rfl, rfl, rfl, ?_, rfl, rfl, rfl, rfl, rfl⟩
                  · refine ⟨?_, ?_, ?_, ?_, ?_⟩
                    · first | omega | rfl | (intro hg; simp only [nrmT] at hg; omega) | (intro g1 g2; simp [g1, g2]; done) | (intro g1; simp at g1 ⊢; simp [g1]; done) | (simp only [nrmT] at *; omega) | (simp at * <;> omega) | (simp_all <;> omega) | (simp_all; done)
                    · first | omega | (have := colL_len Open.length flow j.toNat a.toNat; rw [← h7] at this; omega) | (have := colL_len Open.length flow Dist.length 0; rw [← k3] at this; omega)
                    · rw [h7, show (a + 1).toNat = a.toNat + 1 by omega]; exact colL_set (by omega)
                    · rw [List.length_set]; exact h7l
                    · first | exact h8 | (rw [← b6]; rw [Int.toNat_natCast])
                  · have e9 := colL_len Open.length flow j.toNat a.toNat
                    rw [← h7] at e9
                    first | (show _ < _; omega) | (simp only [s_l7Flow_mJ1]; omega) | (simp only [s_l7Flow_mJ1] at *; simp at *; omega)
                  · first | omega | rfl | (intro hg; simp only [nrmT] at hg; omega) | (intro g1 g2; simp [g1, g2]; done) | (intro g1; simp at g1 ⊢; simp [g1]; done) | (simp only [nrmT] at *; omega) | (simp at * <;> omega) | (simp_all <;> omega) | (simp_all; done)
              · intro b7
                try simp only [nrmT] at b7
                refine ⟨?_, ?_⟩
                · first | omega | (have e9 := colL_len Open.length flow Dist.length 0; rw [← k3] at e9; omega) | (have e9 := colL_len Open.length flow j.toNat a.toNat; rw [← h7] at e9; omega)
                · refine ⟨used1, (j + 1), ?_⟩
                  refine ⟨?_, ?_, rfl, rfl, rfl, rfl, rfl, rfl, rfl, rfl, rfl⟩
                  · refine ⟨?_, ?_, ?_, ?_, ?_⟩
                    · first | assumption | (simp only [bne_eq_false_iff_eq] at b7; omega) | omega
                    · first | omega | rfl | (intro hg; simp only [nrmT] at hg; omega) | (intro g1 g2; simp [g1, g2]; done) | (intro g1; simp at g1 ⊢; simp [g1]; done) | (simp only [nrmT] at *; omega) | (simp at * <;> omega) | (simp_all <;> omega) | (simp_all; done)
                    · first | omega | rfl | (intro hg; simp only [nrmT] at hg; omega) | (intro g1 g2; simp [g1, g2]; done) | (intro g1; simp at g1 ⊢; simp [g1]; done) | (simp only [nrmT] at *; omega) | (simp at * <;> omega) | (simp_all <;> omega) | (simp_all; done)
                    · rw [h7, show a.toNat = Open.length by have := colL_len Open.length flow j.toNat a.toNat; rw [← h7] at this; omega, show (j + 1).toNat = j.toNat + 1 by omega]; exact colL_next _ _ _
                    · intro k hk
                      by_cases e : k = j.toNat
                      · rw [e]; exact h8
                      · exact h4 k (by omega)
                  · first | (show _ < _; omega) | (simp only [s_l7Flow_mJ0]; omega) | (simp only [s_l7Flow_mJ0] at *; simp at *; omega)
        · intro b8
          try simp only [nrmT] at b8
          refine ⟨used, ?_⟩
          refine ⟨?_, rfl, rfl, rfl⟩
          · refine ⟨?_, ?_, ?_, ?_⟩
            · first | assumption | (simp only [bne_eq_false_iff_eq] at b8; omega) | omega
            · rw [h3, show j.toNat = Dist.length by omega]
            · rw [h3, colL_len]
            · intro k hk; exact h4 k (by omega)
    · intro used hJ
      obtain ⟨k0, k3, k3l, k4⟩ := hJ
      refine ⟨?_, ?_⟩
      · refine ⟨0, ?_⟩
        refine ⟨?_, rfl, rfl, rfl, rfl⟩
        · refine ⟨?_, ?_, ?_⟩
          · first | omega | rfl | (intro hg; simp only [nrmT] at hg; omega) | (intro g1 g2; simp [g1, g2]; done) | (intro g1; simp at g1 ⊢; simp [g1]; done) | (simp only [nrmT] at *; omega) | (simp at * <;> omega) | (simp_all <;> omega) | (simp_all; done)
          · first | omega | rfl | (intro hg; simp only [nrmT] at hg; omega) | (intro g1 g2; simp [g1, g2]; done) | (intro g1; simp at g1 ⊢; simp [g1]; done) | (simp only [nrmT] at *; omega) | (simp at * <;> omega) | (simp_all <;> omega) | (simp_all; done)
          · first | omega | rfl | (intro hg; simp only [nrmT] at hg; omega) | (intro g1 g2; simp [g1, g2]; done) | (intro g1; simp at g1 ⊢; simp [g1]; done) | (simp only [nrmT] at *; omega) | (simp at * <;> omega) | (simp_all <;> omega) | (simp_all; done)
      · intro c hJ
        obtain ⟨m1, m2, m3⟩ := hJ
        refine ⟨?_, ?_⟩
        · intro b9
          try simp only [nrmT] at b9
          refine ⟨rfl, ?_, ?_, ?_, ?_, ?_, ?_, ?_, ?_⟩
          · first | omega | rfl | (intro hg; simp only [nrmT] at hg; omega) | (intro g1 g2; simp [g1, g2]; done) | (intro g1; simp at g1 ⊢; simp [g1]; done) | (simp only [nrmT] at *; omega) | (simp at * <;> omega) | (simp_all <;> omega) | (simp_all; done)
          · first | omega | rfl | (intro hg; simp only [nrmT] at hg; omega) | (intro g1 g2; simp [g1, g2]; done) | (intro g1; simp at g1 ⊢; simp [g1]; done) | (simp only [nrmT] at *; omega) | (simp at * <;> omega) | (simp_all <;> omega) | (simp_all; done)
          · first | omega | rfl | (intro hg; simp only [nrmT] at hg; omega) | (intro g1 g2; simp [g1, g2]; done) | (intro g1; simp at g1 ⊢; simp [g1]; done) | (simp only [nrmT] at *; omega) | (simp at * <;> omega) | (simp_all <;> omega) | (simp_all; done)
          · first | omega | rfl | (intro hg; simp only [nrmT] at hg; omega) | (intro g1 g2; simp [g1, g2]; done) | (intro g1; simp at g1 ⊢; simp [g1]; done) | (simp only [nrmT] at *; omega) | (simp at * <;> omega) | (simp_all <;> omega) | (simp_all; done)
          · have e9 := colL_len Open.length flow Dist.length 0
            rw [← k3] at e9
            omega
          · have e9 := colL_len Open.length flow Dist.length 0
            rw [← k3] at e9
            omega
          · intro b10
            try simp only [nrmT] at b10
            refine flow_false fun h => ?_
            have h9 := (flowGood_row h).2.2 c.toNat (by omega)
            have e := colL_get (n := Open.length) (flow := flow) (j := Dist.length) (c := 0) (a := c.toNat) (by omega)
            rw [← k3, if_neg (by omega)] at e
            omega
          · intro b11
            try simp only [nrmT] at b11
            refine ⟨?_, ?_⟩
            · first | omega | (have e9 := colL_len Open.length flow Dist.length 0; rw [← k3] at e9; omega) | (have e9 := colL_len Open.length flow j.toNat a.toNat; rw [← h7] at e9; omega)
            · refine ⟨(c + 1), ?_⟩
              refine ⟨?_, ?_, rfl, rfl, rfl, rfl⟩
              · refine ⟨?_, ?_, ?_⟩
                · first | omega | rfl | (intro hg; simp only [nrmT] at hg; omega) | (intro g1 g2; simp [g1, g2]; done) | (intro g1; simp at g1 ⊢; simp [g1]; done) | (simp only [nrmT] at *; omega) | (simp at * <;> omega) | (simp_all <;> omega) | (simp_all; done)
                · first | omega | (have := colL_len Open.length flow j.toNat a.toNat; rw [← h7] at this; omega) | (have := colL_len Open.length flow Dist.length 0; rw [← k3] at this; omega)
                · refine allTo_step m1 m3 (decide_eq_true ?_)
                  have hc : c.toNat < Open.length := by have := colL_len Open.length flow Dist.length 0; rw [← k3] at this; omega
                  have e := colL_get (n := Open.length) (flow := flow) (j := Dist.length) (c := 0) (a := c.toNat) hc
                  rw [← k3, if_neg (by omega)] at e
                  omega
              · have e9 := colL_len Open.length flow Dist.length 0
                rw [← k3] at e9
                first | (show _ < _; omega) | (simp only [s_l7Flow_mJ2]; omega) | (simp only [s_l7Flow_mJ2] at *; simp at *; omega)
        · intro b12
          try simp only [nrmT] at b12
          have e9 := colL_len Open.length flow Dist.length 0
          rw [← k3] at e9
          exact (flow_true k0 k4 fun a ha => of_decide_eq_true (allTo_iff.1 m3 a (by omega))).symm
theorem s_l7Flow_pc (Open : List Int) (Dist : List (List Int)) (rooms : List Int) (needs : List Int) (set : List Int) (flow : List (List Int)) (hh : ((goodField Open Dist && rising set 0 ((Open.length : Int) - 1) && decide (0 < set.length)) && (rowOk rooms (Open.length : Int) 20 && rowOk needs (Dist.length : Int) 5)) = true) : PC Try.prog 135 [.agg [.sl (.ints Open), .sl (.rows Dist)], .sl (.ints rooms), .sl (.ints needs), .sl (.ints set), .sl (.rows flow)] (.one (.d (.bool (flowGood Open.length Dist.length rooms needs set flow)))) :=
  pc_wf @Try.call135 fun hw => pc_by (by kernel_rfl) Try.func135 @Try.call135 (by kernel_rfl) s_l7Flow_C (s_l7Flow_A Open Dist rooms needs set flow) (by kernel_rfl) (s_l7Flow_vc Open Dist rooms needs set flow hh hw.1.1 hw.1.2.1.1 hw.1.2.1.2 hw.2.1 hw.2.2.1 hw.2.2.2.1 hw.2.2.2.2.1.1 hw.2.2.2.2.1.2) (by kernel_rfl)
def s_l7Flow_orc : List D → Orc := orcN [none, some .ints, some .ints, some .ints, some .rows] fun ds => match ds with
  | [.agg [.sl (.ints Open), .sl (.rows Dist)], .sl (.ints rooms), .sl (.ints needs), .sl (.ints set), .sl (.rows flow)] => some (.one (.d (.bool (flowGood Open.length Dist.length rooms needs set flow))))
  | _ => none
def s_IsFlow_C (f : FuncId) (ds : List D) : Orc := bif Nat.beq f 129 then s_l7Given_orc ds else bif Nat.beq f 135 then s_l7Flow_orc ds else .no
def s_IsFlow_A (Open : List Int) (Dist : List (List Int)) (rooms : List Int) (needs : List Int) (set : List Int) (flow : List (List Int)) : Ann := .none
def s_IsFlow_P (Open : List Int) (Dist : List (List Int)) (rooms : List Int) (needs : List Int) (set : List Int) (flow : List (List Int)) : Prop :=
  (PC Try.prog 129 [.agg [.sl (.ints Open), .sl (.rows Dist)], .sl (.ints rooms), .sl (.ints needs), .sl (.ints set)] (.one (.d (.bool ((goodField Open Dist && rising set 0 ((Open.length : Int) - 1) && decide (0 < set.length)) && (rowOk rooms (Open.length : Int) 20 && rowOk needs (Dist.length : Int) 5)))))) ∧ (((!((goodField Open Dist && rising set 0 ((Open.length : Int) - 1) && decide (0 < set.length)) && (rowOk rooms (Open.length : Int) 20 && rowOk needs (Dist.length : Int) 5))) = true → ((false = (((goodField Open Dist && rising set 0 ((Open.length : Int) - 1) && decide (0 < set.length)) && (rowOk rooms (Open.length : Int) 20 && rowOk needs (Dist.length : Int) 5)) && flowGood Open.length Dist.length rooms needs set flow)) ∧ (false = ((goodField Open Dist && rising set 0 ((Open.length : Int) - 1) && decide (0 < set.length)) && (rowOk rooms (Open.length : Int) 20 && rowOk needs (Dist.length : Int) 5))))) ∧ ((!((goodField Open Dist && rising set 0 ((Open.length : Int) - 1) && decide (0 < set.length)) && (rowOk rooms (Open.length : Int) 20 && rowOk needs (Dist.length : Int) 5))) = false → (PC Try.prog 135 [.agg [.sl (.ints Open), .sl (.rows Dist)], .sl (.ints rooms), .sl (.ints needs), .sl (.ints set), .sl (.rows flow)] (.one (.d (.bool (flowGood Open.length Dist.length rooms needs set flow))))) ∧ (((flowGood Open.length Dist.length rooms needs set flow) = (((goodField Open Dist && rising set 0 ((Open.length : Int) - 1) && decide (0 < set.length)) && (rowOk rooms (Open.length : Int) 20 && rowOk needs (Dist.length : Int) 5)) && flowGood Open.length Dist.length rooms needs set flow)) ∧ (true = ((goodField Open Dist && rising set 0 ((Open.length : Int) - 1) && decide (0 < set.length)) && (rowOk rooms (Open.length : Int) 20 && rowOk needs (Dist.length : Int) 5))))))
theorem s_IsFlow_vc (Open : List Int) (Dist : List (List Int)) (rooms : List Int) (needs : List Int) (set : List Int) (flow : List (List Int))  (w_Open : (Open.length : Int) ≤ 9223372036854775807) (w_Dist : (Dist.length : Int) ≤ 9223372036854775807) (v_Dist : ∀ x9 ∈ Dist, (x9.length : Int) ≤ 9223372036854775807) (w_rooms : (rooms.length : Int) ≤ 9223372036854775807) (w_needs : (needs.length : Int) ≤ 9223372036854775807) (w_set : (set.length : Int) ≤ 9223372036854775807) (w_flow : (flow.length : Int) ≤ 9223372036854775807) (v_flow : ∀ x9 ∈ flow, (x9.length : Int) ≤ 9223372036854775807) : s_IsFlow_P Open Dist rooms needs set flow := by
  unfold s_IsFlow_P
  refine ⟨s_l7Given_pc Open Dist rooms needs set, ?_, ?_⟩
  · intro b1
    try simp only [Bool.not_eq_true', Bool.not_eq_false', Bool.not_not] at b1
    refine ⟨?_, ?_⟩
    · rw [b1]; rfl
    · exact b1.symm
  · intro b2
    try simp only [Bool.not_eq_true', Bool.not_eq_false', Bool.not_not] at b2
    refine ⟨?_, ?_, ?_⟩
    · refine s_l7Flow_pc Open Dist rooms needs set flow ?_
      · exact b2
    · rw [b2]; rfl
    · exact b2.symm
theorem s_IsFlow_pc (Open : List Int) (Dist : List (List Int)) (rooms : List Int) (needs : List Int) (set : List Int) (flow : List (List Int))  : PC Try.prog 66 [.agg [.sl (.ints Open), .sl (.rows Dist)], .sl (.ints rooms), .sl (.ints needs), .sl (.ints set), .sl (.rows flow)] (.tup [.d (.bool (((goodField Open Dist && rising set 0 ((Open.length : Int) - 1) && decide (0 < set.length)) && (rowOk rooms (Open.length : Int) 20 && rowOk needs (Dist.length : Int) 5)) && flowGood Open.length Dist.length rooms needs set flow)), .d (.bool ((goodField Open Dist && rising set 0 ((Open.length : Int) - 1) && decide (0 < set.length)) && (rowOk rooms (Open.length : Int) 20 && rowOk needs (Dist.length : Int) 5)))]) :=
  pc_wf @Try.call66 fun hw => pc_by (by kernel_rfl) Try.func66 @Try.call66 (by kernel_rfl) s_IsFlow_C (s_IsFlow_A Open Dist rooms needs set flow) (by kernel_rfl) (s_IsFlow_vc Open Dist rooms needs set flow hw.1.1 hw.1.2.1.1 hw.1.2.1.2 hw.2.1 hw.2.2.1 hw.2.2.2.1 hw.2.2.2.2.1.1 hw.2.2.2.2.1.2) (by kernel_rfl)
def s_IsFlow_orc : List D → Orc := orcN [none, some .ints, some .ints, some .ints, some .rows] fun ds => match ds with
  | [.agg [.sl (.ints Open), .sl (.rows Dist)], .sl (.ints rooms), .sl (.ints needs), .sl (.ints set), .sl (.rows flow)] => some (.tup [.d (.bool (((goodField Open Dist && rising set 0 ((Open.length : Int) - 1) && decide (0 < set.length)) && (rowOk rooms (Open.length : Int) 20 && rowOk needs (Dist.length : Int) 5)) && flowGood Open.length Dist.length rooms needs set flow)), .d (.bool ((goodField Open Dist && rising set 0 ((Open.length : Int) - 1) && decide (0 < set.length)) && (rowOk rooms (Open.length : Int) 20 && rowOk needs (Dist.length : Int) 5)))])
  | _ => none
abbrev i_Field_isFlow_JJ0 (Open : List Int) (Dist : List (List Int)) (rooms : List Int) (needs : List Int) (set : List Int) (flow : List (List Int)) (left : List Int) (i : Int) : Prop := (flow.length = Dist.length) ∧ (0 ≤ i) ∧ (i ≤ (flow.length : Int)) ∧ (left = leftL Open.length rooms flow i.toNat 0) ∧ (∀ k, k < i.toNat → rowGood Open.length set (flow.getD k []) (needs.getD k 0) = true) ∧ (∀ a, a < Open.length → colTo flow a i.toNat ≤ rooms.getD a 0)
abbrev i_Field_isFlow_mJ0 (Open : List Int) (Dist : List (List Int)) (rooms : List Int) (needs : List Int) (set : List Int) (flow : List (List Int)) (left : List Int) (i : Int) : Nat := (flow.length - i).toNat
abbrev i_Field_isFlow_JJ1 (Open : List Int) (Dist : List (List Int)) (rooms : List Int) (needs : List Int) (set : List Int) (flow : List (List Int)) (left : List Int) (i : Int) (left1 : List Int) (need : Int) (a : Int) : Prop := (0 ≤ a) ∧ (a ≤ (Open.length : Int)) ∧ (left1 = leftL Open.length rooms flow i.toNat a.toNat) ∧ (need = needs.getD i.toNat 0 - sumTo (fun x9 => (flow.getD i.toNat []).getD x9 0) a.toNat) ∧ (0 ≤ need ∧ need ≤ needs.getD i.toNat 0) ∧ ((flow.getD i.toNat []).length = Open.length) ∧ (allTo (rowAt set (flow.getD i.toNat []) (needs.getD i.toNat 0)) a.toNat = true) ∧ (∀ c, c < Open.length → colTo flow c (if c < a.toNat then i.toNat + 1 else i.toNat) ≤ rooms.getD c 0)
abbrev i_Field_isFlow_mJ1 (Open : List Int) (Dist : List (List Int)) (rooms : List Int) (needs : List Int) (set : List Int) (flow : List (List Int)) (left : List Int) (i : Int) (left1 : List Int) (need : Int) (a : Int) : Nat := (Open.length - a).toNat
def i_Field_isFlow_C (f : FuncId) (ds : List D) : Orc := bif Nat.beq f 185 then slices_Clone_int_int__orc ds else bif Nat.beq f 139 then i_bagOf_orc ds else bif Nat.beq f 107 then i_between_orc ds else bif Nat.beq f 183 then i_bag_has_orc ds else .no
def i_Field_isFlow_A (Open : List Int) (Dist : List (List Int)) (rooms : List Int) (needs : List Int) (set : List Int) (flow : List (List Int)) : Ann := .two (.none) (.two (.none) (.two (.none) (.two (.two (.none) (.loop (cut2 (fun (left : List Int) (i : Int) => i_Field_isFlow_JJ0 Open Dist rooms needs set flow left i) (fun (left : List Int) (i : Int) => [(1, .d false (.sl (.ints rooms))), (2, .d false (.sl (.ints needs))), (11, .own 24 left.length), (12, .d true (.int .u64 ((bagN set : Nat) : Int))), (27, .d false (.sl (.rows flow))), (28, .d true (.int .i64 (flow.length : Int))), (29, .d true (.int .i64 i))]) (fun (left : List Int) (i : Int) => [(24, .arr true 3 (.ints left))])) (fun g => i_Field_isFlow_mJ0 Open Dist rooms needs set flow g.1 g.2) (fun g => (fun (left : List Int) (i : Int) => .two (.none) (.two (.none) (.two (.two (.none) (.two (.none) (.two (.none) (.two (.two (.none) (.loop (cut3 (fun (left1 : List Int) (need : Int) (a : Int) => i_Field_isFlow_JJ1 Open Dist rooms needs set flow left i left1 need a) (fun (left1 : List Int) (need : Int) (a : Int) => [(1, .d false (.sl (.ints rooms))), (2, .d false (.sl (.ints needs))), (11, .own 24 left1.length), (12, .d true (.int .u64 ((bagN set : Nat) : Int))), (15, .d true (.int .i64 need)), (27, .d false (.sl (.rows flow))), (28, .d true (.int .i64 (flow.length : Int))), (29, .d true (.int .i64 i)), (43, .d false (.sl (.ints (flow.getD i.toNat [])))), (44, .d true (.int .i64 (((flow.getD i.toNat []).length) : Int))), (45, .d true (.int .i64 a))]) (fun (left1 : List Int) (need : Int) (a : Int) => [(24, .arr true 3 (.ints left1))])) (fun g => i_Field_isFlow_mJ1 Open Dist rooms needs set flow left i g.1 g.2.1 g.2.2) (fun _ => .none))) (.none))))) (.none)))) (g.1) (g.2)))) (.none))))
def i_Field_isFlow_P (Open : List Int) (Dist : List (List Int)) (rooms : List Int) (needs : List Int) (set : List Int) (flow : List (List Int)) : Prop :=
  ((((flow.length : Int) != (needs.length : Int)) = true → ((false = (flowGood Open.length Dist.length rooms needs set flow)))) ∧ (((flow.length : Int) != (needs.length : Int)) = false → (PC Try.prog 185 [.sl (.ints rooms)] (.one (.own 3 (.ints rooms)))) ∧ (PC Try.prog 139 [.sl (.ints set)] (.one (.d (.int .u64 ((bagN set : Nat) : Int))))) ∧ ((∃ left' : List Int, ∃ i' : Int, (i_Field_isFlow_JJ0 Open Dist rooms needs set flow left' i') ∧ (rooms = rooms) ∧ (needs = needs) ∧ (rooms.length = left'.length) ∧ (((bagN set : Nat) : Int) = ((bagN set : Nat) : Int)) ∧ (flow = flow) ∧ ((flow.length : Int) = (flow.length : Int)) ∧ ((0 : Int) = i') ∧ (rooms = left')) ∧ (∀ left : List Int, ∀ i : Int, (i_Field_isFlow_JJ0 Open Dist rooms needs set flow left i) → (((decide (i < (flow.length : Int))) = true → ((0 : Int) ≤ i) ∧ ((i : Int) < flow.length) ∧ (i.toNat < flow.length) ∧ ((((((flow.getD i.toNat []).length) : Int) != (rooms.length : Int)) = true → ((false = (flowGood Open.length Dist.length rooms needs set flow)))) ∧ (((((flow.getD i.toNat []).length) : Int) != (rooms.length : Int)) = false → ((0 : Int) ≤ i) ∧ ((i : Int) < needs.length) ∧ (i.toNat < needs.length) ∧ ((∃ left1' : List Int, ∃ need' : Int, ∃ a' : Int, (i_Field_isFlow_JJ1 Open Dist rooms needs set flow left i left1' need' a') ∧ (rooms = rooms) ∧ (needs = needs) ∧ (left.length = left1'.length) ∧ (((bagN set : Nat) : Int) = ((bagN set : Nat) : Int)) ∧ ((needs.getD i.toNat 0) = need') ∧ (flow = flow) ∧ ((flow.length : Int) = (flow.length : Int)) ∧ (i = i) ∧ ((flow.getD i.toNat []) = (flow.getD i.toNat [])) ∧ ((((flow.getD i.toNat []).length) : Int) = (((flow.getD i.toNat []).length) : Int)) ∧ ((0 : Int) = a') ∧ (left = left1')) ∧ (∀ left1 : List Int, ∀ need : Int, ∀ a : Int, (i_Field_isFlow_JJ1 Open Dist rooms needs set flow left i left1 need a) → (((decide (a < (((flow.getD i.toNat []).length) : Int))) = true → ((0 : Int) ≤ a) ∧ ((a : Int) < (flow.getD i.toNat []).length) ∧ (a.toNat < (flow.getD i.toNat []).length) ∧ ((0 : Int) ≤ a) ∧ ((a : Int) < (left1.length : Int)) ∧ (a.toNat < left1.length) ∧ (PC Try.prog 107 [.int .i64 ((flow.getD i.toNat []).getD a.toNat 0), .int .i64 0, .int .i64 (min need (left1.getD a.toNat 0))] (.one (.d (.bool (inB ((flow.getD i.toNat []).getD a.toNat 0) 0 (min need (left1.getD a.toNat 0))))))) ∧ ((!(!(inB ((flow.getD i.toNat []).getD a.toNat 0) 0 (min need (left1.getD a.toNat 0))))) = true → (!(!(inB ((flow.getD i.toNat []).getD a.toNat 0) 0 (min need (left1.getD a.toNat 0))))) = true) ∧ ((!(!(inB ((flow.getD i.toNat []).getD a.toNat 0) 0 (min need (left1.getD a.toNat 0))))) = true → (!(!(inB ((flow.getD i.toNat []).getD a.toNat 0) 0 (min need (left1.getD a.toNat 0))))) = true) ∧ (((!(!(inB ((flow.getD i.toNat []).getD a.toNat 0) 0 (min need (left1.getD a.toNat 0))))) && (decide (((flow.getD i.toNat []).getD a.toNat 0) > 0))) = true → ((!(!(inB ((flow.getD i.toNat []).getD a.toNat 0) 0 (min need (left1.getD a.toNat 0))))) && (decide (((flow.getD i.toNat []).getD a.toNat 0) > 0))) = true) ∧ (((!(!(inB ((flow.getD i.toNat []).getD a.toNat 0) 0 (min need (left1.getD a.toNat 0))))) && (decide (((flow.getD i.toNat []).getD a.toNat 0) > 0))) = true → ((!(!(inB ((flow.getD i.toNat []).getD a.toNat 0) 0 (min need (left1.getD a.toNat 0))))) && (decide (((flow.getD i.toNat []).getD a.toNat 0) > 0))) = true) ∧ (((!(!(inB ((flow.getD i.toNat []).getD a.toNat 0) 0 (min need (left1.getD a.toNat 0))))) && (decide (((flow.getD i.toNat []).getD a.toNat 0) > 0))) = true → PC Try.prog 183 [.int .u64 ((bagN set : Nat) : Int), .int .i64 a] (.one (.d (.bool (((bagN set : Nat) : Int).toNat.testBit a.toNat))))) ∧ (((!(!(inB ((flow.getD i.toNat []).getD a.toNat 0) 0 (min need (left1.getD a.toNat 0))))) && (decide (((flow.getD i.toNat []).getD a.toNat 0) > 0))) = true → ((!(!(inB ((flow.getD i.toNat []).getD a.toNat 0) 0 (min need (left1.getD a.toNat 0))))) && (decide (((flow.getD i.toNat []).getD a.toNat 0) > 0))) = true) ∧ (((!(!(inB ((flow.getD i.toNat []).getD a.toNat 0) 0 (min need (left1.getD a.toNat 0))))) = true → (!(!(inB ((flow.getD i.toNat []).getD a.toNat 0) 0 (min need (left1.getD a.toNat 0))))) = true)) ∧ (((!(!(inB ((flow.getD i.toNat []).getD a.toNat 0) 0 (min need (left1.getD a.toNat 0))))) = true → (decide (((flow.getD i.toNat []).getD a.toNat 0) > 0)) = true → ((!(!(inB ((flow.getD i.toNat []).getD a.toNat 0) 0 (min need (left1.getD a.toNat 0))))) && (decide (((flow.getD i.toNat []).getD a.toNat 0) > 0))) = true)) ∧ (((!(!(inB ((flow.getD i.toNat []).getD a.toNat 0) 0 (min need (left1.getD a.toNat 0))))) = true → (decide (((flow.getD i.toNat []).getD a.toNat 0) > 0)) = false → true = true)) ∧ (true = true) ∧ (((!(inB ((flow.getD i.toNat []).getD a.toNat 0) 0 (min need (left1.getD a.toNat 0)))) = true → true = true)) ∧ (((!(inB ((flow.getD i.toNat []).getD a.toNat 0) 0 (min need (left1.getD a.toNat 0)))) = false → (!(!(inB ((flow.getD i.toNat []).getD a.toNat 0) 0 (min need (left1.getD a.toNat 0))))) = true)) ∧ (((cond (!(inB ((flow.getD i.toNat []).getD a.toNat 0) 0 (min need (left1.getD a.toNat 0)))) true (cond (decide (((flow.getD i.toNat []).getD a.toNat 0) > 0)) (!(((bagN set : Nat) : Int).toNat.testBit a.toNat)) false)) = true → ((false = (flowGood Open.length Dist.length rooms needs set flow)))) ∧ ((cond (!(inB ((flow.getD i.toNat []).getD a.toNat 0) 0 (min need (left1.getD a.toNat 0)))) true (cond (decide (((flow.getD i.toNat []).getD a.toNat 0) > 0)) (!(((bagN set : Nat) : Int).toNat.testBit a.toNat)) false)) = false → (-9223372036854775808 ≤ (need - ((flow.getD i.toNat []).getD a.toNat 0)) ∧ (need - ((flow.getD i.toNat []).getD a.toNat 0)) ≤ 9223372036854775807) ∧ ((0 : Int) ≤ a) ∧ ((a : Int) < (left1.length : Int)) ∧ (a.toNat < left1.length) ∧ (-9223372036854775808 ≤ ((left1.getD a.toNat 0) - ((flow.getD i.toNat []).getD a.toNat 0)) ∧ ((left1.getD a.toNat 0) - ((flow.getD i.toNat []).getD a.toNat 0)) ≤ 9223372036854775807) ∧ ((0 : Int) ≤ a) ∧ ((a : Int) < (left1.length : Int)) ∧ (a.toNat < left1.length) ∧ (-9223372036854775808 ≤ (a + 1) ∧ (a + 1) ≤ 9223372036854775807) ∧ (∃ left1' : List Int, ∃ need' : Int, ∃ a' : Int, (i_Field_isFlow_JJ1 Open Dist rooms needs set flow left i left1' need' a') ∧ (i_Field_isFlow_mJ1 Open Dist rooms needs set flow left i left1' need' a' < i_Field_isFlow_mJ1 Open Dist rooms needs set flow left i left1 need a) ∧ (rooms = rooms) ∧ (needs = needs) ∧ (left1.length = left1'.length) ∧ (((bagN set : Nat) : Int) = ((bagN set : Nat) : Int)) ∧ ((need - ((flow.getD i.toNat []).getD a.toNat 0)) = need') ∧ (flow = flow) ∧ ((flow.length : Int) = (flow.length : Int)) ∧ (i = i) ∧ ((flow.getD i.toNat []) = (flow.getD i.toNat [])) ∧ ((((flow.getD i.toNat []).length) : Int) = (((flow.getD i.toNat []).length) : Int)) ∧ ((a + 1) = a') ∧ ((left1.set a.toNat ((left1.getD a.toNat 0) - ((flow.getD i.toNat []).getD a.toNat 0))) = left1'))))) ∧ ((decide (a < (((flow.getD i.toNat []).length) : Int))) = false → (((need != 0) = true → ((false = (flowGood Open.length Dist.length rooms needs set flow)))) ∧ ((need != 0) = false → (-9223372036854775808 ≤ (i + 1) ∧ (i + 1) ≤ 9223372036854775807) ∧ (∃ left' : List Int, ∃ i' : Int, (i_Field_isFlow_JJ0 Open Dist rooms needs set flow left' i') ∧ (i_Field_isFlow_mJ0 Open Dist rooms needs set flow left' i' < i_Field_isFlow_mJ0 Open Dist rooms needs set flow left i) ∧ (rooms = rooms) ∧ (needs = needs) ∧ (left1.length = left'.length) ∧ (((bagN set : Nat) : Int) = ((bagN set : Nat) : Int)) ∧ (flow = flow) ∧ ((flow.length : Int) = (flow.length : Int)) ∧ ((i + 1) = i') ∧ (left1 = left'))))))))))) ∧ ((decide (i < (flow.length : Int))) = false → ((true = (flowGood Open.length Dist.length rooms needs set flow)))))))))
theorem i_Field_isFlow_vc (Open : List Int) (Dist : List (List Int)) (rooms : List Int) (needs : List Int) (set : List Int) (flow : List (List Int)) (hh : ((goodField Open Dist && rising set 0 ((Open.length : Int) - 1) && decide (0 < set.length)) && (rowOk rooms (Open.length : Int) 20 && rowOk needs (Dist.length : Int) 5)) = true) (w_Open : (Open.length : Int) ≤ 9223372036854775807) (w_Dist : (Dist.length : Int) ≤ 9223372036854775807) (v_Dist : ∀ x9 ∈ Dist, (x9.length : Int) ≤ 9223372036854775807) (w_rooms : (rooms.length : Int) ≤ 9223372036854775807) (w_needs : (needs.length : Int) ≤ 9223372036854775807) (w_set : (set.length : Int) ≤ 9223372036854775807) (w_flow : (flow.length : Int) ≤ 9223372036854775807) (v_flow : ∀ x9 ∈ flow, (x9.length : Int) ≤ 9223372036854775807) : i_Field_isFlow_P Open Dist rooms needs set flow := by
  unfold i_Field_isFlow_P
  obtain ⟨ht, hr, hn⟩ := haul_facts hh
  obtain ⟨hg, hs, hp⟩ := two_facts ht
  obtain ⟨g1, g2, g3⟩ := gf_open hg
  obtain ⟨rl, rb⟩ := rowOk_at hr
  obtain ⟨nl, nb⟩ := rowOk_at hn
  refine ⟨?_, ?_⟩
  · intro b1
    try simp only [nrmT] at b1
    refine flow_false fun h => ?_
    have := (flowGood_row h).1
    omega
  · intro b2
    try simp only [nrmT] at b2
    refine ⟨?_, ?_, ?_, ?_⟩
    · refine slices_Clone_int_int__pc rooms ?_
      · omega
    · refine i_bagOf_pc set ?_
      · intro x hx; have := rising_mem hs x hx; omega
    · refine ⟨rooms, 0, ?_⟩
      refine ⟨?_, rfl, rfl, rfl, rfl, rfl, rfl, rfl, rfl⟩
      · refine ⟨?_, ?_, ?_, ?_, ?_, ?_⟩
        · first | assumption | (simp only [bne_eq_false_iff_eq] at b2; omega) | omega
        · first | omega | rfl | (intro hg; simp only [nrmT] at hg; omega) | (intro g1 g2; simp [g1, g2]; done) | (intro g1; simp at g1 ⊢; simp [g1]; done) | (simp only [nrmT] at *; omega) | (simp at * <;> omega) | (simp_all <;> omega) | (simp_all; done)
        · first | omega | rfl | (intro hg; simp only [nrmT] at hg; omega) | (intro g1 g2; simp [g1, g2]; done) | (intro g1; simp at g1 ⊢; simp [g1]; done) | (simp only [nrmT] at *; omega) | (simp at * <;> omega) | (simp_all <;> omega) | (simp_all; done)
        · rw [show Open.length = rooms.length by omega]; exact (leftL_zero _ _).symm
        · intro k hk; simp at hk
        · intro a ha
          have := rb a (by omega)
          show (0 : Int) ≤ _
          omega
    · intro left i hJ
      obtain ⟨h0, h1, h2, h3, h4, h4c⟩ := hJ
      refine ⟨?_, ?_⟩
      · intro b3
        try simp only [nrmT] at b3
        refine ⟨?_, ?_, ?_, ?_, ?_⟩
        · first | omega | rfl | (intro hg; simp only [nrmT] at hg; omega) | (intro g1 g2; simp [g1, g2]; done) | (intro g1; simp at g1 ⊢; simp [g1]; done) | (simp only [nrmT] at *; omega) | (simp at * <;> omega) | (simp_all <;> omega) | (simp_all; done)
        · first | omega | rfl | (intro hg; simp only [nrmT] at hg; omega) | (intro g1 g2; simp [g1, g2]; done) | (intro g1; simp at g1 ⊢; simp [g1]; done) | (simp only [nrmT] at *; omega) | (simp at * <;> omega) | (simp_all <;> omega) | (simp_all; done)
        · first | omega | rfl | (intro hg; simp only [nrmT] at hg; omega) | (intro g1 g2; simp [g1, g2]; done) | (intro g1; simp at g1 ⊢; simp [g1]; done) | (simp only [nrmT] at *; omega) | (simp at * <;> omega) | (simp_all <;> omega) | (simp_all; done)
        · intro b4
          try simp only [nrmT] at b4
          refine flow_false fun h => ?_
          have := (rowGood_facts ((flowGood_row h).2.1 i.toNat (by omega))).1
          omega
        · intro b5
          try simp only [nrmT] at b5
          refine ⟨?_, ?_, ?_, ?_, ?_⟩
          · first | omega | rfl | (intro hg; simp only [nrmT] at hg; omega) | (intro g1 g2; simp [g1, g2]; done) | (intro g1; simp at g1 ⊢; simp [g1]; done) | (simp only [nrmT] at *; omega) | (simp at * <;> omega) | (simp_all <;> omega) | (simp_all; done)
          · first | omega | rfl | (intro hg; simp only [nrmT] at hg; omega) | (intro g1 g2; simp [g1, g2]; done) | (intro g1; simp at g1 ⊢; simp [g1]; done) | (simp only [nrmT] at *; omega) | (simp at * <;> omega) | (simp_all <;> omega) | (simp_all; done)
          · first | omega | rfl | (intro hg; simp only [nrmT] at hg; omega) | (intro g1 g2; simp [g1, g2]; done) | (intro g1; simp at g1 ⊢; simp [g1]; done) | (simp only [nrmT] at *; omega) | (simp at * <;> omega) | (simp_all <;> omega) | (simp_all; done)
          · refine ⟨left, (needs.getD i.toNat 0), 0, ?_⟩
            refine ⟨?_, rfl, rfl, rfl, rfl, rfl, rfl, rfl, rfl, rfl, rfl, rfl, rfl⟩
            · refine ⟨?_, ?_, ?_, ?_, ?_, ?_, ?_, ?_⟩
              · first | omega | rfl | (intro hg; simp only [nrmT] at hg; omega) | (intro g1 g2; simp [g1, g2]; done) | (intro g1; simp at g1 ⊢; simp [g1]; done) | (simp only [nrmT] at *; omega) | (simp at * <;> omega) | (simp_all <;> omega) | (simp_all; done)
              · first | omega | rfl | (intro hg; simp only [nrmT] at hg; omega) | (intro g1 g2; simp [g1, g2]; done) | (intro g1; simp at g1 ⊢; simp [g1]; done) | (simp only [nrmT] at *; omega) | (simp at * <;> omega) | (simp_all <;> omega) | (simp_all; done)
              · exact h3
              · show _ = _ - (0 : Int); omega
              · exact ⟨(nb _ (by omega)).1, Int.le_refl _⟩
              · omega
              · rfl
              · intro c hc
                rw [if_neg (by omega)]
                exact h4c c hc
          · intro left1 need a hJ
            obtain ⟨h5, h6, h7, h9, h10, h11, h12, h13⟩ := hJ
            refine ⟨?_, ?_⟩
            · intro b6
              try simp only [nrmT] at b6
              refine ⟨?_, ?_, ?_, ?_, ?_, ?_, i_between_pc ((flow.getD i.toNat []).getD a.toNat 0) 0 (min need (left1.getD a.toNat 0)), id, id, id, id, ?_, id, id, ?_, fun _ _ => rfl, rfl, fun _ => rfl, ?_, ?_, ?_⟩
              · first | omega | rfl | (intro hg; simp only [nrmT] at hg; omega) | (intro g1 g2; simp [g1, g2]; done) | (intro g1; simp at g1 ⊢; simp [g1]; done) | (simp only [nrmT] at *; omega) | (simp at * <;> omega) | (simp_all <;> omega) | (simp_all; done)
              · first | omega | rfl | (intro hg; simp only [nrmT] at hg; omega) | (intro g1 g2; simp [g1, g2]; done) | (intro g1; simp at g1 ⊢; simp [g1]; done) | (simp only [nrmT] at *; omega) | (simp at * <;> omega) | (simp_all <;> omega) | (simp_all; done)
              · first | omega | rfl | (intro hg; simp only [nrmT] at hg; omega) | (intro g1 g2; simp [g1, g2]; done) | (intro g1; simp at g1 ⊢; simp [g1]; done) | (simp only [nrmT] at *; omega) | (simp at * <;> omega) | (simp_all <;> omega) | (simp_all; done)
              · first | omega | rfl | (intro hg; simp only [nrmT] at hg; omega) | (intro g1 g2; simp [g1, g2]; done) | (intro g1; simp at g1 ⊢; simp [g1]; done) | (simp only [nrmT] at *; omega) | (simp at * <;> omega) | (simp_all <;> omega) | (simp_all; done)
              · rw [h7, leftL_len]; omega
              · rw [h7, leftL_len]; omega
              · intro hg
                refine i_bag_has_pc ((bagN set : Nat) : Int) a ?_ ?_
                · have hbl := bagN_lt (m := 62) (list := set) fun x hx => by have := rising_mem hs x hx; omega
                  have he : (2 : Nat) ^ 62 = 4611686018427387904 := by decide
                  omega
                · first | omega | rfl | (intro hg; simp only [nrmT] at hg; omega) | (intro g1 g2; simp [g1, g2]; done) | (intro g1; simp at g1 ⊢; simp [g1]; done) | (simp only [nrmT] at *; omega) | (simp at * <;> omega) | (simp_all <;> omega) | (simp_all; done)
              · intro g1 g2; rw [g1, g2]; rfl
              · intro h; rw [h]; rfl
              · intro b7
                refine flow_false fun h => ?_
                have hll := leftL_get (n := Open.length) (rooms := rooms) (flow := flow) (j := i.toNat) (c := a.toNat) (a := a.toNat) (by omega)
                rw [← h7] at hll
                unfold leftAt at hll
                rw [if_neg (by omega)] at hll
                rw [open_bit hs h5] at b7
                obtain ⟨p1, p2, p3, p4⟩ := flowGood_part h (j := i.toNat) (a := a.toNat) (by omega) (by omega)
                rw [sumTo_succ] at p2
                rw [colTo_succ] at p3
                rw [show ((a.toNat : Nat) : Int) = a by omega] at p4
                have e1 : inB ((flow.getD i.toNat []).getD a.toNat 0) 0 (min need (left1.getD a.toNat 0)) = true := decide_eq_true (by omega)
                rw [e1] at b7
                by_cases hp : (flow.getD i.toNat []).getD a.toNat 0 > 0
                · rw [p4 hp] at b7; simp at b7
                · rw [decide_eq_false hp] at b7; simp at b7
              · intro b8
                refine ⟨?_, ?_, ?_, ?_, ?_, ?_, ?_, ?_, ?_, ?_⟩
                · rw [open_bit hs h5] at b8
                  have hq : (inB ((flow.getD i.toNat []).getD a.toNat 0) 0 (min need (left1.getD a.toNat 0)) = true) ∧ (0 < (flow.getD i.toNat []).getD a.toNat 0 → set.contains a = true) := by
                    revert b8; cases inB ((flow.getD i.toNat []).getD a.toNat 0) 0 (min need (left1.getD a.toNat 0)) <;> by_cases hp : (flow.getD i.toNat []).getD a.toNat 0 > 0 <;> cases set.contains a <;> simp [hp] <;> omega
                  have hq1 := inB_le hq.1
                  have := nb i.toNat (by omega)
                  omega
                · first | omega | rfl | (intro hg; simp only [nrmT] at hg; omega) | (intro g1 g2; simp [g1, g2]; done) | (intro g1; simp at g1 ⊢; simp [g1]; done) | (simp only [nrmT] at *; omega) | (simp at * <;> omega) | (simp_all <;> omega) | (simp_all; done)
                · rw [h7, leftL_len]; omega
                · rw [h7, leftL_len]; omega
                · have hll := leftL_get (n := Open.length) (rooms := rooms) (flow := flow) (j := i.toNat) (c := a.toNat) (a := a.toNat) (by omega)
                  rw [← h7] at hll
                  unfold leftAt at hll
                  rw [if_neg (by omega)] at hll
                  rw [open_bit hs h5] at b8
                  have hq : (inB ((flow.getD i.toNat []).getD a.toNat 0) 0 (min need (left1.getD a.toNat 0)) = true) ∧ (0 < (flow.getD i.toNat []).getD a.toNat 0 → set.contains a = true) := by
                    revert b8; cases inB ((flow.getD i.toNat []).getD a.toNat 0) 0 (min need (left1.getD a.toNat 0)) <;> by_cases hp : (flow.getD i.toNat []).getD a.toNat 0 > 0 <;> cases set.contains a <;> simp [hp] <;> omega
                  have hq1 := inB_le hq.1
                  have := colTo_bound (m := i.toNat) h4 (fun k hk => (nb k (by omega)).2) (a := a.toNat) (by omega) i.toNat (Nat.le_refl _)
                  have := rb a.toNat (by omega)
                  have := nb i.toNat (by omega)
                  omega
                · first | omega | rfl | (intro hg; simp only [nrmT] at hg; omega) | (intro g1 g2; simp [g1, g2]; done) | (intro g1; simp at g1 ⊢; simp [g1]; done) | (simp only [nrmT] at *; omega) | (simp at * <;> omega) | (simp_all <;> omega) | (simp_all; done)
                · rw [h7, leftL_len]; omega
                · rw [h7, leftL_len]; omega
                · first | omega | rfl | (intro hg; simp only [nrmT] at hg; omega) | (intro g1 g2; simp [g1, g2]; done) | (intro g1; simp at g1 ⊢; simp [g1]; done) | (simp only [nrmT] at *; omega) | (simp at * <;> omega) | (simp_all <;> omega) | (simp_all; done)
                · refine ⟨(left1.set a.toNat ((left1.getD a.toNat 0) - ((flow.getD i.toNat []).getD a.toNat 0))), (need - ((flow.getD i.toNat []).getD a.toNat 0)), (a + 1), ?_⟩
                  refine ⟨?_, ?_, rfl, rfl, ?_, rfl, rfl, rfl, rfl, rfl, rfl, rfl, rfl, rfl⟩
                  · refine ⟨?_, ?_, ?_, ?_, ?_, ?_, ?_, ?_⟩
                    · first | omega | rfl | (intro hg; simp only [nrmT] at hg; omega) | (intro g1 g2; simp [g1, g2]; done) | (intro g1; simp at g1 ⊢; simp [g1]; done) | (simp only [nrmT] at *; omega) | (simp at * <;> omega) | (simp_all <;> omega) | (simp_all; done)
                    · first | omega | rfl | (intro hg; simp only [nrmT] at hg; omega) | (intro g1 g2; simp [g1, g2]; done) | (intro g1; simp at g1 ⊢; simp [g1]; done) | (simp only [nrmT] at *; omega) | (simp at * <;> omega) | (simp_all <;> omega) | (simp_all; done)
                    · have hll := leftL_get (n := Open.length) (rooms := rooms) (flow := flow) (j := i.toNat) (c := a.toNat) (a := a.toNat) (by omega)
                      rw [← h7] at hll
                      unfold leftAt at hll
                      rw [if_neg (by omega)] at hll
                      rw [hll, h7, show (a + 1).toNat = a.toNat + 1 by omega]
                      exact leftL_set (by omega)
                    · rw [show (a + 1).toNat = a.toNat + 1 by omega, sumTo_succ]; omega
                    · rw [open_bit hs h5] at b8
                      have hq : (inB ((flow.getD i.toNat []).getD a.toNat 0) 0 (min need (left1.getD a.toNat 0)) = true) ∧ (0 < (flow.getD i.toNat []).getD a.toNat 0 → set.contains a = true) := by
                        revert b8; cases inB ((flow.getD i.toNat []).getD a.toNat 0) 0 (min need (left1.getD a.toNat 0)) <;> by_cases hp : (flow.getD i.toNat []).getD a.toNat 0 > 0 <;> cases set.contains a <;> simp [hp] <;> omega
                      have hq1 := inB_le hq.1
                      omega
                    · omega
                    · rw [open_bit hs h5] at b8
                      have hq : (inB ((flow.getD i.toNat []).getD a.toNat 0) 0 (min need (left1.getD a.toNat 0)) = true) ∧ (0 < (flow.getD i.toNat []).getD a.toNat 0 → set.contains a = true) := by
                        revert b8; cases inB ((flow.getD i.toNat []).getD a.toNat 0) 0 (min need (left1.getD a.toNat 0)) <;> by_cases hp : (flow.getD i.toNat []).getD a.toNat 0 > 0 <;> cases set.contains a <;> simp [hp] <;> omega
                      have hq1 := inB_le hq.1
                      refine allTo_step h5 h12 ?_
                      unfold rowAt
                      rw [show ((a.toNat : Nat) : Int) = a by omega]
                      have hsb := sumTo_mono (f := fun a => (flow.getD i.toNat []).getD a 0) a.toNat 0 (by omega) fun c hc => by
                        have h13 := allTo_iff.1 h12 c hc
                        unfold rowAt at h13
                        rw [Bool.and_eq_true] at h13
                        exact (inB_le h13.1).1
                      have e0 : sumTo (fun a => (flow.getD i.toNat []).getD a 0) 0 = 0 := rfl
                      rw [show inB ((flow.getD i.toNat []).getD a.toNat 0) 0 (needs.getD i.toNat 0) = true from decide_eq_true (by omega), Bool.true_and]
                      by_cases hp : (flow.getD i.toNat []).getD a.toNat 0 > 0
                      · rw [hq.2 hp]; simp
                      · rw [decide_eq_false hp]; simp
                    · have hll := leftL_get (n := Open.length) (rooms := rooms) (flow := flow) (j := i.toNat) (c := a.toNat) (a := a.toNat) (by omega)
                      rw [← h7] at hll
                      unfold leftAt at hll
                      rw [if_neg (by omega)] at hll
                      rw [open_bit hs h5] at b8
                      have hq : (inB ((flow.getD i.toNat []).getD a.toNat 0) 0 (min need (left1.getD a.toNat 0)) = true) ∧ (0 < (flow.getD i.toNat []).getD a.toNat 0 → set.contains a = true) := by
                        revert b8; cases inB ((flow.getD i.toNat []).getD a.toNat 0) 0 (min need (left1.getD a.toNat 0)) <;> by_cases hp : (flow.getD i.toNat []).getD a.toNat 0 > 0 <;> cases set.contains a <;> simp [hp] <;> omega
                      have hq1 := inB_le hq.1
                      intro c hc
                      by_cases e : c = a.toNat
                      · subst e
                        rw [if_pos (by omega), colTo_succ]
                        omega
                      · have h14 := h13 c hc
                        by_cases e2 : c < a.toNat
                        · rw [if_pos e2] at h14; rw [if_pos (by omega)]; exact h14
                        · rw [if_neg e2] at h14; rw [if_neg (by omega)]; exact h14
                  · first | (show _ < _; omega) | (simp only [i_Field_isFlow_mJ1]; omega) | (simp only [i_Field_isFlow_mJ1] at *; simp at *; omega)
                  · first | omega | rfl | (intro hg; simp only [nrmT] at hg; omega) | (intro g1 g2; simp [g1, g2]; done) | (intro g1; simp at g1 ⊢; simp [g1]; done) | (simp only [nrmT] at *; omega) | (simp at * <;> omega) | (simp_all <;> omega) | (simp_all; done)
            · intro b9
              try simp only [nrmT] at b9
              refine ⟨?_, ?_⟩
              · intro b10
                try simp only [nrmT] at b10
                refine flow_false fun h => ?_
                have h10 := (rowGood_facts ((flowGood_row h).2.1 i.toNat (by omega))).2.2
                rw [show a.toNat = Open.length by omega] at h9
                omega
              · intro b11
                try simp only [nrmT] at b11
                refine ⟨?_, ?_⟩
                · first | omega | rfl | (intro hg; simp only [nrmT] at hg; omega) | (intro g1 g2; simp [g1, g2]; done) | (intro g1; simp at g1 ⊢; simp [g1]; done) | (simp only [nrmT] at *; omega) | (simp at * <;> omega) | (simp_all <;> omega) | (simp_all; done)
                · refine ⟨left1, (i + 1), ?_⟩
                  refine ⟨?_, ?_, rfl, rfl, rfl, rfl, rfl, rfl, rfl, rfl⟩
                  · refine ⟨?_, ?_, ?_, ?_, ?_, ?_⟩
                    · first | assumption | (simp only [bne_eq_false_iff_eq] at b11; omega) | omega
                    · first | omega | rfl | (intro hg; simp only [nrmT] at hg; omega) | (intro g1 g2; simp [g1, g2]; done) | (intro g1; simp at g1 ⊢; simp [g1]; done) | (simp only [nrmT] at *; omega) | (simp at * <;> omega) | (simp_all <;> omega) | (simp_all; done)
                    · first | omega | rfl | (intro hg; simp only [nrmT] at hg; omega) | (intro g1 g2; simp [g1, g2]; done) | (intro g1; simp at g1 ⊢; simp [g1]; done) | (simp only [nrmT] at *; omega) | (simp at * <;> omega) | (simp_all <;> omega) | (simp_all; done)
                    · rw [h7, show a.toNat = Open.length by omega, show (i + 1).toNat = i.toNat + 1 by omega]; exact leftL_next _ _ _ _
                    · intro k hk
                      by_cases e : k = i.toNat
                      · rw [e]
                        rw [show a.toNat = Open.length by omega] at h9 h12
                        exact row_true h11 h12 (by omega)
                      · exact h4 k (by omega)
                    · intro c hc
                      have h14 := h13 c hc
                      rw [if_pos (by omega)] at h14
                      rw [show (i + 1).toNat = i.toNat + 1 by omega]; exact h14
                  · first | (show _ < _; omega) | (simp only [i_Field_isFlow_mJ0]; omega) | (simp only [i_Field_isFlow_mJ0] at *; simp at *; omega)
      · intro b12
        try simp only [nrmT] at b12
        rw [show i.toNat = Dist.length by omega] at h4 h4c
        exact (flow_true h0 h4 h4c).symm
theorem i_Field_isFlow_pc (Open : List Int) (Dist : List (List Int)) (rooms : List Int) (needs : List Int) (set : List Int) (flow : List (List Int)) (hh : ((goodField Open Dist && rising set 0 ((Open.length : Int) - 1) && decide (0 < set.length)) && (rowOk rooms (Open.length : Int) 20 && rowOk needs (Dist.length : Int) 5)) = true) : PC Try.prog 136 [.agg [.sl (.ints Open), .sl (.rows Dist)], .sl (.ints rooms), .sl (.ints needs), .sl (.ints set), .sl (.rows flow)] (.one (.d (.bool (flowGood Open.length Dist.length rooms needs set flow)))) :=
  pc_wf @Try.call136 fun hw => pc_by (by kernel_rfl) Try.func136 @Try.call136 (by kernel_rfl) i_Field_isFlow_C (i_Field_isFlow_A Open Dist rooms needs set flow) (by kernel_rfl) (i_Field_isFlow_vc Open Dist rooms needs set flow hh hw.1.1 hw.1.2.1.1 hw.1.2.1.2 hw.2.1 hw.2.2.1 hw.2.2.2.1 hw.2.2.2.2.1.1 hw.2.2.2.2.1.2) (by kernel_rfl)
def i_Field_isFlow_orc : List D → Orc := orcN [none, some .ints, some .ints, some .ints, some .rows] fun ds => match ds with
  | [.agg [.sl (.ints Open), .sl (.rows Dist)], .sl (.ints rooms), .sl (.ints needs), .sl (.ints set), .sl (.rows flow)] => some (.one (.d (.bool (flowGood Open.length Dist.length rooms needs set flow))))
  | _ => none
def i_IsFlow_C (f : FuncId) (ds : List D) : Orc := bif Nat.beq f 132 then i_isHaul_orc ds else bif Nat.beq f 136 then i_Field_isFlow_orc ds else .no
def i_IsFlow_A (Open : List Int) (Dist : List (List Int)) (rooms : List Int) (needs : List Int) (set : List Int) (flow : List (List Int)) : Ann := .none
def i_IsFlow_P (Open : List Int) (Dist : List (List Int)) (rooms : List Int) (needs : List Int) (set : List Int) (flow : List (List Int)) : Prop :=
  (PC Try.prog 132 [.agg [.sl (.ints Open), .sl (.rows Dist)], .sl (.ints rooms), .sl (.ints needs), .sl (.ints set)] (.one (.d (.bool ((goodField Open Dist && rising set 0 ((Open.length : Int) - 1) && decide (0 < set.length)) && (rowOk rooms (Open.length : Int) 20 && rowOk needs (Dist.length : Int) 5)))))) ∧ (((!((goodField Open Dist && rising set 0 ((Open.length : Int) - 1) && decide (0 < set.length)) && (rowOk rooms (Open.length : Int) 20 && rowOk needs (Dist.length : Int) 5))) = true → ((false = (((goodField Open Dist && rising set 0 ((Open.length : Int) - 1) && decide (0 < set.length)) && (rowOk rooms (Open.length : Int) 20 && rowOk needs (Dist.length : Int) 5)) && flowGood Open.length Dist.length rooms needs set flow)) ∧ (false = ((goodField Open Dist && rising set 0 ((Open.length : Int) - 1) && decide (0 < set.length)) && (rowOk rooms (Open.length : Int) 20 && rowOk needs (Dist.length : Int) 5))))) ∧ ((!((goodField Open Dist && rising set 0 ((Open.length : Int) - 1) && decide (0 < set.length)) && (rowOk rooms (Open.length : Int) 20 && rowOk needs (Dist.length : Int) 5))) = false → (PC Try.prog 136 [.agg [.sl (.ints Open), .sl (.rows Dist)], .sl (.ints rooms), .sl (.ints needs), .sl (.ints set), .sl (.rows flow)] (.one (.d (.bool (flowGood Open.length Dist.length rooms needs set flow))))) ∧ (((flowGood Open.length Dist.length rooms needs set flow) = (((goodField Open Dist && rising set 0 ((Open.length : Int) - 1) && decide (0 < set.length)) && (rowOk rooms (Open.length : Int) 20 && rowOk needs (Dist.length : Int) 5)) && flowGood Open.length Dist.length rooms needs set flow)) ∧ (true = ((goodField Open Dist && rising set 0 ((Open.length : Int) - 1) && decide (0 < set.length)) && (rowOk rooms (Open.length : Int) 20 && rowOk needs (Dist.length : Int) 5))))))
theorem i_IsFlow_vc (Open : List Int) (Dist : List (List Int)) (rooms : List Int) (needs : List Int) (set : List Int) (flow : List (List Int))  (w_Open : (Open.length : Int) ≤ 9223372036854775807) (w_Dist : (Dist.length : Int) ≤ 9223372036854775807) (v_Dist : ∀ x9 ∈ Dist, (x9.length : Int) ≤ 9223372036854775807) (w_rooms : (rooms.length : Int) ≤ 9223372036854775807) (w_needs : (needs.length : Int) ≤ 9223372036854775807) (w_set : (set.length : Int) ≤ 9223372036854775807) (w_flow : (flow.length : Int) ≤ 9223372036854775807) (v_flow : ∀ x9 ∈ flow, (x9.length : Int) ≤ 9223372036854775807) : i_IsFlow_P Open Dist rooms needs set flow := by
  unfold i_IsFlow_P
  refine ⟨i_isHaul_pc Open Dist rooms needs set, ?_, ?_⟩
  · intro b1
    try simp only [Bool.not_eq_true', Bool.not_eq_false', Bool.not_not] at b1
    refine ⟨?_, ?_⟩
    · rw [b1]; rfl
    · exact b1.symm
  · intro b2
    try simp only [Bool.not_eq_true', Bool.not_eq_false', Bool.not_not] at b2
    refine ⟨?_, ?_, ?_⟩
    · refine i_Field_isFlow_pc Open Dist rooms needs set flow ?_
      · exact b2
    · rw [b2]; rfl
    · exact b2.symm
theorem i_IsFlow_pc (Open : List Int) (Dist : List (List Int)) (rooms : List Int) (needs : List Int) (set : List Int) (flow : List (List Int))  : PC Try.prog 68 [.agg [.sl (.ints Open), .sl (.rows Dist)], .sl (.ints rooms), .sl (.ints needs), .sl (.ints set), .sl (.rows flow)] (.tup [.d (.bool (((goodField Open Dist && rising set 0 ((Open.length : Int) - 1) && decide (0 < set.length)) && (rowOk rooms (Open.length : Int) 20 && rowOk needs (Dist.length : Int) 5)) && flowGood Open.length Dist.length rooms needs set flow)), .d (.bool ((goodField Open Dist && rising set 0 ((Open.length : Int) - 1) && decide (0 < set.length)) && (rowOk rooms (Open.length : Int) 20 && rowOk needs (Dist.length : Int) 5)))]) :=
  pc_wf @Try.call68 fun hw => pc_by (by kernel_rfl) Try.func68 @Try.call68 (by kernel_rfl) i_IsFlow_C (i_IsFlow_A Open Dist rooms needs set flow) (by kernel_rfl) (i_IsFlow_vc Open Dist rooms needs set flow hw.1.1 hw.1.2.1.1 hw.1.2.1.2 hw.2.1 hw.2.2.1 hw.2.2.2.1 hw.2.2.2.2.1.1 hw.2.2.2.2.1.2) (by kernel_rfl)
def i_IsFlow_orc : List D → Orc := orcN [none, some .ints, some .ints, some .ints, some .rows] fun ds => match ds with
  | [.agg [.sl (.ints Open), .sl (.rows Dist)], .sl (.ints rooms), .sl (.ints needs), .sl (.ints set), .sl (.rows flow)] => some (.tup [.d (.bool (((goodField Open Dist && rising set 0 ((Open.length : Int) - 1) && decide (0 < set.length)) && (rowOk rooms (Open.length : Int) 20 && rowOk needs (Dist.length : Int) 5)) && flowGood Open.length Dist.length rooms needs set flow)), .d (.bool ((goodField Open Dist && rising set 0 ((Open.length : Int) - 1) && decide (0 < set.length)) && (rowOk rooms (Open.length : Int) 20 && rowOk needs (Dist.length : Int) 5)))])
  | _ => none
theorem szField_le {o : List Int} {d : List (List Int)} {left : Int} (h : 0 ≤ szField o d left) : szField o d left ≤ left := by
  unfold szField at h ⊢
  by_cases h1 : sz1 o.length left < 0
  · rw [if_pos h1] at h; omega
  · rw [if_neg h1] at h ⊢
    obtain ⟨a1, a2⟩ := sz1_bound (by omega : 0 ≤ sz1 o.length left)
    by_cases h2 : szRows d (sz1 o.length left) < 0
    · rw [if_pos h2] at h; omega
    · rw [if_neg h2] at h ⊢
      obtain ⟨b1, b2, b3⟩ := szRows_bound (by omega : 0 ≤ szRows d (sz1 o.length left))
      omega
def l_FnExactIsFlow_C (f : FuncId) (ds : List D) : Orc := bif Nat.beq f 40 then l_szField_orc ds else bif Nat.beq f 65 then l_szIntSS_orc ds else bif Nat.beq f 42 then l_toField_orc ds else bif Nat.beq f 38 then l_toIntS_orc ds else bif Nat.beq f 67 then l_toIntSS_orc ds else bif Nat.beq f 66 then s_IsFlow_orc ds else bif Nat.beq f 68 then i_IsFlow_orc ds else bif Nat.beq f 44 then l_eqField_orc ds else bif Nat.beq f 32 then l_eqIntS_orc ds else bif Nat.beq f 69 then l_eqIntSS_orc ds else .no
def l_FnExactIsFlow_A (Open : List Int) (Dist : List (List Int)) (rooms : List Int) (needs : List Int) (set : List Int) (flow : List (List Int)) : Ann := .two (.none) (.two (.none) (.two (.none) (.two (.none) (.two (.none) (.two (.none) (.two (.none) (.two (.none) (.two (.none) (.two (.reg [(1, .g), (3, .g), (5, .g), (7, .g), (9, .g)]) (.two (.reg [(1, .g)]) (.two (.reg [(1, .g)]) (.two (.reg [(1, .g)]) (.two (.reg [(1, .g)]) (.two (.reg [(1, .g)]) (.two (.none) (.two (.none) (.two (.two (.reg [(2, .g)]) (.none)) (.two (.two (.reg [(2, .g)]) (.none)) (.two (.two (.reg [(2, .g)]) (.none)) (.two (.two (.reg [(2, .g)]) (.none)) (.two (.two (.reg [(2, .g)]) (.none)) (.none))))))))))))))))))))))
end Go.Proofs.Ytijdbfbeobflnaa
